/- package format: Check, Range, Width, large. -/
import Derived.Test.YtgkojhhodncpbaaDoorW7
import Derived.StillTailTactics
import Derived.Deep.DrawnRows
set_option linter.unusedVariables false
set_option linter.unusedSimpArgs false
namespace Go.Proofs.YtgkojhhodncpbaaDoor
open Go.RowKit

/-- A right format. -/
def Rgt (k p : Int) : Prop := 2 ≤ k ∧ k ≤ 15 ∧ 2 ≤ p ∧ p ≤ 256
instance (k p : Int) : Decidable (Rgt k p) := by unfold Rgt; infer_instance
def fmtE (k p : Int) : Int := if Rgt k p then 0 else 150
theorem fmtE_yes {k p : Int} (h : Rgt k p) : fmtE k p = 0 := if_pos h
theorem fmtE_no {k p : Int} (h : ¬ Rgt k p) : fmtE k p = 150 := if_neg h
theorem Rgt.no_cases {k p : Int} (h : ¬ Rgt k p) : k < 2 ∨ (2 ≤ k ∧ 15 < k) ∨ (2 ≤ k ∧ k ≤ 15 ∧ p < 2) ∨ (2 ≤ k ∧ k ≤ 15 ∧ 2 ≤ p ∧ 256 < p) := by unfold Rgt at h; omega
set_option maxHeartbeats 1000000 in
theorem check_c (k p : Int) (w : World) : Calls Tryd.prog 16 #[.agg #[.int .i64 k, .int .i64 p]] w fun e w' => e = .returned (.int .i64 (fmtE k p)) ∧ Ext w w' := by
  by_cases h : Rgt k p
  · have HV := Lib.hid (fmtE_yes h)
    obtain ⟨h1, h2, h3, h4⟩ := h
    have b1 : decide (k < 2) = false := by simp; omega
    have b2 : decide (15 < k) = false := by simp; omega
    have b3 : decide (p < 2) = false := by simp; omega
    have b4 : decide (256 < p) = false := by simp; omega
    clear h1 h2 h3 h4
    go_enter Tryd.func16, Tryd.ntmps16
    go_wp2
    go_ret
    exact ⟨by rw [HV.out]; rfl, (Ext.refl w).al _⟩
  · have HV := Lib.hid (fmtE_no h)
    rcases Rgt.no_cases h with h1 | ⟨h1, h2⟩ | ⟨h1, h2, h3⟩ | ⟨h1, h2, h3, h4⟩
    · have b1 : decide (k < 2) = true := by simp; omega
      clear h h1
      go_enter Tryd.func16, Tryd.ntmps16
      go_wp2
      go_ret
      exact ⟨by rw [HV.out]; rfl, (Ext.refl w).al _⟩
    · have b1 : decide (k < 2) = false := by simp; omega
      have b2 : decide (15 < k) = true := by simp; omega
      clear h h1 h2
      go_enter Tryd.func16, Tryd.ntmps16
      go_wp2
      go_ret
      exact ⟨by rw [HV.out]; rfl, (Ext.refl w).al _⟩
    · have b1 : decide (k < 2) = false := by simp; omega
      have b2 : decide (15 < k) = false := by simp; omega
      have b3 : decide (p < 2) = true := by simp; omega
      clear h h1 h2 h3
      go_enter Tryd.func16, Tryd.ntmps16
      go_wp2
      go_ret
      exact ⟨by rw [HV.out]; rfl, (Ext.refl w).al _⟩
    · have b1 : decide (k < 2) = false := by simp; omega
      have b2 : decide (15 < k) = false := by simp; omega
      have b3 : decide (p < 2) = false := by simp; omega
      have b4 : decide (256 < p) = true := by simp; omega
      clear h h1 h2 h3 h4
      go_enter Tryd.func16, Tryd.ntmps16
      go_wp2
      go_ret
      exact ⟨by rw [HV.out]; rfl, (Ext.refl w).al _⟩
/-- The exponents of a right format. -/
def gr (k : Int) : Int := 2 ^ (k.toNat - 1) - 1
def le (k : Int) : Int := 1 - gr k
def ti (k p : Int) : Int := le k - (p - 1)
theorem gr_bd {k : Int} (h1 : 2 ≤ k) (h2 : k ≤ 15) : 1 ≤ gr k ∧ gr k ≤ 16383 := by
  unfold gr
  have h : k.toNat - 1 = 1 ∨ k.toNat - 1 = 2 ∨ k.toNat - 1 = 3 ∨ k.toNat - 1 = 4 ∨ k.toNat - 1 = 5 ∨ k.toNat - 1 = 6 ∨ k.toNat - 1 = 7 ∨ k.toNat - 1 = 8 ∨ k.toNat - 1 = 9 ∨ k.toNat - 1 = 10 ∨ k.toNat - 1 = 11 ∨ k.toNat - 1 = 12 ∨ k.toNat - 1 = 13 ∨ k.toNat - 1 = 14 := by omega
  rcases h with h | h | h | h | h | h | h | h | h | h | h | h | h | h <;> rw [h] <;> decide
set_option maxHeartbeats 1000000 in
theorem range_no (k p : Int) (w : World) (h : ¬ Rgt k p) : Calls Tryd.prog 13 #[.agg #[.int .i64 k, .int .i64 p]] w fun e w' =>
    e = .returned (.tuple #[.int .i64 0, .int .i64 0, .int .i64 0, .int .i64 150]) ∧ Ext w w' := by
  have hc := fun w => check_c k p w
  rw [fmtE_no h] at hc
  clear h
  go_enter Tryd.func13, Tryd.ntmps13
  go_wp2_with (go_at_call 16; refine (hc _).mono ?_; rintro e w1 ⟨rfl, hb⟩)
  refine bodyPost_ret (v := .tuple #[.int .i64 0, .int .i64 0, .int .i64 0, .int .i64 150]) (by simp [results, Tryd.results13, go_sem]) rfl ⟨rfl, ((Ext.refl w).al _).tr hb⟩
set_option maxHeartbeats 1000000 in
theorem range_yes (k p : Int) (w : World) (h : Rgt k p) : Calls Tryd.prog 13 #[.agg #[.int .i64 k, .int .i64 p]] w fun e w' =>
    e = .returned (.tuple #[.int .i64 (le k), .int .i64 (gr k), .int .i64 (ti k p), .int .i64 0]) ∧ Ext w w' := by
  have hc := fun w => check_c k p w
  rw [fmtE_yes h] at hc
  obtain ⟨h1, h2, h3, h4⟩ := h
  have hg := gr_bd h1 h2
  obtain ⟨n, rfl⟩ := Int.eq_ofNat_of_zero_le (show 0 ≤ k by omega)
  obtain ⟨g, hgd⟩ : ∃ g, gr (n : Int) = g := ⟨_, rfl⟩
  have hsh : (2 : Int) ^ (n - 1) = g + 1 := by rw [← hgd]; unfold gr; rw [Int.toNat_natCast]; omega
  have HT := Lib.hid (show ti (n : Int) p = 1 - g - (p - 1) by unfold ti le; rw [hgd])
  have HL := Lib.hid (show le (n : Int) = 1 - g by unfold le; rw [hgd])
  rw [hgd] at hg
  have HG := Lib.hid hgd
  obtain ⟨hg1, hg2⟩ := hg
  clear hgd
  go_enter Tryd.func13, Tryd.ntmps13
  go_wp2_with (go_at_call 16; refine (hc _).mono ?_; rintro e w1 ⟨rfl, hb⟩; obtain ⟨hc1, hf1⟩ := hb.rules)
  go_quiet (fail)
  go_wp2
  refine bodyPost_ret (v := .tuple #[.int .i64 (1 - g), .int .i64 g, .int .i64 (1 - g - (p - 1)), .int .i64 0]) (by simp [results, Tryd.results13, go_sem]) rfl ⟨by rw [HT.out, HL.out, HG.out], (((Ext.refl w).al _).tr hb).drewN _⟩
set_option maxHeartbeats 1000000 in
theorem width_c (k p : Int) (w : World) : Calls Tryd.prog 14 #[.agg #[.int .i64 k, .int .i64 p]] w fun e w' =>
    e = .returned (.tuple #[.int .i64 (if Rgt k p then k + p else 0), .int .i64 (fmtE k p)]) ∧ Ext w w' := by
  have hc := fun w => check_c k p w
  by_cases h : Rgt k p
  · rw [fmtE_yes h] at hc ⊢
    rw [if_pos h]
    obtain ⟨h1, h2, h3, h4⟩ := h
    go_enter Tryd.func14, Tryd.ntmps14
    go_wp2_with (go_at_call 16; refine (hc _).mono ?_; rintro e w1 ⟨rfl, hb⟩; obtain ⟨hc1, hf1⟩ := hb.rules)
    go_ret2
    exact ⟨rfl, ((Ext.refl w).al _).tr hb⟩
  · rw [fmtE_no h] at hc ⊢
    rw [if_neg h]
    clear h
    go_enter Tryd.func14, Tryd.ntmps14
    go_wp2_with (go_at_call 16; refine (hc _).mono ?_; rintro e w1 ⟨rfl, hb⟩)
    go_ret2
    exact ⟨rfl, ((Ext.refl w).al _).tr hb⟩
/-- A float as the program has it. -/
abbrev flV (k : Int) (neg : Bool) (e : Int) (v : Value) : Value := .agg #[.int .i64 k, .bool neg, .int .i64 e, v]
set_option maxHeartbeats 1000000 in
theorem large_c (k e : Int) (neg : Bool) (A : Option Addr) (n c : Nat) (w : World) : Calls Tryd.prog 77 #[flV k neg e (.slice A n c)] w fun e w' => e = .returned (.bool (decide (4096 < n))) ∧ Ext w w' := by
  go_enter Tryd.func77, Tryd.ntmps77
  go_wp2
  go_ret
  exact ⟨congrArg (fun b => Ending.returned (.bool b)) (by rw [decide_eq_decide]; omega), (Ext.refl w).al _⟩
end Go.Proofs.YtgkojhhodncpbaaDoor
