/- NttResidues: the walk (printed by gen_nres.py). -/
import Derived.Test.YthbnkhgcfcigjaaJI
set_option linter.unusedVariables false
set_option linter.unusedSimpArgs false
namespace Go.Proofs.Ythbnkhgcfcigjaa
open Go.RowKit

/-- Two words and an error. -/
def VE (w : World) (x : Int) (er : Int) (e : Ending) (w' : World) : Prop := e = .returned (.tuple #[.int .u64 x, .int .i64 er]) ∧ Ext w w'
theorem opR.yes {w : World} {v : Nat} {e : Ending} {w' : World} (h : opR w true v e w') : VE w (v : Int) 0 e w' := h
theorem opR.no {w : World} {v : Nat} {e : Ending} {w' : World} (h : opR w false v e w') : VE w 0 1 e w' := h
set_option maxHeartbeats 8000000 in
set_option maxRecDepth 100000 in
theorem nttResidues_c (a b k : Nat) (w : World) (ha : a < B) (hb : b < B) (hk : k < B) : Calls Try.prog 12 #[.int .u64 (a : Int), .int .u64 (b : Int), .int .u64 (k : Int)] w fun e w' => e = .returned (.bool true) ∧ Ext w w' := by
  go_enter Try.func12, Try.ntmps12
  go_wp2_with fail
  go_loopw [0, 1, 7] (fun v0 v1 v7 wr => ∃ (i a b : Nat), i ≤ 2 ∧ v7 = .int .i64 (i : Int) ∧ v0 = .int .u64 (a : Int) ∧ v1 = .int .u64 (b : Int) ∧ a < B ∧ b < B ∧ Ext w wr) (fun _ _ v _ => 2 - (intOf v).toNat)
  case atStart => exact ⟨0, a, b, Nat.zero_le _, rfl, rfl, rfl, ha, hb, Ext.refl _⟩
  case round =>
    clear ha hb
    obtain ⟨i, a, b, hi, rfl, rfl, rfl, ha, hb, hE⟩ := hrel
    by_cases hlt : i < 2
    · have hR1 := fun w => reduce_c a b w ha hb
      have rR1 := fun w => rreduce_c a b w ha hb
      have hR2 := fun w => reduce_c k a w hk ha
      have rR2 := fun w => rreduce_c k a w hk ha
      have m1 : (a : Int).tmod 18446744069414584321 = ((a % PP : Nat) : Int) := by rw [Int.tmod_eq_emod_of_nonneg (by omega), PP_eq]; omega
      have m2 : (b : Int).tmod 18446744069414584321 = ((b % PP : Nat) : Int) := by rw [Int.tmod_eq_emod_of_nonneg (by omega), PP_eq]; omega
      have m3 : (a : Int) % 18446744069414584321 = ((a % PP : Nat) : Int) := by rw [PP_eq]; omega
      have m4 : (b : Int) % 18446744069414584321 = ((b % PP : Nat) : Int) := by rw [PP_eq]; omega
      have ha2 : a % PP < B := Nat.lt_trans (Nat.mod_lt _ PP_pos) PP_lt_B
      have hb2 : b % PP < B := Nat.lt_trans (Nat.mod_lt _ PP_pos) PP_lt_B
      generalize a % PP = a2 at *
      generalize b % PP = b2 at *
      have hAdd := fun w => Add_c a b w ha hb
      have hSub := fun w => Sub_c a b w ha hb
      have hTim := fun w => Times_c a b w ha hb
      have hPow := fun w => Pow_c a k w ha hk
      have hInv := fun w => Inverse_c a w ha
      have rAdd := fun w => radd04_c a b w ha hb
      have rTim := fun w => rtimes04_c a b w ha hb
      have rPow := fun w => rpow04_c a k w ha hk
      have rInv := fun w => rinverse04_c a w ha
      generalize (a * B + b) % PP = q1 at *
      generalize (k * B + a) % PP = q2 at *
      by_cases hap : a < PP
      · have da : decide ((18446744069414584321 : Int) ≤ (a : Int)) = false := decide_eq_false (by rw [PP_eq] at hap; omega)
        rw [decide_eq_true hap] at hPow
        replace hPow := fun w => (hPow w).mono fun e w' h => opR.yes h
        by_cases hbp : b < PP
        · have db : decide ((18446744069414584321 : Int) ≤ (b : Int)) = false := decide_eq_false (by rw [PP_eq] at hbp; omega)
          have hok : okB a b = true := by unfold okB; rw [decide_eq_true hap, decide_eq_true hbp]; rfl
          have rSub := fun w => rsub04_c a b w ha hbp
          rw [hok] at hAdd hSub hTim
          replace hAdd := fun w => (hAdd w).mono fun e w' h => opR.yes h
          replace hSub := fun w => (hSub w).mono fun e w' h => opR.yes h
          replace hTim := fun w => (hTim w).mono fun e w' h => opR.yes h
          generalize (a + b) % PP = s1 at *
          generalize (a + PP - b) % PP = d1 at *
          generalize a * b % PP = p1 at *
          generalize a ^ k % PP = x1 at *
          by_cases ha0 : a = 0
          · have n0 : ((a : Int) == 0) = true := by rw [beq_iff_eq]; omega
            have hiE : inE a = 5 := by unfold inE; rw [if_pos hap, if_pos ha0]
            have hiV : inV a = 0 := by unfold inV; rw [if_pos hap, if_pos ha0]
            rw [hiE, hiV] at hInv
            replace hInv : ∀ w, Calls Try.prog _ _ w (VE w 0 5) := hInv
            clear hap hbp hok hiE hiV ha0 rInv
            go_wp2_with fail
            refine (hAdd _).mono ?_
            rintro z w1 ⟨rfl, hE1⟩
            go_wp2_with fail
            refine (hSub _).mono ?_
            rintro z w2 ⟨rfl, hE2⟩
            go_wp2_with fail
            refine (hTim _).mono ?_
            rintro z w3 ⟨rfl, hE3⟩
            go_wp2_with fail
            refine (hPow _).mono ?_
            rintro z w4 ⟨rfl, hE4⟩
            go_wp2_with fail
            refine (hInv _).mono ?_
            rintro z w5 ⟨rfl, hE5⟩
            go_wp2_with fail
            refine (rAdd _).mono ?_
            rintro z w6 ⟨rfl, hE6⟩
            go_wp2_with fail
            refine (rSub _).mono ?_
            rintro z w7 ⟨rfl, hE7⟩
            go_wp2_with fail
            refine (rTim _).mono ?_
            rintro z w8 ⟨rfl, hE8⟩
            go_wp2_with fail
            refine (rPow _).mono ?_
            rintro z w9 ⟨rfl, hE9⟩
            go_wp2_with fail
            refine (hR1 _).mono ?_
            rintro z ww ⟨rfl, rfl⟩
            go_wp2_with fail
            refine (rR1 _).mono ?_
            rintro z w10 ⟨rfl, hE10⟩
            go_wp2_with fail
            refine (hR2 _).mono ?_
            rintro z ww ⟨rfl, rfl⟩
            go_wp2_with fail
            refine (rR2 _).mono ?_
            rintro z w11 ⟨rfl, hE11⟩
            go_wp2_with fail
            go_roundw
            case rel => exact ⟨i + 1, _, _, hlt, by go_num, rfl, rfl, ha2, hb2, (((((((((((hE.tr hE1).tr hE2).tr hE3).tr hE4).tr hE5).tr hE6).tr hE7).tr hE8).tr hE9).tr hE10).tr hE11)⟩
            case measure => simp [intOf]; omega
          · have n0 : ((a : Int) == 0) = false := by rw [beq_eq_false_iff_ne]; omega
            have hiE : inE a = 0 := by unfold inE; rw [if_pos hap, if_neg ha0]
            have hiV : inV a = a ^ (PP - 2) % PP := by unfold inV; rw [if_pos hap, if_neg ha0]
            rw [hiE, hiV] at hInv
            generalize a ^ (PP - 2) % PP = v1 at *
            replace hInv : ∀ w, Calls Try.prog _ _ w (VE w (v1 : Int) 0) := hInv
            clear hap hbp hok hiE hiV ha0
            go_wp2_with fail
            refine (hAdd _).mono ?_
            rintro z w1 ⟨rfl, hE1⟩
            go_wp2_with fail
            refine (hSub _).mono ?_
            rintro z w2 ⟨rfl, hE2⟩
            go_wp2_with fail
            refine (hTim _).mono ?_
            rintro z w3 ⟨rfl, hE3⟩
            go_wp2_with fail
            refine (hPow _).mono ?_
            rintro z w4 ⟨rfl, hE4⟩
            go_wp2_with fail
            refine (hInv _).mono ?_
            rintro z w5 ⟨rfl, hE5⟩
            go_wp2_with fail
            refine (rAdd _).mono ?_
            rintro z w6 ⟨rfl, hE6⟩
            go_wp2_with fail
            refine (rSub _).mono ?_
            rintro z w7 ⟨rfl, hE7⟩
            go_wp2_with fail
            refine (rTim _).mono ?_
            rintro z w8 ⟨rfl, hE8⟩
            go_wp2_with fail
            refine (rPow _).mono ?_
            rintro z w9 ⟨rfl, hE9⟩
            go_wp2_with fail
            refine (rInv _).mono ?_
            rintro z w10 ⟨rfl, hE10⟩
            go_wp2_with fail
            refine (hR1 _).mono ?_
            rintro z ww ⟨rfl, rfl⟩
            go_wp2_with fail
            refine (rR1 _).mono ?_
            rintro z w11 ⟨rfl, hE11⟩
            go_wp2_with fail
            refine (hR2 _).mono ?_
            rintro z ww ⟨rfl, rfl⟩
            go_wp2_with fail
            refine (rR2 _).mono ?_
            rintro z w12 ⟨rfl, hE12⟩
            go_wp2_with fail
            go_roundw
            case rel => exact ⟨i + 1, _, _, hlt, by go_num, rfl, rfl, ha2, hb2, ((((((((((((hE.tr hE1).tr hE2).tr hE3).tr hE4).tr hE5).tr hE6).tr hE7).tr hE8).tr hE9).tr hE10).tr hE11).tr hE12)⟩
            case measure => simp [intOf]; omega
        · have db : decide ((18446744069414584321 : Int) ≤ (b : Int)) = true := decide_eq_true (by rw [PP_eq] at hbp; omega)
          have hok : okB a b = false := by unfold okB; rw [decide_eq_false hbp, Bool.and_false]
          rw [hok] at hAdd hSub hTim
          replace hAdd := fun w => (hAdd w).mono fun e w' h => opR.no h
          replace hSub := fun w => (hSub w).mono fun e w' h => opR.no h
          replace hTim := fun w => (hTim w).mono fun e w' h => opR.no h
          generalize a ^ k % PP = x1 at *
          by_cases ha0 : a = 0
          · have n0 : ((a : Int) == 0) = true := by rw [beq_iff_eq]; omega
            have hiE : inE a = 5 := by unfold inE; rw [if_pos hap, if_pos ha0]
            have hiV : inV a = 0 := by unfold inV; rw [if_pos hap, if_pos ha0]
            rw [hiE, hiV] at hInv
            replace hInv : ∀ w, Calls Try.prog _ _ w (VE w 0 5) := hInv
            clear hap hbp hok hiE hiV ha0 rInv rAdd rTim
            go_wp2_with fail
            refine (hAdd _).mono ?_
            rintro z w1 ⟨rfl, hE1⟩
            go_wp2_with fail
            refine (hSub _).mono ?_
            rintro z w2 ⟨rfl, hE2⟩
            go_wp2_with fail
            refine (hTim _).mono ?_
            rintro z w3 ⟨rfl, hE3⟩
            go_wp2_with fail
            refine (hPow _).mono ?_
            rintro z w4 ⟨rfl, hE4⟩
            go_wp2_with fail
            refine (hInv _).mono ?_
            rintro z w5 ⟨rfl, hE5⟩
            go_wp2_with fail
            refine (rPow _).mono ?_
            rintro z w6 ⟨rfl, hE6⟩
            go_wp2_with fail
            refine (hR1 _).mono ?_
            rintro z ww ⟨rfl, rfl⟩
            go_wp2_with fail
            refine (rR1 _).mono ?_
            rintro z w7 ⟨rfl, hE7⟩
            go_wp2_with fail
            refine (hR2 _).mono ?_
            rintro z ww ⟨rfl, rfl⟩
            go_wp2_with fail
            refine (rR2 _).mono ?_
            rintro z w8 ⟨rfl, hE8⟩
            go_wp2_with fail
            go_roundw
            case rel => exact ⟨i + 1, _, _, hlt, by go_num, rfl, rfl, ha2, hb2, ((((((((hE.tr hE1).tr hE2).tr hE3).tr hE4).tr hE5).tr hE6).tr hE7).tr hE8)⟩
            case measure => simp [intOf]; omega
          · have n0 : ((a : Int) == 0) = false := by rw [beq_eq_false_iff_ne]; omega
            have hiE : inE a = 0 := by unfold inE; rw [if_pos hap, if_neg ha0]
            have hiV : inV a = a ^ (PP - 2) % PP := by unfold inV; rw [if_pos hap, if_neg ha0]
            rw [hiE, hiV] at hInv
            generalize a ^ (PP - 2) % PP = v1 at *
            replace hInv : ∀ w, Calls Try.prog _ _ w (VE w (v1 : Int) 0) := hInv
            clear hap hbp hok hiE hiV ha0 rAdd rTim
            go_wp2_with fail
            refine (hAdd _).mono ?_
            rintro z w1 ⟨rfl, hE1⟩
            go_wp2_with fail
            refine (hSub _).mono ?_
            rintro z w2 ⟨rfl, hE2⟩
            go_wp2_with fail
            refine (hTim _).mono ?_
            rintro z w3 ⟨rfl, hE3⟩
            go_wp2_with fail
            refine (hPow _).mono ?_
            rintro z w4 ⟨rfl, hE4⟩
            go_wp2_with fail
            refine (hInv _).mono ?_
            rintro z w5 ⟨rfl, hE5⟩
            go_wp2_with fail
            refine (rPow _).mono ?_
            rintro z w6 ⟨rfl, hE6⟩
            go_wp2_with fail
            refine (rInv _).mono ?_
            rintro z w7 ⟨rfl, hE7⟩
            go_wp2_with fail
            refine (hR1 _).mono ?_
            rintro z ww ⟨rfl, rfl⟩
            go_wp2_with fail
            refine (rR1 _).mono ?_
            rintro z w8 ⟨rfl, hE8⟩
            go_wp2_with fail
            refine (hR2 _).mono ?_
            rintro z ww ⟨rfl, rfl⟩
            go_wp2_with fail
            refine (rR2 _).mono ?_
            rintro z w9 ⟨rfl, hE9⟩
            go_wp2_with fail
            go_roundw
            case rel => exact ⟨i + 1, _, _, hlt, by go_num, rfl, rfl, ha2, hb2, (((((((((hE.tr hE1).tr hE2).tr hE3).tr hE4).tr hE5).tr hE6).tr hE7).tr hE8).tr hE9)⟩
            case measure => simp [intOf]; omega
      · have da : decide ((18446744069414584321 : Int) ≤ (a : Int)) = true := decide_eq_true (by rw [PP_eq] at hap; omega)
        have hok : okB a b = false := by unfold okB; rw [decide_eq_false hap, Bool.false_and]
        have hiE : inE a = 1 := by unfold inE; rw [if_neg hap]
        have hiV : inV a = 0 := by unfold inV; rw [if_neg hap]
        rw [hok] at hAdd hSub hTim
        rw [decide_eq_false hap] at hPow
        rw [hiE, hiV] at hInv
        replace hAdd := fun w => (hAdd w).mono fun e w' h => opR.no h
        replace hSub := fun w => (hSub w).mono fun e w' h => opR.no h
        replace hTim := fun w => (hTim w).mono fun e w' h => opR.no h
        replace hPow := fun w => (hPow w).mono fun e w' h => opR.no h
        replace hInv : ∀ w, Calls Try.prog _ _ w (VE w 0 1) := hInv
        clear hap hok hiE hiV rAdd rTim rPow rInv
        go_wp2_with fail
        refine (hAdd _).mono ?_
        rintro z w1 ⟨rfl, hE1⟩
        go_wp2_with fail
        refine (hSub _).mono ?_
        rintro z w2 ⟨rfl, hE2⟩
        go_wp2_with fail
        refine (hTim _).mono ?_
        rintro z w3 ⟨rfl, hE3⟩
        go_wp2_with fail
        refine (hPow _).mono ?_
        rintro z w4 ⟨rfl, hE4⟩
        go_wp2_with fail
        refine (hInv _).mono ?_
        rintro z w5 ⟨rfl, hE5⟩
        go_wp2_with fail
        refine (hR1 _).mono ?_
        rintro z ww ⟨rfl, rfl⟩
        go_wp2_with fail
        refine (rR1 _).mono ?_
        rintro z w6 ⟨rfl, hE6⟩
        go_wp2_with fail
        refine (hR2 _).mono ?_
        rintro z ww ⟨rfl, rfl⟩
        go_wp2_with fail
        refine (rR2 _).mono ?_
        rintro z w7 ⟨rfl, hE7⟩
        go_wp2_with fail
        go_roundw
        case rel => exact ⟨i + 1, _, _, hlt, by go_num, rfl, rfl, ha2, hb2, (((((((hE.tr hE1).tr hE2).tr hE3).tr hE4).tr hE5).tr hE6).tr hE7)⟩
        case measure => simp [intOf]; omega
    · obtain rfl : i = 2 := by omega
      go_wp2_with fail
      refine (awake04_c _).mono ?_
      rintro z w3 ⟨rfl, hE3⟩
      go_wp2_with fail
      go_ret
      exact ⟨rfl, hE.tr hE3⟩
end Go.Proofs.Ythbnkhgcfcigjaa
