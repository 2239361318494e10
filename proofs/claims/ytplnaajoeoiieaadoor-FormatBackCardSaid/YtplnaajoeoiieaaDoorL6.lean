/- FormatDecodes: the walk. -/
import Derived.Test.YtplnaajoeoiieaaDoorS7
import Derived.Test.YtplnaajoeoiieaaDoorS3
import Derived.Test.YtplnaajoeoiieaaDoorL1
set_option linter.unusedVariables false
set_option linter.unusedSimpArgs false
namespace Go.Proofs.YtplnaajoeoiieaaDoor
open Go.RowKit

theorem canon_self {f : Fl} (h : f.Ok) : canon f.kind f.neg f.exp f.mag = some f := by
  obtain ⟨k, n, e, m⟩ := f
  have hk := h.kind
  have hlo := h.lo
  have hhi := h.hi
  have hz := h.zero
  have ho := h.odd
  have hn := h.nan
  simp only at hk hlo hhi hz ho hn ⊢
  unfold canon
  by_cases h1 : k = 1
  · subst h1
    have hm := ho rfl
    rw [if_neg (by omega), if_neg (by omega), if_pos rfl, if_neg (by omega), tz_odd hm, if_pos (by simpa using hhi)]
    simp
  · obtain ⟨rfl, rfl⟩ := hz h1
    by_cases h02 : k = 0 ∨ k = 2
    · rw [if_pos h02, if_pos ⟨rfl, rfl⟩]
    · obtain rfl : k = 3 := by omega
      rw [if_neg h02, if_pos rfl, if_pos ⟨hn rfl, rfl, rfl⟩, hn rfl]
theorem decF_ok {k p : Int} {n : Nat} (hR : Rgt k p) : (decF k p n).Ok := by
  obtain ⟨h1, h2, h3, h4⟩ := hR
  by_cases hb : dB k p n = 2 ^ k.toNat - 1
  · unfold decF
    rw [if_pos hb]
    split
    · exact ⟨by simp, by simp, by simp, fun h => by simp at h, fun _ => ⟨rfl, rfl⟩, fun h => by simp at h⟩
    · exact ⟨by simp, by simp, by simp, fun h => by simp at h, fun _ => ⟨rfl, rfl⟩, fun _ => rfl⟩
  · by_cases hz : dB k p n = 0 ∧ dL p n = 0
    · unfold decF
      rw [if_neg hb, if_pos hz]
      exact ⟨by simp, by simp, by simp, fun h => by simp at h, fun _ => ⟨rfl, rfl⟩, fun h => by simp at h⟩
    · obtain ⟨-, -, -, -, h5, -⟩ := dec_can h1 h2 h3 h4 hb hz
      exact canon_ok h5
theorem decF_len {k p : Int} {n : Nat} (hR : Rgt k p) : (cn (decF k p n).mag).length ≤ 5 := by
  have hz : ∀ m, m = 0 → (cn m).length ≤ 5 := by rintro m rfl; rw [show cn 0 = [] from digs_zero B]; simp
  obtain ⟨h1, h2, h3, h4⟩ := hR
  by_cases hb : dB k p n = 2 ^ k.toNat - 1
  · refine hz _ ?_
    unfold decF
    rw [if_pos hb]
    split <;> rfl
  · by_cases hzz : dB k p n = 0 ∧ dL p n = 0
    · refine hz _ ?_
      unfold decF
      rw [if_neg hb, if_pos hzz]
    · obtain ⟨-, -, -, h5, h6, -⟩ := dec_can h1 h2 h3 h4 hb hzz
      refine Nat.le_trans (cn_len_mono (canon_mag h6)) ?_
      exact cn_len_pow ((bl_le _ _).1 (Nat.le_refl _)) (by omega)
set_option maxHeartbeats 2000000 in
set_option maxRecDepth 100000 in
theorem formatDecodes_c (k p : Int) (A : Option Addr) (c : Nat) (xs : List Nat) (w : World) (hT : Tab w) (hM : MapT w) (h : Rd w A c xs) :
    Calls Tryd.prog 5 #[.agg #[.int .i64 k, .int .i64 p], .slice A xs.length c] w fun e w' => e = .returned (.bool true) ∧ Ext w w' := by
  have hF := Bf.new w (.int .i64 k) (.int .i64 p)
  have hA := (Ext.refl w).al (.cells #[.int .i64 k, .int .i64 p] 24)
  have HF := Lib.hid hF
  have HA := Lib.hid hA
  clear hF hA
  by_cases hs : 40 < xs.length
  · have hd : decide ((40 : Int) < (xs.length : Int)) = true := by simp; omega
    have hE := HA.out
    clear HF HA hs
    go_enter Tryd.func5, Tryd.ntmps5
    go_wp2_with (go_at_call 17; refine (awake_c _ (hT.ext hE) (hM.ext hE)).mono ?_; rintro z w2 ⟨rfl, hb⟩)
    go_ret
    exact ⟨rfl, hE.tr hb⟩
  have hd : decide ((40 : Int) < (xs.length : Int)) = false := by simp; omega
  have hdc := fun w hT h => decode_c k p A c xs w hT h
  have hrt := fun w => rright15_c k p w
  have hfm := fun w => fmt_c k p w
  by_cases hR : Rgt k p
  · rw [show decide (Rgt k p) = true by simpa using hR] at hrt
    have hrd := fun w h => rdecode_c k p hR A c xs w h (by omega)
    have hde : decE k p xs = if (bl (val xs) : Int) ≤ k + p then 0 else 151 := by
      unfold decE
      rw [if_neg (by omega), if_pos hR]
      by_cases hb : k + p < (bl (val xs) : Int)
      · rw [if_pos hb, if_neg (by omega)]
      · rw [if_neg hb, if_pos (by omega)]
    rw [hde] at hdc
    have hok := decF_ok (n := val xs) hR
    have hln := decF_len (n := val xs) hR
    have his := fun A1 A2 c1 c2 w h1 h2 => lis_c (decF k p (val xs)).kind (decF k p (val xs)).kind (decF k p (val xs)).exp (decF k p (val xs)).exp (decF k p (val xs)).neg (decF k p (val xs)).neg A1 A2 c1 c2 (cn (decF k p (val xs)).mag) (cn (decF k p (val xs)).mag) w h1 h2 (by omega) (decF k p (val xs)) (by rw [val_cn]; exact canon_self hok)
    rw [show decide ((decF k p (val xs)).kind = (decF k p (val xs)).kind ∧ (decF k p (val xs)).neg = (decF k p (val xs)).neg ∧ (decF k p (val xs)).exp = (decF k p (val xs)).exp ∧ cn (decF k p (val xs)).mag = cn (decF k p (val xs)).mag) = true by simp] at his
    by_cases hb : (bl (val xs) : Int) ≤ k + p
    · simp only [if_pos hb] at hdc hrd
      rw [show decide ((bl (val xs) : Int) ≤ k + p) = true by simpa using hb] at hrd
      rw [if_pos trivial] at hdc
      generalize decF k p (val xs) = F at *
      clear hde hR hok hln hb hs
      go_enter Tryd.func5, Tryd.ntmps5
      go_wp2_with fail
      have hF := HF.out
      have hA := HA.out
      clear HF HA
      generalize w.alloc (.cells #[.int .i64 k, .int .i64 p] 24) = W at *
      refine (hdc _ (hT.ext hA) (h.ext hA)).mono ?_
      rintro z w1 ⟨u, rfl, ⟨v, rfl, ho1⟩, hb1⟩
      obtain ⟨A1, c1, rfl, hr1⟩ := ho1.rd
      have hX1 := Bx.new w1 (.int .i64 F.kind) (.bool F.neg) (.int .i64 F.exp) (.slice A1 (cn F.mag).length c1)
      have hA2 := (Ext.refl w1).al (.cells #[.int .i64 F.kind, .bool F.neg, .int .i64 F.exp, .slice A1 (cn F.mag).length c1] 37)
      have hE2 := (hA.tr hb1).tr hA2
      have hr2 := hr1.ext hA2
      have hF1 := hF.ext hb1
      have hlf := hF1.lt
      obtain ⟨f0, f1⟩ := hF1.facts
      go_wp2_with fail
      refine (hfm _).mono ?_
      rintro z w3 ⟨rfl, hb3⟩
      go_wp2_with fail
      refine (hrt _).mono ?_
      rintro z w4 ⟨rfl, hb4⟩
      have h34 := hb3.tr hb4
      clear f0 f1
      obtain ⟨f0, f1⟩ := ((hF1.ext hA2).ext h34).facts
      go_wp2_with fail
      refine (hfm _).mono ?_
      rintro z w5 ⟨rfl, hb5⟩
      have hE5 := (hE2.tr h34).tr hb5
      go_wp2_with fail
      refine (hrd _ (h.ext hE5)).mono ?_
      rintro z w6 ⟨u, rfl, ⟨v, rfl, ho6⟩, hb6⟩
      obtain ⟨A6, c6, rfl, hr6⟩ := ho6.rd
      have hX6 := ((hX1.ext h34).ext hb5).ext hb6
      have hr26 := ((hr2.ext h34).ext hb5).ext hb6
      have hY6 := Br.new w6 (.int .i64 F.kind) (.bool F.neg) (.int .i64 F.exp) (.slice A6 (cn F.mag).length c6)
      have hA7 := (Ext.refl w6).al (.cells #[.int .i64 F.kind, .bool F.neg, .int .i64 F.exp, .slice A6 (cn F.mag).length c6] 43)
      have hE7 := (hE5.tr hb6).tr hA7
      have hlx := hX6.lt
      clear f0 f1
      obtain ⟨x0, x1, x2, x3, -⟩ := hX6.facts
      go_wp2_with fail
      refine (his A1 A6 c1 c6 _ (hr26.ext hA7) (hr6.ext hA7)).mono ?_
      rintro z w8 ⟨rfl, hb8⟩
      have hE8 := hE7.tr hb8
      go_wp2_with fail
      refine (awake_c _ (hT.ext hE8) (hM.ext hE8)).mono ?_
      rintro z w9 ⟨rfl, hb9⟩
      go_wp2
      go_ret
      exact ⟨rfl, hE8.tr hb9⟩
    · simp only [if_neg hb] at hdc hrd
      rw [show decide ((bl (val xs) : Int) ≤ k + p) = false by simpa using hb] at hrd
      rw [if_neg (by omega)] at hdc
      clear hde hR hok hln hb hs his
      go_enter Tryd.func5, Tryd.ntmps5
      go_wp2_with fail
      have hF := HF.out
      have hA := HA.out
      clear HF HA
      generalize w.alloc (.cells #[.int .i64 k, .int .i64 p] 24) = W at *
      refine (hdc _ (hT.ext hA) (h.ext hA)).mono ?_
      rintro z w1 ⟨u, rfl, ⟨v, rfl, ho1⟩, hb1⟩
      rw [show cn (0 : Nat) = [] from digs_zero B] at ho1
      obtain ⟨A1, c1, rfl, hr1⟩ := ho1.rd
      simp only [List.length_nil]
      have hnn := fun w => none_c 0 0 false A1 0 c1 w
      rw [show decide ((0 : Int) = 0 ∧ false = false ∧ (0 : Int) = 0 ∧ (0 : Nat) = 0) = true by decide] at hnn
      have hX1 := Bx.new w1 (.int .i64 0) (.bool false) (.int .i64 0) (.slice A1 0 c1)
      have hA2 := (Ext.refl w1).al (.cells #[.int .i64 0, .bool false, .int .i64 0, .slice A1 0 c1] 37)
      have hE2 := (hA.tr hb1).tr hA2
      have hF1 := hF.ext hb1
      have hlf := hF1.lt
      obtain ⟨f0, f1⟩ := hF1.facts
      go_wp2_with fail
      refine (hfm _).mono ?_
      rintro z w3 ⟨rfl, hb3⟩
      go_wp2_with fail
      refine (hrt _).mono ?_
      rintro z w4 ⟨rfl, hb4⟩
      have h34 := hb3.tr hb4
      clear f0 f1
      obtain ⟨f0, f1⟩ := ((hF1.ext hA2).ext h34).facts
      go_wp2_with fail
      refine (hfm _).mono ?_
      rintro z w5 ⟨rfl, hb5⟩
      have hE5 := (hE2.tr h34).tr hb5
      go_wp2_with fail
      refine (hrd _ (h.ext hE5)).mono ?_
      rintro z w6 ⟨u, rfl, ⟨v, rfl, ho6⟩, hb6⟩
      rw [show cn (0 : Nat) = [] from digs_zero B] at ho6
      obtain ⟨A6, c6, rfl, hr6⟩ := ho6.rd
      simp only [List.length_nil]
      have hX6 := ((hX1.ext h34).ext hb5).ext hb6
      have hA7 := (Ext.refl w6).al (.cells #[.int .i64 0, .bool false, .int .i64 0, .slice A6 0 c6] 43)
      have hE7 := (hE5.tr hb6).tr hA7
      have hlx := hX6.lt
      clear f0 f1
      obtain ⟨x0, x1, x2, x3, -⟩ := hX6.facts
      go_wp2_with fail
      refine (hnn _).mono ?_
      rintro z w8 ⟨rfl, hb8⟩
      have hE8 := hE7.tr hb8
      go_wp2_with fail
      refine (awake_c _ (hT.ext hE8) (hM.ext hE8)).mono ?_
      rintro z w9 ⟨rfl, hb9⟩
      go_wp2
      go_ret
      exact ⟨rfl, hE8.tr hb9⟩
  · rw [show decide (Rgt k p) = false by simpa using hR] at hrt
    have hde : decE k p xs = 150 := by unfold decE; rw [if_neg (by omega), if_neg hR]
    rw [hde, if_neg (by omega)] at hdc
    clear hde hR hs
    go_enter Tryd.func5, Tryd.ntmps5
    go_wp2_with fail
    have hF := HF.out
    have hA := HA.out
    clear HF HA
    generalize w.alloc (.cells #[.int .i64 k, .int .i64 p] 24) = W at *
    refine (hdc _ (hT.ext hA) (h.ext hA)).mono ?_
    rintro z w1 ⟨u, rfl, ⟨v, rfl, ho1⟩, hb1⟩
    rw [show cn (0 : Nat) = [] from digs_zero B] at ho1
    obtain ⟨A1, c1, rfl, hr1⟩ := ho1.rd
    simp only [List.length_nil]
    have hnn := fun w => none_c 0 0 false A1 0 c1 w
    rw [show decide ((0 : Int) = 0 ∧ false = false ∧ (0 : Int) = 0 ∧ (0 : Nat) = 0) = true by decide] at hnn
    have hX1 := Bx.new w1 (.int .i64 0) (.bool false) (.int .i64 0) (.slice A1 0 c1)
    have hA2 := (Ext.refl w1).al (.cells #[.int .i64 0, .bool false, .int .i64 0, .slice A1 0 c1] 37)
    have hE2 := (hA.tr hb1).tr hA2
    have hF1 := hF.ext hb1
    have hlf := hF1.lt
    obtain ⟨f0, f1⟩ := hF1.facts
    go_wp2_with fail
    refine (hfm _).mono ?_
    rintro z w3 ⟨rfl, hb3⟩
    go_wp2_with fail
    refine (hrt _).mono ?_
    rintro z w4 ⟨rfl, hb4⟩
    obtain ⟨x0, x1, x2, x3, -⟩ := ((hX1.ext hb3).ext hb4).facts
    go_wp2_with fail
    refine (hnn _).mono ?_
    rintro z w8 ⟨rfl, hb8⟩
    have hE8 := ((hE2.tr hb3).tr hb4).tr hb8
    go_wp2_with fail
    refine (awake_c _ (hT.ext hE8) (hM.ext hE8)).mono ?_
    rintro z w9 ⟨rfl, hb9⟩
    go_wp2
    go_ret
    exact ⟨rfl, hE8.tr hb9⟩
end Go.Proofs.YtplnaajoeoiieaaDoor
