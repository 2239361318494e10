/- NttNumbers: the walk. -/
import Derived.Test.YthbnkhgcfcigjaaJI
import Derived.Test.YthbnkhgcfcigjaaJL
set_option linter.unusedVariables false
set_option linter.unusedSimpArgs false
namespace Go.Proofs.Ythbnkhgcfcigjaa
open Go.RowKit

theorem mul_len {a b : List Nat} (ha : W64 a) (hb : W64 b) {k : Nat} (h : a.length + b.length ≤ k) : (cn (val a * val b)).length ≤ k := by
  refine (cn_len_le _ _).2 ?_
  refine Nat.lt_of_lt_of_le (Nat.mul_lt_mul'' (val_lt ha) (val_lt hb)) ?_
  rw [← Nat.pow_add]
  exact Nat.pow_le_pow_right B_pos h
theorem ml_ok {a b : List Nat} (ha : W64 a) (hb : W64 b) (h : a.length + b.length ≤ 4096) : mlX a b = cn (val a * val b) ∧ mlE a b = 0 := by
  have hl := mul_len ha hb h
  have hm : a.length ≤ 4096 ∧ b.length ≤ 4096 := ⟨by omega, by omega⟩
  unfold mlX mlE ftX ftE
  simp only [if_pos hm, if_pos hl]
  first | exact ⟨trivial, trivial⟩ | exact ⟨trivial, rfl⟩ | exact ⟨rfl, trivial⟩ | exact ⟨rfl, rfl⟩
theorem ml_big {a b : List Nat} (h : 4096 < a.length ∨ 4096 < b.length) : mlX a b = [] ∧ mlE a b = 2 := by
  have hm : ¬ (a.length ≤ 4096 ∧ b.length ≤ 4096) := by omega
  unfold mlX mlE
  simp only [if_neg hm]
  first | exact ⟨trivial, trivial⟩ | exact ⟨trivial, rfl⟩ | exact ⟨rfl, trivial⟩ | exact ⟨rfl, rfl⟩
theorem dg_big {a : List Nat} (n : Int) (h : 4096 < a.length) : dgX a n = [] ∧ dgE a n = 2 := by
  have hm : ¬ a.length ≤ 4096 := by omega
  unfold dgX dgE
  simp only [if_neg hm]
  first | exact ⟨trivial, trivial⟩ | exact ⟨trivial, rfl⟩ | exact ⟨rfl, trivial⟩ | exact ⟨rfl, rfl⟩
theorem is_cn (A A' : Option Addr) (c c' : Nat) (n : Nat) (w : World) (h : Rd w A c (cn n)) (h' : Rd w A' c' (cn n)) (hl : (cn n).length ≤ 1000000) :
    Calls Try.prog 34 #[.slice A (cn n).length c, .slice A' (cn n).length c'] w fun e w' => e = .returned (.bool true) ∧ Ext w w' := by
  refine (ris_c A A' c c' (cn n) (cn n) w h h' (by omega)).mono ?_
  rintro e w' ⟨rfl, hE⟩
  exact ⟨by rw [val_cn, decide_eq_true rfl], hE⟩
set_option maxHeartbeats 8000000 in
set_option maxRecDepth 100000 in
theorem nttNumbers_c (A : Option Addr) (c : Nat) (xs : List Nat) (A' : Option Addr) (c' : Nat) (ys : List Nat) (w : World) (h : Rd w A c xs) (h' : Rd w A' c' ys) :
    Calls Try.prog 8 #[.slice A xs.length c, .slice A' ys.length c'] w fun e w' => e = .returned (.bool true) ∧ Ext w w' := by
  have hf1 := few_c A c xs 40 w h (by omega)
  have hf2 := fun w h => few_c A' c' ys 40 w h (by omega)
  have l1 : (xs.take 40).length ≤ 40 := by rw [List.length_take]; omega
  have l2 : (ys.take 40).length ≤ 40 := by rw [List.length_take]; omega
  have w1 := h.w64.take 40
  have w2 := h'.w64.take 40
  generalize xs.take 40 = a at *
  generalize ys.take 40 = b at *
  have p1 := ml_ok w1 w2 (by omega)
  have p2 := ml_ok w1 w1 (by omega)
  have hM := fun A A' c c' w h h' => Mul_c A A' c c' a b w h h'
  have hS := fun A c w h => Square_c A c a w h
  simp only [p1.1, p1.2] at hM
  simp only [p2.1, p2.2] at hS
  have hzl : (List.replicate 4097 0 : List Nat).length = 4097 := List.length_replicate
  have hM2 := fun A A' c c' w h h' => Mul_c A A' c c' a (List.replicate 4097 0) w h h'
  have hS2 := fun A c w h => Square_c A c (List.replicate 4097 0) w h
  have hD2 := fun A c w h => Digits_c A c (List.replicate 4097 0) 7 w h
  have p3 := ml_big (a := a) (b := List.replicate 4097 0) (.inr (by rw [hzl]; omega))
  have p4 := ml_big (a := List.replicate 4097 0) (b := List.replicate 4097 0) (.inr (by rw [hzl]; omega))
  have p5 := dg_big (a := List.replicate 4097 0) 7 (by rw [hzl]; omega)
  simp only [p3.1, p3.2] at hM2
  simp only [p4.1, p4.2] at hS2
  simp only [p5.1, p5.2] at hD2
  have hRM := fun A A' c c' w h h' => rmul_c A A' c c' a b w h h' (by omega) (by omega)
  have hRS := fun A c w h => rmul_c A A c c a a w h h (by omega) (by omega)
  have c1 : (cn (val a * val b)).length ≤ 1000000 := Nat.le_trans (mul_len (k := 80) w1 w2 (by omega)) (by omega)
  have c2 : (cn (val a * val a)).length ≤ 1000000 := Nat.le_trans (mul_len (k := 80) w1 w1 (by omega)) (by omega)
  have hI1 := fun A A' c c' w h h' => is_cn A A' c c' (val a * val b) w h h' c1
  have hI2 := fun A A' c c' w h h' => is_cn A A' c c' (val a * val a) w h h' c2
  rw [hzl] at hM2 hS2 hD2
  have hrz : ∀ (g : Nat) (w : World), Bk w g (List.replicate 4097 0) → Rd w (some ⟨g, 0, none⟩) 4097 (List.replicate 4097 0) := fun g w hb => hb.rd (by rw [hzl]; omega) (by rw [hzl]; exact Nat.le_refl _)
  generalize cn (val a * val b) = R1 at *
  generalize cn (val a * val a) = R2 at *
  obtain ⟨Z, hZ⟩ : ∃ Z : List Nat, List.replicate 4097 0 = Z := ⟨_, rfl⟩
  rw [hZ] at hM2 hS2 hD2 hrz
  have HZ := Lib.hid hZ
  clear p1 p2 p3 p4 p5 c1 c2 w1 w2 hzl hZ
  go_enter Try.func8, Try.ntmps8
  go_wp2_with fail
  refine hf1.mono ?_
  rintro z w1 ⟨v1, rfl, ho1, hE1⟩
  obtain ⟨A1, c1, rfl, hr1⟩ := ho1.rd
  go_wp2_with fail
  refine (hf2 _ (h'.ext hE1)).mono ?_
  rintro z w2 ⟨v2, rfl, ho2, hE2⟩
  obtain ⟨A2, c2, rfl, hr2⟩ := ho2.rd
  replace hr1 := hr1.ext hE2
  go_wp2_with fail
  refine (hM _ _ _ _ _ hr1 hr2).mono ?_
  rintro z w3 ⟨v3, rfl, ho3, hE3⟩
  obtain ⟨A3, c3, rfl, hr3⟩ := ho3.rd
  replace hr1 := hr1.ext hE3
  replace hr2 := hr2.ext hE3
  go_wp2_with fail
  refine (hS _ _ _ hr1).mono ?_
  rintro z w4 ⟨v4, rfl, ho4, hE4⟩
  obtain ⟨A4, c4, rfl, hr4⟩ := ho4.rd
  replace hr1 := hr1.ext hE4
  replace hr2 := hr2.ext hE4
  replace hr3 := hr3.ext hE4
  go_wp2_with (at_make; refine wp_make rfl _ _ _ rfl Try.underlying38 4097 _ rfl rfl rfl (by omega) ?_; intro g w5 hg5 hb5 hE5)
  rw [HZ.out] at hb5
  have rz := hrz g w5 hb5
  replace hr1 := hr1.ext hE5
  replace hr2 := hr2.ext hE5
  replace hr3 := hr3.ext hE5
  replace hr4 := hr4.ext hE5
  refine (hM2 _ _ _ _ _ hr1 rz).mono ?_
  rintro z w6 ⟨v6, rfl, ho6, hE6⟩
  obtain ⟨A6, c6, rfl, hr6⟩ := ho6.rd
  replace hr1 := hr1.ext hE6
  replace hr2 := hr2.ext hE6
  replace hr3 := hr3.ext hE6
  replace hr4 := hr4.ext hE6
  replace rz := rz.ext hE6
  go_wp2_with fail
  refine (hS2 _ _ _ rz).mono ?_
  rintro z w7 ⟨v7, rfl, ho7, hE7⟩
  obtain ⟨A7, c7, rfl, hr7⟩ := ho7.rd
  replace hr1 := hr1.ext hE7
  replace hr2 := hr2.ext hE7
  replace hr3 := hr3.ext hE7
  replace hr4 := hr4.ext hE7
  replace rz := rz.ext hE7
  go_wp2_with fail
  refine (hD2 _ _ _ rz).mono ?_
  rintro z w8 ⟨v8, rfl, ho8, hE8⟩
  obtain ⟨A8, c8, rfl, hr8⟩ := ho8.rd
  replace hr1 := hr1.ext hE8
  replace hr2 := hr2.ext hE8
  replace hr3 := hr3.ext hE8
  replace hr4 := hr4.ext hE8
  go_wp2_with fail
  refine (hRM _ _ _ _ _ hr1 hr2).mono ?_
  rintro z w9 ⟨v9, rfl, ho9, hE9⟩
  obtain ⟨A9, c9, rfl, hr9⟩ := ho9.rd
  replace hr1 := hr1.ext hE9
  replace hr3 := hr3.ext hE9
  replace hr4 := hr4.ext hE9
  go_wp2_with fail
  refine (hI1 _ _ _ _ _ hr3 hr9).mono ?_
  rintro z w10 ⟨rfl, hE10⟩
  replace hr1 := hr1.ext hE10
  replace hr4 := hr4.ext hE10
  go_wp2_with fail
  refine (hRS _ _ _ hr1).mono ?_
  rintro z w11 ⟨v11, rfl, ho11, hE11⟩
  obtain ⟨A11, c11, rfl, hr11⟩ := ho11.rd
  replace hr4 := hr4.ext hE11
  go_wp2_with fail
  refine (hI2 _ _ _ _ _ hr4 hr11).mono ?_
  rintro z w12 ⟨rfl, hE12⟩
  go_wp2_with fail
  refine (awake04_c _).mono ?_
  rintro z w13 ⟨rfl, hE13⟩
  go_wp2_with fail
  go_ret
  exact ⟨rfl, ((((((((((((hE1.tr hE2).tr hE3).tr hE4).tr hE5).tr hE6).tr hE7).tr hE8).tr hE9).tr hE10).tr hE11).tr hE12).tr hE13)⟩
end Go.Proofs.Ythbnkhgcfcigjaa
