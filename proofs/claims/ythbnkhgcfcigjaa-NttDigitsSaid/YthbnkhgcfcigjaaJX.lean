/- NttLongs: the walk. -/
import Derived.Test.YthbnkhgcfcigjaaJP
import Derived.Test.YthbnkhgcfcigjaaJI
import Derived.Test.YthbnkhgcfcigjaaJL
set_option linter.unusedVariables false
set_option linter.unusedSimpArgs false
namespace Go.Proofs.Ythbnkhgcfcigjaa
open Go.RowKit

theorem okL_yes {xs ys : List Nat} (h1 : xs.length ≤ 32768) (h2 : ys.length ≤ 32768) (h3 : Al xs) (h4 : Al ys) : okL xs ys = true := by
  unfold okL
  rw [big_of_al h3, big_of_al h4, decide_eq_true h1, decide_eq_true h2]
  rfl
theorem okL_no {xs ys : List Nat} (h : 32768 < xs.length ∨ 32768 < ys.length) : okL xs ys = false := by
  unfold okL
  rcases h with h | h
  · rw [decide_eq_false (by omega)]
    rfl
  · rw [decide_eq_false (p := ys.length ≤ 32768) (by omega)]
    cases decide (xs.length ≤ 32768) <;> rfl
theorem okT_no {xs : List Nat} (h : 65536 < xs.length) : okT xs = false := by
  unfold okT lenB
  rw [decide_eq_false (p := (xs.length : Int) ≤ 65536) (by omega)]
  cases decide (1 ≤ (xs.length : Int)) <;> rfl
set_option maxHeartbeats 8000000 in
set_option maxRecDepth 100000 in
theorem nttLongs_c (A : Option Addr) (c : Nat) (xs : List Nat) (A' : Option Addr) (c' : Nat) (ys : List Nat) (w : World) (h : Rd w A c xs) (h' : Rd w A' c' ys) :
    Calls Try.prog 5 #[.slice A xs.length c, .slice A' ys.length c'] w fun e w' => e = .returned (.bool true) ∧ Ext w w' := by
  have hf1 := residues_c A c xs 40 w h (by omega)
  have hf2 := fun w h => residues_c A' c' ys 40 w h (by omega)
  have l1 : (rsL xs (min xs.length 40)).length ≤ 40 := by rw [rsL_len]; omega
  have l2 : (rsL ys (min ys.length 40)).length ≤ 40 := by rw [rsL_len]; omega
  have w1 := rsL_al xs (min xs.length 40)
  have w2 := rsL_al ys (min ys.length 40)
  generalize rsL xs (min xs.length 40) = a at *
  generalize rsL ys (min ys.length 40) = b at *
  have hM := fun A A' c c' w h h' => Long_c A A' c c' a b w h h'
  simp only [okL_yes (xs := a) (ys := b) (by omega) (by omega) w1 w2, if_true] at hM
  have hzl : (List.replicate 32769 0 : List Nat).length = 32769 := List.length_replicate
  have hyl : (List.replicate 131072 0 : List Nat).length = 131072 := List.length_replicate
  have hM2 := fun A A' c c' w h h' => Long_c A A' c c' (List.replicate 32769 0) a w h h'
  have hM3 := fun A A' c c' w h h' => Long_c A A' c c' a (List.replicate 32769 0) w h h'
  have hT := fun A c w h => Transform_c A c (List.replicate 131072 0) w h (by rw [hyl]; omega)
  simp only [okL_no (xs := List.replicate 32769 0) (ys := a) (.inl (by rw [hzl]; omega)), Bool.false_eq_true, if_false] at hM2
  simp only [okL_no (xs := a) (ys := List.replicate 32769 0) (.inr (by rw [hzl]; omega)), Bool.false_eq_true, if_false] at hM3
  simp only [okT_no (xs := List.replicate 131072 0) (by rw [hyl]; omega), Bool.false_eq_true, if_false] at hT
  have hR := fun A A' c c' w h h' => rlong04_c A A' c c' a b w h h' (by omega) (by omega) w1 w2
  have hS := fun A A' c c' w h h' => same04_c A A' c c' (lgL a b) (lgL a b) w h h'
  simp only [decide_true] at hS
  rw [hzl] at hM2 hM3
  rw [hyl] at hT
  have hrz : ∀ (g : Nat) (w : World), Bk w g (List.replicate 32769 0) → Rd w (some ⟨g, 0, none⟩) 32769 (List.replicate 32769 0) := fun g w hb => hb.rd (by rw [hzl]; omega) (by rw [hzl]; exact Nat.le_refl _)
  have hry : ∀ (g : Nat) (w : World), Bk w g (List.replicate 131072 0) → Rd w (some ⟨g, 0, none⟩) 131072 (List.replicate 131072 0) := fun g w hb => hb.rd (by rw [hyl]; omega) (by rw [hyl]; exact Nat.le_refl _)
  generalize lgL a b = L at *
  obtain ⟨Z, hZ⟩ : ∃ Z : List Nat, List.replicate 32769 0 = Z := ⟨_, rfl⟩
  rw [hZ] at hM2 hM3 hrz
  obtain ⟨Y, hY⟩ : ∃ Y : List Nat, List.replicate 131072 0 = Y := ⟨_, rfl⟩
  rw [hY] at hT hry
  have HZ := Lib.hid hZ
  have HY := Lib.hid hY
  clear w1 w2 hzl hZ hyl hY
  go_enter Try.func5, Try.ntmps5
  go_wp2_with fail
  refine hf1.mono ?_
  rintro z w1 ⟨v1, rfl, ho1, hE1⟩
  obtain ⟨A1, c1, rfl, hr1⟩ := ho1.rd
  go_wp2_with fail
  refine (hf2 _ (h'.ext hE1)).mono ?_
  rintro z w2 ⟨v2, rfl, ho2, hE2⟩
  obtain ⟨A2, c2, rfl, hr2⟩ := ho2.rd
  replace hr1 := hr1.ext hE2
  go_wp2_with fail
  refine (hM _ _ _ _ _ hr1 hr2).mono ?_
  rintro z w3 ⟨v3, rfl, ho3, hE3⟩
  obtain ⟨A3, c3, rfl, hr3⟩ := ho3.rd
  replace hr1 := hr1.ext hE3
  replace hr2 := hr2.ext hE3
  go_wp2_with (at_make; refine wp_make rfl _ _ _ rfl Try.underlying30 32769 _ rfl rfl rfl (by omega) ?_; intro g w5 hg5 hb5 hE5)
  rw [HZ.out] at hb5
  have rz := hrz g w5 hb5
  replace hr1 := hr1.ext hE5
  replace hr2 := hr2.ext hE5
  replace hr3 := hr3.ext hE5
  refine (hM2 _ _ _ _ _ rz hr1).mono ?_
  rintro z w6 ⟨v6, rfl, ho6, hE6⟩
  obtain ⟨A6, c6, rfl, hr6⟩ := ho6.rd
  replace hr1 := hr1.ext hE6
  replace hr2 := hr2.ext hE6
  replace hr3 := hr3.ext hE6
  clear rz hb5 hg5
  go_wp2_with (at_make; refine wp_make rfl _ _ _ rfl Try.underlying30 32769 _ rfl rfl rfl (by omega) ?_; intro g2 w7 hg7 hb7 hE7)
  rw [HZ.out] at hb7
  have rz := hrz g2 w7 hb7
  replace hr1 := hr1.ext hE7
  replace hr2 := hr2.ext hE7
  replace hr3 := hr3.ext hE7
  refine (hM3 _ _ _ _ _ hr1 rz).mono ?_
  rintro z w8 ⟨v8, rfl, ho8, hE8⟩
  obtain ⟨A8, c8, rfl, hr8⟩ := ho8.rd
  replace hr1 := hr1.ext hE8
  replace hr2 := hr2.ext hE8
  replace hr3 := hr3.ext hE8
  clear rz hb7 hg7
  go_wp2_with (at_make; refine wp_make rfl _ _ _ rfl Try.underlying30 131072 _ rfl rfl rfl (by omega) ?_; intro g3 w9 hg9 hb9 hE9)
  rw [HY.out] at hb9
  have ry := hry g3 w9 hb9
  replace hr1 := hr1.ext hE9
  replace hr2 := hr2.ext hE9
  replace hr3 := hr3.ext hE9
  refine (hT _ _ _ ry).mono ?_
  rintro z w10 ⟨v10, rfl, ho10, hE10⟩
  obtain ⟨A10, c10, rfl, hr10⟩ := ho10.rd
  replace hr1 := hr1.ext hE10
  replace hr2 := hr2.ext hE10
  replace hr3 := hr3.ext hE10
  clear ry hb9 hg9
  go_wp2_with fail
  refine (hR _ _ _ _ _ hr1 hr2).mono ?_
  rintro z w11 ⟨v11, rfl, ho11, hE11⟩
  obtain ⟨A11, c11, rfl, hr11⟩ := ho11.rd
  replace hr3 := hr3.ext hE11
  go_wp2_with fail
  refine (hS _ _ _ _ _ hr3 hr11).mono ?_
  rintro z w12 ⟨rfl, n12, rfl⟩
  have hE12 := hE11.drewN n12
  go_wp2_with fail
  refine (awake04_c _).mono ?_
  rintro z w13 ⟨rfl, hE13⟩
  go_wp2_with fail
  go_ret
  exact ⟨rfl, (((((((((hE1.tr hE2).tr hE3).tr hE5).tr hE6).tr hE7).tr hE8).tr hE9).tr hE10).tr hE12).tr hE13⟩
end Go.Proofs.Ythbnkhgcfcigjaa
