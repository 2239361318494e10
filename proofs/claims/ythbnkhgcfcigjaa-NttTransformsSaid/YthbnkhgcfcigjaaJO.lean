/- NttTransforms: the walk. -/
import Derived.Test.YthbnkhgcfcigjaaJN
set_option linter.unusedVariables false
set_option linter.unusedSimpArgs false
namespace Go.Proofs.Ythbnkhgcfcigjaa
open Go.RowKit

set_option maxHeartbeats 8000000 in
set_option maxRecDepth 100000 in
theorem nttTransforms_c (A : Option Addr) (c : Nat) (xs : List Nat) (w : World) (h : Rd w A c xs) : Calls Try.prog 7 #[.slice A xs.length c] w fun e w' => e = .returned (.bool true) ∧ Ext w w' := by
  have hfw := few_c A c xs 40 w h (by omega)
  have htm := fun w h => tame_c A c xs 5 w h (by omega)
  have hl40 : (xs.take 40).length ≤ 100 := by rw [List.length_take]; omega
  generalize xs.take 40 = a0 at *
  go_enter Try.func7, Try.ntmps7
  go_wp2_with fail
  refine hfw.mono ?_
  rintro z w1 ⟨v1, rfl, ho1, hE1⟩
  obtain ⟨A1, c1, rfl, hr1⟩ := ho1.rd
  go_wp2_with fail
  go_loopw [3, 4] (fun v3 v4 wr => ∃ (i : Nat) (A1 : Option Addr) (c1 : Nat) (a : List Nat), i ≤ 2 ∧ v4 = .int .i64 (i : Int) ∧ v3 = .slice A1 a.length c1 ∧ Rd wr A1 c1 a ∧ a.length ≤ 100 ∧ Ext w wr) (fun _ v _ => 2 - (intOf v).toNat)
  case atStart => exact ⟨0, A1, c1, a0, Nat.zero_le _, rfl, rfl, hr1, hl40, hE1⟩
  case round =>
    clear hr1 ho1 hfw hl40 hE1
    obtain ⟨i, A2, c2, a, hi, rfl, rfl, hr, hla, hE⟩ := hrel
    by_cases hlt : i < 2
    · have hT := fun w h => Transform_c A2 c2 a w h (by omega)
      have hB := fun w h => Back_c A2 c2 a w h (by omega)
      have hLn := fun w => rlength04_c (a.length : Int) w
      have hRs := fun w h => rresidues04_c A2 c2 a w h
      by_cases hok : okT a = true
      · obtain ⟨m, hm, he, hal⟩ := okT_use hok
        rw [if_pos hok, if_pos hok] at hT hB
        have hok2 := hok
        unfold okT at hok2
        rw [Bool.and_eq_true, Bool.not_eq_true'] at hok2
        rw [hok2.1] at hLn
        rw [hok2.2] at hRs
        have hRT := fun w h => rtransform04_c m hm A2 c2 a w h he hal
        have hRB := fun w h => rback04_c m hm A2 c2 a w h he hal
        have hS1 := fun A A' c c' w h h' => same04_c A A' c c' (dftL (rootN a.length) a) (dftL (rootN a.length) a) w h h'
        have hS2 := fun A A' c c' w h h' => same04_c A A' c c' (bkL a) (bkL a) w h h'
        simp only [decide_true] at hS1 hS2
        generalize dftL (rootN a.length) a = T at *
        generalize bkL a = K at *
        clear hok hok2 he hal
        go_wp2_with fail
        refine (hT _ hr).mono ?_
        rintro z w2 ⟨v2, rfl, ho2, hE2⟩
        obtain ⟨A3, c3, rfl, hr3⟩ := ho2.rd
        go_wp2_with fail
        refine (hB _ (hr.ext hE2)).mono ?_
        rintro z w3 ⟨v3, rfl, ho3, hE3⟩
        obtain ⟨A4, c4, rfl, hr4⟩ := ho3.rd
        go_wp2_with fail
        refine (hLn _).mono ?_
        rintro z w4 ⟨rfl, rfl⟩
        go_wp2_with fail
        refine (hRs _ ((hr.ext hE2).ext hE3)).mono ?_
        rintro z w4 ⟨rfl, rfl⟩
        go_wp2_with fail
        refine (hRT _ ((hr.ext hE2).ext hE3)).mono ?_
        rintro z w4 ⟨v4, rfl, ho4, hE4⟩
        obtain ⟨A5, c5, rfl, hr5⟩ := ho4.rd
        go_wp2_with fail
        refine (hS1 _ _ _ _ _ ((hr3.ext hE3).ext hE4) hr5).mono ?_
        rintro z w5 ⟨rfl, n5, rfl⟩
        have hE5 := hE4.drewN n5
        go_wp2_with fail
        refine (hRB _ (((hr.ext hE2).ext hE3).ext hE5)).mono ?_
        rintro z w6 ⟨v6, rfl, ho6, hE6⟩
        obtain ⟨A6, c6, rfl, hr6⟩ := ho6.rd
        go_wp2_with fail
        refine (hS2 _ _ _ _ _ ((hr4.ext hE5).ext hE6) hr6).mono ?_
        rintro z w7 ⟨rfl, n7, rfl⟩
        have hE7 := ((((hE.tr hE2).tr hE3).tr hE5).tr hE6).drewN n7
        go_wp2_with fail
        refine (htm _ (h.ext hE7)).mono ?_
        rintro z w8 ⟨k8, hk8, v8, rfl, ho8, hE8⟩
        obtain ⟨A8, c8, rfl, hr8⟩ := ho8.rd
        go_wp2_with fail
        go_roundw
        case rel => exact ⟨i + 1, A8, c8, _, hlt, by go_num, rfl, hr8, by rw [rsL_len]; have := Nat.pow_le_pow_right (n := 2) (by omega) hk8; omega, hE7.tr hE8⟩
        case measure => simp [intOf]; omega
      · rw [if_neg hok, if_neg hok] at hT hB
        have hok2 : lenB (a.length : Int) = false ∨ (lenB (a.length : Int) = true ∧ bigB a = true) := by
          unfold okT at hok
          revert hok
          cases lenB (a.length : Int) <;> cases bigB a <;> simp
        clear hok
        rcases hok2 with h1 | ⟨h1, h2⟩
        · rw [h1] at hLn
          clear h1
          go_wp2_with fail
          refine (hT _ hr).mono ?_
          rintro z w2 ⟨v2, rfl, ho2, hE2⟩
          obtain ⟨A3, c3, rfl, hr3⟩ := ho2.rd
          go_wp2_with fail
          refine (hB _ (hr.ext hE2)).mono ?_
          rintro z w3 ⟨v3, rfl, ho3, hE3⟩
          obtain ⟨A4, c4, rfl, hr4⟩ := ho3.rd
          go_wp2_with fail
          refine (hLn _).mono ?_
          rintro z w4 ⟨rfl, rfl⟩
          have hE7 := (hE.tr hE2).tr hE3
          go_wp2_with fail
          refine (htm _ (h.ext hE7)).mono ?_
          rintro z w8 ⟨k8, hk8, v8, rfl, ho8, hE8⟩
          obtain ⟨A8, c8, rfl, hr8⟩ := ho8.rd
          go_wp2_with fail
          go_roundw
          case rel => exact ⟨i + 1, A8, c8, _, hlt, by go_num, rfl, hr8, by rw [rsL_len]; have := Nat.pow_le_pow_right (n := 2) (by omega) hk8; omega, hE7.tr hE8⟩
          case measure => simp [intOf]; omega
        · rw [h1] at hLn
          rw [h2] at hRs
          clear h1 h2
          go_wp2_with fail
          refine (hT _ hr).mono ?_
          rintro z w2 ⟨v2, rfl, ho2, hE2⟩
          obtain ⟨A3, c3, rfl, hr3⟩ := ho2.rd
          go_wp2_with fail
          refine (hB _ (hr.ext hE2)).mono ?_
          rintro z w3 ⟨v3, rfl, ho3, hE3⟩
          obtain ⟨A4, c4, rfl, hr4⟩ := ho3.rd
          go_wp2_with fail
          refine (hLn _).mono ?_
          rintro z w4 ⟨rfl, rfl⟩
          go_wp2_with fail
          refine (hRs _ ((hr.ext hE2).ext hE3)).mono ?_
          rintro z w4 ⟨rfl, rfl⟩
          have hE7 := (hE.tr hE2).tr hE3
          go_wp2_with fail
          refine (htm _ (h.ext hE7)).mono ?_
          rintro z w8 ⟨k8, hk8, v8, rfl, ho8, hE8⟩
          obtain ⟨A8, c8, rfl, hr8⟩ := ho8.rd
          go_wp2_with fail
          go_roundw
          case rel => exact ⟨i + 1, A8, c8, _, hlt, by go_num, rfl, hr8, by rw [rsL_len]; have := Nat.pow_le_pow_right (n := 2) (by omega) hk8; omega, hE7.tr hE8⟩
          case measure => simp [intOf]; omega
    · obtain rfl : i = 2 := by omega
      go_wp2_with fail
      refine (awake04_c _).mono ?_
      rintro z w3 ⟨rfl, hE3⟩
      go_wp2_with fail
      go_ret
      exact ⟨rfl, hE.tr hE3⟩
end Go.Proofs.Ythbnkhgcfcigjaa
