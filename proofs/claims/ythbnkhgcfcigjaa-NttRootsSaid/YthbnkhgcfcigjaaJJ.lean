/- NttRoots: the walk. -/
import Derived.Test.YthbnkhgcfcigjaaJI
set_option linter.unusedVariables false
set_option linter.unusedSimpArgs false
namespace Go.Proofs.Ythbnkhgcfcigjaa
open Go.RowKit

set_option maxHeartbeats 4000000 in
set_option maxRecDepth 100000 in
theorem nttRoots_c (n : Int) (w : World) : Calls Try.prog 3 #[.int .i64 n] w fun e w' => e = .returned (.bool true) ∧ Ext w w' := by
  go_enter Try.func3, Try.ntmps3
  go_wp2_with fail
  go_loopw [0, 3] (fun v0 v3 wr => ∃ (i : Nat) (n : Int), i ≤ 2 ∧ v3 = .int .i64 (i : Int) ∧ v0 = .int .i64 n ∧ Ext w wr) (fun _ v _ => 2 - (intOf v).toNat)
  case atStart => exact ⟨0, n, Nat.zero_le _, rfl, rfl, Ext.refl _⟩
  case round =>
    obtain ⟨i, n, hi, rfl, rfl, hE⟩ := hrel
    by_cases hlt : i < 2
    · have hrt := fun w => Root_c n w
      have hln := fun w => rlength04_c n w
      obtain ⟨x, hx⟩ : ∃ x : Nat, IntKind.u64.wrap n = (x : Int) := ⟨(IntKind.u64.wrap n).toNat, by rw [IntKind.wrap_u64]; omega⟩
      obtain ⟨r, hr⟩ : ∃ r : Nat, x % 17 = r := ⟨_, rfl⟩
      have hr17 : r < 17 := by omega
      have hxr : (x : Int).tmod 17 = (r : Int) := by rw [Int.tmod_eq_emod_of_nonneg (by omega)]; omega
      have hxr2 : (x : Int) % 17 = (r : Int) := by omega
      have hp1 := Nat.two_pow_pos r
      have hp2 : 2 ^ r ≤ 2 ^ 16 := Nat.pow_le_pow_right (by omega) (by omega)
      obtain ⟨P, hP⟩ : ∃ P, 2 ^ r = P := ⟨_, rfl⟩
      have hPi : (2 : Int) ^ r = (P : Int) := by rw [← hP, Int.natCast_pow]; rfl
      rw [hP] at hp1 hp2
      have hp3 : P ≤ 65536 := hp2
      clear hp2 hP hr
      by_cases hb : lenB n = true
      · obtain ⟨h1, h2⟩ := lenB_range hb
        have hrV : rtV n = rootN n.toNat := by unfold rtV; rw [if_pos hb]
        have hrE : rtE n = 0 := by unfold rtE; rw [if_pos hb]
        obtain ⟨m, rfl⟩ := Int.eq_ofNat_of_zero_le (show 0 ≤ n by omega)
        have hrr := fun w => rroot04_c m w (by omega) (by omega)
        rw [Int.toNat_natCast] at hrV
        rw [hrV, hrE] at hrt
        rw [hb] at hln
        generalize rootN m = R at *
        have hne : ((R : Int) != (R : Int)) = false := by simp
        clear hrV hrE hb
        go_wp2_with fail
        refine (hrt _).mono ?_
        rintro z w1 ⟨rfl, rfl⟩
        go_wp2_with fail
        refine (hln _).mono ?_
        rintro z w1 ⟨rfl, rfl⟩
        go_wp2_with fail
        refine (hrr _).mono ?_
        rintro z w2 ⟨rfl, hE2⟩
        go_wp2_with fail
        go_roundw
        case rel => exact ⟨i + 1, _, hlt, by go_num, rfl, hE.tr hE2⟩
        case measure => simp [intOf]; omega
      · have hrV : rtV n = 0 := by unfold rtV; rw [if_neg hb]
        have hrE : rtE n = 1 := by unfold rtE; rw [if_neg hb]
        rw [hrV, hrE] at hrt
        rw [show lenB n = false by simpa using hb] at hln
        clear hrV hrE hb
        go_wp2_with fail
        refine (hrt _).mono ?_
        rintro z w1 ⟨rfl, rfl⟩
        go_wp2_with fail
        refine (hln _).mono ?_
        rintro z w1 ⟨rfl, rfl⟩
        go_wp2_with fail
        go_roundw
        case rel => exact ⟨i + 1, _, hlt, by go_num, rfl, hE⟩
        case measure => simp [intOf]; omega
    · obtain rfl : i = 2 := by omega
      go_wp2_with fail
      refine (awake04_c _).mono ?_
      rintro z w3 ⟨rfl, hE3⟩
      go_wp2_with fail
      go_ret
      exact ⟨rfl, hE.tr hE3⟩
end Go.Proofs.Ythbnkhgcfcigjaa
