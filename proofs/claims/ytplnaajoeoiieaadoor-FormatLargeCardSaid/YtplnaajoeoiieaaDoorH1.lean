/- the reference's Named: the same map of names. -/
import Derived.Test.YtplnaajoeoiieaaDoorG1
set_option linter.unusedVariables false
set_option linter.unusedSimpArgs false
namespace Go.Proofs.YtplnaajoeoiieaaDoor
open Go.RowKit

def nmS (k : Nat) : List UInt8 :=
  match k with
  | 0 => [109, 105, 110, 105] | 1 => [104, 97, 108, 102] | 2 => [98, 102, 108, 111, 97, 116] | 3 => [115, 105, 110, 103, 108, 101] | 4 => [100, 111, 117, 98, 108, 101] | 5 => [101, 120, 116, 101, 110, 100, 101, 100] | _ => [113, 117, 97, 100]
theorem nmKP_none {l : List UInt8} (h : ∀ j, j < 7 → nmS j ≠ l) : nmKP l = none := by
  unfold nmKP
  rw [if_neg (fun e => h 0 (by omega) e.symm), if_neg (fun e => h 1 (by omega) e.symm), if_neg (fun e => h 2 (by omega) e.symm), if_neg (fun e => h 3 (by omega) e.symm), if_neg (fun e => h 4 (by omega) e.symm), if_neg (fun e => h 5 (by omega) e.symm), if_neg (fun e => h 6 (by omega) e.symm)]
def fmS (k : Nat) : Int × Int :=
  match k with
  | 0 => (4, 4) | 1 => (5, 11) | 2 => (8, 8) | 3 => (8, 24) | 4 => (11, 53) | 5 => (15, 64) | _ => (15, 113)
theorem nmKP_nmS (k : Nat) (hk : k < 7) : nmKP (nmS k) = some (fmS k) := by
  rcases (show k = 0 ∨ k = 1 ∨ k = 2 ∨ k = 3 ∨ k = 4 ∨ k = 5 ∨ k = 6 by omega) with rfl | rfl | rfl | rfl | rfl | rfl | rfl <;> decide
/-- The world behind the two tables. -/
abbrev nmW (w : World) : World := ((w.alloc (Obj.cells #[.int .i64 0, .int .i64 0] 28)).alloc (Obj.cells #[.string ⟨#[109, 105, 110, 105]⟩, .string ⟨#[104, 97, 108, 102]⟩, .string ⟨#[98, 102, 108, 111, 97, 116]⟩, .string ⟨#[115, 105, 110, 103, 108, 101]⟩, .string ⟨#[100, 111, 117, 98, 108, 101]⟩, .string ⟨#[101, 120, 116, 101, 110, 100, 101, 100]⟩, .string ⟨#[113, 117, 97, 100]⟩] 9)).alloc
  (Obj.cells #[.int .i64 4, .int .i64 4, .int .i64 5, .int .i64 11, .int .i64 8, .int .i64 8, .int .i64 8, .int .i64 24, .int .i64 11, .int .i64 53, .int .i64 15, .int .i64 64, .int .i64 15, .int .i64 113] 28)
set_option maxHeartbeats 4000000 in
set_option maxRecDepth 100000 in
theorem rnamed_c (s : ByteArray) (w : World) :
    Calls Tryd.prog 19 #[.string s] w fun e w' => e = .returned (.tuple #[nmV (nmKP s.data.toList), .bool (nmKP s.data.toList).isSome]) ∧ Ext w w' := by
  go_enter Tryd.func19, Tryd.ntmps19
  go_wp2
  go_loopw [6] (fun v6 wr => ∃ k : Nat, k ≤ 7 ∧ v6 = .int .i64 k ∧ (∀ j, j < k → nmS j ≠ s.data.toList) ∧ wr = nmW w) (fun v _ => 7 - (intOf v).toNat)
  case atStart => exact ⟨0, by omega, rfl, fun j hj => absurd hj (by omega), rfl⟩
  case round =>
    obtain ⟨k, hk, rfl, hno, rfl⟩ := hrel
    have HN := Lib.hid hno
    clear hno
    by_cases h7 : k = 7
    · subst h7
      have hr := nmKP_none HN.out
      have HR := Lib.hid hr
      clear hr
      go_wp2
      refine bodyPost_ret (v := .tuple #[.agg #[.int .i64 0, .int .i64 0], .bool false]) (by simp [results, Tryd.results19, go_sem]) rfl ?_
      exact ⟨by rw [HR.out]; rfl, (by repeat (with_reducible first | exact Ext.refl _ | refine Ext.set ?_ (by simp) _ _ | refine Ext.al ?_ _ | refine Ext.drewN ?_ _ | refine Ext.drew ?_))⟩
    · by_cases hs : nmS k = s.data.toList
      · have hr := nmKP_nmS k (by omega)
        rw [hs] at hr
        have HR := Lib.hid hr
        have hc : (nmS k == s.toList) = true := by rw [ByteArray.toList_eq, hs]; simp
        clear hr hs
        rcases (show k = 0 ∨ k = 1 ∨ k = 2 ∨ k = 3 ∨ k = 4 ∨ k = 5 ∨ k = 6 by omega) with rfl | rfl | rfl | rfl | rfl | rfl | rfl
        all_goals
          simp only [nmS] at hc
          clear hk h7
          go_wp2
          refine bodyPost_ret (v := .tuple #[nmV (nmKP s.data.toList), .bool true]) (by simp [results, Tryd.results19, go_sem, HR.out, nmV, fmS]) rfl ?_
          exact ⟨by rw [HR.out]; rfl, (by repeat (with_reducible first | exact Ext.refl _ | refine Ext.set ?_ (by simp) _ _ | refine Ext.al ?_ _ | refine Ext.drewN ?_ _ | refine Ext.drew ?_))⟩
      · have hc : (nmS k == s.toList) = false := by rw [ByteArray.toList_eq]; exact beq_eq_false_iff_ne.2 hs
        have hno2 : ∀ j, j < k + 1 → nmS j ≠ s.data.toList := fun j hj => by
          rcases Nat.lt_or_ge j k with h1 | h1
          · exact HN.out j h1
          · rw [show j = k by omega]; exact hs
        have HN2 := Lib.hid hno2
        clear hno2 hs
        rcases (show k = 0 ∨ k = 1 ∨ k = 2 ∨ k = 3 ∨ k = 4 ∨ k = 5 ∨ k = 6 by omega) with rfl | rfl | rfl | rfl | rfl | rfl | rfl
        all_goals
          simp only [nmS] at hc
          clear hk h7
          go_wp2
          go_roundw
          case rel =>
            refine ⟨_, ?_, ?_, HN2.out, ?_⟩ <;> simp
          case measure => simp [intOf]
end Go.Proofs.YtplnaajoeoiieaaDoor
