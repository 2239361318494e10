/- The reference 03: Trim, Sign, Mul, Add, Sub of integers. -/
import Derived.Test.YtbgomnecchgleaaGreatDoorU1
set_option linter.unusedVariables false
set_option linter.unusedSimpArgs false
namespace Go.Proofs.YtbgomnecchgleaaGreatDoor
open Go.RowKit

/-- The sign of an integer as a number. -/
def sgn (z : Int) : Int := if z < 0 then -1 else if 0 < z then 1 else 0
/-- The boxes of two integers and a result. -/
theorem boxesI (w : World) (n1 n2 : Bool) (v1 v2 : Value) : ∀ W, W = (((w.alloc (.cells #[.bool n1, v1] 42)).alloc (.cells #[.bool n2, v2] 42)).alloc (.cells #[.bool false, .slice none 0 0] 42)) →
    Bi W w.heap.size (.bool n1) v1 ∧ Bi W (w.heap.size + 1) (.bool n2) v2 ∧ Bi W (w.heap.size + 1 + 1) (.bool false) (.slice none 0 0) ∧ Ext w W := by
  rintro W rfl
  have h1 := (Ext.refl w).al (.cells #[.bool n1, v1] 42)
  have x2 := Bi.new (w.alloc (.cells #[.bool n1, v1] 42)) (.bool n2) v2
  have x3 := Bi.new ((w.alloc (.cells #[.bool n1, v1] 42)).alloc (.cells #[.bool n2, v2] 42)) (.bool false) (.slice none 0 0)
  rw [World.size_alloc] at x2
  rw [World.size_alloc, World.size_alloc] at x3
  exact ⟨((Bi.new w _ _).ext ((Ext.refl _).al _)).ext ((Ext.refl _).al _), x2.ext ((Ext.refl _).al _), x3, (h1.al _).al _⟩
theorem Bi.apart {w : World} {g g' : Nat} {a b : Value} (x : Bi w g a b) (hne : g ≠ g') (a' b' : Value) : Bi ((w.setCell ⟨g', 0, none⟩ a').setCell ⟨g', 1, none⟩ b') g a b := by
  refine ⟨?_⟩
  rw [Below.heap_setCell _ _ _ _ (by simpa using hne), Below.heap_setCell _ _ _ _ (by simpa using hne)]
  exact x.h
end Go.Proofs.YtbgomnecchgleaaGreatDoor
