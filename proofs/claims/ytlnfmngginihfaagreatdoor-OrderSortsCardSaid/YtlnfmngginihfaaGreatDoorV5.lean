/- the reference's Top, Normal and Bottom. -/
import Derived.Test.YtlnfmngginihfaaGreatDoorV4
set_option linter.unusedVariables false
set_option linter.unusedSimpArgs false
namespace Go.Proofs.YtlnfmngginihfaaGreatDoor
open Go.RowKit
attribute [local go_sem ↓] Go.wp_at_zero Go.wp_at_succ

/-- A float in new memory. -/
def FlrR (w : World) (f : Fl) (z : Ending) (w' : World) : Prop := ∃ u, z = .returned u ∧ FlR w' w.heap.size f u ∧ Ext w w'
theorem Bg.apart {w : World} {g g' : Nat} {a b : Value} (x : Bg w g a b) (hne : g ≠ g') (a' b' c' d' : Value) : Bg ((((w.setCell ⟨g', 0, none⟩ a').setCell ⟨g', 1, none⟩ b').setCell ⟨g', 2, none⟩ c').setCell ⟨g', 3, none⟩ d') g a b := by
  refine ⟨?_⟩
  rw [Below.heap_setCell _ _ _ _ (by simpa using hne), Below.heap_setCell _ _ _ _ (by simpa using hne), Below.heap_setCell _ _ _ _ (by simpa using hne), Below.heap_setCell _ _ _ _ (by simpa using hne)]
  exact x.h
theorem boxesG (w : World) (k p : Int) : ∀ W, W = ((w.alloc (.cells #[.int .i64 k, .int .i64 p] 60)).alloc (.cells #[.int .i64 0, .bool false, .int .i64 0, .slice none 0 0] 42)) → Bg W w.heap.size (.int .i64 k) (.int .i64 p) ∧ Br W (w.heap.size + 1) (.int .i64 0) (.bool false) (.int .i64 0) (.slice none 0 0) ∧ Ext w W := by
  rintro W rfl
  have h1 := (Ext.refl w).al (.cells #[.int .i64 k, .int .i64 p] 60)
  have x1 := Br.new (w.alloc (.cells #[.int .i64 k, .int .i64 p] 60)) (.int .i64 0) (.bool false) (.int .i64 0) (.slice none 0 0)
  rw [World.size_alloc] at x1
  exact ⟨(Bg.new w _ _).ext ((Ext.refl _).al _), x1, h1.al _⟩
end Go.Proofs.YtlnfmngginihfaaGreatDoor
