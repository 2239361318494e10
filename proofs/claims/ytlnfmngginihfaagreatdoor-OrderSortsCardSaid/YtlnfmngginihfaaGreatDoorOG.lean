/- package order: Compare. package order: choose, Min, Max. package order: Toward. -/
import Derived.Test.YtlnfmngginihfaaGreatDoorOA
import Derived.Test.YtlnfmngginihfaaGreatDoorOC
set_option linter.unusedVariables false
set_option linter.unusedSimpArgs false
namespace Go.Proofs.YtlnfmngginihfaaGreatDoor
open Go.RowKit

/-- What Compare answers of two floats of a format. -/
def cmpV (k p : Int) (f g : Fl) : Int := if f.kind = 3 ∨ g.kind = 3 then 0 else sgn (idx k p f - idx k p g)
def cmpB (f g : Fl) : Bool := decide (f.kind ≠ 3 ∧ g.kind ≠ 3)
theorem cmp_cases (k p : Int) (f g : Fl) : ((((f.kind == 3) = true ∨ ((f.kind == 3) = false ∧ (g.kind == 3) = true)) ∧ cmpV k p f g = 0 ∧ cmpB f g = false)) ∨ ((f.kind == 3) = false ∧ (g.kind == 3) = false ∧ cmpV k p f g = sgn (idx k p f - idx k p g) ∧ cmpB f g = true) := by
  unfold cmpV cmpB
  by_cases h1 : f.kind = 3
  · exact .inl ⟨.inl (by simpa using h1), by rw [if_pos (.inl h1)], by simp [h1]⟩
  · by_cases h2 : g.kind = 3
    · exact .inl ⟨.inr ⟨by simpa using h1, by simpa using h2⟩, by rw [if_pos (.inr h2)], by simp [h2]⟩
    · exact .inr ⟨by simpa using h1, by simpa using h2, by rw [if_neg (by omega)], by simp [h1, h2]⟩
end Go.Proofs.YtlnfmngginihfaaGreatDoor
namespace Go.Proofs.YtlnfmngginihfaaGreatDoor
open Go.RowKit

/-- The boxes of a function over a format and two floats that hands back a float. -/
theorem boxesC (w : World) (k p : Int) (a b : FA) : ∀ W, W = ((((w.alloc (.cells #[.int .i64 k, .int .i64 p] 23)).alloc (.cells #[.int .i64 a.k, .bool a.neg, .int .i64 a.e, .slice a.A a.xs.length a.c] 40)).alloc (.cells #[.int .i64 b.k, .bool b.neg, .int .i64 b.e, .slice b.A b.xs.length b.c] 40)).alloc (.cells #[.int .i64 0, .bool false, .int .i64 0, .slice none 0 0] 40)) →
    Bf W w.heap.size (.int .i64 k) (.int .i64 p) ∧ Bx W (w.heap.size + 1) (.int .i64 a.k) (.bool a.neg) (.int .i64 a.e) (.slice a.A a.xs.length a.c) ∧ Bx W (w.heap.size + 1 + 1) (.int .i64 b.k) (.bool b.neg) (.int .i64 b.e) (.slice b.A b.xs.length b.c) ∧ Bx W (w.heap.size + 1 + 1 + 1) (.int .i64 0) (.bool false) (.int .i64 0) (.slice none 0 0) ∧ Ext w W := by
  rintro W rfl
  obtain ⟨h1, h2, h3, h4⟩ := boxesT w k p a b _ rfl
  have x4 := Bx.new (((w.alloc (.cells #[.int .i64 k, .int .i64 p] 23)).alloc (.cells #[.int .i64 a.k, .bool a.neg, .int .i64 a.e, .slice a.A a.xs.length a.c] 40)).alloc (.cells #[.int .i64 b.k, .bool b.neg, .int .i64 b.e, .slice b.A b.xs.length b.c] 40)) (.int .i64 0) (.bool false) (.int .i64 0) (.slice none 0 0)
  rw [World.size_alloc, World.size_alloc, World.size_alloc] at x4
  exact ⟨h1.ext ((Ext.refl _).al _), h2.ext ((Ext.refl _).al _), h3.ext ((Ext.refl _).al _), x4, h4.al _⟩
/-- The boxes behind pair: x and y hold the canonical floats. -/
theorem after_pair {w w3 : World} {k p : Int} {a1 b1 c1 d1 a2 b2 c2 d2 a3 b3 c3 d3 : Value} (hF : Bf w3 w.heap.size (.int .i64 k) (.int .i64 p)) (hX : Bx w3 (w.heap.size + 1) a1 b1 c1 d1) (hY : Bx w3 (w.heap.size + 1 + 1) a2 b2 c2 d2) (hR : Bx w3 (w.heap.size + 1 + 1 + 1) a3 b3 c3 d3) (hE : Ext w w3)
    {v1 v2 : Value} {X Y : List Nat} (ho1 : Own w3 (w.heap.size + 1 + 1 + 1 + 1) v1 X) (ho2 : Own w3 (w.heap.size + 1 + 1 + 1 + 1) v2 Y) (fk fn fe gk gn ge : Value) :
    ∀ W, W = ((((((((w3.setCell ⟨w.heap.size + 1, 0, none⟩ fk).setCell ⟨w.heap.size + 1, 1, none⟩ fn).setCell ⟨w.heap.size + 1, 2, none⟩ fe).setCell ⟨w.heap.size + 1, 3, none⟩ v1).setCell ⟨w.heap.size + 1 + 1, 0, none⟩ gk).setCell ⟨w.heap.size + 1 + 1, 1, none⟩ gn).setCell ⟨w.heap.size + 1 + 1, 2, none⟩ ge).setCell ⟨w.heap.size + 1 + 1, 3, none⟩ v2) →
    Bf W w.heap.size (.int .i64 k) (.int .i64 p) ∧ Bx W (w.heap.size + 1) fk fn fe v1 ∧ Bx W (w.heap.size + 1 + 1) gk gn ge v2 ∧ Bx W (w.heap.size + 1 + 1 + 1) a3 b3 c3 d3 ∧ Ext w W ∧ Own W (w.heap.size + 1 + 1 + 1 + 1) v1 X ∧ Own W (w.heap.size + 1 + 1 + 1 + 1) v2 Y := by
  rintro W rfl
  exact ⟨(hF.apart (g' := w.heap.size + 1) (by omega) _ _ _ _).apart (g' := w.heap.size + 1 + 1) (by omega) _ _ _ _,
    (hX.put _ _ _ _).apart (g' := w.heap.size + 1 + 1) (by omega) _ _ _ _,
    (hY.apart (g' := w.heap.size + 1) (by omega) _ _ _ _).put _ _ _ _,
    (hR.apart (g' := w.heap.size + 1) (by omega) _ _ _ _).apart (g' := w.heap.size + 1 + 1) (by omega) _ _ _ _,
    (hE.put (g := w.heap.size + 1) (by omega) _ _ _ _).put (g := w.heap.size + 1 + 1) (by omega) _ _ _ _,
    (ho1.putBelow (g := w.heap.size + 1) (by omega) _ _ _ _).putBelow (g := w.heap.size + 1 + 1) (by omega) _ _ _ _,
    (ho2.putBelow (g := w.heap.size + 1) (by omega) _ _ _ _).putBelow (g := w.heap.size + 1 + 1) (by omega) _ _ _ _⟩
/-- What choose answers. -/
def choF (k p : Int) (f g : Fl) (side : Int) : Fl := if f.kind = 3 then g else if g.kind = 3 ∨ totF k p f g = side then f else g
theorem cho_cases (k p : Int) (f g : Fl) (side : Int) : ((f.kind == 3) = true ∧ choF k p f g side = g) ∨ ((f.kind == 3) = false ∧ (g.kind == 3) = true ∧ choF k p f g side = f) ∨
    ((f.kind == 3) = false ∧ (g.kind == 3) = false ∧ (totF k p f g == side) = true ∧ choF k p f g side = f) ∨ ((f.kind == 3) = false ∧ (g.kind == 3) = false ∧ (totF k p f g == side) = false ∧ choF k p f g side = g) := by
  unfold choF
  by_cases h1 : f.kind = 3
  · exact .inl ⟨by simpa using h1, by rw [if_pos h1]⟩
  · by_cases h2 : g.kind = 3
    · exact .inr (.inl ⟨by simpa using h1, by simpa using h2, by rw [if_neg h1, if_pos (.inl h2)]⟩)
    · by_cases h3 : totF k p f g = side
      · exact .inr (.inr (.inl ⟨by simpa using h1, by simpa using h2, by simpa using h3, by rw [if_neg h1, if_pos (.inr h3)]⟩))
      · exact .inr (.inr (.inr ⟨by simpa using h1, by simpa using h2, by simpa using h3, by rw [if_neg h1, if_neg (by rintro (h | h) <;> contradiction)]⟩))
end Go.Proofs.YtlnfmngginihfaaGreatDoor
namespace Go.Proofs.YtlnfmngginihfaaGreatDoor
open Go.RowKit

/-- What Toward answers. -/
def towF (k p : Int) (f g : Fl) : Fl := if f.kind = 3 ∨ g.kind = 3 then ⟨3, false, 0, 0⟩ else if sgn (idx k p f - idx k p g) = 0 then g else nextF k p f (decide (sgn (idx k p f - idx k p g) < 0))
theorem tow_cases (k p : Int) (f g : Fl) : (((f.kind == 3) = true ∨ ((f.kind == 3) = false ∧ (g.kind == 3) = true)) ∧ towF k p f g = ⟨3, false, 0, 0⟩) ∨ ((f.kind == 3) = false ∧ (g.kind == 3) = false ∧ (sgn (idx k p f - idx k p g) == 0) = true ∧ towF k p f g = g) ∨
    ((f.kind == 3) = false ∧ (g.kind == 3) = false ∧ (sgn (idx k p f - idx k p g) == 0) = false ∧ towF k p f g = nextF k p f (decide (sgn (idx k p f - idx k p g) < 0))) := by
  unfold towF
  by_cases h1 : f.kind = 3
  · exact .inl ⟨.inl (by simpa using h1), by rw [if_pos (.inl h1)]⟩
  · by_cases h2 : g.kind = 3
    · exact .inl ⟨.inr ⟨by simpa using h1, by simpa using h2⟩, by rw [if_pos (.inr h2)]⟩
    · by_cases h3 : sgn (idx k p f - idx k p g) = 0
      · exact .inr (.inl ⟨by simpa using h1, by simpa using h2, by simpa using h3, by rw [if_neg (by omega), if_pos h3]⟩)
      · exact .inr (.inr ⟨by simpa using h1, by simpa using h2, by simpa using h3, by rw [if_neg (by omega), if_neg h3]⟩)
end Go.Proofs.YtlnfmngginihfaaGreatDoor
