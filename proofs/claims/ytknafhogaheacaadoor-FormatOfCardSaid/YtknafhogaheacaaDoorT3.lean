/- package format: Value, at every float. -/
import Derived.Test.YtknafhogaheacaaDoorS3
import Derived.Test.YtknafhogaheacaaDoorF7
import Derived.Test.YtknafhogaheacaaDoorQ0
set_option linter.unusedVariables false
set_option linter.unusedSimpArgs false
namespace Go.Proofs.YtknafhogaheacaaDoor
open Go.RowKit
attribute [local go_sem ↓] Go.wp_at_zero Go.wp_at_succ

/-- A box with a rational number. -/
structure Bq (w : World) (g : Nat) (a b c : Value) : Prop where
  h : w.heap[g]? = some (.cells #[a, b, c] 27 (0, 0))
theorem Bq.ext {w w' : World} {g : Nat} {a b c : Value} (x : Bq w g a b c) (h : Ext w w') : Bq w' g a b c := ⟨(h.block g (Array.getElem?_eq_some_iff.1 x.h).1).trans x.h⟩
theorem Bq.facts {w : World} {g : Nat} {a b c : Value} (x : Bq w g a b c) : w.cell? ⟨g, 0, none⟩ = some a ∧ w.cell? ⟨g, 1, none⟩ = some b ∧ w.cell? ⟨g, 2, none⟩ = some c ∧ (∀ i, w.frozen? ⟨g, i, none⟩ = false) := by
  have h := x.h
  refine ⟨?_, ?_, ?_, fun i => by simp [World.frozen?, h]⟩ <;> rw [cell_of_row w g _ _ _ _ h] <;> rfl
theorem Bx.far {w : World} {g : Nat} {a b c d : Value} (x : Bx w g a b c d) {p : Addr} (hp : g ≠ p.block) (u : Value) : Bx (w.setCell p u) g a b c d := ⟨(Below.heap_setCell w p u g hp).trans x.h⟩
theorem Bq.new (w : World) (a b c : Value) : Bq (w.alloc (.cells #[a, b, c] 27)) w.heap.size a b c := ⟨heap_alloc_new w _⟩
theorem Bq.put {w : World} {g : Nat} {a b c : Value} (x : Bq w g a b c) (a' b' c' : Value) : Bq (((w.setCell ⟨g, 0, none⟩ a').setCell ⟨g, 1, none⟩ b').setCell ⟨g, 2, none⟩ c') g a' b' c' := by
  have h := x.h
  constructor
  simp [World.setCell, Array.getElem?_modify, h]
theorem Bq.lt {w : World} {g : Nat} {a b c : Value} (x : Bq w g a b c) : g < w.heap.size := (Array.getElem?_eq_some_iff.1 x.h).1
theorem Bq.apart {w : World} {g g' : Nat} {a b c : Value} (x : Bq w g a b c) (hne : g ≠ g') (a' b' c' d' : Value) : Bq ((((w.setCell ⟨g', 0, none⟩ a').setCell ⟨g', 1, none⟩ b').setCell ⟨g', 2, none⟩ c').setCell ⟨g', 3, none⟩ d') g a b c := by
  refine ⟨?_⟩
  rw [Below.heap_setCell _ _ _ _ (by simpa using hne), Below.heap_setCell _ _ _ _ (by simpa using hne), Below.heap_setCell _ _ _ _ (by simpa using hne), Below.heap_setCell _ _ _ _ (by simpa using hne)]
  exact x.h
theorem Ext.putq {w w1 : World} (h : Ext w w1) {g : Nat} (hg : w.heap.size ≤ g) (a b c : Value) : Ext w (((w1.setCell ⟨g, 0, none⟩ a).setCell ⟨g, 1, none⟩ b).setCell ⟨g, 2, none⟩ c) := ((h.set hg 0 a).set hg 1 b).set hg 2 c
/-- A rational number as a value. -/
abbrev ratV (neg : Bool) (v1 v2 : Value) : Value := .agg #[.bool neg, v1, v2]
/-- What Value hands back: the error and the number. -/
def RatR (w : World) (ec : Int) (neg : Bool) (num den : Nat) (z : Ending) (w' : World) : Prop :=
  ∃ v1 v2, z = .returned (.tuple #[ratV neg v1 v2, .int .i64 ec]) ∧ Own w' w.heap.size v1 (cn num) ∧ Own w' w.heap.size v2 (cn den) ∧ Ext w w'
theorem RatR.none {w w' : World} (hE : Ext w w') (ec : Int) : RatR w ec false 0 0 (.returned (.tuple #[ratV false (.slice .none 0 0) (.slice .none 0 0), .int .i64 ec])) w' :=
  ⟨_, _, rfl, by rw [show cn 0 = [] from digs_zero B]; exact Own.nil _ _, by rw [show cn 0 = [] from digs_zero B]; exact Own.nil _ _, hE⟩
theorem Own.one (w : World) : Own (w.alloc (.cells #[.int .u64 1] 50)) w.heap.size (.slice (some ⟨w.heap.size, 0, none⟩) 1 1) [1] :=
  Bk.own (xs := [1]) ⟨heap_alloc_new w _, W64.cons (by decide +kernel) W64.nil⟩ (Nat.le_refl _) (by simp)
theorem cn_one : cn 1 = [1] := by decide +kernel
/-- The two boxes of Value. -/
theorem boxesV (w : World) (a : FA) (h : Rd w a.A a.c a.xs) : ∀ W, W = ((w.alloc (.cells #[.int .i64 a.k, .bool a.neg, .int .i64 a.e, .slice a.A a.xs.length a.c] 31)).alloc (.cells #[.bool false, .slice none 0 0, .slice none 0 0] 27)) →
    Bx W w.heap.size (.int .i64 a.k) (.bool a.neg) (.int .i64 a.e) (.slice a.A a.xs.length a.c) ∧ Bq W (w.heap.size + 1) (.bool false) (.slice none 0 0) (.slice none 0 0) ∧ Ext w W := by
  rintro W rfl
  have h1 := (Ext.refl w).al (.cells #[.int .i64 a.k, .bool a.neg, .int .i64 a.e, .slice a.A a.xs.length a.c] 31)
  have x2 := Bq.new (w.alloc (.cells #[.int .i64 a.k, .bool a.neg, .int .i64 a.e, .slice a.A a.xs.length a.c] 31)) (.bool false) (.slice none 0 0) (.slice none 0 0)
  rw [World.size_alloc] at x2
  exact ⟨(Bx.new w _ _ _ _).ext ((Ext.refl _).al _), x2, h1.al _⟩
end Go.Proofs.YtknafhogaheacaaDoor
