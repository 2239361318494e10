/- package format: Value, at every float. -/
import Derived.Test.YtlnfmngginihfaaGreatDoorS3
import Derived.Test.YtlnfmngginihfaaGreatDoorF7
import Derived.Test.YtlnfmngginihfaaGreatDoorB0
set_option linter.unusedVariables false
set_option linter.unusedSimpArgs false
namespace Go.Proofs.YtlnfmngginihfaaGreatDoor
open Go.RowKit
attribute [local go_sem ↓] Go.wp_at_zero Go.wp_at_succ

theorem Bx.far {w : World} {g : Nat} {a b c d : Value} (x : Bx w g a b c d) {p : Addr} (hp : g ≠ p.block) (u : Value) : Bx (w.setCell p u) g a b c d := ⟨(Below.heap_setCell w p u g hp).trans x.h⟩
theorem Ext.putq {w w1 : World} (h : Ext w w1) {g : Nat} (hg : w.heap.size ≤ g) (a b c : Value) : Ext w (((w1.setCell ⟨g, 0, none⟩ a).setCell ⟨g, 1, none⟩ b).setCell ⟨g, 2, none⟩ c) := ((h.set hg 0 a).set hg 1 b).set hg 2 c
/-- A rational number as a value. -/
abbrev ratV (neg : Bool) (v1 v2 : Value) : Value := .agg #[.bool neg, v1, v2]
/-- What Value hands back: the error and the number. -/
def RatR (w : World) (ec : Int) (neg : Bool) (num den : Nat) (z : Ending) (w' : World) : Prop :=
  ∃ v1 v2, z = .returned (.tuple #[ratV neg v1 v2, .int .i64 ec]) ∧ Own w' w.heap.size v1 (cn num) ∧ Own w' w.heap.size v2 (cn den) ∧ Ext w w'
theorem RatR.none {w w' : World} (hE : Ext w w') (ec : Int) : RatR w ec false 0 0 (.returned (.tuple #[ratV false (.slice .none 0 0) (.slice .none 0 0), .int .i64 ec])) w' :=
  ⟨_, _, rfl, by rw [show cn 0 = [] from digs_zero B]; exact Own.nil _ _, by rw [show cn 0 = [] from digs_zero B]; exact Own.nil _ _, hE⟩
theorem Own.one (w : World) : Own (w.alloc (.cells #[.int .u64 1] 45)) w.heap.size (.slice (some ⟨w.heap.size, 0, none⟩) 1 1) [1] :=
  Bk.own (xs := [1]) ⟨heap_alloc_new w _, W64.cons (by decide +kernel) W64.nil⟩ (Nat.le_refl _) (by simp)
theorem cn_one : cn 1 = [1] := by decide +kernel
end Go.Proofs.YtlnfmngginihfaaGreatDoor
