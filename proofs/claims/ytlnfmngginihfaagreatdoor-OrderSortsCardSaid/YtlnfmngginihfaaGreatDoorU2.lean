/- The references 02 and 03: products of natural numbers; Make, Trim, Neg, Sign of integers. The reference 03: Trim, Sign, Mul, Add, Sub of integers. -/
import Derived.Test.YtlnfmngginihfaaGreatDoorR6
import Derived.Test.YtlnfmngginihfaaGreatDoorR8
set_option linter.unusedVariables false
set_option linter.unusedSimpArgs false
namespace Go.Proofs.YtlnfmngginihfaaGreatDoor
open Go.RowKit

/-- A box with an integer. -/
structure Bi (w : World) (g : Nat) (a b : Value) : Prop where
  h : w.heap[g]? = some (.cells #[a, b] 49 (0, 0))
theorem Bi.ext {w w' : World} {g : Nat} {a b : Value} (x : Bi w g a b) (h : Ext w w') : Bi w' g a b := ⟨(h.block g (Array.getElem?_eq_some_iff.1 x.h).1).trans x.h⟩
theorem Bi.lt {w : World} {g : Nat} {a b : Value} (x : Bi w g a b) : g < w.heap.size := (Array.getElem?_eq_some_iff.1 x.h).1
theorem Bi.facts {w : World} {g : Nat} {a b : Value} (x : Bi w g a b) : w.cell? ⟨g, 0, none⟩ = some a ∧ w.cell? ⟨g, 1, none⟩ = some b ∧ (∀ i, w.frozen? ⟨g, i, none⟩ = false) := by
  have h := x.h
  refine ⟨?_, ?_, fun i => by simp [World.frozen?, h]⟩ <;> rw [cell_of_row w g _ _ _ _ h] <;> rfl
theorem Bi.new (w : World) (a b : Value) : Bi (w.alloc (.cells #[a, b] 49)) w.heap.size a b := ⟨heap_alloc_new w _⟩
theorem Bi.put {w : World} {g : Nat} {a b : Value} (x : Bi w g a b) (a' b' : Value) : Bi ((w.setCell ⟨g, 0, none⟩ a').setCell ⟨g, 1, none⟩ b') g a' b' := by
  have h := x.h
  constructor
  simp [World.setCell, Array.getElem?_modify, h]
theorem Ext.puti {w w1 : World} (h : Ext w w1) {g : Nat} (hg : w.heap.size ≤ g) (a b : Value) : Ext w ((w1.setCell ⟨g, 0, none⟩ a).setCell ⟨g, 1, none⟩ b) := (h.set hg 0 a).set hg 1 b
theorem Own.setBelow' {w : World} {base : Nat} {v : Value} {xs : List Nat} (h : Own w base v xs) {a : Addr} (ha : a.block < base) (u : Value) : Own (w.setCell a u) base v xs := ⟨ownsRow_setCell_below h.own ha u, h.w64⟩
theorem Own.puti {w : World} {base : Nat} {v : Value} {xs : List Nat} (h : Own w base v xs) {g : Nat} (hg : g < base) (a b : Value) : Own ((w.setCell ⟨g, 0, none⟩ a).setCell ⟨g, 1, none⟩ b) base v xs :=
  (h.setBelow' (a := ⟨g, 0, none⟩) hg a).setBelow' (a := ⟨g, 1, none⟩) hg b

/-- The integer of a sign and a size. -/
def sg (neg : Bool) (m : Nat) : Int := if neg = true then -(m : Int) else m
theorem sg_neg (neg : Bool) (m : Nat) : decide (sg neg m < 0) = (neg && decide (0 < m)) := by
  unfold sg
  cases neg <;> simp
theorem sg_abs (neg : Bool) (m : Nat) : (sg neg m).natAbs = m := by unfold sg; cases neg <;> simp
theorem sg_self (z : Int) : sg (decide (z < 0)) z.natAbs = z := by
  unfold sg
  by_cases h : z < 0
  · rw [decide_eq_true h, if_pos rfl]; omega
  · rw [decide_eq_false h, if_neg (by simp)]; omega
/-- An integer as a value. -/
abbrev intV (neg : Bool) (A : Option Addr) (n c : Nat) : Value := .agg #[.bool neg, .slice A n c]
/-- What hands back an integer. -/
def IntR (w : World) (z : Int) (e : Ending) (w' : World) : Prop :=
  ∃ A c, e = .returned (intV (decide (z < 0)) A (cn z.natAbs).length c) ∧ Own w' w.heap.size (.slice A (cn z.natAbs).length c) (cn z.natAbs) ∧ Ext w w'
theorem Own.rdAt {w : World} {base : Nat} {A : Option Addr} {n c : Nat} {xs : List Nat} (h : Own w base (.slice A n c) xs) : n = xs.length ∧ Rd w A c xs := by
  obtain ⟨A', c', e, hr⟩ := h.rd
  injection e with e1 e2 e3
  subst e1 e2 e3
  exact ⟨rfl, hr⟩
end Go.Proofs.YtlnfmngginihfaaGreatDoor
namespace Go.Proofs.YtlnfmngginihfaaGreatDoor
open Go.RowKit

/-- The sign of an integer as a number. -/
def sgn (z : Int) : Int := if z < 0 then -1 else if 0 < z then 1 else 0
/-- The boxes of two integers and a result. -/
theorem boxesI (w : World) (n1 n2 : Bool) (v1 v2 : Value) : ∀ W, W = (((w.alloc (.cells #[.bool n1, v1] 49)).alloc (.cells #[.bool n2, v2] 49)).alloc (.cells #[.bool false, .slice none 0 0] 49)) →
    Bi W w.heap.size (.bool n1) v1 ∧ Bi W (w.heap.size + 1) (.bool n2) v2 ∧ Bi W (w.heap.size + 1 + 1) (.bool false) (.slice none 0 0) ∧ Ext w W := by
  rintro W rfl
  have h1 := (Ext.refl w).al (.cells #[.bool n1, v1] 49)
  have x2 := Bi.new (w.alloc (.cells #[.bool n1, v1] 49)) (.bool n2) v2
  have x3 := Bi.new ((w.alloc (.cells #[.bool n1, v1] 49)).alloc (.cells #[.bool n2, v2] 49)) (.bool false) (.slice none 0 0)
  rw [World.size_alloc] at x2
  rw [World.size_alloc, World.size_alloc] at x3
  exact ⟨((Bi.new w _ _).ext ((Ext.refl _).al _)).ext ((Ext.refl _).al _), x2.ext ((Ext.refl _).al _), x3, (h1.al _).al _⟩
theorem Bi.apart {w : World} {g g' : Nat} {a b : Value} (x : Bi w g a b) (hne : g ≠ g') (a' b' : Value) : Bi ((w.setCell ⟨g', 0, none⟩ a').setCell ⟨g', 1, none⟩ b') g a b := by
  refine ⟨?_⟩
  rw [Below.heap_setCell _ _ _ _ (by simpa using hne), Below.heap_setCell _ _ _ _ (by simpa using hne)]
  exact x.h
end Go.Proofs.YtlnfmngginihfaaGreatDoor
