/- The boxes of a format and a float; what Encode hands back, by its parts. -/
import Derived.Test.YtehlmacgjlgjaaaGreatDoorF8
import Derived.Test.YtehlmacgjlgjaaaGreatDoorS2
set_option linter.unusedVariables false
set_option linter.unusedSimpArgs false
namespace Go.Proofs.YtehlmacgjlgjaaaGreatDoor
open Go.RowKit

/-- A format's box, a float's box and a slice of that float: what Short is handed. -/
theorem three_boxes (w : World) (k p : Int) (a : FA) (h : Rd w a.A a.c a.xs) : ∀ W, W = (((w.alloc (.cells #[.int .i64 k, .int .i64 p] 23)).alloc (.cells #[.int .i64 a.k, .bool a.neg, .int .i64 a.e, .slice a.A a.xs.length a.c] 29)).alloc (.cells #[.int .i64 a.k, .bool a.neg, .int .i64 a.e, .slice a.A a.xs.length a.c] 29)) →
    Bf W w.heap.size (.int .i64 k) (.int .i64 p) ∧ Bx W (w.heap.size + 1) (.int .i64 a.k) (.bool a.neg) (.int .i64 a.e) (.slice a.A a.xs.length a.c) ∧ FRd W (some ⟨w.heap.size + 2, 0, none⟩) 1 [a] ∧ Ext w W := by
  rintro W rfl
  have h1 := (Ext.refl w).al (.cells #[.int .i64 k, .int .i64 p] 23)
  have h2 := h1.al (.cells #[.int .i64 a.k, .bool a.neg, .int .i64 a.e, .slice a.A a.xs.length a.c] 29)
  have hE := h2.al (.cells #[.int .i64 a.k, .bool a.neg, .int .i64 a.e, .slice a.A a.xs.length a.c] 29)
  have x1 := Bx.new (w.alloc (.cells #[.int .i64 k, .int .i64 p] 23)) (.int .i64 a.k) (.bool a.neg) (.int .i64 a.e) (.slice a.A a.xs.length a.c)
  rw [World.size_alloc] at x1
  have x2 := Bx.new ((w.alloc (.cells #[.int .i64 k, .int .i64 p] 23)).alloc (.cells #[.int .i64 a.k, .bool a.neg, .int .i64 a.e, .slice a.A a.xs.length a.c] 29)) (.int .i64 a.k) (.bool a.neg) (.int .i64 a.e) (.slice a.A a.xs.length a.c)
  rw [World.size_alloc, World.size_alloc] at x2
  exact ⟨((Bf.new w _ _).ext ((Ext.refl _).al _)).ext ((Ext.refl _).al _), x1.ext ((Ext.refl _).al _), FRd.one x2 (h.ext hE), hE⟩
/-- A float's box beside a slice of it: what Short is handed. -/
theorem two_boxes (w : World) (a : FA) (h : Rd w a.A a.c a.xs) : Bx ((w.alloc (.cells #[.int .i64 a.k, .bool a.neg, .int .i64 a.e, .slice a.A a.xs.length a.c] 29)).alloc (.cells #[.int .i64 a.k, .bool a.neg, .int .i64 a.e, .slice a.A a.xs.length a.c] 29)) w.heap.size (.int .i64 a.k) (.bool a.neg) (.int .i64 a.e) (.slice a.A a.xs.length a.c) ∧
    FRd ((w.alloc (.cells #[.int .i64 a.k, .bool a.neg, .int .i64 a.e, .slice a.A a.xs.length a.c] 29)).alloc (.cells #[.int .i64 a.k, .bool a.neg, .int .i64 a.e, .slice a.A a.xs.length a.c] 29)) (some ⟨w.heap.size + 1, 0, none⟩) 1 [a] ∧
    Ext w ((w.alloc (.cells #[.int .i64 a.k, .bool a.neg, .int .i64 a.e, .slice a.A a.xs.length a.c] 29)).alloc (.cells #[.int .i64 a.k, .bool a.neg, .int .i64 a.e, .slice a.A a.xs.length a.c] 29)) := by
  have hE := ((Ext.refl w).al (.cells #[.int .i64 a.k, .bool a.neg, .int .i64 a.e, .slice a.A a.xs.length a.c] 29)).al (.cells #[.int .i64 a.k, .bool a.neg, .int .i64 a.e, .slice a.A a.xs.length a.c] 29)
  have h2 := Bx.new (w.alloc (.cells #[.int .i64 a.k, .bool a.neg, .int .i64 a.e, .slice a.A a.xs.length a.c] 29)) (.int .i64 a.k) (.bool a.neg) (.int .i64 a.e) (.slice a.A a.xs.length a.c)
  rw [World.size_alloc] at h2
  exact ⟨(Bx.new w _ _ _ _).ext ((Ext.refl _).al _), FRd.one h2 (h.ext hE), hE⟩
theorem canon_neg {k : Int} {neg : Bool} {e : Int} {m : Nat} {f : Fl} (h : canon k neg e m = some f) : f.neg = neg := by
  by_cases h1 : k = 1
  · subst h1; obtain ⟨rfl, -⟩ := canon_fin h; rfl
  · rw [canon_not1 h1 h]
theorem encN_eq {k p : Int} {a : FA} {f : Fl} (hR : Rgt k p) (h0 : fltE k p a = 0) (hc : a.can = some f) : encN k p a = encM k p f + if a.neg = true then 2 ^ (k + p - 1).toNat else 0 := by
  unfold encN
  rw [if_pos h0, hc]
  have hn : f.neg = a.neg := canon_neg hc
  obtain ⟨h1, h2, h3, h4⟩ := hR
  simp only [encS, hn]
  rw [show (k + p - 1).toNat = k.toNat + p.toNat - 1 by omega]
theorem encN_bad {k p : Int} {a : FA} (h0 : fltE k p a ≠ 0) : encN k p a = 0 := by unfold encN; rw [if_neg h0]
end Go.Proofs.YtehlmacgjlgjaaaGreatDoor
