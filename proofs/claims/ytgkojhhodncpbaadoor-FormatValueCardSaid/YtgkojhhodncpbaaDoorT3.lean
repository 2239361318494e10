/- package format: Value, at every float. -/
import Derived.Test.YtgkojhhodncpbaaDoorS3
import Derived.Test.YtgkojhhodncpbaaDoorF7
import Derived.Test.YtgkojhhodncpbaaDoorQ0
set_option linter.unusedVariables false
set_option linter.unusedSimpArgs false
namespace Go.Proofs.YtgkojhhodncpbaaDoor
open Go.RowKit
attribute [local go_sem ↓] Go.wp_at_zero Go.wp_at_succ

/-- A box with a rational number. -/
structure Bq (w : World) (g : Nat) (a b c : Value) : Prop where
  h : w.heap[g]? = some (.cells #[a, b, c] 52 (0, 0))
theorem Bq.ext {w w' : World} {g : Nat} {a b c : Value} (x : Bq w g a b c) (h : Ext w w') : Bq w' g a b c := ⟨(h.block g (Array.getElem?_eq_some_iff.1 x.h).1).trans x.h⟩
theorem Bq.facts {w : World} {g : Nat} {a b c : Value} (x : Bq w g a b c) : w.cell? ⟨g, 0, none⟩ = some a ∧ w.cell? ⟨g, 1, none⟩ = some b ∧ w.cell? ⟨g, 2, none⟩ = some c ∧ (∀ i, w.frozen? ⟨g, i, none⟩ = false) := by
  have h := x.h
  refine ⟨?_, ?_, ?_, fun i => by simp [World.frozen?, h]⟩ <;> rw [cell_of_row w g _ _ _ _ h] <;> rfl
theorem Bx.far {w : World} {g : Nat} {a b c d : Value} (x : Bx w g a b c d) {p : Addr} (hp : g ≠ p.block) (u : Value) : Bx (w.setCell p u) g a b c d := ⟨(Below.heap_setCell w p u g hp).trans x.h⟩
theorem Bq.new (w : World) (a b c : Value) : Bq (w.alloc (.cells #[a, b, c] 52)) w.heap.size a b c := ⟨heap_alloc_new w _⟩
theorem Bq.put {w : World} {g : Nat} {a b c : Value} (x : Bq w g a b c) (a' b' c' : Value) : Bq (((w.setCell ⟨g, 0, none⟩ a').setCell ⟨g, 1, none⟩ b').setCell ⟨g, 2, none⟩ c') g a' b' c' := by
  have h := x.h
  constructor
  simp [World.setCell, Array.getElem?_modify, h]
theorem Bq.lt {w : World} {g : Nat} {a b c : Value} (x : Bq w g a b c) : g < w.heap.size := (Array.getElem?_eq_some_iff.1 x.h).1
theorem Bq.apart {w : World} {g g' : Nat} {a b c : Value} (x : Bq w g a b c) (hne : g ≠ g') (a' b' c' d' : Value) : Bq ((((w.setCell ⟨g', 0, none⟩ a').setCell ⟨g', 1, none⟩ b').setCell ⟨g', 2, none⟩ c').setCell ⟨g', 3, none⟩ d') g a b c := by
  refine ⟨?_⟩
  rw [Below.heap_setCell _ _ _ _ (by simpa using hne), Below.heap_setCell _ _ _ _ (by simpa using hne), Below.heap_setCell _ _ _ _ (by simpa using hne), Below.heap_setCell _ _ _ _ (by simpa using hne)]
  exact x.h
theorem Ext.putq {w w1 : World} (h : Ext w w1) {g : Nat} (hg : w.heap.size ≤ g) (a b c : Value) : Ext w (((w1.setCell ⟨g, 0, none⟩ a).setCell ⟨g, 1, none⟩ b).setCell ⟨g, 2, none⟩ c) := ((h.set hg 0 a).set hg 1 b).set hg 2 c
/-- A rational number as a value. -/
abbrev ratV (neg : Bool) (v1 v2 : Value) : Value := .agg #[.bool neg, v1, v2]
/-- What Value hands back: the error and the number. -/
def RatR (w : World) (ec : Int) (neg : Bool) (num den : Nat) (z : Ending) (w' : World) : Prop :=
  ∃ v1 v2, z = .returned (.tuple #[ratV neg v1 v2, .int .i64 ec]) ∧ Own w' w.heap.size v1 (cn num) ∧ Own w' w.heap.size v2 (cn den) ∧ Ext w w'
theorem RatR.none {w w' : World} (hE : Ext w w') (ec : Int) : RatR w ec false 0 0 (.returned (.tuple #[ratV false (.slice .none 0 0) (.slice .none 0 0), .int .i64 ec])) w' :=
  ⟨_, _, rfl, by rw [show cn 0 = [] from digs_zero B]; exact Own.nil _ _, by rw [show cn 0 = [] from digs_zero B]; exact Own.nil _ _, hE⟩
theorem Own.one (w : World) : Own (w.alloc (.cells #[.int .u64 1] 70)) w.heap.size (.slice (some ⟨w.heap.size, 0, none⟩) 1 1) [1] :=
  Bk.own (xs := [1]) ⟨heap_alloc_new w _, W64.cons (by decide +kernel) W64.nil⟩ (Nat.le_refl _) (by simp)
theorem cn_one : cn 1 = [1] := by decide +kernel
/-- The two boxes of Value. -/
theorem boxesV (w : World) (a : FA) (h : Rd w a.A a.c a.xs) : ∀ W, W = ((w.alloc (.cells #[.int .i64 a.k, .bool a.neg, .int .i64 a.e, .slice a.A a.xs.length a.c] 36)).alloc (.cells #[.bool false, .slice none 0 0, .slice none 0 0] 52)) →
    Bx W w.heap.size (.int .i64 a.k) (.bool a.neg) (.int .i64 a.e) (.slice a.A a.xs.length a.c) ∧ Bq W (w.heap.size + 1) (.bool false) (.slice none 0 0) (.slice none 0 0) ∧ Ext w W := by
  rintro W rfl
  have h1 := (Ext.refl w).al (.cells #[.int .i64 a.k, .bool a.neg, .int .i64 a.e, .slice a.A a.xs.length a.c] 36)
  have x2 := Bq.new (w.alloc (.cells #[.int .i64 a.k, .bool a.neg, .int .i64 a.e, .slice a.A a.xs.length a.c] 36)) (.bool false) (.slice none 0 0) (.slice none 0 0)
  rw [World.size_alloc] at x2
  exact ⟨(Bx.new w _ _ _ _).ext ((Ext.refl _).al _), x2, h1.al _⟩
set_option maxHeartbeats 2000000 in
set_option maxRecDepth 100000 in
theorem value_err (a : FA) (w : World) (hT : Tab w) (h : Rd w a.A a.c a.xs) (hl : a.xs.length ≤ 10000000) (h0 : capE a ≠ 0) (h1 : capF a = ⟨0, false, 0, 0⟩) :
    Calls Tryd.prog 27 #[a.v] w (RatR w (capE a) false 0 0) := by
  obtain ⟨hX, hQ, hE⟩ := boxesV w a h _ rfl
  have hcn := fun w hT h => ccanon_c a.k a.e a.neg a.A a.c a.xs w hT h hl
  obtain ⟨k, neg, e, A, c, xs⟩ := a
  simp only at hcn hX hQ hE h
  rw [h1] at hcn
  generalize capE ⟨k, neg, e, A, c, xs⟩ = ec at *
  have hE0 : (ec != 0) = true := by rw [bne_iff_ne]; exact h0
  have HX := Lib.hid hX
  have HQ := Lib.hid hQ
  have HE := Lib.hid hE
  clear hX hQ hE h0 h1
  go_enter Tryd.func27, Tryd.ntmps27
  go_wp2_with fail
  have hX := HX.out
  have hQ := HQ.out
  have hE := HE.out
  clear HX HQ HE
  generalize ((w.alloc (.cells #[.int .i64 k, .bool neg, .int .i64 e, .slice A xs.length c] 36)).alloc (.cells #[.bool false, .slice none 0 0, .slice none 0 0] 52)) = W at *
  refine (hcn _ (hT.ext hE) (h.ext hE)).mono ?_
  rintro z w1 ⟨u, rfl, ⟨v, rfl, ho1⟩, hb1⟩
  obtain ⟨A1, c1, rfl, -⟩ := ho1.rd
  have hX1 := hX.ext hb1
  have hQ1 := hQ.ext hb1
  obtain ⟨x0, x1, x2, x3, xf⟩ := hX1.facts
  have hQ2 := hQ1.apart (g' := w.heap.size) (by omega) (.int .i64 0) (.bool false) (.int .i64 0) (.slice A1 (cn 0).length c1)
  obtain ⟨q0, q1, q2, qf⟩ := hQ2.facts
  have hlx := hX1.lt
  have hlq := hQ1.lt
  have hE2 := (hE.tr hb1).put (g := w.heap.size) (by omega) (.int .i64 0) (.bool false) (.int .i64 0) (.slice A1 (cn 0).length c1)
  go_wp2_with fail
  have hQ3 := hQ2.put (.bool false) (.slice none 0 0) (.slice none 0 0)
  have hE3 := hE2.putq (g := w.heap.size + 1) (by omega) (.bool false) (.slice none 0 0) (.slice none 0 0)
  obtain ⟨r0, r1, r2, rf⟩ := hQ3.facts
  refine bodyPost_ret (v := .tuple #[ratV false (.slice none 0 0) (.slice none 0 0), .int .i64 ec]) (by simp [results, Tryd.results27, go_sem, r0, r1, r2]) rfl ?_
  exact RatR.none hE3 _
set_option maxHeartbeats 2000000 in
set_option maxRecDepth 100000 in
theorem value_zero (a : FA) (f : Fl) (w : World) (hT : Tab w) (h : Rd w a.A a.c a.xs) (hl : a.xs.length ≤ 10000000) (h0 : capE a = 0) (h1 : capF a = f) (hk : f.kind = 0) :
    Calls Tryd.prog 27 #[a.v] w (RatR w 0 false 0 1) := by
  obtain ⟨hX, hQ, hE⟩ := boxesV w a h _ rfl
  have hcn := fun w hT h => ccanon_c a.k a.e a.neg a.A a.c a.xs w hT h hl
  obtain ⟨k, neg, e, A, c, xs⟩ := a
  simp only at hcn hX hQ hE h
  rw [h0, h1] at hcn
  have HX := Lib.hid hX
  have HQ := Lib.hid hQ
  have HE := Lib.hid hE
  clear hX hQ hE h0 h1
  obtain ⟨fk, fn, fe, fm⟩ := f
  simp only at hk hcn
  subst hk
  go_enter Tryd.func27, Tryd.ntmps27
  go_wp2_with fail
  have hX := HX.out
  have hQ := HQ.out
  have hE := HE.out
  clear HX HQ HE
  generalize ((w.alloc (.cells #[.int .i64 k, .bool neg, .int .i64 e, .slice A xs.length c] 36)).alloc (.cells #[.bool false, .slice none 0 0, .slice none 0 0] 52)) = W at *
  refine (hcn _ (hT.ext hE) (h.ext hE)).mono ?_
  rintro z w1 ⟨u, rfl, ⟨v, rfl, ho1⟩, hb1⟩
  obtain ⟨A1, c1, rfl, hr1⟩ := ho1.rd
  have hX1 := hX.ext hb1
  have hQ1 := hQ.ext hb1
  obtain ⟨x0, x1, x2, x3, xf⟩ := hX1.facts
  have hlx := hX1.lt
  have hlq := hQ1.lt
  have hX2 := hX1.put (.int .i64 0) (.bool fn) (.int .i64 fe) (.slice A1 (cn fm).length c1)
  have hQ2 := hQ1.apart (g' := w.heap.size) (by omega) (.int .i64 0) (.bool fn) (.int .i64 fe) (.slice A1 (cn fm).length c1)
  have hE2 := (hE.tr hb1).put (g := w.heap.size) (by omega) (.int .i64 0) (.bool fn) (.int .i64 fe) (.slice A1 (cn fm).length c1)
  obtain ⟨y0, y1, y2, y3, yf⟩ := hX2.facts
  obtain ⟨q0, q1, q2, qf⟩ := hQ2.facts
  have hE3 := hE2.putq (g := w.heap.size + 1) (by omega) (.bool false) (.slice none 0 0) (.slice (some ⟨w1.heap.size, 0, none⟩) 1 1)
  have hQ3 := hQ2.put (.bool false) (.slice none 0 0) (.slice (some ⟨w1.heap.size, 0, none⟩) 1 1)
  have HQ3 := Lib.hid hQ3
  have HE3 := Lib.hid hE3
  clear hQ3 hE3
  go_wp2_with fail
  have hQ3 := HQ3.out
  have hE3 := HE3.out
  have hs1 := hE.size
  have hs2 := hb1.size
  clear HQ3 HE3 hQ2 hE2 hX2 q0 q1 q2 qf x0 x1 x2 x3 xf y0 y1 y2 y3 yf
  have hsz : ((((((((w1.setCell ⟨w.heap.size, 0, none⟩ (.int .i64 0)).setCell ⟨w.heap.size, 1, none⟩ (.bool fn)).setCell ⟨w.heap.size, 2, none⟩ (.int .i64 fe)).setCell ⟨w.heap.size, 3, none⟩ (.slice A1 (cn fm).length c1)).setCell ⟨w.heap.size + 1, 0, none⟩ (.bool false)).setCell ⟨w.heap.size + 1, 1, none⟩ (.slice none 0 0)).setCell ⟨w.heap.size + 1, 2, none⟩ (.slice (some ⟨w1.heap.size, 0, none⟩) 1 1))).heap.size = w1.heap.size := by simp
  generalize (((((((w1.setCell ⟨w.heap.size, 0, none⟩ (.int .i64 0)).setCell ⟨w.heap.size, 1, none⟩ (.bool fn)).setCell ⟨w.heap.size, 2, none⟩ (.int .i64 fe)).setCell ⟨w.heap.size, 3, none⟩ (.slice A1 (cn fm).length c1)).setCell ⟨w.heap.size + 1, 0, none⟩ (.bool false)).setCell ⟨w.heap.size + 1, 1, none⟩ (.slice none 0 0)).setCell ⟨w.heap.size + 1, 2, none⟩ (.slice (some ⟨w1.heap.size, 0, none⟩) 1 1)) = P at *
  have ho := Own.one P
  rw [hsz] at ho
  have hA := (Ext.refl P).al (.cells #[.int .u64 1] 70)
  obtain ⟨r0, r1, r2, rf⟩ := (hQ3.ext hA).facts
  refine bodyPost_ret (v := .tuple #[ratV false (.slice none 0 0) (.slice (some ⟨w1.heap.size, 0, none⟩) 1 1), .int .i64 0]) (by simp [results, Tryd.results27, go_sem, r0, r1, r2]) rfl ?_
  refine ⟨_, _, rfl, ?_, ?_, hE3.tr hA⟩
  · rw [show cn 0 = [] from digs_zero B]; exact Own.nil _ _
  · rw [cn_one]; exact ho.low (by omega)
set_option maxHeartbeats 2000000 in
set_option maxRecDepth 100000 in
theorem value_none (a : FA) (f : Fl) (w : World) (hT : Tab w) (h : Rd w a.A a.c a.xs) (hl : a.xs.length ≤ 10000000) (h0 : capE a = 0) (h1 : capF a = f) (hk : f.kind ≠ 0) (hk1 : f.kind ≠ 1) :
    Calls Tryd.prog 27 #[a.v] w (RatR w 4 false 0 0) := by
  obtain ⟨hX, hQ, hE⟩ := boxesV w a h _ rfl
  have hcn := fun w hT h => ccanon_c a.k a.e a.neg a.A a.c a.xs w hT h hl
  obtain ⟨k, neg, e, A, c, xs⟩ := a
  simp only at hcn hX hQ hE h
  rw [h0, h1] at hcn
  have HX := Lib.hid hX
  have HQ := Lib.hid hQ
  have HE := Lib.hid hE
  clear hX hQ hE h0 h1
  obtain ⟨fk, fn, fe, fm⟩ := f
  simp only at hk hk1 hcn
  have b0 : (fk == 0) = false := by rw [beq_eq_false_iff_ne]; exact hk
  have b1 : (fk != 1) = true := by rw [bne_iff_ne]; exact hk1
  clear hk hk1
  go_enter Tryd.func27, Tryd.ntmps27
  go_wp2_with fail
  have hX := HX.out
  have hQ := HQ.out
  have hE := HE.out
  clear HX HQ HE
  generalize ((w.alloc (.cells #[.int .i64 k, .bool neg, .int .i64 e, .slice A xs.length c] 36)).alloc (.cells #[.bool false, .slice none 0 0, .slice none 0 0] 52)) = W at *
  refine (hcn _ (hT.ext hE) (h.ext hE)).mono ?_
  rintro z w1 ⟨u, rfl, ⟨v, rfl, ho1⟩, hb1⟩
  obtain ⟨A1, c1, rfl, hr1⟩ := ho1.rd
  have hX1 := hX.ext hb1
  have hQ1 := hQ.ext hb1
  obtain ⟨x0, x1, x2, x3, xf⟩ := hX1.facts
  have hlx := hX1.lt
  have hlq := hQ1.lt
  have hX2 := hX1.put (.int .i64 fk) (.bool fn) (.int .i64 fe) (.slice A1 (cn fm).length c1)
  have hQ2 := hQ1.apart (g' := w.heap.size) (by omega) (.int .i64 fk) (.bool fn) (.int .i64 fe) (.slice A1 (cn fm).length c1)
  have hE2 := (hE.tr hb1).put (g := w.heap.size) (by omega) (.int .i64 fk) (.bool fn) (.int .i64 fe) (.slice A1 (cn fm).length c1)
  obtain ⟨y0, y1, y2, y3, yf⟩ := hX2.facts
  obtain ⟨q0, q1, q2, qf⟩ := hQ2.facts
  have hE3 := hE2.putq (g := w.heap.size + 1) (by omega) (.bool false) (.slice none 0 0) (.slice none 0 0)
  have hQ3 := hQ2.put (.bool false) (.slice none 0 0) (.slice none 0 0)
  have HQ3 := Lib.hid hQ3
  have HE3 := Lib.hid hE3
  clear hQ3 hE3
  go_wp2_with fail
  obtain ⟨r0, r1, r2, rf⟩ := HQ3.out.facts
  refine bodyPost_ret (v := .tuple #[ratV false (.slice none 0 0) (.slice none 0 0), .int .i64 4]) (by simp [results, Tryd.results27, go_sem, r0, r1, r2]) rfl ?_
  exact RatR.none HE3.out _
set_option maxHeartbeats 2000000 in
set_option maxRecDepth 100000 in
theorem value_big (a : FA) (f : Fl) (w : World) (hT : Tab w) (h : Rd w a.A a.c a.xs) (hl : a.xs.length ≤ 10000000) (h0 : capE a = 0) (h1 : capF a = f) (hk : f.kind = 1) (hbd : -1048576 ≤ f.exp ∧ f.exp ≤ 1048576 ∧ bl f.mag ≤ 1000000 ∧ (cn f.mag).length ≤ 1000000) (hbg : (decide ((262144 : Int) < (f.exp.toNat : Int) + bl f.mag) = true) ∨ (decide ((262144 : Int) < (f.exp.toNat : Int) + bl f.mag) = false ∧ decide ((262144 : Int) < -f.exp + 1) = true)) :
    Calls Tryd.prog 27 #[a.v] w (RatR w 2 false 0 0) := by
  obtain ⟨hX, hQ, hE⟩ := boxesV w a h _ rfl
  have hcn := fun w hT h => ccanon_c a.k a.e a.neg a.A a.c a.xs w hT h hl
  obtain ⟨k, neg, e, A, c, xs⟩ := a
  simp only at hcn hX hQ hE h
  rw [h0, h1] at hcn
  have HX := Lib.hid hX
  have HQ := Lib.hid hQ
  have HE := Lib.hid hE
  clear hX hQ hE h0 h1
  obtain ⟨fk, fn, fe, fm⟩ := f
  simp only at hk hcn hbd hbg
  subst hk
  have hlen := fun A1 c1 w hr => len_c A1 c1 (cn fm) w hr (by omega)
  rw [val_cn] at hlen
  have hm1 : max fe 0 = ((fe.toNat : Nat) : Int) := by omega
  have hm2 : max (-fe) 0 = (((-fe).toNat : Nat) : Int) := by omega
  have hw1 : IntKind.i64.wrap (-fe) = -fe := by rw [IntKind.wrap_i64]; omega
  have hw2 : IntKind.i64.wrap (-fe + 1) = -fe + 1 := by rw [IntKind.wrap_i64]; omega
  have hw3 : IntKind.i64.wrap (((fe.toNat : Nat) : Int) + bl fm) = ((fe.toNat : Nat) : Int) + bl fm := by rw [IntKind.wrap_i64]; omega
  generalize fe.toNat = s1 at *
  generalize (-fe).toNat = s2 at *
  generalize bl fm = ℓ at *
  rcases hbg with b1 | ⟨b1, b2⟩
  all_goals
    go_enter Tryd.func27, Tryd.ntmps27
    go_wp2_with fail
    have hX := HX.out
    have hQ := HQ.out
    have hE := HE.out
    clear HX HQ HE
    generalize ((w.alloc (.cells #[.int .i64 k, .bool neg, .int .i64 e, .slice A xs.length c] 36)).alloc (.cells #[.bool false, .slice none 0 0, .slice none 0 0] 52)) = W at *
    have hszW := hX.lt
    refine (hcn _ (hT.ext hE) (h.ext hE)).mono ?_
    rintro z w1 ⟨u, rfl, ⟨v, rfl, ho1⟩, hb1⟩
    obtain ⟨A1, c1, rfl, -⟩ := ho1.rd
    have hX1 := hX.ext hb1
    have hQ1 := hQ.ext hb1
    obtain ⟨x0, x1, x2, x3, xf⟩ := hX1.facts
    have hlx := hX1.lt
    have hlq := hQ1.lt
    have hX2 := hX1.put (.int .i64 1) (.bool fn) (.int .i64 fe) (.slice A1 (cn fm).length c1)
    have hQ2 := hQ1.apart (g' := w.heap.size) (by omega) (.int .i64 1) (.bool fn) (.int .i64 fe) (.slice A1 (cn fm).length c1)
    have hE2 := (hE.tr hb1).put (g := w.heap.size) (by omega) (.int .i64 1) (.bool fn) (.int .i64 fe) (.slice A1 (cn fm).length c1)
    have ho2 := ho1.putBelow (g := w.heap.size) hszW (.int .i64 1) (.bool fn) (.int .i64 fe) (.slice A1 (cn fm).length c1)
    obtain ⟨A1', c1', hAc, hr2⟩ := ho2.rd
    injection hAc with e1 e2 e3
    subst e1 e3
    clear e2
    obtain ⟨y0, y1, y2, y3, yf⟩ := hX2.facts
    go_wp2_with fail
    generalize ((((w1.setCell ⟨w.heap.size, 0, none⟩ (.int .i64 1)).setCell ⟨w.heap.size, 1, none⟩ (.bool fn)).setCell ⟨w.heap.size, 2, none⟩ (.int .i64 fe)).setCell ⟨w.heap.size, 3, none⟩ (.slice A1 (cn fm).length c1)) = W2 at *
    clear x0 x1 x2 x3 xf
    have p2 := Later.cell y2
    have p3 := Later.cell y3
    refine wp_region_later (by kernel_rfl) (by kernel_rfl) ?_
    repeat (go_big_quiet_step (first
      | (go_at_call 59; refine Calls.later ((hlen A1 c1 _ (hr2.ext (Later.h _))).mono fun z w' hz => ⟨hz.1, hz.2.elim fun n hn => by rw [hn]; exact (Ext.refl _).drewN n⟩))))
    refine wpQuiet_nil ?_
    intro _ hw'
    obtain ⟨⟨wq, hq⟩, rfl⟩ := hw'
    clear p2 p3 y0 y1 y2 y3 yf
    have hX3 := hX2.ext hq
    have hQ3 := hQ2.ext hq
    have hE3 := hE2.tr hq
    have hr3 := hr2.ext hq
    obtain ⟨y0, y1, y2, y3, yf⟩ := hX3.facts
    obtain ⟨q0, q1, q2, qf⟩ := hQ3.facts
    have hE4 := hE3.putq (g := w.heap.size + 1) (by omega) (.bool false) (.slice none 0 0) (.slice none 0 0)
    have hQ4 := hQ3.put (.bool false) (.slice none 0 0) (.slice none 0 0)
    have HQ4 := Lib.hid hQ4
    have HE4 := Lib.hid hE4
    clear hQ4 hE4
    go_wp2_with fail
    obtain ⟨r0, r1, r2, rf⟩ := HQ4.out.facts
    refine bodyPost_ret (v := .tuple #[ratV false (.slice none 0 0) (.slice none 0 0), .int .i64 2]) (by simp [results, Tryd.results27, go_sem, r0, r1, r2]) rfl ?_
    exact RatR.none HE4.out _
end Go.Proofs.YtgkojhhodncpbaaDoor
