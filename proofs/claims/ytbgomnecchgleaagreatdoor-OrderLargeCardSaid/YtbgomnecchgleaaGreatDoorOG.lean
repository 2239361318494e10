/- package order: Compare. package order: choose, Min, Max. package order: Toward. -/
import Derived.Test.YtbgomnecchgleaaGreatDoorOA
import Derived.Test.YtbgomnecchgleaaGreatDoorOC
set_option linter.unusedVariables false
set_option linter.unusedSimpArgs false
namespace Go.Proofs.YtbgomnecchgleaaGreatDoor
open Go.RowKit

/-- What Compare answers of two floats of a format. -/
def cmpV (k p : Int) (f g : Fl) : Int := if f.kind = 3 ∨ g.kind = 3 then 0 else sgn (idx k p f - idx k p g)
def cmpB (f g : Fl) : Bool := decide (f.kind ≠ 3 ∧ g.kind ≠ 3)
theorem cmp_cases (k p : Int) (f g : Fl) : ((((f.kind == 3) = true ∨ ((f.kind == 3) = false ∧ (g.kind == 3) = true)) ∧ cmpV k p f g = 0 ∧ cmpB f g = false)) ∨ ((f.kind == 3) = false ∧ (g.kind == 3) = false ∧ cmpV k p f g = sgn (idx k p f - idx k p g) ∧ cmpB f g = true) := by
  unfold cmpV cmpB
  by_cases h1 : f.kind = 3
  · exact .inl ⟨.inl (by simpa using h1), by rw [if_pos (.inl h1)], by simp [h1]⟩
  · by_cases h2 : g.kind = 3
    · exact .inl ⟨.inr ⟨by simpa using h1, by simpa using h2⟩, by rw [if_pos (.inr h2)], by simp [h2]⟩
    · exact .inr ⟨by simpa using h1, by simpa using h2, by rw [if_neg (by omega)], by simp [h1, h2]⟩
set_option maxHeartbeats 4000000 in
set_option maxRecDepth 100000 in
theorem Compare_bad (k p : Int) (a b : FA) (ec : Int) (hfl : FlsS k p [a, b] = (ec, [])) (he : ec ≠ 0) (w : World) (hT : Tab w) (ha : Rd w a.A a.c a.xs) (hb : Rd w b.A b.c b.xs) :
    Calls Tryz.prog 7 #[.agg #[.int .i64 k, .int .i64 p], a.v, b.v] w fun e w' => e = .returned (.tuple #[.int .i64 0, .bool false, .int .i64 ec]) ∧ Ext w w' := by
  obtain ⟨hF, hX, hY, hE⟩ := boxesT w k p a b _ rfl
  have hpr := fun w hT h1 h2 => pair_bad k p a b ec hfl he w hT h1 h2
  have hbe : (ec != 0) = true := by rw [bne_iff_ne]; exact he
  unfold PairR at hpr
  clear hfl he
  obtain ⟨ak, an, ae, aA, ac, axs⟩ := a
  obtain ⟨bk, bn, be, bA, bc, bxs⟩ := b
  simp only at ha hb hX hY hE hpr
  have HX := Lib.hid hX
  have HY := Lib.hid hY
  have HE := Lib.hid hE
  clear hX hY hE hF
  go_enter Tryz.func7, Tryz.ntmps7
  go_wp2_with fail
  refine (hpr _ (hT.ext HE.out) (ha.ext HE.out) (hb.ext HE.out)).mono ?_
  rintro z w3 ⟨A1, c1, A2, c2, rfl, -, -, hb3⟩
  have hX3 := HX.out.ext hb3
  have hY3 := HY.out.ext hb3
  have hE3 := HE.out.tr hb3
  obtain ⟨x0, x1, x2, x3, xf⟩ := hX3.facts
  obtain ⟨y0, y1, y2, y3, yf⟩ := hY3.facts
  go_wp2
  refine bodyPost_ret (v := .tuple #[.int .i64 0, .bool false, .int .i64 ec]) (by simp [results, Tryz.results7, go_sem]) rfl ?_
  exact ⟨rfl, (hE3.put (g := w.heap.size + 1) (by omega) _ _ _ _).put (g := w.heap.size + 1 + 1) (by omega) _ _ _ _⟩
set_option maxHeartbeats 4000000 in
set_option maxRecDepth 100000 in
theorem Compare_good (k p : Int) (hR : Rgt k p) (a b : FA) (f g : Fl) (hfl : FlsS k p [a, b] = (0, [f, g])) (hf : FOf k p f) (hg : FOf k p g) (w : World) (hT : Tab w) (ha : Rd w a.A a.c a.xs) (hb : Rd w b.A b.c b.xs) :
    Calls Tryz.prog 7 #[.agg #[.int .i64 k, .int .i64 p], a.v, b.v] w fun e w' => e = .returned (.tuple #[.int .i64 (cmpV k p f g), .bool (cmpB f g), .int .i64 0]) ∧ Ext w w' := by
  obtain ⟨hF, hX, hY, hE⟩ := boxesT w k p a b _ rfl
  have hpr := fun w hT h1 h2 => pair_good k p a b f g hfl w hT h1 h2
  have htt := fun A A' c c' w hT h h' => compare_c k p hR f g hf hg A A' c c' w hT h h'
  have hcs := cmp_cases k p f g
  unfold PairR at hpr
  generalize cmpV k p f g = V at *
  generalize cmpB f g = Q at *
  generalize sgn (idx k p f - idx k p g) = T at *
  clear hfl hf hg hR
  obtain ⟨ak, an, ae, aA, ac, axs⟩ := a
  obtain ⟨bk, bn, be, bA, bc, bxs⟩ := b
  simp only at ha hb hF hX hY hE hpr
  have HF := Lib.hid hF
  have HX := Lib.hid hX
  have HY := Lib.hid hY
  have HE := Lib.hid hE
  have HC := Lib.hid hcs
  clear hX hY hE hF hcs
  go_enter Tryz.func7, Tryz.ntmps7
  go_wp2_with fail
  refine (hpr _ (hT.ext HE.out) (ha.ext HE.out) (hb.ext HE.out)).mono ?_
  rintro z w3 ⟨A1, c1, A2, c2, rfl, ho1, ho2, hb3⟩
  have hF3 := HF.out.ext hb3
  have hX3 := HX.out.ext hb3
  have hY3 := HY.out.ext hb3
  have hE3 := HE.out.tr hb3
  have hsz := HY.out.lt
  have hX4 := (hX3.put (.int .i64 f.kind) (.bool f.neg) (.int .i64 f.exp) (.slice A1 (cn f.mag).length c1)).apart (g' := w.heap.size + 1 + 1) (by omega) (.int .i64 g.kind) (.bool g.neg) (.int .i64 g.exp) (.slice A2 (cn g.mag).length c2)
  have hY4 := (hY3.apart (g' := w.heap.size + 1) (by omega) (.int .i64 f.kind) (.bool f.neg) (.int .i64 f.exp) (.slice A1 (cn f.mag).length c1)).put (.int .i64 g.kind) (.bool g.neg) (.int .i64 g.exp) (.slice A2 (cn g.mag).length c2)
  have hF4 := (hF3.apart (g' := w.heap.size + 1) (by omega) (.int .i64 f.kind) (.bool f.neg) (.int .i64 f.exp) (.slice A1 (cn f.mag).length c1)).apart (g' := w.heap.size + 1 + 1) (by omega) (.int .i64 g.kind) (.bool g.neg) (.int .i64 g.exp) (.slice A2 (cn g.mag).length c2)
  have hE4 := (hE3.put (g := w.heap.size + 1) (by omega) (.int .i64 f.kind) (.bool f.neg) (.int .i64 f.exp) (.slice A1 (cn f.mag).length c1)).put (g := w.heap.size + 1 + 1) (by omega) (.int .i64 g.kind) (.bool g.neg) (.int .i64 g.exp) (.slice A2 (cn g.mag).length c2)
  have hr1 := ((ho1.putBelow (g := w.heap.size + 1) (by omega) (.int .i64 f.kind) (.bool f.neg) (.int .i64 f.exp) (.slice A1 (cn f.mag).length c1)).putBelow (g := w.heap.size + 1 + 1) (by omega) (.int .i64 g.kind) (.bool g.neg) (.int .i64 g.exp) (.slice A2 (cn g.mag).length c2)).rdAt.2
  have hr2 := ((ho2.putBelow (g := w.heap.size + 1) (by omega) (.int .i64 f.kind) (.bool f.neg) (.int .i64 f.exp) (.slice A1 (cn f.mag).length c1)).putBelow (g := w.heap.size + 1 + 1) (by omega) (.int .i64 g.kind) (.bool g.neg) (.int .i64 g.exp) (.slice A2 (cn g.mag).length c2)).rdAt.2
  obtain ⟨x0, x1, x2, x3, xf⟩ := hX3.facts
  obtain ⟨y0, y1, y2, y3, yf⟩ := hY3.facts
  obtain ⟨f0', f1'⟩ := hF4.facts
  obtain ⟨x0', x1', x2', x3', xf'⟩ := hX4.facts
  obtain ⟨y0', y1', y2', y3', yf'⟩ := hY4.facts
  clear hF3 hX3 hY3 hE3 ho1 ho2
  rcases HC.out with ⟨(e1 | ⟨e1, e2⟩), rfl, rfl⟩ | ⟨e1, e2, rfl, rfl⟩
  · go_wp2
    refine bodyPost_ret (v := .tuple #[.int .i64 0, .bool false, .int .i64 0]) (by simp [results, Tryz.results7, go_sem]) rfl ?_
    exact ⟨rfl, hE4⟩
  · go_wp2
    refine bodyPost_ret (v := .tuple #[.int .i64 0, .bool false, .int .i64 0]) (by simp [results, Tryz.results7, go_sem]) rfl ?_
    exact ⟨rfl, hE4⟩
  · go_wp2_with fail
    refine (htt _ _ _ _ _ (hT.ext hE4) hr1 hr2).mono ?_
    rintro z w5 ⟨rfl, hb5⟩
    go_wp2
    refine bodyPost_ret (v := .tuple #[.int .i64 V, .bool true, .int .i64 0]) (by simp [results, Tryz.results7, go_sem]) rfl ?_
    exact ⟨rfl, hE4.tr hb5⟩
end Go.Proofs.YtbgomnecchgleaaGreatDoor
namespace Go.Proofs.YtbgomnecchgleaaGreatDoor
open Go.RowKit

/-- The boxes of a function over a format and two floats that hands back a float. -/
theorem boxesC (w : World) (k p : Int) (a b : FA) : ∀ W, W = ((((w.alloc (.cells #[.int .i64 k, .int .i64 p] 23)).alloc (.cells #[.int .i64 a.k, .bool a.neg, .int .i64 a.e, .slice a.A a.xs.length a.c] 29)).alloc (.cells #[.int .i64 b.k, .bool b.neg, .int .i64 b.e, .slice b.A b.xs.length b.c] 29)).alloc (.cells #[.int .i64 0, .bool false, .int .i64 0, .slice none 0 0] 29)) →
    Bf W w.heap.size (.int .i64 k) (.int .i64 p) ∧ Bx W (w.heap.size + 1) (.int .i64 a.k) (.bool a.neg) (.int .i64 a.e) (.slice a.A a.xs.length a.c) ∧ Bx W (w.heap.size + 1 + 1) (.int .i64 b.k) (.bool b.neg) (.int .i64 b.e) (.slice b.A b.xs.length b.c) ∧ Bx W (w.heap.size + 1 + 1 + 1) (.int .i64 0) (.bool false) (.int .i64 0) (.slice none 0 0) ∧ Ext w W := by
  rintro W rfl
  obtain ⟨h1, h2, h3, h4⟩ := boxesT w k p a b _ rfl
  have x4 := Bx.new (((w.alloc (.cells #[.int .i64 k, .int .i64 p] 23)).alloc (.cells #[.int .i64 a.k, .bool a.neg, .int .i64 a.e, .slice a.A a.xs.length a.c] 29)).alloc (.cells #[.int .i64 b.k, .bool b.neg, .int .i64 b.e, .slice b.A b.xs.length b.c] 29)) (.int .i64 0) (.bool false) (.int .i64 0) (.slice none 0 0)
  rw [World.size_alloc, World.size_alloc, World.size_alloc] at x4
  exact ⟨h1.ext ((Ext.refl _).al _), h2.ext ((Ext.refl _).al _), h3.ext ((Ext.refl _).al _), x4, h4.al _⟩
/-- The boxes behind pair: x and y hold the canonical floats. -/
theorem after_pair {w w3 : World} {k p : Int} {a1 b1 c1 d1 a2 b2 c2 d2 a3 b3 c3 d3 : Value} (hF : Bf w3 w.heap.size (.int .i64 k) (.int .i64 p)) (hX : Bx w3 (w.heap.size + 1) a1 b1 c1 d1) (hY : Bx w3 (w.heap.size + 1 + 1) a2 b2 c2 d2) (hR : Bx w3 (w.heap.size + 1 + 1 + 1) a3 b3 c3 d3) (hE : Ext w w3)
    {v1 v2 : Value} {X Y : List Nat} (ho1 : Own w3 (w.heap.size + 1 + 1 + 1 + 1) v1 X) (ho2 : Own w3 (w.heap.size + 1 + 1 + 1 + 1) v2 Y) (fk fn fe gk gn ge : Value) :
    ∀ W, W = ((((((((w3.setCell ⟨w.heap.size + 1, 0, none⟩ fk).setCell ⟨w.heap.size + 1, 1, none⟩ fn).setCell ⟨w.heap.size + 1, 2, none⟩ fe).setCell ⟨w.heap.size + 1, 3, none⟩ v1).setCell ⟨w.heap.size + 1 + 1, 0, none⟩ gk).setCell ⟨w.heap.size + 1 + 1, 1, none⟩ gn).setCell ⟨w.heap.size + 1 + 1, 2, none⟩ ge).setCell ⟨w.heap.size + 1 + 1, 3, none⟩ v2) →
    Bf W w.heap.size (.int .i64 k) (.int .i64 p) ∧ Bx W (w.heap.size + 1) fk fn fe v1 ∧ Bx W (w.heap.size + 1 + 1) gk gn ge v2 ∧ Bx W (w.heap.size + 1 + 1 + 1) a3 b3 c3 d3 ∧ Ext w W ∧ Own W (w.heap.size + 1 + 1 + 1 + 1) v1 X ∧ Own W (w.heap.size + 1 + 1 + 1 + 1) v2 Y := by
  rintro W rfl
  exact ⟨(hF.apart (g' := w.heap.size + 1) (by omega) _ _ _ _).apart (g' := w.heap.size + 1 + 1) (by omega) _ _ _ _,
    (hX.put _ _ _ _).apart (g' := w.heap.size + 1 + 1) (by omega) _ _ _ _,
    (hY.apart (g' := w.heap.size + 1) (by omega) _ _ _ _).put _ _ _ _,
    (hR.apart (g' := w.heap.size + 1) (by omega) _ _ _ _).apart (g' := w.heap.size + 1 + 1) (by omega) _ _ _ _,
    (hE.put (g := w.heap.size + 1) (by omega) _ _ _ _).put (g := w.heap.size + 1 + 1) (by omega) _ _ _ _,
    (ho1.putBelow (g := w.heap.size + 1) (by omega) _ _ _ _).putBelow (g := w.heap.size + 1 + 1) (by omega) _ _ _ _,
    (ho2.putBelow (g := w.heap.size + 1) (by omega) _ _ _ _).putBelow (g := w.heap.size + 1 + 1) (by omega) _ _ _ _⟩
/-- What choose answers. -/
def choF (k p : Int) (f g : Fl) (side : Int) : Fl := if f.kind = 3 then g else if g.kind = 3 ∨ totF k p f g = side then f else g
theorem cho_cases (k p : Int) (f g : Fl) (side : Int) : ((f.kind == 3) = true ∧ choF k p f g side = g) ∨ ((f.kind == 3) = false ∧ (g.kind == 3) = true ∧ choF k p f g side = f) ∨
    ((f.kind == 3) = false ∧ (g.kind == 3) = false ∧ (totF k p f g == side) = true ∧ choF k p f g side = f) ∨ ((f.kind == 3) = false ∧ (g.kind == 3) = false ∧ (totF k p f g == side) = false ∧ choF k p f g side = g) := by
  unfold choF
  by_cases h1 : f.kind = 3
  · exact .inl ⟨by simpa using h1, by rw [if_pos h1]⟩
  · by_cases h2 : g.kind = 3
    · exact .inr (.inl ⟨by simpa using h1, by simpa using h2, by rw [if_neg h1, if_pos (.inl h2)]⟩)
    · by_cases h3 : totF k p f g = side
      · exact .inr (.inr (.inl ⟨by simpa using h1, by simpa using h2, by simpa using h3, by rw [if_neg h1, if_pos (.inr h3)]⟩))
      · exact .inr (.inr (.inr ⟨by simpa using h1, by simpa using h2, by simpa using h3, by rw [if_neg h1, if_neg (by rintro (h | h) <;> contradiction)]⟩))
set_option maxHeartbeats 4000000 in
set_option maxRecDepth 100000 in
theorem choose_bad (k p : Int) (a b : FA) (side ec : Int) (hfl : FlsS k p [a, b] = (ec, [])) (he : ec ≠ 0) (w : World) (hT : Tab w) (ha : Rd w a.A a.c a.xs) (hb : Rd w b.A b.c b.xs) :
    Calls Tryz.prog 25 #[.agg #[.int .i64 k, .int .i64 p], a.v, b.v, .int .i64 side] w (FErr w ec ⟨0, false, 0, 0⟩) := by
  obtain ⟨hF, hX, hY, hR, hE⟩ := boxesC w k p a b _ rfl
  have hpr := fun w hT h1 h2 => pair_bad k p a b ec hfl he w hT h1 h2
  have hbe : (ec != 0) = true := by rw [bne_iff_ne]; exact he
  unfold PairR at hpr
  simp only [show cn 0 = [] from digs_zero B, List.length_nil] at hpr
  clear hfl he
  obtain ⟨ak, an, ae, aA, ac, axs⟩ := a
  obtain ⟨bk, bn, be, bA, bc, bxs⟩ := b
  simp only at ha hb hF hX hY hR hE hpr
  have HF := Lib.hid hF
  have HX := Lib.hid hX
  have HY := Lib.hid hY
  have HR := Lib.hid hR
  have HE := Lib.hid hE
  clear hF hX hY hR hE
  go_enter Tryz.func25, Tryz.ntmps25
  go_wp2_with fail
  refine (hpr _ (hT.ext HE.out) (ha.ext HE.out) (hb.ext HE.out)).mono ?_
  rintro z w3 ⟨A1, c1, A2, c2, rfl, ho1, ho2, hb3⟩
  have hlr := HR.out.lt
  obtain ⟨x0, x1, x2, x3, xf⟩ := (HX.out.ext hb3).facts
  obtain ⟨y0, y1, y2, y3, yf⟩ := (HY.out.ext hb3).facts
  have H4 := Lib.hid (after_pair (HF.out.ext hb3) (HX.out.ext hb3) (HY.out.ext hb3) (HR.out.ext hb3) (HE.out.tr hb3) (ho1.low hlr) (ho2.low hlr) (.int .i64 0) (.bool false) (.int .i64 0) (.int .i64 0) (.bool false) (.int .i64 0) _ rfl)
  obtain ⟨r0, r1, r2, r3, rf⟩ := H4.out.2.2.2.1.facts
  clear ho1 ho2
  go_wp2
  have hE5 := H4.out.2.2.2.2.1.put (g := w.heap.size + 1 + 1 + 1) (by omega) (.int .i64 0) (.bool false) (.int .i64 0) (.slice none 0 0)
  obtain ⟨s0, s1, s2, s3, -⟩ := (H4.out.2.2.2.1.put (.int .i64 0) (.bool false) (.int .i64 0) (.slice none 0 0)).facts
  refine bodyPost_ret (v := .tuple #[flV 0 false 0 (.slice none 0 0), .int .i64 ec]) (by simp [results, Tryz.results25, go_sem, s0, s1, s2, s3]) rfl ?_
  exact FErr.bad hE5
set_option maxHeartbeats 8000000 in
set_option maxRecDepth 100000 in
theorem choose_good (k p : Int) (hRg : Rgt k p) (a b : FA) (f g : Fl) (side : Int) (hfl : FlsS k p [a, b] = (0, [f, g])) (hf : FOf k p f) (hg : FOf k p g) (w : World) (hT : Tab w) (ha : Rd w a.A a.c a.xs) (hb : Rd w b.A b.c b.xs) :
    Calls Tryz.prog 25 #[.agg #[.int .i64 k, .int .i64 p], a.v, b.v, .int .i64 side] w (FErr w 0 (choF k p f g side)) := by
  obtain ⟨hF, hX, hY, hR, hE⟩ := boxesC w k p a b _ rfl
  have hpr := fun w hT h1 h2 => pair_good k p a b f g hfl w hT h1 h2
  have htt := fun A A' c c' w hT h h' => total_c k p hRg f g hf hg A A' c c' w hT h h'
  have hcs := cho_cases k p f g side
  unfold PairR at hpr
  unfold FErr FlR
  generalize choF k p f g side = Q at *
  generalize totF k p f g = T at *
  clear hfl hf hg hRg
  obtain ⟨ak, an, ae, aA, ac, axs⟩ := a
  obtain ⟨bk, bn, be, bA, bc, bxs⟩ := b
  simp only at ha hb hF hX hY hR hE hpr
  have HF := Lib.hid hF
  have HX := Lib.hid hX
  have HY := Lib.hid hY
  have HR := Lib.hid hR
  have HE := Lib.hid hE
  have HC := Lib.hid hcs
  clear hF hX hY hR hE hcs
  go_enter Tryz.func25, Tryz.ntmps25
  go_wp2_with fail
  refine (hpr _ (hT.ext HE.out) (ha.ext HE.out) (hb.ext HE.out)).mono ?_
  rintro z w3 ⟨A1, c1, A2, c2, rfl, ho1, ho2, hb3⟩
  have hlr := HR.out.lt
  obtain ⟨x0, x1, x2, x3, xf⟩ := (HX.out.ext hb3).facts
  obtain ⟨y0, y1, y2, y3, yf⟩ := (HY.out.ext hb3).facts
  have H4 := Lib.hid (after_pair (HF.out.ext hb3) (HX.out.ext hb3) (HY.out.ext hb3) (HR.out.ext hb3) (HE.out.tr hb3) (ho1.low hlr) (ho2.low hlr) (.int .i64 f.kind) (.bool f.neg) (.int .i64 f.exp) (.int .i64 g.kind) (.bool g.neg) (.int .i64 g.exp) _ rfl)
  clear ho1 ho2
  obtain ⟨f0', f1'⟩ := H4.out.1.facts
  obtain ⟨x0', x1', x2', x3', xf'⟩ := H4.out.2.1.facts
  obtain ⟨y0', y1', y2', y3', yf'⟩ := H4.out.2.2.1.facts
  obtain ⟨r0, r1, r2, r3, rf⟩ := H4.out.2.2.2.1.facts
  rcases HC.out with ⟨e1, rfl⟩ | ⟨e1, e2, rfl⟩ | ⟨e1, e2, e3, rfl⟩ | ⟨e1, e2, e3, rfl⟩
  · go_wp2
    have hE5 := H4.out.2.2.2.2.1.put (g := w.heap.size + 1 + 1 + 1) (by omega) (.int .i64 Q.kind) (.bool Q.neg) (.int .i64 Q.exp) (.slice A2 (cn Q.mag).length c2)
    have ho5 := (H4.out.2.2.2.2.2.2.putBelow (g := w.heap.size + 1 + 1 + 1) (by omega) (.int .i64 Q.kind) (.bool Q.neg) (.int .i64 Q.exp) (.slice A2 (cn Q.mag).length c2)).low (b := w.heap.size) (by omega)
    obtain ⟨s0, s1, s2, s3, -⟩ := (H4.out.2.2.2.1.put (.int .i64 Q.kind) (.bool Q.neg) (.int .i64 Q.exp) (.slice A2 (cn Q.mag).length c2)).facts
    refine bodyPost_ret (v := .tuple #[flV Q.kind Q.neg Q.exp (.slice A2 (cn Q.mag).length c2), .int .i64 0]) (by simp [results, Tryz.results25, go_sem, s0, s1, s2, s3]) rfl ?_
    exact ⟨_, rfl, ⟨_, rfl, ho5⟩, hE5⟩
  · go_wp2
    have hE5 := H4.out.2.2.2.2.1.put (g := w.heap.size + 1 + 1 + 1) (by omega) (.int .i64 Q.kind) (.bool Q.neg) (.int .i64 Q.exp) (.slice A1 (cn Q.mag).length c1)
    have ho5 := (H4.out.2.2.2.2.2.1.putBelow (g := w.heap.size + 1 + 1 + 1) (by omega) (.int .i64 Q.kind) (.bool Q.neg) (.int .i64 Q.exp) (.slice A1 (cn Q.mag).length c1)).low (b := w.heap.size) (by omega)
    obtain ⟨s0, s1, s2, s3, -⟩ := (H4.out.2.2.2.1.put (.int .i64 Q.kind) (.bool Q.neg) (.int .i64 Q.exp) (.slice A1 (cn Q.mag).length c1)).facts
    refine bodyPost_ret (v := .tuple #[flV Q.kind Q.neg Q.exp (.slice A1 (cn Q.mag).length c1), .int .i64 0]) (by simp [results, Tryz.results25, go_sem, s0, s1, s2, s3]) rfl ?_
    exact ⟨_, rfl, ⟨_, rfl, ho5⟩, hE5⟩
  · go_wp2_with fail
    refine (htt _ _ _ _ _ (hT.ext H4.out.2.2.2.2.1) H4.out.2.2.2.2.2.1.rdAt.2 H4.out.2.2.2.2.2.2.rdAt.2).mono ?_
    rintro z w5 ⟨rfl, hb5⟩
    clear f0' f1' x0 x1 x2 x3 xf y0 y1 y2 y3 yf x0' x1' x2' x3' xf' y0' y1' y2' y3' yf' r0 r1 r2 r3 rf
    obtain ⟨x0, x1, x2, x3, xf⟩ := (H4.out.2.1.ext hb5).facts
    obtain ⟨y0, y1, y2, y3, yf⟩ := (H4.out.2.2.1.ext hb5).facts
    obtain ⟨r0, r1, r2, r3, rf⟩ := (H4.out.2.2.2.1.ext hb5).facts
    go_wp2
    have hE5 := (H4.out.2.2.2.2.1.tr hb5).put (g := w.heap.size + 1 + 1 + 1) (by omega) (.int .i64 Q.kind) (.bool Q.neg) (.int .i64 Q.exp) (.slice A1 (cn Q.mag).length c1)
    have ho5 := ((H4.out.2.2.2.2.2.1.ext hb5).putBelow (g := w.heap.size + 1 + 1 + 1) (by omega) (.int .i64 Q.kind) (.bool Q.neg) (.int .i64 Q.exp) (.slice A1 (cn Q.mag).length c1)).low (b := w.heap.size) (by omega)
    obtain ⟨s0, s1, s2, s3, -⟩ := ((H4.out.2.2.2.1.ext hb5).put (.int .i64 Q.kind) (.bool Q.neg) (.int .i64 Q.exp) (.slice A1 (cn Q.mag).length c1)).facts
    refine bodyPost_ret (v := .tuple #[flV Q.kind Q.neg Q.exp (.slice A1 (cn Q.mag).length c1), .int .i64 0]) (by simp [results, Tryz.results25, go_sem, s0, s1, s2, s3]) rfl ?_
    exact ⟨_, rfl, ⟨_, rfl, ho5⟩, hE5⟩
  · go_wp2_with fail
    refine (htt _ _ _ _ _ (hT.ext H4.out.2.2.2.2.1) H4.out.2.2.2.2.2.1.rdAt.2 H4.out.2.2.2.2.2.2.rdAt.2).mono ?_
    rintro z w5 ⟨rfl, hb5⟩
    clear f0' f1' x0 x1 x2 x3 xf y0 y1 y2 y3 yf x0' x1' x2' x3' xf' y0' y1' y2' y3' yf' r0 r1 r2 r3 rf
    obtain ⟨x0, x1, x2, x3, xf⟩ := (H4.out.2.1.ext hb5).facts
    obtain ⟨y0, y1, y2, y3, yf⟩ := (H4.out.2.2.1.ext hb5).facts
    obtain ⟨r0, r1, r2, r3, rf⟩ := (H4.out.2.2.2.1.ext hb5).facts
    go_wp2
    have hE5 := (H4.out.2.2.2.2.1.tr hb5).put (g := w.heap.size + 1 + 1 + 1) (by omega) (.int .i64 Q.kind) (.bool Q.neg) (.int .i64 Q.exp) (.slice A2 (cn Q.mag).length c2)
    have ho5 := ((H4.out.2.2.2.2.2.2.ext hb5).putBelow (g := w.heap.size + 1 + 1 + 1) (by omega) (.int .i64 Q.kind) (.bool Q.neg) (.int .i64 Q.exp) (.slice A2 (cn Q.mag).length c2)).low (b := w.heap.size) (by omega)
    obtain ⟨s0, s1, s2, s3, -⟩ := ((H4.out.2.2.2.1.ext hb5).put (.int .i64 Q.kind) (.bool Q.neg) (.int .i64 Q.exp) (.slice A2 (cn Q.mag).length c2)).facts
    refine bodyPost_ret (v := .tuple #[flV Q.kind Q.neg Q.exp (.slice A2 (cn Q.mag).length c2), .int .i64 0]) (by simp [results, Tryz.results25, go_sem, s0, s1, s2, s3]) rfl ?_
    exact ⟨_, rfl, ⟨_, rfl, ho5⟩, hE5⟩
set_option maxHeartbeats 4000000 in
set_option maxRecDepth 100000 in
theorem Min_w (k p : Int) (a b : FA) (ec : Int) (q : Fl) (hch : ∀ w, Tab w → Rd w a.A a.c a.xs → Rd w b.A b.c b.xs → Calls Tryz.prog 25 #[.agg #[.int .i64 k, .int .i64 p], a.v, b.v, .int .i64 (-1)] w (FErr w ec q)) (w : World) (hT : Tab w) (ha : Rd w a.A a.c a.xs) (hb : Rd w b.A b.c b.xs) :
    Calls Tryz.prog 9 #[.agg #[.int .i64 k, .int .i64 p], a.v, b.v] w (FErr w ec q) := by
  obtain ⟨hF, hX, hY, hR, hE⟩ := boxesC w k p a b _ rfl
  unfold FErr FlR at *
  generalize q.kind = qk at *
  generalize q.neg = qn at *
  generalize q.exp = qe at *
  generalize cn q.mag = Q at *
  clear q
  obtain ⟨ak, an, ae, aA, ac, axs⟩ := a
  obtain ⟨bk, bn, be, bA, bc, bxs⟩ := b
  simp only at ha hb hF hX hY hR hE hch
  have HR := Lib.hid hR
  have HE := Lib.hid hE
  clear hF hX hY hR hE
  go_enter Tryz.func9, Tryz.ntmps9
  go_wp2_with fail
  refine (hch _ (hT.ext HE.out) (ha.ext HE.out) (hb.ext HE.out)).mono ?_
  rintro z w3 ⟨u, rfl, ⟨v, rfl, ho3⟩, hb3⟩
  obtain ⟨A3, c3, rfl, hr3⟩ := ho3.rd
  have hlr := HR.out.lt
  obtain ⟨r0, r1, r2, r3, rf⟩ := (HR.out.ext hb3).facts
  go_wp2
  have hE5 := (HE.out.tr hb3).put (g := w.heap.size + 1 + 1 + 1) (by omega) (.int .i64 qk) (.bool qn) (.int .i64 qe) (.slice A3 Q.length c3)
  have ho5 := ((ho3.low hlr).putBelow (g := w.heap.size + 1 + 1 + 1) (by omega) (.int .i64 qk) (.bool qn) (.int .i64 qe) (.slice A3 Q.length c3)).low (b := w.heap.size) (by omega)
  obtain ⟨s0, s1, s2, s3, -⟩ := ((HR.out.ext hb3).put (.int .i64 qk) (.bool qn) (.int .i64 qe) (.slice A3 Q.length c3)).facts
  refine bodyPost_ret (v := .tuple #[flV qk qn qe (.slice A3 Q.length c3), .int .i64 ec]) (by simp [results, Tryz.results9, go_sem, s0, s1, s2, s3]) rfl ?_
  exact ⟨_, rfl, ⟨_, rfl, ho5⟩, hE5⟩
set_option maxHeartbeats 4000000 in
set_option maxRecDepth 100000 in
theorem Max_w (k p : Int) (a b : FA) (ec : Int) (q : Fl) (hch : ∀ w, Tab w → Rd w a.A a.c a.xs → Rd w b.A b.c b.xs → Calls Tryz.prog 25 #[.agg #[.int .i64 k, .int .i64 p], a.v, b.v, .int .i64 (1)] w (FErr w ec q)) (w : World) (hT : Tab w) (ha : Rd w a.A a.c a.xs) (hb : Rd w b.A b.c b.xs) :
    Calls Tryz.prog 10 #[.agg #[.int .i64 k, .int .i64 p], a.v, b.v] w (FErr w ec q) := by
  obtain ⟨hF, hX, hY, hR, hE⟩ := boxesC w k p a b _ rfl
  unfold FErr FlR at *
  generalize q.kind = qk at *
  generalize q.neg = qn at *
  generalize q.exp = qe at *
  generalize cn q.mag = Q at *
  clear q
  obtain ⟨ak, an, ae, aA, ac, axs⟩ := a
  obtain ⟨bk, bn, be, bA, bc, bxs⟩ := b
  simp only at ha hb hF hX hY hR hE hch
  have HR := Lib.hid hR
  have HE := Lib.hid hE
  clear hF hX hY hR hE
  go_enter Tryz.func10, Tryz.ntmps10
  go_wp2_with fail
  refine (hch _ (hT.ext HE.out) (ha.ext HE.out) (hb.ext HE.out)).mono ?_
  rintro z w3 ⟨u, rfl, ⟨v, rfl, ho3⟩, hb3⟩
  obtain ⟨A3, c3, rfl, hr3⟩ := ho3.rd
  have hlr := HR.out.lt
  obtain ⟨r0, r1, r2, r3, rf⟩ := (HR.out.ext hb3).facts
  go_wp2
  have hE5 := (HE.out.tr hb3).put (g := w.heap.size + 1 + 1 + 1) (by omega) (.int .i64 qk) (.bool qn) (.int .i64 qe) (.slice A3 Q.length c3)
  have ho5 := ((ho3.low hlr).putBelow (g := w.heap.size + 1 + 1 + 1) (by omega) (.int .i64 qk) (.bool qn) (.int .i64 qe) (.slice A3 Q.length c3)).low (b := w.heap.size) (by omega)
  obtain ⟨s0, s1, s2, s3, -⟩ := ((HR.out.ext hb3).put (.int .i64 qk) (.bool qn) (.int .i64 qe) (.slice A3 Q.length c3)).facts
  refine bodyPost_ret (v := .tuple #[flV qk qn qe (.slice A3 Q.length c3), .int .i64 ec]) (by simp [results, Tryz.results10, go_sem, s0, s1, s2, s3]) rfl ?_
  exact ⟨_, rfl, ⟨_, rfl, ho5⟩, hE5⟩
end Go.Proofs.YtbgomnecchgleaaGreatDoor
namespace Go.Proofs.YtbgomnecchgleaaGreatDoor
open Go.RowKit

/-- What Toward answers. -/
def towF (k p : Int) (f g : Fl) : Fl := if f.kind = 3 ∨ g.kind = 3 then ⟨3, false, 0, 0⟩ else if sgn (idx k p f - idx k p g) = 0 then g else nextF k p f (decide (sgn (idx k p f - idx k p g) < 0))
theorem tow_cases (k p : Int) (f g : Fl) : (((f.kind == 3) = true ∨ ((f.kind == 3) = false ∧ (g.kind == 3) = true)) ∧ towF k p f g = ⟨3, false, 0, 0⟩) ∨ ((f.kind == 3) = false ∧ (g.kind == 3) = false ∧ (sgn (idx k p f - idx k p g) == 0) = true ∧ towF k p f g = g) ∨
    ((f.kind == 3) = false ∧ (g.kind == 3) = false ∧ (sgn (idx k p f - idx k p g) == 0) = false ∧ towF k p f g = nextF k p f (decide (sgn (idx k p f - idx k p g) < 0))) := by
  unfold towF
  by_cases h1 : f.kind = 3
  · exact .inl ⟨.inl (by simpa using h1), by rw [if_pos (.inl h1)]⟩
  · by_cases h2 : g.kind = 3
    · exact .inl ⟨.inr ⟨by simpa using h1, by simpa using h2⟩, by rw [if_pos (.inr h2)]⟩
    · by_cases h3 : sgn (idx k p f - idx k p g) = 0
      · exact .inr (.inl ⟨by simpa using h1, by simpa using h2, by simpa using h3, by rw [if_neg (by omega), if_pos h3]⟩)
      · exact .inr (.inr ⟨by simpa using h1, by simpa using h2, by simpa using h3, by rw [if_neg (by omega), if_neg h3]⟩)
set_option maxHeartbeats 4000000 in
set_option maxRecDepth 100000 in
theorem Toward_bad (k p : Int) (a b : FA) (ec : Int) (hfl : FlsS k p [a, b] = (ec, [])) (he : ec ≠ 0) (w : World) (hT : Tab w) (ha : Rd w a.A a.c a.xs) (hb : Rd w b.A b.c b.xs) :
    Calls Tryz.prog 12 #[.agg #[.int .i64 k, .int .i64 p], a.v, b.v] w (FErr w ec ⟨0, false, 0, 0⟩) := by
  obtain ⟨hF, hX, hY, hR, hE⟩ := boxesC w k p a b _ rfl
  have hpr := fun w hT h1 h2 => pair_bad k p a b ec hfl he w hT h1 h2
  have hbe : (ec != 0) = true := by rw [bne_iff_ne]; exact he
  unfold PairR at hpr
  simp only [show cn 0 = [] from digs_zero B, List.length_nil] at hpr
  clear hfl he
  obtain ⟨ak, an, ae, aA, ac, axs⟩ := a
  obtain ⟨bk, bn, be, bA, bc, bxs⟩ := b
  simp only at ha hb hF hX hY hR hE hpr
  have HF := Lib.hid hF
  have HX := Lib.hid hX
  have HY := Lib.hid hY
  have HR := Lib.hid hR
  have HE := Lib.hid hE
  clear hF hX hY hR hE
  go_enter Tryz.func12, Tryz.ntmps12
  go_wp2_with fail
  refine (hpr _ (hT.ext HE.out) (ha.ext HE.out) (hb.ext HE.out)).mono ?_
  rintro z w3 ⟨A1, c1, A2, c2, rfl, ho1, ho2, hb3⟩
  have hlr := HR.out.lt
  obtain ⟨x0, x1, x2, x3, xf⟩ := (HX.out.ext hb3).facts
  obtain ⟨y0, y1, y2, y3, yf⟩ := (HY.out.ext hb3).facts
  have H4 := Lib.hid (after_pair (HF.out.ext hb3) (HX.out.ext hb3) (HY.out.ext hb3) (HR.out.ext hb3) (HE.out.tr hb3) (ho1.low hlr) (ho2.low hlr) (.int .i64 0) (.bool false) (.int .i64 0) (.int .i64 0) (.bool false) (.int .i64 0) _ rfl)
  obtain ⟨r0, r1, r2, r3, rf⟩ := H4.out.2.2.2.1.facts
  clear ho1 ho2
  go_wp2
  have hE5 := H4.out.2.2.2.2.1.put (g := w.heap.size + 1 + 1 + 1) (by omega) (.int .i64 0) (.bool false) (.int .i64 0) (.slice none 0 0)
  obtain ⟨s0, s1, s2, s3, -⟩ := (H4.out.2.2.2.1.put (.int .i64 0) (.bool false) (.int .i64 0) (.slice none 0 0)).facts
  refine bodyPost_ret (v := .tuple #[flV 0 false 0 (.slice none 0 0), .int .i64 ec]) (by simp [results, Tryz.results12, go_sem, s0, s1, s2, s3]) rfl ?_
  exact FErr.bad hE5
set_option maxHeartbeats 8000000 in
set_option maxRecDepth 100000 in
theorem Toward_good (k p : Int) (hRg : Rgt k p) (a b : FA) (f g : Fl) (hfl : FlsS k p [a, b] = (0, [f, g])) (hf : FOf k p f) (hg : FOf k p g) (w : World) (hT : Tab w) (ha : Rd w a.A a.c a.xs) (hb : Rd w b.A b.c b.xs) :
    Calls Tryz.prog 12 #[.agg #[.int .i64 k, .int .i64 p], a.v, b.v] w (FErr w 0 (towF k p f g)) := by
  obtain ⟨hF, hX, hY, hR, hE⟩ := boxesC w k p a b _ rfl
  have hpr := fun w hT h1 h2 => pair_good k p a b f g hfl w hT h1 h2
  have htt := fun A A' c c' w hT h h' => compare_c k p hRg f g hf hg A A' c c' w hT h h'
  have hnx := fun A c b w hb hT h => next_c k p hRg f hf (decide (sgn (idx k p f - idx k p g) < 0)) A c b w hb hT h
  unfold NxR at hnx
  have hcs := tow_cases k p f g
  unfold PairR at hpr
  unfold FErr FlR
  generalize towF k p f g = Q at *
  generalize nextF k p f (decide (sgn (idx k p f - idx k p g) < 0)) = G at *
  generalize sgn (idx k p f - idx k p g) = T at *
  clear hfl hf hg hRg
  obtain ⟨ak, an, ae, aA, ac, axs⟩ := a
  obtain ⟨bk, bn, be, bA, bc, bxs⟩ := b
  simp only at ha hb hF hX hY hR hE hpr
  have HF := Lib.hid hF
  have HX := Lib.hid hX
  have HY := Lib.hid hY
  have HR := Lib.hid hR
  have HE := Lib.hid hE
  have HC := Lib.hid hcs
  clear hF hX hY hR hE hcs
  go_enter Tryz.func12, Tryz.ntmps12
  go_wp2_with fail
  refine (hpr _ (hT.ext HE.out) (ha.ext HE.out) (hb.ext HE.out)).mono ?_
  rintro z w3 ⟨A1, c1, A2, c2, rfl, ho1, ho2, hb3⟩
  have hlr := HR.out.lt
  obtain ⟨x0, x1, x2, x3, xf⟩ := (HX.out.ext hb3).facts
  obtain ⟨y0, y1, y2, y3, yf⟩ := (HY.out.ext hb3).facts
  have H4 := Lib.hid (after_pair (HF.out.ext hb3) (HX.out.ext hb3) (HY.out.ext hb3) (HR.out.ext hb3) (HE.out.tr hb3) (ho1.low hlr) (ho2.low hlr) (.int .i64 f.kind) (.bool f.neg) (.int .i64 f.exp) (.int .i64 g.kind) (.bool g.neg) (.int .i64 g.exp) _ rfl)
  clear ho1 ho2
  obtain ⟨f0', f1'⟩ := H4.out.1.facts
  obtain ⟨x0', x1', x2', x3', xf'⟩ := H4.out.2.1.facts
  obtain ⟨y0', y1', y2', y3', yf'⟩ := H4.out.2.2.1.facts
  obtain ⟨r0, r1, r2, r3, rf⟩ := H4.out.2.2.2.1.facts
  rcases HC.out with ⟨(e1 | ⟨e1, e2⟩), rfl⟩ | ⟨e1, e2, e3, rfl⟩ | ⟨e1, e2, e3, rfl⟩
  · go_wp2
    have hE5 := H4.out.2.2.2.2.1.put (g := w.heap.size + 1 + 1 + 1) (by omega) (.int .i64 3) (.bool false) (.int .i64 0) (.slice none 0 0)
    obtain ⟨s0, s1, s2, s3, -⟩ := (H4.out.2.2.2.1.put (.int .i64 3) (.bool false) (.int .i64 0) (.slice none 0 0)).facts
    refine bodyPost_ret (v := .tuple #[flV 3 false 0 (.slice none 0 0), .int .i64 0]) (by simp [results, Tryz.results12, go_sem, s0, s1, s2, s3]) rfl ?_
    exact ⟨_, rfl, ⟨_, rfl, by rw [show cn (0 : Nat) = [] from digs_zero B]; exact Own.nil _ _⟩, hE5⟩
  · go_wp2
    have hE5 := H4.out.2.2.2.2.1.put (g := w.heap.size + 1 + 1 + 1) (by omega) (.int .i64 3) (.bool false) (.int .i64 0) (.slice none 0 0)
    obtain ⟨s0, s1, s2, s3, -⟩ := (H4.out.2.2.2.1.put (.int .i64 3) (.bool false) (.int .i64 0) (.slice none 0 0)).facts
    refine bodyPost_ret (v := .tuple #[flV 3 false 0 (.slice none 0 0), .int .i64 0]) (by simp [results, Tryz.results12, go_sem, s0, s1, s2, s3]) rfl ?_
    exact ⟨_, rfl, ⟨_, rfl, by rw [show cn (0 : Nat) = [] from digs_zero B]; exact Own.nil _ _⟩, hE5⟩
  · go_wp2_with fail
    refine (htt _ _ _ _ _ (hT.ext H4.out.2.2.2.2.1) H4.out.2.2.2.2.2.1.rdAt.2 H4.out.2.2.2.2.2.2.rdAt.2).mono ?_
    rintro z w5 ⟨rfl, hb5⟩
    clear f0' f1' x0 x1 x2 x3 xf y0 y1 y2 y3 yf x0' x1' x2' x3' xf' y0' y1' y2' y3' yf' r0 r1 r2 r3 rf
    obtain ⟨x0, x1, x2, x3, xf⟩ := (H4.out.2.1.ext hb5).facts
    obtain ⟨y0, y1, y2, y3, yf⟩ := (H4.out.2.2.1.ext hb5).facts
    obtain ⟨r0, r1, r2, r3, rf⟩ := (H4.out.2.2.2.1.ext hb5).facts
    go_wp2
    have hE5 := (H4.out.2.2.2.2.1.tr hb5).put (g := w.heap.size + 1 + 1 + 1) (by omega) (.int .i64 Q.kind) (.bool Q.neg) (.int .i64 Q.exp) (.slice A2 (cn Q.mag).length c2)
    have ho5 := ((H4.out.2.2.2.2.2.2.ext hb5).putBelow (g := w.heap.size + 1 + 1 + 1) (by omega) (.int .i64 Q.kind) (.bool Q.neg) (.int .i64 Q.exp) (.slice A2 (cn Q.mag).length c2)).low (b := w.heap.size) (by omega)
    obtain ⟨s0, s1, s2, s3, -⟩ := ((H4.out.2.2.2.1.ext hb5).put (.int .i64 Q.kind) (.bool Q.neg) (.int .i64 Q.exp) (.slice A2 (cn Q.mag).length c2)).facts
    refine bodyPost_ret (v := .tuple #[flV Q.kind Q.neg Q.exp (.slice A2 (cn Q.mag).length c2), .int .i64 0]) (by simp [results, Tryz.results12, go_sem, s0, s1, s2, s3]) rfl ?_
    exact ⟨_, rfl, ⟨_, rfl, ho5⟩, hE5⟩
  · go_wp2_with fail
    refine (htt _ _ _ _ _ (hT.ext H4.out.2.2.2.2.1) H4.out.2.2.2.2.2.1.rdAt.2 H4.out.2.2.2.2.2.2.rdAt.2).mono ?_
    rintro z w5 ⟨rfl, hb5⟩
    obtain ⟨g0, g1⟩ := (H4.out.1.ext hb5).facts
    clear f0' f1' x0 x1 x2 x3 xf y0 y1 y2 y3 yf x0' x1' x2' x3' xf' y0' y1' y2' y3' yf' r0 r1 r2 r3 rf
    obtain ⟨x0, x1, x2, x3, xf⟩ := (H4.out.2.1.ext hb5).facts
    obtain ⟨y0, y1, y2, y3, yf⟩ := (H4.out.2.2.1.ext hb5).facts
    obtain ⟨r0, r1, r2, r3, rf⟩ := (H4.out.2.2.2.1.ext hb5).facts
    go_wp2_with fail
    have hsz5 := (H4.out.2.2.2.1.ext hb5).lt
    refine (hnx A1 c1 (w.heap.size + 1 + 1 + 1 + 1) _ hsz5 (hT.ext (H4.out.2.2.2.2.1.tr hb5)) (H4.out.2.2.2.2.2.1.ext hb5)).mono ?_
    rintro z w6 ⟨A3, c3, rfl, ho6, hb6⟩
    clear g0 g1 x0 x1 x2 x3 xf y0 y1 y2 y3 yf r0 r1 r2 r3 rf
    obtain ⟨r0, r1, r2, r3, rf⟩ := ((H4.out.2.2.2.1.ext hb5).ext hb6).facts
    go_wp2
    have hE5 := ((H4.out.2.2.2.2.1.tr hb5).tr hb6).put (g := w.heap.size + 1 + 1 + 1) (by omega) (.int .i64 Q.kind) (.bool Q.neg) (.int .i64 Q.exp) (.slice A3 (cn Q.mag).length c3)
    have ho5 := (ho6.putBelow (g := w.heap.size + 1 + 1 + 1) (by omega) (.int .i64 Q.kind) (.bool Q.neg) (.int .i64 Q.exp) (.slice A3 (cn Q.mag).length c3)).low (b := w.heap.size) (by omega)
    obtain ⟨s0, s1, s2, s3, -⟩ := (((H4.out.2.2.2.1.ext hb5).ext hb6).put (.int .i64 Q.kind) (.bool Q.neg) (.int .i64 Q.exp) (.slice A3 (cn Q.mag).length c3)).facts
    refine bodyPost_ret (v := .tuple #[flV Q.kind Q.neg Q.exp (.slice A3 (cn Q.mag).length c3), .int .i64 0]) (by simp [results, Tryz.results12, go_sem, s0, s1, s2, s3]) rfl ?_
    exact ⟨_, rfl, ⟨_, rfl, ho5⟩, hE5⟩
end Go.Proofs.YtbgomnecchgleaaGreatDoor
