/- package order: Steps. package reckonerlaw21: awake. -/
import Derived.Test.YtlnfmngginihfaaGreatDoorOC
set_option linter.unusedVariables false
set_option linter.unusedSimpArgs false
namespace Go.Proofs.YtlnfmngginihfaaGreatDoor
open Go.RowKit

theorem Bi.far {w : World} {g g' : Nat} {a b : Value} (x : Bi w g a b) (hne : g ≠ g') (a' b' c' d' : Value) : Bi ((((w.setCell ⟨g', 0, none⟩ a').setCell ⟨g', 1, none⟩ b').setCell ⟨g', 2, none⟩ c').setCell ⟨g', 3, none⟩ d') g a b := by
  have h := x.h
  constructor
  simp [World.setCell, Array.getElem?_modify, h, hne, Ne.symm hne]
theorem boxesS (w : World) (k p : Int) (a b : FA) : ∀ W, W = ((((w.alloc (.cells #[.int .i64 k, .int .i64 p] 23)).alloc (.cells #[.int .i64 a.k, .bool a.neg, .int .i64 a.e, .slice a.A a.xs.length a.c] 40)).alloc (.cells #[.int .i64 b.k, .bool b.neg, .int .i64 b.e, .slice b.A b.xs.length b.c] 40)).alloc (.cells #[.bool false, .slice none 0 0] 49)) →
    Bf W w.heap.size (.int .i64 k) (.int .i64 p) ∧ Bx W (w.heap.size + 1) (.int .i64 a.k) (.bool a.neg) (.int .i64 a.e) (.slice a.A a.xs.length a.c) ∧ Bx W (w.heap.size + 1 + 1) (.int .i64 b.k) (.bool b.neg) (.int .i64 b.e) (.slice b.A b.xs.length b.c) ∧ Bi W (w.heap.size + 1 + 1 + 1) (.bool false) (.slice none 0 0) ∧ Ext w W := by
  rintro W rfl
  obtain ⟨h1, h2, h3, h4⟩ := boxesT w k p a b _ rfl
  have x4 := Bi.new (((w.alloc (.cells #[.int .i64 k, .int .i64 p] 23)).alloc (.cells #[.int .i64 a.k, .bool a.neg, .int .i64 a.e, .slice a.A a.xs.length a.c] 40)).alloc (.cells #[.int .i64 b.k, .bool b.neg, .int .i64 b.e, .slice b.A b.xs.length b.c] 40)) (.bool false) (.slice none 0 0)
  rw [World.size_alloc, World.size_alloc, World.size_alloc] at x4
  exact ⟨h1.ext ((Ext.refl _).al _), h2.ext ((Ext.refl _).al _), h3.ext ((Ext.refl _).al _), x4, h4.al _⟩
/-- What Steps hands back where there is an error. -/
def IntNo (w : World) (ec : Int) (e : Ending) (w' : World) : Prop := e = .returned (.tuple #[intV false none 0 0, .int .i64 ec]) ∧ Ext w w'
theorem idx_lt {k p : Int} {f : Fl} (hR : Rgt k p) (hf : FOf k p f) : (idx k p f).natAbs < 2 ^ (k.toNat + p.toNat - 1) := by
  unfold idx
  rw [sg_abs]
  exact enc_lt hR hf.ok hf.inn
theorem idx_sub_len {k p : Int} {f g : Fl} (hR : Rgt k p) (hf : FOf k p f) (hg : FOf k p g) : (cn (idx k p g - idx k p f).natAbs).length ≤ 4096 := by
  have h1 := idx_lt hR hf
  have h2 := idx_lt hR hg
  obtain ⟨k1, k2, p1, p2⟩ := hR
  have e : 2 ^ (k.toNat + p.toNat) = 2 * 2 ^ (k.toNat + p.toNat - 1) := by rw [← Nat.pow_succ']; congr 1; omega
  have := cn_len_pow (m := k.toNat + p.toNat) (k := 5) (n := (idx k p g - idx k p f).natAbs) (by omega) (by omega)
  omega
set_option maxHeartbeats 4000000 in
set_option maxRecDepth 100000 in
theorem Steps_bad (k p : Int) (a b : FA) (ec : Int) (hfl : FlsS k p [a, b] = (ec, [])) (he : ec ≠ 0) (w : World) (hT : Tab w) (ha : Rd w a.A a.c a.xs) (hb : Rd w b.A b.c b.xs) :
    Calls Tryz.prog 13 #[.agg #[.int .i64 k, .int .i64 p], a.v, b.v] w (IntNo w ec) := by
  obtain ⟨hF, hX, hY, hI, hE⟩ := boxesS w k p a b _ rfl
  have hpr := fun w hT h1 h2 => pair_bad k p a b ec hfl he w hT h1 h2
  have hbe : (ec != 0) = true := by rw [bne_iff_ne]; exact he
  unfold PairR at hpr
  clear hfl he
  obtain ⟨ak, an, ae, aA, ac, axs⟩ := a
  obtain ⟨bk, bn, be, bA, bc, bxs⟩ := b
  simp only at ha hb hX hY hE hpr hI
  have HX := Lib.hid hX
  have HY := Lib.hid hY
  have HI := Lib.hid hI
  have HE := Lib.hid hE
  clear hX hY hE hF hI
  go_enter Tryz.func13, Tryz.ntmps13
  go_wp2_with fail
  refine (hpr _ (hT.ext HE.out) (ha.ext HE.out) (hb.ext HE.out)).mono ?_
  rintro z w3 ⟨A1, c1, A2, c2, rfl, -, -, hb3⟩
  simp only [show cn 0 = [] from digs_zero B, List.length_nil]
  have hX3 := HX.out.ext hb3
  have hY3 := HY.out.ext hb3
  have hE3 := HE.out.tr hb3
  have hI4 := ((HI.out.ext hb3).far (g' := w.heap.size + 1) (by omega) (.int .i64 0) (.bool false) (.int .i64 0) (.slice A1 0 c1)).far (g' := w.heap.size + 1 + 1) (by omega) (.int .i64 0) (.bool false) (.int .i64 0) (.slice A2 0 c2)
  have hE4 := (hE3.put (g := w.heap.size + 1) (by omega) (.int .i64 0) (.bool false) (.int .i64 0) (.slice A1 0 c1)).put (g := w.heap.size + 1 + 1) (by omega) (.int .i64 0) (.bool false) (.int .i64 0) (.slice A2 0 c2)
  obtain ⟨x0, x1, x2, x3, xf⟩ := hX3.facts
  obtain ⟨y0, y1, y2, y3, yf⟩ := hY3.facts
  obtain ⟨i0, i1, i2⟩ := hI4.facts
  go_wp2
  have hI5 := hI4.put (.bool false) (.slice none 0 0)
  obtain ⟨j0, j1, -⟩ := hI5.facts
  refine bodyPost_ret (v := .tuple #[intV false none 0 0, .int .i64 ec]) (by simp [results, Tryz.results13, go_sem, j0, j1]) rfl ?_
  exact ⟨rfl, hE4.puti (g := w.heap.size + 1 + 1 + 1) (by omega) _ _⟩
set_option maxHeartbeats 4000000 in
set_option maxRecDepth 100000 in
theorem Steps_nan (k p : Int) (a b : FA) (f g : Fl) (hfl : FlsS k p [a, b] = (0, [f, g])) (h3 : f.kind = 3 ∨ g.kind = 3) (w : World) (hT : Tab w) (ha : Rd w a.A a.c a.xs) (hb : Rd w b.A b.c b.xs) :
    Calls Tryz.prog 13 #[.agg #[.int .i64 k, .int .i64 p], a.v, b.v] w (IntNo w 4) := by
  obtain ⟨hF, hX, hY, hI, hE⟩ := boxesS w k p a b _ rfl
  have hpr := fun w hT h1 h2 => pair_good k p a b f g hfl w hT h1 h2
  unfold PairR at hpr
  clear hfl
  obtain ⟨ak, an, ae, aA, ac, axs⟩ := a
  obtain ⟨bk, bn, be, bA, bc, bxs⟩ := b
  simp only at ha hb hF hX hY hE hpr hI
  have HF := Lib.hid hF
  have HX := Lib.hid hX
  have HY := Lib.hid hY
  have HI := Lib.hid hI
  have HE := Lib.hid hE
  clear hX hY hE hF hI
  have h3' : ((f.kind == 3) = true) ∨ ((f.kind == 3) = false ∧ (g.kind == 3) = true) := by
    by_cases h : f.kind = 3
    · exact .inl (by simpa using h)
    · exact .inr ⟨by simpa using h, by simpa using h3.resolve_left h⟩
  clear h3
  rcases h3' with e1 | ⟨e1, e2⟩
  all_goals
    go_enter Tryz.func13, Tryz.ntmps13
    go_wp2_with fail
    refine (hpr _ (hT.ext HE.out) (ha.ext HE.out) (hb.ext HE.out)).mono ?_
    rintro z w3 ⟨A1, c1, A2, c2, rfl, ho1, ho2, hb3⟩
    have hF3 := HF.out.ext hb3
    have hX3 := HX.out.ext hb3
    have hY3 := HY.out.ext hb3
    have hE3 := HE.out.tr hb3
    have hsz := HI.out.lt
    have hX4 := (hX3.put (.int .i64 f.kind) (.bool f.neg) (.int .i64 f.exp) (.slice A1 (cn f.mag).length c1)).apart (g' := w.heap.size + 1 + 1) (by omega) (.int .i64 g.kind) (.bool g.neg) (.int .i64 g.exp) (.slice A2 (cn g.mag).length c2)
    have hY4 := (hY3.apart (g' := w.heap.size + 1) (by omega) (.int .i64 f.kind) (.bool f.neg) (.int .i64 f.exp) (.slice A1 (cn f.mag).length c1)).put (.int .i64 g.kind) (.bool g.neg) (.int .i64 g.exp) (.slice A2 (cn g.mag).length c2)
    have hF4 := (hF3.apart (g' := w.heap.size + 1) (by omega) (.int .i64 f.kind) (.bool f.neg) (.int .i64 f.exp) (.slice A1 (cn f.mag).length c1)).apart (g' := w.heap.size + 1 + 1) (by omega) (.int .i64 g.kind) (.bool g.neg) (.int .i64 g.exp) (.slice A2 (cn g.mag).length c2)
    have hI4 := ((HI.out.ext hb3).far (g' := w.heap.size + 1) (by omega) (.int .i64 f.kind) (.bool f.neg) (.int .i64 f.exp) (.slice A1 (cn f.mag).length c1)).far (g' := w.heap.size + 1 + 1) (by omega) (.int .i64 g.kind) (.bool g.neg) (.int .i64 g.exp) (.slice A2 (cn g.mag).length c2)
    have hE4 := (hE3.put (g := w.heap.size + 1) (by omega) (.int .i64 f.kind) (.bool f.neg) (.int .i64 f.exp) (.slice A1 (cn f.mag).length c1)).put (g := w.heap.size + 1 + 1) (by omega) (.int .i64 g.kind) (.bool g.neg) (.int .i64 g.exp) (.slice A2 (cn g.mag).length c2)
    have hr1 := ((ho1.putBelow (g := w.heap.size + 1) (by omega) (.int .i64 f.kind) (.bool f.neg) (.int .i64 f.exp) (.slice A1 (cn f.mag).length c1)).putBelow (g := w.heap.size + 1 + 1) (by omega) (.int .i64 g.kind) (.bool g.neg) (.int .i64 g.exp) (.slice A2 (cn g.mag).length c2)).rdAt.2
    have hr2 := ((ho2.putBelow (g := w.heap.size + 1) (by omega) (.int .i64 f.kind) (.bool f.neg) (.int .i64 f.exp) (.slice A1 (cn f.mag).length c1)).putBelow (g := w.heap.size + 1 + 1) (by omega) (.int .i64 g.kind) (.bool g.neg) (.int .i64 g.exp) (.slice A2 (cn g.mag).length c2)).rdAt.2
    obtain ⟨x0, x1, x2, x3, xf⟩ := hX3.facts
    obtain ⟨y0, y1, y2, y3, yf⟩ := hY3.facts
    obtain ⟨f0', f1'⟩ := hF4.facts
    obtain ⟨x0', x1', x2', x3', xf'⟩ := hX4.facts
    obtain ⟨y0', y1', y2', y3', yf'⟩ := hY4.facts
    obtain ⟨i0, i1, i2⟩ := hI4.facts
    clear hF3 hX3 hY3 hE3 ho1 ho2
    go_wp2
    have hI5 := hI4.put (.bool false) (.slice none 0 0)
    obtain ⟨j0, j1, -⟩ := hI5.facts
    refine bodyPost_ret (v := .tuple #[intV false none 0 0, .int .i64 4]) (by simp [results, Tryz.results13, go_sem, j0, j1]) rfl ?_
    exact ⟨rfl, hE4.puti (g := w.heap.size + 1 + 1 + 1) (by omega) _ _⟩
set_option maxHeartbeats 4000000 in
set_option maxRecDepth 100000 in
theorem Steps_good (k p : Int) (hR : Rgt k p) (a b : FA) (f g : Fl) (hfl : FlsS k p [a, b] = (0, [f, g])) (hf : FOf k p f) (hg : FOf k p g) (hf3 : f.kind ≠ 3) (hg3 : g.kind ≠ 3) (w : World) (hT : Tab w) (ha : Rd w a.A a.c a.xs) (hb : Rd w b.A b.c b.xs) :
    Calls Tryz.prog 13 #[.agg #[.int .i64 k, .int .i64 p], a.v, b.v] w (IntSE w (idx k p g - idx k p f)) := by
  obtain ⟨hF, hX, hY, hI, hE⟩ := boxesS w k p a b _ rfl
  have hpr := fun w hT h1 h2 => pair_good k p a b f g hfl w hT h1 h2
  have i1 := fun A c w hT h => index_c k p hR g hg A c w hT h
  have i2 := fun A c w hT h => index_c k p hR f hf A c w hT h
  have l1 := idx_len hR hg
  have l2 := idx_len hR hf
  have hl := idx_sub_len hR hf hg
  have hsub := fun A1 A2 c1 c2 w h1 h2 => isub_c (decide (idx k p g < 0)) (decide (idx k p f < 0)) A1 A2 c1 c2 (cn (idx k p g).natAbs) (cn (idx k p f).natAbs) w h1 h2 (by omega) (by omega)
  simp only [val_cn, sg_self] at hsub
  have hsub' := fun A1 A2 c1 c2 w h1 h2 => hsub A1 A2 c1 c2 w h1 h2 hl
  clear hsub hl l1 l2
  unfold IntR at i1 i2
  unfold IntSE at hsub' ⊢
  rw [show sg f.neg (encM k p f) = idx k p f from rfl] at i2
  rw [show sg g.neg (encM k p g) = idx k p g from rfl] at i1
  have e1 : (f.kind == 3) = false := by simpa using hf3
  have e2 : (g.kind == 3) = false := by simpa using hg3
  generalize idx k p g - idx k p f = z at *
  generalize idx k p f = z2 at *
  generalize idx k p g = z1 at *
  clear hf hg hR hf3 hg3
  unfold PairR at hpr
  clear hfl
  obtain ⟨ak, an, ae, aA, ac, axs⟩ := a
  obtain ⟨bk, bn, be, bA, bc, bxs⟩ := b
  simp only at ha hb hF hX hY hE hpr hI
  have HF := Lib.hid hF
  have HX := Lib.hid hX
  have HY := Lib.hid hY
  have HI := Lib.hid hI
  have HE := Lib.hid hE
  clear hX hY hE hF hI
  go_enter Tryz.func13, Tryz.ntmps13
  go_wp2_with fail
  refine (hpr _ (hT.ext HE.out) (ha.ext HE.out) (hb.ext HE.out)).mono ?_
  rintro z w3 ⟨A1, c1, A2, c2, rfl, ho1, ho2, hb3⟩
  have hF3 := HF.out.ext hb3
  have hX3 := HX.out.ext hb3
  have hY3 := HY.out.ext hb3
  have hE3 := HE.out.tr hb3
  have hsz := HI.out.lt
  have hX4 := (hX3.put (.int .i64 f.kind) (.bool f.neg) (.int .i64 f.exp) (.slice A1 (cn f.mag).length c1)).apart (g' := w.heap.size + 1 + 1) (by omega) (.int .i64 g.kind) (.bool g.neg) (.int .i64 g.exp) (.slice A2 (cn g.mag).length c2)
  have hY4 := (hY3.apart (g' := w.heap.size + 1) (by omega) (.int .i64 f.kind) (.bool f.neg) (.int .i64 f.exp) (.slice A1 (cn f.mag).length c1)).put (.int .i64 g.kind) (.bool g.neg) (.int .i64 g.exp) (.slice A2 (cn g.mag).length c2)
  have hF4 := (hF3.apart (g' := w.heap.size + 1) (by omega) (.int .i64 f.kind) (.bool f.neg) (.int .i64 f.exp) (.slice A1 (cn f.mag).length c1)).apart (g' := w.heap.size + 1 + 1) (by omega) (.int .i64 g.kind) (.bool g.neg) (.int .i64 g.exp) (.slice A2 (cn g.mag).length c2)
  have hI4 := ((HI.out.ext hb3).far (g' := w.heap.size + 1) (by omega) (.int .i64 f.kind) (.bool f.neg) (.int .i64 f.exp) (.slice A1 (cn f.mag).length c1)).far (g' := w.heap.size + 1 + 1) (by omega) (.int .i64 g.kind) (.bool g.neg) (.int .i64 g.exp) (.slice A2 (cn g.mag).length c2)
  have hE4 := (hE3.put (g := w.heap.size + 1) (by omega) (.int .i64 f.kind) (.bool f.neg) (.int .i64 f.exp) (.slice A1 (cn f.mag).length c1)).put (g := w.heap.size + 1 + 1) (by omega) (.int .i64 g.kind) (.bool g.neg) (.int .i64 g.exp) (.slice A2 (cn g.mag).length c2)
  have hr1 := ((ho1.putBelow (g := w.heap.size + 1) (by omega) (.int .i64 f.kind) (.bool f.neg) (.int .i64 f.exp) (.slice A1 (cn f.mag).length c1)).putBelow (g := w.heap.size + 1 + 1) (by omega) (.int .i64 g.kind) (.bool g.neg) (.int .i64 g.exp) (.slice A2 (cn g.mag).length c2)).rdAt.2
  have hr2 := ((ho2.putBelow (g := w.heap.size + 1) (by omega) (.int .i64 f.kind) (.bool f.neg) (.int .i64 f.exp) (.slice A1 (cn f.mag).length c1)).putBelow (g := w.heap.size + 1 + 1) (by omega) (.int .i64 g.kind) (.bool g.neg) (.int .i64 g.exp) (.slice A2 (cn g.mag).length c2)).rdAt.2
  obtain ⟨x0, x1, x2, x3, xf⟩ := hX3.facts
  obtain ⟨y0, y1, y2, y3, yf⟩ := hY3.facts
  obtain ⟨f0', f1'⟩ := hF4.facts
  obtain ⟨x0', x1', x2', x3', xf'⟩ := hX4.facts
  obtain ⟨y0', y1', y2', y3', yf'⟩ := hY4.facts
  clear hF3 hX3 hY3 hE3 ho1 ho2
  have hn1 : ¬ (w.heap.size + 1 + 1 + 1 = w.heap.size) := by omega
  have hn2 : ¬ (w.heap.size + 1 + 1 + 1 = w.heap.size + 1) := by omega
  have hn3 : ¬ (w.heap.size + 1 + 1 + 1 = w.heap.size + 1 + 1) := by omega
  have hn4 : ¬ (w.heap.size + 1 + 1 = w.heap.size) := by omega
  have hn5 : ¬ (w.heap.size + 1 = w.heap.size) := by omega
  go_wp2_with fail
  clear x0 x1 x2 x3 xf y0 y1 y2 y3 yf f0' f1' x0' x1' x2' x3' xf' y0' y1' y2' y3' yf'
  generalize ((((((((w3.setCell ⟨w.heap.size + 1, 0, none⟩ (.int .i64 f.kind)).setCell ⟨w.heap.size + 1, 1, none⟩ (.bool f.neg)).setCell ⟨w.heap.size + 1, 2, none⟩ (.int .i64 f.exp)).setCell ⟨w.heap.size + 1, 3, none⟩ (.slice A1 (cn f.mag).length c1)).setCell ⟨w.heap.size + 1 + 1, 0, none⟩ (.int .i64 g.kind)).setCell ⟨w.heap.size + 1 + 1, 1, none⟩ (.bool g.neg)).setCell ⟨w.heap.size + 1 + 1, 2, none⟩ (.int .i64 g.exp)).setCell ⟨w.heap.size + 1 + 1, 3, none⟩ (.slice A2 (cn g.mag).length c2)) = W at *
  obtain ⟨f0, f1⟩ := hF4.facts
  obtain ⟨x0, x1, x2, x3, xf⟩ := hX4.facts
  obtain ⟨y0, y1, y2, y3, yf⟩ := hY4.facts
  go_region_held3 (fun w' => w'.cell? ⟨w.heap.size, 0, none⟩ = some (.int .i64 k) ∧ w'.cell? ⟨w.heap.size, 1, none⟩ = some (.int .i64 p) ∧ w'.cell? ⟨w.heap.size + 1, 0, none⟩ = some (.int .i64 f.kind) ∧ w'.cell? ⟨w.heap.size + 1, 1, none⟩ = some (.bool f.neg) ∧ w'.cell? ⟨w.heap.size + 1, 2, none⟩ = some (.int .i64 f.exp) ∧ w'.cell? ⟨w.heap.size + 1, 3, none⟩ = some (.slice A1 (cn f.mag).length c1)
      ∧ w'.cell? ⟨w.heap.size + 1 + 1, 0, none⟩ = some (.int .i64 g.kind) ∧ w'.cell? ⟨w.heap.size + 1 + 1, 1, none⟩ = some (.bool g.neg) ∧ w'.cell? ⟨w.heap.size + 1 + 1, 2, none⟩ = some (.int .i64 g.exp) ∧ w'.cell? ⟨w.heap.size + 1 + 1, 3, none⟩ = some (.slice A2 (cn g.mag).length c2))
    (first | go_keep | (go_split_ands; refine ⟨?_, ?_, ?_, ?_, ?_, ?_, ?_, ?_, ?_, ?_⟩ <;> first | assumption | (refine Ext.cell (w := W) ?_ ?_ <;> assumption)))
    (first
      | (go_at_call 28; (with_reducible refine (i1 A2 c2 _ (hT.ext hE4.drew) (hr2.ext (Ext.refl W).drew)).mono ?_); rintro e w5 ⟨A5, c5, rfl, ho5, hb5⟩; have hr5 := ho5.rdAt.2; have hE5 : Ext W w5 := (Ext.refl W).drew.tr hb5)
      | (go_at_call 28; (with_reducible refine (i2 A1 c1 _ (hT.ext (hE4.tr hE5)) (hr1.ext hE5)).mono ?_); rintro e w6 ⟨A6, c6, rfl, ho6, hb6⟩; have hr6 := ho6.rdAt.2; have hr56 := hr5.ext hb6; have hE6 : Ext W w6 := hE5.tr hb6)
      | (go_at_call 27; (with_reducible refine (hsub' A5 A6 c5 c6 _ hr56 hr6).mono ?_); rintro e w7 ⟨A7, c7, rfl, ho7, hb7⟩; have hE7 : Ext W w7 := hE6.tr hb7; obtain ⟨j0, j1, jf⟩ := (hI4.ext hE7).facts))
  go_wp2
  have hI5 := (hI4.ext hE7).put (.bool (decide (z < 0))) (.slice A7 (cn z.natAbs).length c7)
  obtain ⟨s0, s1, -⟩ := hI5.facts
  have hl6 := (hI4.ext hE6).lt
  refine bodyPost_ret (v := .tuple #[intV (decide (z < 0)) A7 (cn z.natAbs).length c7, .int .i64 0]) (by simp [results, Tryz.results13, go_sem, s0, s1]) rfl ?_
  exact ⟨_, _, rfl, (ho7.puti (g := w.heap.size + 1 + 1 + 1) hl6 _ _).low (by omega), (hE4.tr hE7).puti (g := w.heap.size + 1 + 1 + 1) (by omega) _ _⟩
end Go.Proofs.YtlnfmngginihfaaGreatDoor
namespace Go.Proofs.YtlnfmngginihfaaGreatDoor
open Go.RowKit
attribute [local go_sem ↓] Go.wp_at_zero Go.wp_at_succ

theorem FlsS_one_ok {k p : Int} {a : FA} {f : Fl} (hR : Rgt k p) (hl : a.xs.length ≤ 4096) (hc : a.can = some f) (hin : InF k p f) : FlsS k p [a] = (0, [f]) := by
  rw [FlsS_one, if_neg (by omega), if_pos hR, hc]
  simp [holdS, hin]
theorem FlsS_two (k p : Int) (a b : FA) : FlsS k p [a, b] = (if 4096 < a.xs.length ∨ 4096 < b.xs.length then (2, []) else if Rgt k p then (match holdS k p a.can, holdS k p b.can with | some f, some g => (0, [f, g]) | _, _ => (151, [])) else (150, []) : Int × List Fl) := by
  unfold FlsS
  simp only [List.any_cons, List.any_nil, Bool.or_false, Bool.or_eq_true, decide_eq_true_eq, List.mapM_cons, List.mapM_nil]
  cases holdS k p a.can <;> cases holdS k p b.can <;> rfl
theorem FlsS_two_ok {k p : Int} {a b : FA} {f g : Fl} (hR : Rgt k p) (hl : a.xs.length ≤ 4096) (hc : a.can = some f) (hin : InF k p f) (hl2 : b.xs.length ≤ 4096) (hc2 : b.can = some g) (hin2 : InF k p g) : FlsS k p [a, b] = (0, [f, g]) := by
  rw [FlsS_two, if_neg (by omega), if_pos hR, hc, hc2]
  simp [holdS, hin, hin2]
theorem half_rgt : Rgt 5 11 := by unfold Rgt; omega
def fOne : Fl := ⟨1, false, 0, 1⟩
def fTwo : Fl := ⟨1, false, 1, 1⟩
def fMin : Fl := ⟨0, true, 0, 0⟩
def fNul : Fl := ⟨0, false, 0, 0⟩
theorem bl_1 : bl 1 = 1 := bl_unique (by decide) (by decide)
theorem fOne_of : FOf 5 11 fOne := ⟨⟨by decide, by decide, by decide, fun _ => rfl, fun h => absurd rfl h, fun h => rfl⟩, fun _ => by show (bl 1 : Int) ≤ 11 ∧ ti 5 11 ≤ 0 ∧ (0 : Int) + bl 1 - 1 ≤ gr 5; rw [bl_1]; decide, by show (cn 1).length ≤ 4096; rw [cn_one]; simp⟩
theorem fTwo_of : FOf 5 11 fTwo := ⟨⟨by decide, by decide, by decide, fun _ => rfl, fun h => absurd rfl h, fun h => rfl⟩, fun _ => by show (bl 1 : Int) ≤ 11 ∧ ti 5 11 ≤ 1 ∧ (1 : Int) + bl 1 - 1 ≤ gr 5; rw [bl_1]; decide, by show (cn 1).length ≤ 4096; rw [cn_one]; simp⟩
theorem fMin_of : FOf 5 11 fMin := ⟨⟨by decide, by decide, by decide, fun h => absurd h (by decide), fun _ => ⟨rfl, rfl⟩, fun h => absurd h (by decide)⟩, fun h => absurd h (by decide), by show (cn 0).length ≤ 4096; rw [show cn 0 = [] from digs_zero B]; simp⟩
theorem fNul_of : FOf 5 11 fNul := ⟨⟨by decide, by decide, by decide, fun h => absurd h (by decide), fun _ => ⟨rfl, rfl⟩, fun h => absurd h (by decide)⟩, fun h => absurd h (by decide), by show (cn 0).length ≤ 4096; rw [show cn 0 = [] from digs_zero B]; simp⟩
theorem encOne : encM 5 11 fOne = 15360 := by
  unfold encM fOne
  simp only [bl_1]
  decide +kernel
theorem encTwo : encM 5 11 fTwo = 16384 := by
  unfold encM fTwo
  simp only [bl_1]
  decide +kernel
theorem dec_next : decF 5 11 15361 = ⟨1, false, -10, 1025⟩ := by
  have h : tz 1025 = 0 := tz_unique 0 512
  have hb : dB 5 11 15361 = 15 := by decide +kernel
  have hl : dL 11 15361 = 1 := by decide +kernel
  have hn : dN 5 11 15361 = false := by decide +kernel
  have hm : dM 5 11 15361 = 1025 := by unfold dM; rw [hb, hl]; rfl
  have he : dE 5 11 15361 = -10 := by unfold dE; rw [hb]; rfl
  unfold decF
  rw [hb, hl, hn, hm, he, h]; rfl
theorem next_one : nextF 5 11 fOne true = ⟨1, false, -10, 1025⟩ := by
  rw [nextF_other (by simp [fOne]) (by simp [fOne]), show nextN 5 11 fOne true = 15361 by unfold nextN; rw [encOne]; rfl, dec_next]; rfl
theorem next_min : nextF 5 11 fMin true = ⟨1, false, -24, 1⟩ := by
  unfold nextF
  rw [if_neg (by simp [fMin]), if_pos (show fMin.kind = 0 from rfl), show ti 5 11 = -24 by decide +kernel]; rfl
theorem steps_half : idx 5 11 fTwo - idx 5 11 fOne = 1024 := by
  unfold idx
  rw [encOne, encTwo]; rfl
theorem total_half : totF 5 11 fMin fNul = -1 := by
  have e1 : encM 5 11 fMin = 0 := rfl
  have e2 : encM 5 11 fNul = 0 := rfl
  unfold totF idx
  rw [e1, e2]; decide +kernel
theorem can_lit (e : Int) (he : e = 0 ∨ e = 1) (A : Option Addr) : FA.can ⟨1, false, e, A, 1, [1]⟩ = some ⟨1, false, e, 1⟩ := by
  have h1 : tz 1 = 0 := tz_unique 0 0
  unfold FA.can canon
  simp only [val_one, h1]
  rcases he with rfl | rfl <;> simp
theorem can_nul (b : Bool) : FA.can ⟨0, b, 0, none, 0, []⟩ = some ⟨0, b, 0, 0⟩ := by simp [FA.can, canon, valb]
theorem cn_sm {x : Nat} (h0 : 0 < x) (h : x < B) : cn x = [x] := by
  rw [cn, digs_pos two_le_B h0, Nat.mod_eq_of_lt h, Nat.div_eq_of_lt h, digs_zero]
theorem add_z (a : Addr) : a.add 0 = a := by unfold Addr.add; split <;> simp_all
theorem boxesH (w : World) : ∀ W, W = ((((w.alloc (.cells #[.int .i64 5, .int .i64 11] 23)).alloc (.cells #[.int .u64 1] 45)).alloc (.cells #[.int .i64 1, .bool false, .int .i64 0, .slice (some ⟨w.heap.size + 1, 0, none⟩) 1 1] 40)).alloc (.cells #[.int .i64 0, .bool true, .int .i64 0, .slice none 0 0] 40)) →
    Bf W w.heap.size (.int .i64 5) (.int .i64 11) ∧ Rd W (some ⟨w.heap.size + 1, 0, none⟩) 1 [1] ∧ Bx W (w.heap.size + 1 + 1) (.int .i64 1) (.bool false) (.int .i64 0) (.slice (some ⟨w.heap.size + 1, 0, none⟩) 1 1) ∧ Bx W (w.heap.size + 1 + 1 + 1) (.int .i64 0) (.bool true) (.int .i64 0) (.slice none 0 0) ∧ Ext w W := by
  rintro W rfl
  have x1 := Rd.new1 (w.alloc (.cells #[.int .i64 5, .int .i64 11] 23)) 1 (by rw [B_eq]; omega)
  have x2 := Bx.new ((w.alloc (.cells #[.int .i64 5, .int .i64 11] 23)).alloc (.cells #[.int .u64 1] 45)) (.int .i64 1) (.bool false) (.int .i64 0) (.slice (some ⟨w.heap.size + 1, 0, none⟩) 1 1)
  have x3 := Bx.new (((w.alloc (.cells #[.int .i64 5, .int .i64 11] 23)).alloc (.cells #[.int .u64 1] 45)).alloc (.cells #[.int .i64 1, .bool false, .int .i64 0, .slice (some ⟨w.heap.size + 1, 0, none⟩) 1 1] 40)) (.int .i64 0) (.bool true) (.int .i64 0) (.slice none 0 0)
  rw [World.size_alloc] at x1
  rw [World.size_alloc, World.size_alloc] at x2
  rw [World.size_alloc, World.size_alloc, World.size_alloc] at x3
  exact ⟨(((Bf.new w _ _).ext ((Ext.refl _).al _)).ext ((Ext.refl _).al _)).ext ((Ext.refl _).al _), (x1.ext ((Ext.refl _).al _)).ext ((Ext.refl _).al _), x2.ext ((Ext.refl _).al _), x3, ((((Ext.refl _).al _).al _).al _).al _⟩
set_option maxHeartbeats 4000000 in
set_option maxRecDepth 100000 in
theorem awake21_c (w : World) (hT : Tab w) : Calls Tryz.prog 5 #[] w fun e w' => e = .returned (.bool true) ∧ Ext w w' := by
  obtain ⟨hF, hL, hX, hM, hE⟩ := boxesH w _ rfl
  have nx1 := fun A w hT h => Next_good 5 11 half_rgt ⟨1, false, 0, A, 1, [1]⟩ fOne fOne_of (FlsS_one_ok half_rgt (by simp) (can_lit 0 (.inl rfl) A) fOne_of.inn) true w hT h
  have nx2 := fun w hT h => Next_good 5 11 half_rgt ⟨0, true, 0, none, 0, []⟩ fMin fMin_of (FlsS_one_ok half_rgt (by simp) (can_nul true) fMin_of.inn) true w hT h
  have st1 := fun A A' w hT h h' => Steps_good 5 11 half_rgt ⟨1, false, 0, A, 1, [1]⟩ ⟨1, false, 1, A', 1, [1]⟩ fOne fTwo (FlsS_two_ok half_rgt (by simp) (can_lit 0 (.inl rfl) A) fOne_of.inn (by simp) (can_lit 1 (.inr rfl) A') fTwo_of.inn) fOne_of fTwo_of (by decide) (by decide) w hT h h'
  have to1 := fun w hT h h' => Total_good 5 11 half_rgt ⟨0, true, 0, none, 0, []⟩ ⟨0, false, 0, none, 0, []⟩ fMin fNul (FlsS_two_ok half_rgt (by simp) (can_nul true) fMin_of.inn (by simp) (can_nul false) fNul_of.inn) fMin_of fNul_of w hT h h'
  rw [next_one] at nx1
  rw [next_min] at nx2
  rw [steps_half] at st1
  rw [total_half] at to1
  unfold FErr FlR at nx1 nx2
  unfold IntSE at st1
  simp only [List.length_cons, List.length_nil, Nat.zero_add, FA.v] at nx1 nx2 st1 to1
  have HF := Lib.hid hF
  have HL := Lib.hid hL
  have HX := Lib.hid hX
  have HM := Lib.hid hM
  have HE := Lib.hid hE
  clear hF hL hX hM hE
  go_enter Tryz.func5, Tryz.ntmps5
  go_wp2_with fail
  have hF := HF.out
  have hL := HL.out
  have hX := HX.out
  have hM := HM.out
  have hE := HE.out
  clear HF HL HX HM HE
  generalize ((((w.alloc (.cells #[.int .i64 5, .int .i64 11] 23)).alloc (.cells #[.int .u64 1] 45)).alloc (.cells #[.int .i64 1, .bool false, .int .i64 0, .slice (some ⟨w.heap.size + 1, 0, none⟩) 1 1] 40)).alloc (.cells #[.int .i64 0, .bool true, .int .i64 0, .slice none 0 0] 40)) = W at *
  refine (nx1 _ _ (hT.ext hE) hL).mono ?_
  rintro z w1 ⟨u, rfl, ⟨v, rfl, ho1⟩, hb1⟩
  have e1 : cn 1025 = [1025] := cn_sm (by omega) (by rw [B_eq]; omega)
  simp only [e1] at ho1
  obtain ⟨A1, c1, rfl, hr1⟩ := ho1.rd
  have hF1 := hF.ext hb1
  have hL1 := hL.ext hb1
  have hX1 := hX.ext hb1
  have hM1 := hM.ext hb1
  have hE1 := hE.tr hb1
  obtain ⟨f0, f1⟩ := hF1.facts
  obtain ⟨m0, m1, m2, m3, -⟩ := hM1.facts
  have hlf := hF1.lt
  have hlm := hM1.lt
  go_wp2_with fail
  have hA1 := (Ext.refl w1).al (.cells #[.int .i64 1, .bool false, .int .i64 (-10), .slice A1 1 c1] 40)
  have hP1 := Bx.new w1 (.int .i64 1) (.bool false) (.int .i64 (-10)) (.slice A1 1 c1)
  have hE2 := hE1.tr hA1
  refine (nx2 _ (hT.ext hE2) (Rd.nil _ _ _)).mono ?_
  rintro z w2 ⟨u, rfl, ⟨v, rfl, ho2⟩, hb2⟩
  have e2 : cn 1 = [1] := cn_one
  simp only [e2] at ho2
  obtain ⟨A2, c2, rfl, hr2⟩ := ho2.rd
  have hB2 := hA1.tr hb2
  have hF2 := hF1.ext hB2
  have hL2 := hL1.ext hB2
  have hX2 := hX1.ext hB2
  have hM2 := hM1.ext hB2
  have hP2 := hP1.ext hb2
  have hq2 := hr1.ext hB2
  have hE3 := hE1.tr hB2
  clear f0 f1 m0 m1 m2 m3 hlf hlm hF hL hX hM hF1 hL1 hX1 hM1 hP1 hr1 hb1 hb2 hB2 hA1
  obtain ⟨f0, f1⟩ := hF2.facts
  obtain ⟨x0, x1, x2, x3, -⟩ := hX2.facts
  have hlf := hF2.lt
  have hlx := hX2.lt
  go_wp2_with fail
  have hA3 := ((Ext.refl w2).al (.cells #[.int .i64 1, .bool false, .int .i64 (-24), .slice A2 1 c2] 40)).al (.cells #[.int .u64 1] 45)
  have hQ3 := (Bx.new w2 (.int .i64 1) (.bool false) (.int .i64 (-24)) (.slice A2 1 c2)).ext ((Ext.refl _).al (.cells #[.int .u64 1] 45))
  have hn3 := Rd.new1 (w2.alloc (.cells #[.int .i64 1, .bool false, .int .i64 (-24), .slice A2 1 c2] 40)) 1 (by rw [B_eq]; omega)
  rw [World.size_alloc] at hn3
  refine (st1 _ _ _ (hT.ext (hE3.tr hA3)) (hL2.ext hA3) hn3).mono ?_
  rintro z w4 ⟨A4, c4, rfl, ho4, hb4⟩
  have e4 : cn (1024 : Int).natAbs = [1024] := cn_sm (by decide) (by rw [B_eq]; decide)
  have e5 : decide ((1024 : Int) < 0) = false := rfl
  simp only [e4, e5] at ho4 ⊢
  have hr4 := ho4.rdAt.2
  have hB4 := hA3.tr hb4
  have hF4 := hF2.ext hB4
  have hM4 := hM2.ext hB4
  have hP4 := hP2.ext hB4
  have hQ4 := hQ3.ext hb4
  have hq4 := hq2.ext hB4
  have hE4 := hE3.tr hB4
  clear f0 f1 x0 x1 x2 x3 hlf hlx hF2 hL2 hX2 hM2 hP2 hQ3 hq2 hn3 hb4 hB4 hA3
  obtain ⟨f0, f1⟩ := hF4.facts
  obtain ⟨m0, m1, m2, m3, -⟩ := hM4.facts
  have hlf := hF4.lt
  have hlm := hM4.lt
  go_wp2_with fail
  have hA5 := (Ext.refl w4).al (.cells #[.bool false, .slice A4 1 c4] 49)
  have hI5 := Bi.new w4 (.bool false) (.slice A4 1 c4)
  refine (to1 _ (hT.ext (hE4.tr hA5)) (Rd.nil _ _ _) (Rd.nil _ _ _)).mono ?_
  rintro z w6 ⟨rfl, hb6⟩
  have hB6 := hA5.tr hb6
  have hP6 := hP4.ext hB6
  have hQ6 := hQ4.ext hB6
  have hI6 := hI5.ext hb6
  have hq6 := hq4.ext hB6
  have hr6 := hr4.ext hB6
  have hE6 := hE4.tr hB6
  obtain ⟨a1, rfl⟩ := hq6.addr (by simp)
  obtain ⟨a4, rfl⟩ := hr6.addr (by simp)
  have z1 := hq6.get 0 (by simp)
  have z4 := hr6.get 0 (by simp)
  rw [add_z] at z1 z4
  simp at z1 z4
  clear f0 f1 m0 m1 m2 m3 hlf hlm
  obtain ⟨x0, x1, x2, x3, -⟩ := hP6.facts
  obtain ⟨y0, y1, y2, y3, -⟩ := hQ6.facts
  obtain ⟨i0, i1, -⟩ := hI6.facts
  go_wp2
  go_ret
  exact ⟨rfl, hE6⟩
end Go.Proofs.YtlnfmngginihfaaGreatDoor
