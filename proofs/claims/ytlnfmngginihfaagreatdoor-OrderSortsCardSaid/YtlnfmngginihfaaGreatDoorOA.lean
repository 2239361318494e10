/- package order: index, compare. package order: pair. package order: sign, total. -/
import Derived.Test.YtlnfmngginihfaaGreatDoorO7
import Derived.Test.YtlnfmngginihfaaGreatDoorF8
import Derived.Test.YtlnfmngginihfaaGreatDoorT8
import Derived.Test.YtlnfmngginihfaaGreatDoorV4
set_option linter.unusedVariables false
set_option linter.unusedSimpArgs false
namespace Go.Proofs.YtlnfmngginihfaaGreatDoor
open Go.RowKit

theorem flt_own {k p : Int} {F : Fl} (hR : Rgt k p) (hok : F.Ok) (hin : InF k p F) (hl : (cn F.mag).length ≤ 4096) (A : Option Addr) (c : Nat) :
    fltE k p ⟨F.kind, F.neg, F.exp, A, c, cn F.mag⟩ = 0 ∧ encN k p ⟨F.kind, F.neg, F.exp, A, c, cn F.mag⟩ = encS k p F := by
  have hc := can_self hok A c
  have h0 : fltE k p ⟨F.kind, F.neg, F.exp, A, c, cn F.mag⟩ = 0 := by
    unfold fltE
    rw [FlsS_one, hc]
    simp only
    rw [if_neg (by omega), if_pos hR]
    show (match (some F).bind (fun f => if InF k p f then some f else none) with | some f => ((0 : Int), [f]) | none => (151, [])).1 = 0
    rw [Option.bind_some, if_pos hin]
  refine ⟨h0, ?_⟩
  unfold encN
  rw [if_pos h0, hc]
/-- A float of a format, in canonical form. -/
structure FOf (k p : Int) (f : Fl) : Prop where
  ok : f.Ok
  inn : InF k p f
  len : (cn f.mag).length ≤ 4096
theorem boxesX (w : World) (k p : Int) (a b c d : Value) : ∀ W, W = (((w.alloc (.cells #[.int .i64 k, .int .i64 p] 23)).alloc (.cells #[a, b, c, d] 40)).alloc (.cells #[.bool false, .slice none 0 0] 49)) →
    Bf W w.heap.size (.int .i64 k) (.int .i64 p) ∧ Bx W (w.heap.size + 1) a b c d ∧ Bi W (w.heap.size + 1 + 1) (.bool false) (.slice none 0 0) ∧ Ext w W := by
  rintro W rfl
  have h1 := (Ext.refl w).al (.cells #[.int .i64 k, .int .i64 p] 23)
  have x2 := Bx.new (w.alloc (.cells #[.int .i64 k, .int .i64 p] 23)) a b c d
  have x3 := Bi.new ((w.alloc (.cells #[.int .i64 k, .int .i64 p] 23)).alloc (.cells #[a, b, c, d] 40)) (.bool false) (.slice none 0 0)
  rw [World.size_alloc] at x2
  rw [World.size_alloc, World.size_alloc] at x3
  exact ⟨((Bf.new w _ _).ext ((Ext.refl _).al _)).ext ((Ext.refl _).al _), x2.ext ((Ext.refl _).al _), x3, (h1.al _).al _⟩
theorem encS_pos (k p : Int) (f : Fl) : encS k p ⟨f.kind, false, f.exp, f.mag⟩ = encM k p f := by
  unfold encS encM
  simp
set_option maxHeartbeats 1000000 in
set_option maxRecDepth 100000 in
theorem index_c (k p : Int) (hR : Rgt k p) (f : Fl) (hf : FOf k p f) (A : Option Addr) (c : Nat) (w : World) (hT : Tab w) (h : Rd w A c (cn f.mag)) :
    Calls Tryz.prog 28 #[.agg #[.int .i64 k, .int .i64 p], flV f.kind f.neg f.exp (.slice A (cn f.mag).length c)] w (IntR w (sg f.neg (encM k p f))) := by
  have hok' : Fl.Ok ⟨f.kind, false, f.exp, f.mag⟩ := ⟨hf.ok.lo, hf.ok.hi, hf.ok.kind, hf.ok.odd, hf.ok.zero, fun _ => rfl⟩
  have hin' : InF k p ⟨f.kind, false, f.exp, f.mag⟩ := hf.inn
  have hfl := flt_own hR hok' hin' hf.len A c
  have hen := fun w hT h => encode_c k p ⟨f.kind, false, f.exp, A, c, cn f.mag⟩ w hT h
  simp only [hfl.1, hfl.2, encS_pos] at hen
  obtain ⟨hF, hX, hI, hE⟩ := boxesX w k p (.int .i64 f.kind) (.bool false) (.int .i64 f.exp) (.slice A (cn f.mag).length c) _ rfl
  unfold NatR at hen
  unfold IntR
  rw [sg_abs, sg_neg]
  have hz := cn_len_zero (encM k p f)
  have hp : decide (0 < encM k p f) = decide (0 < (cn (encM k p f)).length) := by
    by_cases h0 : encM k p f = 0
    · rw [decide_eq_false (by omega), decide_eq_false (by have := hz.2 h0; simp [this])]
    · have : (cn (encM k p f)).length ≠ 0 := fun h1 => h0 (hz.1 h1)
      rw [decide_eq_true (by omega), decide_eq_true (by omega)]
  rw [hp]
  clear hz hp hfl hok' hin' hf
  generalize cn (encM k p f) = N at *
  have HF := Lib.hid hF
  have HX := Lib.hid hX
  have HI := Lib.hid hI
  have HE := Lib.hid hE
  clear hF hX hI hE
  obtain ⟨b, hb⟩ : ∃ b, (f.neg && decide (0 < N.length)) = b := ⟨_, rfl⟩
  rw [hb]
  have hcase : (f.neg = false ∧ b = false) ∨ (f.neg = true ∧ decide (0 < N.length) = b) := by
    cases hn : f.neg
    · exact .inl ⟨rfl, by simpa [hn] using hb.symm⟩
    · exact .inr ⟨rfl, by simpa [hn] using hb⟩
  clear hb
  generalize f.neg = ng at *
  generalize f.kind = kd at *
  generalize f.exp = ex at *
  generalize cn f.mag = X at *
  rcases hcase with ⟨rfl, rfl⟩ | ⟨rfl, hq⟩
  all_goals
    go_enter Tryz.func28, Tryz.ntmps28
    go_wp2_with fail
    refine (hen _ (hT.ext HE.out) (h.ext HE.out)).mono ?_
    rintro z w1 ⟨v, rfl, ho, hb⟩
    obtain ⟨A1, c1, rfl, -⟩ := ho.rd
    have hI1 := HI.out.ext hb
    have hs0 := HI.out.lt
    have hsE := HE.out.size
    obtain ⟨b0, b1, bf⟩ := hI1.facts
    go_wp2
    have hsz := hb.size
    first
      | (refine bodyPost_ret (v := intV false A1 N.length c1) (by obtain ⟨r0, r1, rf⟩ := (hI1.put (.bool false) (.slice A1 N.length c1)).facts; simp [results, Tryz.results28, go_sem, r0, r1]) rfl ?_; exact ⟨_, _, rfl, (ho.puti (g := w.heap.size + 1 + 1) hs0 _ _).low hsE, (HE.out.tr hb).puti (g := w.heap.size + 1 + 1) (by omega) _ _⟩)
      | (refine bodyPost_ret (v := intV b A1 N.length c1) (by obtain ⟨r0, r1, rf⟩ := (hI1.put (.bool b) (.slice A1 N.length c1)).facts; simp [results, Tryz.results28, go_sem, r0, r1]) rfl ?_; exact ⟨_, _, rfl, (ho.puti (g := w.heap.size + 1 + 1) hs0 _ _).low hsE, (HE.out.tr hb).puti (g := w.heap.size + 1 + 1) (by omega) _ _⟩)
/-- The place of a float among those of its format. -/
def idx (k p : Int) (f : Fl) : Int := sg f.neg (encM k p f)
theorem boxesY (w : World) (k p : Int) (a b c d a' b' c' d' : Value) : ∀ W, W = (((w.alloc (.cells #[.int .i64 k, .int .i64 p] 23)).alloc (.cells #[a, b, c, d] 40)).alloc (.cells #[a', b', c', d'] 40)) →
    Bf W w.heap.size (.int .i64 k) (.int .i64 p) ∧ Bx W (w.heap.size + 1) a b c d ∧ Bx W (w.heap.size + 1 + 1) a' b' c' d' ∧ Ext w W := by
  rintro W rfl
  have h1 := (Ext.refl w).al (.cells #[.int .i64 k, .int .i64 p] 23)
  have x2 := Bx.new (w.alloc (.cells #[.int .i64 k, .int .i64 p] 23)) a b c d
  have x3 := Bx.new ((w.alloc (.cells #[.int .i64 k, .int .i64 p] 23)).alloc (.cells #[a, b, c, d] 40)) a' b' c' d'
  rw [World.size_alloc] at x2
  rw [World.size_alloc, World.size_alloc] at x3
  exact ⟨((Bf.new w _ _).ext ((Ext.refl _).al _)).ext ((Ext.refl _).al _), x2.ext ((Ext.refl _).al _), x3, (h1.al _).al _⟩
theorem idx_len {k p : Int} {f : Fl} (hR : Rgt k p) (hf : FOf k p f) : (cn (idx k p f).natAbs).length ≤ 5 := by
  unfold idx
  rw [sg_abs]
  exact encM_len hR hf.ok hf.inn
set_option maxHeartbeats 2000000 in
set_option maxRecDepth 100000 in
theorem compare_c (k p : Int) (hR : Rgt k p) (f g : Fl) (hf : FOf k p f) (hg : FOf k p g) (A A' : Option Addr) (c c' : Nat) (w : World) (hT : Tab w) (h : Rd w A c (cn f.mag)) (h' : Rd w A' c' (cn g.mag)) :
    Calls Tryz.prog 30 #[.agg #[.int .i64 k, .int .i64 p], flV f.kind f.neg f.exp (.slice A (cn f.mag).length c), flV g.kind g.neg g.exp (.slice A' (cn g.mag).length c')] w
      fun e w' => e = .returned (.int .i64 (sgn (idx k p f - idx k p g))) ∧ Ext w w' := by
  obtain ⟨hF, hX, hY, hE⟩ := boxesY w k p (.int .i64 f.kind) (.bool f.neg) (.int .i64 f.exp) (.slice A (cn f.mag).length c) (.int .i64 g.kind) (.bool g.neg) (.int .i64 g.exp) (.slice A' (cn g.mag).length c') _ rfl
  have c1 := fun w hT h => index_c k p hR f hf A c w hT h
  have c2 := fun w hT h => index_c k p hR g hg A' c' w hT h
  have l1 := idx_len hR hf
  have l2 := idx_len hR hg
  have hcm := fun A1 A2 c1 c2 w h1 h2 => iCmp_c (decide (idx k p f < 0)) (decide (idx k p g < 0)) A1 A2 c1 c2 (cn (idx k p f).natAbs) (cn (idx k p g).natAbs) w h1 h2 (by omega) (by omega)
  simp only [val_cn, sg_self] at hcm
  unfold IntR at c1 c2
  rw [show sg f.neg (encM k p f) = idx k p f from rfl] at c1
  rw [show sg g.neg (encM k p g) = idx k p g from rfl] at c2
  generalize sgn (idx k p f - idx k p g) = S at *
  generalize idx k p f = z1 at *
  generalize idx k p g = z2 at *
  clear l1 l2 hf hg hR
  generalize cn f.mag = X at *
  generalize cn g.mag = Y at *
  generalize f.neg = fn at *
  generalize g.neg = gn at *
  generalize f.kind = fk at *
  generalize g.kind = gk at *
  generalize f.exp = fe at *
  generalize g.exp = ge at *
  have HF := Lib.hid hF
  have HX := Lib.hid hX
  have HY := Lib.hid hY
  have HE := Lib.hid hE
  clear hF hX hY hE
  go_enter Tryz.func30, Tryz.ntmps30
  go_wp2_with fail
  have hF := HF.out
  have hX := HX.out
  have hY := HY.out
  have hE := HE.out
  clear HF HX HY HE
  generalize (((w.alloc (.cells #[.int .i64 k, .int .i64 p] 23)).alloc (.cells #[.int .i64 fk, .bool fn, .int .i64 fe, .slice A X.length c] 40)).alloc (.cells #[.int .i64 gk, .bool gn, .int .i64 ge, .slice A' Y.length c'] 40)) = W at *
  obtain ⟨f0, f1⟩ := hF.facts
  obtain ⟨x0, x1, x2, x3, -⟩ := hX.facts
  obtain ⟨y0, y1, y2, y3, -⟩ := hY.facts
  go_region_held3 (fun w' => w'.cell? ⟨w.heap.size, 0, none⟩ = some (.int .i64 k) ∧ w'.cell? ⟨w.heap.size, 1, none⟩ = some (.int .i64 p) ∧ w'.cell? ⟨w.heap.size + 1, 0, none⟩ = some (.int .i64 fk) ∧ w'.cell? ⟨w.heap.size + 1, 1, none⟩ = some (.bool fn) ∧ w'.cell? ⟨w.heap.size + 1, 2, none⟩ = some (.int .i64 fe) ∧ w'.cell? ⟨w.heap.size + 1, 3, none⟩ = some (.slice A X.length c)
      ∧ w'.cell? ⟨w.heap.size + 1 + 1, 0, none⟩ = some (.int .i64 gk) ∧ w'.cell? ⟨w.heap.size + 1 + 1, 1, none⟩ = some (.bool gn) ∧ w'.cell? ⟨w.heap.size + 1 + 1, 2, none⟩ = some (.int .i64 ge) ∧ w'.cell? ⟨w.heap.size + 1 + 1, 3, none⟩ = some (.slice A' Y.length c'))
    (first | go_keep | (go_split_ands; refine ⟨?_, ?_, ?_, ?_, ?_, ?_, ?_, ?_, ?_, ?_⟩ <;> first | assumption | (refine Ext.cell (w := W) ?_ ?_ <;> assumption)))
    (first
      | (go_at_call 28; (with_reducible refine (c1 _ (hT.ext hE.drew) (h.ext hE.drew)).mono ?_); rintro e w3 ⟨A3, c3, rfl, ho3, hb3⟩; obtain ⟨-, hr3⟩ := ho3.rdAt; have hE3 : Ext W w3 := (Ext.refl W).drew.tr hb3)
      | (go_at_call 28; (with_reducible refine (c2 _ (hT.ext (hE.tr hE3)) (h'.ext (hE.tr hE3))).mono ?_); rintro e w4 ⟨A4, c4, rfl, ho4, hb4⟩; obtain ⟨-, hr4⟩ := ho4.rdAt; have hE4 : Ext W w4 := hE3.tr hb4; have hr34 := hr3.ext hb4)
      | (go_at_call 52; (with_reducible refine (hcm A3 A4 c3 c4 _ hr34 hr4).mono ?_); rintro e w5 ⟨rfl, hb5⟩; have hE5 : Ext W w5 := hE4.tr hb5))
  go_wp2
  go_ret
  exact ⟨rfl, hE.tr hE5⟩
end Go.Proofs.YtlnfmngginihfaaGreatDoor
namespace Go.Proofs.YtlnfmngginihfaaGreatDoor
open Go.RowKit

theorem FRd.two (w : World) (a b : FA) (ha : Rd w a.A a.c a.xs) (hb : Rd w b.A b.c b.xs) :
    FRd (w.alloc (.cells #[.int .i64 a.k, .bool a.neg, .int .i64 a.e, .slice a.A a.xs.length a.c, .int .i64 b.k, .bool b.neg, .int .i64 b.e, .slice b.A b.xs.length b.c] 40)) (some ⟨w.heap.size, 0, none⟩) 2 [a, b] := by
  have hn := heap_alloc_new w (.cells #[.int .i64 a.k, .bool a.neg, .int .i64 a.e, .slice a.A a.xs.length a.c, .int .i64 b.k, .bool b.neg, .int .i64 b.e, .slice b.A b.xs.length b.c] 40)
  have c := fun j => cell_of_row _ _ j _ _ _ hn
  have he := (Ext.refl w).al (.cells #[.int .i64 a.k, .bool a.neg, .int .i64 a.e, .slice a.A a.xs.length a.c, .int .i64 b.k, .bool b.neg, .int .i64 b.e, .slice b.A b.xs.length b.c] 40)
  refine ⟨by simp, by simp, fun i hi => ?_⟩
  rcases (show i = 0 ∨ i = 1 by simp at hi; omega) with rfl | rfl
  · exact ⟨_, rfl, c 0, c 1, c 2, c 3, ha.ext he⟩
  · exact ⟨_, rfl, c 4, c 5, c 6, c 7, hb.ext he⟩
theorem FRd.three (w : World) (a b d : FA) (ha : Rd w a.A a.c a.xs) (hb : Rd w b.A b.c b.xs) (hd : Rd w d.A d.c d.xs) :
    FRd (w.alloc (.cells #[.int .i64 a.k, .bool a.neg, .int .i64 a.e, .slice a.A a.xs.length a.c, .int .i64 b.k, .bool b.neg, .int .i64 b.e, .slice b.A b.xs.length b.c, .int .i64 d.k, .bool d.neg, .int .i64 d.e, .slice d.A d.xs.length d.c] 40)) (some ⟨w.heap.size, 0, none⟩) 3 [a, b, d] := by
  have hn := heap_alloc_new w (.cells #[.int .i64 a.k, .bool a.neg, .int .i64 a.e, .slice a.A a.xs.length a.c, .int .i64 b.k, .bool b.neg, .int .i64 b.e, .slice b.A b.xs.length b.c, .int .i64 d.k, .bool d.neg, .int .i64 d.e, .slice d.A d.xs.length d.c] 40)
  have c := fun j => cell_of_row _ _ j _ _ _ hn
  have he := (Ext.refl w).al (.cells #[.int .i64 a.k, .bool a.neg, .int .i64 a.e, .slice a.A a.xs.length a.c, .int .i64 b.k, .bool b.neg, .int .i64 b.e, .slice b.A b.xs.length b.c, .int .i64 d.k, .bool d.neg, .int .i64 d.e, .slice d.A d.xs.length d.c] 40)
  refine ⟨by simp, by simp, fun i hi => ?_⟩
  rcases (show i = 0 ∨ i = 1 ∨ i = 2 by simp at hi; omega) with rfl | rfl | rfl
  · exact ⟨_, rfl, c 0, c 1, c 2, c 3, ha.ext he⟩
  · exact ⟨_, rfl, c 4, c 5, c 6, c 7, hb.ext he⟩
  · exact ⟨_, rfl, c 8, c 9, c 10, c 11, hd.ext he⟩
theorem OwnF.two {w : World} {base : Nat} {v : Value} {f g : Fl} (h : OwnF w base v [f, g]) : ∃ q A1 c1 A2 c2 c, v = .slice (some ⟨q, 0, none⟩) 2 c ∧ base ≤ q ∧
    w.cell? ⟨q, 0, none⟩ = some (.int .i64 f.kind) ∧ w.cell? ⟨q, 1, none⟩ = some (.bool f.neg) ∧ w.cell? ⟨q, 2, none⟩ = some (.int .i64 f.exp) ∧ w.cell? ⟨q, 3, none⟩ = some (.slice A1 (cn f.mag).length c1) ∧
    w.cell? ⟨q, 4, none⟩ = some (.int .i64 g.kind) ∧ w.cell? ⟨q, 5, none⟩ = some (.bool g.neg) ∧ w.cell? ⟨q, 6, none⟩ = some (.int .i64 g.exp) ∧ w.cell? ⟨q, 7, none⟩ = some (.slice A2 (cn g.mag).length c2) ∧
    Own w base (.slice A1 (cn f.mag).length c1) (cn f.mag) ∧ Own w base (.slice A2 (cn g.mag).length c2) (cn g.mag) := by
  obtain ⟨us, -, hw, -⟩ := h.own
  have hlt := hw.lt
  obtain ⟨A, c, rfl, hc, h⟩ := h.rd
  obtain ⟨q, A1, c1, rfl, h0, h1, h2, h3, h4, h5⟩ := h 0 (by simp)
  obtain ⟨q', A2, c2, e, g0, g1, g2, g3, g4, g5⟩ := h 1 (by simp)
  obtain rfl : q = q' := by injection e with e; injection e
  exact ⟨q, A1, c1, A2, c2, c, rfl, (hlt q rfl).1, h0, h1, h2, h3, g0, g1, g2, g3, h5, g5⟩
/-- What pair hands back. -/
def PairR (w : World) (ec : Int) (f g : Fl) (e : Ending) (w' : World) : Prop :=
  ∃ A1 c1 A2 c2, e = .returned (.tuple #[flV f.kind f.neg f.exp (.slice A1 (cn f.mag).length c1), flV g.kind g.neg g.exp (.slice A2 (cn g.mag).length c2), .int .i64 ec]) ∧
    Own w' w.heap.size (.slice A1 (cn f.mag).length c1) (cn f.mag) ∧ Own w' w.heap.size (.slice A2 (cn g.mag).length c2) (cn g.mag) ∧ Ext w w'
theorem boxesP (w : World) (k p : Int) (a b : FA) : ∀ W, W = (((((w.alloc (.cells #[.int .i64 k, .int .i64 p] 23)).alloc (.cells #[.int .i64 a.k, .bool a.neg, .int .i64 a.e, .slice a.A a.xs.length a.c] 40)).alloc (.cells #[.int .i64 b.k, .bool b.neg, .int .i64 b.e, .slice b.A b.xs.length b.c] 40)).alloc
      (.cells #[.int .i64 0, .bool false, .int .i64 0, .slice none 0 0] 40)).alloc (.cells #[.int .i64 0, .bool false, .int .i64 0, .slice none 0 0] 40)) →
    Bx W (w.heap.size + 1 + 1 + 1) (.int .i64 0) (.bool false) (.int .i64 0) (.slice none 0 0) ∧ Bx W (w.heap.size + 1 + 1 + 1 + 1) (.int .i64 0) (.bool false) (.int .i64 0) (.slice none 0 0) ∧ Ext w W ∧ W.heap.size = w.heap.size + 1 + 1 + 1 + 1 + 1 := by
  rintro W rfl
  have x4 := Bx.new (((w.alloc (.cells #[.int .i64 k, .int .i64 p] 23)).alloc (.cells #[.int .i64 a.k, .bool a.neg, .int .i64 a.e, .slice a.A a.xs.length a.c] 40)).alloc (.cells #[.int .i64 b.k, .bool b.neg, .int .i64 b.e, .slice b.A b.xs.length b.c] 40)) (.int .i64 0) (.bool false) (.int .i64 0) (.slice none 0 0)
  have x5 := Bx.new ((((w.alloc (.cells #[.int .i64 k, .int .i64 p] 23)).alloc (.cells #[.int .i64 a.k, .bool a.neg, .int .i64 a.e, .slice a.A a.xs.length a.c] 40)).alloc (.cells #[.int .i64 b.k, .bool b.neg, .int .i64 b.e, .slice b.A b.xs.length b.c] 40)).alloc
      (.cells #[.int .i64 0, .bool false, .int .i64 0, .slice none 0 0] 40)) (.int .i64 0) (.bool false) (.int .i64 0) (.slice none 0 0)
  rw [World.size_alloc, World.size_alloc, World.size_alloc] at x4
  rw [World.size_alloc, World.size_alloc, World.size_alloc, World.size_alloc] at x5
  exact ⟨x4.ext ((Ext.refl _).al _), x5, ((((Ext.refl _).al _).al _).al _).al _ |>.al _, by simp only [World.size_alloc]⟩
set_option maxHeartbeats 2000000 in
set_option maxRecDepth 100000 in
theorem pair_bad (k p : Int) (a b : FA) (ec : Int) (hfl : FlsS k p [a, b] = (ec, [])) (he : ec ≠ 0) (w : World) (hT : Tab w) (ha : Rd w a.A a.c a.xs) (hb : Rd w b.A b.c b.xs) :
    Calls Tryz.prog 26 #[.agg #[.int .i64 k, .int .i64 p], a.v, b.v] w (PairR w ec ⟨0, false, 0, 0⟩ ⟨0, false, 0, 0⟩) := by
  obtain ⟨hX, hY, hE, hsz⟩ := boxesP w k p a b _ rfl
  have hfl' := fun A c w hT h => floats_c k p A c [a, b] w hT h
  rw [hfl] at hfl'
  have hbe : (ec != 0) = true := by rw [bne_iff_ne]; exact he
  clear hfl he
  unfold PairR
  simp only [show cn 0 = [] from digs_zero B, List.length_nil]
  obtain ⟨ak, an, ae, aA, ac, axs⟩ := a
  obtain ⟨bk, bn, be, bA, bc, bxs⟩ := b
  simp only at ha hb hX hY hE hsz
  have HX := Lib.hid hX
  have HY := Lib.hid hY
  have HE := Lib.hid hE
  have HS := Lib.hid hsz
  clear hX hY hE hsz
  go_enter Tryz.func26, Tryz.ntmps26
  go_wp2_with fail
  have hX := HX.out
  have hY := HY.out
  have hE := HE.out
  have hsz := HS.out
  clear HX HY HE HS
  generalize (((((w.alloc (.cells #[.int .i64 k, .int .i64 p] 23)).alloc (.cells #[.int .i64 ak, .bool an, .int .i64 ae, .slice aA axs.length ac] 40)).alloc (.cells #[.int .i64 bk, .bool bn, .int .i64 be, .slice bA bxs.length bc] 40)).alloc
      (.cells #[.int .i64 0, .bool false, .int .i64 0, .slice none 0 0] 40)).alloc (.cells #[.int .i64 0, .bool false, .int .i64 0, .slice none 0 0] 40)) = W at *
  have hL := FRd.two W ⟨ak, an, ae, aA, ac, axs⟩ ⟨bk, bn, be, bA, bc, bxs⟩ (ha.ext hE) (hb.ext hE)
  have hA := (Ext.refl W).al (.cells #[.int .i64 ak, .bool an, .int .i64 ae, .slice aA axs.length ac, .int .i64 bk, .bool bn, .int .i64 be, .slice bA bxs.length bc] 40)
  rw [hsz] at hL
  clear hsz
  refine (hfl' _ _ _ (hT.ext (hE.tr hA)) hL).mono ?_
  rintro e w2 ⟨v, rfl, -, hb2⟩
  have hX2 := (hX.ext hA).ext hb2
  have hY2 := (hY.ext hA).ext hb2
  have hE2 := (hE.tr hA).tr hb2
  obtain ⟨x0, x1, x2, x3, xf⟩ := hX2.facts
  obtain ⟨y0, y1, y2, y3, yf⟩ := hY2.facts
  clear hL hA
  go_wp2
  have hlx := hX2.lt
  have hP1 := hX2.put (.int .i64 0) (.bool false) (.int .i64 0) (.slice none 0 0)
  have hQ1 := hY2.apart (g' := w.heap.size + 1 + 1 + 1) (by omega) (.int .i64 0) (.bool false) (.int .i64 0) (.slice none 0 0)
  have hP2 := hP1.apart (g' := w.heap.size + 1 + 1 + 1 + 1) (by omega) (.int .i64 0) (.bool false) (.int .i64 0) (.slice none 0 0)
  have hQ2 := hQ1.put (.int .i64 0) (.bool false) (.int .i64 0) (.slice none 0 0)
  have hE4 := (hE2.put (g := w.heap.size + 1 + 1 + 1) (by omega) (.int .i64 0) (.bool false) (.int .i64 0) (.slice none 0 0)).put (g := w.heap.size + 1 + 1 + 1 + 1) (by omega) (.int .i64 0) (.bool false) (.int .i64 0) (.slice none 0 0)
  obtain ⟨r0, r1, r2, r3, -⟩ := hP2.facts
  obtain ⟨s0, s1, s2, s3, -⟩ := hQ2.facts
  refine bodyPost_ret (v := .tuple #[flV 0 false 0 (.slice none 0 0), flV 0 false 0 (.slice none 0 0), .int .i64 ec]) (by simp [results, Tryz.results26, go_sem, r0, r1, r2, r3, s0, s1, s2, s3]) rfl ?_
  exact ⟨_, _, _, _, rfl, Own.nil _ _, Own.nil _ _, hE4⟩
set_option maxHeartbeats 2000000 in
set_option maxRecDepth 100000 in
theorem pair_good (k p : Int) (a b : FA) (f g : Fl) (hfl : FlsS k p [a, b] = (0, [f, g])) (w : World) (hT : Tab w) (ha : Rd w a.A a.c a.xs) (hb : Rd w b.A b.c b.xs) :
    Calls Tryz.prog 26 #[.agg #[.int .i64 k, .int .i64 p], a.v, b.v] w (PairR w 0 f g) := by
  obtain ⟨hX, hY, hE, hsz⟩ := boxesP w k p a b _ rfl
  have hfl' := fun A c w hT h => floats_c k p A c [a, b] w hT h
  rw [hfl] at hfl'
  clear hfl
  unfold PairR
  obtain ⟨ak, an, ae, aA, ac, axs⟩ := a
  obtain ⟨bk, bn, be, bA, bc, bxs⟩ := b
  simp only at ha hb hX hY hE hsz
  have HX := Lib.hid hX
  have HY := Lib.hid hY
  have HE := Lib.hid hE
  have HS := Lib.hid hsz
  clear hX hY hE hsz
  go_enter Tryz.func26, Tryz.ntmps26
  go_wp2_with fail
  have hX := HX.out
  have hY := HY.out
  have hE := HE.out
  have hsz := HS.out
  clear HX HY HE HS
  generalize (((((w.alloc (.cells #[.int .i64 k, .int .i64 p] 23)).alloc (.cells #[.int .i64 ak, .bool an, .int .i64 ae, .slice aA axs.length ac] 40)).alloc (.cells #[.int .i64 bk, .bool bn, .int .i64 be, .slice bA bxs.length bc] 40)).alloc
      (.cells #[.int .i64 0, .bool false, .int .i64 0, .slice none 0 0] 40)).alloc (.cells #[.int .i64 0, .bool false, .int .i64 0, .slice none 0 0] 40)) = W at *
  have hL := FRd.two W ⟨ak, an, ae, aA, ac, axs⟩ ⟨bk, bn, be, bA, bc, bxs⟩ (ha.ext hE) (hb.ext hE)
  have hA := (Ext.refl W).al (.cells #[.int .i64 ak, .bool an, .int .i64 ae, .slice aA axs.length ac, .int .i64 bk, .bool bn, .int .i64 be, .slice bA bxs.length bc] 40)
  rw [hsz] at hL
  clear hsz
  refine (hfl' _ _ _ (hT.ext (hE.tr hA)) hL).mono ?_
  rintro e w2 ⟨v, rfl, hof, hb2⟩
  obtain ⟨q, A1, c1, A2, c2, cc, rfl, hq, q0, q1, q2, q3, q4, q5, q6, q7, ho1, ho2⟩ := hof.two
  have hX2 := (hX.ext hA).ext hb2
  have hY2 := (hY.ext hA).ext hb2
  have hE2 := (hE.tr hA).tr hb2
  obtain ⟨x0, x1, x2, x3, xf⟩ := hX2.facts
  obtain ⟨y0, y1, y2, y3, yf⟩ := hY2.facts
  have hsE := hE2.size
  have hlx := hX2.lt
  have hly := hY2.lt
  have hsA := hA.size
  have hlW := hY.lt
  have hq3 : w.heap.size + 1 + 1 + 1 < q := by omega
  have hq4 : w.heap.size + 1 + 1 + 1 + 1 < q := by omega
  have hn3 : ¬ (w.heap.size + 1 + 1 + 1 = q) := by omega
  have hn4 : ¬ (w.heap.size + 1 + 1 + 1 + 1 = q) := by omega
  have hl1 := (ho1.putBelow (g := w.heap.size + 1 + 1 + 1) (by omega) (.int .i64 f.kind) (.bool f.neg) (.int .i64 f.exp) (.slice A1 (cn f.mag).length c1)).putBelow (g := w.heap.size + 1 + 1 + 1 + 1) (by omega) (.int .i64 g.kind) (.bool g.neg) (.int .i64 g.exp) (.slice A2 (cn g.mag).length c2) |>.low (b := w.heap.size) (by omega)
  have hl2 := (ho2.putBelow (g := w.heap.size + 1 + 1 + 1) (by omega) (.int .i64 f.kind) (.bool f.neg) (.int .i64 f.exp) (.slice A1 (cn f.mag).length c1)).putBelow (g := w.heap.size + 1 + 1 + 1 + 1) (by omega) (.int .i64 g.kind) (.bool g.neg) (.int .i64 g.exp) (.slice A2 (cn g.mag).length c2) |>.low (b := w.heap.size) (by omega)
  have hP1 := hX2.put (.int .i64 f.kind) (.bool f.neg) (.int .i64 f.exp) (.slice A1 (cn f.mag).length c1)
  have hQ1 := hY2.apart (g' := w.heap.size + 1 + 1 + 1) (by omega) (.int .i64 f.kind) (.bool f.neg) (.int .i64 f.exp) (.slice A1 (cn f.mag).length c1)
  have hP2 := hP1.apart (g' := w.heap.size + 1 + 1 + 1 + 1) (by omega) (.int .i64 g.kind) (.bool g.neg) (.int .i64 g.exp) (.slice A2 (cn g.mag).length c2)
  have hQ2 := hQ1.put (.int .i64 g.kind) (.bool g.neg) (.int .i64 g.exp) (.slice A2 (cn g.mag).length c2)
  have hE4 := (hE2.put (g := w.heap.size + 1 + 1 + 1) (by omega) (.int .i64 f.kind) (.bool f.neg) (.int .i64 f.exp) (.slice A1 (cn f.mag).length c1)).put (g := w.heap.size + 1 + 1 + 1 + 1) (by omega) (.int .i64 g.kind) (.bool g.neg) (.int .i64 g.exp) (.slice A2 (cn g.mag).length c2)
  have H4 := Lib.hid (And.intro hP2.drew (And.intro hQ2.drew (And.intro hE4.drew (And.intro (hl1.ext (Ext.refl _).drew) (hl2.ext (Ext.refl _).drew)))))
  clear hL hA hof hsE hsA hl1 hl2 hP1 hQ1 hP2 hQ2 hE4 ho1 ho2
  go_wp2_with fail
  go_region_held3 (fun w' => w'.cell? ⟨q, 0, none⟩ = some (.int .i64 f.kind) ∧ w'.cell? ⟨q, 1, none⟩ = some (.bool f.neg) ∧ w'.cell? ⟨q, 2, none⟩ = some (.int .i64 f.exp) ∧ w'.cell? ⟨q, 3, none⟩ = some (.slice A1 (cn f.mag).length c1) ∧
      w'.cell? ⟨q, 4, none⟩ = some (.int .i64 g.kind) ∧ w'.cell? ⟨q, 5, none⟩ = some (.bool g.neg) ∧ w'.cell? ⟨q, 6, none⟩ = some (.int .i64 g.exp) ∧ w'.cell? ⟨q, 7, none⟩ = some (.slice A2 (cn g.mag).length c2))
    (go_keep) (fail)
  all_goals
    go_wp2
  all_goals
    obtain ⟨r0, r1, r2, r3, -⟩ := H4.out.1.facts
    obtain ⟨s0, s1, s2, s3, -⟩ := H4.out.2.1.facts
    refine bodyPost_ret (v := .tuple #[flV f.kind f.neg f.exp (.slice A1 (cn f.mag).length c1), flV g.kind g.neg g.exp (.slice A2 (cn g.mag).length c2), .int .i64 0]) (by simp [results, Tryz.results26, go_sem, r0, r1, r2, r3, s0, s1, s2, s3]) rfl ?_
    exact ⟨_, _, _, _, rfl, H4.out.2.2.2.1, H4.out.2.2.2.2, H4.out.2.2.1⟩
end Go.Proofs.YtlnfmngginihfaaGreatDoor
namespace Go.Proofs.YtlnfmngginihfaaGreatDoor
open Go.RowKit

theorem osign_c (b : Bool) (w : World) : Calls Tryz.prog 31 #[.bool b] w fun e w' => e = .returned (.int .i64 (if b = true then -1 else 1)) ∧ w = w' := by
  cases b
  all_goals
    go_enter Tryz.func31, Tryz.ntmps31
    go_wp2
    go_ret
    exact ⟨rfl, rfl⟩
/-- What total answers. -/
def totF (k p : Int) (f g : Fl) : Int := if f.kind = 3 then (if g.kind = 3 then 0 else 1) else if g.kind = 3 then -1 else
  if sgn (idx k p f - idx k p g) ≠ 0 ∨ f.neg = g.neg then sgn (idx k p f - idx k p g) else if f.neg = true then -1 else 1
set_option maxHeartbeats 4000000 in
set_option maxRecDepth 100000 in
theorem total_c (k p : Int) (hR : Rgt k p) (f g : Fl) (hf : FOf k p f) (hg : FOf k p g) (A A' : Option Addr) (c c' : Nat) (w : World) (hT : Tab w) (h : Rd w A c (cn f.mag)) (h' : Rd w A' c' (cn g.mag)) :
    Calls Tryz.prog 17 #[.agg #[.int .i64 k, .int .i64 p], flV f.kind f.neg f.exp (.slice A (cn f.mag).length c), flV g.kind g.neg g.exp (.slice A' (cn g.mag).length c')] w
      fun e w' => e = .returned (.int .i64 (totF k p f g)) ∧ Ext w w' := by
  obtain ⟨hF, hX, hY, hE⟩ := boxesY w k p (.int .i64 f.kind) (.bool f.neg) (.int .i64 f.exp) (.slice A (cn f.mag).length c) (.int .i64 g.kind) (.bool g.neg) (.int .i64 g.exp) (.slice A' (cn g.mag).length c') _ rfl
  have hcm := fun w hT h h' => compare_c k p hR f g hf hg A A' c c' w hT h h'
  have htt : (((f.kind == 3) = true ∧ (g.kind == 3) = true) ∧ totF k p f g = 0) ∨ (((f.kind == 3) = true ∧ (g.kind == 3) = false) ∧ totF k p f g = 1) ∨ (((f.kind == 3) = false ∧ (g.kind == 3) = true) ∧ totF k p f g = -1) ∨
      (((f.kind == 3) = false ∧ (g.kind == 3) = false) ∧ ((((sgn (idx k p f - idx k p g) != 0) = true ∧ totF k p f g = sgn (idx k p f - idx k p g))) ∨ (((sgn (idx k p f - idx k p g) != 0) = false ∧ (f.neg == g.neg) = true) ∧ totF k p f g = sgn (idx k p f - idx k p g)) ∨
        (((sgn (idx k p f - idx k p g) != 0) = false ∧ (f.neg == g.neg) = false) ∧ totF k p f g = if f.neg = true then -1 else 1))) := by
    unfold totF
    by_cases h1 : f.kind = 3 <;> by_cases h2 : g.kind = 3
    · exact .inl ⟨⟨by simpa using h1, by simpa using h2⟩, by rw [if_pos h1, if_pos h2]⟩
    · exact .inr (.inl ⟨⟨by simpa using h1, by simpa using h2⟩, by rw [if_pos h1, if_neg h2]⟩)
    · exact .inr (.inr (.inl ⟨⟨by simpa using h1, by simpa using h2⟩, by rw [if_neg h1, if_pos h2]⟩))
    · refine .inr (.inr (.inr ⟨⟨by simpa using h1, by simpa using h2⟩, ?_⟩))
      rw [if_neg h1, if_neg h2]
      generalize sgn (idx k p f - idx k p g) = S
      by_cases h3 : S = 0
      · by_cases h4 : f.neg = g.neg
        · exact .inr (.inl ⟨⟨by simpa using h3, by simpa using h4⟩, by rw [if_pos (.inr h4)]⟩)
        · exact .inr (.inr ⟨⟨by simpa using h3, by simpa using h4⟩, by rw [if_neg (by rintro (h | h); exact h h3; exact h4 h)]⟩)
      · exact .inl ⟨by simpa using h3, by rw [if_pos (.inl h3)]⟩
  have hsg := fun w => osign_c f.neg w
  generalize (if f.neg = true then (-1 : Int) else 1) = SN at *
  generalize totF k p f g = T at *
  generalize sgn (idx k p f - idx k p g) = S at *
  clear hf hg hR
  generalize cn f.mag = X at *
  generalize cn g.mag = Y at *
  generalize f.neg = fn at *
  generalize g.neg = gn at *
  generalize f.kind = fk at *
  generalize g.kind = gk at *
  generalize f.exp = fe at *
  generalize g.exp = ge at *
  have HF := Lib.hid hF
  have HX := Lib.hid hX
  have HY := Lib.hid hY
  have HE := Lib.hid hE
  have HT := Lib.hid htt
  clear hF hX hY hE htt
  go_enter Tryz.func17, Tryz.ntmps17
  go_wp2_with fail
  have hF := HF.out
  have hX := HX.out
  have hY := HY.out
  have hE := HE.out
  clear HF HX HY HE
  generalize (((w.alloc (.cells #[.int .i64 k, .int .i64 p] 23)).alloc (.cells #[.int .i64 fk, .bool fn, .int .i64 fe, .slice A X.length c] 40)).alloc (.cells #[.int .i64 gk, .bool gn, .int .i64 ge, .slice A' Y.length c'] 40)) = W at *
  obtain ⟨f0, f1⟩ := hF.facts
  obtain ⟨x0, x1, x2, x3, -⟩ := hX.facts
  obtain ⟨y0, y1, y2, y3, -⟩ := hY.facts
  go_quiet (fail)
  rcases HT.out with ⟨⟨e1, e2⟩, rfl⟩ | ⟨⟨e1, e2⟩, rfl⟩ | ⟨⟨e1, e2⟩, rfl⟩ | ⟨⟨e1, e2⟩, e3⟩
  · go_wp2
    go_ret
    exact ⟨rfl, hE.drewN _⟩
  · go_wp2
    go_ret
    exact ⟨rfl, hE.drewN _⟩
  · go_wp2
    go_ret
    exact ⟨rfl, hE.drewN _⟩
  · go_wp2_with fail
    refine (hcm _ (hT.ext (hE.drewN _)) (h.ext (hE.drewN _)) (h'.ext (hE.drewN _))).mono ?_
    rintro z w3 ⟨rfl, hb3⟩
    have hE3 := (hE.drewN _).tr hb3
    have hb' := ((Ext.refl W).drewN _).tr hb3
    clear f0 f1 x0 x1 x2 x3 y0 y1 y2 y3
    obtain ⟨x0, x1, x2, x3, -⟩ := (hX.ext hb').facts
    obtain ⟨y0, y1, y2, y3, -⟩ := (hY.ext hb').facts
    rcases e3 with ⟨e3, rfl⟩ | ⟨⟨e3, e4⟩, rfl⟩ | ⟨⟨e3, e4⟩, rfl⟩
    · go_wp2
      go_ret
      exact ⟨rfl, hE3⟩
    · go_wp2
      go_ret
      exact ⟨rfl, hE3⟩
    · go_wp2_with fail
      refine (hsg _).mono ?_
      rintro z w4 ⟨rfl, rfl⟩
      go_wp2
      go_ret
      exact ⟨rfl, hE3⟩
/-- What Total answers where its arguments are floats of the format. -/
theorem boxesT (w : World) (k p : Int) (a b : FA) : ∀ W, W = (((w.alloc (.cells #[.int .i64 k, .int .i64 p] 23)).alloc (.cells #[.int .i64 a.k, .bool a.neg, .int .i64 a.e, .slice a.A a.xs.length a.c] 40)).alloc (.cells #[.int .i64 b.k, .bool b.neg, .int .i64 b.e, .slice b.A b.xs.length b.c] 40)) →
    Bf W w.heap.size (.int .i64 k) (.int .i64 p) ∧ Bx W (w.heap.size + 1) (.int .i64 a.k) (.bool a.neg) (.int .i64 a.e) (.slice a.A a.xs.length a.c) ∧ Bx W (w.heap.size + 1 + 1) (.int .i64 b.k) (.bool b.neg) (.int .i64 b.e) (.slice b.A b.xs.length b.c) ∧ Ext w W := boxesY w k p _ _ _ _ _ _ _ _
set_option maxHeartbeats 4000000 in
set_option maxRecDepth 100000 in
theorem Total_bad (k p : Int) (a b : FA) (ec : Int) (hfl : FlsS k p [a, b] = (ec, [])) (he : ec ≠ 0) (w : World) (hT : Tab w) (ha : Rd w a.A a.c a.xs) (hb : Rd w b.A b.c b.xs) :
    Calls Tryz.prog 14 #[.agg #[.int .i64 k, .int .i64 p], a.v, b.v] w fun e w' => e = .returned (.tuple #[.int .i64 0, .int .i64 ec]) ∧ Ext w w' := by
  obtain ⟨hF, hX, hY, hE⟩ := boxesT w k p a b _ rfl
  have hpr := fun w hT h1 h2 => pair_bad k p a b ec hfl he w hT h1 h2
  have hbe : (ec != 0) = true := by rw [bne_iff_ne]; exact he
  unfold PairR at hpr
  clear hfl he
  obtain ⟨ak, an, ae, aA, ac, axs⟩ := a
  obtain ⟨bk, bn, be, bA, bc, bxs⟩ := b
  simp only at ha hb hX hY hE hpr
  have HX := Lib.hid hX
  have HY := Lib.hid hY
  have HE := Lib.hid hE
  clear hX hY hE hF
  go_enter Tryz.func14, Tryz.ntmps14
  go_wp2_with fail
  refine (hpr _ (hT.ext HE.out) (ha.ext HE.out) (hb.ext HE.out)).mono ?_
  rintro z w3 ⟨A1, c1, A2, c2, rfl, -, -, hb3⟩
  have hX3 := HX.out.ext hb3
  have hY3 := HY.out.ext hb3
  have hE3 := HE.out.tr hb3
  obtain ⟨x0, x1, x2, x3, xf⟩ := hX3.facts
  obtain ⟨y0, y1, y2, y3, yf⟩ := hY3.facts
  go_wp2
  go_ret2
  exact ⟨rfl, (hE3.put (g := w.heap.size + 1) (by omega) _ _ _ _).put (g := w.heap.size + 1 + 1) (by omega) _ _ _ _⟩
set_option maxHeartbeats 4000000 in
set_option maxRecDepth 100000 in
theorem Total_good (k p : Int) (hR : Rgt k p) (a b : FA) (f g : Fl) (hfl : FlsS k p [a, b] = (0, [f, g])) (hf : FOf k p f) (hg : FOf k p g) (w : World) (hT : Tab w) (ha : Rd w a.A a.c a.xs) (hb : Rd w b.A b.c b.xs) :
    Calls Tryz.prog 14 #[.agg #[.int .i64 k, .int .i64 p], a.v, b.v] w fun e w' => e = .returned (.tuple #[.int .i64 (totF k p f g), .int .i64 0]) ∧ Ext w w' := by
  obtain ⟨hF, hX, hY, hE⟩ := boxesT w k p a b _ rfl
  have hpr := fun w hT h1 h2 => pair_good k p a b f g hfl w hT h1 h2
  have htt := fun A A' c c' w hT h h' => total_c k p hR f g hf hg A A' c c' w hT h h'
  unfold PairR at hpr
  generalize totF k p f g = T at *
  clear hfl hf hg hR
  obtain ⟨ak, an, ae, aA, ac, axs⟩ := a
  obtain ⟨bk, bn, be, bA, bc, bxs⟩ := b
  simp only at ha hb hF hX hY hE hpr
  have HF := Lib.hid hF
  have HX := Lib.hid hX
  have HY := Lib.hid hY
  have HE := Lib.hid hE
  clear hX hY hE hF
  go_enter Tryz.func14, Tryz.ntmps14
  go_wp2_with fail
  refine (hpr _ (hT.ext HE.out) (ha.ext HE.out) (hb.ext HE.out)).mono ?_
  rintro z w3 ⟨A1, c1, A2, c2, rfl, ho1, ho2, hb3⟩
  have hF3 := HF.out.ext hb3
  have hX3 := HX.out.ext hb3
  have hY3 := HY.out.ext hb3
  have hE3 := HE.out.tr hb3
  have hsz := HY.out.lt
  have hX4 := (hX3.put (.int .i64 f.kind) (.bool f.neg) (.int .i64 f.exp) (.slice A1 (cn f.mag).length c1)).apart (g' := w.heap.size + 1 + 1) (by omega) (.int .i64 g.kind) (.bool g.neg) (.int .i64 g.exp) (.slice A2 (cn g.mag).length c2)
  have hY4 := (hY3.apart (g' := w.heap.size + 1) (by omega) (.int .i64 f.kind) (.bool f.neg) (.int .i64 f.exp) (.slice A1 (cn f.mag).length c1)).put (.int .i64 g.kind) (.bool g.neg) (.int .i64 g.exp) (.slice A2 (cn g.mag).length c2)
  have hF4 := (hF3.apart (g' := w.heap.size + 1) (by omega) (.int .i64 f.kind) (.bool f.neg) (.int .i64 f.exp) (.slice A1 (cn f.mag).length c1)).apart (g' := w.heap.size + 1 + 1) (by omega) (.int .i64 g.kind) (.bool g.neg) (.int .i64 g.exp) (.slice A2 (cn g.mag).length c2)
  have hE4 := (hE3.put (g := w.heap.size + 1) (by omega) (.int .i64 f.kind) (.bool f.neg) (.int .i64 f.exp) (.slice A1 (cn f.mag).length c1)).put (g := w.heap.size + 1 + 1) (by omega) (.int .i64 g.kind) (.bool g.neg) (.int .i64 g.exp) (.slice A2 (cn g.mag).length c2)
  have hr1 := ((ho1.putBelow (g := w.heap.size + 1) (by omega) (.int .i64 f.kind) (.bool f.neg) (.int .i64 f.exp) (.slice A1 (cn f.mag).length c1)).putBelow (g := w.heap.size + 1 + 1) (by omega) (.int .i64 g.kind) (.bool g.neg) (.int .i64 g.exp) (.slice A2 (cn g.mag).length c2)).rdAt.2
  have hr2 := ((ho2.putBelow (g := w.heap.size + 1) (by omega) (.int .i64 f.kind) (.bool f.neg) (.int .i64 f.exp) (.slice A1 (cn f.mag).length c1)).putBelow (g := w.heap.size + 1 + 1) (by omega) (.int .i64 g.kind) (.bool g.neg) (.int .i64 g.exp) (.slice A2 (cn g.mag).length c2)).rdAt.2
  obtain ⟨x0, x1, x2, x3, xf⟩ := hX3.facts
  obtain ⟨y0, y1, y2, y3, yf⟩ := hY3.facts
  obtain ⟨f0', f1'⟩ := hF4.facts
  obtain ⟨x0', x1', x2', x3', xf'⟩ := hX4.facts
  obtain ⟨y0', y1', y2', y3', yf'⟩ := hY4.facts
  clear hF3 hX3 hY3 hE3 ho1 ho2
  go_wp2_with fail
  refine (htt _ _ _ _ _ (hT.ext hE4) hr1 hr2).mono ?_
  rintro z w5 ⟨rfl, hb5⟩
  go_wp2
  go_ret2
  exact ⟨rfl, hE4.tr hb5⟩
end Go.Proofs.YtlnfmngginihfaaGreatDoor
