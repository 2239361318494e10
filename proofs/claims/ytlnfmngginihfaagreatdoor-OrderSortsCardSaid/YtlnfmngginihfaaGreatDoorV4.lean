/- package format: Limits; the reference's Top, Normal and Bottom. -/
import Derived.Test.YtlnfmngginihfaaGreatDoorT3
import Derived.Test.YtlnfmngginihfaaGreatDoorS4
import Derived.Test.YtlnfmngginihfaaGreatDoorTB
set_option linter.unusedVariables false
set_option linter.unusedSimpArgs false
namespace Go.Proofs.YtlnfmngginihfaaGreatDoor
open Go.RowKit
attribute [local go_sem ↓] Go.wp_at_zero Go.wp_at_succ

/-- What Limits hands back. -/
def LimR (w : World) (ec : Int) (f1 f2 f3 : Fl) (z : Ending) (w' : World) : Prop :=
  ∃ u1 u2 u3, z = .returned (.tuple #[u1, u2, u3, .int .i64 ec]) ∧ FlR w' w.heap.size f1 u1 ∧ FlR w' w.heap.size f2 u2 ∧ FlR w' w.heap.size f3 u3 ∧ Ext w w'
theorem Bf.apart {w : World} {g g' : Nat} {a b : Value} (x : Bf w g a b) (hne : g ≠ g') (a' b' c' d' : Value) : Bf ((((w.setCell ⟨g', 0, none⟩ a').setCell ⟨g', 1, none⟩ b').setCell ⟨g', 2, none⟩ c').setCell ⟨g', 3, none⟩ d') g a b := by
  refine ⟨?_⟩
  rw [Below.heap_setCell _ _ _ _ (by simpa using hne), Below.heap_setCell _ _ _ _ (by simpa using hne), Below.heap_setCell _ _ _ _ (by simpa using hne), Below.heap_setCell _ _ _ _ (by simpa using hne)]
  exact x.h
set_option maxHeartbeats 1000000 in
set_option maxRecDepth 100000 in
theorem power_c (e : Int) (w : World) : Calls Tryz.prog 66 #[.int .i64 e] w fun z w' => ∃ v, z = .returned (flV 1 false e v) ∧ Own w' w.heap.size v [1] ∧ Ext w w' := by
  have hY := Bx.new w (.int .i64 0) (.bool false) (.int .i64 0) (.slice none 0 0)
  have hE := (Ext.refl w).al (.cells #[.int .i64 0, .bool false, .int .i64 0, .slice none 0 0] 40)
  obtain ⟨y0, y1, y2, y3, yf⟩ := hY.facts
  have hly := hY.lt
  go_enter Tryz.func66, Tryz.ntmps66
  have hX := Bx.new w (.int .i64 1) (.bool false) (.int .i64 e) (.slice (some ⟨w.heap.size + 1, 0, none⟩) 1 1)
  have hA := (Ext.refl w).al (.cells #[.int .i64 1, .bool false, .int .i64 e, .slice (some ⟨w.heap.size + 1, 0, none⟩) 1 1] 40)
  have ho := Own.one (w.alloc (.cells #[.int .i64 1, .bool false, .int .i64 e, .slice (some ⟨w.heap.size + 1, 0, none⟩) 1 1] 40))
  rw [World.size_alloc] at ho
  have HO := Lib.hid ho
  clear ho
  go_wp2
  obtain ⟨r0, r1, r2, r3, rf⟩ := (hX.ext ((Ext.refl _).al (.cells #[.int .u64 1] 45))).facts
  refine bodyPost_ret (v := flV 1 false e (.slice (some ⟨w.heap.size + 1, 0, none⟩) 1 1)) (by simp [results, Tryz.results66, go_sem, r0, r1, r2, r3]) rfl ?_
  exact ⟨_, rfl, HO.out.low (by omega), hA.al _⟩
/-- The four boxes of Limits. -/
theorem boxesL (w : World) (k p : Int) : ∀ W, W = ((((w.alloc (.cells #[.int .i64 k, .int .i64 p] 23)).alloc (.cells #[.int .i64 0, .bool false, .int .i64 0, .slice none 0 0] 40)).alloc (.cells #[.int .i64 0, .bool false, .int .i64 0, .slice none 0 0] 40)).alloc (.cells #[.int .i64 0, .bool false, .int .i64 0, .slice none 0 0] 40)) →
    Bf W w.heap.size (.int .i64 k) (.int .i64 p) ∧ Bx W (w.heap.size + 1) (.int .i64 0) (.bool false) (.int .i64 0) (.slice none 0 0) ∧ Bx W (w.heap.size + 1 + 1) (.int .i64 0) (.bool false) (.int .i64 0) (.slice none 0 0) ∧ Bx W (w.heap.size + 1 + 1 + 1) (.int .i64 0) (.bool false) (.int .i64 0) (.slice none 0 0) ∧ Ext w W := by
  rintro W rfl
  have h1 := (Ext.refl w).al (.cells #[.int .i64 k, .int .i64 p] 23)
  have x1 := Bx.new (w.alloc (.cells #[.int .i64 k, .int .i64 p] 23)) (.int .i64 0) (.bool false) (.int .i64 0) (.slice none 0 0)
  have x2 := Bx.new ((w.alloc (.cells #[.int .i64 k, .int .i64 p] 23)).alloc (.cells #[.int .i64 0, .bool false, .int .i64 0, .slice none 0 0] 40)) (.int .i64 0) (.bool false) (.int .i64 0) (.slice none 0 0)
  have x3 := Bx.new (((w.alloc (.cells #[.int .i64 k, .int .i64 p] 23)).alloc (.cells #[.int .i64 0, .bool false, .int .i64 0, .slice none 0 0] 40)).alloc (.cells #[.int .i64 0, .bool false, .int .i64 0, .slice none 0 0] 40)) (.int .i64 0) (.bool false) (.int .i64 0) (.slice none 0 0)
  rw [World.size_alloc] at x1
  rw [World.size_alloc, World.size_alloc] at x2
  rw [World.size_alloc, World.size_alloc, World.size_alloc] at x3
  exact ⟨(((Bf.new w _ _).ext ((Ext.refl _).al _)).ext ((Ext.refl _).al _)).ext ((Ext.refl _).al _), (x1.ext ((Ext.refl _).al _)).ext ((Ext.refl _).al _), x2.ext ((Ext.refl _).al _), x3, ((h1.al _).al _).al _⟩
/-- Three boxes, written one after the other. -/
theorem Bx.three {w : World} {g : Nat} {a1 b1 c1 d1 a2 b2 c2 d2 a3 b3 c3 d3 : Value} (x1 : Bx w (g + 1) a1 b1 c1 d1) (x2 : Bx w (g + 1 + 1) a2 b2 c2 d2) (x3 : Bx w (g + 1 + 1 + 1) a3 b3 c3 d3) (p1 q1 r1 s1 p2 q2 r2 s2 p3 q3 r3 s3 : Value) :
    ∀ w1 w2 w3, w1 = (((w.setCell ⟨g + 1, 0, none⟩ p1).setCell ⟨g + 1, 1, none⟩ q1).setCell ⟨g + 1, 2, none⟩ r1).setCell ⟨g + 1, 3, none⟩ s1 → w2 = (((w1.setCell ⟨g + 1 + 1, 0, none⟩ p2).setCell ⟨g + 1 + 1, 1, none⟩ q2).setCell ⟨g + 1 + 1, 2, none⟩ r2).setCell ⟨g + 1 + 1, 3, none⟩ s2 →
    w3 = (((w2.setCell ⟨g + 1 + 1 + 1, 0, none⟩ p3).setCell ⟨g + 1 + 1 + 1, 1, none⟩ q3).setCell ⟨g + 1 + 1 + 1, 2, none⟩ r3).setCell ⟨g + 1 + 1 + 1, 3, none⟩ s3 →
    Bx w1 (g + 1 + 1) a2 b2 c2 d2 ∧ Bx w2 (g + 1 + 1 + 1) a3 b3 c3 d3 ∧ Bx w3 (g + 1) p1 q1 r1 s1 ∧ Bx w3 (g + 1 + 1) p2 q2 r2 s2 ∧ Bx w3 (g + 1 + 1 + 1) p3 q3 r3 s3 := by
  rintro w1 w2 w3 rfl rfl rfl
  have y1 := x1.put p1 q1 r1 s1
  have y2 := x2.apart (g' := g + 1) (by omega) p1 q1 r1 s1
  have y3 := x3.apart (g' := g + 1) (by omega) p1 q1 r1 s1
  have z1 := y1.apart (g' := g + 1 + 1) (by omega) p2 q2 r2 s2
  have z2 := y2.put p2 q2 r2 s2
  have z3 := y3.apart (g' := g + 1 + 1) (by omega) p2 q2 r2 s2
  exact ⟨y2, z3, z1.apart (by omega) _ _ _ _, z2.apart (by omega) _ _ _ _, z3.put _ _ _ _⟩
set_option maxHeartbeats 2000000 in
set_option maxRecDepth 100000 in
theorem limits_no (k p : Int) (w : World) (h : ¬ Rgt k p) : Calls Tryz.prog 43 #[.agg #[.int .i64 k, .int .i64 p]] w (LimR w 150 ⟨0, false, 0, 0⟩ ⟨0, false, 0, 0⟩ ⟨0, false, 0, 0⟩) := by
  obtain ⟨hF, h1, h2, h3, hE⟩ := boxesL w k p _ rfl
  have hrg := fun w => range_no k p w h
  have HF := Lib.hid hF
  have H1 := Lib.hid h1
  have H2 := Lib.hid h2
  have H3 := Lib.hid h3
  have HE := Lib.hid hE
  clear hF h1 h2 h3 hE h
  go_enter Tryz.func43, Tryz.ntmps43
  go_wp2_with fail
  have hF := HF.out
  have hE := HE.out
  generalize ((((w.alloc (.cells #[.int .i64 k, .int .i64 p] 23)).alloc (.cells #[.int .i64 0, .bool false, .int .i64 0, .slice none 0 0] 40)).alloc (.cells #[.int .i64 0, .bool false, .int .i64 0, .slice none 0 0] 40)).alloc (.cells #[.int .i64 0, .bool false, .int .i64 0, .slice none 0 0] 40)) = W at *
  refine (hrg _).mono ?_
  rintro z w1 ⟨rfl, hb1⟩
  have y1 := H1.out.ext hb1
  have y2 := H2.out.ext hb1
  have y3 := H3.out.ext hb1
  have hE1 := hE.tr hb1
  obtain ⟨t2, t3, r1, r2, r3⟩ := Bx.three y1 y2 y3 (.int .i64 0) (.bool false) (.int .i64 0) (.slice none 0 0) (.int .i64 0) (.bool false) (.int .i64 0) (.slice none 0 0) (.int .i64 0) (.bool false) (.int .i64 0) (.slice none 0 0) _ _ _ rfl rfl rfl
  have hEf := ((hE1.put (g := w.heap.size + 1) (by omega) (.int .i64 0) (.bool false) (.int .i64 0) (.slice none 0 0)).put (g := w.heap.size + 1 + 1) (by omega) (.int .i64 0) (.bool false) (.int .i64 0) (.slice none 0 0)).put (g := w.heap.size + 1 + 1 + 1) (by omega) (.int .i64 0) (.bool false) (.int .i64 0) (.slice none 0 0)
  have HR1 := Lib.hid r1
  have HR2 := Lib.hid r2
  have HR3 := Lib.hid r3
  have HEF := Lib.hid hEf
  obtain ⟨a0, a1, a2, a3, af⟩ := y1.facts
  obtain ⟨b0, b1, b2, b3, bf⟩ := t2.facts
  obtain ⟨c0, c1, c2, c3, cf⟩ := t3.facts
  clear r1 r2 r3 hEf HF HE H1 H2 H3
  go_wp2
  obtain ⟨a0, a1, a2, a3, -⟩ := HR1.out.facts
  obtain ⟨b0, b1, b2, b3, -⟩ := HR2.out.facts
  obtain ⟨c0, c1, c2, c3, -⟩ := HR3.out.facts
  refine bodyPost_ret (v := .tuple #[flV 0 false 0 (.slice none 0 0), flV 0 false 0 (.slice none 0 0), flV 0 false 0 (.slice none 0 0), .int .i64 150]) (by simp [results, Tryz.results43, go_sem, a0, a1, a2, a3, b0, b1, b2, b3, c0, c1, c2, c3]) rfl ?_
  have hz : ∀ w', FlR w' w.heap.size ⟨0, false, 0, 0⟩ (flV 0 false 0 (.slice none 0 0)) := fun w' => ⟨_, rfl, by rw [show cn 0 = [] from digs_zero B]; exact Own.nil _ _⟩
  exact ⟨_, _, _, rfl, hz _, hz _, hz _, HEF.out⟩
theorem top_len {p : Int} (h1 : 2 ≤ p) (h2 : p ≤ 256) : (cn (2 ^ p.toNat)).length ≤ 5 ∧ (cn (2 ^ p.toNat - 1)).length ≤ 5 ∧ 1 ≤ 2 ^ p.toNat :=
  ⟨cn_len_pow (m := p.toNat + 1) (Nat.pow_lt_pow_right (by omega) (by omega)) (by omega), cn_len_pow (m := p.toNat) (by have := Nat.two_pow_pos p.toNat; omega) (by omega), Nat.two_pow_pos _⟩
set_option maxHeartbeats 4000000 in
set_option maxRecDepth 100000 in
theorem limits_yes (k p : Int) (w : World) (h : Rgt k p) : Calls Tryz.prog 43 #[.agg #[.int .i64 k, .int .i64 p]] w (LimR w 0 ⟨1, false, gr k - p + 1, 2 ^ p.toNat - 1⟩ ⟨1, false, le k, 1⟩ ⟨1, false, ti k p, 1⟩) := by
  obtain ⟨hF, h1, h2, h3, hE⟩ := boxesL w k p _ rfl
  have hrg := fun w => range_yes k p w h
  obtain ⟨hk1, hk2, hp1, hp2⟩ := h
  have hg := gr_bd hk1 hk2
  obtain ⟨hl1, hl2, hl3⟩ := top_len hp1 hp2
  have hsh := fun w => shl1_c p w (by omega) (by omega)
  have hsb := fun A c A' w h h' => sub_c A A' c 1 (cn (2 ^ p.toNat)) [1] w h h' (by rw [val_cn, val_one]; exact hl3) (by omega)
  rw [val_cn, val_one] at hsb
  have e1 : cn 1 = [1] := cn_one
  have HE1 := Lib.hid e1
  clear e1
  generalize 2 ^ p.toNat - 1 = T at *
  generalize 2 ^ p.toNat = M at *
  generalize gr k = g at *
  generalize le k = l at *
  generalize ti k p = t at *
  have hw1 : IntKind.i64.wrap (g - p) = g - p := by rw [IntKind.wrap_i64]; omega
  have hw2 : IntKind.i64.wrap (g - p + 1) = g - p + 1 := by rw [IntKind.wrap_i64]; omega
  have hp6 := fun w => power_c l w
  have hp7 := fun w => power_c t w
  simp only [List.length_cons, List.length_nil, Nat.zero_add] at hsb
  have HF := Lib.hid hF
  have H1 := Lib.hid h1
  have H2 := Lib.hid h2
  have H3 := Lib.hid h3
  have HE := Lib.hid hE
  clear hF h1 h2 h3 hE hl1 hl2 hl3
  go_enter Tryz.func43, Tryz.ntmps43
  go_wp2_with fail
  have hF := HF.out
  have hE := HE.out
  generalize ((((w.alloc (.cells #[.int .i64 k, .int .i64 p] 23)).alloc (.cells #[.int .i64 0, .bool false, .int .i64 0, .slice none 0 0] 40)).alloc (.cells #[.int .i64 0, .bool false, .int .i64 0, .slice none 0 0] 40)).alloc (.cells #[.int .i64 0, .bool false, .int .i64 0, .slice none 0 0] 40)) = W at *
  refine (hrg _).mono ?_
  rintro z w1 ⟨rfl, hb1⟩
  have hF1 := hF.ext hb1
  have hE1 := hE.tr hb1
  obtain ⟨f0, f1⟩ := hF1.facts
  have hlf := hF1.lt
  go_wp2_with fail
  refine (hsh _).mono ?_
  rintro z w4 ⟨v, rfl, ho4, hb4⟩
  obtain ⟨A4, c4, rfl, hr4⟩ := ho4.rd
  have hB4 := ((Ext.refl w1).al (.cells #[.int .u64 1] 45)).tr hb4
  have hA5 := (Ext.refl w4).al (.cells #[.int .u64 1] 45)
  go_wp2_with fail
  refine (hsb A4 c4 _ _ (hr4.ext hA5) (Rd.new1 w4 1 (by rw [B_eq]; omega))).mono ?_
  rintro z w5 ⟨v, rfl, ho5, hb5⟩
  obtain ⟨A5, c5, rfl, hr5⟩ := ho5.rd
  have hB5 := (hB4.tr hA5).tr hb5
  have hF5 := hF1.ext hB5
  have hE5 := hE1.tr hB5
  have hs45 := (hE1.tr (hB4.tr hA5)).size
  have ho5' := ho5.low (b := W.heap.size) ((hb1.tr (hB4.tr hA5)).size)
  have hH3 := H3.out.lt
  clear f0 f1 hlf ho5
  obtain ⟨f0, f1⟩ := hF5.facts
  have hlf := hF5.lt
  go_wp2_with fail
  go_region_held3 (fun w' => w'.cell? ⟨w.heap.size, 1, none⟩ = some (.int .i64 p))
    (first | go_keep | assumption | (refine Ext.cell (w := w5) (by assumption) ?_; assumption))
    (first
      | (go_at_call 66; (with_reducible refine (hp6 _).mono ?_); rintro z w6 ⟨v, rfl, ho6, hb6⟩; obtain ⟨A6, c6, rfl, hr6⟩ := ho6.rd; have hE6 : Ext w5 w6 := (Ext.refl w5).drew.tr hb6)
      | (go_at_call 66; (with_reducible refine (hp7 _).mono ?_); rintro z w7 ⟨v, rfl, ho7, hb7⟩; obtain ⟨A7, c7, rfl, hr7⟩ := ho7.rd; have hE7 : Ext w5 w7 := hE6.tr hb7; simp only [List.length_cons, List.length_nil, Nat.zero_add] at ho6 ho7 ⊢; have hX1 := ((H1.out.ext hb1).ext hB5).ext hE7; have hX2 := ((H2.out.ext hb1).ext hB5).ext hE7; have hX3 := ((H3.out.ext hb1).ext hB5).ext hE7; obtain ⟨t2, t3, r1, r2, r3⟩ := Bx.three hX1 hX2 hX3 (.int .i64 1) (.bool false) (.int .i64 (g - p + 1)) (.slice A5 (cn T).length c5) (.int .i64 1) (.bool false) (.int .i64 l) (.slice A6 1 c6) (.int .i64 1) (.bool false) (.int .i64 t) (.slice A7 1 c7) _ _ _ rfl rfl rfl; obtain ⟨a0, a1, a2, a3, af⟩ := hX1.facts; obtain ⟨b0, b1, b2, b3, bf⟩ := t2.facts; obtain ⟨d0, d1, d2, d3, df⟩ := t3.facts; have hG1 := (hF5.ext hE7).apart (g' := w.heap.size + 1) (by omega) (.int .i64 1) (.bool false) (.int .i64 (g - p + 1)) (.slice A5 (cn T).length c5); have hG2 := hG1.apart (g' := w.heap.size + 1 + 1) (by omega) (.int .i64 1) (.bool false) (.int .i64 l) (.slice A6 1 c6); have hG3 := hG2.apart (g' := w.heap.size + 1 + 1 + 1) (by omega) (.int .i64 1) (.bool false) (.int .i64 t) (.slice A7 1 c7); obtain ⟨-, i1⟩ := (hF5.ext hE7).facts; obtain ⟨-, j1⟩ := hG1.facts; obtain ⟨-, k1⟩ := hG2.facts; obtain ⟨-, l1⟩ := hG3.facts))
  have hsz5 : W.heap.size ≤ w5.heap.size := (hb1.tr hB5).size
  have q5 := (((ho5'.ext hE7).putBelow (g := w.heap.size + 1) (by omega) (.int .i64 1) (.bool false) (.int .i64 (g - p + 1)) (.slice A5 (cn T).length c5)).putBelow (g := w.heap.size + 1 + 1) (by omega) (.int .i64 1) (.bool false) (.int .i64 l) (.slice A6 1 c6)).putBelow (g := w.heap.size + 1 + 1 + 1) (by omega) (.int .i64 1) (.bool false) (.int .i64 t) (.slice A7 1 c7)
  have q6 := ((((ho6.low (b := w5.heap.size) (by simp)).ext hb7).putBelow (g := w.heap.size + 1) (by omega) (.int .i64 1) (.bool false) (.int .i64 (g - p + 1)) (.slice A5 (cn T).length c5)).putBelow (g := w.heap.size + 1 + 1) (by omega) (.int .i64 1) (.bool false) (.int .i64 l) (.slice A6 1 c6)).putBelow (g := w.heap.size + 1 + 1 + 1) (by omega) (.int .i64 1) (.bool false) (.int .i64 t) (.slice A7 1 c7)
  have q7 := (((ho7.low (b := w5.heap.size) hE6.size).putBelow (g := w.heap.size + 1) (by omega) (.int .i64 1) (.bool false) (.int .i64 (g - p + 1)) (.slice A5 (cn T).length c5)).putBelow (g := w.heap.size + 1 + 1) (by omega) (.int .i64 1) (.bool false) (.int .i64 l) (.slice A6 1 c6)).putBelow (g := w.heap.size + 1 + 1 + 1) (by omega) (.int .i64 1) (.bool false) (.int .i64 t) (.slice A7 1 c7)
  have qE := (((hE5.tr hE7).put (g := w.heap.size + 1) (by omega) (.int .i64 1) (.bool false) (.int .i64 (g - p + 1)) (.slice A5 (cn T).length c5)).put (g := w.heap.size + 1 + 1) (by omega) (.int .i64 1) (.bool false) (.int .i64 l) (.slice A6 1 c6)).put (g := w.heap.size + 1 + 1 + 1) (by omega) (.int .i64 1) (.bool false) (.int .i64 t) (.slice A7 1 c7)
  have Q5 := Lib.hid q5
  have Q6 := Lib.hid q6
  have Q7 := Lib.hid q7
  have QE := Lib.hid qE
  have R1 := Lib.hid r1
  have R2 := Lib.hid r2
  have R3 := Lib.hid r3
  clear q5 q6 q7 qE r1 r2 r3 hX1 hX2 hX3 hG1 hG2 hG3
  go_wp2
  obtain ⟨m0, m1, m2, m3, -⟩ := R1.out.facts
  obtain ⟨n0, n1, n2, n3, -⟩ := R2.out.facts
  obtain ⟨o0, o1, o2, o3, -⟩ := R3.out.facts
  refine bodyPost_ret (v := .tuple #[flV 1 false (g - p + 1) (.slice A5 (cn T).length c5), flV 1 false l (.slice A6 1 c6), flV 1 false t (.slice A7 1 c7), .int .i64 0]) (by simp [results, Tryz.results43, go_sem, m0, m1, m2, m3, n0, n1, n2, n3, o0, o1, o2, o3]) rfl ?_
  have hs0 := hE.size
  exact ⟨_, _, _, rfl, ⟨_, rfl, Q5.out.low hs0⟩, ⟨_, rfl, by rw [HE1.out]; exact Q6.out.low (by omega)⟩, ⟨_, rfl, by rw [HE1.out]; exact Q7.out.low (by omega)⟩, QE.out⟩
end Go.Proofs.YtlnfmngginihfaaGreatDoor
