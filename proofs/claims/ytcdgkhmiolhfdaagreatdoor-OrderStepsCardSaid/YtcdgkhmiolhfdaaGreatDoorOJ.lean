/- The references' integers: Add (11), From (03, 11) of 1 and -1, Is (03, 11); NoInt; Plus (15). The reference's Index and At (package 21). package order: At; what At and Next do with indices: the plain law. -/
import Derived.Test.YtcdgkhmiolhfdaaGreatDoorU4
import Derived.Test.YtcdgkhmiolhfdaaGreatDoorS7
import Derived.Test.YtcdgkhmiolhfdaaGreatDoorRC
set_option linter.unusedVariables false
set_option linter.unusedSimpArgs false
namespace Go.Proofs.YtcdgkhmiolhfdaaGreatDoor
open Go.RowKit
attribute [local go_sem ↓] Go.wp_at_zero Go.wp_at_succ

set_option maxHeartbeats 1000000 in
set_option maxRecDepth 100000 in
theorem radd11_c (n1 n2 : Bool) (A1 A2 : Option Addr) (c1 c2 : Nat) (xs ys : List Nat) (w : World) (h1 : Rd w A1 c1 xs) (h2 : Rd w A2 c2 ys) (hs1 : xs.length ≤ 10000000) (hs2 : ys.length ≤ 10000000) :
    Calls Tryz.prog 35 #[intV n1 A1 xs.length c1, intV n2 A2 ys.length c2] w (IntR w (sg n1 (val xs) + sg n2 (val ys))) := by
  obtain ⟨hX, hY, hR, hE⟩ := boxesI w n1 n2 (.slice A1 xs.length c1) (.slice A2 ys.length c2) _ rfl
  have hml := fun w h1 h2 => radd03_c n1 n2 A1 A2 c1 c2 xs ys w h1 h2 hs1 hs2
  generalize sg n1 (val xs) + sg n2 (val ys) = z at *
  have HR := Lib.hid hR
  have HE := Lib.hid hE
  clear hX hY hR hE hs1 hs2
  go_enter Tryz.func35, Tryz.ntmps35
  go_wp2_with fail
  have hR := HR.out
  have hE := HE.out
  clear HR HE
  generalize (((w.alloc (.cells #[.bool n1, .slice A1 xs.length c1] 56)).alloc (.cells #[.bool n2, .slice A2 ys.length c2] 56)).alloc (.cells #[.bool false, .slice none 0 0] 56)) = W at *
  have hlr := hR.lt
  refine (hml _ (h1.ext hE) (h2.ext hE)).mono ?_
  rintro e w4 ⟨A4, c4, rfl, ho4, hb4⟩
  have hR4 := hR.ext hb4
  obtain ⟨q0, q1, qf⟩ := hR4.facts
  go_wp2
  have hR5 := hR4.put (.bool (decide (z < 0))) (.slice A4 (cn z.natAbs).length c4)
  obtain ⟨r0, r1, rf⟩ := hR5.facts
  refine bodyPost_ret (v := intV (decide (z < 0)) A4 (cn z.natAbs).length c4) (by simp [results, Tryz.results35, go_sem, r0, r1]) rfl ?_
  exact ⟨_, _, rfl, (ho4.puti (g := w.heap.size + 1 + 1) hlr _ _).low hE.size, (hE.tr hb4).puti (g := w.heap.size + 1 + 1) (by omega) _ _⟩
/-- From, of a step. -/
theorem rmake_one (neg : Bool) (A : Option Addr) (c : Nat) (w : World) (h : Rd w A c (cn 1)) : Calls Tryz.prog 96 #[.bool neg, .slice A (cn 1).length c] w (IntR w (if neg = true then -1 else 1)) := by
  have h1 := rmake_c neg A c (cn 1) w h (by have := one_len; omega)
  rw [val_cn] at h1
  cases neg
  · exact h1
  · exact h1
set_option maxHeartbeats 1000000 in
set_option maxRecDepth 100000 in
theorem rfrom03_c (s : Int) (hs : s = 1 ∨ s = -1) (w : World) : Calls Tryz.prog 64 #[.int .i64 s] w (IntR w s) := by
  have hR := Bi.new w (.bool false) (.slice none 0 0)
  have hE := (Ext.refl w).al (.cells #[.bool false, .slice none 0 0] 56)
  have hfw := fun w => rone_c w
  have HR := Lib.hid hR
  have HE := Lib.hid hE
  clear hR hE
  rcases hs with rfl | rfl
  · have hmk := fun A c w h => rmake_one false A c w h
    rw [if_neg (by simp)] at hmk
    go_enter Tryz.func64, Tryz.ntmps64
    go_wp2_with fail
    refine (hfw _).mono ?_
    rintro e w1 ⟨v, rfl, ho, hb⟩
    obtain ⟨A1, c1, rfl, hr⟩ := ho.rd
    have hlr := (HR.out.ext hb).lt
    go_wp2_with fail
    refine (hmk A1 c1 _ hr).mono ?_
    rintro e w2 ⟨A2, c2, rfl, ho2, hb2⟩
    have hR2 := (HR.out.ext hb).ext hb2
    have hE2 := (HE.out.tr hb).tr hb2
    obtain ⟨q0, q1, qf⟩ := hR2.facts
    go_wp2
    obtain ⟨r0, r1, rf⟩ := (hR2.put (.bool (decide ((1 : Int) < 0))) (.slice A2 (cn (1 : Int).natAbs).length c2)).facts
    refine bodyPost_ret (v := intV (decide ((1 : Int) < 0)) A2 (cn (1 : Int).natAbs).length c2) (by simp_all [results, Tryz.results64, go_sem]) rfl ?_
    exact ⟨_, _, rfl, (ho2.puti (g := w.heap.size) hlr _ _).low (HE.out.tr hb).size, hE2.puti (g := w.heap.size) (by omega) _ _⟩
  · have hmk := fun A c w h => rmake_one true A c w h
    rw [if_pos rfl] at hmk
    go_enter Tryz.func64, Tryz.ntmps64
    go_wp2_with fail
    refine (hfw _).mono ?_
    rintro e w1 ⟨v, rfl, ho, hb⟩
    obtain ⟨A1, c1, rfl, hr⟩ := ho.rd
    have hlr := (HR.out.ext hb).lt
    go_wp2_with fail
    refine (hmk A1 c1 _ hr).mono ?_
    rintro e w2 ⟨A2, c2, rfl, ho2, hb2⟩
    have hR2 := (HR.out.ext hb).ext hb2
    have hE2 := (HE.out.tr hb).tr hb2
    obtain ⟨q0, q1, qf⟩ := hR2.facts
    go_wp2
    obtain ⟨r0, r1, rf⟩ := (hR2.put (.bool (decide ((-1 : Int) < 0))) (.slice A2 (cn (-1 : Int).natAbs).length c2)).facts
    refine bodyPost_ret (v := intV (decide ((-1 : Int) < 0)) A2 (cn (-1 : Int).natAbs).length c2) (by simp_all [results, Tryz.results64, go_sem]) rfl ?_
    exact ⟨_, _, rfl, (ho2.puti (g := w.heap.size) hlr _ _).low (HE.out.tr hb).size, hE2.puti (g := w.heap.size) (by omega) _ _⟩
set_option maxHeartbeats 1000000 in
set_option maxRecDepth 100000 in
theorem rfrom11_c (s : Int) (hs : s = 1 ∨ s = -1) (w : World) : Calls Tryz.prog 37 #[.int .i64 s] w (IntR w s) := by
  have hR := Bi.new w (.bool false) (.slice none 0 0)
  have hE := (Ext.refl w).al (.cells #[.bool false, .slice none 0 0] 56)
  have hfr := fun w => rfrom03_c s hs w
  unfold IntR at *
  have HR := Lib.hid hR
  have HE := Lib.hid hE
  clear hR hE hs
  generalize decide (s < 0) = b at *
  generalize cn s.natAbs = X at *
  go_enter Tryz.func37, Tryz.ntmps37
  go_wp2_with fail
  have hlr := HR.out.lt
  refine (hfr _).mono ?_
  rintro e w2 ⟨A2, c2, rfl, ho2, hb2⟩
  have hR2 := HR.out.ext hb2
  have hE2 := HE.out.tr hb2
  obtain ⟨q0, q1, qf⟩ := hR2.facts
  go_wp2
  obtain ⟨r0, r1, rf⟩ := (hR2.put (.bool b) (.slice A2 X.length c2)).facts
  refine bodyPost_ret (v := intV b A2 X.length c2) (by simp [results, Tryz.results37, go_sem, r0, r1]) rfl ?_
  exact ⟨_, _, rfl, (ho2.puti (g := w.heap.size) hlr _ _).low HE.out.size, hE2.puti (g := w.heap.size) (by omega) _ _⟩
theorem boxesI2v (w : World) (n1 n2 : Bool) (v1 v2 : Value) : ∀ W, W = ((w.alloc (.cells #[.bool n1, v1] 56)).alloc (.cells #[.bool n2, v2] 56)) →
    Bi W w.heap.size (.bool n1) v1 ∧ Bi W (w.heap.size + 1) (.bool n2) v2 ∧ Ext w W := by
  rintro W rfl
  have h1 := (Ext.refl w).al (.cells #[.bool n1, v1] 56)
  have x2 := Bi.new (w.alloc (.cells #[.bool n1, v1] 56)) (.bool n2) v2
  rw [World.size_alloc] at x2
  exact ⟨(Bi.new w _ _).ext ((Ext.refl _).al _), x2, h1.al _⟩
set_option maxHeartbeats 4000000 in
set_option maxRecDepth 100000 in
/-- Is, of an integer in canonical form, twice. -/
theorem ris03_z (z : Int) (hl : (cn z.natAbs).length ≤ 10000000) (A1 A2 : Option Addr) (c1 c2 : Nat) (w : World) (h1 : Rd w A1 c1 (cn z.natAbs)) (h2 : Rd w A2 c2 (cn z.natAbs)) :
    Calls Tryz.prog 54 #[intV (decide (z < 0)) A1 (cn z.natAbs).length c1, intV (decide (z < 0)) A2 (cn z.natAbs).length c2] w fun z w' => z = .returned (.bool true) ∧ Ext w w' := by
  obtain ⟨hX, hY, hE⟩ := boxesI2v w (decide (z < 0)) (decide (z < 0)) (.slice A1 (cn z.natAbs).length c1) (.slice A2 (cn z.natAbs).length c2) _ rfl
  have his := fun w h1 h2 => ris_c A1 A2 c1 c2 (cn z.natAbs) (cn z.natAbs) w h1 h2 hl
  rw [val_cn, show decide (cn z.natAbs = cn z.natAbs) = true by simp] at his
  have htr := fun w h => rtrimi_c (decide (z < 0)) A2 c2 (cn z.natAbs) w h (by omega)
  rw [val_cn, sg_self] at htr
  unfold IntR at htr
  have HX := Lib.hid hX
  have HY := Lib.hid hY
  have HE := Lib.hid hE
  clear hX hY hE hl
  generalize cn z.natAbs = X at *
  generalize decide (z < 0) = neg at *
  have hbb : (neg == neg) = true := by simp
  have hfd : ∀ (b : Bool) (A : Option Addr) (m c : Nat) (w : World), (Instr.field 56 (.agg #[.bool b, .slice A m c]) 0).run Tryz.prog w = .ok (.bool b) w := fun b A m c w => by kernel_rfl
  go_enter Tryz.func54, Tryz.ntmps54
  go_wp2_with fail
  have hX := HX.out
  have hY := HY.out
  have hE := HE.out
  generalize ((w.alloc (.cells #[.bool neg, .slice A1 X.length c1] 56)).alloc (.cells #[.bool neg, .slice A2 X.length c2] 56)) = W at *
  obtain ⟨x0, x1, -⟩ := hX.facts
  obtain ⟨y0, y1, -⟩ := hY.facts
  go_region_held3 (fun w' => w'.cell? ⟨w.heap.size, 0, none⟩ = some (.bool neg) ∧ w'.cell? ⟨w.heap.size, 1, none⟩ = some (.slice A1 X.length c1) ∧ w'.cell? ⟨w.heap.size + 1, 0, none⟩ = some (.bool neg) ∧ w'.cell? ⟨w.heap.size + 1, 1, none⟩ = some (.slice A2 X.length c2))
    (first | go_keep | (go_split_ands; refine ⟨?_, ?_, ?_, ?_⟩ <;> first | assumption | (refine Ext.cell (w := W) ?_ ?_ <;> assumption)))
    (first
      | (go_at_call 93; (with_reducible refine (his _ (h1.ext hE).drew (h2.ext hE).drew).mono ?_); rintro e w3 ⟨rfl, hb3⟩; have hE3 : Ext W w3 := (Ext.refl W).drew.tr hb3)
      | (go_at_call 94; (with_reducible refine (htr _ (h2.ext (hE.tr hE3))).mono ?_); rintro e w4 ⟨A4, c4, rfl, ho4, hb4⟩; have hE4 : Ext W w4 := hE3.tr hb4)
      | fail)
  go_wp2
  go_ret
  exact ⟨rfl, hE.tr hE4⟩
set_option maxHeartbeats 1000000 in
set_option maxRecDepth 100000 in
theorem ris11_z (z : Int) (hl : (cn z.natAbs).length ≤ 10000000) (A1 A2 : Option Addr) (c1 c2 : Nat) (w : World) (h1 : Rd w A1 c1 (cn z.natAbs)) (h2 : Rd w A2 c2 (cn z.natAbs)) :
    Calls Tryz.prog 30 #[intV (decide (z < 0)) A1 (cn z.natAbs).length c1, intV (decide (z < 0)) A2 (cn z.natAbs).length c2] w fun z w' => z = .returned (.bool true) ∧ Ext w w' := by
  obtain ⟨hX, hY, hE⟩ := boxesI2v w (decide (z < 0)) (decide (z < 0)) (.slice A1 (cn z.natAbs).length c1) (.slice A2 (cn z.natAbs).length c2) _ rfl
  have his := fun w h1 h2 => ris03_z z hl A1 A2 c1 c2 w h1 h2
  have HE := Lib.hid hE
  clear hX hY hE hl
  generalize cn z.natAbs = X at *
  generalize decide (z < 0) = neg at *
  go_enter Tryz.func30, Tryz.ntmps30
  go_wp2_with fail
  refine (his _ (h1.ext HE.out) (h2.ext HE.out)).mono ?_
  rintro z w1 ⟨rfl, hb1⟩
  go_wp2
  go_ret
  exact ⟨rfl, HE.out.tr hb1⟩
set_option maxHeartbeats 1000000 in
set_option maxRecDepth 100000 in
theorem noint_c (A : Option Addr) (c : Nat) (w : World) : Calls Tryz.prog 29 #[intV false A 0 c] w fun z w' => z = .returned (.bool true) ∧ Ext w w' := by
  have hE := (Ext.refl w).al (.cells #[.bool false, .slice A 0 c] 56)
  go_enter Tryz.func29, Tryz.ntmps29
  go_wp2
  go_ret
  exact ⟨rfl, hE⟩
theorem Br.s1 {w : World} {g : Nat} {a b c d : Value} (x : Br w g a b c d) (v : Value) : Br (w.setCell ⟨g, 1, none⟩ v) g a v c d := by
  have h := x.h
  constructor
  simp [World.setCell, Array.getElem?_modify, h]
theorem Br.apart {w : World} {g g' : Nat} {a b c d : Value} (x : Br w g a b c d) (hne : g ≠ g') (a' b' c' d' : Value) : Br ((((w.setCell ⟨g', 0, none⟩ a').setCell ⟨g', 1, none⟩ b').setCell ⟨g', 2, none⟩ c').setCell ⟨g', 3, none⟩ d') g a b c d := by
  have h := x.h
  constructor
  simp [World.setCell, Array.getElem?_modify, h, hne, Ne.symm hne]
theorem Br.far {w : World} {g : Nat} {a b c d : Value} (x : Br w g a b c d) {p : Addr} (hp : g ≠ p.block) (u : Value) : Br (w.setCell p u) g a b c d := ⟨(Below.heap_setCell w p u g hp).trans x.h⟩
theorem boxesR1 (w : World) (a b c d : Value) : ∀ W, W = ((w.alloc (.cells #[a, b, c, d] 40)).alloc (.cells #[.int .i64 0, .bool false, .int .i64 0, .slice none 0 0] 40)) →
    Br W w.heap.size a b c d ∧ Br W (w.heap.size + 1) (.int .i64 0) (.bool false) (.int .i64 0) (.slice none 0 0) ∧ Ext w W := by
  rintro W rfl
  have x2 := Br.new (w.alloc (.cells #[a, b, c, d] 40)) (.int .i64 0) (.bool false) (.int .i64 0) (.slice none 0 0)
  rw [World.size_alloc] at x2
  exact ⟨(Br.new w a b c d).ext ((Ext.refl _).al _), x2, ((Ext.refl w).al _).al _⟩
set_option maxHeartbeats 4000000 in
set_option maxRecDepth 100000 in
theorem rplus15_c (k e : Int) (neg : Bool) (A : Option Addr) (c : Nat) (xs : List Nat) (w : World) (h : Rd w A c xs) (hl : xs.length ≤ 4096) (f : Fl) (hf : canon k neg e (val xs) = some f) :
    Calls Tryz.prog 58 #[flV k neg e (.slice A xs.length c)] w fun z w' => ∃ u, z = .returned u ∧ FlR w' w.heap.size ⟨f.kind, false, f.exp, f.mag⟩ u ∧ Ext w w' := by
  obtain ⟨hX, hR, hE⟩ := boxesR1 w (.int .i64 k) (.bool neg) (.int .i64 e) (.slice A xs.length c) _ rfl
  have k1 := rcanonical_c k e neg A c xs
  have c1 := fun w h => k1 w h hl f hf
  unfold FlR at c1 ⊢
  simp only at c1 ⊢
  clear k1 hl hf
  generalize f.kind = fk at *
  generalize f.neg = fn at *
  generalize f.exp = fe at *
  generalize cn f.mag = X at *
  have HX := Lib.hid hX
  have HR := Lib.hid hR
  have HE := Lib.hid hE
  clear hX hR hE
  go_enter Tryz.func58, Tryz.ntmps58
  go_wp2_with fail
  refine (c1 _ (h.ext HE.out)).mono ?_
  rintro z w3 ⟨u, rfl, ⟨v, rfl, ho3⟩, hb3⟩
  obtain ⟨A3, c3, rfl, hr3⟩ := ho3.rd
  have hlr := HR.out.lt
  have hX3 := HX.out.ext hb3
  have hR3 := HR.out.ext hb3
  have hE3 := HE.out.tr hb3
  obtain ⟨x0, x1, x2, x3, xf⟩ := hX3.facts
  have hX4 := hX3.put (.int .i64 fk) (.bool fn) (.int .i64 fe) (.slice A3 X.length c3)
  have hX5 := hX4.s1 (.bool false)
  obtain ⟨y0, y1, y2, y3, yf⟩ := hX5.facts
  have hR5 := (hR3.apart (g' := w.heap.size) (by omega) (.int .i64 fk) (.bool fn) (.int .i64 fe) (.slice A3 X.length c3)).far (p := ⟨w.heap.size, 1, none⟩) (by simp) (.bool false)
  obtain ⟨r0, r1, r2, r3, rf⟩ := hR5.facts
  have hE5 := (hE3.put (g := w.heap.size) (by omega) (.int .i64 fk) (.bool fn) (.int .i64 fe) (.slice A3 X.length c3)).set (g := w.heap.size) (by omega) 1 (.bool false)
  have ho5 := ((((ho3.low (b := w.heap.size + 1 + 1) hlr).putBelow (g := w.heap.size) (by omega) (.int .i64 fk) (.bool fn) (.int .i64 fe) (.slice A3 X.length c3)).setBelow (a := ⟨w.heap.size, 1, none⟩) (show w.heap.size < w.heap.size + 1 + 1 by omega) (.bool false)).putBelow (g := w.heap.size + 1) (by omega) (.int .i64 fk) (.bool false) (.int .i64 fe) (.slice A3 X.length c3)).low (b := w.heap.size) (by omega)
  have hE6 := hE5.put (g := w.heap.size + 1) (by omega) (.int .i64 fk) (.bool false) (.int .i64 fe) (.slice A3 X.length c3)
  have HO := Lib.hid ho5
  have HE6 := Lib.hid hE6
  have HR6 := Lib.hid (hR5.put (.int .i64 fk) (.bool false) (.int .i64 fe) (.slice A3 X.length c3))
  clear ho5 hE6 hE5 hR5 hX5 hX4 ho3
  go_wp2
  obtain ⟨s0, s1, s2, s3, -⟩ := HR6.out.facts
  refine bodyPost_ret (v := flV fk false fe (.slice A3 X.length c3)) (by simp [results, Tryz.results58, go_sem, s0, s1, s2, s3]) rfl ?_
  exact ⟨_, rfl, ⟨_, rfl, HO.out⟩, HE6.out⟩
end Go.Proofs.YtcdgkhmiolhfdaaGreatDoor
namespace Go.Proofs.YtcdgkhmiolhfdaaGreatDoor
open Go.RowKit
attribute [local go_sem ↓] Go.wp_at_zero Go.wp_at_succ

theorem Bg.far {w : World} {g : Nat} {a b : Value} (x : Bg w g a b) {p : Addr} (hp : g ≠ p.block) (u : Value) : Bg (w.setCell p u) g a b := ⟨(Below.heap_setCell w p u g hp).trans x.h⟩
theorem boxesIx (w : World) (k p : Int) (a b c d : Value) : ∀ W, W = (((w.alloc (.cells #[.int .i64 k, .int .i64 p] 51)).alloc (.cells #[a, b, c, d] 40)).alloc (.cells #[.bool false, .slice none 0 0] 56)) →
    Bg W w.heap.size (.int .i64 k) (.int .i64 p) ∧ Br W (w.heap.size + 1) a b c d ∧ Bi W (w.heap.size + 1 + 1) (.bool false) (.slice none 0 0) ∧ Ext w W := by
  rintro W rfl
  have h1 := (Ext.refl w).al (.cells #[.int .i64 k, .int .i64 p] 51)
  have x2 := Br.new (w.alloc (.cells #[.int .i64 k, .int .i64 p] 51)) a b c d
  have x3 := Bi.new ((w.alloc (.cells #[.int .i64 k, .int .i64 p] 51)).alloc (.cells #[a, b, c, d] 40)) (.bool false) (.slice none 0 0)
  rw [World.size_alloc] at x2
  rw [World.size_alloc, World.size_alloc] at x3
  exact ⟨((Bg.new w _ _).ext ((Ext.refl _).al _)).ext ((Ext.refl _).al _), x2.ext ((Ext.refl _).al _), x3, (h1.al _).al _⟩
set_option maxHeartbeats 4000000 in
set_option maxRecDepth 100000 in
theorem rindex21_c (k p : Int) (hR : Rgt k p) (a : FA) (f : Fl) (hfc : a.can = some f) (hf : FOf k p f) (la : a.xs.length ≤ 4096) (w : World) (ha : Rd w a.A a.c a.xs) :
    Calls Tryz.prog 32 #[.agg #[.int .i64 k, .int .i64 p], a.v] w (IntR w (idx k p f)) := by
  obtain ⟨hF, hX, hI, hE⟩ := boxesIx w k p (.int .i64 a.k) (.bool a.neg) (.int .i64 a.e) (.slice a.A a.xs.length a.c) _ rfl
  have k1 := rplus15_c a.k a.e a.neg a.A a.c a.xs
  have c1 := fun w h => k1 w h la f hfc
  have hokp : (⟨f.kind, false, f.exp, f.mag⟩ : Fl).Ok := ⟨hf.ok.lo, hf.ok.hi, hf.ok.kind, hf.ok.odd, hf.ok.zero, fun _ => rfl⟩
  have c2 := fun A c w h => rencode_c k p hR f.kind f.exp false A c (cn f.mag) w h hf.len ⟨f.kind, false, f.exp, f.mag⟩ (by rw [val_cn]; exact canon_self hokp) hf.inn
  rw [show encM k p ⟨f.kind, false, f.exp, f.mag⟩ = encM k p f from rfl, if_neg (by simp), Nat.add_zero] at c2
  have hel := encM_len hR hf.ok hf.inn
  have c3 := fun A c w h => rmake11_c a.neg A c (cn (encM k p f)) w h (by omega)
  have hn := can_neg hfc
  rw [val_cn, ← hn, show sg f.neg (encM k p f) = idx k p f from rfl, hn] at c3
  unfold FlR at c1
  simp only at c1
  unfold IntR at *
  generalize idx k p f = z at *
  generalize cn (encM k p f) = M at *
  generalize cn f.mag = X at *
  clear k1 hfc hf la hokp hel hn hR
  generalize f.kind = fk at *
  generalize f.exp = fe at *
  generalize decide (z < 0) = zb at *
  generalize cn z.natAbs = Z at *
  obtain ⟨ak, an, ae, aA, ac, axs⟩ := a
  simp only at ha hF hX hI hE c1 c3
  have HF := Lib.hid hF
  have HX := Lib.hid hX
  have HI := Lib.hid hI
  have HE := Lib.hid hE
  clear hF hX hI hE
  go_enter Tryz.func32, Tryz.ntmps32
  go_wp2_with fail
  have hF := HF.out
  have hX := HX.out
  have hI := HI.out
  have hE := HE.out
  clear HF HX HI HE
  generalize (((w.alloc (.cells #[.int .i64 k, .int .i64 p] 51)).alloc (.cells #[.int .i64 ak, .bool an, .int .i64 ae, .slice aA axs.length ac] 40)).alloc (.cells #[.bool false, .slice none 0 0] 56)) = W at *
  obtain ⟨f0, f1⟩ := hF.facts
  obtain ⟨x0, x1, x2, x3, -⟩ := hX.facts
  go_region_held3 (fun w' => w'.cell? ⟨w.heap.size, 0, none⟩ = some (.int .i64 k) ∧ w'.cell? ⟨w.heap.size, 1, none⟩ = some (.int .i64 p) ∧ w'.cell? ⟨w.heap.size + 1, 0, none⟩ = some (.int .i64 ak) ∧ w'.cell? ⟨w.heap.size + 1, 1, none⟩ = some (.bool an) ∧ w'.cell? ⟨w.heap.size + 1, 2, none⟩ = some (.int .i64 ae) ∧ w'.cell? ⟨w.heap.size + 1, 3, none⟩ = some (.slice aA axs.length ac))
    (first | go_keep | (go_split_ands; refine ⟨?_, ?_, ?_, ?_, ?_, ?_⟩ <;> first | assumption | (refine Ext.cell (w := W) ?_ ?_ <;> assumption)))
    (first
      | (go_at_call 58; (with_reducible refine (c1 _ (ha.ext hE.drew)).mono ?_); rintro e w3 ⟨u, rfl, ⟨v, rfl, ho3⟩, hb3⟩; obtain ⟨A3, c3', rfl, hr3⟩ := ho3.rd; have hE3 : Ext W w3 := (Ext.refl W).drew.tr hb3)
      | (go_at_call 57; (with_reducible refine (c2 A3 c3' _ hr3).mono ?_); rintro e w4 ⟨v, rfl, ho4, hb4⟩; obtain ⟨A4, c4, rfl, hr4⟩ := ho4.rd; have hE4 : Ext W w4 := hE3.tr hb4)
      | (go_at_call 56; (with_reducible refine (c3 A4 c4 _ hr4).mono ?_); rintro e w5 ⟨A5, c5, rfl, ho5, hb5⟩; have hE5 : Ext W w5 := hE4.tr hb5; obtain ⟨q0, q1, qf⟩ := (hI.ext hE5).facts; obtain ⟨m0, m1⟩ := (((hF.ext hE5).far (p := ⟨w.heap.size + 1 + 1, 0, none⟩) (show w.heap.size ≠ w.heap.size + 1 + 1 by omega) (.bool zb)).far (p := ⟨w.heap.size + 1 + 1, 1, none⟩) (show w.heap.size ≠ w.heap.size + 1 + 1 by omega) (.slice A5 Z.length c5)).facts; obtain ⟨n0, n1, n2, n3, -⟩ := (((hX.ext hE5).far (p := ⟨w.heap.size + 1 + 1, 0, none⟩) (show w.heap.size + 1 ≠ w.heap.size + 1 + 1 by omega) (.bool zb)).far (p := ⟨w.heap.size + 1 + 1, 1, none⟩) (show w.heap.size + 1 ≠ w.heap.size + 1 + 1 by omega) (.slice A5 Z.length c5)).facts)
      | fail)
  go_wp2
  have hl4 := (hI.ext hE4).lt
  obtain ⟨r0, r1, rf⟩ := ((hI.ext hE5).put (.bool zb) (.slice A5 Z.length c5)).facts
  refine bodyPost_ret (v := intV zb A5 Z.length c5) (by simp [results, Tryz.results32, go_sem, r0, r1]) rfl ?_
  exact ⟨_, _, rfl, (ho5.puti (g := w.heap.size + 1 + 1) hl4 _ _).low (hE.tr hE4).size, (hE.tr hE5).puti (g := w.heap.size + 1 + 1) (by omega) _ _⟩
theorem boxesAt (w : World) (k p : Int) (a b : Value) : ∀ W, W = (((w.alloc (.cells #[.int .i64 k, .int .i64 p] 51)).alloc (.cells #[a, b] 56)).alloc (.cells #[.int .i64 0, .bool false, .int .i64 0, .slice none 0 0] 40)) →
    Bg W w.heap.size (.int .i64 k) (.int .i64 p) ∧ Bi W (w.heap.size + 1) a b ∧ Br W (w.heap.size + 1 + 1) (.int .i64 0) (.bool false) (.int .i64 0) (.slice none 0 0) ∧ Ext w W := by
  rintro W rfl
  have h1 := (Ext.refl w).al (.cells #[.int .i64 k, .int .i64 p] 51)
  have x2 := Bi.new (w.alloc (.cells #[.int .i64 k, .int .i64 p] 51)) a b
  have x3 := Br.new ((w.alloc (.cells #[.int .i64 k, .int .i64 p] 51)).alloc (.cells #[a, b] 56)) (.int .i64 0) (.bool false) (.int .i64 0) (.slice none 0 0)
  rw [World.size_alloc] at x2
  rw [World.size_alloc, World.size_alloc] at x3
  exact ⟨((Bg.new w _ _).ext ((Ext.refl _).al _)).ext ((Ext.refl _).al _), x2.ext ((Ext.refl _).al _), x3, (h1.al _).al _⟩
theorem can_inf : canon 2 false 0 (val []) = some ⟨2, false, 0, 0⟩ := by
  unfold canon
  rw [if_pos (.inr rfl), if_pos ⟨rfl, rfl⟩]
/-- The index's number in At. -/
theorem renc_inf (k p : Int) (hR : Rgt k p) (w : World) : Calls Tryz.prog 57 #[.agg #[.int .i64 k, .int .i64 p], flV 2 false 0 (.slice none 0 0)] w (Res w (cn (infN k p))) := by
  have h := rencode_c k p hR 2 0 false none 0 [] w (Rd.nil w none 0) (by simp) ⟨2, false, 0, 0⟩ can_inf (fun h => by simp at h)
  rw [if_neg (by simp), Nat.add_zero, enc_inf rfl] at h
  exact h
theorem infN_len {k p : Int} (hR : Rgt k p) : (cn (infN k p)).length ≤ 5 := by
  have h := infN_lt hR
  obtain ⟨k1, k2, k3, k4⟩ := hR
  exact cn_len_two' _ 5 (k.toNat + p.toNat - 1) h (by omega)
set_option maxHeartbeats 4000000 in
set_option maxRecDepth 100000 in
/-- At, beyond the ends. -/
theorem rat21_no (k p : Int) (hR : Rgt k p) (neg : Bool) (A : Option Addr) (c : Nat) (xs : List Nat) (hl : xs.length ≤ 4096) (hm : infN k p < val xs) (w : World) (h : Rd w A c xs) :
    Calls Tryz.prog 33 #[.agg #[.int .i64 k, .int .i64 p], intV neg A xs.length c] w fun z w' => z = .returned (.tuple #[flV 0 false 0 (.slice none 0 0), .bool false]) ∧ Ext w w' := by
  obtain ⟨hF, hX, hZ, hE⟩ := boxesAt w k p (.bool neg) (.slice A xs.length c) _ rfl
  have c1 := fun w => renc_inf k p hR w
  have hil := infN_len hR
  have c2 := fun A4 c4 w h h' => rcmp_c A A4 c c4 xs (cn (infN k p)) w h h' (by omega) (by omega)
  rw [val_cn, cmp3_gt hm] at c2
  clear hm hil hR
  generalize cn (infN k p) = I at *
  have HF := Lib.hid hF
  have HX := Lib.hid hX
  have HZ := Lib.hid hZ
  have HE := Lib.hid hE
  clear hF hX hZ hE
  go_enter Tryz.func33, Tryz.ntmps33
  go_wp2_with fail
  refine (c1 _).mono ?_
  rintro z w3 ⟨v, rfl, ho3, hb3⟩
  obtain ⟨A3, c3, rfl, hr3⟩ := ho3.rd
  have hE3 := HE.out.tr hb3
  obtain ⟨x0, x1, -⟩ := (HX.out.ext hb3).facts
  go_wp2_with fail
  refine (c2 A3 c3 _ (h.ext hE3) hr3).mono ?_
  rintro z w4 ⟨rfl, hb4⟩
  have hZ4 := (HZ.out.ext hb3).ext hb4
  obtain ⟨r0, r1, r2, r3, rf⟩ := hZ4.facts
  go_wp2
  obtain ⟨s0, s1, s2, s3, -⟩ := (hZ4.put (.int .i64 0) (.bool false) (.int .i64 0) (.slice none 0 0)).facts
  refine bodyPost_ret (v := .tuple #[flV 0 false 0 (.slice none 0 0), .bool false]) (by simp [results, Tryz.results33, go_sem, s0, s1, s2, s3]) rfl ?_
  exact ⟨rfl, (hE3.tr hb4).put (g := w.heap.size + 1 + 1) (by omega) _ _ _ _⟩
theorem bl_upto {k p : Int} (hR : Rgt k p) {m : Nat} (h : m ≤ infN k p) : (bl m : Int) ≤ k + p := by
  have h1 := infN_lt hR
  obtain ⟨k1, k2, k3, k4⟩ := hR
  have := (bl_le m (k.toNat + p.toNat - 1)).2 (by omega)
  omega
/-- The float at an index. -/
def atF (k p : Int) (z : Int) : Fl := ⟨(decF k p z.natAbs).kind, decide (z < 0), (decF k p z.natAbs).exp, (decF k p z.natAbs).mag⟩
set_option maxHeartbeats 8000000 in
set_option maxRecDepth 100000 in
theorem rat21_yes (k p : Int) (hR : Rgt k p) (neg : Bool) (A : Option Addr) (c : Nat) (xs : List Nat) (hl : xs.length ≤ 4096) (hm : val xs ≤ infN k p) (w : World) (h : Rd w A c xs) :
    Calls Tryz.prog 33 #[.agg #[.int .i64 k, .int .i64 p], intV neg A xs.length c] w (DecR w true (atF k p (sg neg (val xs)))) := by
  obtain ⟨hF, hX, hZ, hE⟩ := boxesAt w k p (.bool neg) (.slice A xs.length c) _ rfl
  have c1 := fun w => renc_inf k p hR w
  have hil := infN_len hR
  have c2 := fun A4 c4 w h h' => rcmp_c A A4 c c4 xs (cn (infN k p)) w h h' (by omega) (by omega)
  rw [val_cn] at c2
  have hd : decide (0 < cmp3 (val xs) (infN k p)) = false := by
    rcases Nat.lt_or_eq_of_le hm with h | h
    · rw [cmp3_lt h]; rfl
    · rw [cmp3_eq h]; rfl
  have c3 := fun w h => rdecode_c k p hR A c xs w h hl
  have hbl := bl_upto hR hm
  simp only [if_pos hbl] at c3
  rw [show decide ((bl (val xs) : Int) ≤ k + p) = true by simpa using hbl] at c3
  have c4 := fun w h => rsign11_c neg A c xs w h (by omega)
  have hs : decide (sgn (sg neg (val xs)) < 0) = decide (sg neg (val xs) < 0) := by
    have : sgn (sg neg (val xs)) < 0 ↔ sg neg (val xs) < 0 := by unfold sgn; (repeat' split) <;> omega
    simp only [this]
  unfold DecR FlR at c3 ⊢
  unfold atF
  simp only
  rw [sg_abs]
  clear hm hil hR hbl hl
  generalize decF k p (val xs) = D at *
  generalize decide (sg neg (val xs) < 0) = nb at *
  generalize sgn (sg neg (val xs)) = S at *
  generalize cmp3 (val xs) (infN k p) = C at *
  generalize cn (infN k p) = I at *
  have HF := Lib.hid hF
  have HX := Lib.hid hX
  have HZ := Lib.hid hZ
  have HE := Lib.hid hE
  clear hF hX hZ hE
  go_enter Tryz.func33, Tryz.ntmps33
  go_wp2_with fail
  refine (c1 _).mono ?_
  rintro z w3 ⟨v, rfl, ho3, hb3⟩
  obtain ⟨A3, c3', rfl, hr3⟩ := ho3.rd
  have hE3 := HE.out.tr hb3
  have hX3 := HX.out.ext hb3
  have hF3 := HF.out.ext hb3
  have hZ3 := HZ.out.ext hb3
  obtain ⟨x0, x1, -⟩ := hX3.facts
  go_wp2_with fail
  refine (c2 A3 c3' _ (h.ext hE3) hr3).mono ?_
  rintro z w4 ⟨rfl, hb4⟩
  have hE4 := hE3.tr hb4
  have hX4 := hX3.ext hb4
  have hF4 := hF3.ext hb4
  have hZ4 := hZ3.ext hb4
  clear x0 x1
  obtain ⟨x0, x1, -⟩ := hX4.facts
  obtain ⟨f0, f1⟩ := hF4.facts
  have hlz := hZ4.lt
  go_wp2_with fail
  refine (c3 _ (h.ext hE4)).mono ?_
  rintro z w5 ⟨u, rfl, ⟨v, rfl, ho5⟩, hb5⟩
  obtain ⟨A5, c5, rfl, hr5⟩ := ho5.rd
  have hE5 := hE4.tr hb5
  have hX5 := hX4.ext hb5
  have hZ5 := hZ4.ext hb5
  have hN := Br.new w5 (.int .i64 D.kind) (.bool D.neg) (.int .i64 D.exp) (.slice A5 (cn D.mag).length c5)
  have hA := (Ext.refl w5).al (.cells #[.int .i64 D.kind, .bool D.neg, .int .i64 D.exp, .slice A5 (cn D.mag).length c5] 40)
  have hlx5 := hX5.lt
  have hlz5 := hZ5.lt
  clear x0 x1 f0 f1
  obtain ⟨x0, x1, -⟩ := hX5.facts
  go_wp2_with fail
  refine (c4 _ (h.ext (hE5.tr hA))).mono ?_
  rintro z w6 ⟨rfl, hb6⟩
  have hN6 := hN.ext hb6
  have hN7 := hN6.s1 (.bool nb)
  have hZ6 := (hZ5.ext hA).ext hb6
  have hZ7 := hZ6.far (p := ⟨w5.heap.size, 1, none⟩) (show w.heap.size + 1 + 1 ≠ w5.heap.size by omega) (.bool nb)
  have hA7 : Ext w5 (w6.setCell ⟨w5.heap.size, 1, none⟩ (.bool nb)) := (hA.tr hb6).set (Nat.le_refl _) 1 _
  have ho7 := (ho5.low (b := w.heap.size + 1 + 1 + 1) hlz).ext hA7
  have hE7 := hE5.tr hA7
  obtain ⟨n0, n1, n2, n3, nf⟩ := hN6.facts
  obtain ⟨n0', n1', n2', n3', nf'⟩ := hN7.facts
  obtain ⟨r0, r1, r2, r3, rf⟩ := hZ7.facts
  have HZ8 := Lib.hid (hZ7.put (.int .i64 D.kind) (.bool nb) (.int .i64 D.exp) (.slice A5 (cn D.mag).length c5))
  have HO := Lib.hid ((ho7.putBelow (g := w.heap.size + 1 + 1) (by omega) (.int .i64 D.kind) (.bool nb) (.int .i64 D.exp) (.slice A5 (cn D.mag).length c5)).low (b := w.heap.size) (by omega))
  have HE8 := Lib.hid (hE7.put (g := w.heap.size + 1 + 1) (by omega) (.int .i64 D.kind) (.bool nb) (.int .i64 D.exp) (.slice A5 (cn D.mag).length c5))
  have hne : ¬ (w5.heap.size = w.heap.size + 1 + 1) := by omega
  clear x0 x1 hN hN6 hN7 hZ6 hZ7 hA7 ho7 hE7 hZ5 hZ4 hZ3
  go_wp2
  obtain ⟨s0, s1, s2, s3, -⟩ := HZ8.out.facts
  refine bodyPost_ret (v := .tuple #[flV D.kind nb D.exp (.slice A5 (cn D.mag).length c5), .bool true]) (by simp [results, Tryz.results33, go_sem, s0, s1, s2, s3]) rfl ?_
  exact ⟨_, rfl, ⟨_, rfl, HO.out⟩, HE8.out⟩
end Go.Proofs.YtcdgkhmiolhfdaaGreatDoor
namespace Go.Proofs.YtcdgkhmiolhfdaaGreatDoor
open Go.RowKit

theorem Bx.sn1 {w : World} {g : Nat} {a b c d : Value} (x : Bx w g a b c d) (v : Value) : Bx (w.setCell ⟨g, 1, none⟩ v) g a v c d := by
  have h := x.h
  constructor
  simp [World.setCell, Array.getElem?_modify, h]
theorem inf_of {k p : Int} (hR : Rgt k p) (n : Bool) : FOf k p ⟨2, n, 0, 0⟩ :=
  ⟨⟨by simp, by simp, by simp, fun h => by simp at h, fun _ => ⟨rfl, rfl⟩, fun h => by simp at h⟩, fun h => by simp at h, by show (cn 0).length ≤ 4096; rw [show cn 0 = [] from digs_zero B]; simp⟩
theorem dec_zero_iff {k p : Int} (hR : Rgt k p) {m : Nat} (h : m ≤ infN k p) : (decF k p m).kind = 0 ↔ m = 0 := by
  obtain ⟨d1, d2, d3⟩ := dec_upto hR h false
  constructor
  · intro h0
    have he := enc_zero (k := k) (p := p) (f := ⟨(decF k p m).kind, false, (decF k p m).exp, (decF k p m).mag⟩) h0
    omega
  · intro h0
    by_cases hk : (decF k p m).kind = 0
    · exact hk
    · have := encM_pos hR d2 hk
      omega
/-- At, of the index of a float: the float, but for the sign of a Zero. -/
theorem atF_idx {k p : Int} {f : Fl} (hR : Rgt k p) (hf : FOf k p f) (h3 : f.kind ≠ 3) : atF k p (idx k p f) = ⟨f.kind, decide (idx k p f < 0), f.exp, f.mag⟩ := by
  unfold atF
  rw [show (idx k p f).natAbs = encM k p f by unfold idx; exact sg_abs _ _, dec_of_enc hR hf h3]
theorem idx_neg {k p : Int} {f : Fl} (hR : Rgt k p) (hf : FOf k p f) (h0 : f.kind ≠ 0) : decide (idx k p f < 0) = f.neg := by
  have := encM_pos hR hf h0
  unfold idx sg
  cases f.neg with
  | true => rw [if_pos rfl]; exact decide_eq_true (by omega)
  | false => rw [if_neg (by simp)]; exact decide_eq_false (by omega)
theorem enc_le_inf {k p : Int} {f : Fl} (hR : Rgt k p) (hf : FOf k p f) (h3 : f.kind ≠ 3) : encM k p f ≤ infN k p := by
  have hk := hf.ok.kind
  rcases (show f.kind = 0 ∨ f.kind = 1 ∨ f.kind = 2 by omega) with h | h | h
  · rw [enc_zero h]; omega
  · exact Nat.le_of_lt (enc_fin hR hf h)
  · exact Nat.le_of_eq (enc_inf h)
/-- A step to a side: the index and the float, but for the sign of a Zero. -/
theorem next_idx {k p : Int} {f : Fl} {up : Bool} (hR : Rgt k p) (hf : FOf k p f) (h1 : ¬ (f.kind = 3 ∨ (f.kind = 2 ∧ f.neg ≠ up))) :
    (idx k p f + (if up = true then 1 else -1)).natAbs ≤ infN k p ∧
    nextF k p f up = (if (atF k p (idx k p f + (if up = true then 1 else -1))).kind = 0 then ⟨0, f.neg, 0, 0⟩ else atF k p (idx k p f + (if up = true then 1 else -1))) ∧ (nextF k p f up).kind ≠ 3 ∧ idx k p (nextF k p f up) = idx k p f + (if up = true then 1 else -1) := by
  have hk := hf.ok.kind
  by_cases h0 : f.kind = 0
  · have hi : idx k p f = 0 := by unfold idx; rw [enc_zero h0]; unfold sg; simp
    have hL := least_of hR (!up)
    have hE := enc_least hR (!up)
    have hle : (1 : Nat) ≤ infN k p := by
      have := enc_fin hR hL rfl
      omega
    have hnx : nextF k p f up = ⟨1, !up, ti k p, 1⟩ := by unfold nextF; rw [if_neg h1, if_pos h0]
    have hz : (0 + (if up = true then 1 else -1) : Int).natAbs = 1 := by cases up <;> rfl
    have hd := dec_of_enc hR hL (by simp)
    rw [hE] at hd
    have hat : atF k p (0 + (if up = true then 1 else -1)) = ⟨1, !up, ti k p, 1⟩ := by
      unfold atF
      rw [hz, hd]
      cases up <;> rfl
    rw [hi, hnx, hat, hz]
    refine ⟨hle, by rw [if_neg (by simp)], by simp, ?_⟩
    unfold idx
    rw [hE]
    cases up <;> rfl
  · obtain ⟨s1, s2, s3, s4⟩ := step_parts hR hf h1 h0
    have hp := encM_pos hR hf h0
    have hz : (idx k p f + (if up = true then 1 else -1)).natAbs = nextN k p f up ∧ idx k p f + (if up = true then 1 else -1) = sg f.neg (nextN k p f up) := by
      unfold idx nextN sg
      cases f.neg <;> cases up <;> simp <;> omega
    have hle : nextN k p f up ≤ infN k p := by
      have := enc_le_inf hR s1 s2
      rw [s4] at this
      exact this
    have hat : atF k p (idx k p f + (if up = true then 1 else -1)) = ⟨(decF k p (nextN k p f up)).kind, decide (sg f.neg (nextN k p f up) < 0), (decF k p (nextN k p f up)).exp, (decF k p (nextN k p f up)).mag⟩ := by
      unfold atF
      rw [hz.1, ← hz.2]
    have hnx := nextF_other (k := k) (p := p) h1 h0
    refine ⟨by rw [hz.1]; exact hle, ?_, s2, ?_⟩
    · rw [hat, hnx]
      simp only
      by_cases hk0 : (decF k p (nextN k p f up)).kind = 0
      · rw [if_pos hk0]
        have hzz := (decF_ok (n := nextN k p f up) hR).zero (by omega)
        show (⟨(decF k p (nextN k p f up)).kind, f.neg, (decF k p (nextN k p f up)).exp, (decF k p (nextN k p f up)).mag⟩ : Fl) = _
        rw [hk0, hzz.1, hzz.2]
      · rw [if_neg hk0]
        have hm : nextN k p f up ≠ 0 := fun h => hk0 ((dec_zero_iff hR hle).2 h)
        have : decide (sg f.neg (nextN k p f up) < 0) = f.neg := by
          unfold sg
          cases f.neg with
          | true => rw [if_pos rfl]; exact decide_eq_true (by omega)
          | false => rw [if_neg (by simp)]; exact decide_eq_false (by omega)
        rw [this]
    · rw [hz.2]
      unfold idx
      rw [s3, s4]
      rfl
theorem boxesOA (w : World) (k p : Int) (a b : Value) : ∀ W, W = (((w.alloc (.cells #[.int .i64 k, .int .i64 p] 23)).alloc (.cells #[a, b] 56)).alloc (.cells #[.int .i64 0, .bool false, .int .i64 0, .slice none 0 0] 28)) →
    Bf W w.heap.size (.int .i64 k) (.int .i64 p) ∧ Bi W (w.heap.size + 1) a b ∧ Bx W (w.heap.size + 1 + 1) (.int .i64 0) (.bool false) (.int .i64 0) (.slice none 0 0) ∧ Ext w W := by
  rintro W rfl
  have h1 := (Ext.refl w).al (.cells #[.int .i64 k, .int .i64 p] 23)
  have x2 := Bi.new (w.alloc (.cells #[.int .i64 k, .int .i64 p] 23)) a b
  have x3 := Bx.new ((w.alloc (.cells #[.int .i64 k, .int .i64 p] 23)).alloc (.cells #[a, b] 56)) (.int .i64 0) (.bool false) (.int .i64 0) (.slice none 0 0)
  rw [World.size_alloc] at x2
  rw [World.size_alloc, World.size_alloc] at x3
  exact ⟨((Bf.new w _ _).ext ((Ext.refl _).al _)).ext ((Ext.refl _).al _), x2.ext ((Ext.refl _).al _), x3, (h1.al _).al _⟩
theorem index_inf (k p : Int) (hR : Rgt k p) (w : World) (hT : Tab w) : Calls Tryz.prog 50 #[.agg #[.int .i64 k, .int .i64 p], flV 2 false 0 (.slice none 0 0)] w fun e w' => ∃ A c, e = .returned (intV false A (cn (infN k p)).length c) ∧ Rd w' A c (cn (infN k p)) ∧ Ext w w' := by
  have h := index_c k p hR ⟨2, false, 0, 0⟩ (inf_of hR false) none 0 w hT (by rw [show cn (⟨2, false, 0, 0⟩ : Fl).mag = [] from digs_zero B]; exact Rd.nil w none 0)
  rw [show (cn (⟨2, false, 0, 0⟩ : Fl).mag) = [] from digs_zero B, enc_inf rfl, show sg (⟨2, false, 0, 0⟩ : Fl).neg (infN k p) = (infN k p : Int) from rfl] at h
  refine h.mono ?_
  rintro e w' ⟨A, c, rfl, ho, hb⟩
  rw [show decide ((infN k p : Int) < 0) = false from decide_eq_false (by omega)]
  rw [Int.natAbs_natCast] at ho ⊢
  exact ⟨A, c, rfl, ho.rdAt.2, hb⟩
set_option maxHeartbeats 4000000 in
set_option maxRecDepth 100000 in
theorem At_bad (k p : Int) (hR : ¬ Rgt k p) (neg : Bool) (A : Option Addr) (c : Nat) (xs : List Nat) (hl : xs.length ≤ 4096) (w : World) (h : Rd w A c xs) :
    Calls Tryz.prog 28 #[.agg #[.int .i64 k, .int .i64 p], intV neg A xs.length c] w (FErr w 150 ⟨0, false, 0, 0⟩) := by
  obtain ⟨hF, hX, hZ, hE⟩ := boxesOA w k p (.bool neg) (.slice A xs.length c) _ rfl
  have c1 := fun w => check_c k p w
  rw [fmtE_no hR] at c1
  have hd : decide ((4096 : Int) < (xs.length : Int)) = false := decide_eq_false (by omega)
  clear hR hl
  have HF := Lib.hid hF
  have HX := Lib.hid hX
  have HZ := Lib.hid hZ
  have HE := Lib.hid hE
  clear hF hX hZ hE
  go_enter Tryz.func28, Tryz.ntmps28
  go_wp2_with fail
  refine (c1 _).mono ?_
  rintro z w3 ⟨rfl, hb3⟩
  have hZ3 := HZ.out.ext hb3
  obtain ⟨r0, r1, r2, r3, rf⟩ := hZ3.facts
  go_wp2
  obtain ⟨s0, s1, s2, s3, -⟩ := (hZ3.put (.int .i64 0) (.bool false) (.int .i64 0) (.slice none 0 0)).facts
  refine bodyPost_ret (v := .tuple #[flV 0 false 0 (.slice none 0 0), .int .i64 150]) (by simp [results, Tryz.results28, go_sem, s0, s1, s2, s3]) rfl ?_
  exact FErr.bad ((HE.out.tr hb3).put (g := w.heap.size + 1 + 1) (by omega) _ _ _ _)
set_option maxHeartbeats 4000000 in
set_option maxRecDepth 100000 in
theorem At_no (k p : Int) (hR : Rgt k p) (neg : Bool) (A : Option Addr) (c : Nat) (xs : List Nat) (hl : xs.length ≤ 4096) (hm : infN k p < val xs) (w : World) (hT : Tab w) (h : Rd w A c xs) :
    Calls Tryz.prog 28 #[.agg #[.int .i64 k, .int .i64 p], intV neg A xs.length c] w (FErr w 4 ⟨0, false, 0, 0⟩) := by
  obtain ⟨hF, hX, hZ, hE⟩ := boxesOA w k p (.bool neg) (.slice A xs.length c) _ rfl
  have c1 := fun w => check_c k p w
  rw [fmtE_yes hR] at c1
  have c2 := fun w hT => index_inf k p hR w hT
  have c3 := fun A4 c4 w h h' => cmp_c A A4 c c4 xs (cn (infN k p)) w h h'
  rw [val_cn, cmp3_gt hm] at c3
  have hd : decide ((4096 : Int) < (xs.length : Int)) = false := decide_eq_false (by omega)
  have hfd : ∀ (b : Bool) (A : Option Addr) (m c : Nat) (w : World), (Instr.field 56 (.agg #[.bool b, .slice A m c]) 1).run Tryz.prog w = .ok (.slice A m c) w := fun b A m c w => by kernel_rfl
  clear hR hl hm
  generalize cn (infN k p) = I at *
  have HF := Lib.hid hF
  have HX := Lib.hid hX
  have HZ := Lib.hid hZ
  have HE := Lib.hid hE
  clear hF hX hZ hE
  go_enter Tryz.func28, Tryz.ntmps28
  go_wp2_with fail
  refine (c1 _).mono ?_
  rintro z w3 ⟨rfl, hb3⟩
  have hE3 := HE.out.tr hb3
  obtain ⟨f0, f1⟩ := (HF.out.ext hb3).facts
  go_wp2_with fail
  refine (c2 _ (hT.ext hE3)).mono ?_
  rintro z w4 ⟨A4, c4, rfl, hr4, hb4⟩
  have hE4 := hE3.tr hb4
  clear f0 f1
  obtain ⟨x0, x1, -⟩ := ((HX.out.ext hb3).ext hb4).facts
  go_wp2_with fail
  refine (c3 A4 c4 _ (h.ext hE4) hr4).mono ?_
  rintro z w5 ⟨rfl, n, rfl⟩
  have hb5 := (Ext.refl w4).drewN n
  have hZ5 := ((HZ.out.ext hb3).ext hb4).ext hb5
  obtain ⟨r0, r1, r2, r3, rf⟩ := hZ5.facts
  clear x0 x1
  go_wp2
  obtain ⟨s0, s1, s2, s3, -⟩ := (hZ5.put (.int .i64 0) (.bool false) (.int .i64 0) (.slice none 0 0)).facts
  refine bodyPost_ret (v := .tuple #[flV 0 false 0 (.slice none 0 0), .int .i64 4]) (by simp [results, Tryz.results28, go_sem, s0, s1, s2, s3]) rfl ?_
  exact FErr.bad ((hE4.tr hb5).put (g := w.heap.size + 1 + 1) (by omega) _ _ _ _)
set_option maxHeartbeats 8000000 in
set_option maxRecDepth 100000 in
theorem At_yes (k p : Int) (hR : Rgt k p) (neg : Bool) (A : Option Addr) (c : Nat) (xs : List Nat) (hl : xs.length ≤ 4096) (hm : val xs ≤ infN k p) (w : World) (hT : Tab w) (h : Rd w A c xs) :
    Calls Tryz.prog 28 #[.agg #[.int .i64 k, .int .i64 p], intV neg A xs.length c] w (FErr w 0 (atF k p (sg neg (val xs)))) := by
  obtain ⟨hF, hX, hZ, hE⟩ := boxesOA w k p (.bool neg) (.slice A xs.length c) _ rfl
  have c1 := fun w => check_c k p w
  rw [fmtE_yes hR] at c1
  have c2 := fun w hT => index_inf k p hR w hT
  have c3 := fun A4 c4 w h h' => cmp_c A A4 c c4 xs (cn (infN k p)) w h h'
  rw [val_cn] at c3
  have hdc : decide (0 < cmp3 (val xs) (infN k p)) = false := by
    rcases Nat.lt_or_eq_of_le hm with h | h
    · rw [cmp3_lt h]; rfl
    · rw [cmp3_eq h]; rfl
  have c4 := fun w hT h => decode_c k p A c xs w hT h
  have hde : decE k p xs = 0 := by
    unfold decE
    have := bl_upto hR hm
    rw [if_neg (by omega), if_pos hR, if_neg (by omega)]
  rw [hde, if_pos rfl] at c4
  have hng : (neg = true ∧ ((decF k p (val xs)).kind != 0) = decide (sg neg (val xs) < 0)) ∨ (neg = false ∧ decide (sg neg (val xs) < 0) = false) := by
    cases neg with
    | false => exact .inr ⟨rfl, decide_eq_false (by unfold sg; rw [if_neg (by simp)]; omega)⟩
    | true =>
      refine .inl ⟨rfl, ?_⟩
      have h0 := dec_zero_iff hR hm
      unfold sg
      rw [if_pos rfl]
      by_cases hk : (decF k p (val xs)).kind = 0
      · have h1 := h0.1 hk
        rw [show ((decF k p (val xs)).kind != 0) = false by simpa using hk]
        exact (decide_eq_false (by omega)).symm
      · have h1 : val xs ≠ 0 := fun h => hk (h0.2 h)
        rw [show ((decF k p (val xs)).kind != 0) = true by simpa using hk]
        exact (decide_eq_true (by omega)).symm
  have hd : decide ((4096 : Int) < (xs.length : Int)) = false := decide_eq_false (by omega)
  have hfd : ∀ (b : Bool) (A : Option Addr) (m c : Nat) (w : World), (Instr.field 56 (.agg #[.bool b, .slice A m c]) 1).run Tryz.prog w = .ok (.slice A m c) w := fun b A m c w => by kernel_rfl
  unfold FErr FlR at c4 ⊢
  unfold atF
  simp only
  rw [sg_abs]
  clear hR hl hm hde
  generalize decF k p (val xs) = D at *
  generalize decide (sg neg (val xs) < 0) = nb at *
  generalize cmp3 (val xs) (infN k p) = C at *
  generalize cn (infN k p) = I at *
  have HF := Lib.hid hF
  have HX := Lib.hid hX
  have HZ := Lib.hid hZ
  have HE := Lib.hid hE
  have HN := Lib.hid hng
  clear hF hX hZ hE hng
  go_enter Tryz.func28, Tryz.ntmps28
  go_wp2_with fail
  refine (c1 _).mono ?_
  rintro z w3 ⟨rfl, hb3⟩
  have hE3 := HE.out.tr hb3
  obtain ⟨f0, f1⟩ := (HF.out.ext hb3).facts
  go_wp2_with fail
  refine (c2 _ (hT.ext hE3)).mono ?_
  rintro z w4 ⟨A4, c4', rfl, hr4, hb4⟩
  have hE4 := hE3.tr hb4
  clear f0 f1
  obtain ⟨x0, x1, -⟩ := ((HX.out.ext hb3).ext hb4).facts
  go_wp2_with fail
  refine (c3 A4 c4' _ (h.ext hE4) hr4).mono ?_
  rintro z w5 ⟨rfl, n, rfl⟩
  have hb5 := (Ext.refl w4).drewN n
  have hE5 := hE4.tr hb5
  have hX5 := ((HX.out.ext hb3).ext hb4).ext hb5
  have hF5 := ((HF.out.ext hb3).ext hb4).ext hb5
  have hZ5 := ((HZ.out.ext hb3).ext hb4).ext hb5
  clear x0 x1
  generalize w4.drewN n = V at *
  obtain ⟨x0, x1, -⟩ := hX5.facts
  obtain ⟨f0, f1⟩ := hF5.facts
  have hlz := hZ5.lt
  go_wp2_with fail
  refine (c4 _ (hT.ext hE5) (h.ext hE5)).mono ?_
  rintro z w6 ⟨u, rfl, ⟨v, rfl, ho6⟩, hb6⟩
  obtain ⟨A6, c6, rfl, hr6⟩ := ho6.rd
  have hE6 := hE5.tr hb6
  have hX6 := hX5.ext hb6
  have hZ6 := hZ5.ext hb6
  have hN := Bx.new w6 (.int .i64 D.kind) (.bool D.neg) (.int .i64 D.exp) (.slice A6 (cn D.mag).length c6)
  have hA := (Ext.refl w6).al (.cells #[.int .i64 D.kind, .bool D.neg, .int .i64 D.exp, .slice A6 (cn D.mag).length c6] 28)
  have hlx6 := hX6.lt
  have hlz6 := hZ6.lt
  clear x0 x1 f0 f1
  obtain ⟨x0, x1, -⟩ := hX6.facts
  obtain ⟨x0', x1', -⟩ := (hX6.ext hA).facts
  obtain ⟨r0, r1, r2, r3, rf⟩ := hZ6.facts
  have HZ8 := fun b => Lib.hid ((hZ6.put (.int .i64 D.kind) (.bool b) (.int .i64 D.exp) (.slice A6 (cn D.mag).length c6)).ext ((Ext.refl _).al (.cells #[.int .i64 D.kind, .bool b, .int .i64 D.exp, .slice A6 (cn D.mag).length c6] 28)))
  have HO := fun b => Lib.hid ((((ho6.low (b := w.heap.size + 1 + 1 + 1) hlz).putBelow (g := w.heap.size + 1 + 1) (by omega) (.int .i64 D.kind) (.bool b) (.int .i64 D.exp) (.slice A6 (cn D.mag).length c6)).low (b := w.heap.size) (by omega)).ext ((Ext.refl _).al (.cells #[.int .i64 D.kind, .bool b, .int .i64 D.exp, .slice A6 (cn D.mag).length c6] 28)))
  have HE8 := fun b => Lib.hid ((hE6.put (g := w.heap.size + 1 + 1) (by omega) (.int .i64 D.kind) (.bool b) (.int .i64 D.exp) (.slice A6 (cn D.mag).length c6)).al (.cells #[.int .i64 D.kind, .bool b, .int .i64 D.exp, .slice A6 (cn D.mag).length c6] 28))
  have hne : ¬ (w6.heap.size = w.heap.size + 1 + 1) := by omega
  have hne1 : ¬ (w6.heap.size = w.heap.size + 1) := by omega
  clear hN hA hZ6 hZ5 hX6 hX5
  rcases HN.out with ⟨rfl, e2⟩ | ⟨rfl, rfl⟩
  · go_wp2
    obtain ⟨s0, s1, s2, s3, -⟩ := (HZ8 nb).out.facts
    refine bodyPost_ret (v := .tuple #[flV D.kind nb D.exp (.slice A6 (cn D.mag).length c6), .int .i64 0]) (by simp [results, Tryz.results28, go_sem, s0, s1, s2, s3]) rfl ?_
    exact ⟨_, rfl, ⟨_, rfl, (HO nb).out⟩, (HE8 nb).out⟩
  · go_wp2
    obtain ⟨s0, s1, s2, s3, -⟩ := (HZ8 false).out.facts
    refine bodyPost_ret (v := .tuple #[flV D.kind false D.exp (.slice A6 (cn D.mag).length c6), .int .i64 0]) (by simp [results, Tryz.results28, go_sem, s0, s1, s2, s3]) rfl ?_
    exact ⟨_, rfl, ⟨_, rfl, (HO false).out⟩, (HE8 false).out⟩
end Go.Proofs.YtcdgkhmiolhfdaaGreatDoor
