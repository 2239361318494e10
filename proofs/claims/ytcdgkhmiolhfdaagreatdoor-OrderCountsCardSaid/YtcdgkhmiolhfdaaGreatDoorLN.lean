/- OrderCounts: the walk. -/
import Derived.Test.YtcdgkhmiolhfdaaGreatDoorRG
import Derived.Test.YtcdgkhmiolhfdaaGreatDoorTG

set_option linter.unusedVariables false
set_option linter.unusedSimpArgs false
namespace Go.Proofs.YtcdgkhmiolhfdaaGreatDoor
open Go.RowKit
attribute [local go_sem ↓] Go.wp_at_zero Go.wp_at_succ

theorem boxesV4 (w : World) (k p : Int) (a b d : FA) : ∀ W, W = ((((w.alloc (.cells #[.int .i64 k, .int .i64 p] 23)).alloc (.cells #[.int .i64 a.k, .bool a.neg, .int .i64 a.e, .slice a.A a.xs.length a.c] 28)).alloc (.cells #[.int .i64 b.k, .bool b.neg, .int .i64 b.e, .slice b.A b.xs.length b.c] 28)).alloc (.cells #[.int .i64 d.k, .bool d.neg, .int .i64 d.e, .slice d.A d.xs.length d.c] 28)) →
    Bf W w.heap.size (.int .i64 k) (.int .i64 p) ∧ Bx W (w.heap.size + 1) (.int .i64 a.k) (.bool a.neg) (.int .i64 a.e) (.slice a.A a.xs.length a.c) ∧ Bx W (w.heap.size + 1 + 1) (.int .i64 b.k) (.bool b.neg) (.int .i64 b.e) (.slice b.A b.xs.length b.c) ∧ Bx W (w.heap.size + 1 + 1 + 1) (.int .i64 d.k) (.bool d.neg) (.int .i64 d.e) (.slice d.A d.xs.length d.c) ∧ Ext w W ∧ W.heap.size = w.heap.size + 1 + 1 + 1 + 1 := by
  rintro W rfl
  obtain ⟨h1, h2, h3, h4⟩ := boxesT w k p a b _ rfl
  have x4 := Bx.new (((w.alloc (.cells #[.int .i64 k, .int .i64 p] 23)).alloc (.cells #[.int .i64 a.k, .bool a.neg, .int .i64 a.e, .slice a.A a.xs.length a.c] 28)).alloc (.cells #[.int .i64 b.k, .bool b.neg, .int .i64 b.e, .slice b.A b.xs.length b.c] 28)) (.int .i64 d.k) (.bool d.neg) (.int .i64 d.e) (.slice d.A d.xs.length d.c)
  rw [World.size_alloc, World.size_alloc, World.size_alloc] at x4
  exact ⟨h1.ext ((Ext.refl _).al _), h2.ext ((Ext.refl _).al _), h3.ext ((Ext.refl _).al _), x4, h4.al _, by simp only [World.size_alloc]⟩
theorem at_of' {k p : Int} {z : Int} (hR : Rgt k p) (h : z.natAbs ≤ infN k p) : FOf k p (atF k p z) := (dec_upto hR h (decide (z < 0))).2.1
theorem nul_of (k p : Int) : FOf k p ⟨0, false, 0, 0⟩ :=
  ⟨⟨by simp, by simp, by simp, fun h => by simp at h, fun _ => ⟨rfl, rfl⟩, fun h => by simp at h⟩, fun h => by simp at h, by show (cn 0).length ≤ 4096; rw [show cn 0 = [] from digs_zero B]; simp⟩
/-- Steps between canonical floats that are not NaN, wherever they lie. -/
theorem Steps_own {k p : Int} (hR : Rgt k p) (a b : FA) {f g : Fl} (hac : a.can = some f) (hbc : b.can = some g) (la : a.xs.length ≤ 4096) (lb : b.xs.length ≤ 4096) (hf : FOf k p f) (hg : FOf k p g) (hf3 : f.kind ≠ 3) (hg3 : g.kind ≠ 3) (w : World) (hT : Tab w) (ha : Rd w a.A a.c a.xs) (hb : Rd w b.A b.c b.xs) :
    Calls Tryz.prog 27 #[.agg #[.int .i64 k, .int .i64 p], a.v, b.v] w (IntSE w (idx k p g - idx k p f)) :=
  Steps_good k p hR a b f g (FlsS_two_ok hR la hac hf.inn lb hbc hg.inn) hf hg hf3 hg3 w hT ha hb
set_option maxHeartbeats 8000000 in
set_option maxRecDepth 100000 in
theorem orderCounts_long (k p : Int) (a b d : FA) (w : World) (hT : Tab w) (ha : Rd w a.A a.c a.xs) (hb : Rd w b.A b.c b.xs) (hd : Rd w d.A d.c d.xs) (hs : ¬ [a, b, d].all (fun a => decide (a.xs.length ≤ 40)) = true) :
    Calls Tryz.prog 7 #[.agg #[.int .i64 k, .int .i64 p], a.v, b.v, d.v] w fun e w' => e = .returned (.bool true) ∧ Ext w w' := by
  obtain ⟨hF, hX, hY, hZ, hE, hsz⟩ := boxesV4 w k p a b d _ rfl
  have HF := Lib.hid hF
  have HX := Lib.hid hX
  have HY := Lib.hid hY
  have HZ := Lib.hid hZ
  have HE := Lib.hid hE
  have HS := Lib.hid hsz
  clear hF hX hY hZ hE hsz
  have hsh := fun A c w h => short_c A c [a, b, d] w h
  rw [Bool.eq_false_iff.2 hs] at hsh
  clear hs
  obtain ⟨ak, an, ae, aA, ac, as1⟩ := a
  obtain ⟨bk, bn, be, bA, bc, bs1⟩ := b
  obtain ⟨dk, dn, de, dA, dc, ds1⟩ := d
  simp only at HF HX HY HZ HE HS ha hb hd
  go_enter Tryz.func7, Tryz.ntmps7
  go_wp2_with fail
  have hF := HF.out
  have hX := HX.out
  have hY := HY.out
  have hZ := HZ.out
  have hE := HE.out
  have hsz := HS.out
  clear HF HX HY HZ HE HS
  generalize ((((w.alloc (.cells #[.int .i64 k, .int .i64 p] 23)).alloc (.cells #[.int .i64 ak, .bool an, .int .i64 ae, .slice aA as1.length ac] 28)).alloc (.cells #[.int .i64 bk, .bool bn, .int .i64 be, .slice bA bs1.length bc] 28)).alloc (.cells #[.int .i64 dk, .bool dn, .int .i64 de, .slice dA ds1.length dc] 28)) = W at *
  have hL := FRd.three W ⟨ak, an, ae, aA, ac, as1⟩ ⟨bk, bn, be, bA, bc, bs1⟩ ⟨dk, dn, de, dA, dc, ds1⟩ (ha.ext hE) (hb.ext hE) (hd.ext hE)
  have hA := (Ext.refl W).al (.cells #[.int .i64 ak, .bool an, .int .i64 ae, .slice aA as1.length ac, .int .i64 bk, .bool bn, .int .i64 be, .slice bA bs1.length bc, .int .i64 dk, .bool dn, .int .i64 de, .slice dA ds1.length dc] 28)
  have hsz1 := World.size_alloc W (.cells #[.int .i64 ak, .bool an, .int .i64 ae, .slice aA as1.length ac, .int .i64 bk, .bool bn, .int .i64 be, .slice bA bs1.length bc, .int .i64 dk, .bool dn, .int .i64 de, .slice dA ds1.length dc] 28)
  rw [hsz] at hL hsz1
  clear hsz
  refine (hsh _ _ _ hL).mono ?_
  rintro z w1 ⟨rfl, rfl⟩
  have hF1 := hF.ext hA
  have hX1 := hX.ext hA
  have hY1 := hY.ext hA
  have hZ1 := hZ.ext hA
  have hE1 := hE.tr hA
  clear hF hX hY hZ hE hA hL
  generalize W.alloc (.cells #[.int .i64 ak, .bool an, .int .i64 ae, .slice aA as1.length ac, .int .i64 bk, .bool bn, .int .i64 be, .slice bA bs1.length bc, .int .i64 dk, .bool dn, .int .i64 de, .slice dA ds1.length dc] 28) = V at *
  go_wp2_with fail
  refine (awake21_c _ (hT.ext hE1)).mono ?_
  rintro z w99 ⟨rfl, hb99⟩
  go_wp2
  go_ret
  exact ⟨rfl, hE1.tr hb99⟩
set_option maxHeartbeats 8000000 in
set_option maxRecDepth 100000 in
theorem orderCounts_bad (k p : Int) (a b d : FA) (w : World) (hT : Tab w) (ha : Rd w a.A a.c a.xs) (hb : Rd w b.A b.c b.xs) (hd : Rd w d.A d.c d.xs) (hs : [a, b, d].all (fun a => decide (a.xs.length ≤ 40)) = true) (hc : chkS k p [a, b, d] ≠ 0) :
    Calls Tryz.prog 7 #[.agg #[.int .i64 k, .int .i64 p], a.v, b.v, d.v] w fun e w' => e = .returned (.bool true) ∧ Ext w w' := by
  obtain ⟨hF, hX, hY, hZ, hE, hsz⟩ := boxesV4 w k p a b d _ rfl
  have HF := Lib.hid hF
  have HX := Lib.hid hX
  have HY := Lib.hid hY
  have HZ := Lib.hid hZ
  have HE := Lib.hid hE
  have HS := Lib.hid hsz
  clear hF hX hY hZ hE hsz
  have hsh := fun A c w h => short_c A c [a, b, d] w h
  have hck := fun A c w h => check21_c k p A c [a, b, d] w h (fun i hi => by
      have h1 := List.all_eq_true.1 hs _ (List.getElem_mem hi)
      have := of_decide_eq_true h1
      omega)
  rw [hs] at hsh
  have hcb : (chkS k p [a, b, d] != 0) = true := by rw [bne_iff_ne]; exact hc
  generalize chkS k p [a, b, d] = C at *
  clear hs hc
  obtain ⟨ak, an, ae, aA, ac, as1⟩ := a
  obtain ⟨bk, bn, be, bA, bc, bs1⟩ := b
  obtain ⟨dk, dn, de, dA, dc, ds1⟩ := d
  simp only at HF HX HY HZ HE HS ha hb hd
  go_enter Tryz.func7, Tryz.ntmps7
  go_wp2_with fail
  have hF := HF.out
  have hX := HX.out
  have hY := HY.out
  have hZ := HZ.out
  have hE := HE.out
  have hsz := HS.out
  clear HF HX HY HZ HE HS
  generalize ((((w.alloc (.cells #[.int .i64 k, .int .i64 p] 23)).alloc (.cells #[.int .i64 ak, .bool an, .int .i64 ae, .slice aA as1.length ac] 28)).alloc (.cells #[.int .i64 bk, .bool bn, .int .i64 be, .slice bA bs1.length bc] 28)).alloc (.cells #[.int .i64 dk, .bool dn, .int .i64 de, .slice dA ds1.length dc] 28)) = W at *
  have hL := FRd.three W ⟨ak, an, ae, aA, ac, as1⟩ ⟨bk, bn, be, bA, bc, bs1⟩ ⟨dk, dn, de, dA, dc, ds1⟩ (ha.ext hE) (hb.ext hE) (hd.ext hE)
  have hA := (Ext.refl W).al (.cells #[.int .i64 ak, .bool an, .int .i64 ae, .slice aA as1.length ac, .int .i64 bk, .bool bn, .int .i64 be, .slice bA bs1.length bc, .int .i64 dk, .bool dn, .int .i64 de, .slice dA ds1.length dc] 28)
  have hsz1 := World.size_alloc W (.cells #[.int .i64 ak, .bool an, .int .i64 ae, .slice aA as1.length ac, .int .i64 bk, .bool bn, .int .i64 be, .slice bA bs1.length bc, .int .i64 dk, .bool dn, .int .i64 de, .slice dA ds1.length dc] 28)
  rw [hsz] at hL hsz1
  clear hsz
  refine (hsh _ _ _ hL).mono ?_
  rintro z w1 ⟨rfl, rfl⟩
  have hF1 := hF.ext hA
  have hX1 := hX.ext hA
  have hY1 := hY.ext hA
  have hZ1 := hZ.ext hA
  have hE1 := hE.tr hA
  clear hF hX hY hZ hE hA hL
  generalize W.alloc (.cells #[.int .i64 ak, .bool an, .int .i64 ae, .slice aA as1.length ac, .int .i64 bk, .bool bn, .int .i64 be, .slice bA bs1.length bc, .int .i64 dk, .bool dn, .int .i64 de, .slice dA ds1.length dc] 28) = V at *
  obtain ⟨f0, f1⟩ := hF1.facts
  obtain ⟨x0, x1, x2, x3, -⟩ := hX1.facts
  obtain ⟨y0, y1, y2, y3, -⟩ := hY1.facts
  obtain ⟨z0, z1, z2, z3, -⟩ := hZ1.facts
  have hL := FRd.three V ⟨ak, an, ae, aA, ac, as1⟩ ⟨bk, bn, be, bA, bc, bs1⟩ ⟨dk, dn, de, dA, dc, ds1⟩ (ha.ext hE1) (hb.ext hE1) (hd.ext hE1)
  have hA := (Ext.refl V).al (.cells #[.int .i64 ak, .bool an, .int .i64 ae, .slice aA as1.length ac, .int .i64 bk, .bool bn, .int .i64 be, .slice bA bs1.length bc, .int .i64 dk, .bool dn, .int .i64 de, .slice dA ds1.length dc] 28)
  have HS1 := Lib.hid hsz1
  clear hsz1
  go_wp2_with fail
  try rw [HS1.out]
  rw [HS1.out] at hL
  refine (hck _ _ _ hL).mono ?_
  rintro z w2 ⟨rfl, hb2⟩
  replace hb2 := hA.tr hb2
  have hF2 := hF1.ext hb2
  have hX2 := hX1.ext hb2
  have hY2 := hY1.ext hb2
  have hZ2 := hZ1.ext hb2
  have hE2 := hE1.tr hb2
  clear f0 f1 x0 x1 x2 x3 y0 y1 y2 y3 z0 z1 z2 z3
  clear hF1 hX1 hY1 hZ1 hE1 hL hA HS1
  go_wp2_with fail
  refine (awake21_c _ (hT.ext hE2)).mono ?_
  rintro z w99 ⟨rfl, hb99⟩
  go_wp2
  go_ret
  exact ⟨rfl, hE2.tr hb99⟩
set_option maxHeartbeats 8000000 in
set_option maxRecDepth 100000 in
theorem orderCounts_nan (k p : Int) (a b d : FA) (w : World) (hT : Tab w) (ha : Rd w a.A a.c a.xs) (hb : Rd w b.A b.c b.xs) (hd : Rd w d.A d.c d.xs) (hs : [a, b, d].all (fun a => decide (a.xs.length ≤ 40)) = true) (hc : chkS k p [a, b, d] = 0) (hk : a.k = 3 ∨ b.k = 3 ∨ d.k = 3) :
    Calls Tryz.prog 7 #[.agg #[.int .i64 k, .int .i64 p], a.v, b.v, d.v] w fun e w' => e = .returned (.bool true) ∧ Ext w w' := by
  obtain ⟨hF, hX, hY, hZ, hE, hsz⟩ := boxesV4 w k p a b d _ rfl
  have HF := Lib.hid hF
  have HX := Lib.hid hX
  have HY := Lib.hid hY
  have HZ := Lib.hid hZ
  have HE := Lib.hid hE
  have HS := Lib.hid hsz
  clear hF hX hY hZ hE hsz
  have hsh := fun A c w h => short_c A c [a, b, d] w h
  have hck := fun A c w h => check21_c k p A c [a, b, d] w h (fun i hi => by
      have h1 := List.all_eq_true.1 hs _ (List.getElem_mem hi)
      have := of_decide_eq_true h1
      omega)
  rw [hs] at hsh
  rw [hc] at hck
  have hkk : (a.k == 3) = true ∨ ((a.k == 3) = false ∧ (b.k == 3) = true) ∨ ((a.k == 3) = false ∧ (b.k == 3) = false ∧ (d.k == 3) = true) := by
    by_cases h : a.k = 3
    · exact .inl (by simpa using h)
    · by_cases h2 : b.k = 3
      · exact .inr (.inl ⟨by simpa using h, by simpa using h2⟩)
      · exact .inr (.inr ⟨by simpa using h, by simpa using h2, by simpa using (hk.resolve_left h).resolve_left h2⟩)
  clear hs hc hk
  obtain ⟨ak, an, ae, aA, ac, as1⟩ := a
  obtain ⟨bk, bn, be, bA, bc, bs1⟩ := b
  obtain ⟨dk, dn, de, dA, dc, ds1⟩ := d
  simp only at HF HX HY HZ HE HS ha hb hd hkk
  go_enter Tryz.func7, Tryz.ntmps7
  go_wp2_with fail
  have hF := HF.out
  have hX := HX.out
  have hY := HY.out
  have hZ := HZ.out
  have hE := HE.out
  have hsz := HS.out
  clear HF HX HY HZ HE HS
  generalize ((((w.alloc (.cells #[.int .i64 k, .int .i64 p] 23)).alloc (.cells #[.int .i64 ak, .bool an, .int .i64 ae, .slice aA as1.length ac] 28)).alloc (.cells #[.int .i64 bk, .bool bn, .int .i64 be, .slice bA bs1.length bc] 28)).alloc (.cells #[.int .i64 dk, .bool dn, .int .i64 de, .slice dA ds1.length dc] 28)) = W at *
  have hL := FRd.three W ⟨ak, an, ae, aA, ac, as1⟩ ⟨bk, bn, be, bA, bc, bs1⟩ ⟨dk, dn, de, dA, dc, ds1⟩ (ha.ext hE) (hb.ext hE) (hd.ext hE)
  have hA := (Ext.refl W).al (.cells #[.int .i64 ak, .bool an, .int .i64 ae, .slice aA as1.length ac, .int .i64 bk, .bool bn, .int .i64 be, .slice bA bs1.length bc, .int .i64 dk, .bool dn, .int .i64 de, .slice dA ds1.length dc] 28)
  have hsz1 := World.size_alloc W (.cells #[.int .i64 ak, .bool an, .int .i64 ae, .slice aA as1.length ac, .int .i64 bk, .bool bn, .int .i64 be, .slice bA bs1.length bc, .int .i64 dk, .bool dn, .int .i64 de, .slice dA ds1.length dc] 28)
  rw [hsz] at hL hsz1
  clear hsz
  refine (hsh _ _ _ hL).mono ?_
  rintro z w1 ⟨rfl, rfl⟩
  have hF1 := hF.ext hA
  have hX1 := hX.ext hA
  have hY1 := hY.ext hA
  have hZ1 := hZ.ext hA
  have hE1 := hE.tr hA
  clear hF hX hY hZ hE hA hL
  generalize W.alloc (.cells #[.int .i64 ak, .bool an, .int .i64 ae, .slice aA as1.length ac, .int .i64 bk, .bool bn, .int .i64 be, .slice bA bs1.length bc, .int .i64 dk, .bool dn, .int .i64 de, .slice dA ds1.length dc] 28) = V at *
  obtain ⟨f0, f1⟩ := hF1.facts
  obtain ⟨x0, x1, x2, x3, -⟩ := hX1.facts
  obtain ⟨y0, y1, y2, y3, -⟩ := hY1.facts
  obtain ⟨z0, z1, z2, z3, -⟩ := hZ1.facts
  have hL := FRd.three V ⟨ak, an, ae, aA, ac, as1⟩ ⟨bk, bn, be, bA, bc, bs1⟩ ⟨dk, dn, de, dA, dc, ds1⟩ (ha.ext hE1) (hb.ext hE1) (hd.ext hE1)
  have hA := (Ext.refl V).al (.cells #[.int .i64 ak, .bool an, .int .i64 ae, .slice aA as1.length ac, .int .i64 bk, .bool bn, .int .i64 be, .slice bA bs1.length bc, .int .i64 dk, .bool dn, .int .i64 de, .slice dA ds1.length dc] 28)
  have HS1 := Lib.hid hsz1
  clear hsz1
  go_wp2_with fail
  try rw [HS1.out]
  rw [HS1.out] at hL
  refine (hck _ _ _ hL).mono ?_
  rintro z w2 ⟨rfl, hb2⟩
  replace hb2 := hA.tr hb2
  have hF2 := hF1.ext hb2
  have hX2 := hX1.ext hb2
  have hY2 := hY1.ext hb2
  have hZ2 := hZ1.ext hb2
  have hE2 := hE1.tr hb2
  clear f0 f1 x0 x1 x2 x3 y0 y1 y2 y3 z0 z1 z2 z3
  clear hF1 hX1 hY1 hZ1 hE1 hL hA HS1
  rcases hkk with e1 | ⟨e1, e2⟩ | ⟨e1, e2, e3⟩
  all_goals
    obtain ⟨f0, f1⟩ := hF2.facts
    obtain ⟨x0, x1, x2, x3, -⟩ := hX2.facts
    obtain ⟨y0, y1, y2, y3, -⟩ := hY2.facts
    obtain ⟨z0, z1, z2, z3, -⟩ := hZ2.facts
    go_wp2_with fail
    refine (awake21_c _ (hT.ext hE2)).mono ?_
    rintro z w99 ⟨rfl, hb99⟩
    go_wp2
    go_ret
    exact ⟨rfl, hE2.tr hb99⟩
set_option maxHeartbeats 8000000 in
set_option maxRecDepth 100000 in
theorem orderCounts_good (k p : Int) (a b d : FA) (w : World) (hT : Tab w) (ha : Rd w a.A a.c a.xs) (hb : Rd w b.A b.c b.xs) (hd : Rd w d.A d.c d.xs) (hs : [a, b, d].all (fun a => decide (a.xs.length ≤ 40)) = true) (hc : chkS k p [a, b, d] = 0) (hk : ¬ (a.k = 3 ∨ b.k = 3 ∨ d.k = 3)) :
    Calls Tryz.prog 7 #[.agg #[.int .i64 k, .int .i64 p], a.v, b.v, d.v] w fun e w' => e = .returned (.bool true) ∧ Ext w w' := by
  obtain ⟨hF, hX, hY, hZ, hE, hsz⟩ := boxesV4 w k p a b d _ rfl
  have HF := Lib.hid hF
  have HX := Lib.hid hX
  have HY := Lib.hid hY
  have HZ := Lib.hid hZ
  have HE := Lib.hid hE
  have HS := Lib.hid hsz
  clear hF hX hY hZ hE hsz
  have hsh := fun A c w h => short_c A c [a, b, d] w h
  have hck := fun A c w h => check21_c k p A c [a, b, d] w h (fun i hi => by
      have h1 := List.all_eq_true.1 hs _ (List.getElem_mem hi)
      have := of_decide_eq_true h1
      omega)
  rw [hs] at hsh
  rw [hc] at hck
  obtain ⟨hR, hpt⟩ := chk_good hc
  have hla : a.xs.length ≤ 40 := of_decide_eq_true (List.all_eq_true.1 hs a (by simp))
  have hlb : b.xs.length ≤ 40 := of_decide_eq_true (List.all_eq_true.1 hs b (by simp))
  have hld : d.xs.length ≤ 40 := of_decide_eq_true (List.all_eq_true.1 hs d (by simp))
  obtain ⟨f, hfc, hfi⟩ := hpt a (by simp)
  obtain ⟨g, hgc, hgi⟩ := hpt b (by simp)
  obtain ⟨q, hqc, hqi⟩ := hpt d (by simp)
  have hf := of_good hfc hfi ha.w64 (by omega)
  have hg := of_good hgc hgi hb.w64 (by omega)
  have hq := of_good hqc hqi hd.w64 (by omega)
  have ek1 : f.kind = a.k := canon_kind hfc
  have ek2 : g.kind = b.k := canon_kind hgc
  have ek3 : q.kind = d.k := canon_kind hqc
  have hk1 : (a.k == 3) = false := by simp; omega
  have hk2 : (b.k == 3) = false := by simp; omega
  have hk3 : (d.k == 3) = false := by simp; omega
  have hf3 : f.kind ≠ 3 := by omega
  have hg3 : g.kind ≠ 3 := by omega
  have hq3 : q.kind ≠ 3 := by omega
  have t1 := fun w hT h h' => Steps_own hR a b hfc hgc (by omega) (by omega) hf hg hf3 hg3 w hT h h'
  have t2 := fun w hT h h' => Steps_own hR b d hgc hqc (by omega) (by omega) hg hq hg3 hq3 w hT h h'
  have t3 := fun w hT h h' => Steps_own hR a d hfc hqc (by omega) (by omega) hf hq hf3 hq3 w hT h h'
  have t4 := fun w hT h => Steps_own hR ⟨0, false, 0, none, 0, []⟩ a (can_nul false) hfc (by simp) (by omega) (nul_of k p) hf (by simp) hf3 w hT (Rd.nil w none 0) h
  rw [show idx k p ⟨0, false, 0, 0⟩ = 0 by unfold idx; rw [enc_zero rfl]; rfl, Int.sub_zero] at t4
  have s1 := idx_sub_len hR hf hg
  have s2 := idx_sub_len hR hg hq
  have s3 := idx_sub_len hR hf hq
  have s4 := idx_len hR hf
  have m1 := fun A A' c c' w h h' => radd11_c (decide (idx k p g - idx k p f < 0)) (decide (idx k p q - idx k p g < 0)) A A' c c' (cn (idx k p g - idx k p f).natAbs) (cn (idx k p q - idx k p g).natAbs) w h h' (by omega) (by omega)
  simp only [val_cn, sg_self] at m1
  rw [show idx k p g - idx k p f + (idx k p q - idx k p g) = idx k p q - idx k p f by omega] at m1
  have m2 := fun A A' c c' w h h' => rcmp11_c (decide (idx k p q - idx k p f < 0)) (decide (idx k p q - idx k p f < 0)) A A' c c' (cn (idx k p q - idx k p f).natAbs) (cn (idx k p q - idx k p f).natAbs) w h h' (by omega) (by omega)
  simp only [val_cn, sg_self, Int.sub_self] at m2
  rw [show sgn 0 = 0 from rfl] at m2
  have hle := enc_le_inf hR hf hf3
  have hia : (idx k p f).natAbs = encM k p f := by unfold idx; exact sg_abs _ _
  have t5 := fun A c w hT h => At_yes k p hR (decide (idx k p f < 0)) A c (cn (idx k p f).natAbs) (by omega) (by rw [val_cn, hia]; exact hle) w hT h
  simp only [val_cn, sg_self] at t5
  have hQf := at_of' (z := idx k p f) hR (by rw [hia]; exact hle)
  have haq := atF_idx hR hf hf3
  have m3 := fun A c w hT h h' => fsame_c a ⟨(atF k p (idx k p f)).kind, (atF k p (idx k p f)).neg, (atF k p (idx k p f)).exp, A, c, cn (atF k p (idx k p f)).mag⟩ w hT h h' (by omega) (by have := hQf.len; simp only; omega)
  simp only [hfc, can_self hQf.ok] at m3
  have hQ : (sameO (some f) (some (atF k p (idx k p f))) = true) ∨ (sameO (some f) (some (atF k p (idx k p f))) = false ∧ (a.k != 0) = false ∧ ((atF k p (idx k p f)).kind != 0) = false) := by
    by_cases h0 : f.kind = 0
    · cases hS : sameO (some f) (some (atF k p (idx k p f))) with
      | true => exact .inl rfl
      | false => exact .inr ⟨rfl, by simp; omega, by rw [haq]; simpa using h0⟩
    · left
      rw [haq, idx_neg hR hf h0]
      rw [show (⟨f.kind, f.neg, f.exp, f.mag⟩ : Fl) = f from rfl, sameO_self]
      rfl
  have n1 : f.neg = a.neg := can_neg hfc
  have hend : ((a.k == 2) = true ∧ (!a.neg) = true) ∨ (((a.k == 2) = false ∨ ((a.k == 2) = true ∧ (!a.neg) = false)) ∧ ¬ (f.kind = 3 ∨ (f.kind = 2 ∧ f.neg ≠ true))) := by
    rw [← ek1, ← n1]
    by_cases h2 : f.kind = 2
    · cases hn : f.neg with
      | false => exact .inl ⟨by simpa using h2, rfl⟩
      | true => exact .inr ⟨.inr ⟨by simpa using h2, rfl⟩, by simp [h2]⟩
    · exact .inr ⟨.inl (by simpa using h2), by omega⟩
  have t6 := fun w hT h => Next_good k p hR a f hf (FlsS_one_ok hR (by omega) hfc hfi) true w hT h
  have hnx := next_of true hR hf
  have t7 := fun (hgo : ¬ (f.kind = 3 ∨ (f.kind = 2 ∧ f.neg ≠ true))) A c w hT h h' => Steps_own hR a ⟨(nextF k p f true).kind, (nextF k p f true).neg, (nextF k p f true).exp, A, c, cn (nextF k p f true).mag⟩ hfc (can_self hnx.ok A c) (by omega) hnx.len hf hnx hf3 (next_idx (up := true) hR hf hgo).2.2.1 w hT h h'
  have hone : ¬ (f.kind = 3 ∨ (f.kind = 2 ∧ f.neg ≠ true)) → idx k p (nextF k p f true) - idx k p f = 1 := fun hgo => by
    have := (next_idx (up := true) hR hf hgo).2.2.2
    rw [if_pos rfl] at this
    omega
  have m4 := fun w => rfrom11_c 1 (.inl rfl) w
  have m5 := fun A A' c c' w h h' => ris11_z 1 (by have := one_len; show (cn 1).length ≤ _; omega) A A' c c' w h h'
  have t7' : ¬ (f.kind = 3 ∨ (f.kind = 2 ∧ f.neg ≠ true)) → ∀ A c w, Tab w → Rd w a.A a.c a.xs → Rd w A c (cn (nextF k p f true).mag) → Calls Tryz.prog 27 #[.agg #[.int .i64 k, .int .i64 p], a.v, flV (nextF k p f true).kind (nextF k p f true).neg (nextF k p f true).exp (.slice A (cn (nextF k p f true).mag).length c)] w (IntSE w 1) := fun hgo A c w hT h h' => by
    have h1 := t7 hgo A c w hT h h'
    rw [hone hgo] at h1
    exact h1
  clear t7 hone haq hQf hnx hia hle
  unfold IntSE at t1 t2 t3 t4 t7'
  unfold IntR at m1 m4
  unfold FErr FlR at t5 t6
  clear s1 s2 s3 s4 ek1 ek2 ek3 hf3 hg3 hq3 n1 hfc hfi hgc hgi hqc hqi hf hg hq hla hlb hld hs hc hk hpt hR
  generalize sameO (some f) (some (atF k p (idx k p f))) = S at *
  generalize atF k p (idx k p f) = Q at *
  generalize nextF k p f true = G at *
  have hgo' : ((a.k == 2) = true ∧ (!a.neg) = true) ∨ (((a.k == 2) = false ∨ ((a.k == 2) = true ∧ (!a.neg) = false)) ∧ ∀ A c w, Tab w → Rd w a.A a.c a.xs → Rd w A c (cn G.mag) → Calls Tryz.prog 27 #[.agg #[.int .i64 k, .int .i64 p], a.v, flV G.kind G.neg G.exp (.slice A (cn G.mag).length c)] w fun e w' => ∃ A c, e = .returned (.tuple #[intV (decide ((1 : Int) < 0)) A (cn (1 : Int).natAbs).length c, .int .i64 0]) ∧ Own w' w.heap.size (.slice A (cn (1 : Int).natAbs).length c) (cn (1 : Int).natAbs) ∧ Ext w w') := by
    rcases hend with h | ⟨h, hgo⟩
    · exact .inl h
    · exact .inr ⟨h, t7' hgo⟩
  clear hend t7'
  generalize idx k p g - idx k p f = u1 at *
  generalize idx k p q - idx k p g = u2 at *
  generalize idx k p q - idx k p f = u3 at *
  generalize idx k p f = u4 at *
  generalize decide (u1 < 0) = b1 at *
  generalize decide (u2 < 0) = b2 at *
  generalize decide (u3 < 0) = b3 at *
  generalize decide (u4 < 0) = b4 at *
  generalize decide ((1 : Int) < 0) = b5 at *
  generalize cn u1.natAbs = L1 at *
  generalize cn u2.natAbs = L2 at *
  generalize cn u3.natAbs = L3 at *
  generalize cn u4.natAbs = L4 at *
  generalize cn (1 : Int).natAbs = L5 at *
  clear f g q
  obtain ⟨ak, an, ae, aA, ac, as1⟩ := a
  obtain ⟨bk, bn, be, bA, bc, bs1⟩ := b
  obtain ⟨dk, dn, de, dA, dc, ds1⟩ := d
  simp only at HF HX HY HZ HE HS ha hb hd t1 t2 t3 t4 t6 m3 hQ hgo' hk1 hk2 hk3
  go_enter Tryz.func7, Tryz.ntmps7
  go_wp2_with fail
  have hF := HF.out
  have hX := HX.out
  have hY := HY.out
  have hZ := HZ.out
  have hE := HE.out
  have hsz := HS.out
  clear HF HX HY HZ HE HS
  generalize ((((w.alloc (.cells #[.int .i64 k, .int .i64 p] 23)).alloc (.cells #[.int .i64 ak, .bool an, .int .i64 ae, .slice aA as1.length ac] 28)).alloc (.cells #[.int .i64 bk, .bool bn, .int .i64 be, .slice bA bs1.length bc] 28)).alloc (.cells #[.int .i64 dk, .bool dn, .int .i64 de, .slice dA ds1.length dc] 28)) = W at *
  have hL := FRd.three W ⟨ak, an, ae, aA, ac, as1⟩ ⟨bk, bn, be, bA, bc, bs1⟩ ⟨dk, dn, de, dA, dc, ds1⟩ (ha.ext hE) (hb.ext hE) (hd.ext hE)
  have hA := (Ext.refl W).al (.cells #[.int .i64 ak, .bool an, .int .i64 ae, .slice aA as1.length ac, .int .i64 bk, .bool bn, .int .i64 be, .slice bA bs1.length bc, .int .i64 dk, .bool dn, .int .i64 de, .slice dA ds1.length dc] 28)
  have hsz1 := World.size_alloc W (.cells #[.int .i64 ak, .bool an, .int .i64 ae, .slice aA as1.length ac, .int .i64 bk, .bool bn, .int .i64 be, .slice bA bs1.length bc, .int .i64 dk, .bool dn, .int .i64 de, .slice dA ds1.length dc] 28)
  rw [hsz] at hL hsz1
  clear hsz
  refine (hsh _ _ _ hL).mono ?_
  rintro z w1 ⟨rfl, rfl⟩
  have hF1 := hF.ext hA
  have hX1 := hX.ext hA
  have hY1 := hY.ext hA
  have hZ1 := hZ.ext hA
  have hE1 := hE.tr hA
  clear hF hX hY hZ hE hA hL
  generalize W.alloc (.cells #[.int .i64 ak, .bool an, .int .i64 ae, .slice aA as1.length ac, .int .i64 bk, .bool bn, .int .i64 be, .slice bA bs1.length bc, .int .i64 dk, .bool dn, .int .i64 de, .slice dA ds1.length dc] 28) = V at *
  obtain ⟨f0, f1⟩ := hF1.facts
  obtain ⟨x0, x1, x2, x3, -⟩ := hX1.facts
  obtain ⟨y0, y1, y2, y3, -⟩ := hY1.facts
  obtain ⟨z0, z1, z2, z3, -⟩ := hZ1.facts
  have hL := FRd.three V ⟨ak, an, ae, aA, ac, as1⟩ ⟨bk, bn, be, bA, bc, bs1⟩ ⟨dk, dn, de, dA, dc, ds1⟩ (ha.ext hE1) (hb.ext hE1) (hd.ext hE1)
  have hA := (Ext.refl V).al (.cells #[.int .i64 ak, .bool an, .int .i64 ae, .slice aA as1.length ac, .int .i64 bk, .bool bn, .int .i64 be, .slice bA bs1.length bc, .int .i64 dk, .bool dn, .int .i64 de, .slice dA ds1.length dc] 28)
  have HS1 := Lib.hid hsz1
  clear hsz1
  go_wp2_with fail
  try rw [HS1.out]
  rw [HS1.out] at hL
  refine (hck _ _ _ hL).mono ?_
  rintro z w2 ⟨rfl, hb2⟩
  replace hb2 := hA.tr hb2
  have hF2 := hF1.ext hb2
  have hX2 := hX1.ext hb2
  have hY2 := hY1.ext hb2
  have hZ2 := hZ1.ext hb2
  have hE2 := hE1.tr hb2
  clear f0 f1 x0 x1 x2 x3 y0 y1 y2 y3 z0 z1 z2 z3
  clear hF1 hX1 hY1 hZ1 hE1 hL hA HS1
  obtain ⟨f0, f1⟩ := hF2.facts
  obtain ⟨x0, x1, x2, x3, -⟩ := hX2.facts
  obtain ⟨y0, y1, y2, y3, -⟩ := hY2.facts
  obtain ⟨z0, z1, z2, z3, -⟩ := hZ2.facts
  go_wp2_with fail
  refine (t1 _ (hT.ext hE2) (ha.ext hE2) (hb.ext hE2)).mono ?_
  rintro z w3 ⟨A1, c1, rfl, ho3, hb3⟩
  have hr1 := ho3.rdAt.2
  have hB1 := Bi.new w3 (.bool b1) (.slice A1 L1.length c1)
  have hG1 := (Ext.refl w3).al (.cells #[.bool b1, .slice A1 L1.length c1] 56)
  have hF3 := hF2.ext hb3
  have hX3 := hX2.ext hb3
  have hY3 := hY2.ext hb3
  have hZ3 := hZ2.ext hb3
  have hE3 := hE2.tr hb3
  clear f0 f1 x0 x1 x2 x3 y0 y1 y2 y3 z0 z1 z2 z3
  have hlf := hF3.lt
  have hlx := hX3.lt
  have hly := hY3.lt
  have hlz := hZ3.lt
  obtain ⟨f0, f1⟩ := hF3.facts
  obtain ⟨x0, x1, x2, x3, -⟩ := hX3.facts
  obtain ⟨y0, y1, y2, y3, -⟩ := hY3.facts
  obtain ⟨z0, z1, z2, z3, -⟩ := hZ3.facts
  clear hF2 hX2 hY2 hZ2 hE2
  go_wp2_with fail
  have hF4 := hF3.ext hG1
  have hX4 := hX3.ext hG1
  have hY4 := hY3.ext hG1
  have hZ4 := hZ3.ext hG1
  have hE4 := hE3.tr hG1
  replace hr1 := hr1.ext hG1
  refine (t2 _ (hT.ext hE4) (hb.ext hE4) (hd.ext hE4)).mono ?_
  rintro z w5 ⟨A2, c2, rfl, ho5, hb5⟩
  have hr2 := ho5.rdAt.2
  have hB2 := Bi.new w5 (.bool b2) (.slice A2 L2.length c2)
  have hG2 := (Ext.refl w5).al (.cells #[.bool b2, .slice A2 L2.length c2] 56)
  clear hlf hlx hly hlz
  have hF5 := hF4.ext hb5
  have hX5 := hX4.ext hb5
  have hY5 := hY4.ext hb5
  have hZ5 := hZ4.ext hb5
  have hE5 := hE4.tr hb5
  have hB1' := hB1.ext hb5
  have hr1' := hr1.ext hb5
  clear f0 f1 x0 x1 x2 x3 y0 y1 y2 y3 z0 z1 z2 z3
  have hlf := hF5.lt
  have hlx := hX5.lt
  have hly := hY5.lt
  have hlz := hZ5.lt
  have hl1 := hB1'.lt
  obtain ⟨f0, f1⟩ := hF5.facts
  obtain ⟨x0, x1, x2, x3, -⟩ := hX5.facts
  obtain ⟨y0, y1, y2, y3, -⟩ := hY5.facts
  obtain ⟨z0, z1, z2, z3, -⟩ := hZ5.facts
  clear hF3 hX3 hY3 hZ3 hE3 hF4 hX4 hY4 hZ4 hE4
  go_wp2_with fail
  have hF6 := hF5.ext hG2
  have hX6 := hX5.ext hG2
  have hY6 := hY5.ext hG2
  have hZ6 := hZ5.ext hG2
  have hE6 := hE5.tr hG2
  replace hB1 := hB1'.ext hG2
  replace hr1 := hr1'.ext hG2
  replace hr2 := hr2.ext hG2
  refine (t3 _ (hT.ext hE6) (ha.ext hE6) (hd.ext hE6)).mono ?_
  rintro z w7 ⟨A3, c3, rfl, ho7, hb7⟩
  have hr3 := ho7.rdAt.2
  have hB3 := Bi.new w7 (.bool b3) (.slice A3 L3.length c3)
  have hG3 := (Ext.refl w7).al (.cells #[.bool b3, .slice A3 L3.length c3] 56)
  clear hlf hlx hly hlz hl1
  have hF7 := hF6.ext hb7
  have hX7 := hX6.ext hb7
  have hY7 := hY6.ext hb7
  have hZ7 := hZ6.ext hb7
  have hE7 := hE6.tr hb7
  have hB1' := hB1.ext hb7
  have hr1' := hr1.ext hb7
  have hB2' := hB2.ext hb7
  have hr2' := hr2.ext hb7
  clear f0 f1 x0 x1 x2 x3 y0 y1 y2 y3 z0 z1 z2 z3
  have hlf := hF7.lt
  have hlx := hX7.lt
  have hly := hY7.lt
  have hlz := hZ7.lt
  have hl1 := hB1'.lt
  have hl2 := hB2'.lt
  obtain ⟨f0, f1⟩ := hF7.facts
  obtain ⟨x0, x1, x2, x3, -⟩ := hX7.facts
  obtain ⟨y0, y1, y2, y3, -⟩ := hY7.facts
  obtain ⟨z0, z1, z2, z3, -⟩ := hZ7.facts
  clear hF5 hX5 hY5 hZ5 hE5 hF6 hX6 hY6 hZ6 hE6 hb5 hb7
  obtain ⟨j0, j1, -⟩ := hB1'.facts
  obtain ⟨k0, k1, -⟩ := hB2'.facts
  go_wp2_with fail
  have hF8 := hF7.ext hG3
  have hX8 := hX7.ext hG3
  have hY8 := hY7.ext hG3
  have hZ8 := hZ7.ext hG3
  have hE8 := hE7.tr hG3
  replace hB1 := hB1'.ext hG3
  replace hr1 := hr1'.ext hG3
  replace hB2 := hB2'.ext hG3
  replace hr2 := hr2'.ext hG3
  replace hr3 := hr3.ext hG3
  clear f0 f1 x0 x1 x2 x3 y0 y1 y2 y3 z0 z1 z2 z3
  clear j0 j1 k0 k1 hlf hlx hly hlz hl1 hl2
  generalize w7.alloc (.cells #[.bool b3, .slice A3 L3.length c3] 56) = V8 at *
  obtain ⟨j0, j1, -⟩ := hB1.facts
  obtain ⟨k0, k1, -⟩ := hB2.facts
  obtain ⟨l0, l1, -⟩ := hB3.facts
  go_region_held3 (fun w' => w'.cell? ⟨w3.heap.size, 0, none⟩ = some (.bool b1) ∧ w'.cell? ⟨w3.heap.size, 1, none⟩ = some (.slice A1 L1.length c1) ∧ w'.cell? ⟨w5.heap.size, 0, none⟩ = some (.bool b2) ∧ w'.cell? ⟨w5.heap.size, 1, none⟩ = some (.slice A2 L2.length c2) ∧ w'.cell? ⟨w7.heap.size, 0, none⟩ = some (.bool b3) ∧ w'.cell? ⟨w7.heap.size, 1, none⟩ = some (.slice A3 L3.length c3))
    (first | go_keep | (go_split_ands; refine ⟨?_, ?_, ?_, ?_, ?_, ?_⟩ <;> first | (with_reducible assumption) | (refine Ext.cell (w := V8) ?_ ?_ <;> (with_reducible assumption))))
    (first
      | (go_at_call 35; (with_reducible refine (m1 A1 A2 c1 c2 _ hr1.drew hr2.drew).mono ?_); rintro z w9 ⟨A4, c4, rfl, ho9, hbq⟩; have hr4 := ho9.rdAt.2; have hE9 : Ext V8 w9 := (Ext.refl V8).drew.tr hbq)
      | (go_at_call 34; (with_reducible refine (m2 A4 A3 c4 c3 _ hr4 (hr3.ext hE9)).mono ?_); rintro z w10 ⟨rfl, hbq⟩; have hE10' : Ext V8 w10 := hE9.tr hbq)
      | fail)
  clear j0 j1 k0 k1 l0 l1
  have hF10 := hF8.ext hE10'
  have hX10 := hX8.ext hE10'
  have hY10 := hY8.ext hE10'
  have hZ10 := hZ8.ext hE10'
  have hE10 := hE8.tr hE10'
  clear hF8 hX8 hY8 hZ8 hE8 hF7 hX7 hY7 hZ7 hE7
  obtain ⟨f0, f1⟩ := hF10.facts
  obtain ⟨x0, x1, x2, x3, -⟩ := hX10.facts
  obtain ⟨y0, y1, y2, y3, -⟩ := hY10.facts
  obtain ⟨z0, z1, z2, z3, -⟩ := hZ10.facts
  go_wp2_with fail
  refine (t4 _ (hT.ext hE10) (ha.ext hE10)).mono ?_
  rintro z w11 ⟨A4', c4', rfl, ho11, hb11⟩
  have hr6 := ho11.rdAt.2
  have hB4 := Bi.new w11 (.bool b4) (.slice A4' L4.length c4')
  have hG4 := (Ext.refl w11).al (.cells #[.bool b4, .slice A4' L4.length c4'] 56)
  have hF11 := hF10.ext hb11
  have hX11 := hX10.ext hb11
  have hY11 := hY10.ext hb11
  have hZ11 := hZ10.ext hb11
  have hE11 := hE10.tr hb11
  clear f0 f1 x0 x1 x2 x3 y0 y1 y2 y3 z0 z1 z2 z3
  have hlf := hF11.lt
  have hlx := hX11.lt
  obtain ⟨f0, f1⟩ := hF11.facts
  obtain ⟨x0, x1, x2, x3, -⟩ := hX11.facts
  obtain ⟨y0, y1, y2, y3, -⟩ := hY11.facts
  obtain ⟨z0, z1, z2, z3, -⟩ := hZ11.facts
  go_wp2_with fail
  have hF12 := hF11.ext hG4
  have hX12 := hX11.ext hG4
  have hY12 := hY11.ext hG4
  have hZ12 := hZ11.ext hG4
  have hE12 := hE11.tr hG4
  have hr7 := hr6.ext hG4
  refine (t5 A4' c4' _ (hT.ext hE12) hr7).mono ?_
  rintro z w13 ⟨u, rfl, ⟨v, rfl, ho13⟩, hb13⟩
  obtain ⟨A5, c5, rfl, hr8⟩ := ho13.rd
  have hP := Bx.new w13 (.int .i64 Q.kind) (.bool Q.neg) (.int .i64 Q.exp) (.slice A5 (cn Q.mag).length c5)
  have hG5 := (Ext.refl w13).al (.cells #[.int .i64 Q.kind, .bool Q.neg, .int .i64 Q.exp, .slice A5 (cn Q.mag).length c5] 28)
  have hF13 := hF12.ext hb13
  have hX13 := hX12.ext hb13
  have hY13 := hY12.ext hb13
  have hZ13 := hZ12.ext hb13
  have hE13 := hE12.tr hb13
  clear f0 f1 x0 x1 x2 x3 y0 y1 y2 y3 z0 z1 z2 z3
  clear hF10 hX10 hY10 hZ10 hE10 hF11 hX11 hY11 hZ11 hE11 hF12 hX12 hY12 hZ12 hE12 hlf hlx
  have hlf := hF13.lt
  have hlx := hX13.lt
  obtain ⟨f0, f1⟩ := hF13.facts
  obtain ⟨x0, x1, x2, x3, -⟩ := hX13.facts
  obtain ⟨y0, y1, y2, y3, -⟩ := hY13.facts
  obtain ⟨z0, z1, z2, z3, -⟩ := hZ13.facts
  go_wp2_with fail
  have hF14 := hF13.ext hG5
  have hX14 := hX13.ext hG5
  have hY14 := hY13.ext hG5
  have hZ14 := hZ13.ext hG5
  have hE14 := hE13.tr hG5
  have hr9 := hr8.ext hG5
  refine (m3 A5 c5 _ (hT.ext hE14) (ha.ext hE14) hr9).mono ?_
  rintro z w15 ⟨rfl, hb15⟩
  have hF15 := hF14.ext hb15
  have hX15 := hX14.ext hb15
  have hY15 := hY14.ext hb15
  have hZ15 := hZ14.ext hb15
  have hE15 := hE14.tr hb15
  have hP15 := hP.ext hb15
  clear f0 f1 x0 x1 x2 x3 y0 y1 y2 y3 z0 z1 z2 z3
  clear hF13 hX13 hY13 hZ13 hE13 hF14 hX14 hY14 hZ14 hE14 hlf hlx
  obtain ⟨f0, f1⟩ := hF15.facts
  obtain ⟨x0, x1, x2, x3, -⟩ := hX15.facts
  obtain ⟨y0, y1, y2, y3, -⟩ := hY15.facts
  obtain ⟨z0, z1, z2, z3, -⟩ := hZ15.facts
  obtain ⟨p0, p1, p2, p3, -⟩ := hP15.facts
  rcases hQ with rfl | ⟨rfl, g1, g2⟩ <;> rcases hgo' with ⟨e1, e2⟩ | ⟨(e1 | ⟨e1, e2⟩), t7⟩
  · go_wp2_with fail
    refine (awake21_c _ (hT.ext hE15)).mono ?_
    rintro z w99 ⟨rfl, hb99⟩
    go_wp2
    go_ret
    exact ⟨rfl, hE15.tr hb99⟩
  · go_wp2_with fail
    refine (t6 _ (hT.ext hE15) (ha.ext hE15)).mono ?_
    rintro z w16 ⟨u, rfl, ⟨v, rfl, ho16⟩, hb16⟩
    obtain ⟨A6, c6, rfl, hr10⟩ := ho16.rd
    have hU := Bx.new w16 (.int .i64 G.kind) (.bool G.neg) (.int .i64 G.exp) (.slice A6 (cn G.mag).length c6)
    have hG6 := (Ext.refl w16).al (.cells #[.int .i64 G.kind, .bool G.neg, .int .i64 G.exp, .slice A6 (cn G.mag).length c6] 28)
    have hF16 := hF15.ext hb16
    have hX16 := hX15.ext hb16
    have hY16 := hY15.ext hb16
    have hZ16 := hZ15.ext hb16
    have hE16 := hE15.tr hb16
    clear f0 f1 x0 x1 x2 x3 y0 y1 y2 y3 z0 z1 z2 z3
    clear p0 p1 p2 p3
    have hlf := hF16.lt
    have hlx := hX16.lt
    obtain ⟨f0, f1⟩ := hF16.facts
    obtain ⟨x0, x1, x2, x3, -⟩ := hX16.facts
    obtain ⟨y0, y1, y2, y3, -⟩ := hY16.facts
    obtain ⟨z0, z1, z2, z3, -⟩ := hZ16.facts
    go_wp2_with fail
    have hF17 := hF16.ext hG6
    have hX17 := hX16.ext hG6
    have hY17 := hY16.ext hG6
    have hZ17 := hZ16.ext hG6
    have hE17 := hE16.tr hG6
    have hr11 := hr10.ext hG6
    refine (t7 A6 c6 _ (hT.ext hE17) (ha.ext hE17) hr11).mono ?_
    rintro z w18 ⟨A7, c7, rfl, ho18, hb18⟩
    have hr12 := ho18.rdAt.2
    have hB5 := Bi.new w18 (.bool b5) (.slice A7 L5.length c7)
    have hG7 := (Ext.refl w18).al (.cells #[.bool b5, .slice A7 L5.length c7] 56)
    have hE19 := (hE17.tr hb18).tr hG7
    have hr13 := hr12.ext hG7
    clear f0 f1 x0 x1 x2 x3 y0 y1 y2 y3 z0 z1 z2 z3
    go_wp2_with fail
    generalize w18.alloc (.cells #[.bool b5, .slice A7 L5.length c7] 56) = V9 at *
    obtain ⟨j0, j1, -⟩ := hB5.facts
    go_region_held3 (fun w' => w'.cell? ⟨w18.heap.size, 0, none⟩ = some (.bool b5) ∧ w'.cell? ⟨w18.heap.size, 1, none⟩ = some (.slice A7 L5.length c7))
      (first | go_keep | (go_split_ands; refine ⟨?_, ?_⟩ <;> first | (with_reducible assumption) | (refine Ext.cell (w := V9) ?_ ?_ <;> (with_reducible assumption))))
      (first
        | (go_at_call 37; (with_reducible refine (m4 _).mono ?_); rintro z w20 ⟨A8, c8, rfl, ho20, hbq⟩; have hr14 := ho20.rdAt.2; have hE20 : Ext V9 w20 := (Ext.refl V9).drew.tr hbq)
        | (go_at_call 30; (with_reducible refine (m5 A7 A8 c7 c8 _ (hr13.ext hE20) hr14).mono ?_); rintro z w21 ⟨rfl, hbq⟩; have hE21 : Ext V9 w21 := hE20.tr hbq)
        | (go_at_call 9; (with_reducible refine (awake21_c _ (hT.ext (hE19.tr hE21))).mono ?_); rintro z w22 ⟨rfl, hbq⟩; have hE22 : Ext V9 w22 := hE21.tr hbq)
        | fail)
    go_wp2
    go_ret
    exact ⟨rfl, hE19.tr hE22⟩
  · go_wp2_with fail
    refine (t6 _ (hT.ext hE15) (ha.ext hE15)).mono ?_
    rintro z w16 ⟨u, rfl, ⟨v, rfl, ho16⟩, hb16⟩
    obtain ⟨A6, c6, rfl, hr10⟩ := ho16.rd
    have hU := Bx.new w16 (.int .i64 G.kind) (.bool G.neg) (.int .i64 G.exp) (.slice A6 (cn G.mag).length c6)
    have hG6 := (Ext.refl w16).al (.cells #[.int .i64 G.kind, .bool G.neg, .int .i64 G.exp, .slice A6 (cn G.mag).length c6] 28)
    have hF16 := hF15.ext hb16
    have hX16 := hX15.ext hb16
    have hY16 := hY15.ext hb16
    have hZ16 := hZ15.ext hb16
    have hE16 := hE15.tr hb16
    clear f0 f1 x0 x1 x2 x3 y0 y1 y2 y3 z0 z1 z2 z3
    clear p0 p1 p2 p3
    have hlf := hF16.lt
    have hlx := hX16.lt
    obtain ⟨f0, f1⟩ := hF16.facts
    obtain ⟨x0, x1, x2, x3, -⟩ := hX16.facts
    obtain ⟨y0, y1, y2, y3, -⟩ := hY16.facts
    obtain ⟨z0, z1, z2, z3, -⟩ := hZ16.facts
    go_wp2_with fail
    have hF17 := hF16.ext hG6
    have hX17 := hX16.ext hG6
    have hY17 := hY16.ext hG6
    have hZ17 := hZ16.ext hG6
    have hE17 := hE16.tr hG6
    have hr11 := hr10.ext hG6
    refine (t7 A6 c6 _ (hT.ext hE17) (ha.ext hE17) hr11).mono ?_
    rintro z w18 ⟨A7, c7, rfl, ho18, hb18⟩
    have hr12 := ho18.rdAt.2
    have hB5 := Bi.new w18 (.bool b5) (.slice A7 L5.length c7)
    have hG7 := (Ext.refl w18).al (.cells #[.bool b5, .slice A7 L5.length c7] 56)
    have hE19 := (hE17.tr hb18).tr hG7
    have hr13 := hr12.ext hG7
    clear f0 f1 x0 x1 x2 x3 y0 y1 y2 y3 z0 z1 z2 z3
    go_wp2_with fail
    generalize w18.alloc (.cells #[.bool b5, .slice A7 L5.length c7] 56) = V9 at *
    obtain ⟨j0, j1, -⟩ := hB5.facts
    go_region_held3 (fun w' => w'.cell? ⟨w18.heap.size, 0, none⟩ = some (.bool b5) ∧ w'.cell? ⟨w18.heap.size, 1, none⟩ = some (.slice A7 L5.length c7))
      (first | go_keep | (go_split_ands; refine ⟨?_, ?_⟩ <;> first | (with_reducible assumption) | (refine Ext.cell (w := V9) ?_ ?_ <;> (with_reducible assumption))))
      (first
        | (go_at_call 37; (with_reducible refine (m4 _).mono ?_); rintro z w20 ⟨A8, c8, rfl, ho20, hbq⟩; have hr14 := ho20.rdAt.2; have hE20 : Ext V9 w20 := (Ext.refl V9).drew.tr hbq)
        | (go_at_call 30; (with_reducible refine (m5 A7 A8 c7 c8 _ (hr13.ext hE20) hr14).mono ?_); rintro z w21 ⟨rfl, hbq⟩; have hE21 : Ext V9 w21 := hE20.tr hbq)
        | (go_at_call 9; (with_reducible refine (awake21_c _ (hT.ext (hE19.tr hE21))).mono ?_); rintro z w22 ⟨rfl, hbq⟩; have hE22 : Ext V9 w22 := hE21.tr hbq)
        | fail)
    go_wp2
    go_ret
    exact ⟨rfl, hE19.tr hE22⟩
  · go_wp2_with fail
    refine (awake21_c _ (hT.ext hE15)).mono ?_
    rintro z w99 ⟨rfl, hb99⟩
    go_wp2
    go_ret
    exact ⟨rfl, hE15.tr hb99⟩
  · go_wp2_with fail
    refine (t6 _ (hT.ext hE15) (ha.ext hE15)).mono ?_
    rintro z w16 ⟨u, rfl, ⟨v, rfl, ho16⟩, hb16⟩
    obtain ⟨A6, c6, rfl, hr10⟩ := ho16.rd
    have hU := Bx.new w16 (.int .i64 G.kind) (.bool G.neg) (.int .i64 G.exp) (.slice A6 (cn G.mag).length c6)
    have hG6 := (Ext.refl w16).al (.cells #[.int .i64 G.kind, .bool G.neg, .int .i64 G.exp, .slice A6 (cn G.mag).length c6] 28)
    have hF16 := hF15.ext hb16
    have hX16 := hX15.ext hb16
    have hY16 := hY15.ext hb16
    have hZ16 := hZ15.ext hb16
    have hE16 := hE15.tr hb16
    clear f0 f1 x0 x1 x2 x3 y0 y1 y2 y3 z0 z1 z2 z3
    clear p0 p1 p2 p3
    have hlf := hF16.lt
    have hlx := hX16.lt
    obtain ⟨f0, f1⟩ := hF16.facts
    obtain ⟨x0, x1, x2, x3, -⟩ := hX16.facts
    obtain ⟨y0, y1, y2, y3, -⟩ := hY16.facts
    obtain ⟨z0, z1, z2, z3, -⟩ := hZ16.facts
    go_wp2_with fail
    have hF17 := hF16.ext hG6
    have hX17 := hX16.ext hG6
    have hY17 := hY16.ext hG6
    have hZ17 := hZ16.ext hG6
    have hE17 := hE16.tr hG6
    have hr11 := hr10.ext hG6
    refine (t7 A6 c6 _ (hT.ext hE17) (ha.ext hE17) hr11).mono ?_
    rintro z w18 ⟨A7, c7, rfl, ho18, hb18⟩
    have hr12 := ho18.rdAt.2
    have hB5 := Bi.new w18 (.bool b5) (.slice A7 L5.length c7)
    have hG7 := (Ext.refl w18).al (.cells #[.bool b5, .slice A7 L5.length c7] 56)
    have hE19 := (hE17.tr hb18).tr hG7
    have hr13 := hr12.ext hG7
    clear f0 f1 x0 x1 x2 x3 y0 y1 y2 y3 z0 z1 z2 z3
    go_wp2_with fail
    generalize w18.alloc (.cells #[.bool b5, .slice A7 L5.length c7] 56) = V9 at *
    obtain ⟨j0, j1, -⟩ := hB5.facts
    go_region_held3 (fun w' => w'.cell? ⟨w18.heap.size, 0, none⟩ = some (.bool b5) ∧ w'.cell? ⟨w18.heap.size, 1, none⟩ = some (.slice A7 L5.length c7))
      (first | go_keep | (go_split_ands; refine ⟨?_, ?_⟩ <;> first | (with_reducible assumption) | (refine Ext.cell (w := V9) ?_ ?_ <;> (with_reducible assumption))))
      (first
        | (go_at_call 37; (with_reducible refine (m4 _).mono ?_); rintro z w20 ⟨A8, c8, rfl, ho20, hbq⟩; have hr14 := ho20.rdAt.2; have hE20 : Ext V9 w20 := (Ext.refl V9).drew.tr hbq)
        | (go_at_call 30; (with_reducible refine (m5 A7 A8 c7 c8 _ (hr13.ext hE20) hr14).mono ?_); rintro z w21 ⟨rfl, hbq⟩; have hE21 : Ext V9 w21 := hE20.tr hbq)
        | (go_at_call 9; (with_reducible refine (awake21_c _ (hT.ext (hE19.tr hE21))).mono ?_); rintro z w22 ⟨rfl, hbq⟩; have hE22 : Ext V9 w22 := hE21.tr hbq)
        | fail)
    go_wp2
    go_ret
    exact ⟨rfl, hE19.tr hE22⟩
  · go_wp2_with fail
    refine (t6 _ (hT.ext hE15) (ha.ext hE15)).mono ?_
    rintro z w16 ⟨u, rfl, ⟨v, rfl, ho16⟩, hb16⟩
    obtain ⟨A6, c6, rfl, hr10⟩ := ho16.rd
    have hU := Bx.new w16 (.int .i64 G.kind) (.bool G.neg) (.int .i64 G.exp) (.slice A6 (cn G.mag).length c6)
    have hG6 := (Ext.refl w16).al (.cells #[.int .i64 G.kind, .bool G.neg, .int .i64 G.exp, .slice A6 (cn G.mag).length c6] 28)
    have hF16 := hF15.ext hb16
    have hX16 := hX15.ext hb16
    have hY16 := hY15.ext hb16
    have hZ16 := hZ15.ext hb16
    have hE16 := hE15.tr hb16
    clear f0 f1 x0 x1 x2 x3 y0 y1 y2 y3 z0 z1 z2 z3
    clear p0 p1 p2 p3
    have hlf := hF16.lt
    have hlx := hX16.lt
    obtain ⟨f0, f1⟩ := hF16.facts
    obtain ⟨x0, x1, x2, x3, -⟩ := hX16.facts
    obtain ⟨y0, y1, y2, y3, -⟩ := hY16.facts
    obtain ⟨z0, z1, z2, z3, -⟩ := hZ16.facts
    go_wp2_with fail
    have hF17 := hF16.ext hG6
    have hX17 := hX16.ext hG6
    have hY17 := hY16.ext hG6
    have hZ17 := hZ16.ext hG6
    have hE17 := hE16.tr hG6
    have hr11 := hr10.ext hG6
    refine (t7 A6 c6 _ (hT.ext hE17) (ha.ext hE17) hr11).mono ?_
    rintro z w18 ⟨A7, c7, rfl, ho18, hb18⟩
    have hr12 := ho18.rdAt.2
    have hB5 := Bi.new w18 (.bool b5) (.slice A7 L5.length c7)
    have hG7 := (Ext.refl w18).al (.cells #[.bool b5, .slice A7 L5.length c7] 56)
    have hE19 := (hE17.tr hb18).tr hG7
    have hr13 := hr12.ext hG7
    clear f0 f1 x0 x1 x2 x3 y0 y1 y2 y3 z0 z1 z2 z3
    go_wp2_with fail
    generalize w18.alloc (.cells #[.bool b5, .slice A7 L5.length c7] 56) = V9 at *
    obtain ⟨j0, j1, -⟩ := hB5.facts
    go_region_held3 (fun w' => w'.cell? ⟨w18.heap.size, 0, none⟩ = some (.bool b5) ∧ w'.cell? ⟨w18.heap.size, 1, none⟩ = some (.slice A7 L5.length c7))
      (first | go_keep | (go_split_ands; refine ⟨?_, ?_⟩ <;> first | (with_reducible assumption) | (refine Ext.cell (w := V9) ?_ ?_ <;> (with_reducible assumption))))
      (first
        | (go_at_call 37; (with_reducible refine (m4 _).mono ?_); rintro z w20 ⟨A8, c8, rfl, ho20, hbq⟩; have hr14 := ho20.rdAt.2; have hE20 : Ext V9 w20 := (Ext.refl V9).drew.tr hbq)
        | (go_at_call 30; (with_reducible refine (m5 A7 A8 c7 c8 _ (hr13.ext hE20) hr14).mono ?_); rintro z w21 ⟨rfl, hbq⟩; have hE21 : Ext V9 w21 := hE20.tr hbq)
        | (go_at_call 9; (with_reducible refine (awake21_c _ (hT.ext (hE19.tr hE21))).mono ?_); rintro z w22 ⟨rfl, hbq⟩; have hE22 : Ext V9 w22 := hE21.tr hbq)
        | fail)
    go_wp2
    go_ret
    exact ⟨rfl, hE19.tr hE22⟩
theorem orderCounts_c (k p : Int) (a b d : FA) (w : World) (hT : Tab w) (ha : Rd w a.A a.c a.xs) (hb : Rd w b.A b.c b.xs) (hd : Rd w d.A d.c d.xs) :
    Calls Tryz.prog 7 #[.agg #[.int .i64 k, .int .i64 p], a.v, b.v, d.v] w fun e w' => e = .returned (.bool true) ∧ Ext w w' := by
  by_cases hs : [a, b, d].all (fun a => decide (a.xs.length ≤ 40)) = true
  · by_cases hc : chkS k p [a, b, d] = 0
    · by_cases hk : a.k = 3 ∨ b.k = 3 ∨ d.k = 3
      · exact orderCounts_nan k p a b d w hT ha hb hd hs hc hk
      · exact orderCounts_good k p a b d w hT ha hb hd hs hc hk
    · exact orderCounts_bad k p a b d w hT ha hb hd hs hc
  · exact orderCounts_long k p a b d w hT ha hb hd hs
end Go.Proofs.YtcdgkhmiolhfdaaGreatDoor
