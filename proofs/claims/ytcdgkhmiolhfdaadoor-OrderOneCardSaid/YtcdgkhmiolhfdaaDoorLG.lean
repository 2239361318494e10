/- OrderOne: the walk. -/
import Derived.Test.YtcdgkhmiolhfdaaDoorOE
import Derived.Test.YtcdgkhmiolhfdaaDoorOF
import Derived.Test.YtcdgkhmiolhfdaaDoorTD
set_option linter.unusedVariables false
set_option linter.unusedSimpArgs false
namespace Go.Proofs.YtcdgkhmiolhfdaaDoor
open Go.RowKit
attribute [local go_sem ↓] Go.wp_at_zero Go.wp_at_succ

theorem boxes4 (w : World) (k p : Int) (a b d : FA) : ∀ W, W = ((((w.alloc (.cells #[.int .i64 k, .int .i64 p] 44)).alloc (.cells #[.int .i64 a.k, .bool a.neg, .int .i64 a.e, .slice a.A a.xs.length a.c] 31)).alloc (.cells #[.int .i64 b.k, .bool b.neg, .int .i64 b.e, .slice b.A b.xs.length b.c] 31)).alloc (.cells #[.int .i64 d.k, .bool d.neg, .int .i64 d.e, .slice d.A d.xs.length d.c] 31)) →
    Bf W w.heap.size (.int .i64 k) (.int .i64 p) ∧ Bx W (w.heap.size + 1) (.int .i64 a.k) (.bool a.neg) (.int .i64 a.e) (.slice a.A a.xs.length a.c) ∧ Bx W (w.heap.size + 1 + 1) (.int .i64 b.k) (.bool b.neg) (.int .i64 b.e) (.slice b.A b.xs.length b.c) ∧ Bx W (w.heap.size + 1 + 1 + 1) (.int .i64 d.k) (.bool d.neg) (.int .i64 d.e) (.slice d.A d.xs.length d.c) ∧ Ext w W ∧ W.heap.size = w.heap.size + 1 + 1 + 1 + 1 := by
  rintro W rfl
  obtain ⟨h1, h2, h3, h4⟩ := boxesT w k p a b _ rfl
  have x4 := Bx.new (((w.alloc (.cells #[.int .i64 k, .int .i64 p] 44)).alloc (.cells #[.int .i64 a.k, .bool a.neg, .int .i64 a.e, .slice a.A a.xs.length a.c] 31)).alloc (.cells #[.int .i64 b.k, .bool b.neg, .int .i64 b.e, .slice b.A b.xs.length b.c] 31)) (.int .i64 d.k) (.bool d.neg) (.int .i64 d.e) (.slice d.A d.xs.length d.c)
  rw [World.size_alloc, World.size_alloc, World.size_alloc] at x4
  exact ⟨h1.ext ((Ext.refl _).al _), h2.ext ((Ext.refl _).al _), h3.ext ((Ext.refl _).al _), x4, h4.al _, by simp only [World.size_alloc]⟩
theorem chk_parts {k p : Int} {l : List FA} (h : chkS k p l = 0) : Rgt k p ∧ ∀ a ∈ l, ∃ f, a.can = some f ∧ InF k p f := by
  unfold chkS at h
  by_cases hR : Rgt k p
  · rw [if_pos hR] at h
    refine ⟨hR, fun a ha => ?_⟩
    by_cases hl : l.all (fun a => (holdS k p a.can).isSome) = true
    · have := List.all_eq_true.1 hl a ha
      cases hc : a.can with
      | none => rw [hc] at this; simp [holdS] at this
      | some f =>
        refine ⟨f, rfl, ?_⟩
        by_cases hin : InF k p f
        · exact hin
        · rw [hc] at this; simp [holdS, hin] at this
    · rw [if_neg hl] at h; cases h
  · rw [if_neg hR] at h; cases h
theorem of_can {k p : Int} {a : FA} {f : Fl} (hc : a.can = some f) (hin : InF k p f) (hw : W64 a.xs) (hl : a.xs.length ≤ 4096) : FOf k p f :=
  ⟨canon_ok hc, hin, Nat.le_trans (cn_len_of_le hw (canon_mag hc)) hl⟩
theorem sgn_laws (x y z : Int) : sgn (y - x) = -sgn (x - y) ∧ -1 ≤ sgn (x - y) ∧ sgn (x - y) ≤ 1 ∧ (0 < sgn (x - y) ∨ 0 < sgn (y - z) ∨ sgn (x - z) ≤ 0) ∧ (sgn (x - y) < 0 ∨ sgn (y - z) < 0 ∨ 0 ≤ sgn (x - z)) := by
  have hs : ∀ z : Int, sgn z = if z < 0 then -1 else if 0 < z then 1 else 0 := fun z => rfl
  simp only [hs]
  refine ⟨?_, ?_, ?_, ?_, ?_⟩ <;> (repeat' split) <;> omega
set_option maxHeartbeats 4000000 in
set_option maxRecDepth 100000 in
theorem orderOne_no (k p : Int) (a b d : FA) (w : World) (hT : Tab w) (ha : Rd w a.A a.c a.xs) (hb : Rd w b.A b.c b.xs) (hd : Rd w d.A d.c d.xs) (hno : ¬ ([a, b, d].all (fun a => decide (a.xs.length ≤ 40)) = true ∧ chkS k p [a, b, d] = 0)) :
    Calls Tryd.prog 4 #[.agg #[.int .i64 k, .int .i64 p], a.v, b.v, d.v] w fun e w' => e = .returned (.bool true) ∧ Ext w w' := by
  obtain ⟨hF, hX, hY, hZ, hE, hsz⟩ := boxes4 w k p a b d _ rfl
  have HF := Lib.hid hF
  have HX := Lib.hid hX
  have HY := Lib.hid hY
  have HZ := Lib.hid hZ
  have HE := Lib.hid hE
  have HS := Lib.hid hsz
  clear hF hX hY hZ hE hsz
  have hsh := fun A c w h => short_c A c [a, b, d] w h
  by_cases hs : [a, b, d].all (fun a => decide (a.xs.length ≤ 40)) = true
  · have hc : chkS k p [a, b, d] ≠ 0 := fun h => hno ⟨hs, h⟩
    have hck := fun A c w h => check21_c k p A c [a, b, d] w h (fun i hi => by
      have h1 := List.all_eq_true.1 hs _ (List.getElem_mem hi)
      have := of_decide_eq_true h1
      omega)
    rw [hs] at hsh
    have hcb : (chkS k p [a, b, d] != 0) = true := by rw [bne_iff_ne]; exact hc
    generalize chkS k p [a, b, d] = C at *
    clear hno hs hc
    obtain ⟨ak, an, ae, aA, ac, as1⟩ := a
    obtain ⟨bk, bn, be, bA, bc, bs1⟩ := b
    obtain ⟨dk, dn, de, dA, dc, ds1⟩ := d
    simp only at HF HX HY HZ HE HS ha hb hd
    go_enter Tryd.func4, Tryd.ntmps4
    go_wp2_with fail
    have hF := HF.out
    have hX := HX.out
    have hY := HY.out
    have hZ := HZ.out
    have hE := HE.out
    have hsz := HS.out
    clear HF HX HY HZ HE HS
    generalize ((((w.alloc (.cells #[.int .i64 k, .int .i64 p] 44)).alloc (.cells #[.int .i64 ak, .bool an, .int .i64 ae, .slice aA as1.length ac] 31)).alloc (.cells #[.int .i64 bk, .bool bn, .int .i64 be, .slice bA bs1.length bc] 31)).alloc (.cells #[.int .i64 dk, .bool dn, .int .i64 de, .slice dA ds1.length dc] 31)) = W at *
    have hL := FRd.three W ⟨ak, an, ae, aA, ac, as1⟩ ⟨bk, bn, be, bA, bc, bs1⟩ ⟨dk, dn, de, dA, dc, ds1⟩ (ha.ext hE) (hb.ext hE) (hd.ext hE)
    have hA := (Ext.refl W).al (.cells #[.int .i64 ak, .bool an, .int .i64 ae, .slice aA as1.length ac, .int .i64 bk, .bool bn, .int .i64 be, .slice bA bs1.length bc, .int .i64 dk, .bool dn, .int .i64 de, .slice dA ds1.length dc] 31)
    have hsz1 := World.size_alloc W (.cells #[.int .i64 ak, .bool an, .int .i64 ae, .slice aA as1.length ac, .int .i64 bk, .bool bn, .int .i64 be, .slice bA bs1.length bc, .int .i64 dk, .bool dn, .int .i64 de, .slice dA ds1.length dc] 31)
    rw [hsz] at hL hsz1
    clear hsz
    refine (hsh _ _ _ hL).mono ?_
    rintro z w1 ⟨rfl, rfl⟩
    have hF1 := hF.ext hA
    have hX1 := hX.ext hA
    have hY1 := hY.ext hA
    have hZ1 := hZ.ext hA
    have hE1 := hE.tr hA
    clear hF hX hY hZ hE hA hL
    generalize W.alloc (.cells #[.int .i64 ak, .bool an, .int .i64 ae, .slice aA as1.length ac, .int .i64 bk, .bool bn, .int .i64 be, .slice bA bs1.length bc, .int .i64 dk, .bool dn, .int .i64 de, .slice dA ds1.length dc] 31) = V at *
    obtain ⟨f0, f1⟩ := hF1.facts
    obtain ⟨x0, x1, x2, x3, -⟩ := hX1.facts
    obtain ⟨y0, y1, y2, y3, -⟩ := hY1.facts
    obtain ⟨z0, z1, z2, z3, -⟩ := hZ1.facts
    have hL := FRd.three V ⟨ak, an, ae, aA, ac, as1⟩ ⟨bk, bn, be, bA, bc, bs1⟩ ⟨dk, dn, de, dA, dc, ds1⟩ (ha.ext hE1) (hb.ext hE1) (hd.ext hE1)
    have hA := (Ext.refl V).al (.cells #[.int .i64 ak, .bool an, .int .i64 ae, .slice aA as1.length ac, .int .i64 bk, .bool bn, .int .i64 be, .slice bA bs1.length bc, .int .i64 dk, .bool dn, .int .i64 de, .slice dA ds1.length dc] 31)
    have HS1 := Lib.hid hsz1
    clear hsz1
    go_wp2_with fail
    try rw [HS1.out]
    rw [HS1.out] at hL
    refine (hck _ _ _ hL).mono ?_
    rintro z w2 ⟨rfl, hb2⟩
    have hB2 := hA.tr hb2
    have hF2 := hF1.ext hB2
    have hX2 := hX1.ext hB2
    have hY2 := hY1.ext hB2
    have hZ2 := hZ1.ext hB2
    have hE2 := hE1.tr hB2
    clear f0 f1 x0 x1 x2 x3 y0 y1 y2 y3 z0 z1 z2 z3 hF1 hX1 hY1 hZ1 hL hA hb2 hB2 HS1
    go_wp2_with fail
    refine (awake21_c _ (hT.ext hE2)).mono ?_
    rintro z w9 ⟨rfl, hb9⟩
    go_wp2
    go_ret
    exact ⟨rfl, hE2.tr hb9⟩
  · rw [Bool.eq_false_iff.2 hs] at hsh
    clear hno hs
    obtain ⟨ak, an, ae, aA, ac, as1⟩ := a
    obtain ⟨bk, bn, be, bA, bc, bs1⟩ := b
    obtain ⟨dk, dn, de, dA, dc, ds1⟩ := d
    simp only at HF HX HY HZ HE HS ha hb hd
    go_enter Tryd.func4, Tryd.ntmps4
    go_wp2_with fail
    have hF := HF.out
    have hX := HX.out
    have hY := HY.out
    have hZ := HZ.out
    have hE := HE.out
    have hsz := HS.out
    clear HF HX HY HZ HE HS
    generalize ((((w.alloc (.cells #[.int .i64 k, .int .i64 p] 44)).alloc (.cells #[.int .i64 ak, .bool an, .int .i64 ae, .slice aA as1.length ac] 31)).alloc (.cells #[.int .i64 bk, .bool bn, .int .i64 be, .slice bA bs1.length bc] 31)).alloc (.cells #[.int .i64 dk, .bool dn, .int .i64 de, .slice dA ds1.length dc] 31)) = W at *
    have hL := FRd.three W ⟨ak, an, ae, aA, ac, as1⟩ ⟨bk, bn, be, bA, bc, bs1⟩ ⟨dk, dn, de, dA, dc, ds1⟩ (ha.ext hE) (hb.ext hE) (hd.ext hE)
    have hA := (Ext.refl W).al (.cells #[.int .i64 ak, .bool an, .int .i64 ae, .slice aA as1.length ac, .int .i64 bk, .bool bn, .int .i64 be, .slice bA bs1.length bc, .int .i64 dk, .bool dn, .int .i64 de, .slice dA ds1.length dc] 31)
    have hsz1 := World.size_alloc W (.cells #[.int .i64 ak, .bool an, .int .i64 ae, .slice aA as1.length ac, .int .i64 bk, .bool bn, .int .i64 be, .slice bA bs1.length bc, .int .i64 dk, .bool dn, .int .i64 de, .slice dA ds1.length dc] 31)
    rw [hsz] at hL hsz1
    clear hsz
    refine (hsh _ _ _ hL).mono ?_
    rintro z w1 ⟨rfl, rfl⟩
    have hF1 := hF.ext hA
    have hX1 := hX.ext hA
    have hY1 := hY.ext hA
    have hZ1 := hZ.ext hA
    have hE1 := hE.tr hA
    clear hF hX hY hZ hE hA hL
    generalize W.alloc (.cells #[.int .i64 ak, .bool an, .int .i64 ae, .slice aA as1.length ac, .int .i64 bk, .bool bn, .int .i64 be, .slice bA bs1.length bc, .int .i64 dk, .bool dn, .int .i64 de, .slice dA ds1.length dc] 31) = V at *
    go_wp2_with fail
    refine (awake21_c _ (hT.ext hE1)).mono ?_
    rintro z w9 ⟨rfl, hb9⟩
    go_wp2
    go_ret
    exact ⟨rfl, hE1.tr hb9⟩
set_option maxHeartbeats 8000000 in
set_option maxRecDepth 100000 in
theorem orderOne_yes (k p : Int) (a b d : FA) (w : World) (hT : Tab w) (ha : Rd w a.A a.c a.xs) (hb : Rd w b.A b.c b.xs) (hd : Rd w d.A d.c d.xs) (hs : [a, b, d].all (fun a => decide (a.xs.length ≤ 40)) = true) (hc : chkS k p [a, b, d] = 0) :
    Calls Tryd.prog 4 #[.agg #[.int .i64 k, .int .i64 p], a.v, b.v, d.v] w fun e w' => e = .returned (.bool true) ∧ Ext w w' := by
  obtain ⟨hF, hX, hY, hZ, hE, hsz⟩ := boxes4 w k p a b d _ rfl
  have HF := Lib.hid hF
  have HX := Lib.hid hX
  have HY := Lib.hid hY
  have HZ := Lib.hid hZ
  have HE := Lib.hid hE
  have HS := Lib.hid hsz
  clear hF hX hY hZ hE hsz
  have hsh := fun A c w h => short_c A c [a, b, d] w h
  have hck := fun A c w h => check21_c k p A c [a, b, d] w h (fun i hi => by
      have h1 := List.all_eq_true.1 hs _ (List.getElem_mem hi)
      have := of_decide_eq_true h1
      omega)
  rw [hs] at hsh
  rw [hc] at hck
  obtain ⟨hR, hpt⟩ := chk_parts hc
  have hla : a.xs.length ≤ 40 := of_decide_eq_true (List.all_eq_true.1 hs a (by simp))
  have hlb : b.xs.length ≤ 40 := of_decide_eq_true (List.all_eq_true.1 hs b (by simp))
  have hld : d.xs.length ≤ 40 := of_decide_eq_true (List.all_eq_true.1 hs d (by simp))
  obtain ⟨f, hfc, hfi⟩ := hpt a (by simp)
  obtain ⟨g, hgc, hgi⟩ := hpt b (by simp)
  obtain ⟨q, hqc, hqi⟩ := hpt d (by simp)
  have hf := of_can hfc hfi ha.w64 (by omega)
  have hg := of_can hgc hgi hb.w64 (by omega)
  have hq := of_can hqc hqi hd.w64 (by omega)
  have t1 := fun w hT h h' => Total_good k p hR a b f g (FlsS_two_ok hR (by omega) hfc hfi (by omega) hgc hgi) hf hg w hT h h'
  have t2 := fun w hT h h' => Total_good k p hR b a g f (FlsS_two_ok hR (by omega) hgc hgi (by omega) hfc hfi) hg hf w hT h h'
  have t3 := fun w hT h h' => Total_good k p hR b d g q (FlsS_two_ok hR (by omega) hgc hgi (by omega) hqc hqi) hg hq w hT h h'
  have t4 := fun w hT h h' => Total_good k p hR a d f q (FlsS_two_ok hR (by omega) hfc hfi (by omega) hqc hqi) hf hq w hT h h'
  have hsm := fun w hT h h' => fsame_c a b w hT h h' (by omega) (by omega)
  rw [hfc, hgc, ← same_key hR hf hg] at hsm
  obtain ⟨s1, s2, s3, s4, s5⟩ := sgn_laws (key k p f) (key k p g) (key k p q)
  rw [← tot_key hR hf hg] at s1 s2 s3 s4 s5
  rw [← tot_key hR hg hf] at s1
  rw [← tot_key hR hg hq, ← tot_key hR hf hq] at s4 s5
  generalize totF k p f g = X at *
  generalize totF k p g f = Y at *
  generalize totF k p g q = Z at *
  generalize totF k p f q = U at *
  clear hs hc hpt hla hlb hld hfc hfi hgc hgi hqc hqi hf hg hq hR
  have n1 : wrap64 (-Y) = X := by unfold wrap64; omega
  have n2 : decide (-1 ≤ X) = true := decide_eq_true s2
  have n3 : decide (X ≤ 1) = true := decide_eq_true s3
  have n4 : decide (0 < X) = true ∨ (decide (0 < X) = false ∧ decide (0 < Z) = true) ∨ (decide (0 < X) = false ∧ decide (0 < Z) = false ∧ decide (U ≤ 0) = true) := by
    by_cases h1 : 0 < X
    · exact .inl (decide_eq_true h1)
    · by_cases h2 : 0 < Z
      · exact .inr (.inl ⟨decide_eq_false h1, decide_eq_true h2⟩)
      · exact .inr (.inr ⟨decide_eq_false h1, decide_eq_false h2, decide_eq_true (by omega)⟩)
  have n5 : decide (X < 0) = true ∨ (decide (X < 0) = false ∧ decide (Z < 0) = true) ∨ (decide (X < 0) = false ∧ decide (Z < 0) = false ∧ decide (0 ≤ U) = true) := by
    by_cases h1 : X < 0
    · exact .inl (decide_eq_true h1)
    · by_cases h2 : Z < 0
      · exact .inr (.inl ⟨decide_eq_false h1, decide_eq_true h2⟩)
      · exact .inr (.inr ⟨decide_eq_false h1, decide_eq_false h2, decide_eq_true (by omega)⟩)
  clear s1 s2 s3 s4 s5
  obtain ⟨ak, an, ae, aA, ac, as1⟩ := a
  obtain ⟨bk, bn, be, bA, bc, bs1⟩ := b
  obtain ⟨dk, dn, de, dA, dc, ds1⟩ := d
  simp only at HF HX HY HZ HE HS ha hb hd t1 t2 t3 t4 hsm
  go_enter Tryd.func4, Tryd.ntmps4
  go_wp2_with fail
  have hF := HF.out
  have hX := HX.out
  have hY := HY.out
  have hZ := HZ.out
  have hE := HE.out
  have hsz := HS.out
  clear HF HX HY HZ HE HS
  generalize ((((w.alloc (.cells #[.int .i64 k, .int .i64 p] 44)).alloc (.cells #[.int .i64 ak, .bool an, .int .i64 ae, .slice aA as1.length ac] 31)).alloc (.cells #[.int .i64 bk, .bool bn, .int .i64 be, .slice bA bs1.length bc] 31)).alloc (.cells #[.int .i64 dk, .bool dn, .int .i64 de, .slice dA ds1.length dc] 31)) = W at *
  have hL := FRd.three W ⟨ak, an, ae, aA, ac, as1⟩ ⟨bk, bn, be, bA, bc, bs1⟩ ⟨dk, dn, de, dA, dc, ds1⟩ (ha.ext hE) (hb.ext hE) (hd.ext hE)
  have hA := (Ext.refl W).al (.cells #[.int .i64 ak, .bool an, .int .i64 ae, .slice aA as1.length ac, .int .i64 bk, .bool bn, .int .i64 be, .slice bA bs1.length bc, .int .i64 dk, .bool dn, .int .i64 de, .slice dA ds1.length dc] 31)
  have hsz1 := World.size_alloc W (.cells #[.int .i64 ak, .bool an, .int .i64 ae, .slice aA as1.length ac, .int .i64 bk, .bool bn, .int .i64 be, .slice bA bs1.length bc, .int .i64 dk, .bool dn, .int .i64 de, .slice dA ds1.length dc] 31)
  rw [hsz] at hL hsz1
  clear hsz
  refine (hsh _ _ _ hL).mono ?_
  rintro z w1 ⟨rfl, rfl⟩
  have hF1 := hF.ext hA
  have hX1 := hX.ext hA
  have hY1 := hY.ext hA
  have hZ1 := hZ.ext hA
  have hE1 := hE.tr hA
  clear hF hX hY hZ hE hA hL
  generalize W.alloc (.cells #[.int .i64 ak, .bool an, .int .i64 ae, .slice aA as1.length ac, .int .i64 bk, .bool bn, .int .i64 be, .slice bA bs1.length bc, .int .i64 dk, .bool dn, .int .i64 de, .slice dA ds1.length dc] 31) = V at *
  obtain ⟨f0, f1⟩ := hF1.facts
  obtain ⟨x0, x1, x2, x3, -⟩ := hX1.facts
  obtain ⟨y0, y1, y2, y3, -⟩ := hY1.facts
  obtain ⟨z0, z1, z2, z3, -⟩ := hZ1.facts
  have hL := FRd.three V ⟨ak, an, ae, aA, ac, as1⟩ ⟨bk, bn, be, bA, bc, bs1⟩ ⟨dk, dn, de, dA, dc, ds1⟩ (ha.ext hE1) (hb.ext hE1) (hd.ext hE1)
  have hA := (Ext.refl V).al (.cells #[.int .i64 ak, .bool an, .int .i64 ae, .slice aA as1.length ac, .int .i64 bk, .bool bn, .int .i64 be, .slice bA bs1.length bc, .int .i64 dk, .bool dn, .int .i64 de, .slice dA ds1.length dc] 31)
  have HS1 := Lib.hid hsz1
  clear hsz1
  go_wp2_with fail
  try rw [HS1.out]
  rw [HS1.out] at hL
  refine (hck _ _ _ hL).mono ?_
  rintro z w2 ⟨rfl, hb2⟩
  have hB2 := hA.tr hb2
  have hF2 := hF1.ext hB2
  have hX2 := hX1.ext hB2
  have hY2 := hY1.ext hB2
  have hZ2 := hZ1.ext hB2
  have hE2 := hE1.tr hB2
  clear f0 f1 x0 x1 x2 x3 y0 y1 y2 y3 z0 z1 z2 z3 hF1 hX1 hY1 hZ1 hL hA hb2 hB2 HS1
  obtain ⟨f0, f1⟩ := hF2.facts
  obtain ⟨x0, x1, x2, x3, -⟩ := hX2.facts
  obtain ⟨y0, y1, y2, y3, -⟩ := hY2.facts
  go_wp2_with fail
  refine (t1 _ (hT.ext hE2) (ha.ext hE2) (hb.ext hE2)).mono ?_
  rintro z w3 ⟨rfl, hb3⟩
  have hE3 := hE2.tr hb3
  have hF3 := hF2.ext hb3
  have hX3 := hX2.ext hb3
  have hY3 := hY2.ext hb3
  have hZ3 := hZ2.ext hb3
  clear f0 f1 x0 x1 x2 x3 y0 y1 y2 y3 hF2 hX2 hY2 hZ2 hb3
  obtain ⟨f0, f1⟩ := hF3.facts
  obtain ⟨x0, x1, x2, x3, -⟩ := hX3.facts
  obtain ⟨y0, y1, y2, y3, -⟩ := hY3.facts
  go_wp2_with fail
  refine (t2 _ (hT.ext hE3) (hb.ext hE3) (ha.ext hE3)).mono ?_
  rintro z w4 ⟨rfl, hb4⟩
  have hE4 := hE3.tr hb4
  have hF4 := hF3.ext hb4
  have hX4 := hX3.ext hb4
  have hY4 := hY3.ext hb4
  have hZ4 := hZ3.ext hb4
  clear f0 f1 x0 x1 x2 x3 y0 y1 y2 y3 hF3 hX3 hY3 hZ3 hb4
  obtain ⟨f0, f1⟩ := hF4.facts
  obtain ⟨y0, y1, y2, y3, -⟩ := hY4.facts
  obtain ⟨z0, z1, z2, z3, -⟩ := hZ4.facts
  go_wp2_with fail
  refine (t3 _ (hT.ext hE4) (hb.ext hE4) (hd.ext hE4)).mono ?_
  rintro z w5 ⟨rfl, hb5⟩
  have hE5 := hE4.tr hb5
  have hF5 := hF4.ext hb5
  have hX5 := hX4.ext hb5
  have hY5 := hY4.ext hb5
  have hZ5 := hZ4.ext hb5
  clear f0 f1 y0 y1 y2 y3 z0 z1 z2 z3 hF4 hX4 hY4 hZ4 hb5
  obtain ⟨f0, f1⟩ := hF5.facts
  obtain ⟨x0, x1, x2, x3, -⟩ := hX5.facts
  obtain ⟨z0, z1, z2, z3, -⟩ := hZ5.facts
  go_wp2_with fail
  refine (t4 _ (hT.ext hE5) (ha.ext hE5) (hd.ext hE5)).mono ?_
  rintro z w6 ⟨rfl, hb6⟩
  have hE6 := hE5.tr hb6
  have hX6 := hX5.ext hb6
  have hY6 := hY5.ext hb6
  clear f0 f1 x0 x1 x2 x3 z0 z1 z2 z3 hF5 hX5 hY5 hZ5 hb6 t1 t2 t3 t4 hsh hck
  obtain ⟨x0, x1, x2, x3, -⟩ := hX6.facts
  obtain ⟨y0, y1, y2, y3, -⟩ := hY6.facts
  have hself : ∀ B : Bool, (B == B) = true := fun B => by simp
  go_wp2_with fail
  refine (hsm _ (hT.ext hE6) (ha.ext hE6) (hb.ext hE6)).mono ?_
  rintro z w7 ⟨rfl, hb7⟩
  have hE7 := hE6.tr hb7
  clear hX6 hY6 x0 x1 x2 x3 y0 y1 y2 y3 hsm hb7
  rcases n4 with n4 | ⟨n4, n6⟩ | ⟨n4, n6, n7⟩ <;> rcases n5 with n5 | ⟨n5, n8⟩ | ⟨n5, n8, n9⟩
  all_goals
    go_wp2_with fail
    refine (awake21_c _ (hT.ext hE7)).mono ?_
    rintro z w9 ⟨rfl, hb9⟩
    go_wp2
    go_ret
    exact ⟨rfl, hE7.tr hb9⟩
theorem orderOne_c (k p : Int) (a b d : FA) (w : World) (hT : Tab w) (ha : Rd w a.A a.c a.xs) (hb : Rd w b.A b.c b.xs) (hd : Rd w d.A d.c d.xs) :
    Calls Tryd.prog 4 #[.agg #[.int .i64 k, .int .i64 p], a.v, b.v, d.v] w fun e w' => e = .returned (.bool true) ∧ Ext w w' := by
  by_cases h : [a, b, d].all (fun a => decide (a.xs.length ≤ 40)) = true ∧ chkS k p [a, b, d] = 0
  · exact orderOne_yes k p a b d w hT ha hb hd h.1 h.2
  · exact orderOne_no k p a b d w hT ha hb hd h
end Go.Proofs.YtcdgkhmiolhfdaaDoor
