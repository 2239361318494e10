/- OrderMins: the walk. -/
import Derived.Test.YtcdgkhmiolhfdaaGreatDoorRA
import Derived.Test.YtcdgkhmiolhfdaaGreatDoorRC
import Derived.Test.YtcdgkhmiolhfdaaGreatDoorTG

set_option linter.unusedVariables false
set_option linter.unusedSimpArgs false
namespace Go.Proofs.YtcdgkhmiolhfdaaGreatDoor
open Go.RowKit
attribute [local go_sem ↓] Go.wp_at_zero Go.wp_at_succ

set_option maxHeartbeats 4000000 in
set_option maxRecDepth 100000 in
theorem orderMins_long (k p : Int) (a b : FA) (w : World) (hT : Tab w) (ha : Rd w a.A a.c a.xs) (hb : Rd w b.A b.c b.xs) (hs : ¬ [a, b].all (fun a => decide (a.xs.length ≤ 40)) = true) :
    Calls Tryz.prog 4 #[.agg #[.int .i64 k, .int .i64 p], a.v, b.v] w fun e w' => e = .returned (.bool true) ∧ Ext w w' := by
  obtain ⟨hF, hX, hY, hE, hsz⟩ := boxesV2 w k p a b _ rfl
  have HF := Lib.hid hF
  have HX := Lib.hid hX
  have HY := Lib.hid hY
  have HE := Lib.hid hE
  have HS := Lib.hid hsz
  clear hF hX hY hE hsz
  have hsh := fun A c w h => short_c A c [a, b] w h
  rw [Bool.eq_false_iff.2 hs] at hsh
  clear hs
  obtain ⟨ak, an, ae, aA, ac, as1⟩ := a
  obtain ⟨bk, bn, be, bA, bc, bs1⟩ := b
  simp only at HF HX HY HE HS ha hb
  go_enter Tryz.func4, Tryz.ntmps4
  go_wp2_with fail
  have hF := HF.out
  have hX := HX.out
  have hY := HY.out
  have hE := HE.out
  have hsz := HS.out
  clear HF HX HY HE HS
  generalize (((w.alloc (.cells #[.int .i64 k, .int .i64 p] 23)).alloc (.cells #[.int .i64 ak, .bool an, .int .i64 ae, .slice aA as1.length ac] 28)).alloc (.cells #[.int .i64 bk, .bool bn, .int .i64 be, .slice bA bs1.length bc] 28)) = W at *
  have hL := FRd.two W ⟨ak, an, ae, aA, ac, as1⟩ ⟨bk, bn, be, bA, bc, bs1⟩ (ha.ext hE) (hb.ext hE)
  have hA := (Ext.refl W).al (.cells #[.int .i64 ak, .bool an, .int .i64 ae, .slice aA as1.length ac, .int .i64 bk, .bool bn, .int .i64 be, .slice bA bs1.length bc] 28)
  have hsz1 := World.size_alloc W (.cells #[.int .i64 ak, .bool an, .int .i64 ae, .slice aA as1.length ac, .int .i64 bk, .bool bn, .int .i64 be, .slice bA bs1.length bc] 28)
  rw [hsz] at hL hsz1
  clear hsz
  refine (hsh _ _ _ hL).mono ?_
  rintro z w1 ⟨rfl, rfl⟩
  have hF1 := hF.ext hA
  have hX1 := hX.ext hA
  have hY1 := hY.ext hA
  have hE1 := hE.tr hA
  clear hF hX hY hE hA hL
  generalize W.alloc (.cells #[.int .i64 ak, .bool an, .int .i64 ae, .slice aA as1.length ac, .int .i64 bk, .bool bn, .int .i64 be, .slice bA bs1.length bc] 28) = V at *
  clear hsz1
  go_wp2_with fail
  refine (awake21_c _ (hT.ext hE1)).mono ?_
  rintro z w99 ⟨rfl, hb99⟩
  go_wp2
  go_ret
  exact ⟨rfl, hE1.tr hb99⟩
set_option maxHeartbeats 8000000 in
set_option maxRecDepth 100000 in
theorem orderMins_bad (k p : Int) (a b : FA) (w : World) (hT : Tab w) (ha : Rd w a.A a.c a.xs) (hb : Rd w b.A b.c b.xs) (hs : [a, b].all (fun a => decide (a.xs.length ≤ 40)) = true) (hc : chkS k p [a, b] ≠ 0) :
    Calls Tryz.prog 4 #[.agg #[.int .i64 k, .int .i64 p], a.v, b.v] w fun e w' => e = .returned (.bool true) ∧ Ext w w' := by
  obtain ⟨hF, hX, hY, hE, hsz⟩ := boxesV2 w k p a b _ rfl
  have HF := Lib.hid hF
  have HX := Lib.hid hX
  have HY := Lib.hid hY
  have HE := Lib.hid hE
  have HS := Lib.hid hsz
  clear hF hX hY hE hsz
  have hsh := fun A c w h => short_c A c [a, b] w h
  have hck := fun A c w h => check21_c k p A c [a, b] w h (fun i hi => by
      have h1 := List.all_eq_true.1 hs _ (List.getElem_mem hi)
      have := of_decide_eq_true h1
      omega)
  have hla : a.xs.length ≤ 40 := of_decide_eq_true (List.all_eq_true.1 hs a (by simp))
  have hlb : b.xs.length ≤ 40 := of_decide_eq_true (List.all_eq_true.1 hs b (by simp))
  rw [hs] at hsh
  have hfl := FlsS_chk (k := k) (p := p) (l := [a, b]) (fun x hx => by
      have := of_decide_eq_true (List.all_eq_true.1 hs x hx)
      omega) hc
  have hcb : (chkS k p [a, b] != 0) = true := by rw [bne_iff_ne]; exact hc
  have t1 := fun w hT h h' => Min_w k p a b _ ⟨0, false, 0, 0⟩ (fun w hT h h' => choose_bad k p a b (-1) _ hfl hc w hT h h') w hT h h'
  have t2 := fun w hT h h' => Max_w k p a b _ ⟨0, false, 0, 0⟩ (fun w hT h h' => choose_bad k p a b 1 _ hfl hc w hT h h') w hT h h'
  have hnn := fun A c w => none_c 0 0 false A 0 c w
  simp only [show decide ((0 : Int) = 0 ∧ false = false ∧ (0 : Int) = 0 ∧ (0 : Nat) = 0) = true by decide] at hnn
  clear hfl hc hs hla hlb
  unfold FErr FlR at t1 t2
  have hself : (chkS k p [a, b] == chkS k p [a, b]) = true := by simp
  generalize chkS k p [a, b] = C at *
  obtain ⟨ak, an, ae, aA, ac, as1⟩ := a
  obtain ⟨bk, bn, be, bA, bc, bs1⟩ := b
  simp only at HF HX HY HE HS ha hb t1 t2
  go_enter Tryz.func4, Tryz.ntmps4
  go_wp2_with fail
  have hF := HF.out
  have hX := HX.out
  have hY := HY.out
  have hE := HE.out
  have hsz := HS.out
  clear HF HX HY HE HS
  generalize (((w.alloc (.cells #[.int .i64 k, .int .i64 p] 23)).alloc (.cells #[.int .i64 ak, .bool an, .int .i64 ae, .slice aA as1.length ac] 28)).alloc (.cells #[.int .i64 bk, .bool bn, .int .i64 be, .slice bA bs1.length bc] 28)) = W at *
  have hL := FRd.two W ⟨ak, an, ae, aA, ac, as1⟩ ⟨bk, bn, be, bA, bc, bs1⟩ (ha.ext hE) (hb.ext hE)
  have hA := (Ext.refl W).al (.cells #[.int .i64 ak, .bool an, .int .i64 ae, .slice aA as1.length ac, .int .i64 bk, .bool bn, .int .i64 be, .slice bA bs1.length bc] 28)
  have hsz1 := World.size_alloc W (.cells #[.int .i64 ak, .bool an, .int .i64 ae, .slice aA as1.length ac, .int .i64 bk, .bool bn, .int .i64 be, .slice bA bs1.length bc] 28)
  rw [hsz] at hL hsz1
  clear hsz
  refine (hsh _ _ _ hL).mono ?_
  rintro z w1 ⟨rfl, rfl⟩
  have hF1 := hF.ext hA
  have hX1 := hX.ext hA
  have hY1 := hY.ext hA
  have hE1 := hE.tr hA
  clear hF hX hY hE hA hL
  generalize W.alloc (.cells #[.int .i64 ak, .bool an, .int .i64 ae, .slice aA as1.length ac, .int .i64 bk, .bool bn, .int .i64 be, .slice bA bs1.length bc] 28) = V at *
  clear hsz1
  obtain ⟨f0, f1⟩ := hF1.facts
  obtain ⟨x0, x1, x2, x3, -⟩ := hX1.facts
  obtain ⟨y0, y1, y2, y3, -⟩ := hY1.facts
  go_wp2_with fail
  refine (t1 _ (hT.ext hE1) (ha.ext hE1) (hb.ext hE1)).mono ?_
  rintro z w2 ⟨u, rfl, ⟨v, rfl, ho2⟩, hb2⟩
  rw [show cn (0 : Nat) = [] from digs_zero B] at ho2
  obtain ⟨A1, c1, rfl, hr1⟩ := ho2.rd
  simp only [List.length_nil]
  have hP1 := Bx.new w2 (.int .i64 0) (.bool false) (.int .i64 0) (.slice A1 0 c1)
  have hG1 := (Ext.refl w2).al (.cells #[.int .i64 0, .bool false, .int .i64 0, .slice A1 0 c1] 28)
  have hF2 := hF1.ext hb2
  have hX2 := hX1.ext hb2
  have hY2 := hY1.ext hb2
  have hE2 := hE1.tr hb2
  clear f0 f1 x0 x1 x2 x3 y0 y1 y2 y3
  clear hF1 hX1 hY1 hE1 hb2
  have hlf := hF2.lt
  have hlx := hX2.lt
  have hly := hY2.lt
  obtain ⟨f0, f1⟩ := hF2.facts
  obtain ⟨x0, x1, x2, x3, -⟩ := hX2.facts
  obtain ⟨y0, y1, y2, y3, -⟩ := hY2.facts
  go_wp2_with fail
  have hF3 := hF2.ext hG1
  have hX3 := hX2.ext hG1
  have hY3 := hY2.ext hG1
  have hE3 := hE2.tr hG1
  refine (t2 _ (hT.ext hE3) (ha.ext hE3) (hb.ext hE3)).mono ?_
  rintro z w4 ⟨u, rfl, ⟨v, rfl, ho4⟩, hb4⟩
  rw [show cn (0 : Nat) = [] from digs_zero B] at ho4
  obtain ⟨A2, c2, rfl, hr2⟩ := ho4.rd
  simp only [List.length_nil]
  have hP2 := Bx.new w4 (.int .i64 0) (.bool false) (.int .i64 0) (.slice A2 0 c2)
  have hG2 := (Ext.refl w4).al (.cells #[.int .i64 0, .bool false, .int .i64 0, .slice A2 0 c2] 28)
  have hF4 := hF3.ext hb4
  have hX4 := hX3.ext hb4
  have hY4 := hY3.ext hb4
  have hE4 := hE3.tr hb4
  have hQ4 := hP1.ext hb4
  clear f0 f1 x0 x1 x2 x3 y0 y1 y2 y3
  clear hF2 hX2 hY2 hE2 hF3 hX3 hY3 hE3 hb4 hlf hlx hly
  have hlf := hF4.lt
  have hlx := hX4.lt
  have hly := hY4.lt
  have hlq := hQ4.lt
  obtain ⟨f0, f1⟩ := hF4.facts
  obtain ⟨x0, x1, x2, x3, -⟩ := hX4.facts
  obtain ⟨y0, y1, y2, y3, -⟩ := hY4.facts
  have hF5 := hF4.ext hG2
  have hX5 := hX4.ext hG2
  have hY5 := hY4.ext hG2
  have hE5 := hE4.tr hG2
  have hQ5 := hQ4.ext hG2
  have hL := FRd.two _ ⟨ak, an, ae, aA, ac, as1⟩ ⟨bk, bn, be, bA, bc, bs1⟩ (ha.ext hE5) (hb.ext hE5)
  have hA := (Ext.refl (w4.alloc (.cells #[.int .i64 0, .bool false, .int .i64 0, .slice A2 0 c2] 28))).al (.cells #[.int .i64 ak, .bool an, .int .i64 ae, .slice aA as1.length ac, .int .i64 bk, .bool bn, .int .i64 be, .slice bA bs1.length bc] 28)
  go_wp2_with fail
  rw [World.size_alloc] at hL
  refine (hck _ _ _ hL).mono ?_
  rintro z w6 ⟨rfl, hb6⟩
  replace hb6 := hA.tr hb6
  have hE6 := hE5.tr hb6
  clear f0 f1 x0 x1 x2 x3 y0 y1 y2 y3
  obtain ⟨q0, q1, q2, q3, -⟩ := (hQ5.ext hb6).facts
  go_wp2_with fail
  refine (hnn _ _ _).mono ?_
  rintro z w7 ⟨rfl, hb7⟩
  have hE7 := hE6.tr hb7
  clear q0 q1 q2 q3
  obtain ⟨q0, q1, q2, q3, -⟩ := ((hP2.ext hb6).ext hb7).facts
  go_wp2_with fail
  refine (hnn _ _ _).mono ?_
  rintro z w8 ⟨rfl, hb8⟩
  have hE8 := hE7.tr hb8
  clear q0 q1 q2 q3
  go_wp2_with fail
  refine (awake21_c _ (hT.ext hE8)).mono ?_
  rintro z w99 ⟨rfl, hb99⟩
  go_wp2
  go_ret
  exact ⟨rfl, hE8.tr hb99⟩
set_option maxHeartbeats 8000000 in
set_option maxRecDepth 100000 in
theorem orderMins_good (k p : Int) (a b : FA) (w : World) (hT : Tab w) (ha : Rd w a.A a.c a.xs) (hb : Rd w b.A b.c b.xs) (hs : [a, b].all (fun a => decide (a.xs.length ≤ 40)) = true) (hc : chkS k p [a, b] = 0) :
    Calls Tryz.prog 4 #[.agg #[.int .i64 k, .int .i64 p], a.v, b.v] w fun e w' => e = .returned (.bool true) ∧ Ext w w' := by
  obtain ⟨hF, hX, hY, hE, hsz⟩ := boxesV2 w k p a b _ rfl
  have HF := Lib.hid hF
  have HX := Lib.hid hX
  have HY := Lib.hid hY
  have HE := Lib.hid hE
  have HS := Lib.hid hsz
  clear hF hX hY hE hsz
  have hsh := fun A c w h => short_c A c [a, b] w h
  have hck := fun A c w h => check21_c k p A c [a, b] w h (fun i hi => by
      have h1 := List.all_eq_true.1 hs _ (List.getElem_mem hi)
      have := of_decide_eq_true h1
      omega)
  have hla : a.xs.length ≤ 40 := of_decide_eq_true (List.all_eq_true.1 hs a (by simp))
  have hlb : b.xs.length ≤ 40 := of_decide_eq_true (List.all_eq_true.1 hs b (by simp))
  rw [hs] at hsh
  rw [hc] at hck
  obtain ⟨hR, hpt⟩ := chk_good hc
  obtain ⟨f, hfc, hfi⟩ := hpt a (by simp)
  obtain ⟨g, hgc, hgi⟩ := hpt b (by simp)
  have hf := of_good hfc hfi ha.w64 (by omega)
  have hg := of_good hgc hgi hb.w64 (by omega)
  have hfl := FlsS_two_ok hR (by omega) hfc hfi (by omega) hgc hgi
  have t1 := fun w hT h h' => Min_w k p a b _ _ (fun w hT h h' => choose_good k p hR a b f g (-1) hfl hf hg w hT h h') w hT h h'
  have t2 := fun w hT h h' => Max_w k p a b _ _ (fun w hT h h' => choose_good k p hR a b f g 1 hfl hf hg w hT h h') w hT h h'
  have t3 := fun w h h' => rleast21_c k p hR a b f g hfc hgc hf hg (by omega) (by omega) w h h'
  have t4 := fun w h h' => rmost21_c k p hR a b f g hfc hgc hf hg (by omega) (by omega) w h h'
  have o1 := cho_of (-1) hf hg
  have o2 := cho_of 1 hf hg
  have hi1 := fun A A' c c' w h h' => lis_own _ o1.ok o1.len A A' c c' w h h'
  have hi2 := fun A A' c c' w h h' => lis_own _ o2.ok o2.len A A' c c' w h h'
  have hta := fun w => their_c a.k a.e a.neg a.A a.xs.length a.c w
  have htb := fun w => their_c b.k b.e b.neg b.A b.xs.length b.c w
  unfold FErr FlR at t1 t2
  unfold FlR at t3 t4
  clear hfl hf hg hs hc hR hpt hfc hgc hfi hgi hla hlb o1 o2
  generalize choF k p f g (-1) = G at *
  generalize choF k p f g 1 = H at *
  clear f g
  obtain ⟨ak, an, ae, aA, ac, as1⟩ := a
  obtain ⟨bk, bn, be, bA, bc, bs1⟩ := b
  simp only at HF HX HY HE HS ha hb t1 t2 t3 t4 hta htb
  go_enter Tryz.func4, Tryz.ntmps4
  go_wp2_with fail
  have hF := HF.out
  have hX := HX.out
  have hY := HY.out
  have hE := HE.out
  have hsz := HS.out
  clear HF HX HY HE HS
  generalize (((w.alloc (.cells #[.int .i64 k, .int .i64 p] 23)).alloc (.cells #[.int .i64 ak, .bool an, .int .i64 ae, .slice aA as1.length ac] 28)).alloc (.cells #[.int .i64 bk, .bool bn, .int .i64 be, .slice bA bs1.length bc] 28)) = W at *
  have hL := FRd.two W ⟨ak, an, ae, aA, ac, as1⟩ ⟨bk, bn, be, bA, bc, bs1⟩ (ha.ext hE) (hb.ext hE)
  have hA := (Ext.refl W).al (.cells #[.int .i64 ak, .bool an, .int .i64 ae, .slice aA as1.length ac, .int .i64 bk, .bool bn, .int .i64 be, .slice bA bs1.length bc] 28)
  have hsz1 := World.size_alloc W (.cells #[.int .i64 ak, .bool an, .int .i64 ae, .slice aA as1.length ac, .int .i64 bk, .bool bn, .int .i64 be, .slice bA bs1.length bc] 28)
  rw [hsz] at hL hsz1
  clear hsz
  refine (hsh _ _ _ hL).mono ?_
  rintro z w1 ⟨rfl, rfl⟩
  have hF1 := hF.ext hA
  have hX1 := hX.ext hA
  have hY1 := hY.ext hA
  have hE1 := hE.tr hA
  clear hF hX hY hE hA hL
  generalize W.alloc (.cells #[.int .i64 ak, .bool an, .int .i64 ae, .slice aA as1.length ac, .int .i64 bk, .bool bn, .int .i64 be, .slice bA bs1.length bc] 28) = V at *
  clear hsz1
  obtain ⟨f0, f1⟩ := hF1.facts
  obtain ⟨x0, x1, x2, x3, -⟩ := hX1.facts
  obtain ⟨y0, y1, y2, y3, -⟩ := hY1.facts
  go_wp2_with fail
  refine (t1 _ (hT.ext hE1) (ha.ext hE1) (hb.ext hE1)).mono ?_
  rintro z w2 ⟨u, rfl, ⟨v, rfl, ho2⟩, hb2⟩
  obtain ⟨A1, c1, rfl, hr1⟩ := ho2.rd
  have hP1 := Bx.new w2 (.int .i64 G.kind) (.bool G.neg) (.int .i64 G.exp) (.slice A1 (cn G.mag).length c1)
  have hG1 := (Ext.refl w2).al (.cells #[.int .i64 G.kind, .bool G.neg, .int .i64 G.exp, .slice A1 (cn G.mag).length c1] 28)
  have hF2 := hF1.ext hb2
  have hX2 := hX1.ext hb2
  have hY2 := hY1.ext hb2
  have hE2 := hE1.tr hb2
  clear f0 f1 x0 x1 x2 x3 y0 y1 y2 y3
  clear hF1 hX1 hY1 hE1 hb2
  have hlf := hF2.lt
  have hlx := hX2.lt
  have hly := hY2.lt
  obtain ⟨f0, f1⟩ := hF2.facts
  obtain ⟨x0, x1, x2, x3, -⟩ := hX2.facts
  obtain ⟨y0, y1, y2, y3, -⟩ := hY2.facts
  go_wp2_with fail
  have hF3 := hF2.ext hG1
  have hX3 := hX2.ext hG1
  have hY3 := hY2.ext hG1
  have hE3 := hE2.tr hG1
  have hr13 := hr1.ext hG1
  refine (t2 _ (hT.ext hE3) (ha.ext hE3) (hb.ext hE3)).mono ?_
  rintro z w4 ⟨u, rfl, ⟨v, rfl, ho4⟩, hb4⟩
  obtain ⟨A2, c2, rfl, hr2⟩ := ho4.rd
  have hP2 := Bx.new w4 (.int .i64 H.kind) (.bool H.neg) (.int .i64 H.exp) (.slice A2 (cn H.mag).length c2)
  have hG2 := (Ext.refl w4).al (.cells #[.int .i64 H.kind, .bool H.neg, .int .i64 H.exp, .slice A2 (cn H.mag).length c2] 28)
  have hF4 := hF3.ext hb4
  have hX4 := hX3.ext hb4
  have hY4 := hY3.ext hb4
  have hE4 := hE3.tr hb4
  have hQ4 := hP1.ext hb4
  clear f0 f1 x0 x1 x2 x3 y0 y1 y2 y3
  clear hF2 hX2 hY2 hE2 hF3 hX3 hY3 hE3 hlf hlx hly
  have hlf := hF4.lt
  have hlx := hX4.lt
  have hly := hY4.lt
  have hlq := hQ4.lt
  obtain ⟨f0, f1⟩ := hF4.facts
  obtain ⟨x0, x1, x2, x3, -⟩ := hX4.facts
  obtain ⟨y0, y1, y2, y3, -⟩ := hY4.facts
  have hF5 := hF4.ext hG2
  have hX5 := hX4.ext hG2
  have hY5 := hY4.ext hG2
  have hE5 := hE4.tr hG2
  have hQ5 := hQ4.ext hG2
  have hr15 := (hr13.ext hb4).ext hG2
  have hr25 := hr2.ext hG2
  have hL := FRd.two _ ⟨ak, an, ae, aA, ac, as1⟩ ⟨bk, bn, be, bA, bc, bs1⟩ (ha.ext hE5) (hb.ext hE5)
  have hA := (Ext.refl (w4.alloc (.cells #[.int .i64 H.kind, .bool H.neg, .int .i64 H.exp, .slice A2 (cn H.mag).length c2] 28))).al (.cells #[.int .i64 ak, .bool an, .int .i64 ae, .slice aA as1.length ac, .int .i64 bk, .bool bn, .int .i64 be, .slice bA bs1.length bc] 28)
  go_wp2_with fail
  rw [World.size_alloc] at hL
  refine (hck _ _ _ hL).mono ?_
  rintro z w6 ⟨rfl, hb6⟩
  replace hb6 := hA.tr hb6
  have hX6 := hX5.ext hb6
  have hY6 := hY5.ext hb6
  have hE6 := hE5.tr hb6
  have hQ6 := hQ5.ext hb6
  have hP6 := hP2.ext hb6
  have hr16 := hr15.ext hb6
  have hr26 := hr25.ext hb6
  clear f0 f1 x0 x1 x2 x3 y0 y1 y2 y3
  clear hF4 hX4 hY4 hE4 hF5 hX5 hY5 hE5 hQ4 hQ5 hP1 hP2 hG1 hG2 hb4 hb6 hL hA hlf hlx hly hlq hr1 hr2 hr13 hr15 hr25 ho2 ho4
  obtain ⟨x0, x1, x2, x3, -⟩ := hX6.facts
  obtain ⟨y0, y1, y2, y3, -⟩ := hY6.facts
  obtain ⟨q0, q1, q2, q3, -⟩ := hQ6.facts
  obtain ⟨p0, p1, p2, p3, -⟩ := hP6.facts
  go_wp2_with fail
  go_region_held3 (fun w' => w'.cell? ⟨w.heap.size + 1, 0, none⟩ = some (.int .i64 ak) ∧ w'.cell? ⟨w.heap.size + 1, 1, none⟩ = some (.bool an) ∧ w'.cell? ⟨w.heap.size + 1, 2, none⟩ = some (.int .i64 ae) ∧ w'.cell? ⟨w.heap.size + 1, 3, none⟩ = some (.slice aA as1.length ac) ∧ w'.cell? ⟨w.heap.size + 1 + 1, 0, none⟩ = some (.int .i64 bk) ∧ w'.cell? ⟨w.heap.size + 1 + 1, 1, none⟩ = some (.bool bn) ∧ w'.cell? ⟨w.heap.size + 1 + 1, 2, none⟩ = some (.int .i64 be) ∧ w'.cell? ⟨w.heap.size + 1 + 1, 3, none⟩ = some (.slice bA bs1.length bc) ∧ w'.cell? ⟨w2.heap.size, 0, none⟩ = some (.int .i64 G.kind) ∧ w'.cell? ⟨w2.heap.size, 1, none⟩ = some (.bool G.neg) ∧ w'.cell? ⟨w2.heap.size, 2, none⟩ = some (.int .i64 G.exp) ∧ w'.cell? ⟨w2.heap.size, 3, none⟩ = some (.slice A1 (cn G.mag).length c1) ∧ w'.cell? ⟨w4.heap.size, 0, none⟩ = some (.int .i64 H.kind) ∧ w'.cell? ⟨w4.heap.size, 1, none⟩ = some (.bool H.neg) ∧ w'.cell? ⟨w4.heap.size, 2, none⟩ = some (.int .i64 H.exp) ∧ w'.cell? ⟨w4.heap.size, 3, none⟩ = some (.slice A2 (cn H.mag).length c2))
    (first | go_keep | (go_split_ands; refine ⟨?_, ?_, ?_, ?_, ?_, ?_, ?_, ?_, ?_, ?_, ?_, ?_, ?_, ?_, ?_, ?_⟩ <;> first | assumption | (refine Ext.cell (w := w6) ?_ ?_ <;> assumption)))
    (first
      | (go_at_call 14; (with_reducible refine (hta _).mono ?_); rintro z w10 ⟨rfl, hbq⟩; have hE10 : Ext w6 w10 := (Ext.refl w6).drew.tr hbq; )
      | (go_at_call 14; (with_reducible refine (htb _).mono ?_); rintro z w11 ⟨rfl, hbq⟩; have hE11 : Ext w6 w11 := hE10.tr hbq; )
      | (go_at_call 20; (with_reducible refine (t3 _ (ha.ext (hE6.tr hE11)) (hb.ext (hE6.tr hE11))).mono ?_); rintro z w12 ⟨u, rfl, ⟨v, rfl, ho⟩, hbq⟩; have hE12 : Ext w6 w12 := hE11.tr hbq; obtain ⟨A3, c3, rfl, hr3⟩ := ho.rd)
      | (go_at_call 19; (with_reducible refine (hi1 A1 A3 c1 c3 _ (hr16.ext hE12) hr3).mono ?_); rintro z w13 ⟨rfl, hbq⟩; have hE13 : Ext w6 w13 := hE12.tr hbq; )
      | (go_at_call 14; (with_reducible refine (hta _).mono ?_); rintro z w14 ⟨rfl, hbq⟩; have hE14 : Ext w6 w14 := hE13.tr hbq; )
      | (go_at_call 14; (with_reducible refine (htb _).mono ?_); rintro z w15 ⟨rfl, hbq⟩; have hE15 : Ext w6 w15 := hE14.tr hbq; )
      | (go_at_call 21; (with_reducible refine (t4 _ (ha.ext (hE6.tr hE15)) (hb.ext (hE6.tr hE15))).mono ?_); rintro z w16 ⟨u, rfl, ⟨v, rfl, ho⟩, hbq⟩; have hE16 : Ext w6 w16 := hE15.tr hbq; obtain ⟨A4, c4, rfl, hr4⟩ := ho.rd)
      | (go_at_call 19; (with_reducible refine (hi2 A2 A4 c2 c4 _ (hr26.ext hE16) hr4).mono ?_); rintro z w17 ⟨rfl, hbq⟩; have hE17 : Ext w6 w17 := hE16.tr hbq; )
      | (go_at_call 9; (with_reducible refine (awake21_c _ (hT.ext (hE6.tr hE17))).mono ?_); rintro z w18 ⟨rfl, hbq⟩; have hE18 : Ext w6 w18 := hE17.tr hbq; )
      | fail)
  go_wp2
  go_ret
  exact ⟨rfl, hE6.tr hE18⟩
theorem orderMins_c (k p : Int) (a b : FA) (w : World) (hT : Tab w) (ha : Rd w a.A a.c a.xs) (hb : Rd w b.A b.c b.xs) :
    Calls Tryz.prog 4 #[.agg #[.int .i64 k, .int .i64 p], a.v, b.v] w fun e w' => e = .returned (.bool true) ∧ Ext w w' := by
  by_cases hs : [a, b].all (fun a => decide (a.xs.length ≤ 40)) = true
  · by_cases hc : chkS k p [a, b] = 0
    · exact orderMins_good k p a b w hT ha hb hs hc
    · exact orderMins_bad k p a b w hT ha hb hs hc
  · exact orderMins_long k p a b w hT ha hb hs
end Go.Proofs.YtcdgkhmiolhfdaaGreatDoor
