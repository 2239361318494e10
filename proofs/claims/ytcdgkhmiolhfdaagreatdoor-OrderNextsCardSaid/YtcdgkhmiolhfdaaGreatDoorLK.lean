/- OrderNexts: the walk. -/
import Derived.Test.YtcdgkhmiolhfdaaGreatDoorRG
import Derived.Test.YtcdgkhmiolhfdaaGreatDoorTG

set_option linter.unusedVariables false
set_option linter.unusedSimpArgs false
namespace Go.Proofs.YtcdgkhmiolhfdaaGreatDoor
open Go.RowKit
attribute [local go_sem ↓] Go.wp_at_zero Go.wp_at_succ

set_option maxHeartbeats 4000000 in
set_option maxRecDepth 100000 in
theorem orderNexts_long (k p : Int) (a b : FA) (up : Bool) (w : World) (hT : Tab w) (ha : Rd w a.A a.c a.xs) (hb : Rd w b.A b.c b.xs) (hs : ¬ [a, b].all (fun a => decide (a.xs.length ≤ 40)) = true) :
    Calls Tryz.prog 5 #[.agg #[.int .i64 k, .int .i64 p], a.v, b.v, .bool up] w fun e w' => e = .returned (.bool true) ∧ Ext w w' := by
  obtain ⟨hF, hX, hY, hE, hsz⟩ := boxesV2 w k p a b _ rfl
  have HF := Lib.hid hF
  have HX := Lib.hid hX
  have HY := Lib.hid hY
  have HE := Lib.hid hE
  have HS := Lib.hid hsz
  clear hF hX hY hE hsz
  have hsh := fun A c w h => short_c A c [a, b] w h
  rw [Bool.eq_false_iff.2 hs] at hsh
  clear hs
  obtain ⟨ak, an, ae, aA, ac, as1⟩ := a
  obtain ⟨bk, bn, be, bA, bc, bs1⟩ := b
  simp only at HF HX HY HE HS ha hb
  go_enter Tryz.func5, Tryz.ntmps5
  go_wp2_with fail
  have hF := HF.out
  have hX := HX.out
  have hY := HY.out
  have hE := HE.out
  have hsz := HS.out
  clear HF HX HY HE HS
  generalize (((w.alloc (.cells #[.int .i64 k, .int .i64 p] 23)).alloc (.cells #[.int .i64 ak, .bool an, .int .i64 ae, .slice aA as1.length ac] 28)).alloc (.cells #[.int .i64 bk, .bool bn, .int .i64 be, .slice bA bs1.length bc] 28)) = W at *
  have hL := FRd.two W ⟨ak, an, ae, aA, ac, as1⟩ ⟨bk, bn, be, bA, bc, bs1⟩ (ha.ext hE) (hb.ext hE)
  have hA := (Ext.refl W).al (.cells #[.int .i64 ak, .bool an, .int .i64 ae, .slice aA as1.length ac, .int .i64 bk, .bool bn, .int .i64 be, .slice bA bs1.length bc] 28)
  have hsz1 := World.size_alloc W (.cells #[.int .i64 ak, .bool an, .int .i64 ae, .slice aA as1.length ac, .int .i64 bk, .bool bn, .int .i64 be, .slice bA bs1.length bc] 28)
  rw [hsz] at hL hsz1
  clear hsz
  refine (hsh _ _ _ hL).mono ?_
  rintro z w1 ⟨rfl, rfl⟩
  have hF1 := hF.ext hA
  have hX1 := hX.ext hA
  have hY1 := hY.ext hA
  have hE1 := hE.tr hA
  clear hF hX hY hE hA hL
  generalize W.alloc (.cells #[.int .i64 ak, .bool an, .int .i64 ae, .slice aA as1.length ac, .int .i64 bk, .bool bn, .int .i64 be, .slice bA bs1.length bc] 28) = V at *
  clear hsz1
  go_wp2_with fail
  refine (awake21_c _ (hT.ext hE1)).mono ?_
  rintro z w99 ⟨rfl, hb99⟩
  go_wp2
  go_ret
  exact ⟨rfl, hE1.tr hb99⟩
theorem tow_of {k p : Int} {f g : Fl} (hR : Rgt k p) (hf : FOf k p f) (hg : FOf k p g) : FOf k p (towF k p f g) := by
  unfold towF
  split
  · exact ⟨⟨by simp, by simp, by simp, fun h => by simp at h, fun _ => ⟨rfl, rfl⟩, fun _ => rfl⟩, fun h => by simp at h, by show (cn 0).length ≤ 4096; rw [show cn 0 = [] from digs_zero B]; simp⟩
  · split
    · exact hg
    · exact next_of _ hR hf
theorem chk_sub {k p : Int} {a b : FA} (h : chkS k p [a, b] = 0) : chkS k p [a] = 0 := by
  obtain ⟨hR, hpt⟩ := chk_good h
  obtain ⟨f, hfc, hfi⟩ := hpt a (by simp)
  unfold chkS
  rw [if_pos hR, if_pos (by simp [holdS, hfc, hfi])]
set_option maxHeartbeats 8000000 in
set_option maxRecDepth 100000 in
theorem orderNexts_bad (k p : Int) (a b : FA) (up : Bool) (w : World) (hT : Tab w) (ha : Rd w a.A a.c a.xs) (hb : Rd w b.A b.c b.xs) (hs : [a, b].all (fun a => decide (a.xs.length ≤ 40)) = true) (hc1 : chkS k p [a] ≠ 0) (hc : chkS k p [a, b] ≠ 0) :
    Calls Tryz.prog 5 #[.agg #[.int .i64 k, .int .i64 p], a.v, b.v, .bool up] w fun e w' => e = .returned (.bool true) ∧ Ext w w' := by
  obtain ⟨hF, hX, hY, hE, hsz⟩ := boxesV2 w k p a b _ rfl
  have HF := Lib.hid hF
  have HX := Lib.hid hX
  have HY := Lib.hid hY
  have HE := Lib.hid hE
  have HS := Lib.hid hsz
  clear hF hX hY hE hsz
  have hsh := fun A c w h => short_c A c [a, b] w h
  have hck := fun A c w h => check21_c k p A c [a, b] w h (fun i hi => by
      have h1 := List.all_eq_true.1 hs _ (List.getElem_mem hi)
      have := of_decide_eq_true h1
      omega)
  have hla : a.xs.length ≤ 40 := of_decide_eq_true (List.all_eq_true.1 hs a (by simp))
  have hlb : b.xs.length ≤ 40 := of_decide_eq_true (List.all_eq_true.1 hs b (by simp))
  rw [hs] at hsh
  have hc1k := fun A c w h => check21_c k p A c [a] w h (fun i hi => by
      obtain rfl : i = 0 := by simpa using hi
      show a.xs.length ≤ 4096
      omega)
  have hfl1 := FlsS_chk (k := k) (p := p) (l := [a]) (fun x hx => by rw [show x = a by simpa using hx]; omega) hc1
  have t1 := fun w hT h => Next_bad k p a _ hfl1 hc1 up w hT h
  have hcb1 : (chkS k p [a] != 0) = true := by rw [bne_iff_ne]; exact hc1
  have hself1 : (chkS k p [a] != chkS k p [a]) = false := by simp
  have hfl := FlsS_chk (k := k) (p := p) (l := [a, b]) (fun x hx => by
      have := of_decide_eq_true (List.all_eq_true.1 hs x hx)
      omega) hc
  have hcb : (chkS k p [a, b] != 0) = true := by rw [bne_iff_ne]; exact hc
  have t2 := fun w hT h h' => Toward_bad k p a b _ hfl hc w hT h h'
  have hself : (chkS k p [a, b] == chkS k p [a, b]) = true := by simp
  have hnn := fun A c w => none_c 0 0 false A 0 c w
  simp only [show decide ((0 : Int) = 0 ∧ false = false ∧ (0 : Int) = 0 ∧ (0 : Nat) = 0) = true by decide] at hnn
  have hta := fun w => their_c a.k a.e a.neg a.A a.xs.length a.c w
  have htb := fun w => their_c b.k b.e b.neg b.A b.xs.length b.c w
  have hfm := fun w => fmt_c k p w
  unfold FErr FlR at t1 t2
  clear hfl1 hfl hc1 hc hs hla hlb
  generalize chkS k p [a] = C1 at *
  generalize chkS k p [a, b] = C at *
  obtain ⟨ak, an, ae, aA, ac, as1⟩ := a
  obtain ⟨bk, bn, be, bA, bc, bs1⟩ := b
  simp only at HF HX HY HE HS ha hb t1 t2 hta htb
  go_enter Tryz.func5, Tryz.ntmps5
  go_wp2_with fail
  have hF := HF.out
  have hX := HX.out
  have hY := HY.out
  have hE := HE.out
  have hsz := HS.out
  clear HF HX HY HE HS
  generalize (((w.alloc (.cells #[.int .i64 k, .int .i64 p] 23)).alloc (.cells #[.int .i64 ak, .bool an, .int .i64 ae, .slice aA as1.length ac] 28)).alloc (.cells #[.int .i64 bk, .bool bn, .int .i64 be, .slice bA bs1.length bc] 28)) = W at *
  have hL := FRd.two W ⟨ak, an, ae, aA, ac, as1⟩ ⟨bk, bn, be, bA, bc, bs1⟩ (ha.ext hE) (hb.ext hE)
  have hA := (Ext.refl W).al (.cells #[.int .i64 ak, .bool an, .int .i64 ae, .slice aA as1.length ac, .int .i64 bk, .bool bn, .int .i64 be, .slice bA bs1.length bc] 28)
  have hsz1 := World.size_alloc W (.cells #[.int .i64 ak, .bool an, .int .i64 ae, .slice aA as1.length ac, .int .i64 bk, .bool bn, .int .i64 be, .slice bA bs1.length bc] 28)
  rw [hsz] at hL hsz1
  clear hsz
  refine (hsh _ _ _ hL).mono ?_
  rintro z w1 ⟨rfl, rfl⟩
  have hF1 := hF.ext hA
  have hX1 := hX.ext hA
  have hY1 := hY.ext hA
  have hE1 := hE.tr hA
  clear hF hX hY hE hA hL
  generalize W.alloc (.cells #[.int .i64 ak, .bool an, .int .i64 ae, .slice aA as1.length ac, .int .i64 bk, .bool bn, .int .i64 be, .slice bA bs1.length bc] 28) = V at *
  clear hsz1
  obtain ⟨f0, f1⟩ := hF1.facts
  obtain ⟨x0, x1, x2, x3, -⟩ := hX1.facts
  obtain ⟨y0, y1, y2, y3, -⟩ := hY1.facts
  go_wp2_with fail
  refine (t1 _ (hT.ext hE1) (ha.ext hE1)).mono ?_
  rintro z w2 ⟨u, rfl, ⟨v, rfl, ho2⟩, hb2⟩
  rw [show cn (0 : Nat) = [] from digs_zero B] at ho2
  obtain ⟨A1, c1, rfl, hr1⟩ := ho2.rd
  simp only [List.length_nil]
  have hP1 := Bx.new w2 (.int .i64 0) (.bool false) (.int .i64 0) (.slice A1 0 c1)
  have hG1 := (Ext.refl w2).al (.cells #[.int .i64 0, .bool false, .int .i64 0, .slice A1 0 c1] 28)
  have hF2 := hF1.ext hb2
  have hX2 := hX1.ext hb2
  have hY2 := hY1.ext hb2
  have hE2 := hE1.tr hb2
  clear f0 f1 x0 x1 x2 x3 y0 y1 y2 y3
  clear hF1 hX1 hY1 hE1
  have hlf := hF2.lt
  have hlx := hX2.lt
  have hly := hY2.lt
  obtain ⟨f0, f1⟩ := hF2.facts
  obtain ⟨x0, x1, x2, x3, -⟩ := hX2.facts
  obtain ⟨y0, y1, y2, y3, -⟩ := hY2.facts
  go_wp2_with fail
  have hF3 := hF2.ext hG1
  have hX3 := hX2.ext hG1
  have hY3 := hY2.ext hG1
  have hE3 := hE2.tr hG1
  have hr13 := hr1.ext hG1
  refine (t2 _ (hT.ext hE3) (ha.ext hE3) (hb.ext hE3)).mono ?_
  rintro z w4 ⟨u, rfl, ⟨v, rfl, ho4⟩, hb4⟩
  rw [show cn (0 : Nat) = [] from digs_zero B] at ho4
  obtain ⟨A2, c2, rfl, hr2⟩ := ho4.rd
  simp only [List.length_nil]
  have hP2 := Bx.new w4 (.int .i64 0) (.bool false) (.int .i64 0) (.slice A2 0 c2)
  have hG2 := (Ext.refl w4).al (.cells #[.int .i64 0, .bool false, .int .i64 0, .slice A2 0 c2] 28)
  have hF4 := hF3.ext hb4
  have hX4 := hX3.ext hb4
  have hY4 := hY3.ext hb4
  have hE4 := hE3.tr hb4
  have hQ4 := hP1.ext hb4
  have hr14 := hr13.ext hb4
  clear f0 f1 x0 x1 x2 x3 y0 y1 y2 y3
  clear hF2 hX2 hY2 hE2
  clear hF3 hX3 hY3 hE3
  clear hlf hlx hly
  have hlf := hF4.lt
  have hlx := hX4.lt
  have hly := hY4.lt
  have hlq := hQ4.lt
  obtain ⟨f0, f1⟩ := hF4.facts
  obtain ⟨x0, x1, x2, x3, -⟩ := hX4.facts
  obtain ⟨y0, y1, y2, y3, -⟩ := hY4.facts
  have hF5 := hF4.ext hG2
  have hX5 := hX4.ext hG2
  have hY5 := hY4.ext hG2
  have hE5 := hE4.tr hG2
  have hQ5 := hQ4.ext hG2
  have hr15 := hr14.ext hG2
  have hr25 := hr2.ext hG2
  have hL := FRd.one (a := ⟨ak, an, ae, aA, ac, as1⟩) (Bx.new (w4.alloc (.cells #[.int .i64 0, .bool false, .int .i64 0, .slice A2 0 c2] 28)) (.int .i64 ak) (.bool an) (.int .i64 ae) (.slice aA as1.length ac)) ((ha.ext hE5).ext ((Ext.refl _).al (.cells #[.int .i64 ak, .bool an, .int .i64 ae, .slice aA as1.length ac] 28)))
  have hA := (Ext.refl (w4.alloc (.cells #[.int .i64 0, .bool false, .int .i64 0, .slice A2 0 c2] 28))).al (.cells #[.int .i64 ak, .bool an, .int .i64 ae, .slice aA as1.length ac] 28)
  go_wp2_with fail
  rw [World.size_alloc] at hL
  refine (hc1k _ _ _ hL).mono ?_
  rintro z w6 ⟨rfl, hb6⟩
  replace hb6 := hA.tr hb6
  have hF6 := hF5.ext hb6
  have hX6 := hX5.ext hb6
  have hY6 := hY5.ext hb6
  have hE6 := hE5.tr hb6
  have hQ6 := hQ5.ext hb6
  have hP6 := hP2.ext hb6
  have hr16 := hr15.ext hb6
  have hr26 := hr25.ext hb6
  clear f0 f1 x0 x1 x2 x3 y0 y1 y2 y3
  clear hL hA hlf hlx hly hlq hF5 hX5 hY5 hE5 hF4 hX4 hY4 hE4 hQ4 hQ5 hP1 hP2 hG1 hG2 hb4 hb6 hr1 hr13 hr14 hr15 hr2 hr25 ho2 ho4 hb2
  obtain ⟨q0, q1, q2, q3, -⟩ := hQ6.facts
  go_wp2_with fail
  refine (hnn _ _ _).mono ?_
  rintro z w7 ⟨rfl, hb7⟩
  have hF7 := hF6.ext hb7
  have hX7 := hX6.ext hb7
  have hY7 := hY6.ext hb7
  have hE7 := hE6.tr hb7
  have hP7 := hP6.ext hb7
  clear q0 q1 q2 q3
  obtain ⟨f0, f1⟩ := hF7.facts
  obtain ⟨x0, x1, x2, x3, -⟩ := hX7.facts
  obtain ⟨y0, y1, y2, y3, -⟩ := hY7.facts
  have hL2 := FRd.two w7 ⟨ak, an, ae, aA, ac, as1⟩ ⟨bk, bn, be, bA, bc, bs1⟩ (ha.ext hE7) (hb.ext hE7)
  have hA2 := (Ext.refl w7).al (.cells #[.int .i64 ak, .bool an, .int .i64 ae, .slice aA as1.length ac, .int .i64 bk, .bool bn, .int .i64 be, .slice bA bs1.length bc] 28)
  go_wp2_with fail
  refine (hck _ _ _ hL2).mono ?_
  rintro z w8 ⟨rfl, hb8⟩
  replace hb8 := hA2.tr hb8
  have hF8 := hF7.ext hb8
  have hX8 := hX7.ext hb8
  have hY8 := hY7.ext hb8
  have hE8 := hE7.tr hb8
  have hP8 := hP7.ext hb8
  clear f0 f1 x0 x1 x2 x3 y0 y1 y2 y3
  obtain ⟨p0, p1, p2, p3, -⟩ := hP8.facts
  go_wp2_with fail
  refine (hnn _ _ _).mono ?_
  rintro z w9 ⟨rfl, hb9⟩
  have hE9 := hE8.tr hb9
  clear p0 p1 p2 p3
  go_wp2_with fail
  refine (awake21_c _ (hT.ext hE9)).mono ?_
  rintro z w99 ⟨rfl, hb99⟩
  go_wp2
  go_ret
  exact ⟨rfl, hE9.tr hb99⟩
set_option maxHeartbeats 8000000 in
set_option maxRecDepth 100000 in
theorem orderNexts_mid (k p : Int) (a b : FA) (up : Bool) (w : World) (hT : Tab w) (ha : Rd w a.A a.c a.xs) (hb : Rd w b.A b.c b.xs) (hs : [a, b].all (fun a => decide (a.xs.length ≤ 40)) = true) (hc1 : chkS k p [a] = 0) (hc : chkS k p [a, b] ≠ 0) :
    Calls Tryz.prog 5 #[.agg #[.int .i64 k, .int .i64 p], a.v, b.v, .bool up] w fun e w' => e = .returned (.bool true) ∧ Ext w w' := by
  obtain ⟨hF, hX, hY, hE, hsz⟩ := boxesV2 w k p a b _ rfl
  have HF := Lib.hid hF
  have HX := Lib.hid hX
  have HY := Lib.hid hY
  have HE := Lib.hid hE
  have HS := Lib.hid hsz
  clear hF hX hY hE hsz
  have hsh := fun A c w h => short_c A c [a, b] w h
  have hck := fun A c w h => check21_c k p A c [a, b] w h (fun i hi => by
      have h1 := List.all_eq_true.1 hs _ (List.getElem_mem hi)
      have := of_decide_eq_true h1
      omega)
  have hla : a.xs.length ≤ 40 := of_decide_eq_true (List.all_eq_true.1 hs a (by simp))
  have hlb : b.xs.length ≤ 40 := of_decide_eq_true (List.all_eq_true.1 hs b (by simp))
  rw [hs] at hsh
  have hc1k := fun A c w h => check21_c k p A c [a] w h (fun i hi => by
      obtain rfl : i = 0 := by simpa using hi
      show a.xs.length ≤ 4096
      omega)
  rw [hc1] at hc1k
  obtain ⟨hR, hpt1⟩ := chk_good hc1
  obtain ⟨f, hfc, hfi⟩ := hpt1 a (by simp)
  have hf := of_good hfc hfi ha.w64 (by omega)
  have t1 := fun w hT h => Next_good k p hR a f hf (FlsS_one_ok hR (by omega) hfc hfi) up w hT h
  have n1 := fun w h => rnext21_c k p hR a f hfc hf (by omega) up w h
  have hn1 := next_of up hR hf
  have i1 := fun A A' c c' w h h' => lis_own _ hn1.ok hn1.len A A' c c' w h h'
  have hfl := FlsS_chk (k := k) (p := p) (l := [a, b]) (fun x hx => by
      have := of_decide_eq_true (List.all_eq_true.1 hs x hx)
      omega) hc
  have hcb : (chkS k p [a, b] != 0) = true := by rw [bne_iff_ne]; exact hc
  have t2 := fun w hT h h' => Toward_bad k p a b _ hfl hc w hT h h'
  have hself : (chkS k p [a, b] == chkS k p [a, b]) = true := by simp
  have hnn := fun A c w => none_c 0 0 false A 0 c w
  simp only [show decide ((0 : Int) = 0 ∧ false = false ∧ (0 : Int) = 0 ∧ (0 : Nat) = 0) = true by decide] at hnn
  have hta := fun w => their_c a.k a.e a.neg a.A a.xs.length a.c w
  have htb := fun w => their_c b.k b.e b.neg b.A b.xs.length b.c w
  have hfm := fun w => fmt_c k p w
  unfold FErr FlR at t1 t2
  unfold FlR at n1
  clear hfl hc1 hc hs hla hlb hR hpt1 hfc hfi hf hn1
  generalize nextF k p f up = G at *
  generalize chkS k p [a, b] = C at *
  clear f
  obtain ⟨ak, an, ae, aA, ac, as1⟩ := a
  obtain ⟨bk, bn, be, bA, bc, bs1⟩ := b
  simp only at HF HX HY HE HS ha hb t1 t2 hta htb n1
  go_enter Tryz.func5, Tryz.ntmps5
  go_wp2_with fail
  have hF := HF.out
  have hX := HX.out
  have hY := HY.out
  have hE := HE.out
  have hsz := HS.out
  clear HF HX HY HE HS
  generalize (((w.alloc (.cells #[.int .i64 k, .int .i64 p] 23)).alloc (.cells #[.int .i64 ak, .bool an, .int .i64 ae, .slice aA as1.length ac] 28)).alloc (.cells #[.int .i64 bk, .bool bn, .int .i64 be, .slice bA bs1.length bc] 28)) = W at *
  have hL := FRd.two W ⟨ak, an, ae, aA, ac, as1⟩ ⟨bk, bn, be, bA, bc, bs1⟩ (ha.ext hE) (hb.ext hE)
  have hA := (Ext.refl W).al (.cells #[.int .i64 ak, .bool an, .int .i64 ae, .slice aA as1.length ac, .int .i64 bk, .bool bn, .int .i64 be, .slice bA bs1.length bc] 28)
  have hsz1 := World.size_alloc W (.cells #[.int .i64 ak, .bool an, .int .i64 ae, .slice aA as1.length ac, .int .i64 bk, .bool bn, .int .i64 be, .slice bA bs1.length bc] 28)
  rw [hsz] at hL hsz1
  clear hsz
  refine (hsh _ _ _ hL).mono ?_
  rintro z w1 ⟨rfl, rfl⟩
  have hF1 := hF.ext hA
  have hX1 := hX.ext hA
  have hY1 := hY.ext hA
  have hE1 := hE.tr hA
  clear hF hX hY hE hA hL
  generalize W.alloc (.cells #[.int .i64 ak, .bool an, .int .i64 ae, .slice aA as1.length ac, .int .i64 bk, .bool bn, .int .i64 be, .slice bA bs1.length bc] 28) = V at *
  clear hsz1
  obtain ⟨f0, f1⟩ := hF1.facts
  obtain ⟨x0, x1, x2, x3, -⟩ := hX1.facts
  obtain ⟨y0, y1, y2, y3, -⟩ := hY1.facts
  go_wp2_with fail
  refine (t1 _ (hT.ext hE1) (ha.ext hE1)).mono ?_
  rintro z w2 ⟨u, rfl, ⟨v, rfl, ho2⟩, hb2⟩
  obtain ⟨A1, c1, rfl, hr1⟩ := ho2.rd
  have hP1 := Bx.new w2 (.int .i64 G.kind) (.bool G.neg) (.int .i64 G.exp) (.slice A1 (cn G.mag).length c1)
  have hG1 := (Ext.refl w2).al (.cells #[.int .i64 G.kind, .bool G.neg, .int .i64 G.exp, .slice A1 (cn G.mag).length c1] 28)
  have hF2 := hF1.ext hb2
  have hX2 := hX1.ext hb2
  have hY2 := hY1.ext hb2
  have hE2 := hE1.tr hb2
  clear f0 f1 x0 x1 x2 x3 y0 y1 y2 y3
  clear hF1 hX1 hY1 hE1
  have hlf := hF2.lt
  have hlx := hX2.lt
  have hly := hY2.lt
  obtain ⟨f0, f1⟩ := hF2.facts
  obtain ⟨x0, x1, x2, x3, -⟩ := hX2.facts
  obtain ⟨y0, y1, y2, y3, -⟩ := hY2.facts
  go_wp2_with fail
  have hF3 := hF2.ext hG1
  have hX3 := hX2.ext hG1
  have hY3 := hY2.ext hG1
  have hE3 := hE2.tr hG1
  have hr13 := hr1.ext hG1
  refine (t2 _ (hT.ext hE3) (ha.ext hE3) (hb.ext hE3)).mono ?_
  rintro z w4 ⟨u, rfl, ⟨v, rfl, ho4⟩, hb4⟩
  rw [show cn (0 : Nat) = [] from digs_zero B] at ho4
  obtain ⟨A2, c2, rfl, hr2⟩ := ho4.rd
  simp only [List.length_nil]
  have hP2 := Bx.new w4 (.int .i64 0) (.bool false) (.int .i64 0) (.slice A2 0 c2)
  have hG2 := (Ext.refl w4).al (.cells #[.int .i64 0, .bool false, .int .i64 0, .slice A2 0 c2] 28)
  have hF4 := hF3.ext hb4
  have hX4 := hX3.ext hb4
  have hY4 := hY3.ext hb4
  have hE4 := hE3.tr hb4
  have hQ4 := hP1.ext hb4
  have hr14 := hr13.ext hb4
  clear f0 f1 x0 x1 x2 x3 y0 y1 y2 y3
  clear hF2 hX2 hY2 hE2
  clear hF3 hX3 hY3 hE3
  clear hlf hlx hly
  have hlf := hF4.lt
  have hlx := hX4.lt
  have hly := hY4.lt
  have hlq := hQ4.lt
  obtain ⟨f0, f1⟩ := hF4.facts
  obtain ⟨x0, x1, x2, x3, -⟩ := hX4.facts
  obtain ⟨y0, y1, y2, y3, -⟩ := hY4.facts
  have hF5 := hF4.ext hG2
  have hX5 := hX4.ext hG2
  have hY5 := hY4.ext hG2
  have hE5 := hE4.tr hG2
  have hQ5 := hQ4.ext hG2
  have hr15 := hr14.ext hG2
  have hr25 := hr2.ext hG2
  have hL := FRd.one (a := ⟨ak, an, ae, aA, ac, as1⟩) (Bx.new (w4.alloc (.cells #[.int .i64 0, .bool false, .int .i64 0, .slice A2 0 c2] 28)) (.int .i64 ak) (.bool an) (.int .i64 ae) (.slice aA as1.length ac)) ((ha.ext hE5).ext ((Ext.refl _).al (.cells #[.int .i64 ak, .bool an, .int .i64 ae, .slice aA as1.length ac] 28)))
  have hA := (Ext.refl (w4.alloc (.cells #[.int .i64 0, .bool false, .int .i64 0, .slice A2 0 c2] 28))).al (.cells #[.int .i64 ak, .bool an, .int .i64 ae, .slice aA as1.length ac] 28)
  go_wp2_with fail
  rw [World.size_alloc] at hL
  refine (hc1k _ _ _ hL).mono ?_
  rintro z w6 ⟨rfl, hb6⟩
  replace hb6 := hA.tr hb6
  have hF6 := hF5.ext hb6
  have hX6 := hX5.ext hb6
  have hY6 := hY5.ext hb6
  have hE6 := hE5.tr hb6
  have hQ6 := hQ5.ext hb6
  have hP6 := hP2.ext hb6
  have hr16 := hr15.ext hb6
  have hr26 := hr25.ext hb6
  clear f0 f1 x0 x1 x2 x3 y0 y1 y2 y3
  clear hL hA hlf hlx hly hlq hF5 hX5 hY5 hE5 hF4 hX4 hY4 hE4 hQ4 hQ5 hP1 hP2 hG1 hG2 hb4 hb6 hr1 hr13 hr14 hr15 hr2 hr25 ho2 ho4 hb2
  obtain ⟨q0, q1, q2, q3, -⟩ := hQ6.facts
  obtain ⟨f0, f1⟩ := hF6.facts
  obtain ⟨x0, x1, x2, x3, -⟩ := hX6.facts
  obtain ⟨y0, y1, y2, y3, -⟩ := hY6.facts
  go_wp2_with fail
  go_region_held3 (fun w' => w'.cell? ⟨w.heap.size, 0, none⟩ = some (.int .i64 k) ∧ w'.cell? ⟨w.heap.size, 1, none⟩ = some (.int .i64 p) ∧ w'.cell? ⟨w.heap.size + 1, 0, none⟩ = some (.int .i64 ak) ∧ w'.cell? ⟨w.heap.size + 1, 1, none⟩ = some (.bool an) ∧ w'.cell? ⟨w.heap.size + 1, 2, none⟩ = some (.int .i64 ae) ∧ w'.cell? ⟨w.heap.size + 1, 3, none⟩ = some (.slice aA as1.length ac) ∧ w'.cell? ⟨w2.heap.size, 0, none⟩ = some (.int .i64 G.kind) ∧ w'.cell? ⟨w2.heap.size, 1, none⟩ = some (.bool G.neg) ∧ w'.cell? ⟨w2.heap.size, 2, none⟩ = some (.int .i64 G.exp) ∧ w'.cell? ⟨w2.heap.size, 3, none⟩ = some (.slice A1 (cn G.mag).length c1))
    (first | go_keep | (go_split_ands; refine ⟨?_, ?_, ?_, ?_, ?_, ?_, ?_, ?_, ?_, ?_⟩ <;> first | (with_reducible assumption) | (refine Ext.cell (w := w6) ?_ ?_ <;> (with_reducible assumption))))
    (first
      | (go_at_call 25; (with_reducible refine (hfm _).mono ?_); rintro z w10 ⟨rfl, hbq⟩; have hE10 : Ext w6 w10 := (Ext.refl w6).drew.tr hbq; )
      | (go_at_call 14; (with_reducible refine (hta _).mono ?_); rintro z w11 ⟨rfl, hbq⟩; have hE11 : Ext w6 w11 := hE10.tr hbq; )
      | (go_at_call 24; (with_reducible refine (n1 _ (ha.ext (hE6.tr hE11))).mono ?_); rintro z w12 ⟨u, rfl, ⟨v, rfl, ho⟩, hbq⟩; have hE12 : Ext w6 w12 := hE11.tr hbq; obtain ⟨A3, c3, rfl, hr3⟩ := ho.rd)
      | (go_at_call 19; (with_reducible refine (i1 A1 A3 c1 c3 _ (hr16.ext hE12) hr3).mono ?_); rintro z w13 ⟨rfl, hbq⟩; have hE13 : Ext w6 w13 := hE12.tr hbq; )
      | fail)
  have hb7 := hE13
  have hF7 := hF6.ext hb7
  have hX7 := hX6.ext hb7
  have hY7 := hY6.ext hb7
  have hE7 := hE6.tr hb7
  have hP7 := hP6.ext hb7
  have hr27 := hr26.ext hb7
  clear f0 f1 x0 x1 x2 x3 y0 y1 y2 y3
  clear q0 q1 q2 q3
  obtain ⟨f0, f1⟩ := hF7.facts
  obtain ⟨x0, x1, x2, x3, -⟩ := hX7.facts
  obtain ⟨y0, y1, y2, y3, -⟩ := hY7.facts
  have hL2 := FRd.two w13 ⟨ak, an, ae, aA, ac, as1⟩ ⟨bk, bn, be, bA, bc, bs1⟩ (ha.ext hE7) (hb.ext hE7)
  have hA2 := (Ext.refl w13).al (.cells #[.int .i64 ak, .bool an, .int .i64 ae, .slice aA as1.length ac, .int .i64 bk, .bool bn, .int .i64 be, .slice bA bs1.length bc] 28)
  go_wp2_with fail
  refine (hck _ _ _ hL2).mono ?_
  rintro z w8 ⟨rfl, hb8⟩
  replace hb8 := hA2.tr hb8
  have hF8 := hF7.ext hb8
  have hX8 := hX7.ext hb8
  have hY8 := hY7.ext hb8
  have hE8 := hE7.tr hb8
  have hP8 := hP7.ext hb8
  clear f0 f1 x0 x1 x2 x3 y0 y1 y2 y3
  obtain ⟨p0, p1, p2, p3, -⟩ := hP8.facts
  go_wp2_with fail
  refine (hnn _ _ _).mono ?_
  rintro z w9 ⟨rfl, hb9⟩
  have hE9 := hE8.tr hb9
  clear p0 p1 p2 p3
  go_wp2_with fail
  refine (awake21_c _ (hT.ext hE9)).mono ?_
  rintro z w99 ⟨rfl, hb99⟩
  go_wp2
  go_ret
  exact ⟨rfl, hE9.tr hb99⟩
set_option maxHeartbeats 8000000 in
set_option maxRecDepth 100000 in
theorem orderNexts_good (k p : Int) (a b : FA) (up : Bool) (w : World) (hT : Tab w) (ha : Rd w a.A a.c a.xs) (hb : Rd w b.A b.c b.xs) (hs : [a, b].all (fun a => decide (a.xs.length ≤ 40)) = true) (hc1 : chkS k p [a] = 0) (hc : chkS k p [a, b] = 0) :
    Calls Tryz.prog 5 #[.agg #[.int .i64 k, .int .i64 p], a.v, b.v, .bool up] w fun e w' => e = .returned (.bool true) ∧ Ext w w' := by
  obtain ⟨hF, hX, hY, hE, hsz⟩ := boxesV2 w k p a b _ rfl
  have HF := Lib.hid hF
  have HX := Lib.hid hX
  have HY := Lib.hid hY
  have HE := Lib.hid hE
  have HS := Lib.hid hsz
  clear hF hX hY hE hsz
  have hsh := fun A c w h => short_c A c [a, b] w h
  have hck := fun A c w h => check21_c k p A c [a, b] w h (fun i hi => by
      have h1 := List.all_eq_true.1 hs _ (List.getElem_mem hi)
      have := of_decide_eq_true h1
      omega)
  have hla : a.xs.length ≤ 40 := of_decide_eq_true (List.all_eq_true.1 hs a (by simp))
  have hlb : b.xs.length ≤ 40 := of_decide_eq_true (List.all_eq_true.1 hs b (by simp))
  rw [hs] at hsh
  have hc1k := fun A c w h => check21_c k p A c [a] w h (fun i hi => by
      obtain rfl : i = 0 := by simpa using hi
      show a.xs.length ≤ 4096
      omega)
  rw [hc1] at hc1k
  obtain ⟨hR, hpt1⟩ := chk_good hc1
  obtain ⟨f, hfc, hfi⟩ := hpt1 a (by simp)
  have hf := of_good hfc hfi ha.w64 (by omega)
  have t1 := fun w hT h => Next_good k p hR a f hf (FlsS_one_ok hR (by omega) hfc hfi) up w hT h
  have n1 := fun w h => rnext21_c k p hR a f hfc hf (by omega) up w h
  have hn1 := next_of up hR hf
  have i1 := fun A A' c c' w h h' => lis_own _ hn1.ok hn1.len A A' c c' w h h'
  rw [hc] at hck
  obtain ⟨g, hgc, hgi⟩ := (chk_good hc).2 b (by simp)
  have hg := of_good hgc hgi hb.w64 (by omega)
  have t2 := fun w hT h h' => Toward_good k p hR a b f g (FlsS_two_ok hR (by omega) hfc hfi (by omega) hgc hgi) hf hg w hT h h'
  have n2 := fun w h h' => rtoward21_c k p hR a b f g hfc hgc hf hg (by omega) (by omega) w h h'
  have hn2 := tow_of hR hf hg
  have i2 := fun A A' c c' w h h' => lis_own _ hn2.ok hn2.len A A' c c' w h h'
  have hta := fun w => their_c a.k a.e a.neg a.A a.xs.length a.c w
  have htb := fun w => their_c b.k b.e b.neg b.A b.xs.length b.c w
  have hfm := fun w => fmt_c k p w
  unfold FErr FlR at t1 t2
  unfold FlR at n1 n2
  clear hc1 hc hs hla hlb hR hpt1 hfc hfi hf hn1 hgc hgi hg hn2
  generalize nextF k p f up = G at *
  generalize towF k p f g = H at *
  clear f g
  obtain ⟨ak, an, ae, aA, ac, as1⟩ := a
  obtain ⟨bk, bn, be, bA, bc, bs1⟩ := b
  simp only at HF HX HY HE HS ha hb t1 t2 hta htb n1 n2
  go_enter Tryz.func5, Tryz.ntmps5
  go_wp2_with fail
  have hF := HF.out
  have hX := HX.out
  have hY := HY.out
  have hE := HE.out
  have hsz := HS.out
  clear HF HX HY HE HS
  generalize (((w.alloc (.cells #[.int .i64 k, .int .i64 p] 23)).alloc (.cells #[.int .i64 ak, .bool an, .int .i64 ae, .slice aA as1.length ac] 28)).alloc (.cells #[.int .i64 bk, .bool bn, .int .i64 be, .slice bA bs1.length bc] 28)) = W at *
  have hL := FRd.two W ⟨ak, an, ae, aA, ac, as1⟩ ⟨bk, bn, be, bA, bc, bs1⟩ (ha.ext hE) (hb.ext hE)
  have hA := (Ext.refl W).al (.cells #[.int .i64 ak, .bool an, .int .i64 ae, .slice aA as1.length ac, .int .i64 bk, .bool bn, .int .i64 be, .slice bA bs1.length bc] 28)
  have hsz1 := World.size_alloc W (.cells #[.int .i64 ak, .bool an, .int .i64 ae, .slice aA as1.length ac, .int .i64 bk, .bool bn, .int .i64 be, .slice bA bs1.length bc] 28)
  rw [hsz] at hL hsz1
  clear hsz
  refine (hsh _ _ _ hL).mono ?_
  rintro z w1 ⟨rfl, rfl⟩
  have hF1 := hF.ext hA
  have hX1 := hX.ext hA
  have hY1 := hY.ext hA
  have hE1 := hE.tr hA
  clear hF hX hY hE hA hL
  generalize W.alloc (.cells #[.int .i64 ak, .bool an, .int .i64 ae, .slice aA as1.length ac, .int .i64 bk, .bool bn, .int .i64 be, .slice bA bs1.length bc] 28) = V at *
  clear hsz1
  obtain ⟨f0, f1⟩ := hF1.facts
  obtain ⟨x0, x1, x2, x3, -⟩ := hX1.facts
  obtain ⟨y0, y1, y2, y3, -⟩ := hY1.facts
  go_wp2_with fail
  refine (t1 _ (hT.ext hE1) (ha.ext hE1)).mono ?_
  rintro z w2 ⟨u, rfl, ⟨v, rfl, ho2⟩, hb2⟩
  obtain ⟨A1, c1, rfl, hr1⟩ := ho2.rd
  have hP1 := Bx.new w2 (.int .i64 G.kind) (.bool G.neg) (.int .i64 G.exp) (.slice A1 (cn G.mag).length c1)
  have hG1 := (Ext.refl w2).al (.cells #[.int .i64 G.kind, .bool G.neg, .int .i64 G.exp, .slice A1 (cn G.mag).length c1] 28)
  have hF2 := hF1.ext hb2
  have hX2 := hX1.ext hb2
  have hY2 := hY1.ext hb2
  have hE2 := hE1.tr hb2
  clear f0 f1 x0 x1 x2 x3 y0 y1 y2 y3
  clear hF1 hX1 hY1 hE1
  have hlf := hF2.lt
  have hlx := hX2.lt
  have hly := hY2.lt
  obtain ⟨f0, f1⟩ := hF2.facts
  obtain ⟨x0, x1, x2, x3, -⟩ := hX2.facts
  obtain ⟨y0, y1, y2, y3, -⟩ := hY2.facts
  go_wp2_with fail
  have hF3 := hF2.ext hG1
  have hX3 := hX2.ext hG1
  have hY3 := hY2.ext hG1
  have hE3 := hE2.tr hG1
  have hr13 := hr1.ext hG1
  refine (t2 _ (hT.ext hE3) (ha.ext hE3) (hb.ext hE3)).mono ?_
  rintro z w4 ⟨u, rfl, ⟨v, rfl, ho4⟩, hb4⟩
  obtain ⟨A2, c2, rfl, hr2⟩ := ho4.rd
  have hP2 := Bx.new w4 (.int .i64 H.kind) (.bool H.neg) (.int .i64 H.exp) (.slice A2 (cn H.mag).length c2)
  have hG2 := (Ext.refl w4).al (.cells #[.int .i64 H.kind, .bool H.neg, .int .i64 H.exp, .slice A2 (cn H.mag).length c2] 28)
  have hF4 := hF3.ext hb4
  have hX4 := hX3.ext hb4
  have hY4 := hY3.ext hb4
  have hE4 := hE3.tr hb4
  have hQ4 := hP1.ext hb4
  have hr14 := hr13.ext hb4
  clear f0 f1 x0 x1 x2 x3 y0 y1 y2 y3
  clear hF2 hX2 hY2 hE2
  clear hF3 hX3 hY3 hE3
  clear hlf hlx hly
  have hlf := hF4.lt
  have hlx := hX4.lt
  have hly := hY4.lt
  have hlq := hQ4.lt
  obtain ⟨f0, f1⟩ := hF4.facts
  obtain ⟨x0, x1, x2, x3, -⟩ := hX4.facts
  obtain ⟨y0, y1, y2, y3, -⟩ := hY4.facts
  have hF5 := hF4.ext hG2
  have hX5 := hX4.ext hG2
  have hY5 := hY4.ext hG2
  have hE5 := hE4.tr hG2
  have hQ5 := hQ4.ext hG2
  have hr15 := hr14.ext hG2
  have hr25 := hr2.ext hG2
  have hL := FRd.one (a := ⟨ak, an, ae, aA, ac, as1⟩) (Bx.new (w4.alloc (.cells #[.int .i64 H.kind, .bool H.neg, .int .i64 H.exp, .slice A2 (cn H.mag).length c2] 28)) (.int .i64 ak) (.bool an) (.int .i64 ae) (.slice aA as1.length ac)) ((ha.ext hE5).ext ((Ext.refl _).al (.cells #[.int .i64 ak, .bool an, .int .i64 ae, .slice aA as1.length ac] 28)))
  have hA := (Ext.refl (w4.alloc (.cells #[.int .i64 H.kind, .bool H.neg, .int .i64 H.exp, .slice A2 (cn H.mag).length c2] 28))).al (.cells #[.int .i64 ak, .bool an, .int .i64 ae, .slice aA as1.length ac] 28)
  go_wp2_with fail
  rw [World.size_alloc] at hL
  refine (hc1k _ _ _ hL).mono ?_
  rintro z w6 ⟨rfl, hb6⟩
  replace hb6 := hA.tr hb6
  have hF6 := hF5.ext hb6
  have hX6 := hX5.ext hb6
  have hY6 := hY5.ext hb6
  have hE6 := hE5.tr hb6
  have hQ6 := hQ5.ext hb6
  have hP6 := hP2.ext hb6
  have hr16 := hr15.ext hb6
  have hr26 := hr25.ext hb6
  clear f0 f1 x0 x1 x2 x3 y0 y1 y2 y3
  clear hL hA hlf hlx hly hlq hF5 hX5 hY5 hE5 hF4 hX4 hY4 hE4 hQ4 hQ5 hP1 hP2 hG1 hG2 hb4 hb6 hr1 hr13 hr14 hr15 hr2 hr25 ho2 ho4 hb2
  obtain ⟨q0, q1, q2, q3, -⟩ := hQ6.facts
  obtain ⟨f0, f1⟩ := hF6.facts
  obtain ⟨x0, x1, x2, x3, -⟩ := hX6.facts
  obtain ⟨y0, y1, y2, y3, -⟩ := hY6.facts
  go_wp2_with fail
  go_region_held3 (fun w' => w'.cell? ⟨w.heap.size, 0, none⟩ = some (.int .i64 k) ∧ w'.cell? ⟨w.heap.size, 1, none⟩ = some (.int .i64 p) ∧ w'.cell? ⟨w.heap.size + 1, 0, none⟩ = some (.int .i64 ak) ∧ w'.cell? ⟨w.heap.size + 1, 1, none⟩ = some (.bool an) ∧ w'.cell? ⟨w.heap.size + 1, 2, none⟩ = some (.int .i64 ae) ∧ w'.cell? ⟨w.heap.size + 1, 3, none⟩ = some (.slice aA as1.length ac) ∧ w'.cell? ⟨w2.heap.size, 0, none⟩ = some (.int .i64 G.kind) ∧ w'.cell? ⟨w2.heap.size, 1, none⟩ = some (.bool G.neg) ∧ w'.cell? ⟨w2.heap.size, 2, none⟩ = some (.int .i64 G.exp) ∧ w'.cell? ⟨w2.heap.size, 3, none⟩ = some (.slice A1 (cn G.mag).length c1))
    (first | go_keep | (go_split_ands; refine ⟨?_, ?_, ?_, ?_, ?_, ?_, ?_, ?_, ?_, ?_⟩ <;> first | (with_reducible assumption) | (refine Ext.cell (w := w6) ?_ ?_ <;> (with_reducible assumption))))
    (first
      | (go_at_call 25; (with_reducible refine (hfm _).mono ?_); rintro z w10 ⟨rfl, hbq⟩; have hE10 : Ext w6 w10 := (Ext.refl w6).drew.tr hbq; )
      | (go_at_call 14; (with_reducible refine (hta _).mono ?_); rintro z w11 ⟨rfl, hbq⟩; have hE11 : Ext w6 w11 := hE10.tr hbq; )
      | (go_at_call 24; (with_reducible refine (n1 _ (ha.ext (hE6.tr hE11))).mono ?_); rintro z w12 ⟨u, rfl, ⟨v, rfl, ho⟩, hbq⟩; have hE12 : Ext w6 w12 := hE11.tr hbq; obtain ⟨A3, c3, rfl, hr3⟩ := ho.rd)
      | (go_at_call 19; (with_reducible refine (i1 A1 A3 c1 c3 _ (hr16.ext hE12) hr3).mono ?_); rintro z w13 ⟨rfl, hbq⟩; have hE13 : Ext w6 w13 := hE12.tr hbq; )
      | fail)
  have hb7 := hE13
  have hF7 := hF6.ext hb7
  have hX7 := hX6.ext hb7
  have hY7 := hY6.ext hb7
  have hE7 := hE6.tr hb7
  have hP7 := hP6.ext hb7
  have hr27 := hr26.ext hb7
  clear f0 f1 x0 x1 x2 x3 y0 y1 y2 y3
  clear q0 q1 q2 q3
  obtain ⟨f0, f1⟩ := hF7.facts
  obtain ⟨x0, x1, x2, x3, -⟩ := hX7.facts
  obtain ⟨y0, y1, y2, y3, -⟩ := hY7.facts
  have hL2 := FRd.two w13 ⟨ak, an, ae, aA, ac, as1⟩ ⟨bk, bn, be, bA, bc, bs1⟩ (ha.ext hE7) (hb.ext hE7)
  have hA2 := (Ext.refl w13).al (.cells #[.int .i64 ak, .bool an, .int .i64 ae, .slice aA as1.length ac, .int .i64 bk, .bool bn, .int .i64 be, .slice bA bs1.length bc] 28)
  go_wp2_with fail
  refine (hck _ _ _ hL2).mono ?_
  rintro z w8 ⟨rfl, hb8⟩
  replace hb8 := hA2.tr hb8
  have hF8 := hF7.ext hb8
  have hX8 := hX7.ext hb8
  have hY8 := hY7.ext hb8
  have hE8 := hE7.tr hb8
  have hP8 := hP7.ext hb8
  clear f0 f1 x0 x1 x2 x3 y0 y1 y2 y3
  obtain ⟨p0, p1, p2, p3, -⟩ := hP8.facts
  have hr28 := hr27.ext hb8
  obtain ⟨f0, f1⟩ := hF8.facts
  obtain ⟨x0, x1, x2, x3, -⟩ := hX8.facts
  obtain ⟨y0, y1, y2, y3, -⟩ := hY8.facts
  go_wp2_with fail
  go_region_held3 (fun w' => w'.cell? ⟨w.heap.size, 0, none⟩ = some (.int .i64 k) ∧ w'.cell? ⟨w.heap.size, 1, none⟩ = some (.int .i64 p) ∧ w'.cell? ⟨w.heap.size + 1, 0, none⟩ = some (.int .i64 ak) ∧ w'.cell? ⟨w.heap.size + 1, 1, none⟩ = some (.bool an) ∧ w'.cell? ⟨w.heap.size + 1, 2, none⟩ = some (.int .i64 ae) ∧ w'.cell? ⟨w.heap.size + 1, 3, none⟩ = some (.slice aA as1.length ac) ∧ w'.cell? ⟨w.heap.size + 1 + 1, 0, none⟩ = some (.int .i64 bk) ∧ w'.cell? ⟨w.heap.size + 1 + 1, 1, none⟩ = some (.bool bn) ∧ w'.cell? ⟨w.heap.size + 1 + 1, 2, none⟩ = some (.int .i64 be) ∧ w'.cell? ⟨w.heap.size + 1 + 1, 3, none⟩ = some (.slice bA bs1.length bc) ∧ w'.cell? ⟨w4.heap.size, 0, none⟩ = some (.int .i64 H.kind) ∧ w'.cell? ⟨w4.heap.size, 1, none⟩ = some (.bool H.neg) ∧ w'.cell? ⟨w4.heap.size, 2, none⟩ = some (.int .i64 H.exp) ∧ w'.cell? ⟨w4.heap.size, 3, none⟩ = some (.slice A2 (cn H.mag).length c2))
    (first | go_keep | (go_split_ands; refine ⟨?_, ?_, ?_, ?_, ?_, ?_, ?_, ?_, ?_, ?_, ?_, ?_, ?_, ?_⟩ <;> first | (with_reducible assumption) | (refine Ext.cell (w := w8) ?_ ?_ <;> (with_reducible assumption))))
    (first
      | (go_at_call 25; (with_reducible refine (hfm _).mono ?_); rintro z w20 ⟨rfl, hbq⟩; have hE20 : Ext w8 w20 := (Ext.refl w8).drew.tr hbq; )
      | (go_at_call 14; (with_reducible refine (hta _).mono ?_); rintro z w21 ⟨rfl, hbq⟩; have hE21 : Ext w8 w21 := hE20.tr hbq; )
      | (go_at_call 14; (with_reducible refine (htb _).mono ?_); rintro z w22 ⟨rfl, hbq⟩; have hE22 : Ext w8 w22 := hE21.tr hbq; )
      | (go_at_call 26; (with_reducible refine (n2 _ (ha.ext (hE8.tr hE22)) (hb.ext (hE8.tr hE22))).mono ?_); rintro z w23 ⟨u, rfl, ⟨v, rfl, ho⟩, hbq⟩; have hE23 : Ext w8 w23 := hE22.tr hbq; obtain ⟨A4, c4, rfl, hr4⟩ := ho.rd)
      | (go_at_call 19; (with_reducible refine (i2 A2 A4 c2 c4 _ (hr28.ext hE23) hr4).mono ?_); rintro z w24 ⟨rfl, hbq⟩; have hE24 : Ext w8 w24 := hE23.tr hbq; )
      | (go_at_call 9; (with_reducible refine (awake21_c _ (hT.ext (hE8.tr hE24))).mono ?_); rintro z w25 ⟨rfl, hbq⟩; have hE25 : Ext w8 w25 := hE24.tr hbq; )
      | fail)
  go_wp2
  go_ret
  exact ⟨rfl, hE8.tr hE25⟩
theorem orderNexts_c (k p : Int) (a b : FA) (up : Bool) (w : World) (hT : Tab w) (ha : Rd w a.A a.c a.xs) (hb : Rd w b.A b.c b.xs) :
    Calls Tryz.prog 5 #[.agg #[.int .i64 k, .int .i64 p], a.v, b.v, .bool up] w fun e w' => e = .returned (.bool true) ∧ Ext w w' := by
  by_cases hs : [a, b].all (fun a => decide (a.xs.length ≤ 40)) = true
  · by_cases hc : chkS k p [a, b] = 0
    · exact orderNexts_good k p a b up w hT ha hb hs (chk_sub hc) hc
    · by_cases hc1 : chkS k p [a] = 0
      · exact orderNexts_mid k p a b up w hT ha hb hs hc1 hc
      · exact orderNexts_bad k p a b up w hT ha hb hs hc1 hc
  · exact orderNexts_long k p a b up w hT ha hb hs
end Go.Proofs.YtcdgkhmiolhfdaaGreatDoor
