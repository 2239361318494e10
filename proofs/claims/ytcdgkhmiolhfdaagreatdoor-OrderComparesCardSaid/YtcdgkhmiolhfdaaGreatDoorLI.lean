/- OrderCompares: the walk. -/
import Derived.Test.YtcdgkhmiolhfdaaGreatDoorRA
import Derived.Test.YtcdgkhmiolhfdaaGreatDoorTG

set_option linter.unusedVariables false
set_option linter.unusedSimpArgs false
namespace Go.Proofs.YtcdgkhmiolhfdaaGreatDoor
open Go.RowKit
attribute [local go_sem ↓] Go.wp_at_zero Go.wp_at_succ

set_option maxHeartbeats 4000000 in
set_option maxRecDepth 100000 in
theorem orderCompares_long (k p : Int) (a b : FA) (w : World) (hT : Tab w) (ha : Rd w a.A a.c a.xs) (hb : Rd w b.A b.c b.xs) (hs : ¬ [a, b].all (fun a => decide (a.xs.length ≤ 40)) = true) :
    Calls Tryz.prog 3 #[.agg #[.int .i64 k, .int .i64 p], a.v, b.v] w fun e w' => e = .returned (.bool true) ∧ Ext w w' := by
  obtain ⟨hF, hX, hY, hE, hsz⟩ := boxesV2 w k p a b _ rfl
  have HF := Lib.hid hF
  have HX := Lib.hid hX
  have HY := Lib.hid hY
  have HE := Lib.hid hE
  have HS := Lib.hid hsz
  clear hF hX hY hE hsz
  have hsh := fun A c w h => short_c A c [a, b] w h
  rw [Bool.eq_false_iff.2 hs] at hsh
  clear hs
  obtain ⟨ak, an, ae, aA, ac, as1⟩ := a
  obtain ⟨bk, bn, be, bA, bc, bs1⟩ := b
  simp only at HF HX HY HE HS ha hb
  go_enter Tryz.func3, Tryz.ntmps3
  go_wp2_with fail
  have hF := HF.out
  have hX := HX.out
  have hY := HY.out
  have hE := HE.out
  have hsz := HS.out
  clear HF HX HY HE HS
  generalize (((w.alloc (.cells #[.int .i64 k, .int .i64 p] 23)).alloc (.cells #[.int .i64 ak, .bool an, .int .i64 ae, .slice aA as1.length ac] 28)).alloc (.cells #[.int .i64 bk, .bool bn, .int .i64 be, .slice bA bs1.length bc] 28)) = W at *
  have hL := FRd.two W ⟨ak, an, ae, aA, ac, as1⟩ ⟨bk, bn, be, bA, bc, bs1⟩ (ha.ext hE) (hb.ext hE)
  have hA := (Ext.refl W).al (.cells #[.int .i64 ak, .bool an, .int .i64 ae, .slice aA as1.length ac, .int .i64 bk, .bool bn, .int .i64 be, .slice bA bs1.length bc] 28)
  have hsz1 := World.size_alloc W (.cells #[.int .i64 ak, .bool an, .int .i64 ae, .slice aA as1.length ac, .int .i64 bk, .bool bn, .int .i64 be, .slice bA bs1.length bc] 28)
  rw [hsz] at hL hsz1
  clear hsz
  refine (hsh _ _ _ hL).mono ?_
  rintro z w1 ⟨rfl, rfl⟩
  have hF1 := hF.ext hA
  have hX1 := hX.ext hA
  have hY1 := hY.ext hA
  have hE1 := hE.tr hA
  clear hF hX hY hE hA hL
  generalize W.alloc (.cells #[.int .i64 ak, .bool an, .int .i64 ae, .slice aA as1.length ac, .int .i64 bk, .bool bn, .int .i64 be, .slice bA bs1.length bc] 28) = V at *
  clear hsz1
  go_wp2_with fail
  refine (awake21_c _ (hT.ext hE1)).mono ?_
  rintro z w99 ⟨rfl, hb99⟩
  go_wp2
  go_ret
  exact ⟨rfl, hE1.tr hb99⟩
set_option maxHeartbeats 8000000 in
set_option maxRecDepth 100000 in
theorem orderCompares_bad (k p : Int) (a b : FA) (w : World) (hT : Tab w) (ha : Rd w a.A a.c a.xs) (hb : Rd w b.A b.c b.xs) (hs : [a, b].all (fun a => decide (a.xs.length ≤ 40)) = true) (hc : chkS k p [a, b] ≠ 0) :
    Calls Tryz.prog 3 #[.agg #[.int .i64 k, .int .i64 p], a.v, b.v] w fun e w' => e = .returned (.bool true) ∧ Ext w w' := by
  obtain ⟨hF, hX, hY, hE, hsz⟩ := boxesV2 w k p a b _ rfl
  have HF := Lib.hid hF
  have HX := Lib.hid hX
  have HY := Lib.hid hY
  have HE := Lib.hid hE
  have HS := Lib.hid hsz
  clear hF hX hY hE hsz
  have hsh := fun A c w h => short_c A c [a, b] w h
  have hck := fun A c w h => check21_c k p A c [a, b] w h (fun i hi => by
      have h1 := List.all_eq_true.1 hs _ (List.getElem_mem hi)
      have := of_decide_eq_true h1
      omega)
  have hla : a.xs.length ≤ 40 := of_decide_eq_true (List.all_eq_true.1 hs a (by simp))
  have hlb : b.xs.length ≤ 40 := of_decide_eq_true (List.all_eq_true.1 hs b (by simp))
  rw [hs] at hsh
  have hfl := FlsS_chk (k := k) (p := p) (l := [a, b]) (fun x hx => by
      have := of_decide_eq_true (List.all_eq_true.1 hs x hx)
      omega) hc
  have hcb : (chkS k p [a, b] != 0) = true := by rw [bne_iff_ne]; exact hc
  have t1 := fun w hT h h' => Compare_bad k p a b _ hfl hc w hT h h'
  have t2 := fun w hT h h' => Total_bad k p a b _ hfl hc w hT h h'
  clear hfl hc hs hla hlb
  have hself : (chkS k p [a, b] == chkS k p [a, b]) = true := by simp
  generalize chkS k p [a, b] = C at *
  obtain ⟨ak, an, ae, aA, ac, as1⟩ := a
  obtain ⟨bk, bn, be, bA, bc, bs1⟩ := b
  simp only at HF HX HY HE HS ha hb t1 t2
  go_enter Tryz.func3, Tryz.ntmps3
  go_wp2_with fail
  have hF := HF.out
  have hX := HX.out
  have hY := HY.out
  have hE := HE.out
  have hsz := HS.out
  clear HF HX HY HE HS
  generalize (((w.alloc (.cells #[.int .i64 k, .int .i64 p] 23)).alloc (.cells #[.int .i64 ak, .bool an, .int .i64 ae, .slice aA as1.length ac] 28)).alloc (.cells #[.int .i64 bk, .bool bn, .int .i64 be, .slice bA bs1.length bc] 28)) = W at *
  have hL := FRd.two W ⟨ak, an, ae, aA, ac, as1⟩ ⟨bk, bn, be, bA, bc, bs1⟩ (ha.ext hE) (hb.ext hE)
  have hA := (Ext.refl W).al (.cells #[.int .i64 ak, .bool an, .int .i64 ae, .slice aA as1.length ac, .int .i64 bk, .bool bn, .int .i64 be, .slice bA bs1.length bc] 28)
  have hsz1 := World.size_alloc W (.cells #[.int .i64 ak, .bool an, .int .i64 ae, .slice aA as1.length ac, .int .i64 bk, .bool bn, .int .i64 be, .slice bA bs1.length bc] 28)
  rw [hsz] at hL hsz1
  clear hsz
  refine (hsh _ _ _ hL).mono ?_
  rintro z w1 ⟨rfl, rfl⟩
  have hF1 := hF.ext hA
  have hX1 := hX.ext hA
  have hY1 := hY.ext hA
  have hE1 := hE.tr hA
  clear hF hX hY hE hA hL
  generalize W.alloc (.cells #[.int .i64 ak, .bool an, .int .i64 ae, .slice aA as1.length ac, .int .i64 bk, .bool bn, .int .i64 be, .slice bA bs1.length bc] 28) = V at *
  clear hsz1
  obtain ⟨f0, f1⟩ := hF1.facts
  obtain ⟨x0, x1, x2, x3, -⟩ := hX1.facts
  obtain ⟨y0, y1, y2, y3, -⟩ := hY1.facts
  go_wp2_with fail
  refine (t1 _ (hT.ext hE1) (ha.ext hE1) (hb.ext hE1)).mono ?_
  rintro z w2 ⟨rfl, hb2⟩
  have hF2 := hF1.ext hb2
  have hX2 := hX1.ext hb2
  have hY2 := hY1.ext hb2
  have hE2 := hE1.tr hb2
  clear f0 f1 x0 x1 x2 x3 y0 y1 y2 y3
  clear hF1 hX1 hY1 hE1 hb2
  obtain ⟨f0, f1⟩ := hF2.facts
  obtain ⟨x0, x1, x2, x3, -⟩ := hX2.facts
  obtain ⟨y0, y1, y2, y3, -⟩ := hY2.facts
  go_wp2_with fail
  refine (t2 _ (hT.ext hE2) (ha.ext hE2) (hb.ext hE2)).mono ?_
  rintro z w3 ⟨rfl, hb3⟩
  have hF3 := hF2.ext hb3
  have hX3 := hX2.ext hb3
  have hY3 := hY2.ext hb3
  have hE3 := hE2.tr hb3
  clear f0 f1 x0 x1 x2 x3 y0 y1 y2 y3
  clear hF2 hX2 hY2 hE2 hb3
  obtain ⟨f0, f1⟩ := hF3.facts
  obtain ⟨x0, x1, x2, x3, -⟩ := hX3.facts
  obtain ⟨y0, y1, y2, y3, -⟩ := hY3.facts
  have hL := FRd.two w3 ⟨ak, an, ae, aA, ac, as1⟩ ⟨bk, bn, be, bA, bc, bs1⟩ (ha.ext hE3) (hb.ext hE3)
  have hA := (Ext.refl w3).al (.cells #[.int .i64 ak, .bool an, .int .i64 ae, .slice aA as1.length ac, .int .i64 bk, .bool bn, .int .i64 be, .slice bA bs1.length bc] 28)
  go_wp2_with fail
  refine (hck _ _ _ hL).mono ?_
  rintro z w4 ⟨rfl, hb4⟩
  replace hb4 := hA.tr hb4
  have hF4 := hF3.ext hb4
  have hX4 := hX3.ext hb4
  have hY4 := hY3.ext hb4
  have hE4 := hE3.tr hb4
  clear f0 f1 x0 x1 x2 x3 y0 y1 y2 y3
  clear hF3 hX3 hY3 hE3 hb4
  go_wp2_with fail
  refine (awake21_c _ (hT.ext hE4)).mono ?_
  rintro z w99 ⟨rfl, hb99⟩
  go_wp2
  go_ret
  exact ⟨rfl, hE4.tr hb99⟩
set_option maxHeartbeats 8000000 in
set_option maxRecDepth 100000 in
theorem orderCompares_good (k p : Int) (a b : FA) (w : World) (hT : Tab w) (ha : Rd w a.A a.c a.xs) (hb : Rd w b.A b.c b.xs) (hs : [a, b].all (fun a => decide (a.xs.length ≤ 40)) = true) (hc : chkS k p [a, b] = 0) :
    Calls Tryz.prog 3 #[.agg #[.int .i64 k, .int .i64 p], a.v, b.v] w fun e w' => e = .returned (.bool true) ∧ Ext w w' := by
  obtain ⟨hF, hX, hY, hE, hsz⟩ := boxesV2 w k p a b _ rfl
  have HF := Lib.hid hF
  have HX := Lib.hid hX
  have HY := Lib.hid hY
  have HE := Lib.hid hE
  have HS := Lib.hid hsz
  clear hF hX hY hE hsz
  have hsh := fun A c w h => short_c A c [a, b] w h
  have hck := fun A c w h => check21_c k p A c [a, b] w h (fun i hi => by
      have h1 := List.all_eq_true.1 hs _ (List.getElem_mem hi)
      have := of_decide_eq_true h1
      omega)
  have hla : a.xs.length ≤ 40 := of_decide_eq_true (List.all_eq_true.1 hs a (by simp))
  have hlb : b.xs.length ≤ 40 := of_decide_eq_true (List.all_eq_true.1 hs b (by simp))
  rw [hs] at hsh
  rw [hc] at hck
  obtain ⟨hR, hpt⟩ := chk_good hc
  obtain ⟨f, hfc, hfi⟩ := hpt a (by simp)
  obtain ⟨g, hgc, hgi⟩ := hpt b (by simp)
  have hf := of_good hfc hfi ha.w64 (by omega)
  have hg := of_good hgc hgi hb.w64 (by omega)
  have hfl := FlsS_two_ok hR (by omega) hfc hfi (by omega) hgc hgi
  have t1 := fun w hT h h' => Compare_good k p hR a b f g hfl hf hg w hT h h'
  have t2 := fun w hT h h' => Total_good k p hR a b f g hfl hf hg w hT h h'
  have t3 := fun w h h' => rocmp_c k p hR a b f g hfc hgc hf hg (by omega) (by omega) w h h'
  have t4 := fun w h h' => rototal_c k p hR a b f g hfc hgc hf hg (by omega) (by omega) w h h'
  have hta := fun w => their_c a.k a.e a.neg a.A a.xs.length a.c w
  have htb := fun w => their_c b.k b.e b.neg b.A b.xs.length b.c w
  have haw := fun w h => awake21_c w h
  have s1 : (cmpV k p f g == cmpV k p f g) = true := by simp
  have s2 : (cmpB f g == cmpB f g) = true := by simp
  have s3 : (totF k p f g == totF k p f g) = true := by simp
  generalize cmpV k p f g = V1 at *
  generalize cmpB f g = V2 at *
  generalize totF k p f g = V3 at *
  clear hfl hf hg hs hc hR hpt hfc hgc hfi hgi hla hlb f g
  obtain ⟨ak, an, ae, aA, ac, as1⟩ := a
  obtain ⟨bk, bn, be, bA, bc, bs1⟩ := b
  simp only at HF HX HY HE HS ha hb t1 t2 t3 t4 hta htb
  go_enter Tryz.func3, Tryz.ntmps3
  go_wp2_with fail
  have hF := HF.out
  have hX := HX.out
  have hY := HY.out
  have hE := HE.out
  have hsz := HS.out
  clear HF HX HY HE HS
  generalize (((w.alloc (.cells #[.int .i64 k, .int .i64 p] 23)).alloc (.cells #[.int .i64 ak, .bool an, .int .i64 ae, .slice aA as1.length ac] 28)).alloc (.cells #[.int .i64 bk, .bool bn, .int .i64 be, .slice bA bs1.length bc] 28)) = W at *
  have hL := FRd.two W ⟨ak, an, ae, aA, ac, as1⟩ ⟨bk, bn, be, bA, bc, bs1⟩ (ha.ext hE) (hb.ext hE)
  have hA := (Ext.refl W).al (.cells #[.int .i64 ak, .bool an, .int .i64 ae, .slice aA as1.length ac, .int .i64 bk, .bool bn, .int .i64 be, .slice bA bs1.length bc] 28)
  have hsz1 := World.size_alloc W (.cells #[.int .i64 ak, .bool an, .int .i64 ae, .slice aA as1.length ac, .int .i64 bk, .bool bn, .int .i64 be, .slice bA bs1.length bc] 28)
  rw [hsz] at hL hsz1
  clear hsz
  refine (hsh _ _ _ hL).mono ?_
  rintro z w1 ⟨rfl, rfl⟩
  have hF1 := hF.ext hA
  have hX1 := hX.ext hA
  have hY1 := hY.ext hA
  have hE1 := hE.tr hA
  clear hF hX hY hE hA hL
  generalize W.alloc (.cells #[.int .i64 ak, .bool an, .int .i64 ae, .slice aA as1.length ac, .int .i64 bk, .bool bn, .int .i64 be, .slice bA bs1.length bc] 28) = V at *
  clear hsz1
  obtain ⟨f0, f1⟩ := hF1.facts
  obtain ⟨x0, x1, x2, x3, -⟩ := hX1.facts
  obtain ⟨y0, y1, y2, y3, -⟩ := hY1.facts
  go_wp2_with fail
  refine (t1 _ (hT.ext hE1) (ha.ext hE1) (hb.ext hE1)).mono ?_
  rintro z w2 ⟨rfl, hb2⟩
  have hF2 := hF1.ext hb2
  have hX2 := hX1.ext hb2
  have hY2 := hY1.ext hb2
  have hE2 := hE1.tr hb2
  clear f0 f1 x0 x1 x2 x3 y0 y1 y2 y3
  clear hF1 hX1 hY1 hE1 hb2
  obtain ⟨f0, f1⟩ := hF2.facts
  obtain ⟨x0, x1, x2, x3, -⟩ := hX2.facts
  obtain ⟨y0, y1, y2, y3, -⟩ := hY2.facts
  go_wp2_with fail
  refine (t2 _ (hT.ext hE2) (ha.ext hE2) (hb.ext hE2)).mono ?_
  rintro z w3 ⟨rfl, hb3⟩
  have hF3 := hF2.ext hb3
  have hX3 := hX2.ext hb3
  have hY3 := hY2.ext hb3
  have hE3 := hE2.tr hb3
  clear f0 f1 x0 x1 x2 x3 y0 y1 y2 y3
  clear hF2 hX2 hY2 hE2 hb3
  obtain ⟨f0, f1⟩ := hF3.facts
  obtain ⟨x0, x1, x2, x3, -⟩ := hX3.facts
  obtain ⟨y0, y1, y2, y3, -⟩ := hY3.facts
  have hL := FRd.two w3 ⟨ak, an, ae, aA, ac, as1⟩ ⟨bk, bn, be, bA, bc, bs1⟩ (ha.ext hE3) (hb.ext hE3)
  have hA := (Ext.refl w3).al (.cells #[.int .i64 ak, .bool an, .int .i64 ae, .slice aA as1.length ac, .int .i64 bk, .bool bn, .int .i64 be, .slice bA bs1.length bc] 28)
  go_wp2_with fail
  refine (hck _ _ _ hL).mono ?_
  rintro z w4 ⟨rfl, hb4⟩
  replace hb4 := hA.tr hb4
  have hF4 := hF3.ext hb4
  have hX4 := hX3.ext hb4
  have hY4 := hY3.ext hb4
  have hE4 := hE3.tr hb4
  clear f0 f1 x0 x1 x2 x3 y0 y1 y2 y3
  clear hF3 hX3 hY3 hE3 hb4
  obtain ⟨f0, f1⟩ := hF4.facts
  obtain ⟨x0, x1, x2, x3, -⟩ := hX4.facts
  obtain ⟨y0, y1, y2, y3, -⟩ := hY4.facts
  go_wp2_with fail
  have f0' := Later.cell f0
  have f1' := Later.cell f1
  have x0' := Later.cell x0
  have x1' := Later.cell x1
  have x2' := Later.cell x2
  have x3' := Later.cell x3
  have y0' := Later.cell y0
  have y1' := Later.cell y1
  have y2' := Later.cell y2
  have y3' := Later.cell y3
  refine wp_region_later (by kernel_rfl) (by kernel_rfl) ?_
  repeat (go_big_quiet_step (first
    | (go_at_call 14; (with_reducible refine Calls.later (hta _)))
    | (go_at_call 14; (with_reducible refine Calls.later (htb _)))
    | (go_at_call 13; (with_reducible refine Calls.later (t3 _ (ha.ext (hE4.tr (Later.h _))) (hb.ext (hE4.tr (Later.h _))))))
    | fail))
  refine wpQuiet_nil ?_
  intro w5 hw'
  obtain ⟨⟨_, hb5⟩, rfl⟩ := hw'
  clear f0' f1' x0' x1' x2' x3' y0' y1' y2' y3'
  have hF5 := hF4.ext hb5
  have hX5 := hX4.ext hb5
  have hY5 := hY4.ext hb5
  have hE5 := hE4.tr hb5
  clear f0 f1 x0 x1 x2 x3 y0 y1 y2 y3
  clear hF4 hX4 hY4 hE4 hb5
  obtain ⟨f0, f1⟩ := hF5.facts
  obtain ⟨x0, x1, x2, x3, -⟩ := hX5.facts
  obtain ⟨y0, y1, y2, y3, -⟩ := hY5.facts
  go_wp2_with fail
  have f0' := Later.cell f0
  have f1' := Later.cell f1
  have x0' := Later.cell x0
  have x1' := Later.cell x1
  have x2' := Later.cell x2
  have x3' := Later.cell x3
  have y0' := Later.cell y0
  have y1' := Later.cell y1
  have y2' := Later.cell y2
  have y3' := Later.cell y3
  refine wp_region_later (by kernel_rfl) (by kernel_rfl) ?_
  repeat (go_big_quiet_step (first
    | (go_at_call 14; (with_reducible refine Calls.later (hta _)))
    | (go_at_call 14; (with_reducible refine Calls.later (htb _)))
    | (go_at_call 15; (with_reducible refine Calls.later (t4 _ (ha.ext (hE5.tr (Later.h _))) (hb.ext (hE5.tr (Later.h _))))))
    | (go_at_call 9; (with_reducible refine Calls.later (haw _ (hT.ext (hE5.tr (Later.h _))))))
    | fail))
  refine wpQuiet_nil ?_
  intro w6 hw'
  obtain ⟨⟨_, hb6⟩, rfl⟩ := hw'
  clear f0' f1' x0' x1' x2' x3' y0' y1' y2' y3'
  go_wp2
  go_ret
  exact ⟨rfl, hE5.tr hb6⟩
theorem orderCompares_c (k p : Int) (a b : FA) (w : World) (hT : Tab w) (ha : Rd w a.A a.c a.xs) (hb : Rd w b.A b.c b.xs) :
    Calls Tryz.prog 3 #[.agg #[.int .i64 k, .int .i64 p], a.v, b.v] w fun e w' => e = .returned (.bool true) ∧ Ext w w' := by
  by_cases hs : [a, b].all (fun a => decide (a.xs.length ≤ 40)) = true
  · by_cases hc : chkS k p [a, b] = 0
    · exact orderCompares_good k p a b w hT ha hb hs hc
    · exact orderCompares_bad k p a b w hT ha hb hs hc
  · exact orderCompares_long k p a b w hT ha hb hs
end Go.Proofs.YtcdgkhmiolhfdaaGreatDoor
