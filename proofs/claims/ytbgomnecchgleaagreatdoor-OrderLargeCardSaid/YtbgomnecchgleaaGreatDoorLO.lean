/- OrderLarge: the walk. -/
import Derived.Test.YtbgomnecchgleaaGreatDoorOM
import Derived.Test.YtbgomnecchgleaaGreatDoorOE
import Derived.Test.YtbgomnecchgleaaGreatDoorT5
set_option linter.unusedVariables false
set_option linter.unusedSimpArgs false
namespace Go.Proofs.YtbgomnecchgleaaGreatDoor
open Go.RowKit
attribute [local go_sem ↓] Go.wp_at_zero Go.wp_at_succ

theorem boxesLo (w : World) (k p : Int) (a : FA) : ∀ W, W = ((w.alloc (.cells #[.int .i64 k, .int .i64 p] 23)).alloc (.cells #[.int .i64 a.k, .bool a.neg, .int .i64 a.e, .slice a.A a.xs.length a.c] 29)) →
    Bf W w.heap.size (.int .i64 k) (.int .i64 p) ∧ Bx W (w.heap.size + 1) (.int .i64 a.k) (.bool a.neg) (.int .i64 a.e) (.slice a.A a.xs.length a.c) ∧ Ext w W ∧ W.heap.size = w.heap.size + 1 + 1 := by
  rintro W rfl
  have x := Bx.new (w.alloc (.cells #[.int .i64 k, .int .i64 p] 23)) (.int .i64 a.k) (.bool a.neg) (.int .i64 a.e) (.slice a.A a.xs.length a.c)
  rw [World.size_alloc] at x
  exact ⟨(Bf.new w _ _).ext ((Ext.refl _).al _), x, ((Ext.refl w).al _).al _, by simp only [World.size_alloc]⟩
theorem fls_big {k p : Int} {l : List FA} (i : Nat) (hi : i < l.length) (h : 4096 < l[i].xs.length) : FlsS k p l = (2, []) := by unfold FlsS; rw [if_pos (any_of_large i hi h)]
set_option maxHeartbeats 4000000 in
set_option maxRecDepth 100000 in
theorem orderLarge_no (k p r : Int) (a : FA) (w : World) (hT : Tab w) (ha : Rd w a.A a.c a.xs) (hs : ¬ [a].all (fun a => decide (a.xs.length ≤ 40)) = true) :
    Calls Tryz.prog 3 #[.agg #[.int .i64 k, .int .i64 p], .int .i64 r, a.v] w fun e w' => e = .returned (.bool true) ∧ Ext w w' := by
  obtain ⟨hF, hX, hE, hsz⟩ := boxesLo w k p a _ rfl
  have HF := Lib.hid hF
  have HX := Lib.hid hX
  have HE := Lib.hid hE
  have HS := Lib.hid hsz
  clear hF hX hE hsz
  have hsh := fun A c w h => short_c A c [a] w h
  rw [Bool.eq_false_iff.2 hs] at hsh
  clear hs
  obtain ⟨ak, an, ae, aA, ac, as1⟩ := a
  simp only at HF HX HE HS ha
  go_enter Tryz.func3, Tryz.ntmps3
  go_wp2_with fail
  have hF := HF.out
  have hX := HX.out
  have hE := HE.out
  have hsz := HS.out
  clear HF HX HE HS
  generalize ((w.alloc (.cells #[.int .i64 k, .int .i64 p] 23)).alloc (.cells #[.int .i64 ak, .bool an, .int .i64 ae, .slice aA as1.length ac] 29)) = W at *
  have hA := (Ext.refl W).al (.cells #[.int .i64 ak, .bool an, .int .i64 ae, .slice aA as1.length ac] 29)
  have hL := FRd.one (a := ⟨ak, an, ae, aA, ac, as1⟩) (Bx.new W (.int .i64 ak) (.bool an) (.int .i64 ae) (.slice aA as1.length ac)) (ha.ext (hE.tr hA))
  rw [hsz] at hL
  clear hsz
  refine (hsh _ _ _ hL).mono ?_
  rintro z w1 ⟨rfl, rfl⟩
  replace hF := hF.ext hA
  replace hX := hX.ext hA
  replace hE := hE.tr hA
  clear hA hL
  generalize W.alloc (.cells #[.int .i64 ak, .bool an, .int .i64 ae, .slice aA as1.length ac] 29) = V at *
  go_wp2_with fail
  refine (awake21_c _ (hT.ext hE)).mono ?_
  rintro z w99 ⟨rfl, hb99⟩
  go_wp2
  go_ret
  exact ⟨rfl, hE.tr hb99⟩
set_option maxHeartbeats 16000000 in
set_option maxRecDepth 100000 in
theorem orderLarge_yes (k p r : Int) (a : FA) (w : World) (hT : Tab w) (ha : Rd w a.A a.c a.xs) (hs : [a].all (fun a => decide (a.xs.length ≤ 40)) = true) :
    Calls Tryz.prog 3 #[.agg #[.int .i64 k, .int .i64 p], .int .i64 r, a.v] w fun e w' => e = .returned (.bool true) ∧ Ext w w' := by
  obtain ⟨hF, hX, hE, hsz⟩ := boxesLo w k p a _ rfl
  have HF := Lib.hid hF
  have HX := Lib.hid hX
  have HE := Lib.hid hE
  have HS := Lib.hid hsz
  clear hF hX hE hsz
  have hsh := fun A c w h => short_c A c [a] w h
  rw [hs] at hsh
  have hla : a.xs.length ≤ 40 := of_decide_eq_true (List.all_eq_true.1 hs a (by simp))
  have hP : (padW a.xs a.xs.length).length = 4097 := padW_len (Nat.le_refl _) (by omega)
  have tl := fun w h => long_c a.k a.e a.neg a.A a.c a.xs w h hla
  generalize padW a.xs a.xs.length = P at *
  have t1 : ∀ g w, Tab w → Rd w a.A a.c a.xs → Rd w (some ⟨g, 0, none⟩) 4097 P → Calls Tryz.prog 7 #[.agg #[.int .i64 k, .int .i64 p], a.v, flV a.k a.neg a.e (.slice (some ⟨g, 0, none⟩) 4097 4097)] w (fun e w' => e = .returned (.tuple #[.int .i64 0, .bool false, .int .i64 2]) ∧ Ext w w') := fun g w hT h h' => by
    have h1 := Compare_bad k p a ⟨a.k, a.neg, a.e, some ⟨g, 0, none⟩, 4097, P⟩ 2 (fls_big (k := k) (p := p) (l := [a, ⟨a.k, a.neg, a.e, some ⟨g, 0, none⟩, 4097, P⟩]) 1 (by simp) (by show 4096 < P.length; omega)) (by decide) w hT h h'
    simp only [FA.v, hP] at h1 ⊢
    exact h1
  have t2 : ∀ g w, Tab w → Rd w a.A a.c a.xs → Rd w (some ⟨g, 0, none⟩) 4097 P → Calls Tryz.prog 8 #[.agg #[.int .i64 k, .int .i64 p], flV a.k a.neg a.e (.slice (some ⟨g, 0, none⟩) 4097 4097), a.v] w (fun e w' => e = .returned (.tuple #[.int .i64 0, .int .i64 2]) ∧ Ext w w') := fun g w hT h h' => by
    have h1 := Total_bad k p ⟨a.k, a.neg, a.e, some ⟨g, 0, none⟩, 4097, P⟩ a 2 (fls_big (k := k) (p := p) (l := [⟨a.k, a.neg, a.e, some ⟨g, 0, none⟩, 4097, P⟩, a]) 0 (by simp) (by show 4096 < P.length; omega)) (by decide) w hT h' h
    simp only [FA.v, hP] at h1 ⊢
    exact h1
  have t3 : ∀ g w, Tab w → Rd w a.A a.c a.xs → Rd w (some ⟨g, 0, none⟩) 4097 P → Calls Tryz.prog 9 #[.agg #[.int .i64 k, .int .i64 p], a.v, flV a.k a.neg a.e (.slice (some ⟨g, 0, none⟩) 4097 4097)] w (FErr w 2 ⟨0, false, 0, 0⟩) := fun g w hT h h' => by
    have h1 := Min_w k p a ⟨a.k, a.neg, a.e, some ⟨g, 0, none⟩, 4097, P⟩ 2 ⟨0, false, 0, 0⟩ (fun w hT h h' => choose_bad k p a ⟨a.k, a.neg, a.e, some ⟨g, 0, none⟩, 4097, P⟩ (-1) 2 (fls_big (k := k) (p := p) (l := [a, ⟨a.k, a.neg, a.e, some ⟨g, 0, none⟩, 4097, P⟩]) 1 (by simp) (by show 4096 < P.length; omega)) (by decide) w hT h h') w hT h h'
    simp only [FA.v, hP] at h1 ⊢
    exact h1
  have t4 : ∀ g w, Tab w → Rd w a.A a.c a.xs → Rd w (some ⟨g, 0, none⟩) 4097 P → Calls Tryz.prog 10 #[.agg #[.int .i64 k, .int .i64 p], flV a.k a.neg a.e (.slice (some ⟨g, 0, none⟩) 4097 4097), a.v] w (FErr w 2 ⟨0, false, 0, 0⟩) := fun g w hT h h' => by
    have h1 := Max_w k p ⟨a.k, a.neg, a.e, some ⟨g, 0, none⟩, 4097, P⟩ a 2 ⟨0, false, 0, 0⟩ (fun w hT h h' => choose_bad k p ⟨a.k, a.neg, a.e, some ⟨g, 0, none⟩, 4097, P⟩ a 1 2 (fls_big (k := k) (p := p) (l := [⟨a.k, a.neg, a.e, some ⟨g, 0, none⟩, 4097, P⟩, a]) 0 (by simp) (by show 4096 < P.length; omega)) (by decide) w hT h h') w hT h' h
    simp only [FA.v, hP] at h1 ⊢
    exact h1
  have t5 : ∀ g w, Tab w → Rd w a.A a.c a.xs → Rd w (some ⟨g, 0, none⟩) 4097 P → Calls Tryz.prog 11 #[.agg #[.int .i64 k, .int .i64 p], flV a.k a.neg a.e (.slice (some ⟨g, 0, none⟩) 4097 4097), .bool true] w (FErr w 2 ⟨0, false, 0, 0⟩) := fun g w hT h h' => by
    have h1 := Next_bad k p ⟨a.k, a.neg, a.e, some ⟨g, 0, none⟩, 4097, P⟩ 2 (fls_big (k := k) (p := p) (l := [⟨a.k, a.neg, a.e, some ⟨g, 0, none⟩, 4097, P⟩]) 0 (by simp) (by show 4096 < P.length; omega)) (by decide) true w hT h'
    simp only [FA.v, hP] at h1 ⊢
    exact h1
  have t6 : ∀ g w, Tab w → Rd w a.A a.c a.xs → Rd w (some ⟨g, 0, none⟩) 4097 P → Calls Tryz.prog 12 #[.agg #[.int .i64 k, .int .i64 p], a.v, flV a.k a.neg a.e (.slice (some ⟨g, 0, none⟩) 4097 4097)] w (FErr w 2 ⟨0, false, 0, 0⟩) := fun g w hT h h' => by
    have h1 := Toward_bad k p a ⟨a.k, a.neg, a.e, some ⟨g, 0, none⟩, 4097, P⟩ 2 (fls_big (k := k) (p := p) (l := [a, ⟨a.k, a.neg, a.e, some ⟨g, 0, none⟩, 4097, P⟩]) 1 (by simp) (by show 4096 < P.length; omega)) (by decide) w hT h h'
    simp only [FA.v, hP] at h1 ⊢
    exact h1
  have t7 : ∀ g w, Tab w → Rd w a.A a.c a.xs → Rd w (some ⟨g, 0, none⟩) 4097 P → Calls Tryz.prog 13 #[.agg #[.int .i64 k, .int .i64 p], flV a.k a.neg a.e (.slice (some ⟨g, 0, none⟩) 4097 4097), a.v] w (IntNo w 2) := fun g w hT h h' => by
    have h1 := Steps_bad k p ⟨a.k, a.neg, a.e, some ⟨g, 0, none⟩, 4097, P⟩ a 2 (fls_big (k := k) (p := p) (l := [⟨a.k, a.neg, a.e, some ⟨g, 0, none⟩, 4097, P⟩, a]) 0 (by simp) (by show 4096 < P.length; omega)) (by decide) w hT h' h
    simp only [FA.v, hP] at h1 ⊢
    exact h1
  have t8 := fun g w => At_size k p false (some ⟨g, 0, none⟩) 4097 4097 (by decide) w
  have t9 : ∀ g w, Tab w → Rd w a.A a.c a.xs → Rd w (some ⟨g, 0, none⟩) 4097 P → Calls Tryz.prog 15 #[.agg #[.int .i64 k, .int .i64 p], flV a.k a.neg a.e (.slice (some ⟨g, 0, none⟩) 4097 4097)] w (fun e w' => e = .returned (.tuple #[.int .i64 0, .int .i64 2]) ∧ Ext w w') := fun g w hT h h' => by
    have h1 := Exponent_bad k p ⟨a.k, a.neg, a.e, some ⟨g, 0, none⟩, 4097, P⟩ 2 (fls_big (k := k) (p := p) (l := [⟨a.k, a.neg, a.e, some ⟨g, 0, none⟩, 4097, P⟩]) 0 (by simp) (by show 4096 < P.length; omega)) (by decide) w hT h'
    simp only [FA.v, hP] at h1 ⊢
    exact h1
  have ta : ∀ g w, Tab w → Rd w a.A a.c a.xs → Rd w (some ⟨g, 0, none⟩) 4097 P → Calls Tryz.prog 16 #[.agg #[.int .i64 k, .int .i64 p], .int .i64 r, flV a.k a.neg a.e (.slice (some ⟨g, 0, none⟩) 4097 4097), .int .i64 (-9223372036854775808)] w (fun e w' => e = .returned (.tuple #[flV 0 false 0 (.slice none 0 0), .int .i64 0, .int .i64 2]) ∧ Ext w w') := fun g w hT h h' => by
    have h1 := Scale_size k p r ⟨a.k, a.neg, a.e, some ⟨g, 0, none⟩, 4097, P⟩ (by show 4096 < P.length; omega) w h'
    simp only [FA.v, hP] at h1 ⊢
    exact h1
  have tb : ∀ g A c w, FRd w A c [a, ⟨a.k, a.neg, a.e, some ⟨g, 0, none⟩, 4097, P⟩] → Calls Tryz.prog 17 #[.agg #[.int .i64 k, .int .i64 p], .slice A 2 c] w (fun e w' => e = .returned (.tuple #[.slice none 0 0, .int .i64 2]) ∧ Ext w w') := fun g A c w h => Sort_size k p A c [a, ⟨a.k, a.neg, a.e, some ⟨g, 0, none⟩, 4097, P⟩] (any_of_large 1 (by simp) (by show 4096 < P.length; omega)) (by simp) w h
  have hnn := fun A c w => none_c 0 0 false A 0 c w
  simp only [show decide ((0 : Int) = 0 ∧ false = false ∧ (0 : Int) = 0 ∧ (0 : Nat) = 0) = true by decide] at hnn
  have hni := fun A c w => noint21_c A c w
  have hft := fun A c w => fits_none A c w
  have hlg := fun g w => rlarge_c (some ⟨g, 0, none⟩) 4097 4097 w
  simp only [show decide (4096 < 4097) = true by decide] at hlg
  unfold FErr FlR at t3 t4 t5 t6 t8
  unfold IntNo at t7
  simp only [show cn (0 : Nat) = [] from digs_zero B, List.length_nil] at t3 t4 t5 t6 t8
  clear hs hla
  obtain ⟨ak, an, ae, aA, ac, as1⟩ := a
  simp only at HF HX HE HS ha tl t1 t2 t3 t4 t5 t6 t7 t9 ta tb
  go_enter Tryz.func3, Tryz.ntmps3
  go_wp2_with fail
  have hF := HF.out
  have hX := HX.out
  have hE := HE.out
  have hsz := HS.out
  clear HF HX HE HS
  generalize ((w.alloc (.cells #[.int .i64 k, .int .i64 p] 23)).alloc (.cells #[.int .i64 ak, .bool an, .int .i64 ae, .slice aA as1.length ac] 29)) = W at *
  have hA := (Ext.refl W).al (.cells #[.int .i64 ak, .bool an, .int .i64 ae, .slice aA as1.length ac] 29)
  have hL := FRd.one (a := ⟨ak, an, ae, aA, ac, as1⟩) (Bx.new W (.int .i64 ak) (.bool an) (.int .i64 ae) (.slice aA as1.length ac)) (ha.ext (hE.tr hA))
  rw [hsz] at hL
  clear hsz
  refine (hsh _ _ _ hL).mono ?_
  rintro z w1 ⟨rfl, rfl⟩
  replace hF := hF.ext hA
  replace hX := hX.ext hA
  replace hE := hE.tr hA
  clear hA hL
  generalize W.alloc (.cells #[.int .i64 ak, .bool an, .int .i64 ae, .slice aA as1.length ac] 29) = V at *
  obtain ⟨x0, x1, x2, x3, -⟩ := hX.facts
  go_wp2_with fail
  refine (tl _ (ha.ext hE)).mono ?_
  rintro z w2 ⟨g, rfl, hbk, hb2⟩
  clear x0 x1 x2 x3
  replace hF := hF.ext hb2
  replace hX := hX.ext hb2
  replace hE := hE.tr hb2
  have hz : Rd w2 (some ⟨g, 0, none⟩) 4097 P := hbk.rd (by omega) (by omega)
  have nZ := Bx.new w2 (.int .i64 ak) (.bool an) (.int .i64 ae) (.slice (some ⟨g, 0, none⟩) 4097 4097)
  have gZ := (Ext.refl w2).al (.cells #[.int .i64 ak, .bool an, .int .i64 ae, .slice (some ⟨g, 0, none⟩) 4097 4097] 29)
  have lhF := hF.lt
  have lhX := hX.lt
  obtain ⟨f0, f1⟩ := hF.facts
  obtain ⟨x0, x1, x2, x3, -⟩ := hX.facts
  go_wp2_with fail
  clear f0 f1 x0 x1 x2 x3
  clear lhF lhX
  replace hF := hF.ext gZ
  replace hX := hX.ext gZ
  replace hE := hE.tr gZ
  have hZ := nZ
  replace hz := hz.ext gZ
  clear nZ gZ
  refine (t1 g _ (hT.ext hE) (ha.ext hE) hz).mono ?_
  rintro z w3 ⟨rfl, hb3⟩
  replace hF := hF.ext hb3
  replace hX := hX.ext hb3
  replace hZ := hZ.ext hb3
  replace hz := hz.ext hb3
  replace hE := hE.tr hb3
  obtain ⟨f0, f1⟩ := hF.facts
  obtain ⟨x0, x1, x2, x3, -⟩ := hX.facts
  obtain ⟨y0, y1, y2, y3, -⟩ := hZ.facts
  go_wp2_with fail
  clear f0 f1 x0 x1 x2 x3 y0 y1 y2 y3
  refine (t2 g _ (hT.ext hE) (ha.ext hE) hz).mono ?_
  rintro z w4 ⟨rfl, hb4⟩
  replace hF := hF.ext hb4
  replace hX := hX.ext hb4
  replace hZ := hZ.ext hb4
  replace hz := hz.ext hb4
  replace hE := hE.tr hb4
  obtain ⟨f0, f1⟩ := hF.facts
  obtain ⟨x0, x1, x2, x3, -⟩ := hX.facts
  obtain ⟨y0, y1, y2, y3, -⟩ := hZ.facts
  go_wp2_with fail
  clear f0 f1 x0 x1 x2 x3 y0 y1 y2 y3
  refine (t3 g _ (hT.ext hE) (ha.ext hE) hz).mono ?_
  rintro z w5 ⟨u, rfl, ⟨v, rfl, ho⟩, hb5⟩
  obtain ⟨AM, cM, rfl, -⟩ := ho.rd
  simp only [List.length_nil]
  replace hF := hF.ext hb5
  replace hX := hX.ext hb5
  replace hZ := hZ.ext hb5
  replace hz := hz.ext hb5
  replace hE := hE.tr hb5
  have nM := Bx.new w5 (.int .i64 0) (.bool false) (.int .i64 0) (.slice AM 0 cM)
  have gM := (Ext.refl w5).al (.cells #[.int .i64 0, .bool false, .int .i64 0, .slice AM 0 cM] 29)
  have lhF := hF.lt
  have lhX := hX.lt
  have lhZ := hZ.lt
  obtain ⟨f0, f1⟩ := hF.facts
  obtain ⟨x0, x1, x2, x3, -⟩ := hX.facts
  obtain ⟨y0, y1, y2, y3, -⟩ := hZ.facts
  go_wp2_with fail
  clear f0 f1 x0 x1 x2 x3 y0 y1 y2 y3
  clear lhF lhX lhZ
  replace hF := hF.ext gM
  replace hX := hX.ext gM
  replace hZ := hZ.ext gM
  replace hz := hz.ext gM
  replace hE := hE.tr gM
  have hM := nM
  clear nM gM
  refine (t4 g _ (hT.ext hE) (ha.ext hE) hz).mono ?_
  rintro z w6 ⟨u, rfl, ⟨v, rfl, ho⟩, hb6⟩
  obtain ⟨AN, cN, rfl, -⟩ := ho.rd
  simp only [List.length_nil]
  replace hF := hF.ext hb6
  replace hX := hX.ext hb6
  replace hZ := hZ.ext hb6
  replace hM := hM.ext hb6
  replace hz := hz.ext hb6
  replace hE := hE.tr hb6
  have nN := Bx.new w6 (.int .i64 0) (.bool false) (.int .i64 0) (.slice AN 0 cN)
  have gN := (Ext.refl w6).al (.cells #[.int .i64 0, .bool false, .int .i64 0, .slice AN 0 cN] 29)
  have lhF := hF.lt
  have lhX := hX.lt
  have lhZ := hZ.lt
  have lhM := hM.lt
  obtain ⟨f0, f1⟩ := hF.facts
  obtain ⟨y0, y1, y2, y3, -⟩ := hZ.facts
  go_wp2_with fail
  clear f0 f1 y0 y1 y2 y3
  clear lhF lhX lhZ lhM
  replace hF := hF.ext gN
  replace hX := hX.ext gN
  replace hZ := hZ.ext gN
  replace hM := hM.ext gN
  replace hz := hz.ext gN
  replace hE := hE.tr gN
  have hN := nN
  clear nN gN
  refine (t5 g _ (hT.ext hE) (ha.ext hE) hz).mono ?_
  rintro z w7 ⟨u, rfl, ⟨v, rfl, ho⟩, hb7⟩
  obtain ⟨AP5, cP5, rfl, -⟩ := ho.rd
  simp only [List.length_nil]
  replace hF := hF.ext hb7
  replace hX := hX.ext hb7
  replace hZ := hZ.ext hb7
  replace hM := hM.ext hb7
  replace hN := hN.ext hb7
  replace hz := hz.ext hb7
  replace hE := hE.tr hb7
  have nP5 := Bx.new w7 (.int .i64 0) (.bool false) (.int .i64 0) (.slice AP5 0 cP5)
  have gP5 := (Ext.refl w7).al (.cells #[.int .i64 0, .bool false, .int .i64 0, .slice AP5 0 cP5] 29)
  have lhF := hF.lt
  have lhX := hX.lt
  have lhZ := hZ.lt
  have lhM := hM.lt
  have lhN := hN.lt
  obtain ⟨f0, f1⟩ := hF.facts
  obtain ⟨x0, x1, x2, x3, -⟩ := hX.facts
  obtain ⟨y0, y1, y2, y3, -⟩ := hZ.facts
  go_wp2_with fail
  clear f0 f1 x0 x1 x2 x3 y0 y1 y2 y3
  clear lhF lhX lhZ lhM lhN
  replace hF := hF.ext gP5
  replace hX := hX.ext gP5
  replace hZ := hZ.ext gP5
  replace hM := hM.ext gP5
  replace hN := hN.ext gP5
  replace hz := hz.ext gP5
  replace hE := hE.tr gP5
  have hP5 := nP5
  clear nP5 gP5
  refine (t6 g _ (hT.ext hE) (ha.ext hE) hz).mono ?_
  rintro z w8 ⟨u, rfl, ⟨v, rfl, ho⟩, hb8⟩
  obtain ⟨AQ, cQ, rfl, -⟩ := ho.rd
  simp only [List.length_nil]
  replace hF := hF.ext hb8
  replace hX := hX.ext hb8
  replace hZ := hZ.ext hb8
  replace hM := hM.ext hb8
  replace hN := hN.ext hb8
  replace hP5 := hP5.ext hb8
  replace hz := hz.ext hb8
  replace hE := hE.tr hb8
  have nQ := Bx.new w8 (.int .i64 0) (.bool false) (.int .i64 0) (.slice AQ 0 cQ)
  have gQ := (Ext.refl w8).al (.cells #[.int .i64 0, .bool false, .int .i64 0, .slice AQ 0 cQ] 29)
  have lhF := hF.lt
  have lhX := hX.lt
  have lhZ := hZ.lt
  have lhM := hM.lt
  have lhN := hN.lt
  have lhP5 := hP5.lt
  obtain ⟨f0, f1⟩ := hF.facts
  obtain ⟨x0, x1, x2, x3, -⟩ := hX.facts
  obtain ⟨y0, y1, y2, y3, -⟩ := hZ.facts
  go_wp2_with fail
  clear f0 f1 x0 x1 x2 x3 y0 y1 y2 y3
  clear lhF lhX lhZ lhM lhN lhP5
  replace hF := hF.ext gQ
  replace hX := hX.ext gQ
  replace hZ := hZ.ext gQ
  replace hM := hM.ext gQ
  replace hN := hN.ext gQ
  replace hP5 := hP5.ext gQ
  replace hz := hz.ext gQ
  replace hE := hE.tr gQ
  have hQ := nQ
  clear nQ gQ
  refine (t7 g _ (hT.ext hE) (ha.ext hE) hz).mono ?_
  rintro z w9 ⟨rfl, hb9⟩
  replace hF := hF.ext hb9
  replace hX := hX.ext hb9
  replace hZ := hZ.ext hb9
  replace hM := hM.ext hb9
  replace hN := hN.ext hb9
  replace hP5 := hP5.ext hb9
  replace hQ := hQ.ext hb9
  replace hz := hz.ext hb9
  replace hE := hE.tr hb9
  have nI := Bi.new w9 (.bool false) (.slice none 0 0)
  have gI := (Ext.refl w9).al (.cells #[.bool false, .slice none 0 0] 42)
  have lhF := hF.lt
  have lhX := hX.lt
  have lhZ := hZ.lt
  have lhM := hM.lt
  have lhN := hN.lt
  have lhP5 := hP5.lt
  have lhQ := hQ.lt
  obtain ⟨f0, f1⟩ := hF.facts
  obtain ⟨y0, y1, y2, y3, -⟩ := hZ.facts
  go_wp2_with fail
  clear f0 f1 y0 y1 y2 y3
  clear lhF lhX lhZ lhM lhN lhP5 lhQ
  replace hF := hF.ext gI
  replace hX := hX.ext gI
  replace hZ := hZ.ext gI
  replace hM := hM.ext gI
  replace hN := hN.ext gI
  replace hP5 := hP5.ext gI
  replace hQ := hQ.ext gI
  replace hz := hz.ext gI
  replace hE := hE.tr gI
  have hI := nI
  clear nI gI
  refine (t8 g _).mono ?_
  rintro z w10 ⟨u, rfl, ⟨v, rfl, ho⟩, hb10⟩
  obtain ⟨AR, cR, rfl, -⟩ := ho.rd
  simp only [List.length_nil]
  replace hF := hF.ext hb10
  replace hX := hX.ext hb10
  replace hZ := hZ.ext hb10
  replace hM := hM.ext hb10
  replace hN := hN.ext hb10
  replace hP5 := hP5.ext hb10
  replace hQ := hQ.ext hb10
  replace hI := hI.ext hb10
  replace hz := hz.ext hb10
  replace hE := hE.tr hb10
  have nR := Bx.new w10 (.int .i64 0) (.bool false) (.int .i64 0) (.slice AR 0 cR)
  have gR := (Ext.refl w10).al (.cells #[.int .i64 0, .bool false, .int .i64 0, .slice AR 0 cR] 29)
  have lhF := hF.lt
  have lhX := hX.lt
  have lhZ := hZ.lt
  have lhM := hM.lt
  have lhN := hN.lt
  have lhP5 := hP5.lt
  have lhQ := hQ.lt
  have lhI := hI.lt
  obtain ⟨f0, f1⟩ := hF.facts
  obtain ⟨y0, y1, y2, y3, -⟩ := hZ.facts
  go_wp2_with fail
  clear f0 f1 y0 y1 y2 y3
  clear lhF lhX lhZ lhM lhN lhP5 lhQ lhI
  replace hF := hF.ext gR
  replace hX := hX.ext gR
  replace hZ := hZ.ext gR
  replace hM := hM.ext gR
  replace hN := hN.ext gR
  replace hP5 := hP5.ext gR
  replace hQ := hQ.ext gR
  replace hI := hI.ext gR
  replace hz := hz.ext gR
  replace hE := hE.tr gR
  have hR := nR
  clear nR gR
  refine (t9 g _ (hT.ext hE) (ha.ext hE) hz).mono ?_
  rintro z w11 ⟨rfl, hb11⟩
  replace hF := hF.ext hb11
  replace hX := hX.ext hb11
  replace hZ := hZ.ext hb11
  replace hM := hM.ext hb11
  replace hN := hN.ext hb11
  replace hP5 := hP5.ext hb11
  replace hQ := hQ.ext hb11
  replace hI := hI.ext hb11
  replace hR := hR.ext hb11
  replace hz := hz.ext hb11
  replace hE := hE.tr hb11
  obtain ⟨f0, f1⟩ := hF.facts
  obtain ⟨y0, y1, y2, y3, -⟩ := hZ.facts
  go_wp2_with fail
  clear f0 f1 y0 y1 y2 y3
  refine (ta g _ (hT.ext hE) (ha.ext hE) hz).mono ?_
  rintro z w12 ⟨rfl, hb12⟩
  replace hF := hF.ext hb12
  replace hX := hX.ext hb12
  replace hZ := hZ.ext hb12
  replace hM := hM.ext hb12
  replace hN := hN.ext hb12
  replace hP5 := hP5.ext hb12
  replace hQ := hQ.ext hb12
  replace hI := hI.ext hb12
  replace hR := hR.ext hb12
  replace hz := hz.ext hb12
  replace hE := hE.tr hb12
  have nU := Bx.new w12 (.int .i64 0) (.bool false) (.int .i64 0) (.slice none 0 0)
  have gU := (Ext.refl w12).al (.cells #[.int .i64 0, .bool false, .int .i64 0, .slice none 0 0] 29)
  have lhF := hF.lt
  have lhX := hX.lt
  have lhZ := hZ.lt
  have lhM := hM.lt
  have lhN := hN.lt
  have lhP5 := hP5.lt
  have lhQ := hQ.lt
  have lhI := hI.lt
  have lhR := hR.lt
  obtain ⟨f0, f1⟩ := hF.facts
  obtain ⟨x0, x1, x2, x3, -⟩ := hX.facts
  obtain ⟨y0, y1, y2, y3, -⟩ := hZ.facts
  have hrow := FRd.two (w12.alloc (.cells #[.int .i64 0, .bool false, .int .i64 0, .slice none 0 0] 29)) ⟨ak, an, ae, aA, ac, as1⟩ ⟨ak, an, ae, some ⟨g, 0, none⟩, 4097, P⟩ (ha.ext (hE.tr gU)) (hz.ext gU)
  simp only [hP] at hrow
  rw [World.size_alloc] at hrow
  have gT := gU.al (.cells #[.int .i64 ak, .bool an, .int .i64 ae, .slice aA as1.length ac, .int .i64 ak, .bool an, .int .i64 ae, .slice (some ⟨g, 0, none⟩) 4097 4097] 29)
  go_wp2_with fail
  clear f0 f1 x0 x1 x2 x3 y0 y1 y2 y3
  clear lhF lhX lhZ lhM lhN lhP5 lhQ lhI lhR
  refine (tb g _ _ _ hrow).mono ?_
  rintro z w13 ⟨rfl, hb13⟩
  have gV := gT.tr hb13
  replace hF := hF.ext gV
  replace hX := hX.ext gV
  replace hZ := hZ.ext gV
  replace hM := hM.ext gV
  replace hN := hN.ext gV
  replace hP5 := hP5.ext gV
  replace hQ := hQ.ext gV
  replace hI := hI.ext gV
  replace hR := hR.ext gV
  replace hz := hz.ext gV
  replace hE := hE.tr gV
  have hU := nU.ext (((Ext.refl _).al (.cells #[.int .i64 ak, .bool an, .int .i64 ae, .slice aA as1.length ac, .int .i64 ak, .bool an, .int .i64 ae, .slice (some ⟨g, 0, none⟩) 4097 4097] 29)).tr hb13)
  clear hrow gT gU gV nU hb13
  obtain ⟨q0, q1, q2, q3, -⟩ := hM.facts
  go_wp2_with fail
  clear q0 q1 q2 q3
  refine (hnn _ _ _).mono ?_
  rintro z w14 ⟨rfl, hb14⟩
  replace hF := hF.ext hb14
  replace hX := hX.ext hb14
  replace hZ := hZ.ext hb14
  replace hN := hN.ext hb14
  replace hP5 := hP5.ext hb14
  replace hQ := hQ.ext hb14
  replace hI := hI.ext hb14
  replace hR := hR.ext hb14
  replace hU := hU.ext hb14
  replace hE := hE.tr hb14
  obtain ⟨q0, q1, q2, q3, -⟩ := hN.facts
  go_wp2_with fail
  clear q0 q1 q2 q3
  refine (hnn _ _ _).mono ?_
  rintro z w15 ⟨rfl, hb15⟩
  replace hF := hF.ext hb15
  replace hX := hX.ext hb15
  replace hZ := hZ.ext hb15
  replace hP5 := hP5.ext hb15
  replace hQ := hQ.ext hb15
  replace hI := hI.ext hb15
  replace hR := hR.ext hb15
  replace hU := hU.ext hb15
  replace hE := hE.tr hb15
  obtain ⟨q0, q1, q2, q3, -⟩ := hP5.facts
  go_wp2_with fail
  clear q0 q1 q2 q3
  refine (hnn _ _ _).mono ?_
  rintro z w16 ⟨rfl, hb16⟩
  replace hF := hF.ext hb16
  replace hX := hX.ext hb16
  replace hZ := hZ.ext hb16
  replace hQ := hQ.ext hb16
  replace hI := hI.ext hb16
  replace hR := hR.ext hb16
  replace hU := hU.ext hb16
  replace hE := hE.tr hb16
  obtain ⟨q0, q1, q2, q3, -⟩ := hQ.facts
  go_wp2_with fail
  clear q0 q1 q2 q3
  refine (hnn _ _ _).mono ?_
  rintro z w17 ⟨rfl, hb17⟩
  replace hF := hF.ext hb17
  replace hX := hX.ext hb17
  replace hZ := hZ.ext hb17
  replace hI := hI.ext hb17
  replace hR := hR.ext hb17
  replace hU := hU.ext hb17
  replace hE := hE.tr hb17
  obtain ⟨q0, q1, -⟩ := hI.facts
  go_wp2_with fail
  clear q0 q1
  refine (hni _ _ _).mono ?_
  rintro z w18 ⟨rfl, hb18⟩
  replace hF := hF.ext hb18
  replace hX := hX.ext hb18
  replace hZ := hZ.ext hb18
  replace hR := hR.ext hb18
  replace hU := hU.ext hb18
  replace hE := hE.tr hb18
  obtain ⟨q0, q1, q2, q3, -⟩ := hR.facts
  go_wp2_with fail
  clear q0 q1 q2 q3
  refine (hnn _ _ _).mono ?_
  rintro z w19 ⟨rfl, hb19⟩
  replace hF := hF.ext hb19
  replace hX := hX.ext hb19
  replace hZ := hZ.ext hb19
  replace hU := hU.ext hb19
  replace hE := hE.tr hb19
  obtain ⟨q0, q1, q2, q3, -⟩ := hU.facts
  go_wp2_with fail
  clear q0 q1 q2 q3
  refine (hft _ _ _).mono ?_
  rintro z w20 ⟨rfl, hb20⟩
  replace hF := hF.ext hb20
  replace hX := hX.ext hb20
  replace hZ := hZ.ext hb20
  replace hE := hE.tr hb20
  obtain ⟨q0, q1, q2, q3, -⟩ := hZ.facts
  go_wp2_with fail
  clear q0 q1 q2 q3
  refine (hlg g _).mono ?_
  rintro z w21 ⟨rfl, rfl⟩
  go_wp2_with fail
  refine (awake21_c _ (hT.ext hE)).mono ?_
  rintro z w99 ⟨rfl, hb99⟩
  go_wp2
  go_ret
  exact ⟨rfl, hE.tr hb99⟩
theorem orderLarge_c (k p r : Int) (a : FA) (w : World) (hT : Tab w) (ha : Rd w a.A a.c a.xs) :
    Calls Tryz.prog 3 #[.agg #[.int .i64 k, .int .i64 p], .int .i64 r, a.v] w fun e w' => e = .returned (.bool true) ∧ Ext w w' := by
  by_cases hs : [a].all (fun a => decide (a.xs.length ≤ 40)) = true
  · exact orderLarge_yes k p r a w hT ha hs
  · exact orderLarge_no k p r a w hT ha hs
end Go.Proofs.YtbgomnecchgleaaGreatDoor
