/- OrderHalves: the walk. -/
import Derived.Test.YtehlmacgjlgjaaaGreatDoorN9
import Derived.Test.YtehlmacgjlgjaaaGreatDoorOE
import Derived.Test.YtehlmacgjlgjaaaGreatDoorT9
import Derived.Test.YtehlmacgjlgjaaaGreatDoorS9
set_option linter.unusedVariables false
set_option linter.unusedSimpArgs false
namespace Go.Proofs.YtehlmacgjlgjaaaGreatDoor
open Go.RowKit
attribute [local go_sem ↓] Go.wp_at_zero Go.wp_at_succ

theorem boxesHv (w : World) (k p : Int) (a : FA) : ∀ W, W = ((w.alloc (.cells #[.int .i64 k, .int .i64 p] 23)).alloc (.cells #[.int .i64 a.k, .bool a.neg, .int .i64 a.e, .slice a.A a.xs.length a.c] 29)) →
    Bf W w.heap.size (.int .i64 k) (.int .i64 p) ∧ Bx W (w.heap.size + 1) (.int .i64 a.k) (.bool a.neg) (.int .i64 a.e) (.slice a.A a.xs.length a.c) ∧ Ext w W ∧ W.heap.size = w.heap.size + 1 + 1 := by
  rintro W rfl
  have x := Bx.new (w.alloc (.cells #[.int .i64 k, .int .i64 p] 23)) (.int .i64 a.k) (.bool a.neg) (.int .i64 a.e) (.slice a.A a.xs.length a.c)
  rw [World.size_alloc] at x
  exact ⟨(Bf.new w _ _).ext ((Ext.refl _).al _), x, ((Ext.refl w).al _).al _, by simp only [World.size_alloc]⟩
set_option maxHeartbeats 4000000 in
set_option maxRecDepth 100000 in
/-- What the law does not speak of. -/
theorem orderHalves_no (k p r n : Int) (a : FA) (w : World) (hT : Tab w) (ha : Rd w a.A a.c a.xs) (hbad : ¬ a.xs.length ≤ 40 ∨ kaS k p r [a] ≠ 0 ∨ n < -100000 ∨ 100000 < n) :
    Calls Tryz.prog 4 #[.agg #[.int .i64 k, .int .i64 p], .int .i64 r, a.v, .int .i64 n] w fun e w' => e = .returned (.bool true) ∧ Ext w w' := by
  obtain ⟨hF, hX, hE, hsz⟩ := boxesHv w k p a _ rfl
  have HF := Lib.hid hF
  have HX := Lib.hid hX
  have HE := Lib.hid hE
  have HS := Lib.hid hsz
  clear hF hX hE hsz
  have hall : [a].all (fun a => decide (a.xs.length ≤ 40)) = decide (a.xs.length ≤ 40) := by simp
  have hsh := fun A c w h => short_c A c [a] w h
  rw [hall] at hsh
  clear hall
  by_cases hs : a.xs.length ≤ 40
  rotate_left
  · rw [decide_eq_false hs] at hsh
    clear hs hbad
    obtain ⟨ak, an, ae, aA, ac, as1⟩ := a
    simp only at HF HX HE HS ha
    go_enter Tryz.func4, Tryz.ntmps4
    go_wp2_with fail
    have hF := HF.out
    have hX := HX.out
    have hE := HE.out
    have hsz := HS.out
    clear HF HX HE HS
    generalize ((w.alloc (.cells #[.int .i64 k, .int .i64 p] 23)).alloc (.cells #[.int .i64 ak, .bool an, .int .i64 ae, .slice aA as1.length ac] 29)) = W at *
    have hL := oneRow W ⟨ak, an, ae, aA, ac, as1⟩ _ hsz (ha.ext hE)
    have hA := (Ext.refl W).al (.cells #[.int .i64 ak, .bool an, .int .i64 ae, .slice aA as1.length ac] 29)
    refine (hsh _ _ _ hL).mono ?_
    rintro z w1 ⟨rfl, rfl⟩
    have hE1 := hE.tr hA
    clear hL hsz
    generalize W.alloc (.cells #[.int .i64 ak, .bool an, .int .i64 ae, .slice aA as1.length ac] 29) = V at *
    go_wp2_with fail
    refine (awake21_c _ (hT.ext hE1)).mono ?_
    rintro z w2 ⟨rfl, hb2⟩
    go_wp2
    go_ret
    exact ⟨rfl, hE1.tr hb2⟩
  rw [decide_eq_true hs] at hsh
  have h96 : ∀ i (hi : i < [a].length), [a][i].xs.length ≤ 4096 := fun i hi => by
    obtain rfl : i = 0 := by simpa using hi
    show a.xs.length ≤ 4096
    omega
  have hka := fun A c w h => kargs_c k p r A c [a] w h h96
  generalize kaS k p r [a] = E at *
  have hc : ((E == 0) = false ∧ (E = 0) = False) ∨ (E = 0 ∧ decide (n < -100000) = true ∧ (-100000 ≤ n) = False) ∨ (E = 0 ∧ decide (n < -100000) = false ∧ decide (100000 < n) = true ∧ (-100000 ≤ n) = True ∧ (n ≤ 100000) = False) := by
    by_cases h0 : E = 0
    · by_cases h1 : n < -100000
      · exact .inr (.inl ⟨h0, decide_eq_true h1, eq_false (by omega)⟩)
      · exact .inr (.inr ⟨h0, decide_eq_false h1, decide_eq_true (by omega), eq_true (by omega), eq_false (by omega)⟩)
    · exact .inl ⟨beq_eq_false_iff_ne.2 h0, eq_false h0⟩
  clear hbad hs h96
  obtain ⟨ak, an, ae, aA, ac, as1⟩ := a
  simp only at HF HX HE HS ha
  rcases hc with ⟨d0, d1⟩ | ⟨rfl, d1, d2⟩ | ⟨rfl, d1, d2, d3, d4⟩
  all_goals
    go_enter Tryz.func4, Tryz.ntmps4
    go_wp2_with fail
    have hF := HF.out
    have hX := HX.out
    have hE := HE.out
    have hsz := HS.out
    clear HF HX HE HS
    generalize ((w.alloc (.cells #[.int .i64 k, .int .i64 p] 23)).alloc (.cells #[.int .i64 ak, .bool an, .int .i64 ae, .slice aA as1.length ac] 29)) = W at *
    have hL := oneRow W ⟨ak, an, ae, aA, ac, as1⟩ _ hsz (ha.ext hE)
    have hA := (Ext.refl W).al (.cells #[.int .i64 ak, .bool an, .int .i64 ae, .slice aA as1.length ac] 29)
    refine (hsh _ _ _ hL).mono ?_
    rintro z w1 ⟨rfl, rfl⟩
    have hE1 := hE.tr hA
    have hF1 := hF.ext hA
    have hX1 := hX.ext hA
    have hs1 : (W.alloc (.cells #[.int .i64 ak, .bool an, .int .i64 ae, .slice aA as1.length ac] 29)).heap.size = w.heap.size + 1 + 1 + 1 := by rw [World.size_alloc, hsz]
    clear hL hsz hF hX
    generalize W.alloc (.cells #[.int .i64 ak, .bool an, .int .i64 ae, .slice aA as1.length ac] 29) = V at *
    obtain ⟨f0, f1⟩ := hF1.facts
    obtain ⟨x0, x1, x2, x3, -⟩ := hX1.facts
    clear hs1
    go_wp2_with fail
    have hL := oneRow V ⟨ak, an, ae, aA, ac, as1⟩ _ rfl (ha.ext hE1)
    have hA2 := (Ext.refl V).al (.cells #[.int .i64 ak, .bool an, .int .i64 ae, .slice aA as1.length ac] 29)
    simp only at hL
    refine (hka _ _ _ hL).mono ?_
    rintro z w3 ⟨rfl, hb3⟩
    have hE3 := (hE1.tr hA2).tr hb3
    clear hL f0 f1 x0 x1 x2 x3
    go_wp2_with fail
    refine (awake21_c _ (hT.ext hE3)).mono ?_
    rintro z w2 ⟨rfl, hb2⟩
    go_wp2
    go_ret
    exact ⟨rfl, hE3.tr hb2⟩
set_option maxHeartbeats 4000000 in
set_option maxRecDepth 100000 in
/-- What it speaks of. -/
theorem orderHalves_yes (k p r n : Int) (a : FA) (f : Fl) (w : World) (hT : Tab w) (hM : MoreT w) (ha : Rd w a.A a.c a.xs) (hs : a.xs.length ≤ 40) (hR : Rgt k p) (hr : 0 ≤ r ∧ r ≤ 4) (hn : -100000 ≤ n ∧ n ≤ 100000)
    (hk0 : kaS k p r [a] = 0) (hcan : a.can = some f) (hf : FOf k p f) (hfl : FlsS k p [a] = (0, [f])) :
    Calls Tryz.prog 4 #[.agg #[.int .i64 k, .int .i64 p], .int .i64 r, a.v, .int .i64 n] w fun e w' => e = .returned (.bool true) ∧ Ext w w' := by
  obtain ⟨hF, hX, hE, hsz⟩ := boxesHv w k p a _ rfl
  have HF := Lib.hid hF
  have HX := Lib.hid hX
  have HE := Lib.hid hE
  have HS := Lib.hid hsz
  clear hF hX hE hsz
  have hall : [a].all (fun a => decide (a.xs.length ≤ 40)) = true := by simpa using hs
  have hsh := fun A c w h => short_c A c [a] w h
  rw [hall] at hsh
  clear hall
  have h96 : ∀ i (hi : i < [a].length), [a][i].xs.length ≤ 4096 := fun i hi => by
    obtain rfl : i = 0 := by simpa using hi
    show a.xs.length ≤ 4096
    omega
  have hka := fun A c w h => kargs_c k p r A c [a] w h h96
  rw [hk0] at hka
  have hYof := sc_of (r := r) hR hf n
  have hs1 := fun w hT hM ha => Scale_good hR hr hn a f hf hfl (by omega) w hT hM ha
  have hs2 := fun A c w hT hM h => Scale_good (n := -n) hR hr (by omega) ⟨(scF k p r f n).kind, (scF k p r f n).neg, (scF k p r f n).exp, A, c, cn (scF k p r f n).mag⟩ (scF k p r f n) hYof (FlsS_one_ok hR hYof.len (can_self hYof.ok A c) hYof.inn) hYof.len w hT hM h
  have hZof := sc_of (r := r) hR hYof (-n)
  have hsm := fun A c w hT h h' => fsame_c a ⟨(scF k p r (scF k p r f n) (-n)).kind, (scF k p r (scF k p r f n) (-n)).neg, (scF k p r (scF k p r f n) (-n)).exp, A, c, cn (scF k p r (scF k p r f n) (-n)).mag⟩ w hT h h' (by omega) (by have := hZof.len; simp only; omega)
  have hcz := fun A c => can_self hZof.ok A c
  have hback := fun h1 h2 => sc_back (r := r) hf (n := n) h1 h2
  simp only [hcan, hcz] at hsm
  unfold ScR at hs1 hs2
  generalize scF k p r (scF k p r f n) (-n) = Z at *
  generalize scK k p r (scF k p r f n) (-n) = K2 at *
  generalize scF k p r f n = Y at *
  generalize scK k p r f n = K1 at *
  have hkc : ((K1 == 0) = false ∧ (K1 = 0) = False) ∨ (K1 = 0 ∧ (K2 == 0) = false ∧ (K2 = 0) = False) ∨ (K1 = 0 ∧ K2 = 0 ∧ sameO (some f) (some Z) = true) := by
    by_cases h1 : K1 = 0
    · by_cases h2 : K2 = 0
      · refine .inr (.inr ⟨h1, h2, ?_⟩)
        rw [hback h1 h2, sameO_self]
        rfl
      · exact .inr (.inl ⟨h1, beq_eq_false_iff_ne.2 h2, eq_false h2⟩)
    · exact .inl ⟨beq_eq_false_iff_ne.2 h1, eq_false h1⟩
  have d1 : decide (n < -100000) = false := decide_eq_false (by omega)
  have d2 : decide (100000 < n) = false := decide_eq_false (by omega)
  obtain ⟨hn1, hn2⟩ := hn
  generalize sameO (some f) (some Z) = sb at *
  clear hback hcz hZof hYof hfl hf hk0 h96 hs hcan hR hr
  obtain ⟨ak, an, ae, aA, ac, as1⟩ := a
  simp only at HF HX HE HS ha hs1 hsm
  go_enter Tryz.func4, Tryz.ntmps4
  go_wp2_with fail
  have hF := HF.out
  have hX := HX.out
  have hE := HE.out
  have hsz := HS.out
  clear HF HX HE HS
  generalize ((w.alloc (.cells #[.int .i64 k, .int .i64 p] 23)).alloc (.cells #[.int .i64 ak, .bool an, .int .i64 ae, .slice aA as1.length ac] 29)) = W at *
  have hL := oneRow W ⟨ak, an, ae, aA, ac, as1⟩ _ hsz (ha.ext hE)
  have hA := (Ext.refl W).al (.cells #[.int .i64 ak, .bool an, .int .i64 ae, .slice aA as1.length ac] 29)
  refine (hsh _ _ _ hL).mono ?_
  rintro z w1 ⟨rfl, rfl⟩
  have hE1 := hE.tr hA
  have hF1 := hF.ext hA
  have hX1 := hX.ext hA
  clear hL hsz hF hX
  generalize W.alloc (.cells #[.int .i64 ak, .bool an, .int .i64 ae, .slice aA as1.length ac] 29) = V at *
  obtain ⟨f0, f1⟩ := hF1.facts
  obtain ⟨x0, x1, x2, x3, -⟩ := hX1.facts
  go_wp2_with fail
  have hL := oneRow V ⟨ak, an, ae, aA, ac, as1⟩ _ rfl (ha.ext hE1)
  have hA2 := (Ext.refl V).al (.cells #[.int .i64 ak, .bool an, .int .i64 ae, .slice aA as1.length ac] 29)
  simp only at hL
  refine (hka _ _ _ hL).mono ?_
  rintro z w3 ⟨rfl, hb3⟩
  have hE3 := (hE1.tr hA2).tr hb3
  have hF3 := (hF1.ext hA2).ext hb3
  have hX3 := (hX1.ext hA2).ext hb3
  clear hL f0 f1 x0 x1 x2 x3
  obtain ⟨f0, f1⟩ := hF3.facts
  obtain ⟨x0, x1, x2, x3, -⟩ := hX3.facts
  go_wp2_with fail
  refine (hs1 _ (hT.ext hE3) (hM.ext hE3) (ha.ext hE3)).mono ?_
  rintro z w4 ⟨u, rfl, ⟨v, rfl, ho4⟩, hb4⟩
  obtain ⟨A4, c4, rfl, hr4⟩ := ho4.rd
  have hY4 := Bx.new w4 (.int .i64 Y.kind) (.bool Y.neg) (.int .i64 Y.exp) (.slice A4 (cn Y.mag).length c4)
  have hA4 := (Ext.refl w4).al (.cells #[.int .i64 Y.kind, .bool Y.neg, .int .i64 Y.exp, .slice A4 (cn Y.mag).length c4] 29)
  have hE4 := (hE3.tr hb4).tr hA4
  have hF4 := (hF3.ext hb4).ext hA4
  have hX4 := (hX3.ext hb4).ext hA4
  have hr4' := hr4.ext hA4
  clear f0 f1 x0 x1 x2 x3 hs1 hka hsh
  obtain ⟨f0, f1⟩ := hF4.facts
  obtain ⟨y0, y1, y2, y3, -⟩ := hY4.facts
  go_wp2_with fail
  refine (hs2 A4 c4 _ (hT.ext hE4) (hM.ext hE4) hr4').mono ?_
  rintro z w5 ⟨u, rfl, ⟨v, rfl, ho5⟩, hb5⟩
  obtain ⟨A5, c5, rfl, hr5⟩ := ho5.rd
  have hZ5 := Bx.new w5 (.int .i64 Z.kind) (.bool Z.neg) (.int .i64 Z.exp) (.slice A5 (cn Z.mag).length c5)
  have hA5 := (Ext.refl w5).al (.cells #[.int .i64 Z.kind, .bool Z.neg, .int .i64 Z.exp, .slice A5 (cn Z.mag).length c5] 29)
  have hE5 := (hE4.tr hb5).tr hA5
  have hX5 := (hX4.ext hb5).ext hA5
  have hr5' := hr5.ext hA5
  clear f0 f1 y0 y1 y2 y3 hs2 hr4 hr4'
  obtain ⟨x0, x1, x2, x3, -⟩ := hX5.facts
  obtain ⟨y0, y1, y2, y3, -⟩ := hZ5.facts
  rcases hkc with ⟨e1, e2⟩ | ⟨rfl, e1, e2⟩ | ⟨rfl, rfl, e1⟩
  · go_wp2_with fail
    refine (awake21_c _ (hT.ext hE5)).mono ?_
    rintro z w6 ⟨rfl, hb6⟩
    go_wp2
    go_ret
    exact ⟨rfl, hE5.tr hb6⟩
  · go_wp2_with fail
    refine (awake21_c _ (hT.ext hE5)).mono ?_
    rintro z w6 ⟨rfl, hb6⟩
    go_wp2
    go_ret
    exact ⟨rfl, hE5.tr hb6⟩
  · subst e1
    go_wp2_with fail
    refine (hsm A5 c5 _ (hT.ext hE5) (ha.ext hE5) hr5').mono ?_
    rintro z w6 ⟨rfl, hb6⟩
    have hE6 := hE5.tr hb6
    go_wp2_with fail
    refine (awake21_c _ (hT.ext hE6)).mono ?_
    rintro z w7 ⟨rfl, hb7⟩
    go_wp2
    go_ret
    exact ⟨rfl, hE6.tr hb7⟩
theorem orderHalves_c (k p r n : Int) (a : FA) (w : World) (hT : Tab w) (hM : MoreT w) (ha : Rd w a.A a.c a.xs) :
    Calls Tryz.prog 4 #[.agg #[.int .i64 k, .int .i64 p], .int .i64 r, a.v, .int .i64 n] w fun e w' => e = .returned (.bool true) ∧ Ext w w' := by
  by_cases hbad : ¬ a.xs.length ≤ 40 ∨ kaS k p r [a] ≠ 0 ∨ n < -100000 ∨ 100000 < n
  · exact orderHalves_no k p r n a w hT ha hbad
  · have h0 : kaS k p r [a] = 0 := Classical.byContradiction fun h => hbad (.inr (.inl h))
    have hs : a.xs.length ≤ 40 := Classical.byContradiction fun h => hbad (.inl h)
    obtain ⟨hr, hR, f, hc, hf, hfl⟩ := ka_good h0 ha.w64 (by omega)
    exact orderHalves_yes k p r n a f w hT hM ha hs hR hr (by omega) h0 hc hf hfl
theorem orderHalves_w (k p r : Int) (a : FA) (n : Int) (w : World) (hT : Tab w) (hM : MoreT w) (ha : Rd w a.A a.c a.xs) :
    Calls Tryz.prog 4 #[.agg #[.int .i64 k, .int .i64 p], .int .i64 r, a.v, .int .i64 n] w fun e w' => e = .returned (.bool true) ∧ Ext w w' := orderHalves_c k p r n a w hT hM ha
end Go.Proofs.YtehlmacgjlgjaaaGreatDoor
