/- OrderBack: the walk. -/
import Derived.Test.YtcdgkhmiolhfdaaDoorOE
import Derived.Test.YtcdgkhmiolhfdaaDoorOF
import Derived.Test.YtcdgkhmiolhfdaaDoorTE
import Derived.Test.YtcdgkhmiolhfdaaDoorS9
set_option linter.unusedVariables false
set_option linter.unusedSimpArgs false
namespace Go.Proofs.YtcdgkhmiolhfdaaDoor
open Go.RowKit
attribute [local go_sem ↓] Go.wp_at_zero Go.wp_at_succ

theorem boxesU (w : World) (k p : Int) (a : FA) : ∀ W, W = ((w.alloc (.cells #[.int .i64 k, .int .i64 p] 44)).alloc (.cells #[.int .i64 a.k, .bool a.neg, .int .i64 a.e, .slice a.A a.xs.length a.c] 31)) →
    Bf W w.heap.size (.int .i64 k) (.int .i64 p) ∧ Bx W (w.heap.size + 1) (.int .i64 a.k) (.bool a.neg) (.int .i64 a.e) (.slice a.A a.xs.length a.c) ∧ Ext w W ∧ W.heap.size = w.heap.size + 1 + 1 := by
  rintro W rfl
  have x := Bx.new (w.alloc (.cells #[.int .i64 k, .int .i64 p] 44)) (.int .i64 a.k) (.bool a.neg) (.int .i64 a.e) (.slice a.A a.xs.length a.c)
  rw [World.size_alloc] at x
  exact ⟨(Bf.new w _ _).ext ((Ext.refl _).al _), x, ((Ext.refl w).al _).al _, by simp only [World.size_alloc]⟩
theorem chk_good {k p : Int} {l : List FA} (h : chkS k p l = 0) : Rgt k p ∧ ∀ a ∈ l, ∃ f, a.can = some f ∧ InF k p f := by
  unfold chkS at h
  by_cases hR : Rgt k p
  · rw [if_pos hR] at h
    refine ⟨hR, fun a ha => ?_⟩
    by_cases hl : l.all (fun a => (holdS k p a.can).isSome) = true
    · have := List.all_eq_true.1 hl a ha
      cases hc : a.can with
      | none => rw [hc] at this; simp [holdS] at this
      | some f =>
        refine ⟨f, rfl, ?_⟩
        by_cases hin : InF k p f
        · exact hin
        · rw [hc] at this; simp [holdS, hin] at this
    · rw [if_neg hl] at h; cases h
  · rw [if_neg hR] at h; cases h
theorem of_good {k p : Int} {a : FA} {f : Fl} (hc : a.can = some f) (hin : InF k p f) (hw : W64 a.xs) (hl : a.xs.length ≤ 4096) : FOf k p f :=
  ⟨canon_ok hc, hin, Nat.le_trans (cn_len_of_le hw (canon_mag hc)) hl⟩
/-- The next neighbour of a canonical float that lies in new memory. -/
theorem Next_own {k p : Int} (hR : Rgt k p) {f : Fl} (hf : FOf k p f) (up : Bool) (A : Option Addr) (c : Nat) (w : World) (hT : Tab w) (h : Rd w A c (cn f.mag)) :
    Calls Tryd.prog 17 #[.agg #[.int .i64 k, .int .i64 p], flV f.kind f.neg f.exp (.slice A (cn f.mag).length c), .bool up] w (FErr w 0 (nextF k p f up)) :=
  Next_good k p hR ⟨f.kind, f.neg, f.exp, A, c, cn f.mag⟩ f hf (FlsS_one_ok hR hf.len (can_self hf.ok A c) hf.inn) up w hT h
set_option maxHeartbeats 4000000 in
set_option maxRecDepth 100000 in
theorem orderBack_no (k p : Int) (a : FA) (up : Bool) (w : World) (hT : Tab w) (ha : Rd w a.A a.c a.xs) (hno : ¬ ([a].all (fun a => decide (a.xs.length ≤ 40)) = true ∧ chkS k p [a] = 0)) :
    Calls Tryd.prog 5 #[.agg #[.int .i64 k, .int .i64 p], a.v, .bool up] w fun e w' => e = .returned (.bool true) ∧ Ext w w' := by
  obtain ⟨hF, hX, hE, hsz⟩ := boxesU w k p a _ rfl
  have HF := Lib.hid hF
  have HX := Lib.hid hX
  have HE := Lib.hid hE
  have HS := Lib.hid hsz
  clear hF hX hE hsz
  have hsh := fun A c w h => short_c A c [a] w h
  by_cases hs : [a].all (fun a => decide (a.xs.length ≤ 40)) = true
  · have hc : chkS k p [a] ≠ 0 := fun h => hno ⟨hs, h⟩
    have hck := fun A c w h => check21_c k p A c [a] w h (fun i hi => by
      have h1 := List.all_eq_true.1 hs _ (List.getElem_mem hi)
      have := of_decide_eq_true h1
      omega)
    rw [hs] at hsh
    have hcb : (chkS k p [a] != 0) = true := by rw [bne_iff_ne]; exact hc
    generalize chkS k p [a] = C at *
    clear hno hs hc
    obtain ⟨ak, an, ae, aA, ac, as1⟩ := a
    simp only at HF HX HE HS ha
    go_enter Tryd.func5, Tryd.ntmps5
    go_wp2_with fail
    have hF := HF.out
    have hX := HX.out
    have hE := HE.out
    have hsz := HS.out
    clear HF HX HE HS
    generalize ((w.alloc (.cells #[.int .i64 k, .int .i64 p] 44)).alloc (.cells #[.int .i64 ak, .bool an, .int .i64 ae, .slice aA as1.length ac] 31)) = W at *
    have hA := (Ext.refl W).al (.cells #[.int .i64 ak, .bool an, .int .i64 ae, .slice aA as1.length ac] 31)
    have hL := FRd.one (a := ⟨ak, an, ae, aA, ac, as1⟩) (Bx.new W (.int .i64 ak) (.bool an) (.int .i64 ae) (.slice aA as1.length ac)) (ha.ext (hE.tr hA))
    have hsz1 := World.size_alloc W (.cells #[.int .i64 ak, .bool an, .int .i64 ae, .slice aA as1.length ac] 31)
    rw [hsz] at hL hsz1
    clear hsz
    refine (hsh _ _ _ hL).mono ?_
    rintro z w1 ⟨rfl, rfl⟩
    have hF1 := hF.ext hA
    have hX1 := hX.ext hA
    have hE1 := hE.tr hA
    clear hF hX hE hA hL
    generalize W.alloc (.cells #[.int .i64 ak, .bool an, .int .i64 ae, .slice aA as1.length ac] 31) = V at *
    obtain ⟨f0, f1⟩ := hF1.facts
    obtain ⟨x0, x1, x2, x3, -⟩ := hX1.facts
    have hA := (Ext.refl V).al (.cells #[.int .i64 ak, .bool an, .int .i64 ae, .slice aA as1.length ac] 31)
    have hL := FRd.one (a := ⟨ak, an, ae, aA, ac, as1⟩) (Bx.new V (.int .i64 ak) (.bool an) (.int .i64 ae) (.slice aA as1.length ac)) (ha.ext (hE1.tr hA))
    have HS1 := Lib.hid hsz1
    clear hsz1
    go_wp2_with fail
    try rw [HS1.out]
    rw [HS1.out] at hL
    refine (hck _ _ _ hL).mono ?_
    rintro z w2 ⟨rfl, hb2⟩
    have hE2 := (hE1.tr hA).tr hb2
    clear f0 f1 x0 x1 x2 x3 hF1 hX1 hL hA hb2 HS1
    go_wp2_with fail
    refine (awake21_c _ (hT.ext hE2)).mono ?_
    rintro z w9 ⟨rfl, hb9⟩
    go_wp2
    go_ret
    exact ⟨rfl, hE2.tr hb9⟩
  · rw [Bool.eq_false_iff.2 hs] at hsh
    clear hno hs
    obtain ⟨ak, an, ae, aA, ac, as1⟩ := a
    simp only at HF HX HE HS ha
    go_enter Tryd.func5, Tryd.ntmps5
    go_wp2_with fail
    have hF := HF.out
    have hX := HX.out
    have hE := HE.out
    have hsz := HS.out
    clear HF HX HE HS
    generalize ((w.alloc (.cells #[.int .i64 k, .int .i64 p] 44)).alloc (.cells #[.int .i64 ak, .bool an, .int .i64 ae, .slice aA as1.length ac] 31)) = W at *
    have hA := (Ext.refl W).al (.cells #[.int .i64 ak, .bool an, .int .i64 ae, .slice aA as1.length ac] 31)
    have hL := FRd.one (a := ⟨ak, an, ae, aA, ac, as1⟩) (Bx.new W (.int .i64 ak) (.bool an) (.int .i64 ae) (.slice aA as1.length ac)) (ha.ext (hE.tr hA))
    rw [hsz] at hL
    clear hsz
    refine (hsh _ _ _ hL).mono ?_
    rintro z w1 ⟨rfl, rfl⟩
    have hE1 := hE.tr hA
    clear hF hX hE hA hL
    generalize W.alloc (.cells #[.int .i64 ak, .bool an, .int .i64 ae, .slice aA as1.length ac] 31) = V at *
    go_wp2_with fail
    refine (awake21_c _ (hT.ext hE1)).mono ?_
    rintro z w9 ⟨rfl, hb9⟩
    go_wp2
    go_ret
    exact ⟨rfl, hE1.tr hb9⟩
set_option maxHeartbeats 8000000 in
set_option maxRecDepth 100000 in
theorem orderBack_yes (k p : Int) (a : FA) (up : Bool) (w : World) (hT : Tab w) (ha : Rd w a.A a.c a.xs) (hs : [a].all (fun a => decide (a.xs.length ≤ 40)) = true) (hc : chkS k p [a] = 0) :
    Calls Tryd.prog 5 #[.agg #[.int .i64 k, .int .i64 p], a.v, .bool up] w fun e w' => e = .returned (.bool true) ∧ Ext w w' := by
  obtain ⟨hF, hX, hE, hsz⟩ := boxesU w k p a _ rfl
  have HF := Lib.hid hF
  have HX := Lib.hid hX
  have HE := Lib.hid hE
  have HS := Lib.hid hsz
  clear hF hX hE hsz
  have hsh := fun A c w h => short_c A c [a] w h
  have hck := fun A c w h => check21_c k p A c [a] w h (fun i hi => by
      have h1 := List.all_eq_true.1 hs _ (List.getElem_mem hi)
      have := of_decide_eq_true h1
      omega)
  rw [hs] at hsh
  rw [hc] at hck
  obtain ⟨hR, hpt⟩ := chk_good hc
  have hla : a.xs.length ≤ 40 := of_decide_eq_true (List.all_eq_true.1 hs a (by simp))
  obtain ⟨f, hfc, hfi⟩ := hpt a (by simp)
  have hf := of_good hfc hfi ha.w64 (by omega)
  have t1 := fun w hT h => Next_good k p hR a f hf (FlsS_one_ok hR (by omega) hfc hfi) up w hT h
  have hG := next_of up hR hf
  have t2 := fun A c w hT h => Next_own hR hG (!up) A c w hT h
  have hH := next_of (!up) hR hG
  have m1 := fun A c w hT h h' => fsame_c a ⟨(nextF k p f up).kind, (nextF k p f up).neg, (nextF k p f up).exp, A, c, cn (nextF k p f up).mag⟩ w hT h h' (by omega) (by have := hG.len; simp only; omega)
  have m2 := fun A c w hT h h' => fsame_c a ⟨(nextF k p (nextF k p f up) (!up)).kind, (nextF k p (nextF k p f up) (!up)).neg, (nextF k p (nextF k p f up) (!up)).exp, A, c, cn (nextF k p (nextF k p f up) (!up)).mag⟩ w hT h h' (by omega) (by have := hH.len; simp only; omega)
  simp only [hfc, can_self hG.ok] at m1
  simp only [hfc, can_self hH.ok] at m2
  have hkk : f.kind = a.k := canon_kind hfc
  have hcase : ((a.k == 2) = true ∧ (a.neg == up) = false ∧ sameO (some f) (some (nextF k p f up)) = true) ∨
      (((a.k == 2) = false ∨ ((a.k == 2) = true ∧ (a.neg == up) = true)) ∧ (sameO (some f) (some (nextF k p (nextF k p f up) (!up))) = true ∨ (sameO (some f) (some (nextF k p (nextF k p f up) (!up))) = false ∧ (a.k == 0) = true ∧ ((nextF k p (nextF k p f up) (!up)).kind == 0) = true))) := by
    by_cases h2 : a.k = 2
    · have hfn : f.neg = a.neg := by rw [canon_not1 (by omega) hfc]
      by_cases hn : a.neg = up
      · right
        refine ⟨.inr ⟨by simpa using h2, by simpa using hn⟩, ?_⟩
        rcases next_back up hR hf (fun h => h.2 (by rw [hfn, hn])) with h | h
        · left; rw [h, sameO_self]; rfl
        · omega
      · left
        refine ⟨by simpa using h2, by simpa using hn, ?_⟩
        have : nextF k p f up = f := by unfold nextF; rw [if_pos (.inr ⟨by omega, by rw [hfn]; exact hn⟩)]
        rw [this, sameO_self]; rfl
    · right
      refine ⟨.inl (by simpa using h2), ?_⟩
      rcases next_back up hR hf (fun h => h2 (by omega)) with h | ⟨h, h'⟩
      · left; rw [h, sameO_self]; rfl
      · cases hS : sameO (some f) (some (nextF k p (nextF k p f up) (!up))) with
        | true => exact .inl rfl
        | false => exact .inr ⟨rfl, by simp; omega, by simpa using h'⟩
  clear hs hc hpt hla hfc hfi hf hR hG hH hkk
  unfold FErr FlR at t1 t2
  generalize sameO (some f) (some (nextF k p f up)) = S1 at *
  generalize sameO (some f) (some (nextF k p (nextF k p f up) (!up))) = S2 at *
  generalize nextF k p (nextF k p f up) (!up) = H at *
  generalize nextF k p f up = G at *
  generalize hu : (!up) = dn at *
  clear f
  obtain ⟨ak, an, ae, aA, ac, as1⟩ := a
  simp only at HF HX HE HS ha t1 t2 m1 m2 hcase
  go_enter Tryd.func5, Tryd.ntmps5
  go_wp2_with fail
  have hF := HF.out
  have hX := HX.out
  have hE := HE.out
  have hsz := HS.out
  clear HF HX HE HS
  generalize ((w.alloc (.cells #[.int .i64 k, .int .i64 p] 44)).alloc (.cells #[.int .i64 ak, .bool an, .int .i64 ae, .slice aA as1.length ac] 31)) = W at *
  have hA := (Ext.refl W).al (.cells #[.int .i64 ak, .bool an, .int .i64 ae, .slice aA as1.length ac] 31)
  have hL := FRd.one (a := ⟨ak, an, ae, aA, ac, as1⟩) (Bx.new W (.int .i64 ak) (.bool an) (.int .i64 ae) (.slice aA as1.length ac)) (ha.ext (hE.tr hA))
  have hsz1 := World.size_alloc W (.cells #[.int .i64 ak, .bool an, .int .i64 ae, .slice aA as1.length ac] 31)
  rw [hsz] at hL hsz1
  clear hsz
  refine (hsh _ _ _ hL).mono ?_
  rintro z w1 ⟨rfl, rfl⟩
  have hF1 := hF.ext hA
  have hX1 := hX.ext hA
  have hE1 := hE.tr hA
  clear hF hX hE hA hL
  generalize W.alloc (.cells #[.int .i64 ak, .bool an, .int .i64 ae, .slice aA as1.length ac] 31) = V at *
  obtain ⟨f0, f1⟩ := hF1.facts
  obtain ⟨x0, x1, x2, x3, -⟩ := hX1.facts
  have hA := (Ext.refl V).al (.cells #[.int .i64 ak, .bool an, .int .i64 ae, .slice aA as1.length ac] 31)
  have hL := FRd.one (a := ⟨ak, an, ae, aA, ac, as1⟩) (Bx.new V (.int .i64 ak) (.bool an) (.int .i64 ae) (.slice aA as1.length ac)) (ha.ext (hE1.tr hA))
  have HS1 := Lib.hid hsz1
  clear hsz1
  go_wp2_with fail
  try rw [HS1.out]
  rw [HS1.out] at hL
  refine (hck _ _ _ hL).mono ?_
  rintro z w2 ⟨rfl, hb2⟩
  have hB2 := hA.tr hb2
  have hF2 := hF1.ext hB2
  have hX2 := hX1.ext hB2
  have hE2 := hE1.tr hB2
  clear f0 f1 x0 x1 x2 x3 hF1 hX1 hL hA hb2 hB2 HS1 hE1
  obtain ⟨f0, f1⟩ := hF2.facts
  obtain ⟨x0, x1, x2, x3, -⟩ := hX2.facts
  go_wp2_with fail
  refine (t1 _ (hT.ext hE2) (ha.ext hE2)).mono ?_
  rintro z w3 ⟨u, rfl, ⟨v, rfl, ho3⟩, hb3⟩
  obtain ⟨A3, c3, rfl, hr3⟩ := ho3.rd
  have hY3 := Bx.new w3 (.int .i64 G.kind) (.bool G.neg) (.int .i64 G.exp) (.slice A3 (cn G.mag).length c3)
  have hA3 := (Ext.refl w3).al (.cells #[.int .i64 G.kind, .bool G.neg, .int .i64 G.exp, .slice A3 (cn G.mag).length c3] 31)
  have hF3 := hF2.ext hb3
  have hX3 := hX2.ext hb3
  have hE4 := (hE2.tr hb3).tr hA3
  have hF4 := hF3.ext hA3
  have hX4 := hX3.ext hA3
  have hr4 := hr3.ext hA3
  have hlf := hF3.lt
  have hlx := hX3.lt
  clear f0 f1 x0 x1 x2 x3 hF2 hX2 hb3 ho3 t1
  obtain ⟨f0, f1⟩ := hF3.facts
  go_wp2_with fail
  refine (t2 A3 c3 _ (hT.ext hE4) hr4).mono ?_
  rintro z w5 ⟨u, rfl, ⟨v, rfl, ho5⟩, hb5⟩
  obtain ⟨A5, c5, rfl, hr5⟩ := ho5.rd
  have hZ5 := Bx.new w5 (.int .i64 H.kind) (.bool H.neg) (.int .i64 H.exp) (.slice A5 (cn H.mag).length c5)
  have hA5 := (Ext.refl w5).al (.cells #[.int .i64 H.kind, .bool H.neg, .int .i64 H.exp, .slice A5 (cn H.mag).length c5] 31)
  have hX5 := hX4.ext hb5
  have hY5 := hY3.ext hb5
  have hE6 := (hE4.tr hb5).tr hA5
  have hr36 := (hr4.ext hb5).ext hA5
  have hr6 := hr5.ext hA5
  have ha6 := ha.ext hE6
  clear f0 f1 hF3 hF4 hlf hlx
  have hlx := hX5.lt
  have hly := hY5.lt
  obtain ⟨x0, x1, x2, x3, -⟩ := hX5.facts
  obtain ⟨y0, y1, y2, y3, -⟩ := hY5.facts
  have hX6 := hX5.ext hA5
  have hZ6 := hZ5
  rcases hcase with ⟨e1, e2, rfl⟩ | ⟨(e1 | ⟨e1, e2⟩), (rfl | ⟨rfl, e3, e4⟩)⟩
  · go_wp2_with fail
    refine (m1 A3 c3 _ (hT.ext hE6) ha6 hr36).mono ?_
    rintro z w7 ⟨rfl, hb7⟩
    have hE7 := hE6.tr hb7
    clear x0 x1 x2 x3 y0 y1 y2 y3
    go_wp2_with fail
    refine (awake21_c _ (hT.ext hE7)).mono ?_
    rintro z w9 ⟨rfl, hb9⟩
    go_wp2
    go_ret
    exact ⟨rfl, hE7.tr hb9⟩
  all_goals
    go_wp2_with fail
    refine (m2 A5 c5 _ (hT.ext hE6) ha6 hr6).mono ?_
    rintro z w7 ⟨rfl, hb7⟩
    have hE7 := hE6.tr hb7
    clear x0 x1 x2 x3 y0 y1 y2 y3
    obtain ⟨x0, x1, x2, x3, -⟩ := (hX6.ext hb7).facts
    obtain ⟨z0, z1, z2, z3, -⟩ := (hZ6.ext hb7).facts
    go_wp2_with fail
    refine (awake21_c _ (hT.ext hE7)).mono ?_
    rintro z w9 ⟨rfl, hb9⟩
    go_wp2
    go_ret
    exact ⟨rfl, hE7.tr hb9⟩
theorem orderBack_c (k p : Int) (a : FA) (up : Bool) (w : World) (hT : Tab w) (ha : Rd w a.A a.c a.xs) :
    Calls Tryd.prog 5 #[.agg #[.int .i64 k, .int .i64 p], a.v, .bool up] w fun e w' => e = .returned (.bool true) ∧ Ext w w' := by
  by_cases h : [a].all (fun a => decide (a.xs.length ≤ 40)) = true ∧ chkS k p [a] = 0
  · exact orderBack_yes k p a up w hT ha h.1 h.2
  · exact orderBack_no k p a up w hT ha h
end Go.Proofs.YtcdgkhmiolhfdaaDoor
