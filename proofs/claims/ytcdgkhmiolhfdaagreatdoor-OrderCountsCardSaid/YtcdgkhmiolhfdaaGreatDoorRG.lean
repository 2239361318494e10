/- The reference's Next and Toward (package 21). The reference's Toward (package 21). -/
import Derived.Test.YtcdgkhmiolhfdaaGreatDoorOJ
import Derived.Test.YtcdgkhmiolhfdaaGreatDoorRC
set_option linter.unusedVariables false
set_option linter.unusedSimpArgs false
namespace Go.Proofs.YtcdgkhmiolhfdaaGreatDoor
open Go.RowKit
attribute [local go_sem ↓] Go.wp_at_zero Go.wp_at_succ

theorem Br.drew {w : World} {g : Nat} {a b c d : Value} (x : Br w g a b c d) : Br w.drew g a b c d := ⟨x.h⟩
theorem boxesRN (w : World) (k p : Int) (a b c d : Value) : ∀ W, W = (((w.alloc (.cells #[.int .i64 k, .int .i64 p] 51)).alloc (.cells #[a, b, c, d] 40)).alloc (.cells #[.int .i64 0, .bool false, .int .i64 0, .slice none 0 0] 40)) →
    Bg W w.heap.size (.int .i64 k) (.int .i64 p) ∧ Br W (w.heap.size + 1) a b c d ∧ Br W (w.heap.size + 1 + 1) (.int .i64 0) (.bool false) (.int .i64 0) (.slice none 0 0) ∧ Ext w W := by
  rintro W rfl
  have h1 := (Ext.refl w).al (.cells #[.int .i64 k, .int .i64 p] 51)
  have x2 := Br.new (w.alloc (.cells #[.int .i64 k, .int .i64 p] 51)) a b c d
  have x3 := Br.new ((w.alloc (.cells #[.int .i64 k, .int .i64 p] 51)).alloc (.cells #[a, b, c, d] 40)) (.int .i64 0) (.bool false) (.int .i64 0) (.slice none 0 0)
  rw [World.size_alloc] at x2
  rw [World.size_alloc, World.size_alloc] at x3
  exact ⟨((Bg.new w _ _).ext ((Ext.refl _).al _)).ext ((Ext.refl _).al _), x2.ext ((Ext.refl _).al _), x3, (h1.al _).al _⟩
set_option maxHeartbeats 4000000 in
set_option maxRecDepth 100000 in
theorem rnext21_stay (k p : Int) (a : FA) (f : Fl) (hfc : a.can = some f) (la : a.xs.length ≤ 4096) (up : Bool) (hs : f.kind = 3 ∨ (f.kind = 2 ∧ f.neg ≠ up)) (w : World) (ha : Rd w a.A a.c a.xs) :
    Calls Tryz.prog 24 #[.agg #[.int .i64 k, .int .i64 p], a.v, .bool up] w fun z w' => ∃ u, z = .returned u ∧ FlR w' w.heap.size f u ∧ Ext w w' := by
  obtain ⟨hF, hX, hZ, hE⟩ := boxesRN w k p (.int .i64 a.k) (.bool a.neg) (.int .i64 a.e) (.slice a.A a.xs.length a.c) _ rfl
  have k1 := rcanonical_c a.k a.e a.neg a.A a.c a.xs
  have c1 := fun w h => k1 w h la f hfc
  have hcs : ((a.k == 3) = true) ∨ ((a.k == 3) = false ∧ (a.k == 2) = true ∧ (a.neg == up) = false) := by
    have e1 : f.kind = a.k := canon_kind hfc
    have e2 := can_neg hfc
    rw [← e1, ← e2]
    rcases hs with h1 | ⟨h1, h2⟩
    · exact .inl (by simpa using h1)
    · exact .inr ⟨by simp; omega, by simpa using h1, by simpa using h2⟩
  unfold FlR at c1 ⊢
  clear k1 hfc la hs
  obtain ⟨ak, an, ae, aA, ac, axs⟩ := a
  simp only at ha hF hX hZ hE c1 hcs
  have HZ := Lib.hid hZ
  have HE := Lib.hid hE
  clear hF hX hZ hE
  rcases hcs with e1 | ⟨e1, e2, e3⟩
  all_goals
    go_enter Tryz.func24, Tryz.ntmps24
    go_wp2_with fail
    have hlr := HZ.out.lt
    refine (c1 _ (ha.ext HE.out)).mono ?_
    rintro z w4 ⟨u, rfl, ⟨v, rfl, ho4⟩, hb4⟩
    obtain ⟨A4, c4, rfl, hr4⟩ := ho4.rd
    have hZ4 := HZ.out.ext hb4
    obtain ⟨r0, r1, r2, r3, rf⟩ := hZ4.facts
    go_wp2
    have hZ5 := hZ4.put (.int .i64 f.kind) (.bool f.neg) (.int .i64 f.exp) (.slice A4 (cn f.mag).length c4)
    have hE5 := (HE.out.tr hb4).put (g := w.heap.size + 1 + 1) (by omega) (.int .i64 f.kind) (.bool f.neg) (.int .i64 f.exp) (.slice A4 (cn f.mag).length c4)
    have ho5 := (ho4.putBelow (g := w.heap.size + 1 + 1) hlr (.int .i64 f.kind) (.bool f.neg) (.int .i64 f.exp) (.slice A4 (cn f.mag).length c4)).low (b := w.heap.size) HE.out.size
    obtain ⟨s0, s1, s2, s3, -⟩ := hZ5.facts
    refine bodyPost_ret (v := flV f.kind f.neg f.exp (.slice A4 (cn f.mag).length c4)) (by simp [results, Tryz.results24, go_sem, s0, s1, s2, s3]) rfl ?_
    exact ⟨_, rfl, ⟨_, rfl, ho5⟩, hE5⟩
set_option maxHeartbeats 8000000 in
set_option maxRecDepth 100000 in
theorem rnext21_go (k p : Int) (hR : Rgt k p) (a : FA) (f : Fl) (hfc : a.can = some f) (hf : FOf k p f) (la : a.xs.length ≤ 4096) (up : Bool) (hs : ¬ (f.kind = 3 ∨ (f.kind = 2 ∧ f.neg ≠ up))) (w : World) (ha : Rd w a.A a.c a.xs) :
    Calls Tryz.prog 24 #[.agg #[.int .i64 k, .int .i64 p], a.v, .bool up] w fun z w' => ∃ u, z = .returned u ∧ FlR w' w.heap.size (nextF k p f up) u ∧ Ext w w' := by
  obtain ⟨hF, hX, hZ, hE⟩ := boxesRN w k p (.int .i64 a.k) (.bool a.neg) (.int .i64 a.e) (.slice a.A a.xs.length a.c) _ rfl
  have c1 := fun w h => rindex21_c k p hR a f hfc hf la w h
  have hil := idx_len hR hf
  obtain ⟨n1, n2, n3, n4⟩ := next_idx hR hf hs
  have hsl : (cn (if up = true then (1 : Int) else -1).natAbs).length ≤ 1 := by cases up <;> exact one_len
  have c2 := fun A A' c c' w h h' => radd11_c (decide (idx k p f < 0)) (decide ((if up = true then (1 : Int) else -1) < 0)) A A' c c' (cn (idx k p f).natAbs) (cn (if up = true then (1 : Int) else -1).natAbs) w h h' (by omega) (by omega)
  simp only [val_cn, sg_self] at c2
  have hzl : (cn (idx k p f + (if up = true then 1 else -1)).natAbs).length ≤ 4096 := by
    have := infN_len hR
    have := cn_len_mono n1
    omega
  have c3 := fun A c w h => rat21_yes k p hR (decide (idx k p f + (if up = true then 1 else -1) < 0)) A c (cn (idx k p f + (if up = true then 1 else -1)).natAbs) hzl (by rw [val_cn]; exact n1) w h
  simp only [val_cn, sg_self] at c3
  have hcs : (a.k == 3) = false ∧ ((a.k == 2) = false ∨ ((a.k == 2) = true ∧ (a.neg == up) = true)) := by
    have e1 : f.kind = a.k := canon_kind hfc
    have e2 := can_neg hfc
    rw [← e1, ← e2]
    refine ⟨by simp; omega, ?_⟩
    by_cases h2 : f.kind = 2
    · refine .inr ⟨by simpa using h2, ?_⟩
      by_cases h4 : f.neg = up
      · simpa using h4
      · exact absurd (.inr ⟨h2, h4⟩) hs
    · exact .inl (by simpa using h2)
  have hq : ((atF k p (idx k p f + (if up = true then 1 else -1))).kind == 0) = true ∧ nextF k p f up = ⟨(atF k p (idx k p f + (if up = true then 1 else -1))).kind, a.neg, (atF k p (idx k p f + (if up = true then 1 else -1))).exp, (atF k p (idx k p f + (if up = true then 1 else -1))).mag⟩ ∨
      ((atF k p (idx k p f + (if up = true then 1 else -1))).kind == 0) = false ∧ nextF k p f up = atF k p (idx k p f + (if up = true then 1 else -1)) := by
    by_cases h0 : (atF k p (idx k p f + (if up = true then 1 else -1))).kind = 0
    · have hzz := (decF_ok (k := k) (p := p) (n := (idx k p f + (if up = true then 1 else -1)).natAbs) hR).zero (by show (atF k p _).kind ≠ 1; rw [h0]; simp)
      refine .inl ⟨by simpa using h0, ?_⟩
      rw [n2, if_pos h0, ← can_neg hfc, h0]
      show (⟨0, f.neg, 0, 0⟩ : Fl) = ⟨0, f.neg, (decF k p _).exp, (decF k p _).mag⟩
      rw [hzz.1, hzz.2]
    · exact .inr ⟨by simpa using h0, by rw [n2, if_neg h0]⟩
  have c0 := fun w => rfrom11_c (if up = true then (1 : Int) else -1) (by cases up <;> simp) w
  have c9 := fun w => rfrom11_c 1 (.inl rfl) w
  unfold FlR
  unfold DecR FlR at c3
  unfold IntR at c0 c1 c2 c9
  generalize nextF k p f up = N at *
  generalize atF k p (idx k p f + (if up = true then 1 else -1)) = Q at *
  generalize decide (idx k p f + (if up = true then 1 else -1) < 0) = zb at *
  generalize cn (idx k p f + (if up = true then 1 else -1)).natAbs = Z at *
  generalize decide (idx k p f < 0) = ib at *
  generalize cn (idx k p f).natAbs = I at *
  clear hsl hil n1 n2 n3 n4 hzl hs hfc hf la hR
  obtain ⟨ak, an, ae, aA, ac, axs⟩ := a
  simp only at ha hF hX hZ hE c1 hcs hq
  have HF := Lib.hid hF
  have HX := Lib.hid hX
  have HZ := Lib.hid hZ
  have HE := Lib.hid hE
  have HQ := Lib.hid hq
  clear hF hX hZ hE hq f
  obtain ⟨e1, e2⟩ := hcs
  cases up
  · simp only [Bool.false_eq_true, if_false] at c0 c2
    generalize decide ((-1 : Int) < 0) = sb at *
    generalize cn (-1 : Int).natAbs = S at *
    generalize decide ((1 : Int) < 0) = ob at *
    generalize cn (1 : Int).natAbs = O at *
    rcases e2 with e2 | ⟨e2, e3⟩
    · go_enter Tryz.func24, Tryz.ntmps24
      go_wp2_with fail
      have hF := HF.out
      have hX := HX.out
      have hZ := HZ.out
      have hE := HE.out
      clear HF HX HZ HE
      generalize (((w.alloc (.cells #[.int .i64 k, .int .i64 p] 51)).alloc (.cells #[.int .i64 ak, .bool an, .int .i64 ae, .slice aA axs.length ac] 40)).alloc (.cells #[.int .i64 0, .bool false, .int .i64 0, .slice none 0 0] 40)) = W at *
      refine (c9 _).mono ?_
      rintro z w3 ⟨A2, c2', rfl, ho2, hb3⟩
      have hS1 := Bi.new w3 (.bool ob) (.slice A2 O.length c2')
      have hA3 := (Ext.refl w3).al (.cells #[.bool ob, .slice A2 O.length c2'] 56)
      have hlz := (hZ.ext hb3).lt
      have hlx := (hX.ext hb3).lt
      have hlf := (hF.ext hb3).lt
      have hF3 := (hF.ext hb3).ext hA3
      have hX3 := (hX.ext hb3).ext hA3
      have hZ3 := (hZ.ext hb3).ext hA3
      have hE3 := (hE.tr hb3).tr hA3
      go_wp2_with fail
      refine (c0 _).mono ?_
      rintro z w2 ⟨A3, c3', rfl, ho3, hb2⟩
      have hlS := hS1.lt
      obtain ⟨q0, q1, qf⟩ := (hS1.ext hb2).facts
      have hS := (hS1.ext hb2).put (.bool sb) (.slice A3 S.length c3')
      have hEp := ((Ext.refl w3).al (.cells #[.bool ob, .slice A2 O.length c2'] 56)).tr hb2 |>.puti (g := w3.heap.size) (Nat.le_refl _) (.bool sb) (.slice A3 S.length c3')
      have hFV := (hF.ext hb3).ext hEp
      have hXV := (hX.ext hb3).ext hEp
      have hZV := (hZ.ext hb3).ext hEp
      have hEV := (hE.tr hb3).tr hEp
      have hr3 := (ho3.puti (g := w3.heap.size) hlS (.bool sb) (.slice A3 S.length c3')).rdAt.2
      have hrV := hr3
      go_wp2_with fail
      generalize (w2.setCell ⟨w3.heap.size, 0, none⟩ (.bool sb)).setCell ⟨w3.heap.size, 1, none⟩ (.slice A3 S.length c3') = V at *
      obtain ⟨f0, f1⟩ := hFV.facts
      obtain ⟨x0, x1, x2, x3, -⟩ := hXV.facts
      obtain ⟨s0, s1, -⟩ := hS.facts
      have hA0 := (Ext.refl V).al (.cells #[.int .i64 0, .bool false, .int .i64 0, .slice none 0 0] 40)
      have hY0' : Br (V.drew.alloc (.cells #[.int .i64 0, .bool false, .int .i64 0, .slice none 0 0] 40)) V.heap.size (.int .i64 0) (.bool false) (.int .i64 0) (.slice none 0 0) := Br.new V.drew (.int .i64 0) (.bool false) (.int .i64 0) (.slice none 0 0)
      have hY0 := Br.new V (.int .i64 0) (.bool false) (.int .i64 0) (.slice none 0 0)
      go_region_held3 (fun w' => w'.cell? ⟨w.heap.size, 0, none⟩ = some (.int .i64 k) ∧ w'.cell? ⟨w.heap.size, 1, none⟩ = some (.int .i64 p) ∧ w'.cell? ⟨w.heap.size + 1, 0, none⟩ = some (.int .i64 ak) ∧ w'.cell? ⟨w.heap.size + 1, 1, none⟩ = some (.bool an) ∧ w'.cell? ⟨w.heap.size + 1, 2, none⟩ = some (.int .i64 ae) ∧ w'.cell? ⟨w.heap.size + 1, 3, none⟩ = some (.slice aA axs.length ac) ∧ w'.cell? ⟨w3.heap.size, 0, none⟩ = some (.bool sb) ∧ w'.cell? ⟨w3.heap.size, 1, none⟩ = some (.slice A3 S.length c3'))
        (first | (go_split_ands; (repeat' apply And.intro) <;> first | (with_reducible assumption) | (refine Ext.cell (w := V) ?_ ?_ <;> (with_reducible assumption))) | go_keep)
        (first
          | (go_at_call 32; (with_reducible refine (c1 _ ?hr).mono ?_); (case hr => first | with_reducible exact ha.ext hEV.drew | with_reducible exact ha.ext (hEV.tr hA0).drew | with_reducible exact ha.ext (hEV.drew.al _)); rintro e w4 ⟨A4, c4, rfl, ho4, hb4⟩; obtain ⟨-, hr4⟩ := ho4.rdAt; (have hE4 : Ext V w4 := (by first | with_reducible exact (Ext.refl V).drew.tr hb4 | with_reducible exact hA0.drew.tr hb4 | with_reducible exact ((Ext.refl V).drew.al _).tr hb4)); (have hrV4 := hrV.ext hE4); (try have hYa : Br w4 V.heap.size (.int .i64 0) (.bool false) (.int .i64 0) (.slice none 0 0) := (by first | with_reducible exact hY0.drew.ext hb4 | with_reducible exact hY0'.ext hb4)))
          | (go_at_call 35; (with_reducible refine (c2 A4 A3 c4 c3' _ ?hr1 ?hr2).mono ?_); (case hr1 => first | with_reducible exact hr4 | with_reducible exact hr4.ext ((Ext.refl w4).al _)); (case hr2 => first | with_reducible exact hrV4 | with_reducible exact hrV4.ext ((Ext.refl w4).al _)); rintro e w5 ⟨A5, c5, rfl, ho5, hb5⟩; obtain ⟨-, hr5⟩ := ho5.rdAt; (have hb5' : Ext w4 w5 := (by first | with_reducible exact hb5 | with_reducible exact ((Ext.refl w4).al _).tr hb5)); have hE5 : Ext V w5 := hE4.tr hb5'; (try have hYb : Br w5 w4.heap.size (.int .i64 0) (.bool false) (.int .i64 0) (.slice none 0 0) := (by with_reducible exact (Br.new w4 (.int .i64 0) (.bool false) (.int .i64 0) (.slice none 0 0)).ext hb5)); (try (with_reducible replace hYa := hYa.ext hb5)); (try have hla := hYa.lt); (try have hlb := hYb.lt))
          | (go_at_call 33; (with_reducible refine (c3 A5 c5 _ ?hr3).mono ?_); (case hr3 => first | with_reducible exact hr5 | with_reducible exact hr5.ext ((Ext.refl w5).al _)); rintro e w6 ⟨u, rfl, ⟨v, rfl, ho6⟩, hb6⟩; obtain ⟨A6, c6, rfl, hr6⟩ := ho6.rd; (have hb6' : Ext w5 w6 := (by first | with_reducible exact hb6 | with_reducible exact ((Ext.refl w5).al _).tr hb6)); have hE6 : Ext V w6 := hE5.tr hb6'; (try have hYc : Br w6 w5.heap.size (.int .i64 0) (.bool false) (.int .i64 0) (.slice none 0 0) := (by with_reducible exact (Br.new w5 (.int .i64 0) (.bool false) (.int .i64 0) (.slice none 0 0)).ext hb6)); (try (with_reducible replace hYa := hYa.ext hb6)); (try (with_reducible replace hYb := hYb.ext hb6)); (try obtain ⟨y0, y1, y2, y3, yf⟩ := hYa.facts); (try obtain ⟨y0, y1, y2, y3, yf⟩ := hYb.facts); (try obtain ⟨y0, y1, y2, y3, yf⟩ := hYc.facts); have hE7a := hE6.al (.cells #[.int .i64 Q.kind, .bool Q.neg, .int .i64 Q.exp, .slice A6 (cn Q.mag).length c6] 40); have hE7b := hE6.put (g := V.heap.size) (Nat.le_refl _) (.int .i64 Q.kind) (.bool Q.neg) (.int .i64 Q.exp) (.slice A6 (cn Q.mag).length c6); have hE7c := hE6.put (g := w4.heap.size) hE4.size (.int .i64 Q.kind) (.bool Q.neg) (.int .i64 Q.exp) (.slice A6 (cn Q.mag).length c6); have hE7d := hE6.put (g := w5.heap.size) hE5.size (.int .i64 Q.kind) (.bool Q.neg) (.int .i64 Q.exp) (.slice A6 (cn Q.mag).length c6))
          | fail)
      · have hlz3 := hZV.lt
        have hs4 := hE4.size
        have hs5 := hE5.size
        have hs6 := hE6.size
        have hs54 := hb5'.size
        have hgz : w.heap.size + 1 + 1 < w6.heap.size := by omega
        have hU := Br.new w6 (.int .i64 Q.kind) (.bool Q.neg) (.int .i64 Q.exp) (.slice A6 (cn Q.mag).length c6)
        have hEU0 := hE7a
        have hoU := (ho6.ext ((Ext.refl w6).al (.cells #[.int .i64 Q.kind, .bool Q.neg, .int .i64 Q.exp, .slice A6 (cn Q.mag).length c6] 40))).low (b := w.heap.size + 1 + 1 + 1) (by omega)
        have hoN := (ho6.ext (((Ext.refl w6).al (.cells #[.int .i64 Q.kind, .bool Q.neg, .int .i64 Q.exp, .slice A6 (cn Q.mag).length c6] 40)).set (g := w6.heap.size) (Nat.le_refl _) 1 (.bool an))).low (b := w.heap.size + 1 + 1 + 1) (by omega)
        generalize (w6.alloc (.cells #[.int .i64 Q.kind, .bool Q.neg, .int .i64 Q.exp, .slice A6 (cn Q.mag).length c6] 40)) = U at hU hEU0 hoU hoN ⊢
        have hXU := hXV.ext hEU0
        have hZU := hZV.ext hEU0
        have hEU := hEV.tr hEU0
        generalize w6.heap.size = g at hU hgz hoN ⊢
        have hgne : ¬ (g = w.heap.size + 1 + 1) := by omega
        have hgnx : ¬ (g = w.heap.size + 1) := by omega
        clear hXV hZV hEV hFV hS hrV hrV4 hE4 hE5 hE6 hEU0 ho6 hr3 hr4 hr5 hr6 hb6 hb5 hb4 hs4 hs5 hs6 hs54 hlz3 hb5' hb6' hE7a hE7b hE7c hE7d ho4 ho5
        obtain ⟨x0, x1, x2, x3, -⟩ := hXU.facts
        obtain ⟨u0, u1, u2, u3, uf⟩ := hU.facts
        rcases HQ.out with ⟨e5, rfl⟩ | ⟨e5, rfl⟩
        · have hU1 := hU.s1 (.bool an)
          obtain ⟨v0, v1, v2, v3, vf⟩ := hU1.facts
          have hZ1 := hZU.far (p := ⟨g, 1, none⟩) (show w.heap.size + 1 + 1 ≠ g by omega) (.bool an)
          have hE1 := hEU.set (g := g) (by omega) 1 (.bool an)
          obtain ⟨r0, r1, r2, r3, rf⟩ := hZ1.facts
          have hZ9 := Lib.hid (hZ1.put (.int .i64 Q.kind) (.bool an) (.int .i64 Q.exp) (.slice A6 (cn Q.mag).length c6))
          have hE9 := Lib.hid (hE1.put (g := w.heap.size + 1 + 1) (by omega) (.int .i64 Q.kind) (.bool an) (.int .i64 Q.exp) (.slice A6 (cn Q.mag).length c6))
          have ho9 := Lib.hid ((hoN.putBelow (g := w.heap.size + 1 + 1) (by omega) (.int .i64 Q.kind) (.bool an) (.int .i64 Q.exp) (.slice A6 (cn Q.mag).length c6)).low (b := w.heap.size) (by omega))
          go_wp2
          obtain ⟨s0, s1, s2, s3, -⟩ := hZ9.out.facts
          refine bodyPost_ret (v := flV Q.kind an Q.exp (.slice A6 (cn Q.mag).length c6)) (by simp [results, Tryz.results24, go_sem, s0, s1, s2, s3]) rfl ?_
          exact ⟨_, rfl, ⟨_, rfl, ho9.out⟩, hE9.out⟩
        · obtain ⟨r0, r1, r2, r3, rf⟩ := hZU.facts
          have hZ9 := Lib.hid (hZU.put (.int .i64 N.kind) (.bool N.neg) (.int .i64 N.exp) (.slice A6 (cn N.mag).length c6))
          have hE9 := Lib.hid (hEU.put (g := w.heap.size + 1 + 1) (by omega) (.int .i64 N.kind) (.bool N.neg) (.int .i64 N.exp) (.slice A6 (cn N.mag).length c6))
          have ho9 := Lib.hid ((hoU.putBelow (g := w.heap.size + 1 + 1) (by omega) (.int .i64 N.kind) (.bool N.neg) (.int .i64 N.exp) (.slice A6 (cn N.mag).length c6)).low (b := w.heap.size) (by omega))
          go_wp2
          obtain ⟨s0, s1, s2, s3, -⟩ := hZ9.out.facts
          refine bodyPost_ret (v := flV N.kind N.neg N.exp (.slice A6 (cn N.mag).length c6)) (by simp [results, Tryz.results24, go_sem, s0, s1, s2, s3]) rfl ?_
          exact ⟨_, rfl, ⟨_, rfl, ho9.out⟩, hE9.out⟩
      · have hlz3 := hZV.lt
        have hs4 := hE4.size
        have hs5 := hE5.size
        have hs6 := hE6.size
        have hs54 := hb5'.size
        have hgz : w.heap.size + 1 + 1 < w5.heap.size := by omega
        have ho6 := ho6.low (b := w5.heap.size + 1) (by simp)
        have hU := hYc.put (.int .i64 Q.kind) (.bool Q.neg) (.int .i64 Q.exp) (.slice A6 (cn Q.mag).length c6)
        have hEU0 := hE7d
        have hoP := ho6.putBelow (g := w5.heap.size) (Nat.lt_succ_self _) (.int .i64 Q.kind) (.bool Q.neg) (.int .i64 Q.exp) (.slice A6 (cn Q.mag).length c6)
        have hoN := (hoP.setBelow (a := ⟨w5.heap.size, 1, none⟩) (Nat.lt_succ_self _) (.bool an)).low (b := w.heap.size + 1 + 1 + 1) (by omega)
        have hoU := hoP.low (b := w.heap.size + 1 + 1 + 1) (by omega)
        generalize ((((w6.setCell ⟨w5.heap.size, 0, none⟩ (.int .i64 Q.kind)).setCell ⟨w5.heap.size, 1, none⟩ (.bool Q.neg)).setCell ⟨w5.heap.size, 2, none⟩ (.int .i64 Q.exp)).setCell ⟨w5.heap.size, 3, none⟩ (.slice A6 (cn Q.mag).length c6)) = U at hU hEU0 hoU hoN ⊢
        have hXU := hXV.ext hEU0
        have hZU := hZV.ext hEU0
        have hEU := hEV.tr hEU0
        generalize w5.heap.size = g at hU hgz hoN ⊢
        have hgne : ¬ (g = w.heap.size + 1 + 1) := by omega
        have hgnx : ¬ (g = w.heap.size + 1) := by omega
        clear hXV hZV hEV hFV hS hrV hrV4 hE4 hE5 hE6 hEU0 ho6 hr3 hr4 hr5 hr6 hb6 hb5 hb4 hs4 hs5 hs6 hs54 hlz3 hb5' hb6' hE7a hE7b hE7c hE7d ho4 ho5
        obtain ⟨x0, x1, x2, x3, -⟩ := hXU.facts
        obtain ⟨u0, u1, u2, u3, uf⟩ := hU.facts
        rcases HQ.out with ⟨e5, rfl⟩ | ⟨e5, rfl⟩
        · have hU1 := hU.s1 (.bool an)
          obtain ⟨v0, v1, v2, v3, vf⟩ := hU1.facts
          have hZ1 := hZU.far (p := ⟨g, 1, none⟩) (show w.heap.size + 1 + 1 ≠ g by omega) (.bool an)
          have hE1 := hEU.set (g := g) (by omega) 1 (.bool an)
          obtain ⟨r0, r1, r2, r3, rf⟩ := hZ1.facts
          have hZ9 := Lib.hid (hZ1.put (.int .i64 Q.kind) (.bool an) (.int .i64 Q.exp) (.slice A6 (cn Q.mag).length c6))
          have hE9 := Lib.hid (hE1.put (g := w.heap.size + 1 + 1) (by omega) (.int .i64 Q.kind) (.bool an) (.int .i64 Q.exp) (.slice A6 (cn Q.mag).length c6))
          have ho9 := Lib.hid ((hoN.putBelow (g := w.heap.size + 1 + 1) (by omega) (.int .i64 Q.kind) (.bool an) (.int .i64 Q.exp) (.slice A6 (cn Q.mag).length c6)).low (b := w.heap.size) (by omega))
          go_wp2
          obtain ⟨s0, s1, s2, s3, -⟩ := hZ9.out.facts
          refine bodyPost_ret (v := flV Q.kind an Q.exp (.slice A6 (cn Q.mag).length c6)) (by simp [results, Tryz.results24, go_sem, s0, s1, s2, s3]) rfl ?_
          exact ⟨_, rfl, ⟨_, rfl, ho9.out⟩, hE9.out⟩
        · obtain ⟨r0, r1, r2, r3, rf⟩ := hZU.facts
          have hZ9 := Lib.hid (hZU.put (.int .i64 N.kind) (.bool N.neg) (.int .i64 N.exp) (.slice A6 (cn N.mag).length c6))
          have hE9 := Lib.hid (hEU.put (g := w.heap.size + 1 + 1) (by omega) (.int .i64 N.kind) (.bool N.neg) (.int .i64 N.exp) (.slice A6 (cn N.mag).length c6))
          have ho9 := Lib.hid ((hoU.putBelow (g := w.heap.size + 1 + 1) (by omega) (.int .i64 N.kind) (.bool N.neg) (.int .i64 N.exp) (.slice A6 (cn N.mag).length c6)).low (b := w.heap.size) (by omega))
          go_wp2
          obtain ⟨s0, s1, s2, s3, -⟩ := hZ9.out.facts
          refine bodyPost_ret (v := flV N.kind N.neg N.exp (.slice A6 (cn N.mag).length c6)) (by simp [results, Tryz.results24, go_sem, s0, s1, s2, s3]) rfl ?_
          exact ⟨_, rfl, ⟨_, rfl, ho9.out⟩, hE9.out⟩
      · have hlz3 := hZV.lt
        have hs4 := hE4.size
        have hs5 := hE5.size
        have hs6 := hE6.size
        have hs54 := hb5'.size
        have hgz : w.heap.size + 1 + 1 < w4.heap.size := by omega
        have hU := hYb.put (.int .i64 Q.kind) (.bool Q.neg) (.int .i64 Q.exp) (.slice A6 (cn Q.mag).length c6)
        have hEU0 := hE7c
        have hoP := ho6.putBelow (g := w4.heap.size) hlb (.int .i64 Q.kind) (.bool Q.neg) (.int .i64 Q.exp) (.slice A6 (cn Q.mag).length c6)
        have hoN := (hoP.setBelow (a := ⟨w4.heap.size, 1, none⟩) hlb (.bool an)).low (b := w.heap.size + 1 + 1 + 1) (by omega)
        have hoU := hoP.low (b := w.heap.size + 1 + 1 + 1) (by omega)
        generalize ((((w6.setCell ⟨w4.heap.size, 0, none⟩ (.int .i64 Q.kind)).setCell ⟨w4.heap.size, 1, none⟩ (.bool Q.neg)).setCell ⟨w4.heap.size, 2, none⟩ (.int .i64 Q.exp)).setCell ⟨w4.heap.size, 3, none⟩ (.slice A6 (cn Q.mag).length c6)) = U at hU hEU0 hoU hoN ⊢
        have hXU := hXV.ext hEU0
        have hZU := hZV.ext hEU0
        have hEU := hEV.tr hEU0
        generalize w4.heap.size = g at hU hgz hoN ⊢
        have hgne : ¬ (g = w.heap.size + 1 + 1) := by omega
        have hgnx : ¬ (g = w.heap.size + 1) := by omega
        clear hXV hZV hEV hFV hS hrV hrV4 hE4 hE5 hE6 hEU0 ho6 hr3 hr4 hr5 hr6 hb6 hb5 hb4 hs4 hs5 hs6 hs54 hlz3 hb5' hb6' hE7a hE7b hE7c hE7d ho4 ho5
        obtain ⟨x0, x1, x2, x3, -⟩ := hXU.facts
        obtain ⟨u0, u1, u2, u3, uf⟩ := hU.facts
        rcases HQ.out with ⟨e5, rfl⟩ | ⟨e5, rfl⟩
        · have hU1 := hU.s1 (.bool an)
          obtain ⟨v0, v1, v2, v3, vf⟩ := hU1.facts
          have hZ1 := hZU.far (p := ⟨g, 1, none⟩) (show w.heap.size + 1 + 1 ≠ g by omega) (.bool an)
          have hE1 := hEU.set (g := g) (by omega) 1 (.bool an)
          obtain ⟨r0, r1, r2, r3, rf⟩ := hZ1.facts
          have hZ9 := Lib.hid (hZ1.put (.int .i64 Q.kind) (.bool an) (.int .i64 Q.exp) (.slice A6 (cn Q.mag).length c6))
          have hE9 := Lib.hid (hE1.put (g := w.heap.size + 1 + 1) (by omega) (.int .i64 Q.kind) (.bool an) (.int .i64 Q.exp) (.slice A6 (cn Q.mag).length c6))
          have ho9 := Lib.hid ((hoN.putBelow (g := w.heap.size + 1 + 1) (by omega) (.int .i64 Q.kind) (.bool an) (.int .i64 Q.exp) (.slice A6 (cn Q.mag).length c6)).low (b := w.heap.size) (by omega))
          go_wp2
          obtain ⟨s0, s1, s2, s3, -⟩ := hZ9.out.facts
          refine bodyPost_ret (v := flV Q.kind an Q.exp (.slice A6 (cn Q.mag).length c6)) (by simp [results, Tryz.results24, go_sem, s0, s1, s2, s3]) rfl ?_
          exact ⟨_, rfl, ⟨_, rfl, ho9.out⟩, hE9.out⟩
        · obtain ⟨r0, r1, r2, r3, rf⟩ := hZU.facts
          have hZ9 := Lib.hid (hZU.put (.int .i64 N.kind) (.bool N.neg) (.int .i64 N.exp) (.slice A6 (cn N.mag).length c6))
          have hE9 := Lib.hid (hEU.put (g := w.heap.size + 1 + 1) (by omega) (.int .i64 N.kind) (.bool N.neg) (.int .i64 N.exp) (.slice A6 (cn N.mag).length c6))
          have ho9 := Lib.hid ((hoU.putBelow (g := w.heap.size + 1 + 1) (by omega) (.int .i64 N.kind) (.bool N.neg) (.int .i64 N.exp) (.slice A6 (cn N.mag).length c6)).low (b := w.heap.size) (by omega))
          go_wp2
          obtain ⟨s0, s1, s2, s3, -⟩ := hZ9.out.facts
          refine bodyPost_ret (v := flV N.kind N.neg N.exp (.slice A6 (cn N.mag).length c6)) (by simp [results, Tryz.results24, go_sem, s0, s1, s2, s3]) rfl ?_
          exact ⟨_, rfl, ⟨_, rfl, ho9.out⟩, hE9.out⟩
      · have hlz3 := hZV.lt
        have hs4 := hE4.size
        have hs5 := hE5.size
        have hs6 := hE6.size
        have hs54 := hb5'.size
        have hgz : w.heap.size + 1 + 1 < V.heap.size := by omega
        have hU := hYa.put (.int .i64 Q.kind) (.bool Q.neg) (.int .i64 Q.exp) (.slice A6 (cn Q.mag).length c6)
        have hEU0 := hE7b
        have hoP := ho6.putBelow (g := V.heap.size) hla (.int .i64 Q.kind) (.bool Q.neg) (.int .i64 Q.exp) (.slice A6 (cn Q.mag).length c6)
        have hoN := (hoP.setBelow (a := ⟨V.heap.size, 1, none⟩) hla (.bool an)).low (b := w.heap.size + 1 + 1 + 1) (by omega)
        have hoU := hoP.low (b := w.heap.size + 1 + 1 + 1) (by omega)
        generalize ((((w6.setCell ⟨V.heap.size, 0, none⟩ (.int .i64 Q.kind)).setCell ⟨V.heap.size, 1, none⟩ (.bool Q.neg)).setCell ⟨V.heap.size, 2, none⟩ (.int .i64 Q.exp)).setCell ⟨V.heap.size, 3, none⟩ (.slice A6 (cn Q.mag).length c6)) = U at hU hEU0 hoU hoN ⊢
        have hXU := hXV.ext hEU0
        have hZU := hZV.ext hEU0
        have hEU := hEV.tr hEU0
        generalize V.heap.size = g at hU hgz hoN ⊢
        have hgne : ¬ (g = w.heap.size + 1 + 1) := by omega
        have hgnx : ¬ (g = w.heap.size + 1) := by omega
        clear hXV hZV hEV hFV hS hrV hrV4 hE4 hE5 hE6 hEU0 ho6 hr3 hr4 hr5 hr6 hb6 hb5 hb4 hs4 hs5 hs6 hs54 hlz3 hb5' hb6' hE7a hE7b hE7c hE7d ho4 ho5
        obtain ⟨x0, x1, x2, x3, -⟩ := hXU.facts
        obtain ⟨u0, u1, u2, u3, uf⟩ := hU.facts
        rcases HQ.out with ⟨e5, rfl⟩ | ⟨e5, rfl⟩
        · have hU1 := hU.s1 (.bool an)
          obtain ⟨v0, v1, v2, v3, vf⟩ := hU1.facts
          have hZ1 := hZU.far (p := ⟨g, 1, none⟩) (show w.heap.size + 1 + 1 ≠ g by omega) (.bool an)
          have hE1 := hEU.set (g := g) (by omega) 1 (.bool an)
          obtain ⟨r0, r1, r2, r3, rf⟩ := hZ1.facts
          have hZ9 := Lib.hid (hZ1.put (.int .i64 Q.kind) (.bool an) (.int .i64 Q.exp) (.slice A6 (cn Q.mag).length c6))
          have hE9 := Lib.hid (hE1.put (g := w.heap.size + 1 + 1) (by omega) (.int .i64 Q.kind) (.bool an) (.int .i64 Q.exp) (.slice A6 (cn Q.mag).length c6))
          have ho9 := Lib.hid ((hoN.putBelow (g := w.heap.size + 1 + 1) (by omega) (.int .i64 Q.kind) (.bool an) (.int .i64 Q.exp) (.slice A6 (cn Q.mag).length c6)).low (b := w.heap.size) (by omega))
          go_wp2
          obtain ⟨s0, s1, s2, s3, -⟩ := hZ9.out.facts
          refine bodyPost_ret (v := flV Q.kind an Q.exp (.slice A6 (cn Q.mag).length c6)) (by simp [results, Tryz.results24, go_sem, s0, s1, s2, s3]) rfl ?_
          exact ⟨_, rfl, ⟨_, rfl, ho9.out⟩, hE9.out⟩
        · obtain ⟨r0, r1, r2, r3, rf⟩ := hZU.facts
          have hZ9 := Lib.hid (hZU.put (.int .i64 N.kind) (.bool N.neg) (.int .i64 N.exp) (.slice A6 (cn N.mag).length c6))
          have hE9 := Lib.hid (hEU.put (g := w.heap.size + 1 + 1) (by omega) (.int .i64 N.kind) (.bool N.neg) (.int .i64 N.exp) (.slice A6 (cn N.mag).length c6))
          have ho9 := Lib.hid ((hoU.putBelow (g := w.heap.size + 1 + 1) (by omega) (.int .i64 N.kind) (.bool N.neg) (.int .i64 N.exp) (.slice A6 (cn N.mag).length c6)).low (b := w.heap.size) (by omega))
          go_wp2
          obtain ⟨s0, s1, s2, s3, -⟩ := hZ9.out.facts
          refine bodyPost_ret (v := flV N.kind N.neg N.exp (.slice A6 (cn N.mag).length c6)) (by simp [results, Tryz.results24, go_sem, s0, s1, s2, s3]) rfl ?_
          exact ⟨_, rfl, ⟨_, rfl, ho9.out⟩, hE9.out⟩
    · go_enter Tryz.func24, Tryz.ntmps24
      go_wp2_with fail
      have hF := HF.out
      have hX := HX.out
      have hZ := HZ.out
      have hE := HE.out
      clear HF HX HZ HE
      generalize (((w.alloc (.cells #[.int .i64 k, .int .i64 p] 51)).alloc (.cells #[.int .i64 ak, .bool an, .int .i64 ae, .slice aA axs.length ac] 40)).alloc (.cells #[.int .i64 0, .bool false, .int .i64 0, .slice none 0 0] 40)) = W at *
      refine (c9 _).mono ?_
      rintro z w3 ⟨A2, c2', rfl, ho2, hb3⟩
      have hS1 := Bi.new w3 (.bool ob) (.slice A2 O.length c2')
      have hA3 := (Ext.refl w3).al (.cells #[.bool ob, .slice A2 O.length c2'] 56)
      have hlz := (hZ.ext hb3).lt
      have hlx := (hX.ext hb3).lt
      have hlf := (hF.ext hb3).lt
      have hF3 := (hF.ext hb3).ext hA3
      have hX3 := (hX.ext hb3).ext hA3
      have hZ3 := (hZ.ext hb3).ext hA3
      have hE3 := (hE.tr hb3).tr hA3
      go_wp2_with fail
      refine (c0 _).mono ?_
      rintro z w2 ⟨A3, c3', rfl, ho3, hb2⟩
      have hlS := hS1.lt
      obtain ⟨q0, q1, qf⟩ := (hS1.ext hb2).facts
      have hS := (hS1.ext hb2).put (.bool sb) (.slice A3 S.length c3')
      have hEp := ((Ext.refl w3).al (.cells #[.bool ob, .slice A2 O.length c2'] 56)).tr hb2 |>.puti (g := w3.heap.size) (Nat.le_refl _) (.bool sb) (.slice A3 S.length c3')
      have hFV := (hF.ext hb3).ext hEp
      have hXV := (hX.ext hb3).ext hEp
      have hZV := (hZ.ext hb3).ext hEp
      have hEV := (hE.tr hb3).tr hEp
      have hr3 := (ho3.puti (g := w3.heap.size) hlS (.bool sb) (.slice A3 S.length c3')).rdAt.2
      have hrV := hr3
      go_wp2_with fail
      generalize (w2.setCell ⟨w3.heap.size, 0, none⟩ (.bool sb)).setCell ⟨w3.heap.size, 1, none⟩ (.slice A3 S.length c3') = V at *
      obtain ⟨f0, f1⟩ := hFV.facts
      obtain ⟨x0, x1, x2, x3, -⟩ := hXV.facts
      obtain ⟨s0, s1, -⟩ := hS.facts
      have hA0 := (Ext.refl V).al (.cells #[.int .i64 0, .bool false, .int .i64 0, .slice none 0 0] 40)
      have hY0' : Br (V.drew.alloc (.cells #[.int .i64 0, .bool false, .int .i64 0, .slice none 0 0] 40)) V.heap.size (.int .i64 0) (.bool false) (.int .i64 0) (.slice none 0 0) := Br.new V.drew (.int .i64 0) (.bool false) (.int .i64 0) (.slice none 0 0)
      have hY0 := Br.new V (.int .i64 0) (.bool false) (.int .i64 0) (.slice none 0 0)
      go_region_held3 (fun w' => w'.cell? ⟨w.heap.size, 0, none⟩ = some (.int .i64 k) ∧ w'.cell? ⟨w.heap.size, 1, none⟩ = some (.int .i64 p) ∧ w'.cell? ⟨w.heap.size + 1, 0, none⟩ = some (.int .i64 ak) ∧ w'.cell? ⟨w.heap.size + 1, 1, none⟩ = some (.bool an) ∧ w'.cell? ⟨w.heap.size + 1, 2, none⟩ = some (.int .i64 ae) ∧ w'.cell? ⟨w.heap.size + 1, 3, none⟩ = some (.slice aA axs.length ac) ∧ w'.cell? ⟨w3.heap.size, 0, none⟩ = some (.bool sb) ∧ w'.cell? ⟨w3.heap.size, 1, none⟩ = some (.slice A3 S.length c3'))
        (first | (go_split_ands; (repeat' apply And.intro) <;> first | (with_reducible assumption) | (refine Ext.cell (w := V) ?_ ?_ <;> (with_reducible assumption))) | go_keep)
        (first
          | (go_at_call 32; (with_reducible refine (c1 _ ?hr).mono ?_); (case hr => first | with_reducible exact ha.ext hEV.drew | with_reducible exact ha.ext (hEV.tr hA0).drew | with_reducible exact ha.ext (hEV.drew.al _)); rintro e w4 ⟨A4, c4, rfl, ho4, hb4⟩; obtain ⟨-, hr4⟩ := ho4.rdAt; (have hE4 : Ext V w4 := (by first | with_reducible exact (Ext.refl V).drew.tr hb4 | with_reducible exact hA0.drew.tr hb4 | with_reducible exact ((Ext.refl V).drew.al _).tr hb4)); (have hrV4 := hrV.ext hE4); (try have hYa : Br w4 V.heap.size (.int .i64 0) (.bool false) (.int .i64 0) (.slice none 0 0) := (by first | with_reducible exact hY0.drew.ext hb4 | with_reducible exact hY0'.ext hb4)))
          | (go_at_call 35; (with_reducible refine (c2 A4 A3 c4 c3' _ ?hr1 ?hr2).mono ?_); (case hr1 => first | with_reducible exact hr4 | with_reducible exact hr4.ext ((Ext.refl w4).al _)); (case hr2 => first | with_reducible exact hrV4 | with_reducible exact hrV4.ext ((Ext.refl w4).al _)); rintro e w5 ⟨A5, c5, rfl, ho5, hb5⟩; obtain ⟨-, hr5⟩ := ho5.rdAt; (have hb5' : Ext w4 w5 := (by first | with_reducible exact hb5 | with_reducible exact ((Ext.refl w4).al _).tr hb5)); have hE5 : Ext V w5 := hE4.tr hb5'; (try have hYb : Br w5 w4.heap.size (.int .i64 0) (.bool false) (.int .i64 0) (.slice none 0 0) := (by with_reducible exact (Br.new w4 (.int .i64 0) (.bool false) (.int .i64 0) (.slice none 0 0)).ext hb5)); (try (with_reducible replace hYa := hYa.ext hb5)); (try have hla := hYa.lt); (try have hlb := hYb.lt))
          | (go_at_call 33; (with_reducible refine (c3 A5 c5 _ ?hr3).mono ?_); (case hr3 => first | with_reducible exact hr5 | with_reducible exact hr5.ext ((Ext.refl w5).al _)); rintro e w6 ⟨u, rfl, ⟨v, rfl, ho6⟩, hb6⟩; obtain ⟨A6, c6, rfl, hr6⟩ := ho6.rd; (have hb6' : Ext w5 w6 := (by first | with_reducible exact hb6 | with_reducible exact ((Ext.refl w5).al _).tr hb6)); have hE6 : Ext V w6 := hE5.tr hb6'; (try have hYc : Br w6 w5.heap.size (.int .i64 0) (.bool false) (.int .i64 0) (.slice none 0 0) := (by with_reducible exact (Br.new w5 (.int .i64 0) (.bool false) (.int .i64 0) (.slice none 0 0)).ext hb6)); (try (with_reducible replace hYa := hYa.ext hb6)); (try (with_reducible replace hYb := hYb.ext hb6)); (try obtain ⟨y0, y1, y2, y3, yf⟩ := hYa.facts); (try obtain ⟨y0, y1, y2, y3, yf⟩ := hYb.facts); (try obtain ⟨y0, y1, y2, y3, yf⟩ := hYc.facts); have hE7a := hE6.al (.cells #[.int .i64 Q.kind, .bool Q.neg, .int .i64 Q.exp, .slice A6 (cn Q.mag).length c6] 40); have hE7b := hE6.put (g := V.heap.size) (Nat.le_refl _) (.int .i64 Q.kind) (.bool Q.neg) (.int .i64 Q.exp) (.slice A6 (cn Q.mag).length c6); have hE7c := hE6.put (g := w4.heap.size) hE4.size (.int .i64 Q.kind) (.bool Q.neg) (.int .i64 Q.exp) (.slice A6 (cn Q.mag).length c6); have hE7d := hE6.put (g := w5.heap.size) hE5.size (.int .i64 Q.kind) (.bool Q.neg) (.int .i64 Q.exp) (.slice A6 (cn Q.mag).length c6))
          | fail)
      · have hlz3 := hZV.lt
        have hs4 := hE4.size
        have hs5 := hE5.size
        have hs6 := hE6.size
        have hs54 := hb5'.size
        have hgz : w.heap.size + 1 + 1 < w6.heap.size := by omega
        have hU := Br.new w6 (.int .i64 Q.kind) (.bool Q.neg) (.int .i64 Q.exp) (.slice A6 (cn Q.mag).length c6)
        have hEU0 := hE7a
        have hoU := (ho6.ext ((Ext.refl w6).al (.cells #[.int .i64 Q.kind, .bool Q.neg, .int .i64 Q.exp, .slice A6 (cn Q.mag).length c6] 40))).low (b := w.heap.size + 1 + 1 + 1) (by omega)
        have hoN := (ho6.ext (((Ext.refl w6).al (.cells #[.int .i64 Q.kind, .bool Q.neg, .int .i64 Q.exp, .slice A6 (cn Q.mag).length c6] 40)).set (g := w6.heap.size) (Nat.le_refl _) 1 (.bool an))).low (b := w.heap.size + 1 + 1 + 1) (by omega)
        generalize (w6.alloc (.cells #[.int .i64 Q.kind, .bool Q.neg, .int .i64 Q.exp, .slice A6 (cn Q.mag).length c6] 40)) = U at hU hEU0 hoU hoN ⊢
        have hXU := hXV.ext hEU0
        have hZU := hZV.ext hEU0
        have hEU := hEV.tr hEU0
        generalize w6.heap.size = g at hU hgz hoN ⊢
        have hgne : ¬ (g = w.heap.size + 1 + 1) := by omega
        have hgnx : ¬ (g = w.heap.size + 1) := by omega
        clear hXV hZV hEV hFV hS hrV hrV4 hE4 hE5 hE6 hEU0 ho6 hr3 hr4 hr5 hr6 hb6 hb5 hb4 hs4 hs5 hs6 hs54 hlz3 hb5' hb6' hE7a hE7b hE7c hE7d ho4 ho5
        obtain ⟨x0, x1, x2, x3, -⟩ := hXU.facts
        obtain ⟨u0, u1, u2, u3, uf⟩ := hU.facts
        rcases HQ.out with ⟨e5, rfl⟩ | ⟨e5, rfl⟩
        · have hU1 := hU.s1 (.bool an)
          obtain ⟨v0, v1, v2, v3, vf⟩ := hU1.facts
          have hZ1 := hZU.far (p := ⟨g, 1, none⟩) (show w.heap.size + 1 + 1 ≠ g by omega) (.bool an)
          have hE1 := hEU.set (g := g) (by omega) 1 (.bool an)
          obtain ⟨r0, r1, r2, r3, rf⟩ := hZ1.facts
          have hZ9 := Lib.hid (hZ1.put (.int .i64 Q.kind) (.bool an) (.int .i64 Q.exp) (.slice A6 (cn Q.mag).length c6))
          have hE9 := Lib.hid (hE1.put (g := w.heap.size + 1 + 1) (by omega) (.int .i64 Q.kind) (.bool an) (.int .i64 Q.exp) (.slice A6 (cn Q.mag).length c6))
          have ho9 := Lib.hid ((hoN.putBelow (g := w.heap.size + 1 + 1) (by omega) (.int .i64 Q.kind) (.bool an) (.int .i64 Q.exp) (.slice A6 (cn Q.mag).length c6)).low (b := w.heap.size) (by omega))
          go_wp2
          obtain ⟨s0, s1, s2, s3, -⟩ := hZ9.out.facts
          refine bodyPost_ret (v := flV Q.kind an Q.exp (.slice A6 (cn Q.mag).length c6)) (by simp [results, Tryz.results24, go_sem, s0, s1, s2, s3]) rfl ?_
          exact ⟨_, rfl, ⟨_, rfl, ho9.out⟩, hE9.out⟩
        · obtain ⟨r0, r1, r2, r3, rf⟩ := hZU.facts
          have hZ9 := Lib.hid (hZU.put (.int .i64 N.kind) (.bool N.neg) (.int .i64 N.exp) (.slice A6 (cn N.mag).length c6))
          have hE9 := Lib.hid (hEU.put (g := w.heap.size + 1 + 1) (by omega) (.int .i64 N.kind) (.bool N.neg) (.int .i64 N.exp) (.slice A6 (cn N.mag).length c6))
          have ho9 := Lib.hid ((hoU.putBelow (g := w.heap.size + 1 + 1) (by omega) (.int .i64 N.kind) (.bool N.neg) (.int .i64 N.exp) (.slice A6 (cn N.mag).length c6)).low (b := w.heap.size) (by omega))
          go_wp2
          obtain ⟨s0, s1, s2, s3, -⟩ := hZ9.out.facts
          refine bodyPost_ret (v := flV N.kind N.neg N.exp (.slice A6 (cn N.mag).length c6)) (by simp [results, Tryz.results24, go_sem, s0, s1, s2, s3]) rfl ?_
          exact ⟨_, rfl, ⟨_, rfl, ho9.out⟩, hE9.out⟩
      · have hlz3 := hZV.lt
        have hs4 := hE4.size
        have hs5 := hE5.size
        have hs6 := hE6.size
        have hs54 := hb5'.size
        have hgz : w.heap.size + 1 + 1 < w5.heap.size := by omega
        have ho6 := ho6.low (b := w5.heap.size + 1) (by simp)
        have hU := hYc.put (.int .i64 Q.kind) (.bool Q.neg) (.int .i64 Q.exp) (.slice A6 (cn Q.mag).length c6)
        have hEU0 := hE7d
        have hoP := ho6.putBelow (g := w5.heap.size) (Nat.lt_succ_self _) (.int .i64 Q.kind) (.bool Q.neg) (.int .i64 Q.exp) (.slice A6 (cn Q.mag).length c6)
        have hoN := (hoP.setBelow (a := ⟨w5.heap.size, 1, none⟩) (Nat.lt_succ_self _) (.bool an)).low (b := w.heap.size + 1 + 1 + 1) (by omega)
        have hoU := hoP.low (b := w.heap.size + 1 + 1 + 1) (by omega)
        generalize ((((w6.setCell ⟨w5.heap.size, 0, none⟩ (.int .i64 Q.kind)).setCell ⟨w5.heap.size, 1, none⟩ (.bool Q.neg)).setCell ⟨w5.heap.size, 2, none⟩ (.int .i64 Q.exp)).setCell ⟨w5.heap.size, 3, none⟩ (.slice A6 (cn Q.mag).length c6)) = U at hU hEU0 hoU hoN ⊢
        have hXU := hXV.ext hEU0
        have hZU := hZV.ext hEU0
        have hEU := hEV.tr hEU0
        generalize w5.heap.size = g at hU hgz hoN ⊢
        have hgne : ¬ (g = w.heap.size + 1 + 1) := by omega
        have hgnx : ¬ (g = w.heap.size + 1) := by omega
        clear hXV hZV hEV hFV hS hrV hrV4 hE4 hE5 hE6 hEU0 ho6 hr3 hr4 hr5 hr6 hb6 hb5 hb4 hs4 hs5 hs6 hs54 hlz3 hb5' hb6' hE7a hE7b hE7c hE7d ho4 ho5
        obtain ⟨x0, x1, x2, x3, -⟩ := hXU.facts
        obtain ⟨u0, u1, u2, u3, uf⟩ := hU.facts
        rcases HQ.out with ⟨e5, rfl⟩ | ⟨e5, rfl⟩
        · have hU1 := hU.s1 (.bool an)
          obtain ⟨v0, v1, v2, v3, vf⟩ := hU1.facts
          have hZ1 := hZU.far (p := ⟨g, 1, none⟩) (show w.heap.size + 1 + 1 ≠ g by omega) (.bool an)
          have hE1 := hEU.set (g := g) (by omega) 1 (.bool an)
          obtain ⟨r0, r1, r2, r3, rf⟩ := hZ1.facts
          have hZ9 := Lib.hid (hZ1.put (.int .i64 Q.kind) (.bool an) (.int .i64 Q.exp) (.slice A6 (cn Q.mag).length c6))
          have hE9 := Lib.hid (hE1.put (g := w.heap.size + 1 + 1) (by omega) (.int .i64 Q.kind) (.bool an) (.int .i64 Q.exp) (.slice A6 (cn Q.mag).length c6))
          have ho9 := Lib.hid ((hoN.putBelow (g := w.heap.size + 1 + 1) (by omega) (.int .i64 Q.kind) (.bool an) (.int .i64 Q.exp) (.slice A6 (cn Q.mag).length c6)).low (b := w.heap.size) (by omega))
          go_wp2
          obtain ⟨s0, s1, s2, s3, -⟩ := hZ9.out.facts
          refine bodyPost_ret (v := flV Q.kind an Q.exp (.slice A6 (cn Q.mag).length c6)) (by simp [results, Tryz.results24, go_sem, s0, s1, s2, s3]) rfl ?_
          exact ⟨_, rfl, ⟨_, rfl, ho9.out⟩, hE9.out⟩
        · obtain ⟨r0, r1, r2, r3, rf⟩ := hZU.facts
          have hZ9 := Lib.hid (hZU.put (.int .i64 N.kind) (.bool N.neg) (.int .i64 N.exp) (.slice A6 (cn N.mag).length c6))
          have hE9 := Lib.hid (hEU.put (g := w.heap.size + 1 + 1) (by omega) (.int .i64 N.kind) (.bool N.neg) (.int .i64 N.exp) (.slice A6 (cn N.mag).length c6))
          have ho9 := Lib.hid ((hoU.putBelow (g := w.heap.size + 1 + 1) (by omega) (.int .i64 N.kind) (.bool N.neg) (.int .i64 N.exp) (.slice A6 (cn N.mag).length c6)).low (b := w.heap.size) (by omega))
          go_wp2
          obtain ⟨s0, s1, s2, s3, -⟩ := hZ9.out.facts
          refine bodyPost_ret (v := flV N.kind N.neg N.exp (.slice A6 (cn N.mag).length c6)) (by simp [results, Tryz.results24, go_sem, s0, s1, s2, s3]) rfl ?_
          exact ⟨_, rfl, ⟨_, rfl, ho9.out⟩, hE9.out⟩
      · have hlz3 := hZV.lt
        have hs4 := hE4.size
        have hs5 := hE5.size
        have hs6 := hE6.size
        have hs54 := hb5'.size
        have hgz : w.heap.size + 1 + 1 < w4.heap.size := by omega
        have hU := hYb.put (.int .i64 Q.kind) (.bool Q.neg) (.int .i64 Q.exp) (.slice A6 (cn Q.mag).length c6)
        have hEU0 := hE7c
        have hoP := ho6.putBelow (g := w4.heap.size) hlb (.int .i64 Q.kind) (.bool Q.neg) (.int .i64 Q.exp) (.slice A6 (cn Q.mag).length c6)
        have hoN := (hoP.setBelow (a := ⟨w4.heap.size, 1, none⟩) hlb (.bool an)).low (b := w.heap.size + 1 + 1 + 1) (by omega)
        have hoU := hoP.low (b := w.heap.size + 1 + 1 + 1) (by omega)
        generalize ((((w6.setCell ⟨w4.heap.size, 0, none⟩ (.int .i64 Q.kind)).setCell ⟨w4.heap.size, 1, none⟩ (.bool Q.neg)).setCell ⟨w4.heap.size, 2, none⟩ (.int .i64 Q.exp)).setCell ⟨w4.heap.size, 3, none⟩ (.slice A6 (cn Q.mag).length c6)) = U at hU hEU0 hoU hoN ⊢
        have hXU := hXV.ext hEU0
        have hZU := hZV.ext hEU0
        have hEU := hEV.tr hEU0
        generalize w4.heap.size = g at hU hgz hoN ⊢
        have hgne : ¬ (g = w.heap.size + 1 + 1) := by omega
        have hgnx : ¬ (g = w.heap.size + 1) := by omega
        clear hXV hZV hEV hFV hS hrV hrV4 hE4 hE5 hE6 hEU0 ho6 hr3 hr4 hr5 hr6 hb6 hb5 hb4 hs4 hs5 hs6 hs54 hlz3 hb5' hb6' hE7a hE7b hE7c hE7d ho4 ho5
        obtain ⟨x0, x1, x2, x3, -⟩ := hXU.facts
        obtain ⟨u0, u1, u2, u3, uf⟩ := hU.facts
        rcases HQ.out with ⟨e5, rfl⟩ | ⟨e5, rfl⟩
        · have hU1 := hU.s1 (.bool an)
          obtain ⟨v0, v1, v2, v3, vf⟩ := hU1.facts
          have hZ1 := hZU.far (p := ⟨g, 1, none⟩) (show w.heap.size + 1 + 1 ≠ g by omega) (.bool an)
          have hE1 := hEU.set (g := g) (by omega) 1 (.bool an)
          obtain ⟨r0, r1, r2, r3, rf⟩ := hZ1.facts
          have hZ9 := Lib.hid (hZ1.put (.int .i64 Q.kind) (.bool an) (.int .i64 Q.exp) (.slice A6 (cn Q.mag).length c6))
          have hE9 := Lib.hid (hE1.put (g := w.heap.size + 1 + 1) (by omega) (.int .i64 Q.kind) (.bool an) (.int .i64 Q.exp) (.slice A6 (cn Q.mag).length c6))
          have ho9 := Lib.hid ((hoN.putBelow (g := w.heap.size + 1 + 1) (by omega) (.int .i64 Q.kind) (.bool an) (.int .i64 Q.exp) (.slice A6 (cn Q.mag).length c6)).low (b := w.heap.size) (by omega))
          go_wp2
          obtain ⟨s0, s1, s2, s3, -⟩ := hZ9.out.facts
          refine bodyPost_ret (v := flV Q.kind an Q.exp (.slice A6 (cn Q.mag).length c6)) (by simp [results, Tryz.results24, go_sem, s0, s1, s2, s3]) rfl ?_
          exact ⟨_, rfl, ⟨_, rfl, ho9.out⟩, hE9.out⟩
        · obtain ⟨r0, r1, r2, r3, rf⟩ := hZU.facts
          have hZ9 := Lib.hid (hZU.put (.int .i64 N.kind) (.bool N.neg) (.int .i64 N.exp) (.slice A6 (cn N.mag).length c6))
          have hE9 := Lib.hid (hEU.put (g := w.heap.size + 1 + 1) (by omega) (.int .i64 N.kind) (.bool N.neg) (.int .i64 N.exp) (.slice A6 (cn N.mag).length c6))
          have ho9 := Lib.hid ((hoU.putBelow (g := w.heap.size + 1 + 1) (by omega) (.int .i64 N.kind) (.bool N.neg) (.int .i64 N.exp) (.slice A6 (cn N.mag).length c6)).low (b := w.heap.size) (by omega))
          go_wp2
          obtain ⟨s0, s1, s2, s3, -⟩ := hZ9.out.facts
          refine bodyPost_ret (v := flV N.kind N.neg N.exp (.slice A6 (cn N.mag).length c6)) (by simp [results, Tryz.results24, go_sem, s0, s1, s2, s3]) rfl ?_
          exact ⟨_, rfl, ⟨_, rfl, ho9.out⟩, hE9.out⟩
      · have hlz3 := hZV.lt
        have hs4 := hE4.size
        have hs5 := hE5.size
        have hs6 := hE6.size
        have hs54 := hb5'.size
        have hgz : w.heap.size + 1 + 1 < V.heap.size := by omega
        have hU := hYa.put (.int .i64 Q.kind) (.bool Q.neg) (.int .i64 Q.exp) (.slice A6 (cn Q.mag).length c6)
        have hEU0 := hE7b
        have hoP := ho6.putBelow (g := V.heap.size) hla (.int .i64 Q.kind) (.bool Q.neg) (.int .i64 Q.exp) (.slice A6 (cn Q.mag).length c6)
        have hoN := (hoP.setBelow (a := ⟨V.heap.size, 1, none⟩) hla (.bool an)).low (b := w.heap.size + 1 + 1 + 1) (by omega)
        have hoU := hoP.low (b := w.heap.size + 1 + 1 + 1) (by omega)
        generalize ((((w6.setCell ⟨V.heap.size, 0, none⟩ (.int .i64 Q.kind)).setCell ⟨V.heap.size, 1, none⟩ (.bool Q.neg)).setCell ⟨V.heap.size, 2, none⟩ (.int .i64 Q.exp)).setCell ⟨V.heap.size, 3, none⟩ (.slice A6 (cn Q.mag).length c6)) = U at hU hEU0 hoU hoN ⊢
        have hXU := hXV.ext hEU0
        have hZU := hZV.ext hEU0
        have hEU := hEV.tr hEU0
        generalize V.heap.size = g at hU hgz hoN ⊢
        have hgne : ¬ (g = w.heap.size + 1 + 1) := by omega
        have hgnx : ¬ (g = w.heap.size + 1) := by omega
        clear hXV hZV hEV hFV hS hrV hrV4 hE4 hE5 hE6 hEU0 ho6 hr3 hr4 hr5 hr6 hb6 hb5 hb4 hs4 hs5 hs6 hs54 hlz3 hb5' hb6' hE7a hE7b hE7c hE7d ho4 ho5
        obtain ⟨x0, x1, x2, x3, -⟩ := hXU.facts
        obtain ⟨u0, u1, u2, u3, uf⟩ := hU.facts
        rcases HQ.out with ⟨e5, rfl⟩ | ⟨e5, rfl⟩
        · have hU1 := hU.s1 (.bool an)
          obtain ⟨v0, v1, v2, v3, vf⟩ := hU1.facts
          have hZ1 := hZU.far (p := ⟨g, 1, none⟩) (show w.heap.size + 1 + 1 ≠ g by omega) (.bool an)
          have hE1 := hEU.set (g := g) (by omega) 1 (.bool an)
          obtain ⟨r0, r1, r2, r3, rf⟩ := hZ1.facts
          have hZ9 := Lib.hid (hZ1.put (.int .i64 Q.kind) (.bool an) (.int .i64 Q.exp) (.slice A6 (cn Q.mag).length c6))
          have hE9 := Lib.hid (hE1.put (g := w.heap.size + 1 + 1) (by omega) (.int .i64 Q.kind) (.bool an) (.int .i64 Q.exp) (.slice A6 (cn Q.mag).length c6))
          have ho9 := Lib.hid ((hoN.putBelow (g := w.heap.size + 1 + 1) (by omega) (.int .i64 Q.kind) (.bool an) (.int .i64 Q.exp) (.slice A6 (cn Q.mag).length c6)).low (b := w.heap.size) (by omega))
          go_wp2
          obtain ⟨s0, s1, s2, s3, -⟩ := hZ9.out.facts
          refine bodyPost_ret (v := flV Q.kind an Q.exp (.slice A6 (cn Q.mag).length c6)) (by simp [results, Tryz.results24, go_sem, s0, s1, s2, s3]) rfl ?_
          exact ⟨_, rfl, ⟨_, rfl, ho9.out⟩, hE9.out⟩
        · obtain ⟨r0, r1, r2, r3, rf⟩ := hZU.facts
          have hZ9 := Lib.hid (hZU.put (.int .i64 N.kind) (.bool N.neg) (.int .i64 N.exp) (.slice A6 (cn N.mag).length c6))
          have hE9 := Lib.hid (hEU.put (g := w.heap.size + 1 + 1) (by omega) (.int .i64 N.kind) (.bool N.neg) (.int .i64 N.exp) (.slice A6 (cn N.mag).length c6))
          have ho9 := Lib.hid ((hoU.putBelow (g := w.heap.size + 1 + 1) (by omega) (.int .i64 N.kind) (.bool N.neg) (.int .i64 N.exp) (.slice A6 (cn N.mag).length c6)).low (b := w.heap.size) (by omega))
          go_wp2
          obtain ⟨s0, s1, s2, s3, -⟩ := hZ9.out.facts
          refine bodyPost_ret (v := flV N.kind N.neg N.exp (.slice A6 (cn N.mag).length c6)) (by simp [results, Tryz.results24, go_sem, s0, s1, s2, s3]) rfl ?_
          exact ⟨_, rfl, ⟨_, rfl, ho9.out⟩, hE9.out⟩
  · simp only [if_true] at c0 c2
    clear c9
    generalize decide ((1 : Int) < 0) = sb at *
    generalize cn (1 : Int).natAbs = S at *
    rcases e2 with e2 | ⟨e2, e3⟩
    · go_enter Tryz.func24, Tryz.ntmps24
      go_wp2_with fail
      have hF := HF.out
      have hX := HX.out
      have hZ := HZ.out
      have hE := HE.out
      clear HF HX HZ HE
      generalize (((w.alloc (.cells #[.int .i64 k, .int .i64 p] 51)).alloc (.cells #[.int .i64 ak, .bool an, .int .i64 ae, .slice aA axs.length ac] 40)).alloc (.cells #[.int .i64 0, .bool false, .int .i64 0, .slice none 0 0] 40)) = W at *
      refine (c0 _).mono ?_
      rintro z w3 ⟨A3, c3', rfl, ho3, hb3⟩
      have hr3 := ho3.rdAt.2
      have hS := Bi.new w3 (.bool sb) (.slice A3 S.length c3')
      have hA3 := (Ext.refl w3).al (.cells #[.bool sb, .slice A3 S.length c3'] 56)
      have hlz := (hZ.ext hb3).lt
      have hlx := (hX.ext hb3).lt
      have hlf := (hF.ext hb3).lt
      have hFV := (hF.ext hb3).ext hA3
      have hXV := (hX.ext hb3).ext hA3
      have hZV := (hZ.ext hb3).ext hA3
      have hEV := (hE.tr hb3).tr hA3
      have hrV := hr3.ext hA3
      go_wp2_with fail
      generalize w3.alloc (.cells #[.bool sb, .slice A3 S.length c3'] 56) = V at *
      obtain ⟨f0, f1⟩ := hFV.facts
      obtain ⟨x0, x1, x2, x3, -⟩ := hXV.facts
      obtain ⟨s0, s1, -⟩ := hS.facts
      have hA0 := (Ext.refl V).al (.cells #[.int .i64 0, .bool false, .int .i64 0, .slice none 0 0] 40)
      have hY0' : Br (V.drew.alloc (.cells #[.int .i64 0, .bool false, .int .i64 0, .slice none 0 0] 40)) V.heap.size (.int .i64 0) (.bool false) (.int .i64 0) (.slice none 0 0) := Br.new V.drew (.int .i64 0) (.bool false) (.int .i64 0) (.slice none 0 0)
      have hY0 := Br.new V (.int .i64 0) (.bool false) (.int .i64 0) (.slice none 0 0)
      go_region_held3 (fun w' => w'.cell? ⟨w.heap.size, 0, none⟩ = some (.int .i64 k) ∧ w'.cell? ⟨w.heap.size, 1, none⟩ = some (.int .i64 p) ∧ w'.cell? ⟨w.heap.size + 1, 0, none⟩ = some (.int .i64 ak) ∧ w'.cell? ⟨w.heap.size + 1, 1, none⟩ = some (.bool an) ∧ w'.cell? ⟨w.heap.size + 1, 2, none⟩ = some (.int .i64 ae) ∧ w'.cell? ⟨w.heap.size + 1, 3, none⟩ = some (.slice aA axs.length ac) ∧ w'.cell? ⟨w3.heap.size, 0, none⟩ = some (.bool sb) ∧ w'.cell? ⟨w3.heap.size, 1, none⟩ = some (.slice A3 S.length c3'))
        (first | (go_split_ands; (repeat' apply And.intro) <;> first | (with_reducible assumption) | (refine Ext.cell (w := V) ?_ ?_ <;> (with_reducible assumption))) | go_keep)
        (first
          | (go_at_call 32; (with_reducible refine (c1 _ ?hr).mono ?_); (case hr => first | with_reducible exact ha.ext hEV.drew | with_reducible exact ha.ext (hEV.tr hA0).drew | with_reducible exact ha.ext (hEV.drew.al _)); rintro e w4 ⟨A4, c4, rfl, ho4, hb4⟩; obtain ⟨-, hr4⟩ := ho4.rdAt; (have hE4 : Ext V w4 := (by first | with_reducible exact (Ext.refl V).drew.tr hb4 | with_reducible exact hA0.drew.tr hb4 | with_reducible exact ((Ext.refl V).drew.al _).tr hb4)); (have hrV4 := hrV.ext hE4); (try have hYa : Br w4 V.heap.size (.int .i64 0) (.bool false) (.int .i64 0) (.slice none 0 0) := (by first | with_reducible exact hY0.drew.ext hb4 | with_reducible exact hY0'.ext hb4)))
          | (go_at_call 35; (with_reducible refine (c2 A4 A3 c4 c3' _ ?hr1 ?hr2).mono ?_); (case hr1 => first | with_reducible exact hr4 | with_reducible exact hr4.ext ((Ext.refl w4).al _)); (case hr2 => first | with_reducible exact hrV4 | with_reducible exact hrV4.ext ((Ext.refl w4).al _)); rintro e w5 ⟨A5, c5, rfl, ho5, hb5⟩; obtain ⟨-, hr5⟩ := ho5.rdAt; (have hb5' : Ext w4 w5 := (by first | with_reducible exact hb5 | with_reducible exact ((Ext.refl w4).al _).tr hb5)); have hE5 : Ext V w5 := hE4.tr hb5'; (try have hYb : Br w5 w4.heap.size (.int .i64 0) (.bool false) (.int .i64 0) (.slice none 0 0) := (by with_reducible exact (Br.new w4 (.int .i64 0) (.bool false) (.int .i64 0) (.slice none 0 0)).ext hb5)); (try (with_reducible replace hYa := hYa.ext hb5)); (try have hla := hYa.lt); (try have hlb := hYb.lt))
          | (go_at_call 33; (with_reducible refine (c3 A5 c5 _ ?hr3).mono ?_); (case hr3 => first | with_reducible exact hr5 | with_reducible exact hr5.ext ((Ext.refl w5).al _)); rintro e w6 ⟨u, rfl, ⟨v, rfl, ho6⟩, hb6⟩; obtain ⟨A6, c6, rfl, hr6⟩ := ho6.rd; (have hb6' : Ext w5 w6 := (by first | with_reducible exact hb6 | with_reducible exact ((Ext.refl w5).al _).tr hb6)); have hE6 : Ext V w6 := hE5.tr hb6'; (try have hYc : Br w6 w5.heap.size (.int .i64 0) (.bool false) (.int .i64 0) (.slice none 0 0) := (by with_reducible exact (Br.new w5 (.int .i64 0) (.bool false) (.int .i64 0) (.slice none 0 0)).ext hb6)); (try (with_reducible replace hYa := hYa.ext hb6)); (try (with_reducible replace hYb := hYb.ext hb6)); (try obtain ⟨y0, y1, y2, y3, yf⟩ := hYa.facts); (try obtain ⟨y0, y1, y2, y3, yf⟩ := hYb.facts); (try obtain ⟨y0, y1, y2, y3, yf⟩ := hYc.facts); have hE7a := hE6.al (.cells #[.int .i64 Q.kind, .bool Q.neg, .int .i64 Q.exp, .slice A6 (cn Q.mag).length c6] 40); have hE7b := hE6.put (g := V.heap.size) (Nat.le_refl _) (.int .i64 Q.kind) (.bool Q.neg) (.int .i64 Q.exp) (.slice A6 (cn Q.mag).length c6); have hE7c := hE6.put (g := w4.heap.size) hE4.size (.int .i64 Q.kind) (.bool Q.neg) (.int .i64 Q.exp) (.slice A6 (cn Q.mag).length c6); have hE7d := hE6.put (g := w5.heap.size) hE5.size (.int .i64 Q.kind) (.bool Q.neg) (.int .i64 Q.exp) (.slice A6 (cn Q.mag).length c6))
          | fail)
      · have hlz3 := hZV.lt
        have hs4 := hE4.size
        have hs5 := hE5.size
        have hs6 := hE6.size
        have hs54 := hb5'.size
        have hgz : w.heap.size + 1 + 1 < w6.heap.size := by omega
        have hU := Br.new w6 (.int .i64 Q.kind) (.bool Q.neg) (.int .i64 Q.exp) (.slice A6 (cn Q.mag).length c6)
        have hEU0 := hE7a
        have hoU := (ho6.ext ((Ext.refl w6).al (.cells #[.int .i64 Q.kind, .bool Q.neg, .int .i64 Q.exp, .slice A6 (cn Q.mag).length c6] 40))).low (b := w.heap.size + 1 + 1 + 1) (by omega)
        have hoN := (ho6.ext (((Ext.refl w6).al (.cells #[.int .i64 Q.kind, .bool Q.neg, .int .i64 Q.exp, .slice A6 (cn Q.mag).length c6] 40)).set (g := w6.heap.size) (Nat.le_refl _) 1 (.bool an))).low (b := w.heap.size + 1 + 1 + 1) (by omega)
        generalize (w6.alloc (.cells #[.int .i64 Q.kind, .bool Q.neg, .int .i64 Q.exp, .slice A6 (cn Q.mag).length c6] 40)) = U at hU hEU0 hoU hoN ⊢
        have hXU := hXV.ext hEU0
        have hZU := hZV.ext hEU0
        have hEU := hEV.tr hEU0
        generalize w6.heap.size = g at hU hgz hoN ⊢
        have hgne : ¬ (g = w.heap.size + 1 + 1) := by omega
        have hgnx : ¬ (g = w.heap.size + 1) := by omega
        clear hXV hZV hEV hFV hS hrV hrV4 hE4 hE5 hE6 hEU0 ho6 hr3 hr4 hr5 hr6 hb6 hb5 hb4 hs4 hs5 hs6 hs54 hlz3 hb5' hb6' hE7a hE7b hE7c hE7d ho4 ho5
        obtain ⟨x0, x1, x2, x3, -⟩ := hXU.facts
        obtain ⟨u0, u1, u2, u3, uf⟩ := hU.facts
        rcases HQ.out with ⟨e5, rfl⟩ | ⟨e5, rfl⟩
        · have hU1 := hU.s1 (.bool an)
          obtain ⟨v0, v1, v2, v3, vf⟩ := hU1.facts
          have hZ1 := hZU.far (p := ⟨g, 1, none⟩) (show w.heap.size + 1 + 1 ≠ g by omega) (.bool an)
          have hE1 := hEU.set (g := g) (by omega) 1 (.bool an)
          obtain ⟨r0, r1, r2, r3, rf⟩ := hZ1.facts
          have hZ9 := Lib.hid (hZ1.put (.int .i64 Q.kind) (.bool an) (.int .i64 Q.exp) (.slice A6 (cn Q.mag).length c6))
          have hE9 := Lib.hid (hE1.put (g := w.heap.size + 1 + 1) (by omega) (.int .i64 Q.kind) (.bool an) (.int .i64 Q.exp) (.slice A6 (cn Q.mag).length c6))
          have ho9 := Lib.hid ((hoN.putBelow (g := w.heap.size + 1 + 1) (by omega) (.int .i64 Q.kind) (.bool an) (.int .i64 Q.exp) (.slice A6 (cn Q.mag).length c6)).low (b := w.heap.size) (by omega))
          go_wp2
          obtain ⟨s0, s1, s2, s3, -⟩ := hZ9.out.facts
          refine bodyPost_ret (v := flV Q.kind an Q.exp (.slice A6 (cn Q.mag).length c6)) (by simp [results, Tryz.results24, go_sem, s0, s1, s2, s3]) rfl ?_
          exact ⟨_, rfl, ⟨_, rfl, ho9.out⟩, hE9.out⟩
        · obtain ⟨r0, r1, r2, r3, rf⟩ := hZU.facts
          have hZ9 := Lib.hid (hZU.put (.int .i64 N.kind) (.bool N.neg) (.int .i64 N.exp) (.slice A6 (cn N.mag).length c6))
          have hE9 := Lib.hid (hEU.put (g := w.heap.size + 1 + 1) (by omega) (.int .i64 N.kind) (.bool N.neg) (.int .i64 N.exp) (.slice A6 (cn N.mag).length c6))
          have ho9 := Lib.hid ((hoU.putBelow (g := w.heap.size + 1 + 1) (by omega) (.int .i64 N.kind) (.bool N.neg) (.int .i64 N.exp) (.slice A6 (cn N.mag).length c6)).low (b := w.heap.size) (by omega))
          go_wp2
          obtain ⟨s0, s1, s2, s3, -⟩ := hZ9.out.facts
          refine bodyPost_ret (v := flV N.kind N.neg N.exp (.slice A6 (cn N.mag).length c6)) (by simp [results, Tryz.results24, go_sem, s0, s1, s2, s3]) rfl ?_
          exact ⟨_, rfl, ⟨_, rfl, ho9.out⟩, hE9.out⟩
      · have hlz3 := hZV.lt
        have hs4 := hE4.size
        have hs5 := hE5.size
        have hs6 := hE6.size
        have hs54 := hb5'.size
        have hgz : w.heap.size + 1 + 1 < w5.heap.size := by omega
        have ho6 := ho6.low (b := w5.heap.size + 1) (by simp)
        have hU := hYc.put (.int .i64 Q.kind) (.bool Q.neg) (.int .i64 Q.exp) (.slice A6 (cn Q.mag).length c6)
        have hEU0 := hE7d
        have hoP := ho6.putBelow (g := w5.heap.size) (Nat.lt_succ_self _) (.int .i64 Q.kind) (.bool Q.neg) (.int .i64 Q.exp) (.slice A6 (cn Q.mag).length c6)
        have hoN := (hoP.setBelow (a := ⟨w5.heap.size, 1, none⟩) (Nat.lt_succ_self _) (.bool an)).low (b := w.heap.size + 1 + 1 + 1) (by omega)
        have hoU := hoP.low (b := w.heap.size + 1 + 1 + 1) (by omega)
        generalize ((((w6.setCell ⟨w5.heap.size, 0, none⟩ (.int .i64 Q.kind)).setCell ⟨w5.heap.size, 1, none⟩ (.bool Q.neg)).setCell ⟨w5.heap.size, 2, none⟩ (.int .i64 Q.exp)).setCell ⟨w5.heap.size, 3, none⟩ (.slice A6 (cn Q.mag).length c6)) = U at hU hEU0 hoU hoN ⊢
        have hXU := hXV.ext hEU0
        have hZU := hZV.ext hEU0
        have hEU := hEV.tr hEU0
        generalize w5.heap.size = g at hU hgz hoN ⊢
        have hgne : ¬ (g = w.heap.size + 1 + 1) := by omega
        have hgnx : ¬ (g = w.heap.size + 1) := by omega
        clear hXV hZV hEV hFV hS hrV hrV4 hE4 hE5 hE6 hEU0 ho6 hr3 hr4 hr5 hr6 hb6 hb5 hb4 hs4 hs5 hs6 hs54 hlz3 hb5' hb6' hE7a hE7b hE7c hE7d ho4 ho5
        obtain ⟨x0, x1, x2, x3, -⟩ := hXU.facts
        obtain ⟨u0, u1, u2, u3, uf⟩ := hU.facts
        rcases HQ.out with ⟨e5, rfl⟩ | ⟨e5, rfl⟩
        · have hU1 := hU.s1 (.bool an)
          obtain ⟨v0, v1, v2, v3, vf⟩ := hU1.facts
          have hZ1 := hZU.far (p := ⟨g, 1, none⟩) (show w.heap.size + 1 + 1 ≠ g by omega) (.bool an)
          have hE1 := hEU.set (g := g) (by omega) 1 (.bool an)
          obtain ⟨r0, r1, r2, r3, rf⟩ := hZ1.facts
          have hZ9 := Lib.hid (hZ1.put (.int .i64 Q.kind) (.bool an) (.int .i64 Q.exp) (.slice A6 (cn Q.mag).length c6))
          have hE9 := Lib.hid (hE1.put (g := w.heap.size + 1 + 1) (by omega) (.int .i64 Q.kind) (.bool an) (.int .i64 Q.exp) (.slice A6 (cn Q.mag).length c6))
          have ho9 := Lib.hid ((hoN.putBelow (g := w.heap.size + 1 + 1) (by omega) (.int .i64 Q.kind) (.bool an) (.int .i64 Q.exp) (.slice A6 (cn Q.mag).length c6)).low (b := w.heap.size) (by omega))
          go_wp2
          obtain ⟨s0, s1, s2, s3, -⟩ := hZ9.out.facts
          refine bodyPost_ret (v := flV Q.kind an Q.exp (.slice A6 (cn Q.mag).length c6)) (by simp [results, Tryz.results24, go_sem, s0, s1, s2, s3]) rfl ?_
          exact ⟨_, rfl, ⟨_, rfl, ho9.out⟩, hE9.out⟩
        · obtain ⟨r0, r1, r2, r3, rf⟩ := hZU.facts
          have hZ9 := Lib.hid (hZU.put (.int .i64 N.kind) (.bool N.neg) (.int .i64 N.exp) (.slice A6 (cn N.mag).length c6))
          have hE9 := Lib.hid (hEU.put (g := w.heap.size + 1 + 1) (by omega) (.int .i64 N.kind) (.bool N.neg) (.int .i64 N.exp) (.slice A6 (cn N.mag).length c6))
          have ho9 := Lib.hid ((hoU.putBelow (g := w.heap.size + 1 + 1) (by omega) (.int .i64 N.kind) (.bool N.neg) (.int .i64 N.exp) (.slice A6 (cn N.mag).length c6)).low (b := w.heap.size) (by omega))
          go_wp2
          obtain ⟨s0, s1, s2, s3, -⟩ := hZ9.out.facts
          refine bodyPost_ret (v := flV N.kind N.neg N.exp (.slice A6 (cn N.mag).length c6)) (by simp [results, Tryz.results24, go_sem, s0, s1, s2, s3]) rfl ?_
          exact ⟨_, rfl, ⟨_, rfl, ho9.out⟩, hE9.out⟩
      · have hlz3 := hZV.lt
        have hs4 := hE4.size
        have hs5 := hE5.size
        have hs6 := hE6.size
        have hs54 := hb5'.size
        have hgz : w.heap.size + 1 + 1 < w4.heap.size := by omega
        have hU := hYb.put (.int .i64 Q.kind) (.bool Q.neg) (.int .i64 Q.exp) (.slice A6 (cn Q.mag).length c6)
        have hEU0 := hE7c
        have hoP := ho6.putBelow (g := w4.heap.size) hlb (.int .i64 Q.kind) (.bool Q.neg) (.int .i64 Q.exp) (.slice A6 (cn Q.mag).length c6)
        have hoN := (hoP.setBelow (a := ⟨w4.heap.size, 1, none⟩) hlb (.bool an)).low (b := w.heap.size + 1 + 1 + 1) (by omega)
        have hoU := hoP.low (b := w.heap.size + 1 + 1 + 1) (by omega)
        generalize ((((w6.setCell ⟨w4.heap.size, 0, none⟩ (.int .i64 Q.kind)).setCell ⟨w4.heap.size, 1, none⟩ (.bool Q.neg)).setCell ⟨w4.heap.size, 2, none⟩ (.int .i64 Q.exp)).setCell ⟨w4.heap.size, 3, none⟩ (.slice A6 (cn Q.mag).length c6)) = U at hU hEU0 hoU hoN ⊢
        have hXU := hXV.ext hEU0
        have hZU := hZV.ext hEU0
        have hEU := hEV.tr hEU0
        generalize w4.heap.size = g at hU hgz hoN ⊢
        have hgne : ¬ (g = w.heap.size + 1 + 1) := by omega
        have hgnx : ¬ (g = w.heap.size + 1) := by omega
        clear hXV hZV hEV hFV hS hrV hrV4 hE4 hE5 hE6 hEU0 ho6 hr3 hr4 hr5 hr6 hb6 hb5 hb4 hs4 hs5 hs6 hs54 hlz3 hb5' hb6' hE7a hE7b hE7c hE7d ho4 ho5
        obtain ⟨x0, x1, x2, x3, -⟩ := hXU.facts
        obtain ⟨u0, u1, u2, u3, uf⟩ := hU.facts
        rcases HQ.out with ⟨e5, rfl⟩ | ⟨e5, rfl⟩
        · have hU1 := hU.s1 (.bool an)
          obtain ⟨v0, v1, v2, v3, vf⟩ := hU1.facts
          have hZ1 := hZU.far (p := ⟨g, 1, none⟩) (show w.heap.size + 1 + 1 ≠ g by omega) (.bool an)
          have hE1 := hEU.set (g := g) (by omega) 1 (.bool an)
          obtain ⟨r0, r1, r2, r3, rf⟩ := hZ1.facts
          have hZ9 := Lib.hid (hZ1.put (.int .i64 Q.kind) (.bool an) (.int .i64 Q.exp) (.slice A6 (cn Q.mag).length c6))
          have hE9 := Lib.hid (hE1.put (g := w.heap.size + 1 + 1) (by omega) (.int .i64 Q.kind) (.bool an) (.int .i64 Q.exp) (.slice A6 (cn Q.mag).length c6))
          have ho9 := Lib.hid ((hoN.putBelow (g := w.heap.size + 1 + 1) (by omega) (.int .i64 Q.kind) (.bool an) (.int .i64 Q.exp) (.slice A6 (cn Q.mag).length c6)).low (b := w.heap.size) (by omega))
          go_wp2
          obtain ⟨s0, s1, s2, s3, -⟩ := hZ9.out.facts
          refine bodyPost_ret (v := flV Q.kind an Q.exp (.slice A6 (cn Q.mag).length c6)) (by simp [results, Tryz.results24, go_sem, s0, s1, s2, s3]) rfl ?_
          exact ⟨_, rfl, ⟨_, rfl, ho9.out⟩, hE9.out⟩
        · obtain ⟨r0, r1, r2, r3, rf⟩ := hZU.facts
          have hZ9 := Lib.hid (hZU.put (.int .i64 N.kind) (.bool N.neg) (.int .i64 N.exp) (.slice A6 (cn N.mag).length c6))
          have hE9 := Lib.hid (hEU.put (g := w.heap.size + 1 + 1) (by omega) (.int .i64 N.kind) (.bool N.neg) (.int .i64 N.exp) (.slice A6 (cn N.mag).length c6))
          have ho9 := Lib.hid ((hoU.putBelow (g := w.heap.size + 1 + 1) (by omega) (.int .i64 N.kind) (.bool N.neg) (.int .i64 N.exp) (.slice A6 (cn N.mag).length c6)).low (b := w.heap.size) (by omega))
          go_wp2
          obtain ⟨s0, s1, s2, s3, -⟩ := hZ9.out.facts
          refine bodyPost_ret (v := flV N.kind N.neg N.exp (.slice A6 (cn N.mag).length c6)) (by simp [results, Tryz.results24, go_sem, s0, s1, s2, s3]) rfl ?_
          exact ⟨_, rfl, ⟨_, rfl, ho9.out⟩, hE9.out⟩
      · have hlz3 := hZV.lt
        have hs4 := hE4.size
        have hs5 := hE5.size
        have hs6 := hE6.size
        have hs54 := hb5'.size
        have hgz : w.heap.size + 1 + 1 < V.heap.size := by omega
        have hU := hYa.put (.int .i64 Q.kind) (.bool Q.neg) (.int .i64 Q.exp) (.slice A6 (cn Q.mag).length c6)
        have hEU0 := hE7b
        have hoP := ho6.putBelow (g := V.heap.size) hla (.int .i64 Q.kind) (.bool Q.neg) (.int .i64 Q.exp) (.slice A6 (cn Q.mag).length c6)
        have hoN := (hoP.setBelow (a := ⟨V.heap.size, 1, none⟩) hla (.bool an)).low (b := w.heap.size + 1 + 1 + 1) (by omega)
        have hoU := hoP.low (b := w.heap.size + 1 + 1 + 1) (by omega)
        generalize ((((w6.setCell ⟨V.heap.size, 0, none⟩ (.int .i64 Q.kind)).setCell ⟨V.heap.size, 1, none⟩ (.bool Q.neg)).setCell ⟨V.heap.size, 2, none⟩ (.int .i64 Q.exp)).setCell ⟨V.heap.size, 3, none⟩ (.slice A6 (cn Q.mag).length c6)) = U at hU hEU0 hoU hoN ⊢
        have hXU := hXV.ext hEU0
        have hZU := hZV.ext hEU0
        have hEU := hEV.tr hEU0
        generalize V.heap.size = g at hU hgz hoN ⊢
        have hgne : ¬ (g = w.heap.size + 1 + 1) := by omega
        have hgnx : ¬ (g = w.heap.size + 1) := by omega
        clear hXV hZV hEV hFV hS hrV hrV4 hE4 hE5 hE6 hEU0 ho6 hr3 hr4 hr5 hr6 hb6 hb5 hb4 hs4 hs5 hs6 hs54 hlz3 hb5' hb6' hE7a hE7b hE7c hE7d ho4 ho5
        obtain ⟨x0, x1, x2, x3, -⟩ := hXU.facts
        obtain ⟨u0, u1, u2, u3, uf⟩ := hU.facts
        rcases HQ.out with ⟨e5, rfl⟩ | ⟨e5, rfl⟩
        · have hU1 := hU.s1 (.bool an)
          obtain ⟨v0, v1, v2, v3, vf⟩ := hU1.facts
          have hZ1 := hZU.far (p := ⟨g, 1, none⟩) (show w.heap.size + 1 + 1 ≠ g by omega) (.bool an)
          have hE1 := hEU.set (g := g) (by omega) 1 (.bool an)
          obtain ⟨r0, r1, r2, r3, rf⟩ := hZ1.facts
          have hZ9 := Lib.hid (hZ1.put (.int .i64 Q.kind) (.bool an) (.int .i64 Q.exp) (.slice A6 (cn Q.mag).length c6))
          have hE9 := Lib.hid (hE1.put (g := w.heap.size + 1 + 1) (by omega) (.int .i64 Q.kind) (.bool an) (.int .i64 Q.exp) (.slice A6 (cn Q.mag).length c6))
          have ho9 := Lib.hid ((hoN.putBelow (g := w.heap.size + 1 + 1) (by omega) (.int .i64 Q.kind) (.bool an) (.int .i64 Q.exp) (.slice A6 (cn Q.mag).length c6)).low (b := w.heap.size) (by omega))
          go_wp2
          obtain ⟨s0, s1, s2, s3, -⟩ := hZ9.out.facts
          refine bodyPost_ret (v := flV Q.kind an Q.exp (.slice A6 (cn Q.mag).length c6)) (by simp [results, Tryz.results24, go_sem, s0, s1, s2, s3]) rfl ?_
          exact ⟨_, rfl, ⟨_, rfl, ho9.out⟩, hE9.out⟩
        · obtain ⟨r0, r1, r2, r3, rf⟩ := hZU.facts
          have hZ9 := Lib.hid (hZU.put (.int .i64 N.kind) (.bool N.neg) (.int .i64 N.exp) (.slice A6 (cn N.mag).length c6))
          have hE9 := Lib.hid (hEU.put (g := w.heap.size + 1 + 1) (by omega) (.int .i64 N.kind) (.bool N.neg) (.int .i64 N.exp) (.slice A6 (cn N.mag).length c6))
          have ho9 := Lib.hid ((hoU.putBelow (g := w.heap.size + 1 + 1) (by omega) (.int .i64 N.kind) (.bool N.neg) (.int .i64 N.exp) (.slice A6 (cn N.mag).length c6)).low (b := w.heap.size) (by omega))
          go_wp2
          obtain ⟨s0, s1, s2, s3, -⟩ := hZ9.out.facts
          refine bodyPost_ret (v := flV N.kind N.neg N.exp (.slice A6 (cn N.mag).length c6)) (by simp [results, Tryz.results24, go_sem, s0, s1, s2, s3]) rfl ?_
          exact ⟨_, rfl, ⟨_, rfl, ho9.out⟩, hE9.out⟩
    · go_enter Tryz.func24, Tryz.ntmps24
      go_wp2_with fail
      have hF := HF.out
      have hX := HX.out
      have hZ := HZ.out
      have hE := HE.out
      clear HF HX HZ HE
      generalize (((w.alloc (.cells #[.int .i64 k, .int .i64 p] 51)).alloc (.cells #[.int .i64 ak, .bool an, .int .i64 ae, .slice aA axs.length ac] 40)).alloc (.cells #[.int .i64 0, .bool false, .int .i64 0, .slice none 0 0] 40)) = W at *
      refine (c0 _).mono ?_
      rintro z w3 ⟨A3, c3', rfl, ho3, hb3⟩
      have hr3 := ho3.rdAt.2
      have hS := Bi.new w3 (.bool sb) (.slice A3 S.length c3')
      have hA3 := (Ext.refl w3).al (.cells #[.bool sb, .slice A3 S.length c3'] 56)
      have hlz := (hZ.ext hb3).lt
      have hlx := (hX.ext hb3).lt
      have hlf := (hF.ext hb3).lt
      have hFV := (hF.ext hb3).ext hA3
      have hXV := (hX.ext hb3).ext hA3
      have hZV := (hZ.ext hb3).ext hA3
      have hEV := (hE.tr hb3).tr hA3
      have hrV := hr3.ext hA3
      go_wp2_with fail
      generalize w3.alloc (.cells #[.bool sb, .slice A3 S.length c3'] 56) = V at *
      obtain ⟨f0, f1⟩ := hFV.facts
      obtain ⟨x0, x1, x2, x3, -⟩ := hXV.facts
      obtain ⟨s0, s1, -⟩ := hS.facts
      have hA0 := (Ext.refl V).al (.cells #[.int .i64 0, .bool false, .int .i64 0, .slice none 0 0] 40)
      have hY0' : Br (V.drew.alloc (.cells #[.int .i64 0, .bool false, .int .i64 0, .slice none 0 0] 40)) V.heap.size (.int .i64 0) (.bool false) (.int .i64 0) (.slice none 0 0) := Br.new V.drew (.int .i64 0) (.bool false) (.int .i64 0) (.slice none 0 0)
      have hY0 := Br.new V (.int .i64 0) (.bool false) (.int .i64 0) (.slice none 0 0)
      go_region_held3 (fun w' => w'.cell? ⟨w.heap.size, 0, none⟩ = some (.int .i64 k) ∧ w'.cell? ⟨w.heap.size, 1, none⟩ = some (.int .i64 p) ∧ w'.cell? ⟨w.heap.size + 1, 0, none⟩ = some (.int .i64 ak) ∧ w'.cell? ⟨w.heap.size + 1, 1, none⟩ = some (.bool an) ∧ w'.cell? ⟨w.heap.size + 1, 2, none⟩ = some (.int .i64 ae) ∧ w'.cell? ⟨w.heap.size + 1, 3, none⟩ = some (.slice aA axs.length ac) ∧ w'.cell? ⟨w3.heap.size, 0, none⟩ = some (.bool sb) ∧ w'.cell? ⟨w3.heap.size, 1, none⟩ = some (.slice A3 S.length c3'))
        (first | (go_split_ands; (repeat' apply And.intro) <;> first | (with_reducible assumption) | (refine Ext.cell (w := V) ?_ ?_ <;> (with_reducible assumption))) | go_keep)
        (first
          | (go_at_call 32; (with_reducible refine (c1 _ ?hr).mono ?_); (case hr => first | with_reducible exact ha.ext hEV.drew | with_reducible exact ha.ext (hEV.tr hA0).drew | with_reducible exact ha.ext (hEV.drew.al _)); rintro e w4 ⟨A4, c4, rfl, ho4, hb4⟩; obtain ⟨-, hr4⟩ := ho4.rdAt; (have hE4 : Ext V w4 := (by first | with_reducible exact (Ext.refl V).drew.tr hb4 | with_reducible exact hA0.drew.tr hb4 | with_reducible exact ((Ext.refl V).drew.al _).tr hb4)); (have hrV4 := hrV.ext hE4); (try have hYa : Br w4 V.heap.size (.int .i64 0) (.bool false) (.int .i64 0) (.slice none 0 0) := (by first | with_reducible exact hY0.drew.ext hb4 | with_reducible exact hY0'.ext hb4)))
          | (go_at_call 35; (with_reducible refine (c2 A4 A3 c4 c3' _ ?hr1 ?hr2).mono ?_); (case hr1 => first | with_reducible exact hr4 | with_reducible exact hr4.ext ((Ext.refl w4).al _)); (case hr2 => first | with_reducible exact hrV4 | with_reducible exact hrV4.ext ((Ext.refl w4).al _)); rintro e w5 ⟨A5, c5, rfl, ho5, hb5⟩; obtain ⟨-, hr5⟩ := ho5.rdAt; (have hb5' : Ext w4 w5 := (by first | with_reducible exact hb5 | with_reducible exact ((Ext.refl w4).al _).tr hb5)); have hE5 : Ext V w5 := hE4.tr hb5'; (try have hYb : Br w5 w4.heap.size (.int .i64 0) (.bool false) (.int .i64 0) (.slice none 0 0) := (by with_reducible exact (Br.new w4 (.int .i64 0) (.bool false) (.int .i64 0) (.slice none 0 0)).ext hb5)); (try (with_reducible replace hYa := hYa.ext hb5)); (try have hla := hYa.lt); (try have hlb := hYb.lt))
          | (go_at_call 33; (with_reducible refine (c3 A5 c5 _ ?hr3).mono ?_); (case hr3 => first | with_reducible exact hr5 | with_reducible exact hr5.ext ((Ext.refl w5).al _)); rintro e w6 ⟨u, rfl, ⟨v, rfl, ho6⟩, hb6⟩; obtain ⟨A6, c6, rfl, hr6⟩ := ho6.rd; (have hb6' : Ext w5 w6 := (by first | with_reducible exact hb6 | with_reducible exact ((Ext.refl w5).al _).tr hb6)); have hE6 : Ext V w6 := hE5.tr hb6'; (try have hYc : Br w6 w5.heap.size (.int .i64 0) (.bool false) (.int .i64 0) (.slice none 0 0) := (by with_reducible exact (Br.new w5 (.int .i64 0) (.bool false) (.int .i64 0) (.slice none 0 0)).ext hb6)); (try (with_reducible replace hYa := hYa.ext hb6)); (try (with_reducible replace hYb := hYb.ext hb6)); (try obtain ⟨y0, y1, y2, y3, yf⟩ := hYa.facts); (try obtain ⟨y0, y1, y2, y3, yf⟩ := hYb.facts); (try obtain ⟨y0, y1, y2, y3, yf⟩ := hYc.facts); have hE7a := hE6.al (.cells #[.int .i64 Q.kind, .bool Q.neg, .int .i64 Q.exp, .slice A6 (cn Q.mag).length c6] 40); have hE7b := hE6.put (g := V.heap.size) (Nat.le_refl _) (.int .i64 Q.kind) (.bool Q.neg) (.int .i64 Q.exp) (.slice A6 (cn Q.mag).length c6); have hE7c := hE6.put (g := w4.heap.size) hE4.size (.int .i64 Q.kind) (.bool Q.neg) (.int .i64 Q.exp) (.slice A6 (cn Q.mag).length c6); have hE7d := hE6.put (g := w5.heap.size) hE5.size (.int .i64 Q.kind) (.bool Q.neg) (.int .i64 Q.exp) (.slice A6 (cn Q.mag).length c6))
          | fail)
      · have hlz3 := hZV.lt
        have hs4 := hE4.size
        have hs5 := hE5.size
        have hs6 := hE6.size
        have hs54 := hb5'.size
        have hgz : w.heap.size + 1 + 1 < w6.heap.size := by omega
        have hU := Br.new w6 (.int .i64 Q.kind) (.bool Q.neg) (.int .i64 Q.exp) (.slice A6 (cn Q.mag).length c6)
        have hEU0 := hE7a
        have hoU := (ho6.ext ((Ext.refl w6).al (.cells #[.int .i64 Q.kind, .bool Q.neg, .int .i64 Q.exp, .slice A6 (cn Q.mag).length c6] 40))).low (b := w.heap.size + 1 + 1 + 1) (by omega)
        have hoN := (ho6.ext (((Ext.refl w6).al (.cells #[.int .i64 Q.kind, .bool Q.neg, .int .i64 Q.exp, .slice A6 (cn Q.mag).length c6] 40)).set (g := w6.heap.size) (Nat.le_refl _) 1 (.bool an))).low (b := w.heap.size + 1 + 1 + 1) (by omega)
        generalize (w6.alloc (.cells #[.int .i64 Q.kind, .bool Q.neg, .int .i64 Q.exp, .slice A6 (cn Q.mag).length c6] 40)) = U at hU hEU0 hoU hoN ⊢
        have hXU := hXV.ext hEU0
        have hZU := hZV.ext hEU0
        have hEU := hEV.tr hEU0
        generalize w6.heap.size = g at hU hgz hoN ⊢
        have hgne : ¬ (g = w.heap.size + 1 + 1) := by omega
        have hgnx : ¬ (g = w.heap.size + 1) := by omega
        clear hXV hZV hEV hFV hS hrV hrV4 hE4 hE5 hE6 hEU0 ho6 hr3 hr4 hr5 hr6 hb6 hb5 hb4 hs4 hs5 hs6 hs54 hlz3 hb5' hb6' hE7a hE7b hE7c hE7d ho4 ho5
        obtain ⟨x0, x1, x2, x3, -⟩ := hXU.facts
        obtain ⟨u0, u1, u2, u3, uf⟩ := hU.facts
        rcases HQ.out with ⟨e5, rfl⟩ | ⟨e5, rfl⟩
        · have hU1 := hU.s1 (.bool an)
          obtain ⟨v0, v1, v2, v3, vf⟩ := hU1.facts
          have hZ1 := hZU.far (p := ⟨g, 1, none⟩) (show w.heap.size + 1 + 1 ≠ g by omega) (.bool an)
          have hE1 := hEU.set (g := g) (by omega) 1 (.bool an)
          obtain ⟨r0, r1, r2, r3, rf⟩ := hZ1.facts
          have hZ9 := Lib.hid (hZ1.put (.int .i64 Q.kind) (.bool an) (.int .i64 Q.exp) (.slice A6 (cn Q.mag).length c6))
          have hE9 := Lib.hid (hE1.put (g := w.heap.size + 1 + 1) (by omega) (.int .i64 Q.kind) (.bool an) (.int .i64 Q.exp) (.slice A6 (cn Q.mag).length c6))
          have ho9 := Lib.hid ((hoN.putBelow (g := w.heap.size + 1 + 1) (by omega) (.int .i64 Q.kind) (.bool an) (.int .i64 Q.exp) (.slice A6 (cn Q.mag).length c6)).low (b := w.heap.size) (by omega))
          go_wp2
          obtain ⟨s0, s1, s2, s3, -⟩ := hZ9.out.facts
          refine bodyPost_ret (v := flV Q.kind an Q.exp (.slice A6 (cn Q.mag).length c6)) (by simp [results, Tryz.results24, go_sem, s0, s1, s2, s3]) rfl ?_
          exact ⟨_, rfl, ⟨_, rfl, ho9.out⟩, hE9.out⟩
        · obtain ⟨r0, r1, r2, r3, rf⟩ := hZU.facts
          have hZ9 := Lib.hid (hZU.put (.int .i64 N.kind) (.bool N.neg) (.int .i64 N.exp) (.slice A6 (cn N.mag).length c6))
          have hE9 := Lib.hid (hEU.put (g := w.heap.size + 1 + 1) (by omega) (.int .i64 N.kind) (.bool N.neg) (.int .i64 N.exp) (.slice A6 (cn N.mag).length c6))
          have ho9 := Lib.hid ((hoU.putBelow (g := w.heap.size + 1 + 1) (by omega) (.int .i64 N.kind) (.bool N.neg) (.int .i64 N.exp) (.slice A6 (cn N.mag).length c6)).low (b := w.heap.size) (by omega))
          go_wp2
          obtain ⟨s0, s1, s2, s3, -⟩ := hZ9.out.facts
          refine bodyPost_ret (v := flV N.kind N.neg N.exp (.slice A6 (cn N.mag).length c6)) (by simp [results, Tryz.results24, go_sem, s0, s1, s2, s3]) rfl ?_
          exact ⟨_, rfl, ⟨_, rfl, ho9.out⟩, hE9.out⟩
      · have hlz3 := hZV.lt
        have hs4 := hE4.size
        have hs5 := hE5.size
        have hs6 := hE6.size
        have hs54 := hb5'.size
        have hgz : w.heap.size + 1 + 1 < w5.heap.size := by omega
        have ho6 := ho6.low (b := w5.heap.size + 1) (by simp)
        have hU := hYc.put (.int .i64 Q.kind) (.bool Q.neg) (.int .i64 Q.exp) (.slice A6 (cn Q.mag).length c6)
        have hEU0 := hE7d
        have hoP := ho6.putBelow (g := w5.heap.size) (Nat.lt_succ_self _) (.int .i64 Q.kind) (.bool Q.neg) (.int .i64 Q.exp) (.slice A6 (cn Q.mag).length c6)
        have hoN := (hoP.setBelow (a := ⟨w5.heap.size, 1, none⟩) (Nat.lt_succ_self _) (.bool an)).low (b := w.heap.size + 1 + 1 + 1) (by omega)
        have hoU := hoP.low (b := w.heap.size + 1 + 1 + 1) (by omega)
        generalize ((((w6.setCell ⟨w5.heap.size, 0, none⟩ (.int .i64 Q.kind)).setCell ⟨w5.heap.size, 1, none⟩ (.bool Q.neg)).setCell ⟨w5.heap.size, 2, none⟩ (.int .i64 Q.exp)).setCell ⟨w5.heap.size, 3, none⟩ (.slice A6 (cn Q.mag).length c6)) = U at hU hEU0 hoU hoN ⊢
        have hXU := hXV.ext hEU0
        have hZU := hZV.ext hEU0
        have hEU := hEV.tr hEU0
        generalize w5.heap.size = g at hU hgz hoN ⊢
        have hgne : ¬ (g = w.heap.size + 1 + 1) := by omega
        have hgnx : ¬ (g = w.heap.size + 1) := by omega
        clear hXV hZV hEV hFV hS hrV hrV4 hE4 hE5 hE6 hEU0 ho6 hr3 hr4 hr5 hr6 hb6 hb5 hb4 hs4 hs5 hs6 hs54 hlz3 hb5' hb6' hE7a hE7b hE7c hE7d ho4 ho5
        obtain ⟨x0, x1, x2, x3, -⟩ := hXU.facts
        obtain ⟨u0, u1, u2, u3, uf⟩ := hU.facts
        rcases HQ.out with ⟨e5, rfl⟩ | ⟨e5, rfl⟩
        · have hU1 := hU.s1 (.bool an)
          obtain ⟨v0, v1, v2, v3, vf⟩ := hU1.facts
          have hZ1 := hZU.far (p := ⟨g, 1, none⟩) (show w.heap.size + 1 + 1 ≠ g by omega) (.bool an)
          have hE1 := hEU.set (g := g) (by omega) 1 (.bool an)
          obtain ⟨r0, r1, r2, r3, rf⟩ := hZ1.facts
          have hZ9 := Lib.hid (hZ1.put (.int .i64 Q.kind) (.bool an) (.int .i64 Q.exp) (.slice A6 (cn Q.mag).length c6))
          have hE9 := Lib.hid (hE1.put (g := w.heap.size + 1 + 1) (by omega) (.int .i64 Q.kind) (.bool an) (.int .i64 Q.exp) (.slice A6 (cn Q.mag).length c6))
          have ho9 := Lib.hid ((hoN.putBelow (g := w.heap.size + 1 + 1) (by omega) (.int .i64 Q.kind) (.bool an) (.int .i64 Q.exp) (.slice A6 (cn Q.mag).length c6)).low (b := w.heap.size) (by omega))
          go_wp2
          obtain ⟨s0, s1, s2, s3, -⟩ := hZ9.out.facts
          refine bodyPost_ret (v := flV Q.kind an Q.exp (.slice A6 (cn Q.mag).length c6)) (by simp [results, Tryz.results24, go_sem, s0, s1, s2, s3]) rfl ?_
          exact ⟨_, rfl, ⟨_, rfl, ho9.out⟩, hE9.out⟩
        · obtain ⟨r0, r1, r2, r3, rf⟩ := hZU.facts
          have hZ9 := Lib.hid (hZU.put (.int .i64 N.kind) (.bool N.neg) (.int .i64 N.exp) (.slice A6 (cn N.mag).length c6))
          have hE9 := Lib.hid (hEU.put (g := w.heap.size + 1 + 1) (by omega) (.int .i64 N.kind) (.bool N.neg) (.int .i64 N.exp) (.slice A6 (cn N.mag).length c6))
          have ho9 := Lib.hid ((hoU.putBelow (g := w.heap.size + 1 + 1) (by omega) (.int .i64 N.kind) (.bool N.neg) (.int .i64 N.exp) (.slice A6 (cn N.mag).length c6)).low (b := w.heap.size) (by omega))
          go_wp2
          obtain ⟨s0, s1, s2, s3, -⟩ := hZ9.out.facts
          refine bodyPost_ret (v := flV N.kind N.neg N.exp (.slice A6 (cn N.mag).length c6)) (by simp [results, Tryz.results24, go_sem, s0, s1, s2, s3]) rfl ?_
          exact ⟨_, rfl, ⟨_, rfl, ho9.out⟩, hE9.out⟩
      · have hlz3 := hZV.lt
        have hs4 := hE4.size
        have hs5 := hE5.size
        have hs6 := hE6.size
        have hs54 := hb5'.size
        have hgz : w.heap.size + 1 + 1 < w4.heap.size := by omega
        have hU := hYb.put (.int .i64 Q.kind) (.bool Q.neg) (.int .i64 Q.exp) (.slice A6 (cn Q.mag).length c6)
        have hEU0 := hE7c
        have hoP := ho6.putBelow (g := w4.heap.size) hlb (.int .i64 Q.kind) (.bool Q.neg) (.int .i64 Q.exp) (.slice A6 (cn Q.mag).length c6)
        have hoN := (hoP.setBelow (a := ⟨w4.heap.size, 1, none⟩) hlb (.bool an)).low (b := w.heap.size + 1 + 1 + 1) (by omega)
        have hoU := hoP.low (b := w.heap.size + 1 + 1 + 1) (by omega)
        generalize ((((w6.setCell ⟨w4.heap.size, 0, none⟩ (.int .i64 Q.kind)).setCell ⟨w4.heap.size, 1, none⟩ (.bool Q.neg)).setCell ⟨w4.heap.size, 2, none⟩ (.int .i64 Q.exp)).setCell ⟨w4.heap.size, 3, none⟩ (.slice A6 (cn Q.mag).length c6)) = U at hU hEU0 hoU hoN ⊢
        have hXU := hXV.ext hEU0
        have hZU := hZV.ext hEU0
        have hEU := hEV.tr hEU0
        generalize w4.heap.size = g at hU hgz hoN ⊢
        have hgne : ¬ (g = w.heap.size + 1 + 1) := by omega
        have hgnx : ¬ (g = w.heap.size + 1) := by omega
        clear hXV hZV hEV hFV hS hrV hrV4 hE4 hE5 hE6 hEU0 ho6 hr3 hr4 hr5 hr6 hb6 hb5 hb4 hs4 hs5 hs6 hs54 hlz3 hb5' hb6' hE7a hE7b hE7c hE7d ho4 ho5
        obtain ⟨x0, x1, x2, x3, -⟩ := hXU.facts
        obtain ⟨u0, u1, u2, u3, uf⟩ := hU.facts
        rcases HQ.out with ⟨e5, rfl⟩ | ⟨e5, rfl⟩
        · have hU1 := hU.s1 (.bool an)
          obtain ⟨v0, v1, v2, v3, vf⟩ := hU1.facts
          have hZ1 := hZU.far (p := ⟨g, 1, none⟩) (show w.heap.size + 1 + 1 ≠ g by omega) (.bool an)
          have hE1 := hEU.set (g := g) (by omega) 1 (.bool an)
          obtain ⟨r0, r1, r2, r3, rf⟩ := hZ1.facts
          have hZ9 := Lib.hid (hZ1.put (.int .i64 Q.kind) (.bool an) (.int .i64 Q.exp) (.slice A6 (cn Q.mag).length c6))
          have hE9 := Lib.hid (hE1.put (g := w.heap.size + 1 + 1) (by omega) (.int .i64 Q.kind) (.bool an) (.int .i64 Q.exp) (.slice A6 (cn Q.mag).length c6))
          have ho9 := Lib.hid ((hoN.putBelow (g := w.heap.size + 1 + 1) (by omega) (.int .i64 Q.kind) (.bool an) (.int .i64 Q.exp) (.slice A6 (cn Q.mag).length c6)).low (b := w.heap.size) (by omega))
          go_wp2
          obtain ⟨s0, s1, s2, s3, -⟩ := hZ9.out.facts
          refine bodyPost_ret (v := flV Q.kind an Q.exp (.slice A6 (cn Q.mag).length c6)) (by simp [results, Tryz.results24, go_sem, s0, s1, s2, s3]) rfl ?_
          exact ⟨_, rfl, ⟨_, rfl, ho9.out⟩, hE9.out⟩
        · obtain ⟨r0, r1, r2, r3, rf⟩ := hZU.facts
          have hZ9 := Lib.hid (hZU.put (.int .i64 N.kind) (.bool N.neg) (.int .i64 N.exp) (.slice A6 (cn N.mag).length c6))
          have hE9 := Lib.hid (hEU.put (g := w.heap.size + 1 + 1) (by omega) (.int .i64 N.kind) (.bool N.neg) (.int .i64 N.exp) (.slice A6 (cn N.mag).length c6))
          have ho9 := Lib.hid ((hoU.putBelow (g := w.heap.size + 1 + 1) (by omega) (.int .i64 N.kind) (.bool N.neg) (.int .i64 N.exp) (.slice A6 (cn N.mag).length c6)).low (b := w.heap.size) (by omega))
          go_wp2
          obtain ⟨s0, s1, s2, s3, -⟩ := hZ9.out.facts
          refine bodyPost_ret (v := flV N.kind N.neg N.exp (.slice A6 (cn N.mag).length c6)) (by simp [results, Tryz.results24, go_sem, s0, s1, s2, s3]) rfl ?_
          exact ⟨_, rfl, ⟨_, rfl, ho9.out⟩, hE9.out⟩
      · have hlz3 := hZV.lt
        have hs4 := hE4.size
        have hs5 := hE5.size
        have hs6 := hE6.size
        have hs54 := hb5'.size
        have hgz : w.heap.size + 1 + 1 < V.heap.size := by omega
        have hU := hYa.put (.int .i64 Q.kind) (.bool Q.neg) (.int .i64 Q.exp) (.slice A6 (cn Q.mag).length c6)
        have hEU0 := hE7b
        have hoP := ho6.putBelow (g := V.heap.size) hla (.int .i64 Q.kind) (.bool Q.neg) (.int .i64 Q.exp) (.slice A6 (cn Q.mag).length c6)
        have hoN := (hoP.setBelow (a := ⟨V.heap.size, 1, none⟩) hla (.bool an)).low (b := w.heap.size + 1 + 1 + 1) (by omega)
        have hoU := hoP.low (b := w.heap.size + 1 + 1 + 1) (by omega)
        generalize ((((w6.setCell ⟨V.heap.size, 0, none⟩ (.int .i64 Q.kind)).setCell ⟨V.heap.size, 1, none⟩ (.bool Q.neg)).setCell ⟨V.heap.size, 2, none⟩ (.int .i64 Q.exp)).setCell ⟨V.heap.size, 3, none⟩ (.slice A6 (cn Q.mag).length c6)) = U at hU hEU0 hoU hoN ⊢
        have hXU := hXV.ext hEU0
        have hZU := hZV.ext hEU0
        have hEU := hEV.tr hEU0
        generalize V.heap.size = g at hU hgz hoN ⊢
        have hgne : ¬ (g = w.heap.size + 1 + 1) := by omega
        have hgnx : ¬ (g = w.heap.size + 1) := by omega
        clear hXV hZV hEV hFV hS hrV hrV4 hE4 hE5 hE6 hEU0 ho6 hr3 hr4 hr5 hr6 hb6 hb5 hb4 hs4 hs5 hs6 hs54 hlz3 hb5' hb6' hE7a hE7b hE7c hE7d ho4 ho5
        obtain ⟨x0, x1, x2, x3, -⟩ := hXU.facts
        obtain ⟨u0, u1, u2, u3, uf⟩ := hU.facts
        rcases HQ.out with ⟨e5, rfl⟩ | ⟨e5, rfl⟩
        · have hU1 := hU.s1 (.bool an)
          obtain ⟨v0, v1, v2, v3, vf⟩ := hU1.facts
          have hZ1 := hZU.far (p := ⟨g, 1, none⟩) (show w.heap.size + 1 + 1 ≠ g by omega) (.bool an)
          have hE1 := hEU.set (g := g) (by omega) 1 (.bool an)
          obtain ⟨r0, r1, r2, r3, rf⟩ := hZ1.facts
          have hZ9 := Lib.hid (hZ1.put (.int .i64 Q.kind) (.bool an) (.int .i64 Q.exp) (.slice A6 (cn Q.mag).length c6))
          have hE9 := Lib.hid (hE1.put (g := w.heap.size + 1 + 1) (by omega) (.int .i64 Q.kind) (.bool an) (.int .i64 Q.exp) (.slice A6 (cn Q.mag).length c6))
          have ho9 := Lib.hid ((hoN.putBelow (g := w.heap.size + 1 + 1) (by omega) (.int .i64 Q.kind) (.bool an) (.int .i64 Q.exp) (.slice A6 (cn Q.mag).length c6)).low (b := w.heap.size) (by omega))
          go_wp2
          obtain ⟨s0, s1, s2, s3, -⟩ := hZ9.out.facts
          refine bodyPost_ret (v := flV Q.kind an Q.exp (.slice A6 (cn Q.mag).length c6)) (by simp [results, Tryz.results24, go_sem, s0, s1, s2, s3]) rfl ?_
          exact ⟨_, rfl, ⟨_, rfl, ho9.out⟩, hE9.out⟩
        · obtain ⟨r0, r1, r2, r3, rf⟩ := hZU.facts
          have hZ9 := Lib.hid (hZU.put (.int .i64 N.kind) (.bool N.neg) (.int .i64 N.exp) (.slice A6 (cn N.mag).length c6))
          have hE9 := Lib.hid (hEU.put (g := w.heap.size + 1 + 1) (by omega) (.int .i64 N.kind) (.bool N.neg) (.int .i64 N.exp) (.slice A6 (cn N.mag).length c6))
          have ho9 := Lib.hid ((hoU.putBelow (g := w.heap.size + 1 + 1) (by omega) (.int .i64 N.kind) (.bool N.neg) (.int .i64 N.exp) (.slice A6 (cn N.mag).length c6)).low (b := w.heap.size) (by omega))
          go_wp2
          obtain ⟨s0, s1, s2, s3, -⟩ := hZ9.out.facts
          refine bodyPost_ret (v := flV N.kind N.neg N.exp (.slice A6 (cn N.mag).length c6)) (by simp [results, Tryz.results24, go_sem, s0, s1, s2, s3]) rfl ?_
          exact ⟨_, rfl, ⟨_, rfl, ho9.out⟩, hE9.out⟩
theorem rnext21_c (k p : Int) (hR : Rgt k p) (a : FA) (f : Fl) (hfc : a.can = some f) (hf : FOf k p f) (la : a.xs.length ≤ 4096) (up : Bool) (w : World) (ha : Rd w a.A a.c a.xs) :
    Calls Tryz.prog 24 #[.agg #[.int .i64 k, .int .i64 p], a.v, .bool up] w fun z w' => ∃ u, z = .returned u ∧ FlR w' w.heap.size (nextF k p f up) u ∧ Ext w w' := by
  by_cases hs : f.kind = 3 ∨ (f.kind = 2 ∧ f.neg ≠ up)
  · rw [show nextF k p f up = f by unfold nextF; rw [if_pos hs]]
    exact rnext21_stay k p a f hfc la up hs w ha
  · exact rnext21_go k p hR a f hfc hf la up hs w ha
end Go.Proofs.YtcdgkhmiolhfdaaGreatDoor
namespace Go.Proofs.YtcdgkhmiolhfdaaGreatDoor
open Go.RowKit
attribute [local go_sem ↓] Go.wp_at_zero Go.wp_at_succ

theorem boxesRT (w : World) (k p : Int) (a b c d a' b' c' d' : Value) : ∀ W, W = ((((w.alloc (.cells #[.int .i64 k, .int .i64 p] 51)).alloc (.cells #[a, b, c, d] 40)).alloc (.cells #[a', b', c', d'] 40)).alloc (.cells #[.int .i64 0, .bool false, .int .i64 0, .slice none 0 0] 40)) →
    Bg W w.heap.size (.int .i64 k) (.int .i64 p) ∧ Br W (w.heap.size + 1) a b c d ∧ Br W (w.heap.size + 1 + 1) a' b' c' d' ∧ Br W (w.heap.size + 1 + 1 + 1) (.int .i64 0) (.bool false) (.int .i64 0) (.slice none 0 0) ∧ Ext w W := by
  rintro W rfl
  have h1 := (Ext.refl w).al (.cells #[.int .i64 k, .int .i64 p] 51)
  have x2 := Br.new (w.alloc (.cells #[.int .i64 k, .int .i64 p] 51)) a b c d
  have x3 := Br.new ((w.alloc (.cells #[.int .i64 k, .int .i64 p] 51)).alloc (.cells #[a, b, c, d] 40)) a' b' c' d'
  have x4 := Br.new (((w.alloc (.cells #[.int .i64 k, .int .i64 p] 51)).alloc (.cells #[a, b, c, d] 40)).alloc (.cells #[a', b', c', d'] 40)) (.int .i64 0) (.bool false) (.int .i64 0) (.slice none 0 0)
  rw [World.size_alloc] at x2
  rw [World.size_alloc, World.size_alloc] at x3
  rw [World.size_alloc, World.size_alloc, World.size_alloc] at x4
  exact ⟨(((Bg.new w _ _).ext ((Ext.refl _).al _)).ext ((Ext.refl _).al _)).ext ((Ext.refl _).al _), (x2.ext ((Ext.refl _).al _)).ext ((Ext.refl _).al _), x3.ext ((Ext.refl _).al _), x4, ((h1.al _).al _).al _⟩
set_option maxHeartbeats 8000000 in
set_option maxRecDepth 100000 in
theorem rtoward21_c (k p : Int) (hR : Rgt k p) (a b : FA) (f g : Fl) (hfc : a.can = some f) (hgc : b.can = some g) (hf : FOf k p f) (hg : FOf k p g) (la : a.xs.length ≤ 4096) (lb : b.xs.length ≤ 4096) (w : World) (ha : Rd w a.A a.c a.xs) (hb : Rd w b.A b.c b.xs) :
    Calls Tryz.prog 26 #[.agg #[.int .i64 k, .int .i64 p], a.v, b.v] w fun z w' => ∃ u, z = .returned u ∧ FlR w' w.heap.size (towF k p f g) u ∧ Ext w w' := by
  obtain ⟨hF, hX, hY, hZ, hE⟩ := boxesRT w k p (.int .i64 a.k) (.bool a.neg) (.int .i64 a.e) (.slice a.A a.xs.length a.c) (.int .i64 b.k) (.bool b.neg) (.int .i64 b.e) (.slice b.A b.xs.length b.c) _ rfl
  have k2 := rcanonical_c b.k b.e b.neg b.A b.c b.xs
  have c2 := fun w h => k2 w h lb g hgc
  have hcm := fun w h1 h2 => rocmp_c k p hR a b f g hfc hgc hf hg la lb w h1 h2
  have hnx := fun w h => rnext21_c k p hR a f hfc hf la (decide (cmpV k p f g < 0)) w h
  have hcs : (cmpB f g = false ∧ towF k p f g = ⟨3, false, 0, 0⟩) ∨ (cmpB f g = true ∧ (cmpV k p f g == 0) = true ∧ towF k p f g = g) ∨ (cmpB f g = true ∧ (cmpV k p f g == 0) = false ∧ towF k p f g = nextF k p f (decide (cmpV k p f g < 0))) := by
    unfold cmpB cmpV towF
    by_cases h1 : f.kind = 3 ∨ g.kind = 3
    · exact .inl ⟨by simp; omega, by rw [if_pos h1]⟩
    · simp only [if_neg h1]
      by_cases h2 : sgn (idx k p f - idx k p g) = 0
      · exact .inr (.inl ⟨by simp; omega, by simpa using h2, by rw [if_pos h2]⟩)
      · exact .inr (.inr ⟨by simp; omega, by simpa using h2, by rw [if_neg h2]⟩)
  unfold FlR at *
  obtain ⟨up, hup⟩ : ∃ up, decide (cmpV k p f g < 0) = up := ⟨_, rfl⟩
  rw [hup] at hnx hcs
  generalize nextF k p f up = N at *
  generalize towF k p f g = Q at *
  generalize cmpV k p f g = V at *
  generalize cmpB f g = B1 at *
  clear k2 hfc hgc hf hg la lb hR f
  obtain ⟨ak, an, ae, aA, ac, axs⟩ := a
  obtain ⟨bk, bn, be, bA, bc, bxs⟩ := b
  simp only at ha hb hF hX hY hZ hE c2 hcm hnx
  have HF := Lib.hid hF
  have HX := Lib.hid hX
  have HY := Lib.hid hY
  have HZ := Lib.hid hZ
  have HE := Lib.hid hE
  have HC := Lib.hid hcs
  clear hF hX hY hZ hE hcs
  go_enter Tryz.func26, Tryz.ntmps26
  go_wp2_with fail
  have hF := HF.out
  have hX := HX.out
  have hY := HY.out
  have hZ := HZ.out
  have hE := HE.out
  clear HF HX HY HZ HE
  generalize ((((w.alloc (.cells #[.int .i64 k, .int .i64 p] 51)).alloc (.cells #[.int .i64 ak, .bool an, .int .i64 ae, .slice aA axs.length ac] 40)).alloc (.cells #[.int .i64 bk, .bool bn, .int .i64 be, .slice bA bxs.length bc] 40)).alloc (.cells #[.int .i64 0, .bool false, .int .i64 0, .slice none 0 0] 40)) = W at *
  refine (hcm _ (ha.ext hE) (hb.ext hE)).mono ?_
  rintro z w3 ⟨rfl, hb3⟩
  have hE3 := hE.tr hb3
  have hZ3 := hZ.ext hb3
  have hlz3 := hZ3.lt
  obtain ⟨f0, f1⟩ := (hF.ext hb3).facts
  obtain ⟨x0, x1, x2, x3, -⟩ := (hX.ext hb3).facts
  obtain ⟨y0, y1, y2, y3, -⟩ := (hY.ext hb3).facts
  rcases HC.out with ⟨rfl, rfl⟩ | ⟨rfl, e2, rfl⟩ | ⟨rfl, e2, rfl⟩
  · obtain ⟨r0, r1, r2, r3, rf⟩ := hZ3.facts
    go_wp2
    obtain ⟨s0, s1, s2, s3, -⟩ := (hZ3.put (.int .i64 3) (.bool false) (.int .i64 0) (.slice none 0 0)).facts
    refine bodyPost_ret (v := flV 3 false 0 (.slice none 0 0)) (by simp [results, Tryz.results26, go_sem, s0, s1, s2, s3]) rfl ?_
    exact ⟨_, rfl, ⟨_, rfl, by rw [show cn (0 : Nat) = [] from digs_zero B]; exact Own.nil _ _⟩, hE3.put (g := w.heap.size + 1 + 1 + 1) (by omega) _ _ _ _⟩
  · go_wp2_with fail
    refine (c2 _ (hb.ext hE3)).mono ?_
    rintro z w4 ⟨u, rfl, ⟨v, rfl, ho4⟩, hb4⟩
    obtain ⟨A4, c4, rfl, hr4⟩ := ho4.rd
    have hZ4 := hZ3.ext hb4
    obtain ⟨r0, r1, r2, r3, rf⟩ := hZ4.facts
    go_wp2
    obtain ⟨s0, s1, s2, s3, -⟩ := (hZ4.put (.int .i64 Q.kind) (.bool Q.neg) (.int .i64 Q.exp) (.slice A4 (cn Q.mag).length c4)).facts
    refine bodyPost_ret (v := flV Q.kind Q.neg Q.exp (.slice A4 (cn Q.mag).length c4)) (by simp [results, Tryz.results26, go_sem, s0, s1, s2, s3]) rfl ?_
    exact ⟨_, rfl, ⟨_, rfl, (ho4.putBelow (g := w.heap.size + 1 + 1 + 1) hlz3 _ _ _ _).low hE3.size⟩, (hE3.tr hb4).put (g := w.heap.size + 1 + 1 + 1) (by omega) _ _ _ _⟩
  · go_wp2_with fail
    refine (hnx _ (ha.ext hE3)).mono ?_
    rintro z w4 ⟨u, rfl, ⟨v, rfl, ho4⟩, hb4⟩
    obtain ⟨A4, c4, rfl, hr4⟩ := ho4.rd
    have hZ4 := hZ3.ext hb4
    obtain ⟨r0, r1, r2, r3, rf⟩ := hZ4.facts
    go_wp2
    obtain ⟨s0, s1, s2, s3, -⟩ := (hZ4.put (.int .i64 Q.kind) (.bool Q.neg) (.int .i64 Q.exp) (.slice A4 (cn Q.mag).length c4)).facts
    refine bodyPost_ret (v := flV Q.kind Q.neg Q.exp (.slice A4 (cn Q.mag).length c4)) (by simp [results, Tryz.results26, go_sem, s0, s1, s2, s3]) rfl ?_
    exact ⟨_, rfl, ⟨_, rfl, (ho4.putBelow (g := w.heap.size + 1 + 1 + 1) hlz3 _ _ _ _).low hE3.size⟩, (hE3.tr hb4).put (g := w.heap.size + 1 + 1 + 1) (by omega) _ _ _ _⟩
end Go.Proofs.YtcdgkhmiolhfdaaGreatDoor
