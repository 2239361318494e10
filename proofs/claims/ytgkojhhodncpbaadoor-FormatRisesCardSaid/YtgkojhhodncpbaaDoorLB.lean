/- FormatRises: the walk. -/
import Derived.Test.YtgkojhhodncpbaaDoorT7
import Derived.Test.YtgkojhhodncpbaaDoorU5
set_option linter.unusedVariables false
set_option linter.unusedSimpArgs false
namespace Go.Proofs.YtgkojhhodncpbaaDoor
open Go.RowKit

theorem cn_den {f : Fl} : decide (val (cn (denF f)) = 0) = false := by
  rw [val_cn]
  have := denF_pos f
  rw [decide_eq_false_iff_not]
  omega
theorem cn_len_two (n m e : Nat) (h : n < 2 ^ e) (he : e ≤ 64 * m) : (cn n).length ≤ m := by
  refine (cn_len_le _ _).2 (Nat.lt_of_lt_of_le h ?_)
  rw [B_two, ← Nat.pow_mul]
  exact Nat.pow_le_pow_right (by omega) he
theorem numF_len {f : Fl} (he : f.exp ≤ 41000) (hb : bl f.mag ≤ 256) : (cn (numF f)).length ≤ 1000000 := by
  unfold numF
  split
  · rw [show cn 0 = [] from digs_zero B]; simp
  · refine cn_len_two _ _ (bl f.mag + f.exp.toNat) ?_ (by omega)
    rw [Nat.pow_add]
    exact Nat.mul_lt_mul_of_pos_right bl_lt (Nat.two_pow_pos _)
theorem denF_len {f : Fl} (he : -20000 ≤ f.exp) : (cn (denF f)).length ≤ 1000000 := by
  unfold denF
  split
  · exact cn_len_two _ _ 1 (by omega) (by omega)
  · exact cn_len_two _ _ ((-f.exp).toNat + 1) (Nat.pow_lt_pow_right (by omega) (by omega)) (by omega)
set_option maxHeartbeats 4000000 in
set_option maxRecDepth 100000 in
theorem formatRises_c (k p : Int) (A A' : Option Addr) (c c' : Nat) (xs ys : List Nat) (w : World) (hT : Tab w) (hM : MapT w) (h : Rd w A c xs) (h' : Rd w A' c' ys) :
    Calls Tryd.prog 5 #[.agg #[.int .i64 k, .int .i64 p], .slice A xs.length c, .slice A' ys.length c'] w fun e w' => e = .returned (.bool true) ∧ Ext w w' := by
  have hF := Bf.new w (.int .i64 k) (.int .i64 p)
  have hA := (Ext.refl w).al (.cells #[.int .i64 k, .int .i64 p] 23)
  have HF := Lib.hid hF
  have HA := Lib.hid hA
  clear hF hA
  by_cases hs : 40 < xs.length
  · have hd : decide ((40 : Int) < (xs.length : Int)) = true := by simp; omega
    have hE := HA.out
    clear HF HA hs
    go_enter Tryd.func5, Tryd.ntmps5
    go_wp2_with (go_at_call 18; refine (awake_c _ (hT.ext hE) (hM.ext hE)).mono ?_; rintro z w2 ⟨rfl, hb⟩)
    go_ret
    exact ⟨rfl, hE.tr hb⟩
  have hd : decide ((40 : Int) < (xs.length : Int)) = false := by simp; omega
  by_cases hs' : 40 < ys.length
  · have hd2 : decide ((40 : Int) < (ys.length : Int)) = true := by simp; omega
    have hE := HA.out
    clear HF HA hs hs'
    go_enter Tryd.func5, Tryd.ntmps5
    go_wp2_with (go_at_call 18; refine (awake_c _ (hT.ext hE) (hM.ext hE)).mono ?_; rintro z w2 ⟨rfl, hb⟩)
    go_ret
    exact ⟨rfl, hE.tr hb⟩
  have hd2 : decide ((40 : Int) < (ys.length : Int)) = false := by simp; omega
  have hdc1 := fun w hT h => decode_c k p A c xs w hT h
  have hdc2 := fun w hT h => decode_c k p A' c' ys w hT h
  have hcm := fun w h1 h2 => rcmp_c A A' c c' xs ys w h1 h2 (by omega) (by omega)
  have good : ∀ zs : List Nat, ¬ 40 < zs.length → decE k p zs = 0 → Rgt k p ∧ (bl (val zs) : Int) ≤ k + p := by
    intro zs hs hde
    unfold decE at hde
    rw [if_neg (by omega)] at hde
    by_cases hR : Rgt k p
    · rw [if_pos hR] at hde
      refine ⟨hR, ?_⟩
      by_cases hb : k + p < (bl (val zs) : Int)
      · rw [if_pos hb] at hde; cases hde
      · omega
    · rw [if_neg hR] at hde; cases hde
  have g1 := good xs hs
  have g2 := good ys hs'
  clear good
  obtain ⟨Ea, hEa⟩ : ∃ E, decE k p xs = E := ⟨_, rfl⟩
  obtain ⟨Eb, hEb⟩ : ∃ E, decE k p ys = E := ⟨_, rfl⟩
  rw [hEa] at hdc1 g1
  rw [hEb] at hdc2 g2
  obtain ⟨Fa, hFa⟩ : ∃ F, (if Ea = 0 then decF k p (val xs) else ⟨0, false, 0, 0⟩) = F := ⟨_, rfl⟩
  obtain ⟨Fb, hFb⟩ : ∃ F, (if Eb = 0 then decF k p (val ys) else ⟨0, false, 0, 0⟩) = F := ⟨_, rfl⟩
  rw [hFa] at hdc1
  rw [hFb] at hdc2
  have main : (((Ea != 0) = true) ∨ ((Ea != 0) = false ∧ (Eb != 0) = true) ∨ ((Ea != 0) = false ∧ (Eb != 0) = false ∧ Fa.neg = true) ∨ ((Ea != 0) = false ∧ (Eb != 0) = false ∧ Fa.neg = false ∧ Fb.neg = true) ∨
      ((Ea != 0) = false ∧ (Eb != 0) = false ∧ Fa.neg = false ∧ Fb.neg = false ∧ (Fa.kind == 3) = true) ∨ ((Ea != 0) = false ∧ (Eb != 0) = false ∧ Fa.neg = false ∧ Fb.neg = false ∧ (Fa.kind == 3) = false ∧ (Fb.kind == 3) = true)) ∨
      ((Ea != 0) = false ∧ (Eb != 0) = false ∧ Fa.neg = false ∧ Fb.neg = false ∧ (Fa.kind == 3) = false ∧ (Fb.kind == 3) = false ∧
        (((Fa.kind == 2) = true ∧ (Fb.kind == 2) = true ∧ cmp3 (val xs) (val ys) = 0) ∨ ((Fa.kind == 2) = true ∧ (Fb.kind == 2) = false ∧ cmp3 (val xs) (val ys) = 1) ∨ ((Fa.kind == 2) = false ∧ (Fb.kind == 2) = true ∧ cmp3 (val xs) (val ys) = -1) ∨
          ((Fa.kind == 2) = false ∧ (Fb.kind == 2) = false ∧ Fa.Ok ∧ Fb.Ok ∧ (Fa.kind = 0 ∨ Fa.kind = 1) ∧ (Fb.kind = 0 ∨ Fb.kind = 1) ∧ (-20000 ≤ Fa.exp ∧ Fa.exp ≤ 41000 ∧ bl Fa.mag ≤ 256) ∧ (-20000 ≤ Fb.exp ∧ Fb.exp ≤ 41000 ∧ bl Fb.mag ≤ 256) ∧ (cn Fa.mag).length ≤ 5 ∧ (cn Fb.mag).length ≤ 5 ∧
            sgn ((numF Fa : Int) * (denF Fb : Int) - (numF Fb : Int) * (denF Fa : Int)) = cmp3 (val xs) (val ys)))) := by
    by_cases ea : Ea = 0
    rotate_left
    · exact .inl (.inl (by simpa using ea))
    have a1 : (Ea != 0) = false := by simpa using ea
    by_cases eb : Eb = 0
    rotate_left
    · exact .inl (.inr (.inl ⟨a1, by simpa using eb⟩))
    have a2 : (Eb != 0) = false := by simpa using eb
    obtain ⟨hR, bx⟩ := g1 ea
    obtain ⟨-, byy⟩ := g2 eb
    rw [if_pos ea] at hFa
    rw [if_pos eb] at hFb
    cases na : Fa.neg
    rotate_left
    · exact .inl (.inr (.inr (.inl ⟨a1, a2, rfl⟩)))
    cases nb : Fb.neg
    rotate_left
    · exact .inl (.inr (.inr (.inr (.inl ⟨a1, a2, rfl, rfl⟩))))
    by_cases ka : Fa.kind = 3
    · exact .inl (.inr (.inr (.inr (.inr (.inl ⟨a1, a2, rfl, rfl, by simpa using ka⟩)))))
    have ka' : (Fa.kind == 3) = false := by simpa using ka
    by_cases kb : Fb.kind = 3
    · exact .inl (.inr (.inr (.inr (.inr (.inr ⟨a1, a2, rfl, rfl, ka', by simpa using kb⟩)))))
    have kb' : (Fb.kind == 3) = false := by simpa using kb
    refine .inr ⟨a1, a2, rfl, rfl, ka', kb', ?_⟩
    rw [← hFa] at na ka
    rw [← hFb] at nb kb
    obtain ⟨s1, i1⟩ := dec_inf hR bx na ka
    obtain ⟨s2, i2⟩ := dec_inf hR byy nb kb
    have o1 := decF_ok (n := val xs) hR
    have o2 := decF_ok (n := val ys) hR
    have m1 := dec_small (n := val xs) hR
    have m2 := dec_small (n := val ys) hR
    have l1 := decF_len (n := val xs) hR
    have l2 := decF_len (n := val ys) hR
    have hrs := rises hR bx byy s1 s2
    rw [hFa] at i1 o1 m1 l1 hrs
    rw [hFb] at i2 o2 m2 l2 hrs
    rcases i1 with ⟨i1, n1⟩ | ⟨i1, n1⟩
    · rcases i2 with ⟨i2, n2⟩ | ⟨i2, n2⟩
      · exact .inl ⟨by simpa using i1, by simpa using i2, cmp3_eq (by omega)⟩
      · exact .inr (.inl ⟨by simpa using i1, by simp; omega, cmp3_gt (by omega)⟩)
    · rcases i2 with ⟨i2, n2⟩ | ⟨i2, n2⟩
      · exact .inr (.inr (.inl ⟨by simp; omega, by simpa using i2, cmp3_lt (by omega)⟩))
      · exact .inr (.inr (.inr ⟨by simp; omega, by simp; omega, o1, o2, i1, i2, m1, m2, l1, l2, hrs i1 i2⟩))
  generalize cmp3 (val xs) (val ys) = t at *
  have MAIN := Lib.hid main
  clear main g1 g2 hEa hEb hFa hFb hs hs'
  obtain ⟨ak, an, ae, am⟩ := Fa
  obtain ⟨bk, bn, be, bm⟩ := Fb
  try simp only at MAIN
  go_enter Tryd.func5, Tryd.ntmps5
  go_wp2_with fail
  have hF := HF.out
  have hA := HA.out
  clear HF HA
  generalize w.alloc (.cells #[.int .i64 k, .int .i64 p] 23) = W at *
  refine (hdc1 _ (hT.ext hA) (h.ext hA)).mono ?_
  rintro z w1 ⟨u, rfl, ⟨v, rfl, ho1⟩, hb1⟩
  try simp only at ho1
  obtain ⟨A1, c1, rfl, hr1⟩ := ho1.rd
  have hX1 := Bx.new w1 (.int .i64 ak) (.bool an) (.int .i64 ae) (.slice A1 (cn am).length c1)
  have hA2 := (Ext.refl w1).al (.cells #[.int .i64 ak, .bool an, .int .i64 ae, .slice A1 (cn am).length c1] 36)
  have hE2 := (hA.tr hb1).tr hA2
  have hr2 := hr1.ext hA2
  have hF1 := hF.ext hb1
  have hlf := hF1.lt
  obtain ⟨f0, f1⟩ := hF1.facts
  try simp only
  go_wp2_with fail
  refine (hdc2 _ (hT.ext hE2) (h'.ext hE2)).mono ?_
  rintro z w3 ⟨u, rfl, ⟨v, rfl, ho3⟩, hb3⟩
  try simp only at ho3
  obtain ⟨A3, c3, rfl, hr3⟩ := ho3.rd
  have hY3 := Bx.new w3 (.int .i64 bk) (.bool bn) (.int .i64 be) (.slice A3 (cn bm).length c3)
  have hA4 := (Ext.refl w3).al (.cells #[.int .i64 bk, .bool bn, .int .i64 be, .slice A3 (cn bm).length c3] 36)
  have hE4 := (hE2.tr hb3).tr hA4
  have hX3 := hX1.ext hb3
  have hr4 := (hr2.ext hb3).ext hA4
  have hr34 := hr3.ext hA4
  have hX4 := hX3.ext hA4
  have hlx := hX3.lt
  clear f0 f1 hlf
  obtain ⟨x0, x1, x2, x3, -⟩ := hX3.facts
  try simp only
  have main := MAIN.out
  clear MAIN
  try simp only at main
  rcases main with hbad | ⟨q1, q2, rfl, rfl, q5, q6, hgood⟩
  · rcases hbad with q1 | ⟨q1, q2⟩ | ⟨q1, q2, rfl⟩ | ⟨q1, q2, rfl, rfl⟩ | ⟨q1, q2, rfl, rfl, q5⟩ | ⟨q1, q2, rfl, rfl, q5, q6⟩
    all_goals
      go_wp2_with fail
      refine (awake_c _ (hT.ext hE4) (hM.ext hE4)).mono ?_
      rintro z w9 ⟨rfl, hb9⟩
      go_wp2
      go_ret
      exact ⟨rfl, hE4.tr hb9⟩
  · have hY4 := hY3
    rcases hgood with ⟨k1, k2, rfl⟩ | ⟨k1, k2, rfl⟩ | ⟨k1, k2, rfl⟩ | ⟨k1, k2, o1, o2, i1, i2, m1, m2, l1, l2, hrs⟩
    rotate_left 3
    · have hv1 := fun w hT h => value_dec o1 i1 rfl ⟨m1.1, m1.2.1⟩ m1.2.2 l1 A1 c1 w hT h
      have hv2 := fun w hT h => value_dec o2 i2 rfl ⟨m2.1, m2.2.1⟩ m2.2.2 l2 A3 c3 w hT h
      have hd1 := cn_den (f := ⟨ak, false, ae, am⟩)
      have hd2' := cn_den (f := ⟨bk, false, be, bm⟩)
      have nl1 := numF_len (f := ⟨ak, false, ae, am⟩) m1.2.1 m1.2.2
      have nl2 := numF_len (f := ⟨bk, false, be, bm⟩) m2.2.1 m2.2.2
      have dl1 := denF_len (f := ⟨ak, false, ae, am⟩) m1.1
      have dl2 := denF_len (f := ⟨bk, false, be, bm⟩) m2.1
      try simp only at hv1 hv2 hrs
      generalize numF ⟨ak, false, ae, am⟩ = N1 at *
      generalize numF ⟨bk, false, be, bm⟩ = N2 at *
      generalize denF ⟨ak, false, ae, am⟩ = D1 at *
      generalize denF ⟨bk, false, be, bm⟩ = D2 at *
      have hqc := fun B1 B2 B3 B4 e1 e2 e3 e4 w h1 h2 h3 h4 => rcmp12_c false false B1 B2 B3 B4 e1 e2 e3 e4 (cn N1) (cn D1) (cn N2) (cn D2) w h1 h2 h3 h4 nl1 dl1 nl2 dl2
      rw [val_cn, val_cn, val_cn, val_cn, show sg false N1 = (N1 : Int) by unfold sg; simp, show sg false N2 = (N2 : Int) by unfold sg; simp, hrs] at hqc
      have hz1 := fun A c w h => riszero_c A c (cn D1) w h (by omega)
      have hz2 := fun A c w h => riszero_c A c (cn D2) w h (by omega)
      rw [hd1] at hz1
      rw [hd2'] at hz2
      clear o1 o2 i1 i2 m1 m2 l1 l2 hrs hd1 hd2' nl1 nl2 dl1 dl2
      go_wp2_with fail
      refine (hcm _ (h.ext hE4) (h'.ext hE4)).mono ?_
      rintro z w5 ⟨rfl, hb5⟩
      clear x0 x1 x2 x3 hlx
      obtain ⟨x0, x1, x2, x3, -⟩ := (hX4.ext hb5).facts
      obtain ⟨y0, y1, y2, y3, -⟩ := (hY4.ext hb5).facts
      have hE5 := hE4.tr hb5
      go_wp2_with fail
      refine (hv1 _ (hT.ext hE5) (hr4.ext hb5)).mono ?_
      rintro z w6 ⟨v1, v2, rfl, ho6, ho6', hb6⟩
      obtain ⟨B1, e1, rfl, hn1⟩ := ho6.rd
      obtain ⟨B2, e2, rfl, hr6⟩ := ho6'.rd
      have hQ := Bq.new w6 (.bool false) (.slice B1 (cn N1).length e1) (.slice B2 (cn D1).length e2)
      have hA7 := (Ext.refl w6).al (.cells #[.bool false, .slice B1 (cn N1).length e1, .slice B2 (cn D1).length e2] 52)
      have hE7 := (hE5.tr hb6).tr hA7
      have hY6 := (hY4.ext hb5).ext hb6
      have hly := hY6.lt
      have h4' := ((hr34.ext hb5).ext hb6).ext hA7
      clear x0 x1 x2 x3 y0 y1 y2 y3
      obtain ⟨y0, y1, y2, y3, -⟩ := hY6.facts
      go_wp2_with fail
      refine (hv2 _ (hT.ext hE7) h4').mono ?_
      rintro z w8 ⟨v1, v2, rfl, ho8, ho8', hb8⟩
      obtain ⟨B3, e3, rfl, hn3⟩ := ho8.rd
      obtain ⟨B4, e4, rfl, hr8⟩ := ho8'.rd
      have hP := Bq.new w8 (.bool false) (.slice B3 (cn N2).length e3) (.slice B4 (cn D2).length e4)
      have hA9 := (Ext.refl w8).al (.cells #[.bool false, .slice B3 (cn N2).length e3, .slice B4 (cn D2).length e4] 52)
      have hE9 := (hE7.tr hb8).tr hA9
      have hQ8 := hQ.ext hb8
      have hlq := hQ8.lt
      clear y0 y1 y2 y3 hly
      obtain ⟨q0, q1', q2', -⟩ := hQ8.facts
      go_wp2_with fail
      refine (hz1 B2 e2 _ (((hr6.ext hA7).ext hb8).ext hA9)).mono ?_
      rintro z w10 ⟨rfl, rfl⟩
      go_wp2_with fail
      refine (hz2 B4 e4 _ (hr8.ext hA9)).mono ?_
      rintro z w11 ⟨rfl, rfl⟩
      go_wp2_with fail
      refine (hqc B1 B2 B3 B4 e1 e2 e3 e4 _ (((hn1.ext hA7).ext hb8).ext hA9) (((hr6.ext hA7).ext hb8).ext hA9) (hn3.ext hA9) (hr8.ext hA9)).mono ?_
      rintro z w12 ⟨rfl, hb12⟩
      have hE12 := hE9.tr hb12
      go_wp2_with fail
      refine (awake_c _ (hT.ext hE12) (hM.ext hE12)).mono ?_
      rintro z w13 ⟨rfl, hb13⟩
      go_wp2
      go_ret
      exact ⟨rfl, hE12.tr hb13⟩
    all_goals
      go_wp2_with fail
      refine (hcm _ (h.ext hE4) (h'.ext hE4)).mono ?_
      rintro z w5 ⟨rfl, hb5⟩
      clear x0 x1 x2 x3 hlx
      obtain ⟨x0, x1, x2, x3, -⟩ := (hX4.ext hb5).facts
      obtain ⟨y0, y1, y2, y3, -⟩ := (hY4.ext hb5).facts
      have hE5 := hE4.tr hb5
      go_wp2_with fail
      refine (awake_c _ (hT.ext hE5) (hM.ext hE5)).mono ?_
      rintro z w9 ⟨rfl, hb9⟩
      go_wp2
      go_ret
      exact ⟨rfl, hE5.tr hb9⟩
theorem formatRises_w (k p : Int) (A : Option Addr) (c : Nat) (xs : List Nat) (A' : Option Addr) (c' : Nat) (ys : List Nat) (w : World) (hT : Tab w) (hM : MapT w) (h : Rd w A c xs) (h' : Rd w A' c' ys) :
    Calls Tryd.prog 5 #[.agg #[.int .i64 k, .int .i64 p], .slice A xs.length c, .slice A' ys.length c'] w fun e w' => e = .returned (.bool true) ∧ Ext w w' :=
  formatRises_c k p A A' c c' xs ys w hT hM h h'
end Go.Proofs.YtgkojhhodncpbaaDoor
