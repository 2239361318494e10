/- FormatValue: the walk. -/
import Derived.Test.YtgkojhhodncpbaaDoorT4
import Derived.Test.YtgkojhhodncpbaaDoorY7
import Derived.Test.YtgkojhhodncpbaaDoorY9
import Derived.Test.YtgkojhhodncpbaaDoorT9
import Derived.Test.YtgkojhhodncpbaaDoorG2
set_option linter.unusedVariables false
set_option linter.unusedSimpArgs false
namespace Go.Proofs.YtgkojhhodncpbaaDoor
open Go.RowKit
attribute [local go_sem ↓] Go.wp_at_zero Go.wp_at_succ

theorem odd_gcd {m : Nat} (h : m % 2 = 1) (s : Nat) : Nat.gcd m (2 ^ s) = 1 := by
  have h1 : Nat.Coprime m 2 := by
    show Nat.gcd m 2 = 1
    rw [Nat.gcd_comm, Nat.gcd_rec, h]
    rfl
  exact Nat.Coprime.pow_right s h1
/-- What the program's and the reference's Value answer of one float. -/
theorem value_pair (a : FA) (h64 : W64 a.xs) (hl : a.xs.length ≤ 40) :
    (∃ ec : Int, (ec != 0) = true ∧ (∀ w, Tab w → Rd w a.A a.c a.xs → Calls Tryd.prog 27 #[a.v] w (RatR w ec false 0 0)) ∧
      (∀ w, Rd w a.A a.c a.xs → Calls Tryd.prog 28 #[a.v] w (RatR w ec false 0 0))) ∨
    (∃ neg n d, Nat.gcd n d = 1 ∧ (neg = true → 0 < n) ∧ (cn n).length ≤ 4096 ∧ (cn d).length ≤ 4096 ∧ (∀ w, Tab w → Rd w a.A a.c a.xs → Calls Tryd.prog 27 #[a.v] w (RatR w 0 neg n d)) ∧
      (∀ w, Rd w a.A a.c a.xs → Calls Tryd.prog 28 #[a.v] w (RatR w 0 neg n d))) := by
  have hl' : a.xs.length ≤ 10000000 := by omega
  cases hc : a.can with
  | none =>
    have h0 : capE a = 151 := by unfold capE; rw [if_neg (by omega), hc]; rfl
    have h1 : capF a = ⟨0, false, 0, 0⟩ := by unfold capF; rw [if_neg (by omega), hc]; rfl
    refine .inl ⟨151, rfl, fun w hT h => ?_, fun w h => rval_none a.k a.e a.neg a.A a.c a.xs w h hl hc⟩
    have := value_err a w hT h hl' (by rw [h0]; decide) h1
    rwa [h0] at this
  | some f =>
    have h0 : capE a = 0 := by unfold capE; rw [if_neg (by omega), hc]; rfl
    have h1 : capF a = f := by unfold capF; rw [if_neg (by omega), hc]; rfl
    have hkk : f.kind = a.k := canon_kind hc
    have hok : f.Ok := canon_ok hc
    by_cases hk : f.kind = 0
    · refine .inr ⟨false, 0, 1, by decide, by simp, by rw [show cn 0 = [] from digs_zero B]; simp, by rw [cn_one]; simp, fun w hT h => value_zero a f w hT h hl' h0 h1 hk, fun w h => ?_⟩
      obtain ⟨k, neg, e, A, c, xs⟩ := a
      simp only at hkk hl h
      obtain rfl : k = 0 := by omega
      exact rval_zero e neg A c xs w h hl f hc
    by_cases hk1 : f.kind = 1
    · have hb := canon_fin_bl hc h64 (by omega)
      have hbd : -1048576 ≤ f.exp ∧ f.exp ≤ 1048576 ∧ bl f.mag ≤ 1000000 ∧ (cn f.mag).length ≤ 1000000 := ⟨hok.lo, hok.hi, by omega, by omega⟩
      cases hb1 : decide ((262144 : Int) < (f.exp.toNat : Int) + bl f.mag) with
      | true =>
        refine .inl ⟨2, rfl, fun w hT h => value_big a f w hT h hl' h0 h1 hk1 hbd (.inl hb1), fun w h => ?_⟩
        rw [decide_eq_true_iff] at hb1
        obtain ⟨k, neg, e, A, c, xs⟩ := a
        simp only at hkk hl h
        obtain rfl : k = 1 := by omega
        exact rval_big e neg A c xs w h hl f hc (.inl (by omega))
      | false =>
        cases hb2 : decide ((262144 : Int) < -f.exp + 1) with
        | true =>
          refine .inl ⟨2, rfl, fun w hT h => value_big a f w hT h hl' h0 h1 hk1 hbd (.inr ⟨hb1, hb2⟩), fun w h => ?_⟩
          rw [decide_eq_true_iff] at hb2
          obtain ⟨k, neg, e, A, c, xs⟩ := a
          simp only at hkk hl h
          obtain rfl : k = 1 := by omega
          exact rval_big e neg A c xs w h hl f hc (.inr (by omega))
        | false =>
          have hodd := hok.odd hk1
          refine .inr ⟨f.neg, f.mag * 2 ^ f.exp.toNat, 2 ^ (-f.exp).toNat, ?_, fun _ => Nat.mul_pos (by omega) (Nat.two_pow_pos _), ?_, ?_, fun w hT h => value_fin a f w hT h hl' h0 h1 hk1 hbd hb1 hb2, fun w h => ?_⟩
          · by_cases he : 0 ≤ f.exp
            · rw [show (-f.exp).toNat = 0 by omega, Nat.pow_zero, Nat.gcd_one_right]
            · rw [show f.exp.toNat = 0 by omega, Nat.pow_zero, Nat.mul_one]
              exact odd_gcd hodd _
          · rw [decide_eq_false_iff_not] at hb1
            refine cn_len_pow (m := bl f.mag + f.exp.toNat) ?_ (by omega)
            rw [Nat.pow_add]
            exact Nat.mul_lt_mul_of_pos_right bl_lt (Nat.two_pow_pos _)
          · rw [decide_eq_false_iff_not] at hb2
            exact cn_len_pow (m := (-f.exp).toNat + 1) (Nat.pow_lt_pow_right (by omega) (by omega)) (by omega)
          · rw [decide_eq_false_iff_not] at hb1 hb2
            obtain ⟨k, neg, e, A, c, xs⟩ := a
            simp only at hkk hl h
            obtain rfl : k = 1 := by omega
            exact rval_fin e neg A c xs w h hl f hc (by omega)
    · have hk3 := hok.kind
      exact .inl ⟨4, rfl, fun w hT h => value_none a f w hT h hl' h0 h1 hk hk1, fun w h => rval_inf a.k a.e a.neg a.A a.c a.xs w h hl f hc (by omega)⟩
theorem norat0_c (A1 A2 : Option Addr) (c1 c2 : Nat) (w : World) : Calls Tryd.prog 30 #[ratV false (.slice A1 0 c1) (.slice A2 0 c2)] w fun z w' => z = .returned (.bool true) ∧ Ext w w' := by
  have hA := (Ext.refl w).al (.cells #[.bool false, .slice A1 0 c1, .slice A2 0 c2] 52)
  have hni : ∀ w, Calls Tryd.prog 63 #[.agg #[.bool false, .slice A1 0 c1]] w fun z w' => z = .returned (.bool true) ∧ Ext w w' := by
    intro w
    have hA := (Ext.refl w).al (.cells #[.bool false, .slice A1 0 c1] 50)
    go_enter Tryd.func63, Tryd.ntmps63
    go_wp2
    go_ret
    exact ⟨rfl, hA⟩
  have hQ := Bq.new w (.bool false) (.slice A1 0 c1) (.slice A2 0 c2)
  go_enter Tryd.func30, Tryd.ntmps30
  go_wp2_with fail
  refine (hni _).mono ?_
  rintro z w1 ⟨rfl, hb1⟩
  obtain ⟨q0, q1, q2, -⟩ := (hQ.ext hb1).facts
  go_wp2
  go_ret
  exact ⟨rfl, hA.tr hb1⟩
set_option maxHeartbeats 4000000 in
set_option maxRecDepth 100000 in
theorem formatValue_c (a : FA) (w : World) (hT : Tab w) (hM : MapT w) (h : Rd w a.A a.c a.xs) :
    Calls Tryd.prog 4 #[a.v] w fun e w' => e = .returned (.bool true) ∧ Ext w w' := by
  obtain ⟨hX, hF, hE⟩ := two_boxes w a h
  have hsh := short_c _ _ [a] _ hF
  have hall : [a].all (fun b => decide (b.xs.length ≤ 40)) = decide (a.xs.length ≤ 40) := by simp
  rw [hall] at hsh
  clear hall hF
  have HX := Lib.hid hX
  have HE := Lib.hid hE
  clear hX hE
  by_cases hs : a.xs.length ≤ 40
  rotate_left
  · rw [show decide (a.xs.length ≤ 40) = false by simpa using hs] at hsh
    go_enter Tryd.func4, Tryd.ntmps4
    go_wp2_with (first
      | (go_at_call 26; refine hsh.mono ?_; rintro z w1 ⟨rfl, rfl⟩)
      | (go_at_call 18; refine (awake_c _ (hT.ext HE.out) (hM.ext HE.out)).mono ?_; rintro z w2 ⟨rfl, hb⟩))
    go_ret
    exact ⟨rfl, HE.out.tr hb⟩
  rw [show decide (a.xs.length ≤ 40) = true by simpa using hs] at hsh
  have hth := fun w => their_c a.k a.e a.neg a.A a.xs.length a.c w
  have hpair := value_pair a h.w64 hs
  obtain ⟨kd, neg, e, A, c, xs⟩ := a
  simp only at hsh HX HE h hth hpair hs
  clear hs
  rcases hpair with ⟨ec, hec, hval, hrv⟩ | ⟨qn, n, d, hg, hqn, hl1, hl2, hval, hrv⟩
  · have hnr := fun A1 A2 c1 c2 w => norat0_c A1 A2 c1 c2 w
    go_enter Tryd.func4, Tryd.ntmps4
    go_wp2_with fail
    refine hsh.mono ?_
    rintro z w1 ⟨rfl, rfl⟩
    have hX := HX.out
    have hE := HE.out
    obtain ⟨x0, x1, x2, x3, -⟩ := hX.facts
    generalize ((w.alloc (.cells #[.int .i64 kd, .bool neg, .int .i64 e, .slice A xs.length c] 36)).alloc (.cells #[.int .i64 kd, .bool neg, .int .i64 e, .slice A xs.length c] 36)) = W at *
    clear HX HE hsh
    go_wp2_with fail
    refine (hval _ (hT.ext hE) (h.ext hE)).mono ?_
    rintro z w2 ⟨v1, v2, rfl, ho1, ho2, hb2⟩
    rw [show cn 0 = [] from digs_zero B] at ho1 ho2
    obtain ⟨B1, d1, rfl, -⟩ := ho1.rd
    obtain ⟨B2, d2, rfl, -⟩ := ho2.rd
    simp only [List.length_nil]
    have hQ := Bq.new w2 (.bool false) (.slice B1 0 d1) (.slice B2 0 d2)
    have hA3 := (Ext.refl w2).al (.cells #[.bool false, .slice B1 0 d1, .slice B2 0 d2] 52)
    have hX2 := hX.ext hb2
    have hlx := hX2.lt
    clear x0 x1 x2 x3
    obtain ⟨x0, x1, x2, x3, -⟩ := hX2.facts
    go_wp2_with fail
    have hE3 := (hE.tr hb2).tr hA3
    generalize w2.alloc (.cells #[.bool false, .slice B1 0 d1, .slice B2 0 d2] 52) = V at *
    refine (hth _).mono ?_
    rintro z w4 ⟨rfl, hb4⟩
    clear x0 x1 x2 x3 hlx
    go_wp2_with fail
    refine (hrv _ (h.ext (hE3.tr hb4))).mono ?_
    rintro z w5 ⟨v1, v2, rfl, ho1, ho2, hb5⟩
    rw [show cn 0 = [] from digs_zero B] at ho1 ho2
    obtain ⟨B3, d3, rfl, -⟩ := ho1.rd
    obtain ⟨B4, d4, rfl, -⟩ := ho2.rd
    simp only [List.length_nil]
    have hE5 := ((hE3.tr hb4).tr hb5).al (.cells #[.bool false, .slice B3 0 d3, .slice B4 0 d4] 52)
    have hQ5 := hQ.ext (hb4.tr hb5)
    have hlq := hQ5.lt
    obtain ⟨q0, q1, q2, -⟩ := hQ5.facts
    go_wp2_with fail
    refine (hnr _ _ _ _ _).mono ?_
    rintro z w6 ⟨rfl, hb6⟩
    have hE6 := hE5.tr hb6
    go_wp2_with fail
    refine (awake_c _ (hT.ext hE6) (hM.ext hE6)).mono ?_
    rintro z w7 ⟨rfl, hb7⟩
    go_wp2
    go_ret
    exact ⟨rfl, hE6.tr hb7⟩
  · have his := fun A1 A2 B1 B2 c1 c2 e1 e2 w h1 h2 k1 k2 => ris12_c qn n d hqn A1 A2 c1 c2 w hg B1 B2 e1 e2 (by omega) (by omega) h1 h2 k1 k2
    clear hg hqn hl1 hl2
    go_enter Tryd.func4, Tryd.ntmps4
    go_wp2_with fail
    refine hsh.mono ?_
    rintro z w1 ⟨rfl, rfl⟩
    have hX := HX.out
    have hE := HE.out
    obtain ⟨x0, x1, x2, x3, -⟩ := hX.facts
    generalize ((w.alloc (.cells #[.int .i64 kd, .bool neg, .int .i64 e, .slice A xs.length c] 36)).alloc (.cells #[.int .i64 kd, .bool neg, .int .i64 e, .slice A xs.length c] 36)) = W at *
    clear HX HE hsh
    go_wp2_with fail
    refine (hval _ (hT.ext hE) (h.ext hE)).mono ?_
    rintro z w2 ⟨v1, v2, rfl, ho1, ho2, hb2⟩
    obtain ⟨B1, d1, rfl, r1⟩ := ho1.rd
    obtain ⟨B2, d2, rfl, r2⟩ := ho2.rd
    have hQ := Bq.new w2 (.bool qn) (.slice B1 (cn n).length d1) (.slice B2 (cn d).length d2)
    have hA3 := (Ext.refl w2).al (.cells #[.bool qn, .slice B1 (cn n).length d1, .slice B2 (cn d).length d2] 52)
    have hX2 := hX.ext hb2
    have hlx := hX2.lt
    clear x0 x1 x2 x3
    obtain ⟨x0, x1, x2, x3, -⟩ := hX2.facts
    go_wp2_with fail
    have hE3 := (hE.tr hb2).tr hA3
    replace r1 := r1.ext hA3
    replace r2 := r2.ext hA3
    generalize w2.alloc (.cells #[.bool qn, .slice B1 (cn n).length d1, .slice B2 (cn d).length d2] 52) = V at *
    refine (hth _).mono ?_
    rintro z w4 ⟨rfl, hb4⟩
    clear x0 x1 x2 x3 hlx
    go_wp2_with fail
    refine (hrv _ (h.ext (hE3.tr hb4))).mono ?_
    rintro z w5 ⟨v1, v2, rfl, ho1, ho2, hb5⟩
    obtain ⟨B3, d3, rfl, r3⟩ := ho1.rd
    obtain ⟨B4, d4, rfl, r4⟩ := ho2.rd
    have hA5 := (Ext.refl w5).al (.cells #[.bool qn, .slice B3 (cn n).length d3, .slice B4 (cn d).length d4] 52)
    have hE5 := ((hE3.tr hb4).tr hb5).tr hA5
    have hQ5 := hQ.ext (hb4.tr hb5)
    have hlq := hQ5.lt
    obtain ⟨q0, q1, q2, -⟩ := hQ5.facts
    have hbb := (hb4.tr hb5).tr hA5
    go_wp2_with fail
    refine (his _ _ _ _ _ _ _ _ _ (r1.ext hbb) (r3.ext hA5) (r2.ext hbb) (r4.ext hA5)).mono ?_
    rintro z w6 ⟨rfl, hb6⟩
    have hE6 := hE5.tr hb6
    go_wp2_with fail
    refine (awake_c _ (hT.ext hE6) (hM.ext hE6)).mono ?_
    rintro z w7 ⟨rfl, hb7⟩
    go_wp2
    go_ret
    exact ⟨rfl, hE6.tr hb7⟩
end Go.Proofs.YtgkojhhodncpbaaDoor
