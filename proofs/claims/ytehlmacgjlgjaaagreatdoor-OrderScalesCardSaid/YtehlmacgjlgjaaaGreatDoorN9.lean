/- fin.Make, Float, Args; order.Scale, Exponent; the error of a format, a rounding and floats (chapter 16); scaling as a function of floats. -/
import Derived.Test.YtehlmacgjlgjaaaGreatDoorN3
import Derived.Test.YtehlmacgjlgjaaaGreatDoorV5
import Derived.Test.YtehlmacgjlgjaaaGreatDoorOM
import Derived.Test.YtehlmacgjlgjaaaGreatDoorQ0
import Derived.Test.YtehlmacgjlgjaaaGreatDoorOF
import Derived.Test.YtehlmacgjlgjaaaGreatDoorR4
import Derived.Test.YtehlmacgjlgjaaaGreatDoorTG
set_option linter.unusedVariables false
set_option linter.unusedSimpArgs false
namespace Go.Proofs.YtehlmacgjlgjaaaGreatDoor
open Go.RowKit
attribute [local go_sem ↓] Go.wp_at_zero Go.wp_at_succ

set_option maxHeartbeats 2000000 in
set_option maxRecDepth 100000 in
theorem make_c (neg : Bool) (A : Option Addr) (c n : Nat) (u : Int) (w : World) (hT : Tab w) (h : Rd w A c (cn n)) (hl : (cn n).length ≤ 10000) (hu1 : -100000000 ≤ u) (hu2 : u ≤ 100000000) :
    Calls Tryz.prog 56 #[.bool neg, .slice A (cn n).length c, .int .i64 u] w (FlrR w (mkF neg n u)) := by
  have hY := Bx.new w (.int .i64 0) (.bool false) (.int .i64 0) (.slice none 0 0)
  have hE := (Ext.refl w).al (.cells #[.int .i64 0, .bool false, .int .i64 0, .slice none 0 0] 29)
  have hz := fun w h => zero_c A c (cn n) w h
  have htr := fun w h hT => trailing_c A c (cn n) w h (by omega) hT
  rw [val_cn] at hz htr
  have htz : tz n ≤ 640000 := by
    have h1 := tz_le_bl n
    have h2 := bl_val_le (W64.cn n)
    rw [val_cn] at h2
    omega
  have hsh := fun w h => shr_c A c (cn n) (tz n) w h (by omega) (by omega)
  rw [val_cn] at hsh
  unfold mkF FlrR
  have hly := hY.lt
  by_cases hn : n = 0
  · rw [if_pos hn]
    rw [decide_eq_true hn] at hz
    have hY3 := hY.put (.int .i64 0) (.bool neg) (.int .i64 0) (.slice none 0 0)
    have hE3 := hE.put (g := w.heap.size) (Nat.le_refl _) (.int .i64 0) (.bool neg) (.int .i64 0) (.slice none 0 0)
    have HY := Lib.hid hY
    have HE := Lib.hid hE
    clear hY hE hn hY3 hE3
    generalize (cn n) = X at *
    go_enter Tryz.func56, Tryz.ntmps56
    go_wp2_with fail
    have hY := HY.out
    have hE := HE.out
    generalize w.alloc (.cells #[.int .i64 0, .bool false, .int .i64 0, .slice none 0 0] 29) = W at *
    refine (hz _ (h.ext hE)).mono ?_
    rintro z w1 ⟨rfl, m, rfl⟩
    have hY1 := hY.ext ((Ext.refl W).drewN m)
    have hE1 := hE.drewN m
    have hY3 := hY1.put (.int .i64 0) (.bool neg) (.int .i64 0) (.slice none 0 0)
    have hE3 := hE1.put (g := w.heap.size) (Nat.le_refl _) (.int .i64 0) (.bool neg) (.int .i64 0) (.slice none 0 0)
    have HY3 := Lib.hid hY3
    have HE3 := Lib.hid hE3
    clear hY3 hE3
    obtain ⟨y0, y1, y2, y3, yf⟩ := hY1.facts
    go_wp2_with fail
    obtain ⟨r0, r1, r2, r3, rf⟩ := HY3.out.facts
    refine bodyPost_ret (v := flV 0 neg 0 (.slice none 0 0)) (by simp [results, Tryz.results56, go_sem, r0, r1, r2, r3]) rfl ?_
    exact ⟨_, rfl, ⟨_, rfl, by rw [show cn 0 = [] from digs_zero B]; exact Own.nil _ _⟩, HE3.out⟩
  · rw [if_neg hn]
    rw [decide_eq_false hn] at hz
    have hw1 : IntKind.i64.wrap (u + (tz n : Int)) = u + (tz n : Int) := by rw [IntKind.wrap_i64]; omega
    have HY := Lib.hid hY
    have HE := Lib.hid hE
    clear hY hE hn
    generalize tz n = t at *
    generalize n / 2 ^ t = q at *
    generalize (cn n) = X at *
    go_enter Tryz.func56, Tryz.ntmps56
    go_wp2_with fail
    have hY := HY.out
    have hE := HE.out
    generalize w.alloc (.cells #[.int .i64 0, .bool false, .int .i64 0, .slice none 0 0] 29) = W at *
    refine (hz _ (h.ext hE)).mono ?_
    rintro z w1 ⟨rfl, m, rfl⟩
    go_wp2_with fail
    refine (htr _ (h.ext (hE.drewN _)) (hT.ext (hE.drewN _))).mono ?_
    rintro z w1 ⟨rfl, m', rfl⟩
    go_wp2_with fail
    refine (hsh _ (h.ext (hE.drewN _))).mono ?_
    rintro z w4 ⟨v, rfl, ho, hb⟩
    obtain ⟨A4, c4, rfl, -⟩ := ho.rd
    have hb' := ((Ext.refl W).drewN (m + m')).tr hb
    have hY1 := hY.ext hb'
    have hE1 := hE.tr hb'
    have hlW := hY.lt
    have hY3 := hY1.put (.int .i64 1) (.bool neg) (.int .i64 (u + t)) (.slice A4 (cn q).length c4)
    have hE3 := hE1.put (g := w.heap.size) (Nat.le_refl _) (.int .i64 1) (.bool neg) (.int .i64 (u + t)) (.slice A4 (cn q).length c4)
    have ho3 := (ho.putBelow (g := w.heap.size) (by simpa using hlW) (.int .i64 1) (.bool neg) (.int .i64 (u + t)) (.slice A4 (cn q).length c4)).low (b := w.heap.size) (by have := hE.size; simpa using this)
    have HY3 := Lib.hid hY3
    have HE3 := Lib.hid hE3
    have HO3 := Lib.hid ho3
    clear hY3 hE3 ho3
    obtain ⟨y0, y1, y2, y3, yf⟩ := hY1.facts
    go_wp2_with fail
    obtain ⟨r0, r1, r2, r3, rf⟩ := HY3.out.facts
    refine bodyPost_ret (v := flV 1 neg (u + t) (.slice A4 (cn q).length c4)) (by simp [results, Tryz.results56, go_sem, r0, r1, r2, r3]) rfl ?_
    exact ⟨_, rfl, ⟨_, rfl, HO3.out⟩, HE3.out⟩
theorem boxesFY (w : World) (k p : Int) : ∀ W, W = ((w.alloc (.cells #[.int .i64 k, .int .i64 p] 23)).alloc (.cells #[.int .i64 0, .bool false, .int .i64 0, .slice none 0 0] 29)) →
    Bf W w.heap.size (.int .i64 k) (.int .i64 p) ∧ Bx W (w.heap.size + 1) (.int .i64 0) (.bool false) (.int .i64 0) (.slice none 0 0) ∧ Ext w W := by
  rintro W rfl
  have x2 := Bx.new (w.alloc (.cells #[.int .i64 k, .int .i64 p] 23)) (.int .i64 0) (.bool false) (.int .i64 0) (.slice none 0 0)
  rw [World.size_alloc] at x2
  exact ⟨(Bf.new w _ _).ext ((Ext.refl _).al _), x2, ((Ext.refl w).al _).al _⟩
theorem or12 : bits BinOp.or IntKind.i64 1 2 = 3 := by decide
theorem step_bd {k p e : Int} (hR : Rgt k p) (h1 : -2100000 ≤ e) (h2 : e ≤ 2300000) : -2200000 ≤ stepN k p e ∧ stepN k p e ≤ 2300000 := by
  obtain ⟨r1, r2, r3, r4⟩ := hR
  have hg := gr_bd r1 r2
  have hle : le k = 1 - gr k := rfl
  have hti : ti k p = le k - (p - 1) := rfl
  unfold stepN
  split <;> omega
set_option exponentiation.threshold 1000 in
theorem cn_len_pow2 {n e : Nat} (h : n ≤ 2 ^ e) (he : e ≤ 256) : (cn n).length ≤ 5 := by
  refine (cn_len_le _ 5).2 ?_
  rw [B_two, ← Nat.pow_mul]
  exact Nat.lt_of_le_of_lt h (Nat.pow_lt_pow_right (by omega) (by omega))
set_option maxHeartbeats 4000000 in
set_option maxRecDepth 100000 in
theorem float_c (k p r : Int) (neg : Bool) (A : Option Addr) (c m : Nat) (exp : Int) (w : World) (hR : Rgt k p) (hr0 : 0 ≤ r) (hr4 : r ≤ 4) (hT : Tab w) (hM : MoreT w) (h : Rd w A c (cn m)) (hm : 0 < m) (hl : (cn m).length ≤ 4096)
    (hx1 : -2000000 ≤ exp) (hx2 : exp ≤ 2000000) :
    Calls Tryz.prog 26 #[.agg #[.int .i64 k, .int .i64 p], .int .i64 r, .bool neg, .slice A (cn m).length c, .int .i64 exp, .bool false] w (FErr w (fltK k p r neg m exp) (fltF k p r neg m exp)) := by
  obtain ⟨hF, hY, hE⟩ := boxesFY w k p _ rfl
  have hbm : bl m ≤ 262144 := by
    have h2 := bl_val_le (W64.cn m)
    rw [val_cn] at h2
    omega
  have hNb := fN_bits (r := r) (neg := neg) (exp := exp) hR hm
  have hcb := cut_bits (exp := exp) hR hm
  have hxr := cutX_range m (fU k p m exp - exp)
  have hlen1 := fun w h => len_c A c (cn m) w h (by omega)
  rw [val_cn] at hlen1
  have hrg := fun w => range_yes k p w hR
  have hlm := fun w => limits_yes k p w hR
  have hgt := fun w => greatest_c r neg hr0 hr4 w
  have hub := step_bd (e := exp + bl m - 1) hR (by omega) (by omega)
  have hst := fun w => step_c k p (exp + bl m - 1) w hR (by omega) (by omega)
  have hpp : p.toNat ≤ 256 := by have := hR.2.2.2; omega
  have hct := fun w hT h => cut_c A c (cn m) (fU k p m exp - exp) w hT h (by omega) (by unfold fU; omega) (by unfold fU; omega)
  rw [val_cn] at hct
  have hn0 : (cn (cutM m (fU k p m exp - exp))).length ≤ 5 := by
    refine cn_len_pow2 (e := p.toNat) ?_ hpp
    have : bl (cutM m (fU k p m exp - exp)) ≤ p.toNat := by
      obtain ⟨c1, c2, -⟩ := hcb
      rcases Int.lt_or_le (exp + bl m - 1) (le k) with hh | hh
      · have := c2 hh; omega
      · have := c1 hh; omega
    exact Nat.le_of_lt ((bl_le _ _).1 this)
  have hup := fun A' c' w hM h => up_c r neg A' c' (cn (cutM m (fU k p m exp - exp))) (cutX m (fU k p m exp - exp)) hr0 hr4 hxr.1 hxr.2 w hM h (by omega)
  rw [val_cn] at hup
  have hNl : (cn (fN k p r neg m exp)).length ≤ 5 := cn_len_pow2 hNb hpp
  have hbN : bl (fN k p r neg m exp) ≤ 320 := by
    have h2 := bl_val_le (W64.cn (fN k p r neg m exp))
    rw [val_cn] at h2
    omega
  have hlen2 := fun A' c' w h => len_c A' c' (cn (fN k p r neg m exp)) w h (by omega)
  rw [val_cn] at hlen2
  have hmk := fun A' c' w hT h => make_c neg A' c' (fN k p r neg m exp) (fU k p m exp) w hT h (by omega) (by unfold fU; omega) (by unfold fU; omega)
  have hfn : upN r neg (cutM m (fU k p m exp - exp)) (cutX m (fU k p m exp - exp)) = fN k p r neg m exp := rfl
  rw [hfn] at hup
  have hfu : stepN k p (exp + bl m - 1) = fU k p m exp := rfl
  rw [hfu] at hst hub
  obtain ⟨F, hF'⟩ : ∃ F, fltF k p r neg m exp = F := ⟨_, rfl⟩
  obtain ⟨K, hK'⟩ : ∃ K, fltK k p r neg m exp = K := ⟨_, rfl⟩
  rw [hF', hK']
  unfold fltF at hF'
  unfold fltK at hK'
  clear hfn hfu hcb hNb hn0
  generalize fN k p r neg m exp = N at *
  generalize fU k p m exp = U at *
  obtain ⟨e, he⟩ : ∃ e, exp + (bl m : Int) - 1 = e := ⟨_, rfl⟩
  rw [he] at hst hK'
  obtain ⟨s, hs⟩ : ∃ s, U - exp = s := ⟨_, rfl⟩
  rw [hs] at hct hup hxr hK'
  obtain ⟨r1, r2, r3, r4⟩ := hR
  have hgb := gr_bd r1 r2
  have hleb : le k = 1 - gr k := rfl
  have hgk1 : -16383 ≤ le k := by omega
  have hgk2 : le k ≤ 0 := by omega
  clear hleb
  generalize cutM m s = n0 at *
  generalize cutX m s = x at *
  generalize (cn m) = X at *
  generalize bl m = bm at *
  generalize bl N = bN at *
  have HF' := Lib.hid hF'
  have HK' := Lib.hid hK'
  have HF := Lib.hid hF
  have HY := Lib.hid hY
  have HE := Lib.hid hE
  clear hF hY hE hF' hK' hm
  go_enter Tryz.func26, Tryz.ntmps26
  go_wp2_with fail
  have hF := HF.out
  have hY := HY.out
  have hE := HE.out
  clear HF HY HE
  generalize ((w.alloc (.cells #[.int .i64 k, .int .i64 p] 23)).alloc (.cells #[.int .i64 0, .bool false, .int .i64 0, .slice none 0 0] 29)) = W at *
  refine (hrg _).mono ?_
  rintro z w1 ⟨rfl, hb1⟩
  have hE1 := hE.tr hb1
  have hF1 := hF.ext hb1
  have hY1 := hY.ext hb1
  obtain ⟨f0, f1⟩ := hF1.facts
  go_wp2_with fail
  refine (hlen1 _ (h.ext hE1)).mono ?_
  rintro z w2 ⟨rfl, n1, rfl⟩
  go_wp2_with fail
  refine (hst _).mono ?_
  rintro z w3 ⟨rfl, hb3⟩
  have hb3' := ((Ext.refl w1).drewN n1).tr hb3
  have hE3 := hE1.tr hb3'
  have hF3 := hF1.ext hb3'
  have hY3 := hY1.ext hb3'
  clear f0 f1
  obtain ⟨f0, f1⟩ := hF3.facts
  go_wp2_with fail
  refine (hct _ (hT.ext hE3) (h.ext hE3)).mono ?_
  rintro z w4 ⟨v4, rfl, ho4, hb4⟩
  obtain ⟨A4, c4, rfl, hr4'⟩ := ho4.rd
  have hE4 := hE3.tr hb4
  go_wp2_with fail
  refine (hup A4 c4 _ (hM.ext hE4) hr4').mono ?_
  rintro z w5 ⟨v5, rfl, ho5, hb5⟩
  obtain ⟨A5, c5, rfl, hr5⟩ := ho5.rd
  have hE5 := hE4.tr hb5
  go_wp2_with fail
  refine (hlen2 A5 c5 _ hr5).mono ?_
  rintro z w6 ⟨rfl, n6, rfl⟩
  have hE6 := hE5.drewN n6
  have hb6 := (hb4.tr hb5).drewN n6
  have hF6 := hF3.ext hb6
  have hY6 := hY3.ext hb6
  have hr6 := hr5.ext ((Ext.refl w5).drewN n6)
  clear f0 f1 hF1 hY1 hF3 hY3 hF hY
  obtain ⟨f0, f1⟩ := hF6.facts
  obtain ⟨y0, y1, y2, y3, yf⟩ := hY6.facts
  have hsW := hE6.size
  have hly := hY6.lt
  by_cases hg : gr k < U + bN - 1
  · have hgd : decide (gr k < U + (bN : Int) - 1) = true := decide_eq_true hg
    have hF' := HF'.out
    have hK' := HK'.out
    rw [if_pos hg] at hF' hK'
    subst hK'
    unfold overF at hF'
    clear hg
    go_wp2_with fail
    refine (hgt _).mono ?_
    rintro z w7 ⟨rfl, rfl⟩
    by_cases hgb : grB r neg = true
    · rw [hgb]
      rw [if_pos hgb] at hF'
      subst hF'
      clear hgb
      go_wp2_with fail
      refine (hlm _).mono ?_
      rintro z w8 ⟨u1, u2, u3, rfl, ⟨v1, rfl, ho1⟩, ⟨v2, rfl, ho2⟩, ⟨v3, rfl, ho3⟩, hb8⟩
      simp only at ho1 ho2 ho3 ⊢
      generalize gr k - p + 1 = T at *
      obtain ⟨A1, c1, rfl, -⟩ := ho1.rd
      obtain ⟨A2, c2, rfl, -⟩ := ho2.rd
      obtain ⟨A3, c3, rfl, -⟩ := ho3.rd
      clear ho2 ho3
      generalize cn 1 = O1 at *
      generalize hX1 : cn (2 ^ p.toNat - 1) = X1 at *
      have HX1 := Lib.hid hX1
      clear hX1
      have hY8 := hY6.ext hb8
      have hE8 := hE6.tr hb8
      have hs8 := hb8.size
      clear f0 f1 y0 y1 y2 y3 yf
      have hl1 : w.heap.size + 1 < w8.heap.size + 1 := by omega
      have hl2 : w.heap.size + 1 < w8.heap.size + 1 + 1 := by omega
      have hl3 : w.heap.size + 1 < w8.heap.size + 1 + 1 + 1 := by omega
      have hl0 : w.heap.size + 1 < w8.heap.size := by omega
      have hR2 := (((hY8.put (.int .i64 1) (.bool neg) (.int .i64 T) (.slice A1 X1.length c1)).ext ((Ext.refl _).al (.cells #[.int .i64 1, .bool neg, .int .i64 T, .slice A1 X1.length c1] 29))).ext ((Ext.refl _).al (.cells #[.int .i64 1, .bool false, .int .i64 (le k), .slice A2 O1.length c2] 29))).ext ((Ext.refl _).al (.cells #[.int .i64 1, .bool false, .int .i64 (ti k p), .slice A3 O1.length c3] 29))
      have hE2 := (((hE8.put (g := w.heap.size + 1) (by omega) (.int .i64 1) (.bool neg) (.int .i64 T) (.slice A1 X1.length c1)).al (.cells #[.int .i64 1, .bool neg, .int .i64 T, .slice A1 X1.length c1] 29)).al (.cells #[.int .i64 1, .bool false, .int .i64 (le k), .slice A2 O1.length c2] 29)).al (.cells #[.int .i64 1, .bool false, .int .i64 (ti k p), .slice A3 O1.length c3] 29)
      have ho4 := ((((ho1.putBelow (g := w.heap.size + 1) hly (.int .i64 1) (.bool neg) (.int .i64 T) (.slice A1 X1.length c1)).ext ((Ext.refl _).al (.cells #[.int .i64 1, .bool neg, .int .i64 T, .slice A1 X1.length c1] 29))).ext ((Ext.refl _).al (.cells #[.int .i64 1, .bool false, .int .i64 (le k), .slice A2 O1.length c2] 29))).ext ((Ext.refl _).al (.cells #[.int .i64 1, .bool false, .int .i64 (ti k p), .slice A3 O1.length c3] 29))).low (b := w.heap.size) hsW
      have HR2 := Lib.hid hR2
      have HE2 := Lib.hid hE2
      have HO4 := Lib.hid ho4
      clear hR2 hE2 ho4
      obtain ⟨y0, y1, y2, y3, yf⟩ := hY8.facts
      go_wp2
      obtain ⟨s0, s1, s2, s3, -⟩ := HR2.out.facts
      refine bodyPost_ret (v := .tuple #[flV 1 neg T (.slice A1 X1.length c1), .int .i64 5]) (by simp [results, Tryz.results26, go_sem, s0, s1, s2, s3]) rfl ?_
      exact ⟨_, rfl, ⟨_, rfl, by show Own _ _ _ (cn (2 ^ p.toNat - 1)); rw [HX1.out]; exact HO4.out⟩, HE2.out⟩
    · rw [show grB r neg = false by simpa using hgb]
      rw [if_neg hgb] at hF'
      subst hF'
      clear hgb
      have hY7 := hY6.put (.int .i64 2) (.bool neg) (.int .i64 0) (.slice none 0 0)
      have hE7 := hE6.put (g := w.heap.size + 1) (by omega) (.int .i64 2) (.bool neg) (.int .i64 0) (.slice none 0 0)
      have HY7 := Lib.hid hY7
      have HE7 := Lib.hid hE7
      clear hY7 hE7
      go_wp2_with fail
      obtain ⟨s0, s1, s2, s3, -⟩ := HY7.out.facts
      refine bodyPost_ret (v := .tuple #[flV 2 neg 0 (.slice none 0 0), .int .i64 5]) (by simp [results, Tryz.results26, go_sem, s0, s1, s2, s3]) rfl ?_
      exact ⟨_, rfl, ⟨_, rfl, by rw [show cn 0 = [] from digs_zero B]; exact Own.nil _ _⟩, HE7.out⟩
  · have hgd : decide (gr k < U + (bN : Int) - 1) = false := decide_eq_false hg
    have hF' := HF'.out
    have hK' := HK'.out
    rw [if_neg hg] at hF' hK'
    subst hF'
    clear hg
    have hxc : x = 0 ∨ x = 1 ∨ x = 2 ∨ x = 3 := by omega
    have hfin : ∀ w8 A' c', Tab w8 → Rd w8 A' c' (cn N) → Calls Tryz.prog 56 #[.bool neg, .slice A' (cn N).length c', .int .i64 U] w8 (FlrR w8 (mkF neg N U)) := fun w8 A' c' hT h => hmk A' c' w8 hT h
    generalize mkF neg N U = F at *
    by_cases hx0 : x = 0
    · rw [if_pos hx0] at hK'
      subst hK'
      subst hx0
      go_wp2_with fail
      refine (hfin _ _ _ (hT.ext hE6) hr6).mono ?_
      rintro z w8 ⟨u, rfl, ⟨v, rfl, ho8⟩, hb8⟩
      obtain ⟨A8, c8, rfl, -⟩ := ho8.rd
      have hY8 := hY6.ext hb8
      have hE8 := hE6.tr hb8
      have hY9 := hY8.put (.int .i64 F.kind) (.bool F.neg) (.int .i64 F.exp) (.slice A8 (cn F.mag).length c8)
      have hE9 := hE8.put (g := w.heap.size + 1) (by omega) (.int .i64 F.kind) (.bool F.neg) (.int .i64 F.exp) (.slice A8 (cn F.mag).length c8)
      have ho9 := (ho8.putBelow (g := w.heap.size + 1) hly (.int .i64 F.kind) (.bool F.neg) (.int .i64 F.exp) (.slice A8 (cn F.mag).length c8)).low (b := w.heap.size) hsW
      have HY9 := Lib.hid hY9
      have HE9 := Lib.hid hE9
      have HO9 := Lib.hid ho9
      clear hY9 hE9 ho9 f0 f1 y0 y1 y2 y3 yf
      obtain ⟨y0, y1, y2, y3, yf⟩ := hY8.facts
      go_wp2_with fail
      obtain ⟨s0, s1, s2, s3, -⟩ := HY9.out.facts
      refine bodyPost_ret (v := .tuple #[flV F.kind F.neg F.exp (.slice A8 (cn F.mag).length c8), .int .i64 0]) (by simp [results, Tryz.results26, go_sem, s0, s1, s2, s3]) rfl ?_
      exact ⟨_, rfl, ⟨_, rfl, HO9.out⟩, HE9.out⟩
    rw [if_neg hx0] at hK'
    have hxb : (x == 0) = false := by rw [beq_eq_false_iff_ne]; exact hx0
    clear hxc
    by_cases hel : e < le k
    · rw [if_pos hel] at hK'
      subst hK'
      have hed : decide (e < le k) = true := decide_eq_true hel
      clear hx0 hel
      go_wp2_with fail
      refine (hfin _ _ _ (hT.ext hE6) hr6).mono ?_
      rintro z w8 ⟨u, rfl, ⟨v, rfl, ho8⟩, hb8⟩
      obtain ⟨A8, c8, rfl, -⟩ := ho8.rd
      have hY8 := hY6.ext hb8
      have hE8 := hE6.tr hb8
      have hY9 := hY8.put (.int .i64 F.kind) (.bool F.neg) (.int .i64 F.exp) (.slice A8 (cn F.mag).length c8)
      have hE9 := hE8.put (g := w.heap.size + 1) (by omega) (.int .i64 F.kind) (.bool F.neg) (.int .i64 F.exp) (.slice A8 (cn F.mag).length c8)
      have ho9 := (ho8.putBelow (g := w.heap.size + 1) hly (.int .i64 F.kind) (.bool F.neg) (.int .i64 F.exp) (.slice A8 (cn F.mag).length c8)).low (b := w.heap.size) hsW
      have HY9 := Lib.hid hY9
      have HE9 := Lib.hid hE9
      have HO9 := Lib.hid ho9
      clear hY9 hE9 ho9 f0 f1 y0 y1 y2 y3 yf
      obtain ⟨y0, y1, y2, y3, yf⟩ := hY8.facts
      go_wp2_with fail
      obtain ⟨s0, s1, s2, s3, -⟩ := HY9.out.facts
      refine bodyPost_ret (v := .tuple #[flV F.kind F.neg F.exp (.slice A8 (cn F.mag).length c8), .int .i64 3]) (by simp [results, Tryz.results26, go_sem, s0, s1, s2, s3, or12]) rfl ?_
      exact ⟨_, rfl, ⟨_, rfl, HO9.out⟩, HE9.out⟩
    · rw [if_neg hel] at hK'
      subst hK'
      have hed : decide (e < le k) = false := decide_eq_false hel
      clear hx0 hel
      go_wp2_with fail
      refine (hfin _ _ _ (hT.ext hE6) hr6).mono ?_
      rintro z w8 ⟨u, rfl, ⟨v, rfl, ho8⟩, hb8⟩
      obtain ⟨A8, c8, rfl, -⟩ := ho8.rd
      have hY8 := hY6.ext hb8
      have hE8 := hE6.tr hb8
      have hY9 := hY8.put (.int .i64 F.kind) (.bool F.neg) (.int .i64 F.exp) (.slice A8 (cn F.mag).length c8)
      have hE9 := hE8.put (g := w.heap.size + 1) (by omega) (.int .i64 F.kind) (.bool F.neg) (.int .i64 F.exp) (.slice A8 (cn F.mag).length c8)
      have ho9 := (ho8.putBelow (g := w.heap.size + 1) hly (.int .i64 F.kind) (.bool F.neg) (.int .i64 F.exp) (.slice A8 (cn F.mag).length c8)).low (b := w.heap.size) hsW
      have HY9 := Lib.hid hY9
      have HE9 := Lib.hid hE9
      have HO9 := Lib.hid ho9
      clear hY9 hE9 ho9 f0 f1 y0 y1 y2 y3 yf
      obtain ⟨y0, y1, y2, y3, yf⟩ := hY8.facts
      go_wp2_with fail
      obtain ⟨s0, s1, s2, s3, -⟩ := HY9.out.facts
      refine bodyPost_ret (v := .tuple #[flV F.kind F.neg F.exp (.slice A8 (cn F.mag).length c8), .int .i64 1]) (by simp [results, Tryz.results26, go_sem, s0, s1, s2, s3]) rfl ?_
      exact ⟨_, rfl, ⟨_, rfl, HO9.out⟩, HE9.out⟩
end Go.Proofs.YtehlmacgjlgjaaaGreatDoor
namespace Go.Proofs.YtehlmacgjlgjaaaGreatDoor
open Go.RowKit
attribute [local go_sem ↓] Go.wp_at_zero Go.wp_at_succ

theorem small_all {l : List FA} (h : l.any (fun a => decide (4096 < a.xs.length)) = false) (i : Nat) (hi : i < l.length) : ¬ 4096 < l[i].xs.length := fun hb => by
  rw [any_of_large i hi hb] at h
  cases h
set_option maxHeartbeats 4000000 in
set_option maxRecDepth 100000 in
theorem args_arg (k p r : Int) (out : Bool) (A : Option Addr) (c : Nat) (l : List FA) (hb : l.any (fun a => decide (4096 < a.xs.length)) = false) (hro : ¬ (0 ≤ r ∧ r ≤ 4) ∨ out = true) (w : World) (h : FRd w A c l) :
    Calls Tryz.prog 25 #[.agg #[.int .i64 k, .int .i64 p], .int .i64 r, .bool out, .slice A l.length c] w fun e w' => e = .returned (.tuple #[.slice none 0 0, .int .i64 1]) ∧ Ext w w' := by
  have hll := h.len
  have hrt := fun w => right_c r w
  have hE := (Ext.refl w).al (Obj.cells #[Value.int IntKind.i64 k, Value.int IntKind.i64 p] 23)
  have hsm := small_all hb
  have HE := Lib.hid hE
  clear hE hb
  go_enter Tryz.func25, Tryz.ntmps25
  go_wp2
  go_loopw [14] (fun v16 wr => AgL w l v16 wr) (fun v _ => l.length - (intOf v).toNat)
  case atStart => exact ⟨0, Nat.zero_le _, rfl, fun j _ hj => absurd hj (by omega), HE.out⟩
  case round =>
    clear HE
    obtain ⟨i, hi, rfl, hsm', hE⟩ := hrel
    have HSM := Lib.hid hsm'
    clear hsm'
    by_cases hlt : i < l.length
    · obtain ⟨ad, rfl, h0, h1, h2, h3, hr⟩ := h.cell i hlt
      replace h0 := hE.cell h0
      replace h1 := hE.cell h1
      replace h2 := hE.cell h2
      replace h3 := hE.cell h3
      have hidx : ((i : Int) * 4).toNat = i * 4 := by omega
      have hbig := hsm i hlt
      have hd : decide ((4096 : Int) < (l[i].xs.length : Int)) = false := decide_eq_false (by omega)
      have HSM2 := Lib.hid hsm
      clear hsm hbig
      go_wp2
      go_roundw
      case rel => exact ⟨i + 1, hlt, by go_num, fun j hj _ => HSM2.out j hj, hE.al _⟩
      case measure => simp [intOf]; omega
    · obtain rfl : i = l.length := by omega
      clear HSM hsm
      by_cases hr : 0 ≤ r ∧ r ≤ 4
      · have ho : out = true := hro.resolve_left (fun h => h hr)
        subst ho
        rw [decide_eq_true hr] at hrt
        clear hr hro
        go_wp2_with fail
        refine (hrt _).mono ?_
        rintro z w2 ⟨rfl, rfl⟩
        go_wp2
        go_ret2
        exact ⟨rfl, hE⟩
      · rw [decide_eq_false hr] at hrt
        clear hr hro
        go_wp2_with fail
        refine (hrt _).mono ?_
        rintro z w2 ⟨rfl, rfl⟩
        go_wp2
        go_ret2
        exact ⟨rfl, hE⟩
set_option maxHeartbeats 4000000 in
set_option maxRecDepth 100000 in
theorem args_ok (k p r : Int) (A : Option Addr) (c : Nat) (l : List FA) (hb : l.any (fun a => decide (4096 < a.xs.length)) = false) (hr : 0 ≤ r ∧ r ≤ 4) (w : World) (hT : Tab w) (h : FRd w A c l) :
    Calls Tryz.prog 25 #[.agg #[.int .i64 k, .int .i64 p], .int .i64 r, .bool false, .slice A l.length c] w (FlsR w (FlsS k p l)) := by
  have hll := h.len
  have hrt := fun w => right_c r w
  rw [decide_eq_true hr] at hrt
  have hfl := fun w hT h => floats_c k p A c l w hT h
  generalize FlsS k p l = S at *
  unfold FlsR at hfl ⊢
  obtain ⟨ec, fs⟩ := S
  simp only at hfl ⊢
  have hE := (Ext.refl w).al (Obj.cells #[Value.int IntKind.i64 k, Value.int IntKind.i64 p] 23)
  have hF := Bf.new w (.int .i64 k) (.int .i64 p)
  have hsm := small_all hb
  have h' := h.ext hE
  have HE := Lib.hid hE
  have HF := Lib.hid hF
  clear hE hb h hF
  go_enter Tryz.func25, Tryz.ntmps25
  go_wp2
  generalize w.alloc (Obj.cells #[Value.int IntKind.i64 k, Value.int IntKind.i64 p] 23) = W at *
  go_loopw [14] (fun v16 wr => AgL W l v16 wr) (fun v _ => l.length - (intOf v).toNat)
  case atStart => exact ⟨0, Nat.zero_le _, rfl, fun j _ hj => absurd hj (by omega), Ext.refl _⟩
  case round =>
    obtain ⟨i, hi, rfl, hsm', hE⟩ := hrel
    have HSM := Lib.hid hsm'
    clear hsm'
    by_cases hlt : i < l.length
    · obtain ⟨ad, rfl, h0, h1, h2, h3, hr⟩ := h'.cell i hlt
      replace h0 := hE.cell h0
      replace h1 := hE.cell h1
      replace h2 := hE.cell h2
      replace h3 := hE.cell h3
      have hidx : ((i : Int) * 4).toNat = i * 4 := by omega
      have hbig := hsm i hlt
      have hd : decide ((4096 : Int) < (l[i].xs.length : Int)) = false := decide_eq_false (by omega)
      have HSM2 := Lib.hid hsm
      clear hsm hbig
      go_wp2
      go_roundw
      case rel => exact ⟨i + 1, hlt, by go_num, fun j hj _ => HSM2.out j hj, hE.al _⟩
      case measure => simp [intOf]; omega
    · obtain rfl : i = l.length := by omega
      clear HSM hsm
      obtain ⟨f0, f1⟩ := (HF.out.ext hE).facts
      go_wp2_with fail
      refine (hrt _).mono ?_
      rintro z w2 ⟨rfl, rfl⟩
      go_wp2_with fail
      refine (hfl _ (hT.ext (HE.out.tr hE)) (h'.ext hE)).mono ?_
      rintro z w3 ⟨v, rfl, ho, hb3⟩
      have hE3 := HE.out.tr (hE.tr hb3)
      have ho3 := ho.low (HE.out.tr hE).size
      go_wp2
      go_ret2
      exact ⟨_, rfl, ho3, hE3⟩
end Go.Proofs.YtehlmacgjlgjaaaGreatDoor
namespace Go.Proofs.YtehlmacgjlgjaaaGreatDoor
open Go.RowKit
attribute [local go_sem ↓] Go.wp_at_zero Go.wp_at_succ

/-- What Scale hands back. -/
def ScR (w : World) (ec K : Int) (f : Fl) (e : Ending) (w' : World) : Prop := ∃ u, e = .returned (.tuple #[u, .int .i64 K, .int .i64 ec]) ∧ FlR w' w.heap.size f u ∧ Ext w w'
theorem ScR.bad {w w' : World} {ec : Int} (hE : Ext w w') : ScR w ec 0 ⟨0, false, 0, 0⟩ (.returned (.tuple #[flV 0 false 0 (.slice none 0 0), .int .i64 0, .int .i64 ec])) w' :=
  ⟨_, rfl, ⟨_, rfl, by rw [show cn 0 = [] from digs_zero B]; exact Own.nil _ _⟩, hE⟩
theorem any_small_one {a : FA} (h : a.xs.length ≤ 4096) : [a].any (fun a => decide (4096 < a.xs.length)) = false := by simp; omega
theorem oneRow (W : World) (a : FA) (n : Nat) (hn : W.heap.size = n) (ha : Rd W a.A a.c a.xs) : FRd (W.alloc (.cells #[.int .i64 a.k, .bool a.neg, .int .i64 a.e, .slice a.A a.xs.length a.c] 29)) (some ⟨n, 0, none⟩) 1 [a] := by
  subst hn
  exact FRd.one (Bx.new W _ _ _ _) (ha.ext ((Ext.refl W).al _))
set_option maxHeartbeats 4000000 in
set_option maxRecDepth 100000 in
theorem Scale_arg (k p r n : Int) (a : FA) (hs : a.xs.length ≤ 4096) (hbad : ¬ (0 ≤ r ∧ r ≤ 4) ∨ n < -100000 ∨ 100000 < n) (w : World) (ha : Rd w a.A a.c a.xs) :
    Calls Tryz.prog 8 #[.agg #[.int .i64 k, .int .i64 p], .int .i64 r, a.v, .int .i64 n] w (ScR w 1 0 ⟨0, false, 0, 0⟩) := by
  obtain ⟨hF, hX, hR, hE⟩ := boxesN w k p (.int .i64 a.k) (.bool a.neg) (.int .i64 a.e) (.slice a.A a.xs.length a.c) _ rfl
  have hsW : (((w.alloc (.cells #[.int .i64 k, .int .i64 p] 23)).alloc (.cells #[.int .i64 a.k, .bool a.neg, .int .i64 a.e, .slice a.A a.xs.length a.c] 29)).alloc (.cells #[.int .i64 0, .bool false, .int .i64 0, .slice none 0 0] 29)).heap.size = w.heap.size + 1 + 1 + 1 := by simp only [World.size_alloc]
  have hL := oneRow _ a _ hsW (ha.ext hE)
  have hfl := fun out hro A c w h => args_arg k p r out A c [a] (any_small_one hs) hro w h
  clear hs
  obtain ⟨ak, an, ae, aA, ac, axs⟩ := a
  simp only at ha hF hX hR hE hL hsW
  have HR := Lib.hid hR
  have HE := Lib.hid hE
  have HL := Lib.hid hL
  clear hF hX hR hE hL hsW
  have hc : (decide (n < -100000) = true ∧ (¬ (0 ≤ r ∧ r ≤ 4) ∨ true = true)) ∨ (decide (n < -100000) = false ∧ decide (100000 < n) = true ∧ (¬ (0 ≤ r ∧ r ≤ 4) ∨ true = true)) ∨ (decide (n < -100000) = false ∧ decide (100000 < n) = false ∧ (¬ (0 ≤ r ∧ r ≤ 4) ∨ false = true)) := by
    by_cases h1 : n < -100000
    · exact .inl ⟨decide_eq_true h1, .inr rfl⟩
    · by_cases h2 : 100000 < n
      · exact .inr (.inl ⟨decide_eq_false h1, decide_eq_true h2, .inr rfl⟩)
      · exact .inr (.inr ⟨decide_eq_false h1, decide_eq_false h2, .inl (hbad.resolve_right (by omega))⟩)
  clear hbad
  rcases hc with ⟨d1, hro⟩ | ⟨d1, d2, hro⟩ | ⟨d1, d2, hro⟩
  all_goals
    have hfl' := hfl _ hro
    clear hro hfl
    go_enter Tryz.func8, Tryz.ntmps8
    go_wp2_with fail
    have hR := HR.out
    have hE := HE.out
    have hL := HL.out
    clear HR HE HL
    generalize (((w.alloc (.cells #[.int .i64 k, .int .i64 p] 23)).alloc (.cells #[.int .i64 ak, .bool an, .int .i64 ae, .slice aA axs.length ac] 29)).alloc (.cells #[.int .i64 0, .bool false, .int .i64 0, .slice none 0 0] 29)) = W at *
    have hA := (Ext.refl W).al (.cells #[.int .i64 ak, .bool an, .int .i64 ae, .slice aA axs.length ac] 29)
    refine (hfl' _ _ _ hL).mono ?_
    rintro e w2 ⟨rfl, hb2⟩
    have hR2 := (hR.ext hA).ext hb2
    have hE2 := (hE.tr hA).tr hb2
    obtain ⟨r0, r1, r2, r3, rf⟩ := hR2.facts
    have hR3 := hR2.put (.int .i64 0) (.bool false) (.int .i64 0) (.slice none 0 0)
    have hE3 := hE2.put (g := w.heap.size + 1 + 1) (by omega) (.int .i64 0) (.bool false) (.int .i64 0) (.slice none 0 0)
    have HR3 := Lib.hid hR3
    have HE3 := Lib.hid hE3
    clear hR3 hE3
    go_wp2_with fail
    obtain ⟨s0, s1, s2, s3, -⟩ := HR3.out.facts
    refine bodyPost_ret (v := .tuple #[flV 0 false 0 (.slice none 0 0), .int .i64 0, .int .i64 1]) (by simp [results, Tryz.results8, go_sem, s0, s1, s2, s3]) rfl ?_
    exact ScR.bad HE3.out
set_option maxHeartbeats 4000000 in
set_option maxRecDepth 100000 in
theorem Scale_bad (k p r n ec : Int) (a : FA) (hs : a.xs.length ≤ 4096) (hr : 0 ≤ r ∧ r ≤ 4) (hn : -100000 ≤ n ∧ n ≤ 100000) (hfl : FlsS k p [a] = (ec, [])) (he : ec ≠ 0) (w : World) (hT : Tab w) (ha : Rd w a.A a.c a.xs) :
    Calls Tryz.prog 8 #[.agg #[.int .i64 k, .int .i64 p], .int .i64 r, a.v, .int .i64 n] w (ScR w ec 0 ⟨0, false, 0, 0⟩) := by
  obtain ⟨hF, hX, hR, hE⟩ := boxesN w k p (.int .i64 a.k) (.bool a.neg) (.int .i64 a.e) (.slice a.A a.xs.length a.c) _ rfl
  have hsW : (((w.alloc (.cells #[.int .i64 k, .int .i64 p] 23)).alloc (.cells #[.int .i64 a.k, .bool a.neg, .int .i64 a.e, .slice a.A a.xs.length a.c] 29)).alloc (.cells #[.int .i64 0, .bool false, .int .i64 0, .slice none 0 0] 29)).heap.size = w.heap.size + 1 + 1 + 1 := by simp only [World.size_alloc]
  have hL := oneRow _ a _ hsW (ha.ext hE)
  have hfl' := fun A c w hT h => args_ok k p r A c [a] (any_small_one hs) hr w hT h
  rw [hfl] at hfl'
  unfold FlsR at hfl'
  simp only at hfl'
  have hbe : (ec != 0) = true := by rw [bne_iff_ne]; exact he
  have d1 : decide (n < -100000) = false := decide_eq_false (by omega)
  have d2 : decide (100000 < n) = false := decide_eq_false (by omega)
  clear hs hfl he hr hn
  obtain ⟨ak, an, ae, aA, ac, axs⟩ := a
  simp only at ha hF hX hR hE hL hsW
  have HR := Lib.hid hR
  have HE := Lib.hid hE
  have HL := Lib.hid hL
  clear hF hX hR hE hL hsW
  go_enter Tryz.func8, Tryz.ntmps8
  go_wp2_with fail
  have hR := HR.out
  have hE := HE.out
  have hL := HL.out
  clear HR HE HL
  generalize (((w.alloc (.cells #[.int .i64 k, .int .i64 p] 23)).alloc (.cells #[.int .i64 ak, .bool an, .int .i64 ae, .slice aA axs.length ac] 29)).alloc (.cells #[.int .i64 0, .bool false, .int .i64 0, .slice none 0 0] 29)) = W at *
  have hA := (Ext.refl W).al (.cells #[.int .i64 ak, .bool an, .int .i64 ae, .slice aA axs.length ac] 29)
  refine (hfl' _ _ _ (hT.ext (hE.tr hA)) hL).mono ?_
  rintro e w2 ⟨v, rfl, -, hb2⟩
  have hR2 := (hR.ext hA).ext hb2
  have hE2 := (hE.tr hA).tr hb2
  obtain ⟨r0, r1, r2, r3, rf⟩ := hR2.facts
  have hR3 := hR2.put (.int .i64 0) (.bool false) (.int .i64 0) (.slice none 0 0)
  have hE3 := hE2.put (g := w.heap.size + 1 + 1) (by omega) (.int .i64 0) (.bool false) (.int .i64 0) (.slice none 0 0)
  have HR3 := Lib.hid hR3
  have HE3 := Lib.hid hE3
  clear hR3 hE3
  go_wp2_with fail
  obtain ⟨s0, s1, s2, s3, -⟩ := HR3.out.facts
  refine bodyPost_ret (v := .tuple #[flV 0 false 0 (.slice none 0 0), .int .i64 0, .int .i64 ec]) (by simp [results, Tryz.results8, go_sem, s0, s1, s2, s3]) rfl ?_
  exact ScR.bad HE3.out
set_option maxHeartbeats 4000000 in
set_option maxRecDepth 100000 in
theorem Scale_still (k p r n : Int) (a : FA) (f : Fl) (hs : a.xs.length ≤ 4096) (hr : 0 ≤ r ∧ r ≤ 4) (hn : -100000 ≤ n ∧ n ≤ 100000) (hfl : FlsS k p [a] = (0, [f])) (hk : f.kind ≠ 1) (w : World) (hT : Tab w) (ha : Rd w a.A a.c a.xs) :
    Calls Tryz.prog 8 #[.agg #[.int .i64 k, .int .i64 p], .int .i64 r, a.v, .int .i64 n] w (ScR w 0 0 f) := by
  obtain ⟨hF, hX, hR, hE⟩ := boxesN w k p (.int .i64 a.k) (.bool a.neg) (.int .i64 a.e) (.slice a.A a.xs.length a.c) _ rfl
  have hsW : (((w.alloc (.cells #[.int .i64 k, .int .i64 p] 23)).alloc (.cells #[.int .i64 a.k, .bool a.neg, .int .i64 a.e, .slice a.A a.xs.length a.c] 29)).alloc (.cells #[.int .i64 0, .bool false, .int .i64 0, .slice none 0 0] 29)).heap.size = w.heap.size + 1 + 1 + 1 := by simp only [World.size_alloc]
  have hL := oneRow _ a _ hsW (ha.ext hE)
  have hfl' := fun A c w hT h => args_ok k p r A c [a] (any_small_one hs) hr w hT h
  rw [hfl] at hfl'
  unfold FlsR at hfl'
  simp only at hfl'
  have hkb : (f.kind == 1) = false := by rw [beq_eq_false_iff_ne]; exact hk
  have d1 : decide (n < -100000) = false := decide_eq_false (by omega)
  have d2 : decide (100000 < n) = false := decide_eq_false (by omega)
  clear hs hfl hk hr hn
  obtain ⟨ak, an, ae, aA, ac, axs⟩ := a
  simp only at ha hF hX hR hE hL hsW
  have HX := Lib.hid hX
  have HR := Lib.hid hR
  have HE := Lib.hid hE
  have HL := Lib.hid hL
  clear hF hX hR hE hL hsW
  go_enter Tryz.func8, Tryz.ntmps8
  go_wp2_with fail
  have hR := HR.out
  have hX := HX.out
  have hE := HE.out
  have hL := HL.out
  clear HR HE HL HX
  generalize (((w.alloc (.cells #[.int .i64 k, .int .i64 p] 23)).alloc (.cells #[.int .i64 ak, .bool an, .int .i64 ae, .slice aA axs.length ac] 29)).alloc (.cells #[.int .i64 0, .bool false, .int .i64 0, .slice none 0 0] 29)) = W at *
  have hA := (Ext.refl W).al (.cells #[.int .i64 ak, .bool an, .int .i64 ae, .slice aA axs.length ac] 29)
  refine (hfl' _ _ _ (hT.ext (hE.tr hA)) hL).mono ?_
  rintro e w2 ⟨v, rfl, ho, hb2⟩
  have hR2 := (hR.ext hA).ext hb2
  have hX2 := (hX.ext hA).ext hb2
  have hE2 := (hE.tr hA).tr hb2
  have hlow := ho.lt1
  obtain ⟨g, A1, c1, c, rfl, o0, o1, o2, o3, -, ho1⟩ := ho.one
  have hgb := hlow g rfl
  have hrl := hR.lt
  have hsz := hA.size
  have hX3 := hX2.put (.int .i64 f.kind) (.bool f.neg) (.int .i64 f.exp) (.slice A1 (cn f.mag).length c1)
  have hR3 := hR2.apart (g' := w.heap.size + 1) (by omega) (.int .i64 f.kind) (.bool f.neg) (.int .i64 f.exp) (.slice A1 (cn f.mag).length c1)
  have hE3 := hE2.put (g := w.heap.size + 1) (by omega) (.int .i64 f.kind) (.bool f.neg) (.int .i64 f.exp) (.slice A1 (cn f.mag).length c1)
  have ho3 := ho1.putBelow (g := w.heap.size + 1) (by omega) (.int .i64 f.kind) (.bool f.neg) (.int .i64 f.exp) (.slice A1 (cn f.mag).length c1)
  have hR4 := hR3.put (.int .i64 f.kind) (.bool f.neg) (.int .i64 f.exp) (.slice A1 (cn f.mag).length c1)
  have hE4 := hE3.put (g := w.heap.size + 1 + 1) (by omega) (.int .i64 f.kind) (.bool f.neg) (.int .i64 f.exp) (.slice A1 (cn f.mag).length c1)
  have ho4 := (ho3.putBelow (g := w.heap.size + 1 + 1) (by omega) (.int .i64 f.kind) (.bool f.neg) (.int .i64 f.exp) (.slice A1 (cn f.mag).length c1)).low (b := w.heap.size) (by omega)
  have HR4 := Lib.hid hR4
  have HE4 := Lib.hid hE4
  have HO4 := Lib.hid ho4
  clear hX3 hR3 hE3 ho3 hR4 hE4 ho4
  obtain ⟨x0, x1, x2, x3, xf⟩ := hX2.facts
  obtain ⟨r0, r1, r2, r3, rf⟩ := hR2.facts
  go_wp2_with fail
  obtain ⟨s0, s1, s2, s3, -⟩ := HR4.out.facts
  refine bodyPost_ret (v := .tuple #[flV f.kind f.neg f.exp (.slice A1 (cn f.mag).length c1), .int .i64 0, .int .i64 0]) (by simp [results, Tryz.results8, go_sem, s0, s1, s2, s3]) rfl ?_
  exact ⟨_, rfl, ⟨_, rfl, HO4.out⟩, HE4.out⟩
end Go.Proofs.YtehlmacgjlgjaaaGreatDoor
namespace Go.Proofs.YtehlmacgjlgjaaaGreatDoor
open Go.RowKit
attribute [local go_sem ↓] Go.wp_at_zero Go.wp_at_succ

set_option maxHeartbeats 4000000 in
set_option maxRecDepth 100000 in
theorem Scale_fin (k p r n : Int) (a : FA) (f : Fl) (hs : a.xs.length ≤ 4096) (hr : 0 ≤ r ∧ r ≤ 4) (hn : -100000 ≤ n ∧ n ≤ 100000) (hfl : FlsS k p [a] = (0, [f])) (hk : f.kind = 1) (hRg : Rgt k p) (hok : f.Ok) (hlm : (cn f.mag).length ≤ 4096)
    (w : World) (hT : Tab w) (hM : MoreT w) (ha : Rd w a.A a.c a.xs) :
    Calls Tryz.prog 8 #[.agg #[.int .i64 k, .int .i64 p], .int .i64 r, a.v, .int .i64 n] w (ScR w 0 (fltK k p r f.neg f.mag (f.exp + n)) (fltF k p r f.neg f.mag (f.exp + n))) := by
  obtain ⟨hF, hX, hR, hE⟩ := boxesN w k p (.int .i64 a.k) (.bool a.neg) (.int .i64 a.e) (.slice a.A a.xs.length a.c) _ rfl
  have hsW : (((w.alloc (.cells #[.int .i64 k, .int .i64 p] 23)).alloc (.cells #[.int .i64 a.k, .bool a.neg, .int .i64 a.e, .slice a.A a.xs.length a.c] 29)).alloc (.cells #[.int .i64 0, .bool false, .int .i64 0, .slice none 0 0] 29)).heap.size = w.heap.size + 1 + 1 + 1 := by simp only [World.size_alloc]
  have hL := oneRow _ a _ hsW (ha.ext hE)
  have hfl' := fun A c w hT h => args_ok k p r A c [a] (any_small_one hs) hr w hT h
  rw [hfl] at hfl'
  unfold FlsR at hfl'
  simp only at hfl'
  have hlo := hok.lo
  have hhi := hok.hi
  have hmp : 0 < f.mag := by have := hok.odd hk; omega
  have hft := fun A c w hT hM h => float_c k p r f.neg A c f.mag (f.exp + n) w hRg hr.1 hr.2 hT hM h hmp hlm (by omega) (by omega)
  have d1 : decide (n < -100000) = false := decide_eq_false (by omega)
  have d2 : decide (100000 < n) = false := decide_eq_false (by omega)
  obtain ⟨hn1, hn2⟩ := hn
  unfold FErr at hft
  generalize fltF k p r f.neg f.mag (f.exp + n) = F at *
  generalize fltK k p r f.neg f.mag (f.exp + n) = K at *
  clear hs hfl hr hok hlm hmp hRg
  obtain ⟨ak, an, ae, aA, ac, axs⟩ := a
  obtain ⟨fk, fn, fe, fm⟩ := f
  simp only at ha hF hX hR hE hL hsW hk hlo hhi hft hfl'
  subst hk
  have HX := Lib.hid hX
  have HF := Lib.hid hF
  have HR := Lib.hid hR
  have HE := Lib.hid hE
  have HL := Lib.hid hL
  clear hF hX hR hE hL hsW
  go_enter Tryz.func8, Tryz.ntmps8
  go_wp2_with fail
  have hR := HR.out
  have hF := HF.out
  have hX := HX.out
  have hE := HE.out
  have hL := HL.out
  clear HR HE HL HX HF
  generalize (((w.alloc (.cells #[.int .i64 k, .int .i64 p] 23)).alloc (.cells #[.int .i64 ak, .bool an, .int .i64 ae, .slice aA axs.length ac] 29)).alloc (.cells #[.int .i64 0, .bool false, .int .i64 0, .slice none 0 0] 29)) = W at *
  have hA := (Ext.refl W).al (.cells #[.int .i64 ak, .bool an, .int .i64 ae, .slice aA axs.length ac] 29)
  refine (hfl' _ _ _ (hT.ext (hE.tr hA)) hL).mono ?_
  rintro e w2 ⟨v, rfl, ho, hb2⟩
  have hR2 := (hR.ext hA).ext hb2
  have hF2 := (hF.ext hA).ext hb2
  have hX2 := (hX.ext hA).ext hb2
  have hE2 := (hE.tr hA).tr hb2
  have hlow := ho.lt1
  obtain ⟨g, A1, c1, c, rfl, o0, o1, o2, o3, -, ho1⟩ := ho.one
  have hgb := hlow g rfl
  have hrl := hR.lt
  have hsz := hA.size
  simp only at o0 o1 o2 o3 ho1
  have hX3 := hX2.put (.int .i64 1) (.bool fn) (.int .i64 fe) (.slice A1 (cn fm).length c1)
  have hR3 := hR2.apart (g' := w.heap.size + 1) (by omega) (.int .i64 1) (.bool fn) (.int .i64 fe) (.slice A1 (cn fm).length c1)
  have hF3 := hF2.apart (g' := w.heap.size + 1) (by omega) (.int .i64 1) (.bool fn) (.int .i64 fe) (.slice A1 (cn fm).length c1)
  have hE3 := hE2.put (g := w.heap.size + 1) (by omega) (.int .i64 1) (.bool fn) (.int .i64 fe) (.slice A1 (cn fm).length c1)
  have ho3 := ho1.putBelow (g := w.heap.size + 1) (by omega) (.int .i64 1) (.bool fn) (.int .i64 fe) (.slice A1 (cn fm).length c1)
  have HX3 := Lib.hid hX3
  have HR3 := Lib.hid hR3
  have HF3 := Lib.hid hF3
  have HE3 := Lib.hid hE3
  have HO3 := Lib.hid ho3
  clear hX3 hR3 hE3 ho3 hF3
  obtain ⟨x0, x1, x2, x3, xf⟩ := hX2.facts
  obtain ⟨f0, f1⟩ := hF2.facts
  go_wp2_with fail
  generalize (((w2.setCell ⟨w.heap.size + 1, 0, none⟩ (.int .i64 1)).setCell ⟨w.heap.size + 1, 1, none⟩ (.bool fn)).setCell ⟨w.heap.size + 1, 2, none⟩ (.int .i64 fe)).setCell ⟨w.heap.size + 1, 3, none⟩ (.slice A1 (cn fm).length c1) = w3 at *
  obtain ⟨-, hr3⟩ := HO3.out.rdAt
  refine (hft _ _ _ (hT.ext HE3.out) (hM.ext HE3.out) hr3).mono ?_
  rintro z w4 ⟨u, rfl, ⟨v, rfl, ho4⟩, hb4⟩
  obtain ⟨A4, c4, rfl, -⟩ := ho4.rd
  have hR4 := HR3.out.ext hb4
  have hE4 := HE3.out.tr hb4
  have hlr3 := HR3.out.lt
  have hs3 := HE3.out.size
  have hR5 := (hR4.put (.int .i64 F.kind) (.bool F.neg) (.int .i64 F.exp) (.slice A4 (cn F.mag).length c4)).ext ((Ext.refl _).al (.cells #[.int .i64 F.kind, .bool F.neg, .int .i64 F.exp, .slice A4 (cn F.mag).length c4] 29))
  have hE5 := (hE4.put (g := w.heap.size + 1 + 1) (by omega) (.int .i64 F.kind) (.bool F.neg) (.int .i64 F.exp) (.slice A4 (cn F.mag).length c4)).al (.cells #[.int .i64 F.kind, .bool F.neg, .int .i64 F.exp, .slice A4 (cn F.mag).length c4] 29)
  have ho5 := ((ho4.putBelow (g := w.heap.size + 1 + 1) hlr3 (.int .i64 F.kind) (.bool F.neg) (.int .i64 F.exp) (.slice A4 (cn F.mag).length c4)).ext ((Ext.refl _).al (.cells #[.int .i64 F.kind, .bool F.neg, .int .i64 F.exp, .slice A4 (cn F.mag).length c4] 29))).low (b := w.heap.size) hs3
  have HR5 := Lib.hid hR5
  have HE5 := Lib.hid hE5
  have HO5 := Lib.hid ho5
  have hl4 := hR4.lt
  clear hR5 hE5 ho5 x0 x1 x2 x3 xf f0 f1 o0 o1 o2 o3
  obtain ⟨r0, r1, r2, r3, rf⟩ := hR4.facts
  go_wp2_with fail
  obtain ⟨s0, s1, s2, s3, -⟩ := HR5.out.facts
  refine bodyPost_ret (v := .tuple #[flV F.kind F.neg F.exp (.slice A4 (cn F.mag).length c4), .int .i64 K, .int .i64 0]) (by simp [results, Tryz.results8, go_sem, s0, s1, s2, s3]) rfl ?_
  exact ⟨_, rfl, ⟨_, rfl, HO5.out⟩, HE5.out⟩
set_option maxHeartbeats 4000000 in
set_option maxRecDepth 100000 in
/-- Exponent of what is no number. -/
theorem Exponent_none (k p : Int) (a : FA) (f : Fl) (hfl : FlsS k p [a] = (0, [f])) (hk : f.kind ≠ 1) (w : World) (hT : Tab w) (ha : Rd w a.A a.c a.xs) :
    Calls Tryz.prog 9 #[.agg #[.int .i64 k, .int .i64 p], a.v] w fun e w' => e = .returned (.tuple #[.int .i64 0, .int .i64 4]) ∧ Ext w w' := by
  obtain ⟨hE, hF, hX, hfl'⟩ := boxes3 w k p a hT ha _ rfl
  rw [hfl] at hfl'
  unfold FlsR at hfl'
  simp only at hfl'
  have hkb : (f.kind == 1) = false := by rw [beq_eq_false_iff_ne]; exact hk
  clear hfl hk
  obtain ⟨ak, an, ae, aA, ac, axs⟩ := a
  simp only at ha hE hfl' hX
  have HE := Lib.hid hE
  have HX := Lib.hid hX
  clear hE hX hF
  go_enter Tryz.func9, Tryz.ntmps9
  go_wp2_with fail
  refine hfl'.mono ?_
  rintro e w2 ⟨v, rfl, ho, hb2⟩
  have hX2 := HX.out.ext hb2
  have hE2 := HE.out.tr hb2
  obtain ⟨g, A1, c1, c, rfl, o0, o1, o2, o3, -, ho1⟩ := ho.one
  have hX3 := hX2.put (.int .i64 f.kind) (.bool f.neg) (.int .i64 f.exp) (.slice A1 (cn f.mag).length c1)
  have hE3 := hE2.put (g := w.heap.size + 1) (by omega) (.int .i64 f.kind) (.bool f.neg) (.int .i64 f.exp) (.slice A1 (cn f.mag).length c1)
  have HX3 := Lib.hid hX3
  have HE3 := Lib.hid hE3
  clear hX3 hE3
  obtain ⟨x0, x1, x2, x3, xf⟩ := hX2.facts
  go_wp2_with fail
  go_ret2
  exact ⟨rfl, HE3.out⟩
set_option maxHeartbeats 4000000 in
set_option maxRecDepth 100000 in
theorem Exponent_fin (k p : Int) (a : FA) (f : Fl) (hfl : FlsS k p [a] = (0, [f])) (hk : f.kind = 1) (hok : f.Ok) (hlm : (cn f.mag).length ≤ 4096) (w : World) (hT : Tab w) (ha : Rd w a.A a.c a.xs) :
    Calls Tryz.prog 9 #[.agg #[.int .i64 k, .int .i64 p], a.v] w fun e w' => e = .returned (.tuple #[.int .i64 (f.exp + bl f.mag - 1), .int .i64 0]) ∧ Ext w w' := by
  obtain ⟨hE, hF, hX, hfl'⟩ := boxes3 w k p a hT ha _ rfl
  rw [hfl] at hfl'
  unfold FlsR at hfl'
  simp only at hfl'
  have hlo := hok.lo
  have hhi := hok.hi
  have hbm : bl f.mag ≤ 262144 := by
    have h2 := bl_val_le (W64.cn f.mag)
    rw [val_cn] at h2
    omega
  have hln := fun A c w h => len_c A c (cn f.mag) w h (by omega)
  rw [val_cn] at hln
  clear hfl hok hlm
  obtain ⟨ak, an, ae, aA, ac, axs⟩ := a
  obtain ⟨fk, fn, fe, fm⟩ := f
  simp only at ha hE hfl' hX hk hlo hhi hbm hln ⊢
  subst hk
  generalize bl fm = bm at *
  have HE := Lib.hid hE
  have HX := Lib.hid hX
  clear hE hX hF
  go_enter Tryz.func9, Tryz.ntmps9
  go_wp2_with fail
  refine hfl'.mono ?_
  rintro e w2 ⟨v, rfl, ho, hb2⟩
  have hX2 := HX.out.ext hb2
  have hE2 := HE.out.tr hb2
  have hlow := ho.lt1
  obtain ⟨g, A1, c1, c, rfl, o0, o1, o2, o3, -, ho1⟩ := ho.one
  simp only at o0 o1 o2 o3 ho1
  have hgb := hlow g rfl
  have hxl := HX.out.lt
  have hX3 := hX2.put (.int .i64 1) (.bool fn) (.int .i64 fe) (.slice A1 (cn fm).length c1)
  have hE3 := hE2.put (g := w.heap.size + 1) (by omega) (.int .i64 1) (.bool fn) (.int .i64 fe) (.slice A1 (cn fm).length c1)
  have ho3 := ho1.putBelow (g := w.heap.size + 1) hxl (.int .i64 1) (.bool fn) (.int .i64 fe) (.slice A1 (cn fm).length c1)
  have HX3 := Lib.hid hX3
  have HE3 := Lib.hid hE3
  have HO3 := Lib.hid ho3
  clear hX3 hE3 ho3
  obtain ⟨x0, x1, x2, x3, xf⟩ := hX2.facts
  go_wp2_with fail
  clear o0 o1 o2 o3 x0 x1 x2 x3 xf
  generalize (((w2.setCell ⟨w.heap.size + 1, 0, none⟩ (.int .i64 1)).setCell ⟨w.heap.size + 1, 1, none⟩ (.bool fn)).setCell ⟨w.heap.size + 1, 2, none⟩ (.int .i64 fe)).setCell ⟨w.heap.size + 1, 3, none⟩ (.slice A1 (cn fm).length c1) = w3 at *
  obtain ⟨-, hr3⟩ := HO3.out.rdAt
  obtain ⟨x0, x1, x2, x3, -⟩ := HX3.out.facts
  have x2' := Later.cell x2
  have x3' := Later.cell x3
  have hlnE : ∀ w, Rd w A1 c1 (cn fm) → Calls Tryz.prog 28 #[.slice A1 (cn fm).length c1] w fun e w' => e = .returned (.int .i64 (bm : Int)) ∧ Ext w w' := fun w h => (hln A1 c1 w h).mono fun z w' hz => ⟨hz.1, hz.2.elim fun n hn => by rw [hn]; exact (Ext.refl _).drewN n⟩
  clear hln
  refine wp_region_later (by kernel_rfl) (by kernel_rfl) ?_
  repeat (go_big_quiet_step (first
    | (go_at_call 28; (with_reducible refine Calls.later (hlnE _ (hr3.ext (Later.h _)))))
    | fail))
  refine wpQuiet_nil ?_
  intro wq hw'
  obtain ⟨⟨_, hq⟩, rfl⟩ := hw'
  have hEq := HE3.out.tr hq
  clear x0 x1 x2 x3 x2' x3' hlnE
  go_wp2
  go_ret2
  exact ⟨rfl, hEq⟩
end Go.Proofs.YtehlmacgjlgjaaaGreatDoor
namespace Go.Proofs.YtehlmacgjlgjaaaGreatDoor
open Go.RowKit
attribute [local go_sem ↓] Go.wp_at_zero Go.wp_at_succ

/-- The error of a rounding, and of a format and floats. -/
def kaS (k p r : Int) (l : List FA) : Int := if 0 ≤ r ∧ r ≤ 4 then chkS k p l else 1
theorem known_c (r : Int) (w : World) : Calls Tryz.prog 32 #[.int .i64 r] w fun e w' => e = .returned (.bool (decide (0 ≤ r ∧ r ≤ 4))) ∧ w = w' := by
  by_cases h0 : 0 ≤ r
  · have d0 : decide (0 ≤ r) = true := decide_eq_true h0
    by_cases h4 : r ≤ 4
    · have d4 : decide (r ≤ 4) = true := decide_eq_true h4
      rw [show decide (0 ≤ r ∧ r ≤ 4) = true from decide_eq_true ⟨h0, h4⟩]
      go_enter Tryz.func32, Tryz.ntmps32
      go_wp2
      go_ret
      exact ⟨rfl, rfl⟩
    · have d4 : decide (r ≤ 4) = false := decide_eq_false h4
      rw [show decide (0 ≤ r ∧ r ≤ 4) = false from decide_eq_false (fun h => h4 h.2)]
      clear h4
      go_enter Tryz.func32, Tryz.ntmps32
      go_wp2
      go_ret
      exact ⟨rfl, rfl⟩
  · have d0 : decide (0 ≤ r) = false := decide_eq_false h0
    rw [show decide (0 ≤ r ∧ r ≤ 4) = false from decide_eq_false (fun h => h0 h.1)]
    clear h0
    go_enter Tryz.func32, Tryz.ntmps32
    go_wp2
    go_ret
    exact ⟨rfl, rfl⟩
set_option maxHeartbeats 4000000 in
set_option maxRecDepth 100000 in
theorem kargs_c (k p r : Int) (A : Option Addr) (c : Nat) (l : List FA) (w : World) (h : FRd w A c l) (hsm : ∀ i (hi : i < l.length), l[i].xs.length ≤ 4096) :
    Calls Tryz.prog 13 #[.agg #[.int .i64 k, .int .i64 p], .int .i64 r, .slice A l.length c] w fun z w' => z = .returned (.int .i64 (kaS k p r l)) ∧ Ext w w' := by
  have hll := h.len
  have hkn := fun w => known_c r w
  have hch := fun A' c' w h => rcheck15_c k p A' c' l w h hsm
  have hth := fun w h => theirs_c A c l w h
  have hlg := fun A c n w => rlarge_c A c n w
  have hE := (Ext.refl w).al (Obj.cells #[Value.int IntKind.i64 k, Value.int IntKind.i64 p] 23)
  have hF := Bf.new w (.int .i64 k) (.int .i64 p)
  have h' := h.ext hE
  unfold kaS
  obtain ⟨S, hS⟩ : ∃ S, (if 0 ≤ r ∧ r ≤ 4 then chkS k p l else 1) = S := ⟨_, rfl⟩
  rw [hS]
  have HS := Lib.hid hS
  have HE := Lib.hid hE
  have HF := Lib.hid hF
  clear hE h hF hS
  generalize chkS k p l = C at *
  go_enter Tryz.func13, Tryz.ntmps13
  go_wp2
  generalize w.alloc (Obj.cells #[Value.int IntKind.i64 k, Value.int IntKind.i64 p] 23) = W at *
  go_loopw [7] (fun v16 wr => AgL W l v16 wr) (fun v _ => l.length - (intOf v).toNat)
  case atStart => exact ⟨0, Nat.zero_le _, rfl, fun j _ hj => absurd hj (by omega), Ext.refl _⟩
  case round =>
    obtain ⟨i, hi, rfl, hsm', hE⟩ := hrel
    clear hsm'
    by_cases hlt : i < l.length
    · obtain ⟨ad, rfl, h0, h1, h2, h3, hr⟩ := h'.cell i hlt
      replace h3 := hE.cell h3
      have hidx : ((i : Int) * 4).toNat = i * 4 := by omega
      have hbig := hsm i hlt
      have hlg' := hlg l[i].A l[i].c l[i].xs.length
      have hd : decide (4096 < l[i].xs.length) = false := decide_eq_false (by omega)
      rw [hd] at hlg'
      have HSM2 := Lib.hid hsm
      clear hsm hbig hlg h0 h1 h2
      go_wp2_with fail
      refine (hlg' _).mono ?_
      rintro z w2 ⟨rfl, rfl⟩
      go_wp2_with fail
      go_roundw
      case rel => exact ⟨i + 1, hlt, by go_num, fun j hj _ => by have := HSM2.out j hj; omega, hE⟩
      case measure => simp [intOf]; omega
    · obtain rfl : i = l.length := by omega
      clear hsm hlg
      obtain ⟨f0, f1⟩ := (HF.out.ext hE).facts
      have hEw := HE.out.tr hE
      by_cases hr : 0 ≤ r ∧ r ≤ 4
      · have hS := HS.out
        rw [if_pos hr] at hS
        subst hS
        rw [decide_eq_true hr] at hkn
        clear hr
        go_wp2_with fail
        refine (hkn _).mono ?_
        rintro z w2 ⟨rfl, rfl⟩
        go_wp2_with fail
        refine (fmt_c k p _).mono ?_
        rintro z w3 ⟨rfl, hb3⟩
        go_wp2_with fail
        refine (hth _ (h'.ext (hE.tr hb3))).mono ?_
        rintro z w4 ⟨A', c', rfl, hf4, hb4⟩
        go_wp2_with fail
        refine (hch _ _ _ hf4).mono ?_
        rintro z w5 ⟨rfl, hb5⟩
        go_wp2
        go_ret
        exact ⟨rfl, ((hEw.tr hb3).tr hb4).tr hb5⟩
      · have hS := HS.out
        rw [if_neg hr] at hS
        subst hS
        rw [decide_eq_false hr] at hkn
        clear hr
        go_wp2_with fail
        refine (hkn _).mono ?_
        rintro z w2 ⟨rfl, rfl⟩
        go_wp2
        go_ret
        exact ⟨rfl, hEw⟩
end Go.Proofs.YtehlmacgjlgjaaaGreatDoor
namespace Go.Proofs.YtehlmacgjlgjaaaGreatDoor
open Go.RowKit

def scF (k p r : Int) (f : Fl) (n : Int) : Fl := if f.kind = 1 then fltF k p r f.neg f.mag (f.exp + n) else f
def scK (k p r : Int) (f : Fl) (n : Int) : Int := if f.kind = 1 then fltK k p r f.neg f.mag (f.exp + n) else 0
theorem mk_of {k p U : Int} {neg : Bool} {N : Nat} (hR : Rgt k p) (hN : N ≤ 2 ^ p.toNat) (hU : ti k p ≤ U) (hg : U + bl N - 1 ≤ gr k) : FOf k p (mkF neg N U) := by
  obtain ⟨r1, r2, r3, r4⟩ := hR
  have hgb := gr_bd r1 r2
  have hle : le k = 1 - gr k := rfl
  have hti : ti k p = le k - (p - 1) := rfl
  unfold mkF
  by_cases hn : N = 0
  · rw [if_pos hn]
    refine ⟨⟨by simp, by simp, by simp, by simp, by simp, by simp⟩, fun h => by simp at h, ?_⟩
    show (cn 0).length ≤ 4096
    rw [show cn 0 = [] from digs_zero B]
    simp
  · rw [if_neg hn]
    have hp : 0 < N := by omega
    have hbt := bl_div_tz hp
    have htl := tz_lt_bl N hp
    have hbq : (bl (N / 2 ^ tz N) : Int) ≤ p := by
      rcases Nat.lt_or_ge N (2 ^ p.toNat) with h | h
      · have := (bl_le N p.toNat).2 h
        omega
      · have e : N = 2 ^ p.toNat := by omega
        have e2 : tz N = p.toNat := by
          rw [e]
          have := tz_mul_pow 1 p.toNat (by omega)
          rwa [Nat.mul_one, show tz 1 = 0 from tz_odd rfl, Nat.add_zero] at this
        rw [e2, e, Nat.div_self (Nat.two_pow_pos _)]
        have := (bl_le 1 1).2 (by decide)
        omega
    refine ⟨⟨by simp only; omega, by simp only; omega, by simp, fun _ => (tz_div N hp).2, by simp, by simp⟩, fun _ => ?_, ?_⟩
    · simp only
      omega
    · simp only
      refine Nat.le_trans (cn_len_mono (Nat.div_le_self _ _)) (Nat.le_trans (cn_len_pow2 (e := p.toNat) hN (by omega)) (by omega))
theorem over_of {k p r : Int} {neg : Bool} (hR : Rgt k p) : FOf k p (overF k p r neg) := by
  obtain ⟨r1, r2, r3, r4⟩ := hR
  have hgb := gr_bd r1 r2
  have hle : le k = 1 - gr k := rfl
  have hti : ti k p = le k - (p - 1) := rfl
  unfold overF
  split
  · have hod : (2 ^ p.toNat - 1) % 2 = 1 := by
      obtain ⟨n, hn⟩ : ∃ n, p.toNat = n + 1 := ⟨p.toNat - 1, by omega⟩
      have := Nat.two_pow_pos n
      rw [hn, Nat.pow_succ]
      omega
    have hb : bl (2 ^ p.toNat - 1) = p.toNat := by
      obtain ⟨n, hn⟩ : ∃ n, p.toNat = n + 1 := ⟨p.toNat - 1, by omega⟩
      rw [hn]
      have := Nat.two_pow_pos n
      refine bl_unique ?_ ?_
      · rw [Nat.pow_succ]; omega
      · rw [Nat.pow_succ]; omega
    refine ⟨⟨by simp only; omega, by simp only; omega, by simp, fun _ => hod, by simp, by simp⟩, fun _ => ?_, ?_⟩
    · simp only
      rw [hb]
      omega
    · simp only
      exact Nat.le_trans (cn_len_pow2 (e := p.toNat) (by omega) (by omega)) (by omega)
  · refine ⟨⟨by simp, by simp, by simp, by simp, by simp, by simp⟩, fun h => by simp at h, ?_⟩
    show (cn 0).length ≤ 4096
    rw [show cn 0 = [] from digs_zero B]
    simp
theorem flt_of {k p r exp : Int} {neg : Bool} (hR : Rgt k p) {m : Nat} (hm : 0 < m) : FOf k p (fltF k p r neg m exp) := by
  unfold fltF
  split
  · exact over_of hR
  · exact mk_of hR (fN_bits hR hm) (cut_bits hR hm).2.2 (by omega)
theorem sc_of {k p r : Int} (hR : Rgt k p) {f : Fl} (hf : FOf k p f) (n : Int) : FOf k p (scF k p r f n) := by
  unfold scF
  split
  · rename_i hk
    exact flt_of hR (by have := hf.ok.odd hk; omega)
  · exact hf
/-- Scaled without flags, and back without flags. -/
theorem sc_back {k p r : Int} {f : Fl} (hf : FOf k p f) {n : Int} (h1 : scK k p r f n = 0) (h2 : scK k p r (scF k p r f n) (-n) = 0) : scF k p r (scF k p r f n) (-n) = f := by
  obtain ⟨fk, fn, fe, fm⟩ := f
  by_cases hk : fk = 1
  · subst hk
    have hod := hf.ok.odd rfl
    unfold scK at h1
    simp only [if_true] at h1
    have e1 : scF k p r ⟨1, fn, fe, fm⟩ n = ⟨1, fn, fe + n, fm⟩ := by
      unfold scF
      simp only [if_true]
      exact flt_exact hod h1
    rw [e1] at h2 ⊢
    unfold scK at h2
    simp only [if_true] at h2
    unfold scF
    simp only [if_true]
    rw [flt_exact hod h2]
    congr 1
    omega
  · have e : ∀ n, scF k p r ⟨fk, fn, fe, fm⟩ n = ⟨fk, fn, fe, fm⟩ := fun n => by
      unfold scF
      exact if_neg hk
    rw [e, e]
theorem ka_good {k p r : Int} {a : FA} (h : kaS k p r [a] = 0) (hw : W64 a.xs) (hl : a.xs.length ≤ 4096) : (0 ≤ r ∧ r ≤ 4) ∧ Rgt k p ∧ ∃ f, a.can = some f ∧ FOf k p f ∧ FlsS k p [a] = (0, [f]) := by
  unfold kaS at h
  split at h
  · rename_i hr
    obtain ⟨hR, hf⟩ := chk_good h
    obtain ⟨f, hc, hin⟩ := hf a (by simp)
    have hof := of_good hc hin hw hl
    exact ⟨hr, hR, f, hc, hof, FlsS_one_ok hR hl hc hin⟩
  · omega
theorem Scale_good {k p r n : Int} (hR : Rgt k p) (hr : 0 ≤ r ∧ r ≤ 4) (hn : -100000 ≤ n ∧ n ≤ 100000) (a : FA) (f : Fl) (hf : FOf k p f) (hfl : FlsS k p [a] = (0, [f])) (hs : a.xs.length ≤ 4096) (w : World) (hT : Tab w) (hM : MoreT w) (ha : Rd w a.A a.c a.xs) :
    Calls Tryz.prog 8 #[.agg #[.int .i64 k, .int .i64 p], .int .i64 r, a.v, .int .i64 n] w (ScR w 0 (scK k p r f n) (scF k p r f n)) := by
  unfold scK scF
  by_cases hk : f.kind = 1
  · rw [if_pos hk, if_pos hk]
    exact Scale_fin k p r n a f hs hr hn hfl hk hR hf.ok hf.len w hT hM ha
  · rw [if_neg hk, if_neg hk]
    exact Scale_still k p r n a f hs hr hn hfl hk w hT ha
end Go.Proofs.YtehlmacgjlgjaaaGreatDoor
