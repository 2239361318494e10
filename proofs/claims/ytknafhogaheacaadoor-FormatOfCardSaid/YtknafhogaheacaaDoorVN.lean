/- The float with a value: the odd part of the denominator divides the numerator, or not (plain law). the reference's Of: the float with the value of a rational number. the reference's Of: the float with the value of a rational number. -/
import Derived.Test.YtknafhogaheacaaDoorF2
import Derived.Test.YtknafhogaheacaaDoorM4
import Derived.Test.YtknafhogaheacaaDoorY7
import Derived.Test.YtknafhogaheacaaDoorU4
import Derived.Test.YtknafhogaheacaaDoorS2
import Derived.Test.YtknafhogaheacaaDoorR4
set_option linter.unusedVariables false
set_option linter.unusedSimpArgs false
namespace Go.Proofs.YtknafhogaheacaaDoor
/-- The float with the value n / d, as the program finds it (n, d are not 0). -/
def ofP (neg : Bool) (n d : Nat) : Option Fl := if n % (d / 2 ^ tz d) = 0 then canon 1 neg (-(tz d : Int)) (n / (d / 2 ^ tz d)) else none
/-- As the reference finds it. -/
def ofR (neg : Bool) (n d : Nat) : Option Fl := if pc (d / Nat.gcd n d) = 1 then canon 1 neg (-(tz (d / Nat.gcd n d) : Int)) (n / Nat.gcd n d) else none

theorem canon_shift (neg : Bool) {m k t : Nat} (hm : 0 < m) (hk : k ≤ t) (ht : t ≤ 1048576) : canon 1 neg (-(t : Int)) (2 ^ k * m) = canon 1 neg (-((t - k : Nat) : Int)) m := by
  have hp : 0 < 2 ^ k := Nat.two_pow_pos k
  have h0 : 0 < 2 ^ k * m := Nat.mul_pos hp hm
  have h1 : ((k + tz m : Nat) : Int) = (k : Int) + tz m := by omega
  have h2 : 2 ^ k * m / 2 ^ (k + tz m) = m / 2 ^ tz m := by rw [Nat.pow_add, ← Nat.div_div_eq_div_mul, Nat.mul_div_cancel_left _ hp]
  have hc : ∀ (e : Int) (m : Nat), canon 1 neg e m = (if m = 0 ∨ e < -1048576 ∨ 1048576 < e then none else if e + tz m ≤ 1048576 then some ⟨1, neg, e + tz m, m / 2 ^ tz m⟩ else none) := fun e m => by
    unfold canon
    rw [if_neg (by omega), if_neg (by omega), if_pos rfl]
  have h3 : -(t : Int) + ((k + tz m : Nat) : Int) = -((t - k : Nat) : Int) + tz m := by omega
  rw [hc, hc, tz_mul_pow m k hm, h2, h3]
  generalize 2 ^ k * m = X at *
  rw [if_neg (show ¬ (X = 0 ∨ -(t : Int) < -1048576 ∨ 1048576 < -(t : Int)) by omega), if_neg (show ¬ (m = 0 ∨ -((t - k : Nat) : Int) < -1048576 ∨ 1048576 < -((t - k : Nat) : Int)) by omega)]
theorem odd_co {o k : Nat} (ho : o % 2 = 1) : Nat.Coprime o (2 ^ k) := by
  refine Nat.Coprime.pow_right k ?_
  show Nat.gcd o 2 = 1
  rw [Nat.gcd_comm, Nat.gcd_rec, ho]
  rfl
/-- The part that two powers have in common. -/
theorem gcd_two (n t : Nat) (hn : 0 < n) : ∃ k m, k ≤ t ∧ n = 2 ^ k * m ∧ Nat.gcd n (2 ^ t) = 2 ^ k := by
  obtain ⟨m, hm⟩ := tz_spec n hn
  generalize tz n = a at hm
  rcases Nat.le_total a t with h | h
  · refine ⟨a, 2 * m + 1, h, hm, ?_⟩
    have e : 2 ^ t = 2 ^ a * 2 ^ (t - a) := by rw [← Nat.pow_add]; congr 1; omega
    rw [hm, e, Nat.gcd_mul_left]
    have : Nat.gcd (2 * m + 1) (2 ^ (t - a)) = 1 := odd_co (by omega)
    rw [this, Nat.mul_one]
  · have e : n = 2 ^ t * (2 ^ (a - t) * (2 * m + 1)) := by rw [hm, ← Nat.mul_assoc, ← Nat.pow_add]; congr 2; omega
    refine ⟨t, _, Nat.le_refl _, e, ?_⟩
    exact Nat.gcd_eq_right ⟨_, e⟩
theorem of_same (neg : Bool) {n d : Nat} (hn : 0 < n) (hd : 0 < d) (ht : tz d ≤ 1048576) : ofP neg n d = ofR neg n d := by
  obtain ⟨e1, e2⟩ := tz_div d hd
  have hpt : 0 < 2 ^ tz d := Nat.two_pow_pos _
  unfold ofP ofR
  generalize tz d = t at *
  generalize d / 2 ^ t = o at *
  have ho0 : 0 < o := by omega
  by_cases h : n % o = 0
  · rw [if_pos h]
    obtain ⟨n', rfl⟩ := Nat.dvd_of_mod_eq_zero h
    have hn' : 0 < n' := by
      rcases Nat.eq_zero_or_pos n' with rfl | h'
      · omega
      · exact h'
    obtain ⟨k, m, hk, rfl, hg⟩ := gcd_two n' t hn'
    have hm : 0 < m := by
      rcases Nat.eq_zero_or_pos m with rfl | h'
      · omega
      · exact h'
    have hp : 0 < 2 ^ k := Nat.two_pow_pos k
    have e3 : Nat.gcd (o * (2 ^ k * m)) d = o * 2 ^ k := by rw [← e1, Nat.gcd_mul_left, hg]
    have e4 : d / (o * 2 ^ k) = 2 ^ (t - k) := by
      have : d = 2 ^ (t - k) * (o * 2 ^ k) := by
        rw [← e1, show 2 ^ t = 2 ^ (t - k) * 2 ^ k by rw [← Nat.pow_add]; congr 1; omega]
        ac_rfl
      rw [this]
      exact Nat.mul_div_cancel _ (Nat.mul_pos ho0 hp)
    have e5 : o * (2 ^ k * m) / (o * 2 ^ k) = m := by
      rw [← Nat.mul_assoc]
      exact Nat.mul_div_cancel_left _ (Nat.mul_pos ho0 hp)
    have e6 : tz (2 ^ (t - k)) = t - k := by
      have := tz_mul_pow 1 (t - k) (by omega)
      rwa [Nat.mul_one, show tz 1 = 0 from tz_odd rfl, Nat.add_zero] at this
    rw [e3, e4, e5, e6, Nat.mul_div_cancel_left _ ho0, if_pos (pc_one.2 ⟨Nat.two_pow_pos _, by rw [e6]⟩)]
    exact canon_shift neg hm hk ht
  · rw [if_neg h, if_neg]
    intro hp
    obtain ⟨_, h2⟩ := pc_one.1 hp
    generalize tz (d / Nat.gcd n d) = j at h2
    have h3 : d = Nat.gcd n d * 2 ^ j := by rw [← h2]; exact (Nat.mul_div_cancel' (Nat.gcd_dvd_right n d)).symm
    have h4 : o ∣ Nat.gcd n d * 2 ^ j := ⟨2 ^ t, by rw [← h3]; exact e1.symm⟩
    have h5 : o ∣ Nat.gcd n d := Nat.Coprime.dvd_of_dvd_mul_right (odd_co e2) h4
    exact h (Nat.mod_eq_zero_of_dvd (Nat.dvd_trans h5 (Nat.gcd_dvd_left n d)))
end Go.Proofs.YtknafhogaheacaaDoor
namespace Go.Proofs.YtknafhogaheacaaDoor
open Go.RowKit
attribute [local go_sem ↓] Go.wp_at_zero Go.wp_at_succ

theorem cn_div_len (n g k : Nat) (h : (cn n).length ≤ k) : (cn (n / g)).length ≤ k := Nat.le_trans (cn_len_mono (Nat.div_le_self _ _)) h
set_option maxHeartbeats 4000000 in
set_option maxRecDepth 100000 in
/-- Norm, of any rational number. -/
theorem rnormg_c (neg : Bool) (xs ys : List Nat) (hd : 0 < val ys) (A1 A2 : Option Addr) (c1 c2 : Nat) (w : World) (h1 : Rd w A1 c1 xs) (h2 : Rd w A2 c2 ys) (hl1 : xs.length ≤ 10000000) (hl2 : ys.length ≤ 10000000) :
    Calls Tryd.prog 21 #[ratV neg (.slice A1 xs.length c1) (.slice A2 ys.length c2)] w
      (RatN w (neg && decide (0 < val xs)) (val xs / Nat.gcd (val xs) (val ys)) (val ys / Nat.gcd (val xs) (val ys))) := by
  obtain ⟨hQ, hY, hE⟩ := boxesN w neg (.slice A1 xs.length c1) (.slice A2 ys.length c2) _ rfl
  have hgc := fun w h h' => rgcd_c A1 A2 c1 c2 xs ys w h h' hl1 hl2
  have hgp : 0 < Nat.gcd (val xs) (val ys) := Nat.gcd_pos_of_pos_right _ hd
  have hgl : (cn (Nat.gcd (val xs) (val ys))).length ≤ 10000000 := Nat.le_trans (cn_len_mono (Nat.le_of_dvd hd (Nat.gcd_dvd_right _ _))) (Nat.le_trans (cn_val_le h2.w64) hl2)
  have hgn : decide (0 < val xs / Nat.gcd (val xs) (val ys)) = decide (0 < val xs) := by
    rcases Nat.eq_zero_or_pos (val xs) with h | h
    · rw [h, Nat.zero_div]
    · rw [decide_eq_true h, decide_eq_true (Nat.div_pos (Nat.le_of_dvd h (Nat.gcd_dvd_left _ _)) hgp)]
  have hnl : (cn (val xs / Nat.gcd (val xs) (val ys))).length ≤ 10000000 := cn_div_len _ _ _ (Nat.le_trans (cn_val_le h1.w64) hl1)
  have hmk : ∀ A c w, Rd w A c (cn (val xs / Nat.gcd (val xs) (val ys))) → _ := fun A c w h => rmake11_c neg A c (cn (val xs / Nat.gcd (val xs) (val ys))) w h (by omega)
  rw [val_cn] at hmk
  unfold IntR at hmk
  rw [sg_abs, sg_neg, hgn] at hmk
  generalize (neg && decide (0 < val xs)) = ng at *
  generalize hgv : Nat.gcd (val xs) (val ys) = G at *
  have hd1 := fun A c w h h' => rdiv_c A1 A c1 c xs (cn G) w h h' (by rw [val_cn]; exact hgp) hl1 hgl
  have hd2 := fun A c w h h' => rdiv_c A2 A c2 c ys (cn G) w h h' (by rw [val_cn]; exact hgp) hl2 hgl
  rw [val_cn] at hd1 hd2
  generalize val xs / G = n' at *
  generalize val ys / G = d' at *
  have HQ := Lib.hid hQ
  have HY := Lib.hid hY
  have HE := Lib.hid hE
  clear hQ hY hE hl1 hl2 hgv hgp hgl hgn hnl hd
  go_enter Tryd.func21, Tryd.ntmps21
  go_wp2_with fail
  have hQ := HQ.out
  have hE := HE.out
  generalize ((w.alloc (.cells #[.bool neg, .slice A1 xs.length c1, .slice A2 ys.length c2] 27)).alloc (.cells #[.bool false, .slice none 0 0, .slice none 0 0] 27)) = W at *
  refine (hgc _ (h1.ext hE) (h2.ext hE)).mono ?_
  rintro z w1 ⟨v, rfl, ho1, hb1⟩
  obtain ⟨A3, c3, rfl, hr3⟩ := ho1.rd
  have hE1 := hE.tr hb1
  have hQ1 := hQ.ext hb1
  have hY1 := HY.out.ext hb1
  obtain ⟨q0, q1, q2, -⟩ := hQ1.facts
  have hs0 := HY.out.lt
  have hs1 := hb1.size
  go_wp2_with fail
  go_region_held3 (fun w' => w'.cell? ⟨w.heap.size, 0, none⟩ = some (.bool neg) ∧ w'.cell? ⟨w.heap.size, 1, none⟩ = some (.slice A1 xs.length c1) ∧ w'.cell? ⟨w.heap.size, 2, none⟩ = some (.slice A2 ys.length c2))
    (first | go_keep | (go_split_ands; refine ⟨?_, ?_, ?_⟩ <;> first | assumption | (refine Ext.cell (w := w1) ?_ ?_ <;> assumption)))
    (first
      | (go_at_call 46; (with_reducible refine (hd1 A3 c3 _ ?hr ?hs).mono ?_); (case hr => first | exact (h1.ext hE1).drew | exact h1.ext (hE1.tr hE3)); (case hs => first | exact hr3.drew | exact hr3.ext hE3); rintro z w4 ⟨v, rfl, ho4, hb4⟩; obtain ⟨A4, c4, rfl, hr4⟩ := ho4.rd; have hE3 : Ext w1 w4 := (Ext.refl w1).drew.tr hb4)
      | (go_at_call 45; (with_reducible refine (hmk A4 c4 _ hr4).mono ?_); rintro z w5 ⟨A5, c5, rfl, ho5, hb5⟩; have hE5 : Ext w1 w5 := hE3.tr hb5)
      | (go_at_call 46; (with_reducible refine (hd2 A3 c3 _ (h2.ext (hE1.tr hE5)) (hr3.ext hE5)).mono ?_); rintro z w6 ⟨v, rfl, ho6, hb6⟩; obtain ⟨A6, c6, rfl, hr6⟩ := ho6.rd; have hE6 : Ext w1 w6 := hE5.tr hb6; have hX1 := hY1.ext hE6; obtain ⟨a0, a1, a2, af⟩ := hX1.facts; obtain ⟨i0, i1, i2, -⟩ := ((hQ1.ext hE6).apartq (g' := w.heap.size + 1) (by omega) (.bool ng) (.slice A5 (cn n').length c5) (.slice A6 (cn d').length c6)).facts))
  have hs4 := hE3.size
  have hs5 := hE5.size
  have hR := hX1.put (.bool ng) (.slice A5 (cn n').length c5) (.slice A6 (cn d').length c6)
  have qn := (((ho5.ext hb6).putq (g := w.heap.size + 1) (by omega) (.bool ng) (.slice A5 (cn n').length c5) (.slice A6 (cn d').length c6)).low (b := w.heap.size) (by omega))
  have qd := ((ho6.putq (g := w.heap.size + 1) (by omega) (.bool ng) (.slice A5 (cn n').length c5) (.slice A6 (cn d').length c6)).low (b := w.heap.size) (by omega))
  have qE := (hE1.tr hE6).putq (g := w.heap.size + 1) (by omega) (.bool ng) (.slice A5 (cn n').length c5) (.slice A6 (cn d').length c6)
  have HR := Lib.hid hR
  have QN := Lib.hid qn
  have QD := Lib.hid qd
  have QE := Lib.hid qE
  clear hR qn qd qE
  go_wp2
  obtain ⟨m0, m1, m2, -⟩ := HR.out.facts
  refine bodyPost_ret (v := ratV ng (.slice A5 (cn n').length c5) (.slice A6 (cn d').length c6)) (by simp [results, Tryd.results21, go_sem, m0, m1, m2]) rfl ?_
  exact ⟨_, _, rfl, QN.out, QD.out, QE.out⟩
set_option maxHeartbeats 1000000 in
set_option maxRecDepth 100000 in
theorem rsign12_c (neg : Bool) (A A2 : Option Addr) (c c2 n2 : Nat) (xs : List Nat) (w : World) (h : Rd w A c xs) (hs : xs.length ≤ 100000000) :
    Calls Tryd.prog 22 #[ratV neg (.slice A xs.length c) (.slice A2 n2 c2)] w fun e w' => e = .returned (.int .i64 (sgn (sg neg (val xs)))) ∧ Ext w w' := by
  have hsn := fun w h => rsign11_c neg A c xs w h hs
  have hA := (Ext.refl w).al (.cells #[.bool neg, .slice A xs.length c, .slice A2 n2 c2] 27)
  generalize sgn (sg neg (val xs)) = z at *
  go_enter Tryd.func22, Tryd.ntmps22
  go_wp2_with fail
  refine (hsn _ (h.ext hA)).mono ?_
  rintro e w1 ⟨rfl, hb⟩
  go_wp2
  go_ret
  exact ⟨rfl, hA.tr hb⟩
end Go.Proofs.YtknafhogaheacaaDoor
namespace Go.Proofs.YtknafhogaheacaaDoor
open Go.RowKit
attribute [local go_sem ↓] Go.wp_at_zero Go.wp_at_succ

theorem Br.apartq' {w : World} {g g' : Nat} {a b c d : Value} (x : Br w g a b c d) (hne : g ≠ g') (a' b' c' : Value) : Br (((w.setCell ⟨g', 0, none⟩ a').setCell ⟨g', 1, none⟩ b').setCell ⟨g', 2, none⟩ c') g a b c d := by
  have h := x.h
  constructor
  simp [World.setCell, Array.getElem?_modify, h, Ne.symm hne]
theorem boxesOR (w : World) (neg : Bool) (v1 v2 : Value) : ∀ W, W = ((w.alloc (.cells #[.bool neg, v1, v2] 27)).alloc (.cells #[.int .i64 0, .bool false, .int .i64 0, .slice none 0 0] 38)) →
    Bq W w.heap.size (.bool neg) v1 v2 ∧ Br W (w.heap.size + 1) (.int .i64 0) (.bool false) (.int .i64 0) (.slice none 0 0) ∧ Ext w W := by
  rintro W rfl
  have h1 := (Ext.refl w).al (.cells #[.bool neg, v1, v2] 27)
  have x2 := Br.new (w.alloc (.cells #[.bool neg, v1, v2] 27)) (.int .i64 0) (.bool false) (.int .i64 0) (.slice none 0 0)
  rw [World.size_alloc] at x2
  exact ⟨(Bq.new w _ _ _).ext ((Ext.refl _).al _), x2, h1.al _⟩
theorem sgn_pos {neg : Bool} {n : Nat} (h : 0 < n) : sgn (sg neg n) ≠ 0 := by
  unfold sgn sg
  cases neg
  · show (if (n : Int) < 0 then (-1 : Int) else if (0 : Int) < n then 1 else 0) ≠ 0
    rw [if_neg (by omega), if_pos (by omega)]
    decide
  · show (if -(n : Int) < 0 then (-1 : Int) else if (0 : Int) < -n then 1 else 0) ≠ 0
    rw [if_pos (by omega)]
    decide
theorem CanR.none {w w' : World} (hE : Ext w w') : CanR w Option.none (.returned (.tuple #[flV 0 false 0 (.slice .none 0 0), .bool false])) w' :=
  ⟨_, rfl, hE, (fun f h => by cases h), _, _, _, _, _, _, rfl⟩
/-- The answer of the reference. -/
def ofW (neg : Bool) (n d : Nat) : Option Fl := if n = 0 then some ⟨0, false, 0, 0⟩ else ofR neg n d
set_option maxHeartbeats 4000000 in
set_option maxRecDepth 100000 in
theorem rof15_c (neg : Bool) (A1 A2 : Option Addr) (c1 c2 : Nat) (xs ds : List Nat) (w : World) (h1 : Rd w A1 c1 xs) (h2 : Rd w A2 c2 ds) (hl1 : xs.length ≤ 4096) (hl2 : ds.length ≤ 4096) (hd : 0 < val ds) :
    Calls Tryd.prog 8 #[ratV neg (.slice A1 xs.length c1) (.slice A2 ds.length c2)] w (CanR w (ofW neg (val xs) (val ds))) := by
  obtain ⟨hQ, hY, hE⟩ := boxesOR w neg (.slice A1 xs.length c1) (.slice A2 ds.length c2) _ rfl
  have hnm := fun w h h' => rnormg_c neg xs ds hd A1 A2 c1 c2 w h h' (by omega) (by omega)
  unfold RatN at hnm
  have hgp : 0 < Nat.gcd (val xs) (val ds) := Nat.gcd_pos_of_pos_right _ hd
  have hnl : (cn (val xs / Nat.gcd (val xs) (val ds))).length ≤ 4096 := cn_div_len _ _ _ (Nat.le_trans (cn_val_le h1.w64) hl1)
  have hdl : (cn (val ds / Nat.gcd (val xs) (val ds))).length ≤ 4096 := cn_div_len _ _ _ (Nat.le_trans (cn_val_le h2.w64) hl2)
  have hn0 : val xs = 0 → val xs / Nat.gcd (val xs) (val ds) = 0 := fun h => by rw [h, Nat.zero_div]
  have hn1 : 0 < val xs → 0 < val xs / Nat.gcd (val xs) (val ds) := fun h => Nat.div_pos (Nat.le_of_dvd h (Nat.gcd_dvd_left _ _)) hgp
  unfold ofW ofR
  generalize val xs / Nat.gcd (val xs) (val ds) = n' at *
  generalize val ds / Nat.gcd (val xs) (val ds) = d' at *
  obtain ⟨ng, hng⟩ : ∃ ng, (neg && decide (0 < val xs)) = ng := ⟨_, rfl⟩
  rw [hng] at hnm
  have hsn := fun A A2 c c2 n2 w h => rsign12_c ng A A2 c c2 n2 (cn n') w h (by omega)
  have hbt := fun A c w h => rbits_c A c (cn d') w h (by omega)
  have htz : tz d' ≤ 262144 := by have := tz_val_le (W64.cn d') hdl; rwa [val_cn] at this
  have hgd := fun A c w h => rgood_c 1 (-(tz d' : Int)) neg A c (cn n') w h hnl
  have hcn := fun A c w h f hf => rcanonical_c 1 (-(tz d' : Int)) neg A c (cn n') w h hnl f hf
  rw [val_cn] at hsn hbt hgd hcn
  generalize tz d' = t at *
  generalize pc d' = p at *
  generalize canon 1 neg (-(t : Int)) n' = cf at *
  have hw1 : IntKind.i64.wrap (-(t : Int)) = -(t : Int) := by rw [IntKind.wrap_i64]; omega
  obtain ⟨R, hR⟩ : ∃ R, (if val xs = 0 then some ⟨0, false, 0, 0⟩ else if p = 1 then cf else none) = R := ⟨_, rfl⟩
  rw [hR]
  have HR := Lib.hid hR
  have HNG := Lib.hid hng
  have HN0 := Lib.hid hn0
  have HN1 := Lib.hid hn1
  have HQ := Lib.hid hQ
  have HY := Lib.hid hY
  have HE := Lib.hid hE
  clear hQ hY hE hR hn0 hn1 hng hd hgp hl1 hl2 hnl hdl
  go_enter Tryd.func8, Tryd.ntmps8
  go_wp2_with fail
  have hQ := HQ.out
  have hY := HY.out
  have hE := HE.out
  clear HQ HY HE
  generalize ((w.alloc (.cells #[.bool neg, .slice A1 xs.length c1, .slice A2 ds.length c2] 27)).alloc (.cells #[.int .i64 0, .bool false, .int .i64 0, .slice none 0 0] 38)) = W at *
  obtain ⟨q0, q1, q2, qf⟩ := hQ.facts
  refine (hnm _ (h1.ext hE) (h2.ext hE)).mono ?_
  rintro z w1 ⟨v1, v2, rfl, ho1, ho2, hb1⟩
  obtain ⟨A3, c3, rfl, hr3⟩ := ho1.rd
  obtain ⟨A4, c4, rfl, hr4⟩ := ho2.rd
  have hlq := hQ.lt
  have hly := hY.lt
  have hQ1 := hQ.ext hb1
  have hQ2 := hQ1.put (.bool ng) (.slice A3 (cn n').length c3) (.slice A4 (cn d').length c4)
  have hY2 := (hY.ext hb1).apartq' (g' := w.heap.size) (by omega) (.bool ng) (.slice A3 (cn n').length c3) (.slice A4 (cn d').length c4)
  have hE2 := (hE.tr hb1).putq (g := w.heap.size) (by omega) (.bool ng) (.slice A3 (cn n').length c3) (.slice A4 (cn d').length c4)
  have hr3' := (ho1.putq (g := w.heap.size) (by omega) (.bool ng) (.slice A3 (cn n').length c3) (.slice A4 (cn d').length c4))
  have hr4' := (ho2.putq (g := w.heap.size) (by omega) (.bool ng) (.slice A3 (cn n').length c3) (.slice A4 (cn d').length c4))
  clear q0 q1 q2 qf
  obtain ⟨q0, q1, q2, qf⟩ := hQ1.facts
  have HQ2 := Lib.hid hQ2
  have HY2 := Lib.hid hY2
  have HE2 := Lib.hid hE2
  have HR3 := Lib.hid hr3'
  have HR4 := Lib.hid hr4'
  clear hQ2 hY2 hE2 hr3' hr4' hr3 hr4
  go_wp2_with fail
  generalize ((w1.setCell ⟨w.heap.size, 0, none⟩ (.bool ng)).setCell ⟨w.heap.size, 1, none⟩ (.slice A3 (cn n').length c3)).setCell ⟨w.heap.size, 2, none⟩ (.slice A4 (cn d').length c4) = w2 at *
  obtain ⟨-, hr3⟩ := HR3.out.rdAt
  obtain ⟨-, hr4⟩ := HR4.out.rdAt
  refine (hsn _ _ _ _ _ _ hr3).mono ?_
  rintro z w3 ⟨rfl, hb3⟩
  clear q0 q1 q2 qf hQ1 hQ hY hE hb1 ho1 ho2
  have hE3 := HE2.out.tr hb3
  have hQ3 := HQ2.out.ext hb3
  have hY3 := HY2.out.ext hb3
  by_cases hx : val xs = 0
  · have hR := HR.out
    rw [if_pos hx] at hR
    subst hR
    have hn := HN0.out hx
    have hsz : sgn (sg ng n') = 0 := by rw [hn]; unfold sgn sg; cases ng <;> rfl
    rw [hsz]
    have hE4 := hE3.put (g := w.heap.size + 1) (by omega) (.int .i64 0) (.bool false) (.int .i64 0) (.slice none 0 0)
    have hY4 := hY3.put (.int .i64 0) (.bool false) (.int .i64 0) (.slice none 0 0)
    have HE4 := Lib.hid hE4
    have HY4 := Lib.hid hY4
    clear hE4 hY4 hn hsz hx
    obtain ⟨y0, y1, y2, y3, yf⟩ := hY3.facts
    go_wp2_with fail
    obtain ⟨r0, r1, r2, r3, rf⟩ := HY4.out.facts
    refine bodyPost_ret (v := .tuple #[flV 0 false 0 (.slice none 0 0), .bool true]) (by simp [results, Tryd.results8, go_sem, r0, r1, r2, r3]) rfl ?_
    exact ⟨_, rfl, HE4.out, (fun f hf => by obtain rfl := Option.some.inj hf; exact ⟨_, rfl, by rw [show cn 0 = [] from digs_zero B]; exact Own.nil _ _⟩), _, _, _, _, _, _, rfl⟩
  · have hR := HR.out
    rw [if_neg hx] at hR
    have hxp : 0 < val xs := by omega
    have hng := HNG.out
    rw [decide_eq_true hxp, Bool.and_true] at hng
    subst hng
    have hs0 := sgn_pos (neg := neg) (HN1.out hxp)
    generalize sgn (sg neg n') = sz at *
    have hsb : (sz == 0) = false := by rw [beq_eq_false_iff_ne]; exact hs0
    have hr4' := hr4.ext hb3
    have hr3' := hr3.ext hb3
    clear hx hxp hs0 HN0 HN1 HR HNG
    obtain ⟨q0, q1, q2, qf⟩ := hQ3.facts
    go_wp2_with fail
    refine (hbt _ _ _ hr4').mono ?_
    rintro z w4 ⟨rfl, rfl⟩
    by_cases hp : p = 1
    rotate_left
    · rw [if_neg hp] at hR
      subst hR
      have hpb : ((p : Int) == 1) = false := by rw [beq_eq_false_iff_ne]; omega
      have hE4 := hE3.put (g := w.heap.size + 1) (by omega) (.int .i64 0) (.bool false) (.int .i64 0) (.slice none 0 0)
      have hY4 := hY3.put (.int .i64 0) (.bool false) (.int .i64 0) (.slice none 0 0)
      have HE4 := Lib.hid hE4
      have HY4 := Lib.hid hY4
      clear hE4 hY4 hp
      obtain ⟨y0, y1, y2, y3, yf⟩ := hY3.facts
      go_wp2_with fail
      obtain ⟨r0, r1, r2, r3, rf⟩ := HY4.out.facts
      refine bodyPost_ret (v := .tuple #[flV 0 false 0 (.slice none 0 0), .bool false]) (by simp [results, Tryd.results8, go_sem, r0, r1, r2, r3]) rfl ?_
      exact CanR.none HE4.out
    · rw [if_pos hp] at hR
      subst hR
      subst hp
      have hX := Br.new w3 (.int .i64 1) (.bool neg) (.int .i64 (-(t : Int))) (.slice A3 (cn n').length c3)
      have hA := (Ext.refl w3).al (.cells #[.int .i64 1, .bool neg, .int .i64 (-(t : Int)), .slice A3 (cn n').length c3] 38)
      have HX := Lib.hid hX
      have HA := Lib.hid hA
      clear hX hA
      go_wp2_with fail
      have hX := HX.out
      have hA := HA.out
      clear HX HA
      have hlx := hX.lt
      have hY4 := hY3.ext hA
      have hE4 := hE3.tr hA
      have hr5 := hr3'.ext hA
      have hsy := hY3.lt
      generalize w3.alloc (.cells #[.int .i64 1, .bool neg, .int .i64 (-(t : Int)), .slice A3 (cn n').length c3] 38) = w5 at *
      refine (hgd _ _ _ hr5).mono ?_
      rintro z w6 ⟨rfl, hb6⟩
      have hX6 := hX.ext hb6
      have hY6 := hY4.ext hb6
      have hE6 := hE4.tr hb6
      have hr6 := hr5.ext hb6
      clear q0 q1 q2 qf hX hY4 hE4
      obtain ⟨x0, x1, x2, x3, xf⟩ := hX6.facts
      cases cf with
      | none =>
        have hE7 := hE6.put (g := w.heap.size + 1) (by omega) (.int .i64 0) (.bool false) (.int .i64 0) (.slice none 0 0)
        have hY7 := hY6.put (.int .i64 0) (.bool false) (.int .i64 0) (.slice none 0 0)
        have HE7 := Lib.hid hE7
        have HY7 := Lib.hid hY7
        clear hE7 hY7 hcn
        obtain ⟨y0, y1, y2, y3, yf⟩ := hY6.facts
        simp only [Option.isSome_none]
        go_wp2_with fail
        obtain ⟨r0, r1, r2, r3, rf⟩ := HY7.out.facts
        refine bodyPost_ret (v := .tuple #[flV 0 false 0 (.slice none 0 0), .bool false]) (by simp [results, Tryd.results8, go_sem, r0, r1, r2, r3]) rfl ?_
        exact CanR.none HE7.out
      | some f =>
        have hcn1 := fun A c w h => hcn A c w h f rfl
        clear hcn
        simp only [Option.isSome_some]
        go_wp2_with fail
        refine (hcn1 _ _ _ hr6).mono ?_
        rintro z w7 ⟨u, rfl, ⟨v, rfl, ho7⟩, hb7⟩
        obtain ⟨A7, c7, rfl, -⟩ := ho7.rd
        have hY7 := hY6.ext hb7
        have hE7 := hE6.tr hb7
        have hly6 := hY6.lt
        have hY8 := hY7.put (.int .i64 f.kind) (.bool f.neg) (.int .i64 f.exp) (.slice A7 (cn f.mag).length c7)
        have hE8 := hE7.put (g := w.heap.size + 1) (by omega) (.int .i64 f.kind) (.bool f.neg) (.int .i64 f.exp) (.slice A7 (cn f.mag).length c7)
        have ho8 := (ho7.putBelow (g := w.heap.size + 1) hly6 (.int .i64 f.kind) (.bool f.neg) (.int .i64 f.exp) (.slice A7 (cn f.mag).length c7)).low (b := w.heap.size) hE6.size
        have HE8 := Lib.hid hE8
        have HY8 := Lib.hid hY8
        have HO8 := Lib.hid ho8
        clear hE8 hY8 ho8 x0 x1 x2 x3 xf
        obtain ⟨y0, y1, y2, y3, yf⟩ := hY7.facts
        go_wp2_with fail
        obtain ⟨r0, r1, r2, r3, rf⟩ := HY8.out.facts
        refine bodyPost_ret (v := .tuple #[flV f.kind f.neg f.exp (.slice A7 (cn f.mag).length c7), .bool true]) (by simp [results, Tryd.results8, go_sem, r0, r1, r2, r3]) rfl ?_
        exact ⟨_, rfl, HE8.out, (fun f' hf => by obtain rfl := Option.some.inj hf; exact ⟨_, rfl, HO8.out⟩), _, _, _, _, _, _, rfl⟩
end Go.Proofs.YtknafhogaheacaaDoor
