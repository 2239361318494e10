/- Rounding to a format: the plain law of fin.Float; wide.Below; fin.cut, up, Step, greatest, Right. -/
import Derived.Test.YtehlmacgjlgjaaaGreatDoorF4
import Derived.Test.YtehlmacgjlgjaaaGreatDoorT8
import Derived.Test.YtehlmacgjlgjaaaGreatDoorM4
import Derived.Test.YtehlmacgjlgjaaaGreatDoorW3
import Derived.Test.YtehlmacgjlgjaaaGreatDoorW7
import Derived.Test.YtehlmacgjlgjaaaGreatDoorF6
import Derived.Test.YtehlmacgjlgjaaaGreatDoorW5
import Derived.Test.YtehlmacgjlgjaaaGreatDoorQ0
set_option linter.unusedVariables false
set_option linter.unusedSimpArgs false
namespace Go.Proofs.YtehlmacgjlgjaaaGreatDoor
/-- What is cut off: 0 nothing, 1 less than a half, 2 a half, 3 more. -/
def rsN (m s : Nat) : Int := if m.testBit (s - 1) = true then (if m % 2 ^ (s - 1) = 0 then 2 else 3) else (if m % 2 ^ (s - 1) = 0 then 0 else 1)
def cutM (m : Nat) (s : Int) : Nat := if s ≤ 0 then m * 2 ^ (-s).toNat else m / 2 ^ s.toNat
def cutX (m : Nat) (s : Int) : Int := if s ≤ 0 then 0 else rsN m s.toNat
def moreB (r : Int) (neg odd : Bool) (x : Int) : Bool :=
  if r = 0 then decide (x = 3) || (decide (x = 2) && odd) else if r = 1 then decide (2 ≤ x) else if r = 2 then false else if r = 3 then decide (0 < x) && !neg else decide (0 < x) && neg
def upN (r : Int) (neg : Bool) (q : Nat) (x : Int) : Nat := if moreB r neg (q.testBit 0) x = true then q + 1 else q
def stepN (k p e : Int) : Int := if e < le k then ti k p else e - p + 1
def mkF (neg : Bool) (n : Nat) (u : Int) : Fl := if n = 0 then ⟨0, neg, 0, 0⟩ else ⟨1, neg, u + tz n, n / 2 ^ tz n⟩
def grB (r : Int) (neg : Bool) : Bool := decide (r = 2) || (decide (r = 3) && neg) || (decide (r = 4) && !neg)
def overF (k p r : Int) (neg : Bool) : Fl := if grB r neg = true then ⟨1, neg, gr k - p + 1, 2 ^ p.toNat - 1⟩ else ⟨2, neg, 0, 0⟩
/-- The exponent of the step at a number. -/
def fU (k p : Int) (m : Nat) (exp : Int) : Int := stepN k p (exp + bl m - 1)
/-- The number of steps, rounded. -/
def fN (k p r : Int) (neg : Bool) (m : Nat) (exp : Int) : Nat := upN r neg (cutM m (fU k p m exp - exp)) (cutX m (fU k p m exp - exp))
def fltF (k p r : Int) (neg : Bool) (m : Nat) (exp : Int) : Fl :=
  if gr k < fU k p m exp + bl (fN k p r neg m exp) - 1 then overF k p r neg else mkF neg (fN k p r neg m exp) (fU k p m exp)
def fltK (k p r : Int) (neg : Bool) (m : Nat) (exp : Int) : Int :=
  if gr k < fU k p m exp + bl (fN k p r neg m exp) - 1 then 5 else if cutX m (fU k p m exp - exp) = 0 then 0 else if exp + bl m - 1 < le k then 3 else 1

theorem rsN_range (m s : Nat) : 0 ≤ rsN m s ∧ rsN m s ≤ 3 := by unfold rsN; repeat' split <;> omega
theorem cutX_range (m : Nat) (s : Int) : 0 ≤ cutX m s ∧ cutX m s ≤ 3 := by
  unfold cutX
  split
  · omega
  · exact rsN_range _ _
theorem more_zero (r : Int) (neg odd : Bool) : moreB r neg odd 0 = false := by
  unfold moreB
  repeat' split
  all_goals simp
theorem upN_zero (r : Int) (neg : Bool) (q : Nat) : upN r neg q 0 = q := by unfold upN; rw [more_zero, if_neg (by decide)]
theorem upN_le (r : Int) (neg : Bool) (q : Nat) (x : Int) : q ≤ upN r neg q x ∧ upN r neg q x ≤ q + 1 := by unfold upN; split <;> omega
/-- Nothing is cut off. -/
theorem cut_exact {m : Nat} {s : Int} (hm : m % 2 = 1) (h : cutX m s = 0) : s ≤ 0 := by
  refine Int.not_lt.1 fun hs => ?_
  unfold cutX at h
  rw [if_neg (by omega)] at h
  unfold rsN at h
  obtain ⟨j, hj⟩ : ∃ j, s.toNat = j + 1 := ⟨s.toNat - 1, by omega⟩
  rw [hj, Nat.add_sub_cancel] at h
  split at h
  · split at h <;> omega
  · rename_i ht
    split at h
    · rename_i hl
      rcases Nat.eq_zero_or_pos j with rfl | hjp
      · rw [Nat.testBit_zero] at ht
        simp [hm] at ht
      · have h1 : 2 ^ 1 ∣ 2 ^ j := Nat.pow_dvd_pow 2 hjp
        rw [Nat.pow_one] at h1
        have h2 : 2 ∣ m := Nat.dvd_trans h1 (Nat.dvd_of_mod_eq_zero hl)
        omega
    · omega
theorem tz_shift {m : Nat} (hm : m % 2 = 1) (k : Nat) : tz (m * 2 ^ k) = k ∧ m * 2 ^ k / 2 ^ tz (m * 2 ^ k) = m := by
  have e : tz (m * 2 ^ k) = k := by rw [Nat.mul_comm, tz_mul_pow m k (by omega), tz_odd hm, Nat.add_zero]
  exact ⟨e, by rw [e]; exact Nat.mul_div_cancel _ (Nat.two_pow_pos k)⟩
/-- A number that is rounded with no flags is the number. -/
theorem flt_exact {k p r exp : Int} {neg : Bool} {m : Nat} (hm : m % 2 = 1) (h : fltK k p r neg m exp = 0) : fltF k p r neg m exp = ⟨1, neg, exp, m⟩ := by
  unfold fltK at h
  split at h
  · omega
  · rename_i hg
    split at h
    · rename_i hx
      have hs := cut_exact hm hx
      unfold fltF
      rw [if_neg hg]
      have hn : fN k p r neg m exp = m * 2 ^ (-(fU k p m exp - exp)).toNat := by
        unfold fN
        rw [hx, upN_zero]
        unfold cutM
        rw [if_pos hs]
      obtain ⟨e1, e2⟩ := tz_shift hm (-(fU k p m exp - exp)).toNat
      have hp : 0 < m * 2 ^ (-(fU k p m exp - exp)).toNat := Nat.mul_pos (by omega) (Nat.two_pow_pos _)
      unfold mkF
      rw [hn, if_neg (by omega), e2, e1]
      congr 1
      omega
    · split at h <;> omega
theorem bl_le_of_lt {n : Nat} {p : Nat} (h : n < 2 ^ p) : bl n ≤ p := (bl_le n p).2 h
theorem bl_div_pow {m : Nat} (hm : 0 < m) {s : Nat} (hs : s < bl m) : bl (m / 2 ^ s) = bl m - s := by
  have h1 := bl_ge hm
  have h2 : m < 2 ^ bl m := bl_lt
  have hp : 0 < 2 ^ s := Nat.two_pow_pos s
  obtain ⟨j, hj⟩ : ∃ j, bl m = s + (j + 1) := ⟨bl m - s - 1, by omega⟩
  rw [hj] at h1 h2 ⊢
  rw [show s + (j + 1) - s = j + 1 by omega]
  refine bl_unique ?_ ?_
  · refine (Nat.le_div_iff_mul_le hp).2 ?_
    rw [← Nat.pow_add]
    exact Nat.le_trans (Nat.pow_le_pow_right (by omega) (by omega)) h1
  · refine (Nat.div_lt_iff_lt_mul hp).2 ?_
    rw [← Nat.pow_add, show j + 1 + s = s + (j + 1) by omega]
    exact h2
/-- How many bits what is not cut off has. -/
theorem cut_bits {k p exp : Int} (hR : Rgt k p) {m : Nat} (hm : 0 < m) :
    (le k ≤ exp + bl m - 1 → (bl (cutM m (fU k p m exp - exp)) : Int) = p) ∧ (exp + bl m - 1 < le k → (bl (cutM m (fU k p m exp - exp)) : Int) ≤ p - 1) ∧ ti k p ≤ fU k p m exp := by
  obtain ⟨r1, r2, r3, r4⟩ := hR
  have hb := bl_pos hm
  have ht : ti k p = le k - (p - 1) := rfl
  refine ⟨fun h => ?_, fun h => ?_, ?_⟩
  · have hu : fU k p m exp = exp + bl m - 1 - p + 1 := by unfold fU stepN; rw [if_neg (by omega)]
    rw [hu]
    unfold cutM
    split
    · rw [bl_mul_pow m _ hm]
      omega
    · rw [bl_div_pow hm (by omega)]
      omega
  · have hu : fU k p m exp = ti k p := by unfold fU stepN; rw [if_pos h]
    rw [hu]
    unfold cutM
    split
    · rw [bl_mul_pow m _ hm]
      omega
    · rcases Nat.lt_or_ge (ti k p - exp).toNat (bl m) with h1 | h1
      · rw [bl_div_pow hm h1]
        omega
      · rw [Nat.div_eq_of_lt (Nat.lt_of_lt_of_le bl_lt (Nat.pow_le_pow_right (by omega) h1)), bl_zero]
        omega
  · unfold fU stepN
    split <;> omega
theorem bl_succ_le (n : Nat) : bl n ≤ bl (n + 1) ∧ bl (n + 1) ≤ bl n + 1 := by
  refine ⟨bl_mono (by omega), (bl_le _ _).2 ?_⟩
  have := bl_lt (n := n)
  rw [Nat.pow_succ]
  omega
/-- What is rounded: at most p bits, or 2^p. -/
theorem fN_bits {k p r exp : Int} {neg : Bool} (hR : Rgt k p) {m : Nat} (hm : 0 < m) : fN k p r neg m exp ≤ 2 ^ p.toNat := by
  obtain ⟨c1, c2, -⟩ := cut_bits (exp := exp) hR hm
  obtain ⟨u1, u2⟩ := upN_le r neg (cutM m (fU k p m exp - exp)) (cutX m (fU k p m exp - exp))
  have hp : (bl (cutM m (fU k p m exp - exp)) : Int) ≤ p := by
    rcases Int.lt_or_le (exp + bl m - 1) (le k) with h | h
    · have := c2 h; omega
    · have := c1 h; omega
  have h1 : cutM m (fU k p m exp - exp) < 2 ^ p.toNat := (bl_le _ _).1 (by omega)
  unfold fN
  omega
/-- Too great before it is rounded. -/
theorem flt_over {k p r exp : Int} {neg : Bool} (hR : Rgt k p) {m : Nat} (hm : 0 < m) (h : gr k < exp + bl m - 1) : gr k < fU k p m exp + bl (fN k p r neg m exp) - 1 := by
  have hle : le k ≤ exp + bl m - 1 := by
    have : le k = 1 - gr k := rfl
    have h1 : 0 ≤ gr k := by
      have : (0 : Int) < 2 ^ (k.toNat - 1) := by exact_mod_cast Nat.two_pow_pos _
      unfold gr
      omega
    omega
  obtain ⟨c1, -, -⟩ := cut_bits (exp := exp) hR hm
  have h2 := c1 hle
  obtain ⟨u1, -⟩ := upN_le r neg (cutM m (fU k p m exp - exp)) (cutX m (fU k p m exp - exp))
  have h3 : bl (cutM m (fU k p m exp - exp)) ≤ bl (fN k p r neg m exp) := bl_mono u1
  have hu : fU k p m exp = exp + bl m - 1 - p + 1 := by unfold fU stepN; rw [if_neg (by omega)]
  omega
/-- What becomes 0. -/
theorem flt_gone {k p r exp : Int} {neg : Bool} (hR : Rgt k p) {m : Nat} (hm : 0 < m) (h : fN k p r neg m exp = 0) : cutX m (fU k p m exp - exp) ≠ 0 ∧ exp + bl m - 1 < le k := by
  obtain ⟨c1, -, -⟩ := cut_bits (exp := exp) hR hm
  obtain ⟨u1, -⟩ := upN_le r neg (cutM m (fU k p m exp - exp)) (cutX m (fU k p m exp - exp))
  have h0 : cutM m (fU k p m exp - exp) = 0 := by
    unfold fN at h
    omega
  refine ⟨fun hx => ?_, Int.not_le.1 fun hl => ?_⟩
  · generalize fU k p m exp - exp = s at *
    unfold cutM at h0
    unfold cutX at hx
    split at h0
    · have := Nat.mul_pos hm (Nat.two_pow_pos (-s).toNat)
      omega
    · rename_i hs
      rw [if_neg hs] at hx
      obtain ⟨j, hj⟩ : ∃ j, s.toNat = j + 1 := ⟨s.toNat - 1, by omega⟩
      rw [hj] at h0 hx
      unfold rsN at hx
      rw [Nat.add_sub_cancel] at hx
      have hb := div_pow_succ m j
      rw [h0] at hb
      split at hx
      · split at hx <;> omega
      · rename_i ht
        rw [if_neg ht] at hb
        split at hx
        · rename_i hz
          have := Nat.div_add_mod m (2 ^ j)
          rw [hb, hz] at this
          omega
        · omega
  · have h1 := c1 hl
    rw [h0, bl_zero] at h1
    have := hR.2.2.1
    omega
/-! ### the reference's parts -/
/-- Twice the number of steps, rounded down; what is beyond it. -/
def rfQ (m : Nat) (a : Int) : Nat := if 0 ≤ a then m * 2 ^ a.toNat else m / 2 ^ (-a).toNat
def rfT (m : Nat) (a : Int) : Bool := if 0 ≤ a then false else decide (m % 2 ^ (-a).toNat ≠ 0)
def xOf (h t : Bool) : Int := if h = true then (if t = true then 3 else 2) else (if t = true then 1 else 0)
theorem rf_cut (m : Nat) (s : Int) : rfQ m (1 - s) / 2 = cutM m s ∧ cutX m s = xOf ((rfQ m (1 - s)).testBit 0) (rfT m (1 - s)) := by
  rcases Int.lt_or_le 0 s with hs | hs
  · obtain ⟨j, rfl⟩ : ∃ j : Nat, s = ((j + 1 : Nat) : Int) := ⟨s.toNat - 1, by omega⟩
    have e1 : (((j + 1 : Nat) : Int)).toNat = j + 1 := by omega
    have eq : rfQ m (1 - ((j + 1 : Nat) : Int)) = m / 2 ^ j := by
      unfold rfQ
      split
      · have : j = 0 := by omega
        subst this
        simp
      · rw [show (-(1 - ((j + 1 : Nat) : Int))).toNat = j by omega]
    have et : rfT m (1 - ((j + 1 : Nat) : Int)) = decide (m % 2 ^ j ≠ 0) := by
      unfold rfT
      split
      · have : j = 0 := by omega
        subst this
        simp [Nat.mod_one]
      · rw [show (-(1 - ((j + 1 : Nat) : Int))).toNat = j by omega]
    rw [eq, et]
    unfold cutM cutX
    rw [if_neg (by omega), if_neg (by omega), e1]
    refine ⟨by rw [Nat.div_div_eq_div_mul, ← Nat.pow_succ], ?_⟩
    unfold rsN xOf
    rw [Nat.add_sub_cancel, Nat.testBit_zero, Nat.testBit_eq_decide_div_mod_eq]
    by_cases h1 : m / 2 ^ j % 2 = 1 <;> by_cases h2 : m % 2 ^ j = 0 <;> simp [h1, h2]
  · obtain ⟨j, hj⟩ : ∃ j : Nat, -s = (j : Int) := ⟨(-s).toNat, by omega⟩
    have eq : rfQ m (1 - s) = m * 2 ^ j * 2 := by
      unfold rfQ
      rw [if_pos (by omega), show (1 - s).toNat = j + 1 by omega, Nat.pow_succ, Nat.mul_assoc]
    have et : rfT m (1 - s) = false := by unfold rfT; rw [if_pos (by omega)]
    rw [eq, et]
    unfold cutM cutX
    rw [if_pos hs, if_pos hs, show (-s).toNat = j by omega]
    refine ⟨Nat.mul_div_cancel _ (by omega), ?_⟩
    rw [Nat.testBit_zero]
    simp [xOf]
/-- Whether the reference goes up. -/
def rdUp (r : Int) (neg h t odd : Bool) : Bool := if r = 0 then h && (t || odd) else if r = 1 then h else if r = 3 then !neg else if r = 4 then neg else false
theorem rd_up {r : Int} (h0 : 0 ≤ r) (h4 : r ≤ 4) (neg odd h t : Bool) : moreB r neg odd (xOf h t) = (if h = false ∧ t = false then false else rdUp r neg h t odd) := by
  have hr : r = 0 ∨ r = 1 ∨ r = 2 ∨ r = 3 ∨ r = 4 := by omega
  rcases hr with rfl | rfl | rfl | rfl | rfl <;> cases neg <;> cases odd <;> cases h <;> cases t <;> decide
end Go.Proofs.YtehlmacgjlgjaaaGreatDoor
namespace Go.Proofs.YtehlmacgjlgjaaaGreatDoor
open Go.RowKit
attribute [local go_sem ↓] Go.wp_at_zero Go.wp_at_succ

theorem below_iff (m s : Nat) (hm : 0 < m) : decide (m % 2 ^ s ≠ 0) = decide (tz m < s) := by
  rw [decide_eq_decide]
  have h := tz_dvd m s hm
  rw [Nat.dvd_iff_mod_eq_zero] at h
  omega
set_option maxHeartbeats 1000000 in
set_option maxRecDepth 100000 in
theorem below_c (A : Option Addr) (c : Nat) (xs : List Nat) (s : Nat) (w : World) (hT : Tab w) (h : Rd w A c xs) (hl : xs.length ≤ 1000000000) :
    Calls Tryz.prog 97 #[.slice A xs.length c, .int .i64 (s : Int)] w fun e w' => e = .returned (.bool (decide (val xs % 2 ^ s ≠ 0))) ∧ ∃ n, w' = w.drewN n := by
  have hz := fun w h => zero_c A c xs w h
  have htr := fun w h hT => trailing_c A c xs w h (by omega) hT
  rcases Nat.eq_zero_or_pos s with rfl | hs
  · rw [Nat.pow_zero, Nat.mod_one]
    go_enter Tryz.func97, Tryz.ntmps97
    go_wp2_with fail
    go_ret
    exact ⟨rfl, 0, rfl⟩
  · have hs1 : decide ((0 : Int) < (s : Int)) = true := decide_eq_true (by omega)
    have hs2 : decide (0 < s) = true := decide_eq_true hs
    rcases Nat.eq_zero_or_pos (val xs) with h0 | h0
    · rw [h0, Nat.zero_mod]
      rw [decide_eq_true h0] at hz
      clear h0 hs
      go_enter Tryz.func97, Tryz.ntmps97
      go_wp2_with fail
      refine (hz _ h).mono ?_
      rintro z w1 ⟨rfl, n, rfl⟩
      go_wp2_with fail
      go_ret
      exact ⟨rfl, n, rfl⟩
    · rw [below_iff (val xs) s h0]
      rw [show decide (val xs = 0) = false by rw [decide_eq_false_iff_not]; omega] at hz
      clear h0 hs
      generalize tz (val xs) = t at *
      go_enter Tryz.func97, Tryz.ntmps97
      go_wp2_with fail
      refine (hz _ h).mono ?_
      rintro z w1 ⟨rfl, n, rfl⟩
      go_wp2_with fail
      refine (htr _ (h.drewN n) (hT.ext ((Ext.refl w).drewN n))).mono ?_
      rintro z w1 ⟨rfl, n', rfl⟩
      go_wp2_with fail
      go_ret
      exact ⟨rfl, n + n', rfl⟩
/-- What cut hands back. -/
def RestR (w : World) (n : Nat) (x : Int) (e : Ending) (w' : World) : Prop := ∃ v, e = .returned (.tuple #[v, .int .i64 x]) ∧ Own w' w.heap.size v (cn n) ∧ Ext w w'
set_option maxHeartbeats 2000000 in
set_option maxRecDepth 100000 in
theorem cut_c (A : Option Addr) (c : Nat) (xs : List Nat) (s : Int) (w : World) (hT : Tab w) (h : Rd w A c xs) (hl : xs.length ≤ 10000000) (hs1 : -100000000 ≤ s) (hs2 : s ≤ 100000000) :
    Calls Tryz.prog 52 #[.slice A xs.length c, .int .i64 s, .bool false] w (RestR w (cutM (val xs) s) (cutX (val xs) s)) := by
  unfold RestR
  rcases Int.lt_or_le 0 s with hs | hs
  · obtain ⟨j, hj⟩ : ∃ j : Nat, ((j + 1 : Nat) : Int) = s := ⟨s.toNat - 1, by omega⟩
    have hbt := fun w h => bit_c A c xs j w h (by omega)
    have hbl := fun w hT h => below_c A c xs j w hT h (by omega)
    have hsh := fun w h => shr_c A c xs (j + 1) w h (by omega) (by omega)
    rw [hj] at hsh
    have e1 : cutM (val xs) s = val xs / 2 ^ (j + 1) := by
      rw [← hj]
      unfold cutM
      rw [if_neg (by omega)]
      rfl
    have e2 : cutX (val xs) s = xOf ((val xs).testBit j) (decide (val xs % 2 ^ j ≠ 0)) := by
      rw [← hj]
      unfold cutX
      rw [if_neg (by omega)]
      show rsN (val xs) (j + 1) = _
      unfold rsN xOf
      rw [Nat.add_sub_cancel]
      by_cases h2 : val xs % 2 ^ j = 0 <;> simp [h2]
    rw [e1, e2]
    generalize (val xs).testBit j = tb at *
    generalize decide (val xs % 2 ^ j ≠ 0) = lb at *
    generalize val xs / 2 ^ (j + 1) = q at *
    have hc : decide (s ≤ 0) = false := by rw [decide_eq_false_iff_not]; omega
    have hi : s - 1 = (j : Int) := by omega
    clear e1 e2 hj
    go_enter Tryz.func52, Tryz.ntmps52
    go_wp2_with fail
    refine (hbt _ h).mono ?_
    rintro z w1 ⟨rfl, n1, rfl⟩
    go_wp2_with fail
    refine (hbl _ (hT.ext ((Ext.refl w).drewN n1)) (h.drewN n1)).mono ?_
    rintro z w1 ⟨rfl, n2, rfl⟩
    cases tb <;> cases lb
    all_goals
      go_wp2_with fail
      refine (hsh _ (h.drewN _)).mono ?_
      rintro z w3 ⟨v, rfl, ho, hb⟩
      go_wp2
      go_ret2
      exact ⟨_, rfl, ho, ((Ext.refl w).drewN _).tr hb⟩
  · obtain ⟨j, rfl⟩ : ∃ j : Nat, s = -(j : Int) := ⟨(-s).toNat, by omega⟩
    have hsh := fun w h => shl_c A c xs j w h (by omega) (by omega)
    have e1 : cutM (val xs) (-(j : Int)) = val xs * 2 ^ j := by
      unfold cutM
      rw [if_pos hs]
      congr 2
      omega
    have e2 : cutX (val xs) (-(j : Int)) = 0 := by
      unfold cutX
      rw [if_pos hs]
    rw [e1, e2]
    generalize val xs * 2 ^ j = q at *
    have hc : decide (-(j : Int) ≤ 0) = true := decide_eq_true hs
    have hw : IntKind.i64.wrap (j : Int) = (j : Int) := by rw [IntKind.wrap_i64]; omega
    clear e1 e2
    go_enter Tryz.func52, Tryz.ntmps52
    go_wp2_with fail
    refine (hsh _ h).mono ?_
    rintro z w3 ⟨v, rfl, ho, hb⟩
    go_wp2
    go_ret2
    exact ⟨_, rfl, ho, hb⟩
end Go.Proofs.YtehlmacgjlgjaaaGreatDoor
namespace Go.Proofs.YtehlmacgjlgjaaaGreatDoor
open Go.RowKit
attribute [local go_sem ↓] Go.wp_at_zero Go.wp_at_succ

/-- The table of roundings lies in its variable. -/
structure MoreT (w : World) : Prop where
  m0 : w.cell? ⟨0, 0, none⟩ = some (.func (.func 189) #[] #[])
  m1 : w.cell? ⟨0, 1, none⟩ = some (.func (.func 190) #[] #[])
  m2 : w.cell? ⟨0, 2, none⟩ = some (.func (.func 191) #[] #[])
  m3 : w.cell? ⟨0, 3, none⟩ = some (.func (.func 192) #[] #[])
  m4 : w.cell? ⟨0, 4, none⟩ = some (.func (.func 193) #[] #[])
theorem MoreT.ext {w w' : World} (h : MoreT w) (hb : Ext w w') : MoreT w' := ⟨hb.cell h.m0, hb.cell h.m1, hb.cell h.m2, hb.cell h.m3, hb.cell h.m4⟩
theorem more1_c (neg odd : Bool) (x : Int) (h0 : 0 ≤ x) (h3 : x ≤ 3) (w : World) : Calls Tryz.prog 189 #[.bool neg, .bool odd, .int .i64 x] w fun e w' => e = .returned (.bool (moreB 0 neg odd x)) ∧ w = w' := by
  have hx : x = 0 ∨ x = 1 ∨ x = 2 ∨ x = 3 := by omega
  rcases hx with rfl | rfl | rfl | rfl <;> cases odd <;> cases neg
  all_goals
    go_enter Tryz.func189, Tryz.ntmps189
    go_wp2
    go_ret
    exact ⟨rfl, rfl⟩
theorem more2_c (neg odd : Bool) (x : Int) (h0 : 0 ≤ x) (h3 : x ≤ 3) (w : World) : Calls Tryz.prog 190 #[.bool neg, .bool odd, .int .i64 x] w fun e w' => e = .returned (.bool (moreB 1 neg odd x)) ∧ w = w' := by
  have hx : x = 0 ∨ x = 1 ∨ x = 2 ∨ x = 3 := by omega
  rcases hx with rfl | rfl | rfl | rfl
  all_goals
    go_enter Tryz.func190, Tryz.ntmps190
    go_wp2
    go_ret
    exact ⟨rfl, rfl⟩
theorem more3_c (neg odd : Bool) (x : Int) (h0 : 0 ≤ x) (h3 : x ≤ 3) (w : World) : Calls Tryz.prog 191 #[.bool neg, .bool odd, .int .i64 x] w fun e w' => e = .returned (.bool (moreB 2 neg odd x)) ∧ w = w' := by
  go_enter Tryz.func191, Tryz.ntmps191
  go_wp2
  go_ret
  exact ⟨rfl, rfl⟩
theorem more4_c (neg odd : Bool) (x : Int) (h0 : 0 ≤ x) (h3 : x ≤ 3) (w : World) : Calls Tryz.prog 192 #[.bool neg, .bool odd, .int .i64 x] w fun e w' => e = .returned (.bool (moreB 3 neg odd x)) ∧ w = w' := by
  have hx : x = 0 ∨ x = 1 ∨ x = 2 ∨ x = 3 := by omega
  rcases hx with rfl | rfl | rfl | rfl <;> cases neg
  all_goals
    go_enter Tryz.func192, Tryz.ntmps192
    go_wp2
    go_ret
    exact ⟨rfl, rfl⟩
theorem more5_c (neg odd : Bool) (x : Int) (h0 : 0 ≤ x) (h3 : x ≤ 3) (w : World) : Calls Tryz.prog 193 #[.bool neg, .bool odd, .int .i64 x] w fun e w' => e = .returned (.bool (moreB 4 neg odd x)) ∧ w = w' := by
  have hx : x = 0 ∨ x = 1 ∨ x = 2 ∨ x = 3 := by omega
  rcases hx with rfl | rfl | rfl | rfl <;> cases neg
  all_goals
    go_enter Tryz.func193, Tryz.ntmps193
    go_wp2
    go_ret
    exact ⟨rfl, rfl⟩
set_option maxHeartbeats 2000000 in
set_option maxRecDepth 100000 in
theorem up_c (r : Int) (neg : Bool) (A : Option Addr) (c : Nat) (xs : List Nat) (x : Int) (hr0 : 0 ≤ r) (hr4 : r ≤ 4) (h0 : 0 ≤ x) (h3 : x ≤ 3) (w : World) (hM : MoreT w) (h : Rd w A c xs) (hl : xs.length ≤ 10000000) :
    Calls Tryz.prog 53 #[.int .i64 r, .bool neg, .slice A xs.length c, .int .i64 x] w (Res w (cn (upN r neg (val xs) x))) := by
  have had := fun A' c' w h h' => add_c A A' c c' xs [1] w h h' (by omega) (by simp)
  have htm := fun w h => trim_c A c xs w h (by omega)
  rw [val_one] at had
  obtain ⟨tb, htb⟩ : ∃ tb, (val xs).testBit 0 = tb := ⟨_, rfl⟩
  obtain ⟨mb, hmb⟩ : ∃ mb, moreB r neg tb x = mb := ⟨_, rfl⟩
  unfold upN
  rw [htb, hmb]
  have hbt : ∀ w, Rd w A c xs → Calls Tryz.prog 96 #[.slice A xs.length c, .int .i64 0] w fun e w' => e = .returned (.bool tb) ∧ Ext w w' := fun w h =>
    (bit_c A c xs 0 w h (by omega)).mono fun z w' hz => ⟨by rw [← htb]; exact hz.1, hz.2.elim fun n hn => by rw [hn]; exact (Ext.refl _).drewN n⟩
  generalize val xs = q at *
  obtain ⟨N, hN⟩ : ∃ N, (if mb = true then q + 1 else q) = N := ⟨_, rfl⟩
  rw [hN]
  have HN := Lib.hid hN
  clear hN
  have m0 := Later.cell hM.m0
  have m1 := Later.cell hM.m1
  have m2 := Later.cell hM.m2
  have m3 := Later.cell hM.m3
  have m4 := Later.cell hM.m4
  have f1 := fun w => more1_c neg tb x h0 h3 w
  have f2 := fun w => more2_c neg tb x h0 h3 w
  have f3 := fun w => more3_c neg tb x h0 h3 w
  have f4 := fun w => more4_c neg tb x h0 h3 w
  have f5 := fun w => more5_c neg tb x h0 h3 w
  have hr : r = 0 ∨ r = 1 ∨ r = 2 ∨ r = 3 ∨ r = 4 := by omega
  clear htb h0 h3 hr0 hr4 hM
  rcases hr with rfl | rfl | rfl | rfl | rfl
  all_goals
    first
      | rw [hmb] at f1
      | rw [hmb] at f2
      | rw [hmb] at f3
      | rw [hmb] at f4
      | rw [hmb] at f5
    clear hmb
    go_enter Tryz.func53, Tryz.ntmps53
    go_wp2_with fail
    refine wp_region_later (by kernel_rfl) (by kernel_rfl) ?_
    repeat (go_big_quiet_step (first
      | (go_at_call 96; (with_reducible refine Calls.later (hbt _ (h.ext (Later.h _)))))
      | (go_at_call 189; (with_reducible refine Calls.later_same (f1 _)))
      | (go_at_call 190; (with_reducible refine Calls.later_same (f2 _)))
      | (go_at_call 191; (with_reducible refine Calls.later_same (f3 _)))
      | (go_at_call 192; (with_reducible refine Calls.later_same (f4 _)))
      | (go_at_call 193; (with_reducible refine Calls.later_same (f5 _)))
      | fail))
    refine wpQuiet_nil ?_
    intro wq hw'
    obtain ⟨⟨_, hq⟩, rfl⟩ := hw'
    have hrq := h.ext hq
    clear m0 m1 m2 m3 m4 f1 f2 f3 f4 f5 hbt
    cases mb
    · obtain rfl : q = N := HN.out
      go_wp2_with fail
      refine (htm _ hrq).mono ?_
      rintro z w3 ⟨v, rfl, ho, hb⟩
      have ho' := ho.low hq.size
      have hb' := hq.tr hb
      go_wp2
      go_ret
      exact ⟨_, rfl, ho', hb'⟩
    · obtain rfl : q + 1 = N := HN.out
      have hA := (Ext.refl wq).al (.cells #[.int .u64 ((1 : Nat) : Int)] 60)
      have hn := Rd.new1 wq 1 (by rw [B_eq]; omega)
      have hr2 := hrq.ext hA
      have hE := hq.tr hA
      have HA := Lib.hid hA
      have HN1 := Lib.hid hn
      have HR := Lib.hid hr2
      have HE := Lib.hid hE
      clear hA hn hr2 hE
      go_wp2_with fail
      refine (had _ _ _ HR.out HN1.out).mono ?_
      rintro z w3 ⟨v, rfl, ho, hb⟩
      have ho' := ho.low HE.out.size
      have hb' := HE.out.tr hb
      go_wp2
      go_ret
      exact ⟨_, rfl, ho', hb'⟩
theorem step_c (k p e : Int) (w : World) (hR : Rgt k p) (h1 : -4000000 ≤ e) (h2 : e ≤ 4000000) :
    Calls Tryz.prog 51 #[.agg #[.int .i64 k, .int .i64 p], .int .i64 e] w fun z w' => z = .returned (.int .i64 (stepN k p e)) ∧ Ext w w' := by
  have hrg := fun w => range_yes k p w hR
  have hF := Bf.new w (.int .i64 k) (.int .i64 p)
  have hA := (Ext.refl w).al (.cells #[.int .i64 k, .int .i64 p] 23)
  obtain ⟨r1, r2, r3, r4⟩ := hR
  unfold stepN
  by_cases hc : e < le k
  · rw [if_pos hc]
    have hd : decide (e < le k) = true := decide_eq_true hc
    clear hc
    go_enter Tryz.func51, Tryz.ntmps51
    obtain ⟨f0, f1⟩ := hF.facts
    go_wp2_with fail
    refine (hrg _).mono ?_
    rintro z w2 ⟨rfl, hb⟩
    go_wp2
    go_ret
    exact ⟨rfl, hA.tr hb⟩
  · rw [if_neg hc]
    have hd : decide (e < le k) = false := decide_eq_false hc
    clear hc
    go_enter Tryz.func51, Tryz.ntmps51
    obtain ⟨f0, f1⟩ := hF.facts
    go_wp2_with fail
    refine (hrg _).mono ?_
    rintro z w2 ⟨rfl, hb⟩
    obtain ⟨f0, f1⟩ := (hF.ext hb).facts
    go_wp2
    go_ret
    exact ⟨rfl, hA.tr hb⟩
theorem greatest_c (r : Int) (neg : Bool) (hr0 : 0 ≤ r) (hr4 : r ≤ 4) (w : World) : Calls Tryz.prog 54 #[.int .i64 r, .bool neg] w fun e w' => e = .returned (.bool (grB r neg)) ∧ w = w' := by
  have hr : r = 0 ∨ r = 1 ∨ r = 2 ∨ r = 3 ∨ r = 4 := by omega
  rcases hr with rfl | rfl | rfl | rfl | rfl <;> cases neg
  all_goals
    go_enter Tryz.func54, Tryz.ntmps54
    go_wp2
    go_ret
    exact ⟨rfl, rfl⟩
theorem right_c (r : Int) (w : World) : Calls Tryz.prog 49 #[.int .i64 r] w fun e w' => e = .returned (.bool (decide (0 ≤ r ∧ r ≤ 4))) ∧ w = w' := by
  by_cases h0 : 0 ≤ r
  · have d0 : decide (0 ≤ r) = true := decide_eq_true h0
    by_cases h4 : r ≤ 4
    · have d4 : decide (r ≤ 4) = true := decide_eq_true h4
      rw [show decide (0 ≤ r ∧ r ≤ 4) = true from decide_eq_true ⟨h0, h4⟩]
      go_enter Tryz.func49, Tryz.ntmps49
      go_wp2
      go_ret
      exact ⟨rfl, rfl⟩
    · have d4 : decide (r ≤ 4) = false := decide_eq_false h4
      rw [show decide (0 ≤ r ∧ r ≤ 4) = false from decide_eq_false (fun h => h4 h.2)]
      clear h4
      go_enter Tryz.func49, Tryz.ntmps49
      go_wp2
      go_ret
      exact ⟨rfl, rfl⟩
  · have d0 : decide (0 ≤ r) = false := decide_eq_false h0
    rw [show decide (0 ≤ r ∧ r ≤ 4) = false from decide_eq_false (fun h => h0 h.1)]
    clear h0
    go_enter Tryz.func49, Tryz.ntmps49
    go_wp2
    go_ret
    exact ⟨rfl, rfl⟩
end Go.Proofs.YtehlmacgjlgjaaaGreatDoor
