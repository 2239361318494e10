/- Rounding to a format: the plain law of fin.Float; wide.Below; fin.cut, up, Step, greatest, Right. -/
import Derived.Test.YtlnfmngginihfaaGreatDoorF4
import Derived.Test.YtlnfmngginihfaaGreatDoorT8
import Derived.Test.YtlnfmngginihfaaGreatDoorM4
import Derived.Test.YtlnfmngginihfaaGreatDoorW3
import Derived.Test.YtlnfmngginihfaaGreatDoorW7
import Derived.Test.YtlnfmngginihfaaGreatDoorF6
import Derived.Test.YtlnfmngginihfaaGreatDoorW5
import Derived.Test.YtlnfmngginihfaaGreatDoorB0
set_option linter.unusedVariables false
set_option linter.unusedSimpArgs false
namespace Go.Proofs.YtlnfmngginihfaaGreatDoor
/-- What is cut off: 0 nothing, 1 less than a half, 2 a half, 3 more. -/
def rsN (m s : Nat) : Int := if m.testBit (s - 1) = true then (if m % 2 ^ (s - 1) = 0 then 2 else 3) else (if m % 2 ^ (s - 1) = 0 then 0 else 1)
def cutM (m : Nat) (s : Int) : Nat := if s ≤ 0 then m * 2 ^ (-s).toNat else m / 2 ^ s.toNat
def cutX (m : Nat) (s : Int) : Int := if s ≤ 0 then 0 else rsN m s.toNat
def moreB (r : Int) (neg odd : Bool) (x : Int) : Bool :=
  if r = 0 then decide (x = 3) || (decide (x = 2) && odd) else if r = 1 then decide (2 ≤ x) else if r = 2 then false else if r = 3 then decide (0 < x) && !neg else decide (0 < x) && neg
def upN (r : Int) (neg : Bool) (q : Nat) (x : Int) : Nat := if moreB r neg (q.testBit 0) x = true then q + 1 else q
def stepN (k p e : Int) : Int := if e < le k then ti k p else e - p + 1
def mkF (neg : Bool) (n : Nat) (u : Int) : Fl := if n = 0 then ⟨0, neg, 0, 0⟩ else ⟨1, neg, u + tz n, n / 2 ^ tz n⟩
def grB (r : Int) (neg : Bool) : Bool := decide (r = 2) || (decide (r = 3) && neg) || (decide (r = 4) && !neg)
def overF (k p r : Int) (neg : Bool) : Fl := if grB r neg = true then ⟨1, neg, gr k - p + 1, 2 ^ p.toNat - 1⟩ else ⟨2, neg, 0, 0⟩
/-- The exponent of the step at a number. -/
def fU (k p : Int) (m : Nat) (exp : Int) : Int := stepN k p (exp + bl m - 1)
/-- The number of steps, rounded. -/
def fN (k p r : Int) (neg : Bool) (m : Nat) (exp : Int) : Nat := upN r neg (cutM m (fU k p m exp - exp)) (cutX m (fU k p m exp - exp))
def fltF (k p r : Int) (neg : Bool) (m : Nat) (exp : Int) : Fl :=
  if gr k < fU k p m exp + bl (fN k p r neg m exp) - 1 then overF k p r neg else mkF neg (fN k p r neg m exp) (fU k p m exp)
def fltK (k p r : Int) (neg : Bool) (m : Nat) (exp : Int) : Int :=
  if gr k < fU k p m exp + bl (fN k p r neg m exp) - 1 then 5 else if cutX m (fU k p m exp - exp) = 0 then 0 else if exp + bl m - 1 < le k then 3 else 1

theorem rsN_range (m s : Nat) : 0 ≤ rsN m s ∧ rsN m s ≤ 3 := by unfold rsN; repeat' split <;> omega
theorem cutX_range (m : Nat) (s : Int) : 0 ≤ cutX m s ∧ cutX m s ≤ 3 := by
  unfold cutX
  split
  · omega
  · exact rsN_range _ _
theorem more_zero (r : Int) (neg odd : Bool) : moreB r neg odd 0 = false := by
  unfold moreB
  repeat' split
  all_goals simp
theorem upN_zero (r : Int) (neg : Bool) (q : Nat) : upN r neg q 0 = q := by unfold upN; rw [more_zero, if_neg (by decide)]
theorem upN_le (r : Int) (neg : Bool) (q : Nat) (x : Int) : q ≤ upN r neg q x ∧ upN r neg q x ≤ q + 1 := by unfold upN; split <;> omega
/-- Nothing is cut off. -/
theorem cut_exact {m : Nat} {s : Int} (hm : m % 2 = 1) (h : cutX m s = 0) : s ≤ 0 := by
  refine Int.not_lt.1 fun hs => ?_
  unfold cutX at h
  rw [if_neg (by omega)] at h
  unfold rsN at h
  obtain ⟨j, hj⟩ : ∃ j, s.toNat = j + 1 := ⟨s.toNat - 1, by omega⟩
  rw [hj, Nat.add_sub_cancel] at h
  split at h
  · split at h <;> omega
  · rename_i ht
    split at h
    · rename_i hl
      rcases Nat.eq_zero_or_pos j with rfl | hjp
      · rw [Nat.testBit_zero] at ht
        simp [hm] at ht
      · have h1 : 2 ^ 1 ∣ 2 ^ j := Nat.pow_dvd_pow 2 hjp
        rw [Nat.pow_one] at h1
        have h2 : 2 ∣ m := Nat.dvd_trans h1 (Nat.dvd_of_mod_eq_zero hl)
        omega
    · omega
theorem tz_shift {m : Nat} (hm : m % 2 = 1) (k : Nat) : tz (m * 2 ^ k) = k ∧ m * 2 ^ k / 2 ^ tz (m * 2 ^ k) = m := by
  have e : tz (m * 2 ^ k) = k := by rw [Nat.mul_comm, tz_mul_pow m k (by omega), tz_odd hm, Nat.add_zero]
  exact ⟨e, by rw [e]; exact Nat.mul_div_cancel _ (Nat.two_pow_pos k)⟩
/-- A number that is rounded with no flags is the number. -/
theorem flt_exact {k p r exp : Int} {neg : Bool} {m : Nat} (hm : m % 2 = 1) (h : fltK k p r neg m exp = 0) : fltF k p r neg m exp = ⟨1, neg, exp, m⟩ := by
  unfold fltK at h
  split at h
  · omega
  · rename_i hg
    split at h
    · rename_i hx
      have hs := cut_exact hm hx
      unfold fltF
      rw [if_neg hg]
      have hn : fN k p r neg m exp = m * 2 ^ (-(fU k p m exp - exp)).toNat := by
        unfold fN
        rw [hx, upN_zero]
        unfold cutM
        rw [if_pos hs]
      obtain ⟨e1, e2⟩ := tz_shift hm (-(fU k p m exp - exp)).toNat
      have hp : 0 < m * 2 ^ (-(fU k p m exp - exp)).toNat := Nat.mul_pos (by omega) (Nat.two_pow_pos _)
      unfold mkF
      rw [hn, if_neg (by omega), e2, e1]
      congr 1
      omega
    · split at h <;> omega
theorem bl_le_of_lt {n : Nat} {p : Nat} (h : n < 2 ^ p) : bl n ≤ p := (bl_le n p).2 h
theorem bl_div_pow {m : Nat} (hm : 0 < m) {s : Nat} (hs : s < bl m) : bl (m / 2 ^ s) = bl m - s := by
  have h1 := bl_ge hm
  have h2 : m < 2 ^ bl m := bl_lt
  have hp : 0 < 2 ^ s := Nat.two_pow_pos s
  obtain ⟨j, hj⟩ : ∃ j, bl m = s + (j + 1) := ⟨bl m - s - 1, by omega⟩
  rw [hj] at h1 h2 ⊢
  rw [show s + (j + 1) - s = j + 1 by omega]
  refine bl_unique ?_ ?_
  · refine (Nat.le_div_iff_mul_le hp).2 ?_
    rw [← Nat.pow_add]
    exact Nat.le_trans (Nat.pow_le_pow_right (by omega) (by omega)) h1
  · refine (Nat.div_lt_iff_lt_mul hp).2 ?_
    rw [← Nat.pow_add, show j + 1 + s = s + (j + 1) by omega]
    exact h2
/-- How many bits what is not cut off has. -/
theorem cut_bits {k p exp : Int} (hR : Rgt k p) {m : Nat} (hm : 0 < m) :
    (le k ≤ exp + bl m - 1 → (bl (cutM m (fU k p m exp - exp)) : Int) = p) ∧ (exp + bl m - 1 < le k → (bl (cutM m (fU k p m exp - exp)) : Int) ≤ p - 1) ∧ ti k p ≤ fU k p m exp := by
  obtain ⟨r1, r2, r3, r4⟩ := hR
  have hb := bl_pos hm
  have ht : ti k p = le k - (p - 1) := rfl
  refine ⟨fun h => ?_, fun h => ?_, ?_⟩
  · have hu : fU k p m exp = exp + bl m - 1 - p + 1 := by unfold fU stepN; rw [if_neg (by omega)]
    rw [hu]
    unfold cutM
    split
    · rw [bl_mul_pow m _ hm]
      omega
    · rw [bl_div_pow hm (by omega)]
      omega
  · have hu : fU k p m exp = ti k p := by unfold fU stepN; rw [if_pos h]
    rw [hu]
    unfold cutM
    split
    · rw [bl_mul_pow m _ hm]
      omega
    · rcases Nat.lt_or_ge (ti k p - exp).toNat (bl m) with h1 | h1
      · rw [bl_div_pow hm h1]
        omega
      · rw [Nat.div_eq_of_lt (Nat.lt_of_lt_of_le bl_lt (Nat.pow_le_pow_right (by omega) h1)), bl_zero]
        omega
  · unfold fU stepN
    split <;> omega
theorem bl_succ_le (n : Nat) : bl n ≤ bl (n + 1) ∧ bl (n + 1) ≤ bl n + 1 := by
  refine ⟨bl_mono (by omega), (bl_le _ _).2 ?_⟩
  have := bl_lt (n := n)
  rw [Nat.pow_succ]
  omega
/-- What is rounded: at most p bits, or 2^p. -/
theorem fN_bits {k p r exp : Int} {neg : Bool} (hR : Rgt k p) {m : Nat} (hm : 0 < m) : fN k p r neg m exp ≤ 2 ^ p.toNat := by
  obtain ⟨c1, c2, -⟩ := cut_bits (exp := exp) hR hm
  obtain ⟨u1, u2⟩ := upN_le r neg (cutM m (fU k p m exp - exp)) (cutX m (fU k p m exp - exp))
  have hp : (bl (cutM m (fU k p m exp - exp)) : Int) ≤ p := by
    rcases Int.lt_or_le (exp + bl m - 1) (le k) with h | h
    · have := c2 h; omega
    · have := c1 h; omega
  have h1 : cutM m (fU k p m exp - exp) < 2 ^ p.toNat := (bl_le _ _).1 (by omega)
  unfold fN
  omega
/-- Too great before it is rounded. -/
theorem flt_over {k p r exp : Int} {neg : Bool} (hR : Rgt k p) {m : Nat} (hm : 0 < m) (h : gr k < exp + bl m - 1) : gr k < fU k p m exp + bl (fN k p r neg m exp) - 1 := by
  have hle : le k ≤ exp + bl m - 1 := by
    have : le k = 1 - gr k := rfl
    have h1 : 0 ≤ gr k := by
      have : (0 : Int) < 2 ^ (k.toNat - 1) := by exact_mod_cast Nat.two_pow_pos _
      unfold gr
      omega
    omega
  obtain ⟨c1, -, -⟩ := cut_bits (exp := exp) hR hm
  have h2 := c1 hle
  obtain ⟨u1, -⟩ := upN_le r neg (cutM m (fU k p m exp - exp)) (cutX m (fU k p m exp - exp))
  have h3 : bl (cutM m (fU k p m exp - exp)) ≤ bl (fN k p r neg m exp) := bl_mono u1
  have hu : fU k p m exp = exp + bl m - 1 - p + 1 := by unfold fU stepN; rw [if_neg (by omega)]
  omega
/-- What becomes 0. -/
theorem flt_gone {k p r exp : Int} {neg : Bool} (hR : Rgt k p) {m : Nat} (hm : 0 < m) (h : fN k p r neg m exp = 0) : cutX m (fU k p m exp - exp) ≠ 0 ∧ exp + bl m - 1 < le k := by
  obtain ⟨c1, -, -⟩ := cut_bits (exp := exp) hR hm
  obtain ⟨u1, -⟩ := upN_le r neg (cutM m (fU k p m exp - exp)) (cutX m (fU k p m exp - exp))
  have h0 : cutM m (fU k p m exp - exp) = 0 := by
    unfold fN at h
    omega
  refine ⟨fun hx => ?_, Int.not_le.1 fun hl => ?_⟩
  · generalize fU k p m exp - exp = s at *
    unfold cutM at h0
    unfold cutX at hx
    split at h0
    · have := Nat.mul_pos hm (Nat.two_pow_pos (-s).toNat)
      omega
    · rename_i hs
      rw [if_neg hs] at hx
      obtain ⟨j, hj⟩ : ∃ j, s.toNat = j + 1 := ⟨s.toNat - 1, by omega⟩
      rw [hj] at h0 hx
      unfold rsN at hx
      rw [Nat.add_sub_cancel] at hx
      have hb := div_pow_succ m j
      rw [h0] at hb
      split at hx
      · split at hx <;> omega
      · rename_i ht
        rw [if_neg ht] at hb
        split at hx
        · rename_i hz
          have := Nat.div_add_mod m (2 ^ j)
          rw [hb, hz] at this
          omega
        · omega
  · have h1 := c1 hl
    rw [h0, bl_zero] at h1
    have := hR.2.2.1
    omega
/-! ### the reference's parts -/
/-- Twice the number of steps, rounded down; what is beyond it. -/
def rfQ (m : Nat) (a : Int) : Nat := if 0 ≤ a then m * 2 ^ a.toNat else m / 2 ^ (-a).toNat
def rfT (m : Nat) (a : Int) : Bool := if 0 ≤ a then false else decide (m % 2 ^ (-a).toNat ≠ 0)
def xOf (h t : Bool) : Int := if h = true then (if t = true then 3 else 2) else (if t = true then 1 else 0)
theorem rf_cut (m : Nat) (s : Int) : rfQ m (1 - s) / 2 = cutM m s ∧ cutX m s = xOf ((rfQ m (1 - s)).testBit 0) (rfT m (1 - s)) := by
  rcases Int.lt_or_le 0 s with hs | hs
  · obtain ⟨j, rfl⟩ : ∃ j : Nat, s = ((j + 1 : Nat) : Int) := ⟨s.toNat - 1, by omega⟩
    have e1 : (((j + 1 : Nat) : Int)).toNat = j + 1 := by omega
    have eq : rfQ m (1 - ((j + 1 : Nat) : Int)) = m / 2 ^ j := by
      unfold rfQ
      split
      · have : j = 0 := by omega
        subst this
        simp
      · rw [show (-(1 - ((j + 1 : Nat) : Int))).toNat = j by omega]
    have et : rfT m (1 - ((j + 1 : Nat) : Int)) = decide (m % 2 ^ j ≠ 0) := by
      unfold rfT
      split
      · have : j = 0 := by omega
        subst this
        simp [Nat.mod_one]
      · rw [show (-(1 - ((j + 1 : Nat) : Int))).toNat = j by omega]
    rw [eq, et]
    unfold cutM cutX
    rw [if_neg (by omega), if_neg (by omega), e1]
    refine ⟨by rw [Nat.div_div_eq_div_mul, ← Nat.pow_succ], ?_⟩
    unfold rsN xOf
    rw [Nat.add_sub_cancel, Nat.testBit_zero, Nat.testBit_eq_decide_div_mod_eq]
    by_cases h1 : m / 2 ^ j % 2 = 1 <;> by_cases h2 : m % 2 ^ j = 0 <;> simp [h1, h2]
  · obtain ⟨j, hj⟩ : ∃ j : Nat, -s = (j : Int) := ⟨(-s).toNat, by omega⟩
    have eq : rfQ m (1 - s) = m * 2 ^ j * 2 := by
      unfold rfQ
      rw [if_pos (by omega), show (1 - s).toNat = j + 1 by omega, Nat.pow_succ, Nat.mul_assoc]
    have et : rfT m (1 - s) = false := by unfold rfT; rw [if_pos (by omega)]
    rw [eq, et]
    unfold cutM cutX
    rw [if_pos hs, if_pos hs, show (-s).toNat = j by omega]
    refine ⟨Nat.mul_div_cancel _ (by omega), ?_⟩
    rw [Nat.testBit_zero]
    simp [xOf]
/-- Whether the reference goes up. -/
def rdUp (r : Int) (neg h t odd : Bool) : Bool := if r = 0 then h && (t || odd) else if r = 1 then h else if r = 3 then !neg else if r = 4 then neg else false
theorem rd_up {r : Int} (h0 : 0 ≤ r) (h4 : r ≤ 4) (neg odd h t : Bool) : moreB r neg odd (xOf h t) = (if h = false ∧ t = false then false else rdUp r neg h t odd) := by
  have hr : r = 0 ∨ r = 1 ∨ r = 2 ∨ r = 3 ∨ r = 4 := by omega
  rcases hr with rfl | rfl | rfl | rfl | rfl <;> cases neg <;> cases odd <;> cases h <;> cases t <;> decide
end Go.Proofs.YtlnfmngginihfaaGreatDoor
namespace Go.Proofs.YtlnfmngginihfaaGreatDoor
open Go.RowKit
attribute [local go_sem ↓] Go.wp_at_zero Go.wp_at_succ

theorem below_iff (m s : Nat) (hm : 0 < m) : decide (m % 2 ^ s ≠ 0) = decide (tz m < s) := by
  rw [decide_eq_decide]
  have h := tz_dvd m s hm
  rw [Nat.dvd_iff_mod_eq_zero] at h
  omega
/-- What cut hands back. -/
def RestR (w : World) (n : Nat) (x : Int) (e : Ending) (w' : World) : Prop := ∃ v, e = .returned (.tuple #[v, .int .i64 x]) ∧ Own w' w.heap.size v (cn n) ∧ Ext w w'
end Go.Proofs.YtlnfmngginihfaaGreatDoor
namespace Go.Proofs.YtlnfmngginihfaaGreatDoor
open Go.RowKit
attribute [local go_sem ↓] Go.wp_at_zero Go.wp_at_succ

theorem right_c (r : Int) (w : World) : Calls Tryz.prog 29 #[.int .i64 r] w fun e w' => e = .returned (.bool (decide (0 ≤ r ∧ r ≤ 4))) ∧ w = w' := by
  by_cases h0 : 0 ≤ r
  · have d0 : decide (0 ≤ r) = true := decide_eq_true h0
    by_cases h4 : r ≤ 4
    · have d4 : decide (r ≤ 4) = true := decide_eq_true h4
      rw [show decide (0 ≤ r ∧ r ≤ 4) = true from decide_eq_true ⟨h0, h4⟩]
      go_enter Tryz.func29, Tryz.ntmps29
      go_wp2
      go_ret
      exact ⟨rfl, rfl⟩
    · have d4 : decide (r ≤ 4) = false := decide_eq_false h4
      rw [show decide (0 ≤ r ∧ r ≤ 4) = false from decide_eq_false (fun h => h4 h.2)]
      clear h4
      go_enter Tryz.func29, Tryz.ntmps29
      go_wp2
      go_ret
      exact ⟨rfl, rfl⟩
  · have d0 : decide (0 ≤ r) = false := decide_eq_false h0
    rw [show decide (0 ≤ r ∧ r ≤ 4) = false from decide_eq_false (fun h => h0 h.1)]
    clear h0
    go_enter Tryz.func29, Tryz.ntmps29
    go_wp2
    go_ret
    exact ⟨rfl, rfl⟩
end Go.Proofs.YtlnfmngginihfaaGreatDoor
