/- Bits one after the other: lengths, trailing zeros, ones: pure arithmetic. -/
import Derived.Test.YtlnfmngginihfaaGreatDoorM3
set_option linter.unusedVariables false
set_option linter.unusedSimpArgs false
namespace Go.Proofs.YtlnfmngginihfaaGreatDoor

/-- How many bits are 1. -/
def pc (n : Nat) : Nat := if h : n = 0 then 0 else n % 2 + pc (n / 2)
termination_by n
decreasing_by exact Nat.div_lt_self (by omega) (by omega)
theorem pc_zero : pc 0 = 0 := by rw [pc, dif_pos rfl]
theorem pc_step (n : Nat) : pc n = n % 2 + pc (n / 2) := by
  rcases Nat.eq_zero_or_pos n with rfl | h
  · simp [pc_zero]
  · conv => lhs; rw [pc]
    rw [dif_neg (by omega)]
theorem pc_le_bl (n : Nat) : pc n ≤ n := by
  induction n using Nat.strongRecOn with
  | ind n ih =>
    rcases Nat.eq_zero_or_pos n with rfl | h
    · rw [pc_zero]; omega
    · rw [pc_step]
      have := ih (n / 2) (Nat.div_lt_self h (by omega))
      omega
theorem pc_pos {n : Nat} (h : 0 < n) : 0 < pc n := by
  induction n using Nat.strongRecOn with
  | ind n ih =>
    rw [pc_step]
    rcases Nat.eq_zero_or_pos (n / 2) with h2 | h2
    · omega
    · have := ih (n / 2) (Nat.div_lt_self h (by omega)) h2; omega
theorem pc_one {n : Nat} : pc n = 1 ↔ 0 < n ∧ n = 2 ^ tz n := by
  induction n using Nat.strongRecOn with
  | ind n ih =>
    rcases Nat.eq_zero_or_pos n with rfl | h
    · simp [pc_zero]
    · rw [pc_step]
      by_cases ho : n % 2 = 1
      · rw [tz_odd ho]
        constructor
        · intro h1
          have h2 : pc (n / 2) = 0 := by omega
          have h3 : ¬ 0 < n / 2 := fun hp => by have := pc_pos hp; omega
          exact ⟨h, by rw [Nat.pow_zero]; omega⟩
        · rintro ⟨_, h1⟩
          rw [Nat.pow_zero] at h1; rw [h1, show 1 / 2 = 0 by omega, pc_zero]
      · have he : n % 2 = 0 := by omega
        rw [tz_even h he, Nat.pow_succ, he, Nat.zero_add, ih (n / 2) (Nat.div_lt_self h (by omega))]
        constructor
        · rintro ⟨h1, h2⟩; exact ⟨h, by omega⟩
        · rintro ⟨_, h1⟩; exact ⟨by omega, by omega⟩
theorem div_pow_succ (n k : Nat) : n / 2 ^ k = 2 * (n / 2 ^ (k + 1)) + (if n.testBit k = true then 1 else 0) := by
  rw [Nat.testBit_eq_decide_div_mod_eq, Nat.pow_succ, ← Nat.div_div_eq_div_mul]
  have := Nat.mod_add_div (n / 2 ^ k) 2
  have h2 := Nat.mod_lt (n / 2 ^ k) (show 2 > 0 by omega)
  by_cases h : n / 2 ^ k % 2 = 1
  · simp only [h, decide_true, if_true]; omega
  · simp only [h, decide_false, Bool.false_eq_true, if_false]; omega
theorem pc_bit (n k : Nat) : pc (n / 2 ^ k) = (if n.testBit k = true then 1 else 0) + pc (n / 2 ^ (k + 1)) := by
  rw [pc_step, div_pow_succ n k]
  split
  · rw [show (2 * (n / 2 ^ (k + 1)) + 1) % 2 = 1 by omega, show (2 * (n / 2 ^ (k + 1)) + 1) / 2 = n / 2 ^ (k + 1) by omega]
  · rw [show (2 * (n / 2 ^ (k + 1)) + 0) % 2 = 0 by omega, show (2 * (n / 2 ^ (k + 1)) + 0) / 2 = n / 2 ^ (k + 1) by omega]
/-- The lowest bit from k on. -/
def tzFrom (n k : Nat) : Nat := if n / 2 ^ k = 0 then 0 else k + tz (n / 2 ^ k)
theorem tzFrom_zero (n : Nat) : tzFrom n 0 = tz n := by
  unfold tzFrom
  rw [Nat.pow_zero, Nat.div_one]
  split
  · rename_i h; rw [h, tz_zero]
  · omega
theorem tzFrom_set {n k : Nat} (h : n.testBit k = true) : tzFrom n k = k := by
  unfold tzFrom
  have := div_pow_succ n k
  rw [if_pos h] at this
  rw [if_neg (by omega), tz_odd (by omega)]; omega
theorem tzFrom_clear {n k : Nat} (h : n.testBit k = false) : tzFrom n k = tzFrom n (k + 1) := by
  unfold tzFrom
  have := div_pow_succ n k
  rw [if_neg (by rw [h]; decide)] at this
  by_cases h0 : n / 2 ^ (k + 1) = 0
  · rw [if_pos (by omega), if_pos h0]
  · rw [if_neg (by omega), if_neg h0, this, Nat.add_zero, tz_even (by omega) (by omega), show 2 * (n / 2 ^ (k + 1)) / 2 = n / 2 ^ (k + 1) by omega]; omega
theorem tzFrom_bl (n k : Nat) (h : bl n ≤ k) : tzFrom n k = 0 := by
  unfold tzFrom
  rw [if_pos (Nat.div_eq_of_lt ((bl_le _ _).1 h))]
/-- Lengths, bit after bit from the lowest one. -/
theorem bl_mod_succ (x i : Nat) : bl (x % 2 ^ (i + 1)) = if x.testBit i = true then i + 1 else bl (x % 2 ^ i) := by
  have e : x % 2 ^ (i + 1) = x % 2 ^ i + (if x.testBit i = true then 2 ^ i else 0) := by
    rw [Nat.testBit_eq_decide_div_mod_eq, Nat.pow_succ, Nat.mod_mul]
    have h2 := Nat.mod_lt (x / 2 ^ i) (show 2 > 0 by omega)
    by_cases h : x / 2 ^ i % 2 = 1
    · simp only [h, decide_true, if_true]; omega
    · simp only [h, decide_false, Bool.false_eq_true, if_false]; rw [show x / 2 ^ i % 2 = 0 by omega]; omega
  rw [e]
  have hlt := Nat.mod_lt x (Nat.pow_pos (n := i) (show 2 > 0 by omega))
  split
  · refine bl_unique (by omega) ?_
    rw [Nat.pow_succ]; omega
  · rw [Nat.add_zero]
theorem bl_top (xs : List Nat) (h : W64 xs) (hp : 0 < topN xs) : bl (val xs) = 64 * (topN xs - 1) + bl (xs.getD (topN xs - 1) 0) := by
  have h1 := topN_last xs hp
  have hl := topN_le xs
  have h2 := topN_eq_len xs h
  have hv : 0 < val xs := by
    rcases Nat.eq_zero_or_pos (val xs) with h0 | h0
    · rw [h0, (cn_len_zero 0).2 rfl] at h2; omega
    · exact h0
  have h3 := bl_cn (val xs) hv
  rw [← h2, cn_topN xs h] at h3
  rw [h3, List.getD_eq_getElem?_getD, List.getElem?_take_of_lt (by omega), ← List.getD_eq_getElem?_getD]
theorem topN_zero_val (xs : List Nat) (h : W64 xs) (hz : topN xs = 0) : val xs = 0 := by
  have := topN_eq_len xs h
  rw [hz] at this
  exact (cn_len_zero _).1 this.symm
end Go.Proofs.YtlnfmngginihfaaGreatDoor
