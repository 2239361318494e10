/- Digits of 8, 16 or 32 bits (plain law). The long product of two lists of digits is worth the product (plain law). -/
import Derived.Test.YthbnkhgcfcigjaaB0
import Derived.Test.YthbnkhgcfcigjaaKT
set_option linter.unusedVariables false
set_option linter.unusedSimpArgs false
namespace Go.Proofs.Ythbnkhgcfcigjaa
theorem mod_more (x a b : Nat) : x % (a * b) = x % a + a * (x / a % b) := Nat.mod_mul
/-- Trimming: what is left has the same value, and no zero at its end. -/
theorem digs_done {b : Nat} (hb : 2 ≤ b) {l : List Nat} (h : ∀ x ∈ l, x < b) (hl : l.length = 0 ∨ l.getD (l.length - 1) 0 ≠ 0) : digs b (valb b l) = l := by
  refine digs_valb hb l h fun hne => ?_
  rcases hl with h0 | h0
  · exact absurd (List.eq_nil_of_length_eq_zero h0) hne
  · rw [List.getLast?_eq_getElem?]
    rwa [List.getD_eq_getElem?_getD] at h0
theorem valb_drop_zero {b : Nat} {l : List Nat} (h0 : 0 < l.length) (hz : l.getD (l.length - 1) 0 = 0) : valb b (l.take (l.length - 1)) = valb b l := by
  have := valb_take b l (l.length - 1) (by omega)
  rw [hz, Nat.mul_zero, Nat.add_zero, show l.length - 1 + 1 = l.length by omega, List.take_length] at this
  exact this.symm
/-- One more digit of word i. -/
theorem dig_step {s : Nat} (K i j x v : Nat) (hs : s * K = 64) (out : List Nat) (hl : out.length = K * i + j) (hv : valb (2 ^ s) out = v + B ^ i * (x % 2 ^ (s * j))) :
    valb (2 ^ s) (out ++ [x / 2 ^ (s * j) % 2 ^ s]) = v + B ^ i * (x % 2 ^ (s * (j + 1))) := by
  have e1 : (2 ^ s) ^ (K * i + j) = B ^ i * 2 ^ (s * j) := by
    rw [Nat.pow_add, ← Nat.pow_mul, ← Nat.pow_mul, ← Nat.mul_assoc, hs, B_two, ← Nat.pow_mul]
  rw [valb_snoc, hv, hl, e1, Nat.mul_succ, Nat.pow_add, mod_more, Nat.mul_add, Nat.add_assoc, Nat.mul_assoc]
/-! ### what a digit does to what is carried -/
theorem carry_or {t s : Nat} (ht : t < 2 * B) (hs0 : 0 < s) (hs : s ≤ 63) : (t % B / 2 ^ s ||| t / B * 2 ^ (64 - s) % B) = t / 2 ^ s := by
  have hB : B = 2 ^ s * 2 ^ (64 - s) := by rw [← Nat.pow_add, show s + (64 - s) = 64 by omega, B_two]
  have hp : 0 < 2 ^ s := Nat.two_pow_pos s
  have hq : 0 < 2 ^ (64 - s) := Nat.two_pow_pos _
  have h1 : t / B ≤ 1 := by
    have := Nat.div_lt_of_lt_mul (show t < B * 2 by omega)
    omega
  have h2 : t % B / 2 ^ s < 2 ^ (64 - s) := by
    refine Nat.div_lt_of_lt_mul ?_
    rw [← hB]
    exact Nat.mod_lt _ B_pos
  have h3 : t / B * 2 ^ (64 - s) % B = t / B * 2 ^ (64 - s) := by
    refine Nat.mod_eq_of_lt ?_
    have h4 : 2 ^ (64 - s) < B := by
      rw [B_two]
      exact Nat.pow_lt_pow_right (by omega) (by omega)
    rcases (show ∀ q : Nat, q ≤ 1 → q = 0 ∨ q = 1 by omega) _ h1 with e | e
    · rw [e, Nat.zero_mul]; exact B_pos
    · rw [e, Nat.one_mul]; exact h4
  rw [h3, Nat.or_comm, Nat.mul_comm, ← Nat.two_pow_add_eq_or_of_lt h2]
  have h5 := Nat.div_add_mod t B
  conv => rhs; rw [← h5]
  rw [hB, Nat.mul_assoc, Nat.mul_add_div hp, ← hB]
theorem now_or {d n a : Nat} (hn : n < 2 ^ a) : (n ||| d * 2 ^ a) = n + 2 ^ a * d := by
  rw [Nat.or_comm, Nat.mul_comm, ← Nat.two_pow_add_eq_or_of_lt hn, Nat.add_comm]
end Go.Proofs.Ythbnkhgcfcigjaa
namespace Go.Proofs.Ythbnkhgcfcigjaa
theorem valb_sm (b : Nat) : ∀ l : List Nat, valb b l = sm (fun i => l.getD i 0 * b ^ i) l.length := by
  have key : ∀ (l : List Nat) (n : Nat), n ≤ l.length → valb b (l.take n) = sm (fun i => l.getD i 0 * b ^ i) n := by
    intro l n
    induction n with
    | zero => intro _; rfl
    | succ n ih =>
      intro hn
      rw [valb_take b l n (by omega), ih (by omega)]
      simp only [sm]
      rw [Nat.mul_comm]
  intro l
  have := key l l.length (Nat.le_refl _)
  rwa [List.take_length] at this
theorem sm_one' {f : Nat → Nat} {n k : Nat} (hk : k < n) (h : ∀ i, i < n → i ≠ k → f i = 0) : sm f n = f k := by
  induction n with
  | zero => omega
  | succ n ih =>
    simp only [sm]
    by_cases e : k = n
    · subst e
      rw [sm_nil (fun i hi => h i (by omega) (by omega)), Nat.zero_add]
    · rw [ih (by omega) (fun i hi hne => h i (by omega) hne), h n (by omega) (fun e2 => e e2.symm), Nat.add_zero]
theorem sm_mul_r (c : Nat) (f : Nat → Nat) (n : Nat) : sm (fun i => f i * c) n = sm f n * c := by
  rw [Nat.mul_comm, ← sm_mul]
  exact sm_congr fun i hi => Nat.mul_comm _ _
theorem sm_le {f : Nat → Nat} {n c : Nat} (h : ∀ i, i < n → f i ≤ c) : sm f n ≤ n * c := by
  induction n with
  | zero => simp [sm]
  | succ n ih =>
    simp only [sm]
    have h1 := ih (fun i hi => h i (by omega))
    have h2 := h n (by omega)
    rw [Nat.succ_mul]
    omega
theorem lg_value (β : Nat) (a b : List Nat) (T : Nat) (hT : a.length + b.length ≤ T + 1) (h0 : 0 < b.length) : sm (fun t => lg a b t * β ^ t) T = valb β a * valb β b := by
  rw [valb_sm β a, valb_sm β b]
  have h1 : sm (fun t => lg a b t * β ^ t) T = sm (fun t => sm (fun p => sm (fun q => (if p + q = t then a.getD p 0 * b.getD q 0 else 0) * β ^ t) b.length) a.length) T := by
    refine sm_congr fun t ht => ?_
    unfold lg
    rw [← sm_mul_r]
    refine sm_congr fun p hp => ?_
    rw [← sm_mul_r]
  rw [h1, sm_swap, ← sm_mul_r]
  refine sm_congr fun p hp => ?_
  rw [sm_swap, ← sm_mul]
  refine sm_congr fun q hq => ?_
  rw [sm_one' (k := p + q) (by omega) (fun t ht hne => by rw [if_neg (fun e => hne e.symm), Nat.zero_mul]), if_pos rfl, Nat.pow_add]
  ac_rfl
theorem lg_small {a b : List Nat} {t c : Nat} (ha : ∀ i, a.getD i 0 ≤ c) (hb : ∀ i, b.getD i 0 ≤ c) : lg a b t ≤ a.length * (c * c) := by
  unfold lg
  refine sm_le fun p hp => ?_
  by_cases h : p ≤ t ∧ t - p < b.length
  · rw [sm_one' (k := t - p) h.2 (fun q hq hne => if_neg (fun e => hne (by omega))), if_pos (by omega)]
    exact Nat.mul_le_mul (ha _) (hb _)
  · rw [sm_nil (fun q hq => if_neg (fun e => h ⟨by omega, by omega⟩))]
    exact Nat.zero_le _
theorem valb_tab (β n : Nat) (f : Nat → Nat) : valb β (tab n f) = sm (fun t => f t * β ^ t) n := by
  rw [valb_sm, tab_len]
  exact sm_congr fun t ht => by rw [tab_get f ht]
theorem digs_al (n : Nat) : Al (digs (2 ^ 16) n) := by
  intro i
  have := getD_lt (b := 2 ^ 16) (by omega) (digs_lt (2 ^ 16) (by omega) n) i
  rw [PP_eq]
  omega
theorem digs_len16 {xs : List Nat} (h : W64 xs) : (digs (2 ^ 16) (val xs)).length ≤ 4 * xs.length := by
  refine (digs_len_le (by omega)).2 ?_
  have := val_lt h
  rw [← Nat.pow_mul, ← Nat.mul_assoc, show 16 * 4 = 64 from rfl, Nat.pow_mul, ← B_two]
  exact this
/-- The product of two numbers by the long product of their digits. -/
theorem mul_law {m n : Nat} (hm : (digs (2 ^ 16) m).length ≤ 32768) : valb (2 ^ 16) (lgL (digs (2 ^ 16) m) (digs (2 ^ 16) n)) = m * n := by
  have e1 := valb_digs (2 ^ 16) (by omega) m
  have e2 := valb_digs (2 ^ 16) (by omega) n
  have l1 := digs_len_zero (b := 2 ^ 16) (n := m) (by omega)
  have l2 := digs_len_zero (b := 2 ^ 16) (n := n) (by omega)
  have d1 : ∀ i, (digs (2 ^ 16) m).getD i 0 ≤ 65535 := fun i => by have := getD_lt (b := 2 ^ 16) (by omega) (digs_lt (2 ^ 16) (by omega) m) i; omega
  have d2 : ∀ i, (digs (2 ^ 16) n).getD i 0 ≤ 65535 := fun i => by have := getD_lt (b := 2 ^ 16) (by omega) (digs_lt (2 ^ 16) (by omega) n) i; omega
  generalize digs (2 ^ 16) m = a at *
  generalize digs (2 ^ 16) n = b at *
  unfold lgL
  by_cases h : a.length = 0 ∨ b.length = 0
  · rw [if_pos h, valb_nil]
    rcases h with h | h
    · rw [l1.1 h, Nat.zero_mul]
    · rw [l2.1 h, Nat.mul_zero]
  · rw [if_neg h, valb_tab, ← e1, ← e2, ← lg_value (2 ^ 16) a b (a.length + b.length - 1) (by omega) (by omega)]
    refine sm_congr fun t ht => ?_
    have h1 := lg_small (t := t) d1 d2
    have h2 := Nat.mul_le_mul_right (65535 * 65535) hm
    rw [Nat.mod_eq_of_lt (by rw [PP_eq]; omega)]
end Go.Proofs.Ythbnkhgcfcigjaa
