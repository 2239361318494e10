/- Laws of chapter 04, plain: each residue but 0 is a power of 7, so its power PP - 1 is 1; the round and the turned product by the long one. -/
import Derived.Test.YthbnkhgcfcigjaaJM
set_option linter.unusedVariables false
set_option linter.unusedSimpArgs false
namespace Go.Proofs.Ythbnkhgcfcigjaa

/-- A map of the first n numbers to themselves that keeps different ones apart reaches each of them. -/
theorem onto_of_inj : ∀ (n : Nat) (f : Nat → Nat), (∀ i, i < n → f i < n) → (∀ i j, i < n → j < n → f i = f j → i = j) → ∀ y, y < n → ∃ i, i < n ∧ f i = y
  | 0, f, hf, hi, y, hy => by omega
  | n + 1, f, hf, hi, y, hy => by
    have hg := onto_of_inj n (fun i => if f i = n then f n else f i) (fun i hin => by
      show (if f i = n then f n else f i) < n
      have h1 := hf i (by omega)
      have h2 := hf n (by omega)
      split
      · rename_i e
        have h3 : f n ≠ n := fun h => by have := hi i n (by omega) (by omega) (by omega); omega
        omega
      · omega) (fun i j hin hjn e => by
      have e' : (if f i = n then f n else f i) = (if f j = n then f n else f j) := e
      have h1 := hi i j (by omega) (by omega)
      have h2 : f i = f n → i = n := hi i n (by omega) (by omega)
      have h3 : f j = f n → j = n := hi j n (by omega) (by omega)
      split at e' <;> split at e'
      · exact h1 (by omega)
      · have := h3 e'.symm; omega
      · have := h2 e'; omega
      · exact h1 e')
    by_cases hyn : y = f n
    · exact ⟨n, by omega, hyn.symm⟩
    · by_cases hy2 : y = n
      · obtain ⟨i, hin, e⟩ := hg (f n) (by have := hf n (by omega); omega)
        have e' : (if f i = n then f n else f i) = f n := e
        split at e'
        · rename_i h
          exact ⟨i, by omega, by omega⟩
        · have := hi i n (by omega) (by omega) e'
          omega
      · obtain ⟨i, hin, e⟩ := hg y (by omega)
        have e' : (if f i = n then f n else f i) = y := e
        split at e'
        · omega
        · exact ⟨i, by omega, e'⟩
/-- A number without a small divisor has none. -/
theorem prime_of {q r : Nat} (hq : 0 < q) (hr : q < r * r) (hc : ∀ d, d < r → 2 ≤ d → d ∣ q → d = q) {d : Nat} (hd : d ∣ q) : d = 1 ∨ d = q := by
  obtain ⟨e, rfl⟩ := hd
  have hd0 : 0 < d := Nat.pos_of_mul_pos_right hq
  have he0 : 0 < e := Nat.pos_of_mul_pos_left hq
  by_cases h1 : d = 1
  · exact .inl h1
  refine .inr ?_
  by_cases h2 : d < r
  · exact hc d h2 (by omega) ⟨e, rfl⟩
  · have h3 : e < r := by
      refine Nat.lt_of_not_le fun h => ?_
      have := Nat.mul_le_mul (Nat.le_of_not_lt h2) h
      omega
    by_cases h4 : e = 1
    · rw [h4, Nat.mul_one]
    · have := hc e h3 (by omega) ⟨d, Nat.mul_comm _ _⟩
      have h5 : d * e = 1 * e := by omega
      have := Nat.eq_of_mul_eq_mul_right he0 h5
      omega
theorem pr_chk {q r : Nat} (h : (List.range r).all (fun d => decide (d < 2) || decide (q % d ≠ 0) || decide (d = q)) = true) : ∀ d, d < r → 2 ≤ d → d ∣ q → d = q := by
  intro d hd h2 h3
  have := List.all_eq_true.1 h d (List.mem_range.2 hd)
  rw [Bool.or_eq_true, Bool.or_eq_true, decide_eq_true_eq, decide_eq_true_eq, decide_eq_true_eq] at this
  have h4 := Nat.mod_eq_zero_of_dvd h3
  rcases this with (h | h) | h
  · omega
  · exact absurd h4 h
  · exact h
theorem cop_of {q e : Nat} (hp : ∀ d, d ∣ q → d = 1 ∨ d = q) (h : ¬ q ∣ e) : Nat.Coprime e q := by
  rcases hp _ (Nat.gcd_dvd_right e q) with h1 | h1
  · exact h1
  · exact absurd (h1 ▸ Nat.gcd_dvd_left e q) h
theorem P2 : ∀ d, d ∣ 2 → d = 1 ∨ d = 2 := fun d => prime_of (r := 2) (by decide) (by decide) (pr_chk (by decide +kernel))
theorem P3 : ∀ d, d ∣ 3 → d = 1 ∨ d = 3 := fun d => prime_of (r := 2) (by decide) (by decide) (pr_chk (by decide +kernel))
theorem P5 : ∀ d, d ∣ 5 → d = 1 ∨ d = 5 := fun d => prime_of (r := 3) (by decide) (by decide) (pr_chk (by decide +kernel))
theorem P17 : ∀ d, d ∣ 17 → d = 1 ∨ d = 17 := fun d => prime_of (r := 5) (by decide) (by decide) (pr_chk (by decide +kernel))
theorem P257 : ∀ d, d ∣ 257 → d = 1 ∨ d = 257 := fun d => prime_of (r := 17) (by decide) (by decide) (pr_chk (by decide +kernel))
theorem P65537 : ∀ d, d ∣ 65537 → d = 1 ∨ d = 65537 := fun d => prime_of (r := 257) (by decide) (by decide) (pr_chk (by decide +kernel))
theorem PP_fac : PP - 1 = 2 ^ 32 * (3 * 5 * 17 * 257 * 65537) := by decide +kernel
/-- A divisor of PP - 1 but itself divides one of six quotients. -/
theorem part_of {g : Nat} (hd : g ∣ PP - 1) (hn : g ≠ PP - 1) : ∃ q, (q = 2 ∨ q = 3 ∨ q = 5 ∨ q = 17 ∨ q = 257 ∨ q = 65537) ∧ g ∣ (PP - 1) / q := by
  obtain ⟨e, he⟩ := hd
  have key : ∀ q, 0 < q → q ∣ e → g ∣ (PP - 1) / q := by
    intro q hq ⟨r, hr⟩
    refine ⟨r, ?_⟩
    rw [he, hr]
    have : g * (q * r) = q * (g * r) := by ac_rfl
    rw [this, Nat.mul_div_cancel_left _ hq]
  by_cases h2 : 2 ∣ e
  · exact ⟨2, .inl rfl, key _ (by decide) h2⟩
  by_cases h3 : 3 ∣ e
  · exact ⟨3, .inr (.inl rfl), key _ (by decide) h3⟩
  by_cases h5 : 5 ∣ e
  · exact ⟨5, .inr (.inr (.inl rfl)), key _ (by decide) h5⟩
  by_cases h17 : 17 ∣ e
  · exact ⟨17, .inr (.inr (.inr (.inl rfl))), key _ (by decide) h17⟩
  by_cases h257 : 257 ∣ e
  · exact ⟨257, .inr (.inr (.inr (.inr (.inl rfl)))), key _ (by decide) h257⟩
  by_cases h655 : 65537 ∣ e
  · exact ⟨65537, .inr (.inr (.inr (.inr (.inr rfl)))), key _ (by decide) h655⟩
  exfalso
  have c : Nat.Coprime e (PP - 1) := by
    rw [PP_fac]
    refine Nat.Coprime.mul_right (Nat.Coprime.pow_right _ (cop_of P2 h2)) ?_
    exact Nat.Coprime.mul_right (Nat.Coprime.mul_right (Nat.Coprime.mul_right (Nat.Coprime.mul_right (cop_of P3 h3) (cop_of P5 h5)) (cop_of P17 h17)) (cop_of P257 h257)) (cop_of P65537 h655)
  have h1 : e = 1 := by
    have := Nat.gcd_eq_left (⟨g, by rw [he, Nat.mul_comm]⟩ : e ∣ PP - 1)
    exact this.symm.trans c
  rw [h1, Nat.mul_one] at he
  exact hn he.symm
theorem seven_part (q : Nat) (h : q = 2 ∨ q = 3 ∨ q = 5 ∨ q = 17 ∨ q = 257 ∨ q = 65537) : 7 ^ ((PP - 1) / q) % PP ≠ 1 := by
  have hq : (PP - 1) / q < 2 ^ 64 := Nat.lt_of_le_of_lt (Nat.div_le_self _ _) (by rw [PP_eq]; decide)
  rw [pow_mod_eq 7 _ hq]
  rcases h with rfl | rfl | rfl | rfl | rfl | rfl <;> decide +kernel
theorem PP_one : 1 % PP = 1 := by rw [PP_eq]
/-- Two powers that are 1: so is that of the greatest common divisor. -/
theorem one_gcd (a : Nat) : ∀ (m n : Nat), a ^ m % PP = 1 → a ^ n % PP = 1 → a ^ Nat.gcd m n % PP = 1 := by
  intro m n
  induction m, n using Nat.gcd.induction with
  | H0 n => intro _ h; rw [Nat.gcd_zero_left]; exact h
  | H1 m n hm ih =>
    intro h1 h2
    rw [Nat.gcd_rec]
    refine ih ?_ h1
    have e : a ^ n = (a ^ m) ^ (n / m) * a ^ (n % m) := by rw [← Nat.pow_mul, ← Nat.pow_add, Nat.div_add_mod]
    rw [e, Nat.mul_mod, Nat.pow_mod, h1, Nat.one_pow, PP_one, Nat.one_mul, Nat.mod_mod] at h2
    exact h2
/-- No power of 7 below PP - 1 but the first is 1. -/
theorem seven_order {d : Nat} (h0 : 0 < d) (hd : d < PP - 1) : 7 ^ d % PP ≠ 1 := by
  intro h
  have h1 := one_gcd 7 d (PP - 1) h seven_full
  have h2 := Nat.gcd_le_left (PP - 1) h0
  obtain ⟨q, hq, e, he⟩ := part_of (Nat.gcd_dvd_right d (PP - 1)) (Nat.ne_of_lt (Nat.lt_of_le_of_lt h2 hd))
  refine seven_part q hq ?_
  rw [he, Nat.pow_mul, Nat.pow_mod, h1, Nat.one_pow, PP_one]
theorem seven_pos {i : Nat} (h : i ≤ PP - 1) : 7 ^ i % PP ≠ 0 := by
  intro h0
  have h1 := seven_full
  rw [← Nat.add_sub_cancel' h, Nat.pow_add, Nat.mul_mod, h0, Nat.zero_mul] at h1
  exact absurd h1 (by decide)
theorem seven_inj {i j : Nat} (hij : i < j) (hj : j < PP - 1) : 7 ^ i % PP ≠ 7 ^ j % PP := by
  intro h
  refine seven_order (d := PP - 1 - j + i) (by omega) (by omega) ?_
  have h1 := seven_full
  have e : PP - 1 = (PP - 1 - j) + j := by omega
  rw [e, Nat.pow_add, Nat.mul_mod, ← h, ← Nat.mul_mod, ← Nat.pow_add] at h1
  exact h1
theorem seven_onto {k : Nat} (h0 : 0 < k) (hk : k < PP) : ∃ i, 7 ^ i % PP = k := by
  obtain ⟨i, _, hi⟩ := onto_of_inj (PP - 1) (fun i => 7 ^ i % PP - 1) (fun i hi => by
    have h1 := seven_pos (Nat.le_of_lt hi)
    have h2 := Nat.mod_lt (7 ^ i) PP_pos
    show 7 ^ i % PP - 1 < PP - 1
    omega) (fun i j hi hj e => by
    have e' : 7 ^ i % PP - 1 = 7 ^ j % PP - 1 := e
    have h1 := seven_pos (Nat.le_of_lt hi)
    have h2 := seven_pos (Nat.le_of_lt hj)
    have e2 : 7 ^ i % PP = 7 ^ j % PP := by omega
    rcases Nat.lt_trichotomy i j with h | h | h
    · exact absurd e2 (seven_inj h hj)
    · exact h
    · exact absurd e2.symm (seven_inj h hi)) (k - 1) (by omega)
  refine ⟨i, ?_⟩
  have hi' : 7 ^ i % PP - 1 = k - 1 := hi
  have h1 : 7 ^ i % PP ≠ 0 := by
    intro h
    by_cases hs : i ≤ PP - 1
    · exact seven_pos hs h
    · omega
  omega
/-- Fermat's law. -/
theorem fermat {k : Nat} (h0 : 0 < k) (hk : k < PP) : k ^ (PP - 1) % PP = 1 := by
  obtain ⟨i, rfl⟩ := seven_onto h0 hk
  rw [← Nat.pow_mod, ← Nat.pow_mul, Nat.mul_comm, Nat.pow_mul, Nat.pow_mod, seven_full, Nat.one_pow, PP_one]
theorem fermat_inv {k : Nat} (h0 : 0 < k) (hk : k < PP) : k ^ (PP - 2) % PP * k % PP = 1 := by
  rw [Nat.mod_mul_mod, ← Nat.pow_succ, show (PP - 2).succ = PP - 1 by rw [PP_eq]]
  exact fermat h0 hk
/-- The round product by the long one. -/
theorem cycL_fold {a b : List Nat} {n i : Nat} (ha : a.length = n) (hb : b.length = n) (hi : i < n) : (cycL a b).getD i 0 = ((lgL a b).getD i 0 + (lgL a b).getD (i + n) 0) % PP := by
  unfold cycL
  rw [tab_get _ (by omega), ha, cyc_two ha hb hi, lgL_get (by omega) (by omega) (by omega)]
  by_cases e : i + n < 2 * n - 1
  · rw [lgL_get (by omega) (by omega) (by omega), ← Nat.add_mod]
  · rw [lg_past (t := i + n) (by omega), getD_past (by rw [lgL_len (by omega) (by omega)]; omega), Nat.add_zero, Nat.add_zero, Nat.mod_mod]
theorem neg_mod' (x y : Nat) : (x + (PP - 1) * y) % PP = (x % PP + PP - y % PP) % PP := by
  have h1 := Nat.mod_lt y PP_pos
  have h2 : (x % PP + PP - y % PP + y) % PP = (x + (PP - 1) * y + y) % PP := by
    have e1 : (x % PP + PP - y % PP + y) % PP = x % PP := by
      rw [← Nat.add_mod_mod, show x % PP + PP - y % PP + y % PP = x % PP + PP by omega, Nat.add_mod_right, Nat.mod_mod]
    have e2 : x + (PP - 1) * y + y = x + PP * y := by
      have : (PP - 1) * y + y = PP * y := by
        rw [← Nat.succ_mul, show (PP - 1).succ = PP by have := PP_pos; omega]
      omega
    rw [e1, e2, Nat.add_mul_mod_self_left]
  have h3 : ∀ u v : Nat, (u + y) % PP = (v + y) % PP → u % PP = v % PP := by
    intro u v h
    have h4 : (u + y + (PP - 1) * y) % PP = (v + y + (PP - 1) * y) % PP := by
      rw [Nat.add_mod, h, ← Nat.add_mod]
    have e : ∀ u, u + y + (PP - 1) * y = u + PP * y := by
      intro u
      have : (PP - 1) * y + y = PP * y := by
        rw [← Nat.succ_mul, show (PP - 1).succ = PP by have := PP_pos; omega]
      omega
    rw [e, e, Nat.add_mul_mod_self_left, Nat.add_mul_mod_self_left] at h4
    exact h4
  exact (h3 _ _ h2).symm
theorem trL_fold {a b : List Nat} {n i : Nat} (ha : a.length = n) (hb : b.length = n) (hi : i < n) : (trL a b).getD i 0 = ((lgL a b).getD i 0 + PP - (lgL a b).getD (i + n) 0) % PP := by
  unfold trL
  rw [tab_get _ (by omega), ha, neg_mod', lgL_get (by omega) (by omega) (by omega)]
  by_cases e : i + n < 2 * n - 1
  · rw [lgL_get (by omega) (by omega) (by omega)]
  · rw [lg_past (t := i + n) (by omega), getD_past (by rw [lgL_len (by omega) (by omega)]; omega), Nat.zero_mod]
end Go.Proofs.Ythbnkhgcfcigjaa
