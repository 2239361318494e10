/- Numbers as lists of digits: pure arithmetic, no program in sight. -/
import Derived.Lib.Hide
set_option linter.unusedVariables false
set_option linter.unusedSimpArgs false
namespace Go.Proofs.YtgkojhhodncpbaaDoor

/-- The value of digits in base b, the lowest first. -/
def valb (b : Nat) : List Nat → Nat
  | [] => 0
  | x :: xs => x + b * valb b xs
/-- The canonical digits of a number. -/
def digs (b : Nat) (n : Nat) : List Nat := if h : n = 0 ∨ b < 2 then [] else (n % b) :: digs b (n / b)
termination_by n
decreasing_by
  have h1 : n ≠ 0 := fun e => h (.inl e)
  exact Nat.div_lt_self (by omega) (by omega)

theorem valb_nil (b : Nat) : valb b [] = 0 := rfl
theorem valb_cons (b x : Nat) (xs : List Nat) : valb b (x :: xs) = x + b * valb b xs := rfl
theorem valb_append (b : Nat) (xs ys : List Nat) : valb b (xs ++ ys) = valb b xs + b ^ xs.length * valb b ys := by
  induction xs with
  | nil => simp [valb]
  | cons x xs ih => simp only [List.cons_append, valb, ih, List.length_cons, Nat.pow_succ, Nat.mul_add]; rw [Nat.mul_comm (b ^ _) b, Nat.mul_assoc, Nat.add_assoc]
theorem valb_snoc (b : Nat) (xs : List Nat) (x : Nat) : valb b (xs ++ [x]) = valb b xs + b ^ xs.length * x := by rw [valb_append]; simp [valb]
theorem valb_lt (b : Nat) (xs : List Nat) (h : ∀ x ∈ xs, x < b) : valb b xs < b ^ xs.length := by
  induction xs with
  | nil => simp [valb]
  | cons x xs ih =>
    have h1 := h x (by simp)
    have h2 := ih (fun y hy => h y (by simp [hy]))
    simp only [valb, List.length_cons, Nat.pow_succ]
    have h3 : b * (valb b xs + 1) ≤ b * b ^ xs.length := Nat.mul_le_mul_left b h2
    rw [Nat.mul_comm (b ^ xs.length) b]; rw [Nat.mul_add] at h3; omega
theorem valb_zeros (b n : Nat) : valb b (List.replicate n 0) = 0 := by
  induction n with
  | zero => rfl
  | succ n ih => simp [List.replicate_succ, valb, ih]
theorem valb_zero_of (b : Nat) (xs : List Nat) (h : ∀ x ∈ xs, x = 0) : valb b xs = 0 := by
  induction xs with
  | nil => rfl
  | cons x xs ih => simp [valb, h x (by simp), ih (fun y hy => h y (by simp [hy]))]
theorem valb_eq_zero (b : Nat) (hb : 0 < b) (xs : List Nat) : valb b xs = 0 ↔ ∀ x ∈ xs, x = 0 := by
  refine ⟨?_, valb_zero_of b xs⟩
  induction xs with
  | nil => simp
  | cons x xs ih =>
    intro h y hy
    simp only [valb] at h
    have h1 : b * valb b xs = 0 := by omega
    have h2 : valb b xs = 0 := by rcases Nat.mul_eq_zero.1 h1 with h | h <;> omega
    rcases List.mem_cons.1 hy with rfl | hy
    · omega
    · exact ih h2 y hy
theorem valb_take_drop (b : Nat) (xs : List Nat) (k : Nat) (hk : k ≤ xs.length) : valb b xs = valb b (xs.take k) + b ^ k * valb b (xs.drop k) := by
  have h := valb_append b (xs.take k) (xs.drop k)
  rw [List.take_append_drop, List.length_take, Nat.min_eq_left hk] at h
  exact h
theorem valb_take (b : Nat) (xs : List Nat) (k : Nat) (hk : k < xs.length) : valb b (xs.take (k + 1)) = valb b (xs.take k) + b ^ k * xs.getD k 0 := by
  rw [List.take_succ_eq_append_getElem hk, valb_snoc, List.length_take, Nat.min_eq_left (by omega), List.getD_eq_getElem?_getD, List.getElem?_eq_getElem hk]
  rfl
theorem valb_drop_div (b : Nat) (hb : 0 < b) (xs : List Nat) (h : ∀ x ∈ xs, x < b) (k : Nat) : valb b (xs.drop k) = valb b xs / b ^ k := by
  rcases Nat.lt_or_ge xs.length k with hk | hk
  · rw [List.drop_eq_nil_of_le (by omega), valb_nil, Nat.div_eq_of_lt]
    exact Nat.lt_of_lt_of_le (valb_lt b xs h) (Nat.pow_le_pow_right hb (by omega))
  · rw [valb_take_drop b xs k hk, Nat.add_mul_div_left _ _ (Nat.pow_pos hb), Nat.div_eq_of_lt, Nat.zero_add]
    have := valb_lt b (xs.take k) (fun x hx => h x (List.mem_of_mem_take hx))
    rwa [List.length_take, Nat.min_eq_left hk] at this
theorem valb_take_mod (b : Nat) (hb : 0 < b) (xs : List Nat) (h : ∀ x ∈ xs, x < b) (k : Nat) : valb b (xs.take k) = valb b xs % b ^ k := by
  rcases Nat.lt_or_ge xs.length k with hk | hk
  · rw [List.take_of_length_le (by omega), Nat.mod_eq_of_lt]
    exact Nat.lt_of_lt_of_le (valb_lt b xs h) (Nat.pow_le_pow_right hb (by omega))
  · have := valb_lt b (xs.take k) (fun x hx => h x (List.mem_of_mem_take hx))
    rw [List.length_take, Nat.min_eq_left hk] at this
    rw [valb_take_drop b xs k hk, Nat.add_mul_mod_self_left, Nat.mod_eq_of_lt this]
theorem getD_lt {b : Nat} (hb : 0 < b) {xs : List Nat} (h : ∀ x ∈ xs, x < b) (i : Nat) : xs.getD i 0 < b := by
  rw [List.getD_eq_getElem?_getD]
  rcases Nat.lt_or_ge i xs.length with hi | hi
  · rw [List.getElem?_eq_getElem hi]; exact h _ (List.getElem_mem hi)
  · rw [List.getElem?_eq_none hi]; exact hb

theorem digs_zero (b : Nat) : digs b 0 = [] := by rw [digs, dif_pos (.inl rfl)]
theorem digs_pos {b n : Nat} (hb : 2 ≤ b) (hn : 0 < n) : digs b n = (n % b) :: digs b (n / b) := by rw [digs, dif_neg (by omega)]
theorem valb_digs (b : Nat) (hb : 2 ≤ b) (n : Nat) : valb b (digs b n) = n := by
  induction n using Nat.strongRecOn with
  | ind n ih =>
    rcases Nat.eq_zero_or_pos n with rfl | hn
    · rw [digs_zero]; rfl
    · rw [digs_pos hb hn, valb_cons, ih _ (Nat.div_lt_self hn hb), Nat.mod_add_div]
theorem digs_lt (b : Nat) (hb : 2 ≤ b) (n : Nat) : ∀ x ∈ digs b n, x < b := by
  induction n using Nat.strongRecOn with
  | ind n ih =>
    rcases Nat.eq_zero_or_pos n with rfl | hn
    · rw [digs_zero]; simp
    · rw [digs_pos hb hn]
      intro x hx
      rcases List.mem_cons.1 hx with rfl | hx
      · exact Nat.mod_lt _ (by omega)
      · exact ih _ (Nat.div_lt_self hn hb) x hx
theorem digs_nil {b n : Nat} (hb : 2 ≤ b) : digs b n = [] ↔ n = 0 := by
  constructor
  · intro h; have := valb_digs b hb n; rw [h] at this; exact this.symm
  · rintro rfl; exact digs_zero b
theorem digs_len_zero {b n : Nat} (hb : 2 ≤ b) : (digs b n).length = 0 ↔ n = 0 := by rw [List.length_eq_zero_iff, digs_nil hb]
theorem digs_len_le {b n k : Nat} (hb : 2 ≤ b) : (digs b n).length ≤ k ↔ n < b ^ k := by
  induction k generalizing n with
  | zero => rw [Nat.le_zero, digs_len_zero hb, Nat.pow_zero]; omega
  | succ k ih =>
    rcases Nat.eq_zero_or_pos n with rfl | hn
    · rw [digs_zero]; simp; exact Nat.pow_pos (by omega)
    · rw [digs_pos hb hn, List.length_cons, Nat.add_le_add_iff_right, ih, Nat.div_lt_iff_lt_mul (by omega), Nat.pow_succ]
/-- Digits whose last one is not 0 are the canonical ones of their value. -/
theorem digs_valb {b : Nat} (hb : 2 ≤ b) (xs : List Nat) (h : ∀ x ∈ xs, x < b) (hl : xs ≠ [] → xs.getLast?.getD 0 ≠ 0) : digs b (valb b xs) = xs := by
  induction xs with
  | nil => exact digs_zero b
  | cons x xs ih =>
    have hx := h x (by simp)
    have h' : ∀ y ∈ xs, y < b := fun y hy => h y (by simp [hy])
    have hpos : 0 < valb b (x :: xs) := by
      rcases Nat.eq_zero_or_pos (valb b (x :: xs)) with h0 | h0
      · exfalso
        have h1 := (valb_eq_zero b (by omega) (x :: xs)).1 h0
        have h2 := hl (by simp)
        rw [List.getLast?_eq_some_getLast (by simp)] at h2
        exact h2 (h1 _ (List.getLast_mem _))
      · exact h0
    rw [digs_pos hb hpos, valb_cons, Nat.add_mul_mod_self_left, Nat.mod_eq_of_lt hx, Nat.add_mul_div_left _ _ (by omega), Nat.div_eq_of_lt hx, Nat.zero_add, ih h' ?_]
    intro hne
    have := hl (by simp)
    rwa [List.getLast?_cons_of_ne_nil hne] at this
theorem valb_inj {b : Nat} (xs ys : List Nat) (hx : ∀ x ∈ xs, x < b) (hy : ∀ x ∈ ys, x < b) (hl : xs.length = ys.length) (h : valb b xs = valb b ys) : xs = ys := by
  induction xs generalizing ys with
  | nil => cases ys with | nil => rfl | cons y ys => simp at hl
  | cons x xs ih =>
    cases ys with
    | nil => simp at hl
    | cons y ys =>
      have h1 := hx x (by simp)
      have h2 := hy y (by simp)
      simp only [valb] at h
      have hb : 0 < b := by omega
      have e1 : x = y := by
        have := congrArg (· % b) h
        simp only [Nat.add_mul_mod_self_left] at this
        rwa [Nat.mod_eq_of_lt h1, Nat.mod_eq_of_lt h2] at this
      subst e1
      have e2 : valb b xs = valb b ys := Nat.eq_of_mul_eq_mul_left hb (by omega)
      rw [ih ys (fun z hz => hx z (by simp [hz])) (fun z hz => hy z (by simp [hz])) (by simpa using hl) e2]

/-! ### words -/
/-- 2^64 -/
def B : Nat := 18446744073709551616
theorem B_eq : B = 18446744073709551616 := rfl
theorem B_two : B = 2 ^ 64 := by decide +kernel
theorem two_le_B : 2 ≤ B := by decide +kernel
theorem B_pos : 0 < B := by decide +kernel
abbrev val (xs : List Nat) : Nat := valb B xs
abbrev cn (n : Nat) : List Nat := digs B n
def W64 (xs : List Nat) : Prop := ∀ x ∈ xs, x < B
theorem W64.get {xs : List Nat} (h : W64 xs) (i : Nat) : xs.getD i 0 < B := getD_lt B_pos h i
theorem W64.nil : W64 [] := by intro x hx; simp at hx
theorem W64.cons {x : Nat} {xs : List Nat} (hx : x < B) (h : W64 xs) : W64 (x :: xs) := by
  intro y hy
  rcases List.mem_cons.1 hy with rfl | hy
  · exact hx
  · exact h y hy
theorem W64.append {xs ys : List Nat} (h : W64 xs) (h' : W64 ys) : W64 (xs ++ ys) := by
  intro y hy
  rcases List.mem_append.1 hy with hy | hy
  · exact h y hy
  · exact h' y hy
theorem W64.take {xs : List Nat} (h : W64 xs) (k : Nat) : W64 (xs.take k) := fun x hx => h x (List.mem_of_mem_take hx)
theorem W64.drop {xs : List Nat} (h : W64 xs) (k : Nat) : W64 (xs.drop k) := fun x hx => h x (List.mem_of_mem_drop hx)
theorem W64.cn (n : Nat) : W64 (cn n) := digs_lt B two_le_B n
theorem W64.set {xs : List Nat} (h : W64 xs) (k : Nat) {v : Nat} (hv : v < B) : W64 (xs.set k v) := fun x hx => by
  rcases List.mem_or_eq_of_mem_set hx with h1 | rfl
  · exact h x h1
  · exact hv
theorem val_cn (n : Nat) : val (cn n) = n := valb_digs B two_le_B n

/-- How many words there are up to the last one that is not 0. -/
def topN (xs : List Nat) : Nat := match xs with | [] => 0 | x :: xs => if topN xs = 0 then (if x = 0 then 0 else 1) else topN xs + 1
theorem topN_le (xs : List Nat) : topN xs ≤ xs.length := by
  induction xs with
  | nil => simp [topN]
  | cons x xs ih => simp only [topN]; split <;> (try split) <;> simp only [List.length_cons] <;> omega
theorem topN_zero (xs : List Nat) : ∀ i, topN xs ≤ i → xs.getD i 0 = 0 := by
  induction xs with
  | nil => simp
  | cons x xs ih =>
    intro i hi
    simp only [topN] at hi
    cases i with
    | zero => split at hi <;> (try split at hi) <;> simp_all
    | succ i => simp only [List.getD_cons_succ]; refine ih i ?_; split at hi <;> (try split at hi) <;> omega
theorem topN_last (xs : List Nat) : 0 < topN xs → xs.getD (topN xs - 1) 0 ≠ 0 := by
  induction xs with
  | nil => simp [topN]
  | cons x xs ih =>
    intro h
    simp only [topN] at h ⊢
    split at h
    · rename_i h0
      split at h
      · omega
      · rename_i hx; simp [h0, hx]
    · rename_i h0
      rw [if_neg h0]
      have : topN xs + 1 - 1 = (topN xs - 1) + 1 := by omega
      rw [this, List.getD_cons_succ]; exact ih (by omega)
theorem valb_eq_take_topN (b : Nat) (xs : List Nat) : valb b xs = valb b (xs.take (topN xs)) := by
  rw [valb_take_drop b xs _ (topN_le xs), valb_zero_of b (xs.drop (topN xs))]
  · simp
  · intro x hx
    obtain ⟨i, hi, rfl⟩ := List.mem_iff_getElem.1 hx
    have h := topN_zero xs (topN xs + i) (by omega)
    rw [List.length_drop] at hi
    rw [List.getD_eq_getElem?_getD, List.getElem?_eq_getElem (by omega)] at h
    simpa using h
theorem digs_topN {b : Nat} (hb : 2 ≤ b) (xs : List Nat) (h : ∀ x ∈ xs, x < b) : digs b (valb b xs) = xs.take (topN xs) := by
  rw [valb_eq_take_topN]
  refine digs_valb hb _ (fun x hx => h x (List.mem_of_mem_take hx)) (fun hne => ?_)
  have hp : 0 < topN xs := by
    rcases Nat.eq_zero_or_pos (topN xs) with h0 | h0
    · rw [h0] at hne; simp at hne
    · exact h0
  have hl := topN_le xs
  have h2 := topN_last xs hp
  rw [List.getLast?_eq_getElem?, List.length_take, Nat.min_eq_left hl, List.getElem?_take_of_lt (by omega), ← List.getD_eq_getElem?_getD]
  exact h2
theorem cn_topN (xs : List Nat) (h : W64 xs) : cn (val xs) = xs.take (topN xs) := digs_topN two_le_B xs h
theorem topN_eq_len (xs : List Nat) (h : W64 xs) : topN xs = (cn (val xs)).length := by
  rw [cn_topN xs h, List.length_take, Nat.min_eq_left (topN_le xs)]
theorem val_take_topN (xs : List Nat) : val (xs.take (topN xs)) = val xs := (valb_eq_take_topN B xs).symm
theorem cn_len_le (n k : Nat) : (cn n).length ≤ k ↔ n < B ^ k := digs_len_le two_le_B
theorem cn_len_zero (n : Nat) : (cn n).length = 0 ↔ n = 0 := digs_len_zero two_le_B
theorem val_lt {xs : List Nat} (h : W64 xs) : val xs < B ^ xs.length := valb_lt B xs h
theorem cn_self {xs : List Nat} (h : W64 xs) (hl : topN xs = xs.length) : cn (val xs) = xs := by rw [cn_topN xs h, hl, List.take_length]
theorem topN_cn (n : Nat) : topN (cn n) = (cn n).length := by rw [topN_eq_len _ (W64.cn n), val_cn]
theorem cn_last (n : Nat) (hn : 0 < n) : (cn n).getD ((cn n).length - 1) 0 ≠ 0 := by
  have h := topN_last (cn n)
  rw [topN_cn] at h
  refine h ?_
  have := cn_len_zero n
  omega

end Go.Proofs.YtgkojhhodncpbaaDoor
