/- Numbers as lists of digits: pure arithmetic, no program in sight. Lengths in bits, trailing zeros, one word set in a list: pure arithmetic. -/
import Derived.Lib.Hide
import Derived.Lib.ItoaNum
import Derived.Lib.TrailingZeros
import Derived.Laws.BitsAllLaws
set_option linter.unusedVariables false
set_option linter.unusedSimpArgs false
namespace Go.Proofs.YtlnfmngginihfaaGreatDoor
/-- The value of digits in base b, the lowest first. -/
def valb (b : Nat) : List Nat → Nat
  | [] => 0
  | x :: xs => x + b * valb b xs
/-- The canonical digits of a number. -/
def digs (b : Nat) (n : Nat) : List Nat := if h : n = 0 ∨ b < 2 then [] else (n % b) :: digs b (n / b)
termination_by n
decreasing_by
  have h1 : n ≠ 0 := fun e => h (.inl e)
  exact Nat.div_lt_self (by omega) (by omega)

theorem valb_nil (b : Nat) : valb b [] = 0 := rfl
theorem valb_cons (b x : Nat) (xs : List Nat) : valb b (x :: xs) = x + b * valb b xs := rfl
theorem valb_append (b : Nat) (xs ys : List Nat) : valb b (xs ++ ys) = valb b xs + b ^ xs.length * valb b ys := by
  induction xs with
  | nil => simp [valb]
  | cons x xs ih => simp only [List.cons_append, valb, ih, List.length_cons, Nat.pow_succ, Nat.mul_add]; rw [Nat.mul_comm (b ^ _) b, Nat.mul_assoc, Nat.add_assoc]
theorem valb_snoc (b : Nat) (xs : List Nat) (x : Nat) : valb b (xs ++ [x]) = valb b xs + b ^ xs.length * x := by rw [valb_append]; simp [valb]
theorem valb_lt (b : Nat) (xs : List Nat) (h : ∀ x ∈ xs, x < b) : valb b xs < b ^ xs.length := by
  induction xs with
  | nil => simp [valb]
  | cons x xs ih =>
    have h1 := h x (by simp)
    have h2 := ih (fun y hy => h y (by simp [hy]))
    simp only [valb, List.length_cons, Nat.pow_succ]
    have h3 : b * (valb b xs + 1) ≤ b * b ^ xs.length := Nat.mul_le_mul_left b h2
    rw [Nat.mul_comm (b ^ xs.length) b]; rw [Nat.mul_add] at h3; omega
theorem valb_zeros (b n : Nat) : valb b (List.replicate n 0) = 0 := by
  induction n with
  | zero => rfl
  | succ n ih => simp [List.replicate_succ, valb, ih]
theorem valb_zero_of (b : Nat) (xs : List Nat) (h : ∀ x ∈ xs, x = 0) : valb b xs = 0 := by
  induction xs with
  | nil => rfl
  | cons x xs ih => simp [valb, h x (by simp), ih (fun y hy => h y (by simp [hy]))]
theorem valb_eq_zero (b : Nat) (hb : 0 < b) (xs : List Nat) : valb b xs = 0 ↔ ∀ x ∈ xs, x = 0 := by
  refine ⟨?_, valb_zero_of b xs⟩
  induction xs with
  | nil => simp
  | cons x xs ih =>
    intro h y hy
    simp only [valb] at h
    have h1 : b * valb b xs = 0 := by omega
    have h2 : valb b xs = 0 := by rcases Nat.mul_eq_zero.1 h1 with h | h <;> omega
    rcases List.mem_cons.1 hy with rfl | hy
    · omega
    · exact ih h2 y hy
theorem valb_take_drop (b : Nat) (xs : List Nat) (k : Nat) (hk : k ≤ xs.length) : valb b xs = valb b (xs.take k) + b ^ k * valb b (xs.drop k) := by
  have h := valb_append b (xs.take k) (xs.drop k)
  rw [List.take_append_drop, List.length_take, Nat.min_eq_left hk] at h
  exact h
theorem valb_take (b : Nat) (xs : List Nat) (k : Nat) (hk : k < xs.length) : valb b (xs.take (k + 1)) = valb b (xs.take k) + b ^ k * xs.getD k 0 := by
  rw [List.take_succ_eq_append_getElem hk, valb_snoc, List.length_take, Nat.min_eq_left (by omega), List.getD_eq_getElem?_getD, List.getElem?_eq_getElem hk]
  rfl
theorem valb_drop_div (b : Nat) (hb : 0 < b) (xs : List Nat) (h : ∀ x ∈ xs, x < b) (k : Nat) : valb b (xs.drop k) = valb b xs / b ^ k := by
  rcases Nat.lt_or_ge xs.length k with hk | hk
  · rw [List.drop_eq_nil_of_le (by omega), valb_nil, Nat.div_eq_of_lt]
    exact Nat.lt_of_lt_of_le (valb_lt b xs h) (Nat.pow_le_pow_right hb (by omega))
  · rw [valb_take_drop b xs k hk, Nat.add_mul_div_left _ _ (Nat.pow_pos hb), Nat.div_eq_of_lt, Nat.zero_add]
    have := valb_lt b (xs.take k) (fun x hx => h x (List.mem_of_mem_take hx))
    rwa [List.length_take, Nat.min_eq_left hk] at this
theorem valb_take_mod (b : Nat) (hb : 0 < b) (xs : List Nat) (h : ∀ x ∈ xs, x < b) (k : Nat) : valb b (xs.take k) = valb b xs % b ^ k := by
  rcases Nat.lt_or_ge xs.length k with hk | hk
  · rw [List.take_of_length_le (by omega), Nat.mod_eq_of_lt]
    exact Nat.lt_of_lt_of_le (valb_lt b xs h) (Nat.pow_le_pow_right hb (by omega))
  · have := valb_lt b (xs.take k) (fun x hx => h x (List.mem_of_mem_take hx))
    rw [List.length_take, Nat.min_eq_left hk] at this
    rw [valb_take_drop b xs k hk, Nat.add_mul_mod_self_left, Nat.mod_eq_of_lt this]
theorem getD_lt {b : Nat} (hb : 0 < b) {xs : List Nat} (h : ∀ x ∈ xs, x < b) (i : Nat) : xs.getD i 0 < b := by
  rw [List.getD_eq_getElem?_getD]
  rcases Nat.lt_or_ge i xs.length with hi | hi
  · rw [List.getElem?_eq_getElem hi]; exact h _ (List.getElem_mem hi)
  · rw [List.getElem?_eq_none hi]; exact hb

theorem digs_zero (b : Nat) : digs b 0 = [] := by rw [digs, dif_pos (.inl rfl)]
theorem digs_pos {b n : Nat} (hb : 2 ≤ b) (hn : 0 < n) : digs b n = (n % b) :: digs b (n / b) := by rw [digs, dif_neg (by omega)]
theorem valb_digs (b : Nat) (hb : 2 ≤ b) (n : Nat) : valb b (digs b n) = n := by
  induction n using Nat.strongRecOn with
  | ind n ih =>
    rcases Nat.eq_zero_or_pos n with rfl | hn
    · rw [digs_zero]; rfl
    · rw [digs_pos hb hn, valb_cons, ih _ (Nat.div_lt_self hn hb), Nat.mod_add_div]
theorem digs_lt (b : Nat) (hb : 2 ≤ b) (n : Nat) : ∀ x ∈ digs b n, x < b := by
  induction n using Nat.strongRecOn with
  | ind n ih =>
    rcases Nat.eq_zero_or_pos n with rfl | hn
    · rw [digs_zero]; simp
    · rw [digs_pos hb hn]
      intro x hx
      rcases List.mem_cons.1 hx with rfl | hx
      · exact Nat.mod_lt _ (by omega)
      · exact ih _ (Nat.div_lt_self hn hb) x hx
theorem digs_nil {b n : Nat} (hb : 2 ≤ b) : digs b n = [] ↔ n = 0 := by
  constructor
  · intro h; have := valb_digs b hb n; rw [h] at this; exact this.symm
  · rintro rfl; exact digs_zero b
theorem digs_len_zero {b n : Nat} (hb : 2 ≤ b) : (digs b n).length = 0 ↔ n = 0 := by rw [List.length_eq_zero_iff, digs_nil hb]
theorem digs_len_le {b n k : Nat} (hb : 2 ≤ b) : (digs b n).length ≤ k ↔ n < b ^ k := by
  induction k generalizing n with
  | zero => rw [Nat.le_zero, digs_len_zero hb, Nat.pow_zero]; omega
  | succ k ih =>
    rcases Nat.eq_zero_or_pos n with rfl | hn
    · rw [digs_zero]; simp; exact Nat.pow_pos (by omega)
    · rw [digs_pos hb hn, List.length_cons, Nat.add_le_add_iff_right, ih, Nat.div_lt_iff_lt_mul (by omega), Nat.pow_succ]
/-- Digits whose last one is not 0 are the canonical ones of their value. -/
theorem digs_valb {b : Nat} (hb : 2 ≤ b) (xs : List Nat) (h : ∀ x ∈ xs, x < b) (hl : xs ≠ [] → xs.getLast?.getD 0 ≠ 0) : digs b (valb b xs) = xs := by
  induction xs with
  | nil => exact digs_zero b
  | cons x xs ih =>
    have hx := h x (by simp)
    have h' : ∀ y ∈ xs, y < b := fun y hy => h y (by simp [hy])
    have hpos : 0 < valb b (x :: xs) := by
      rcases Nat.eq_zero_or_pos (valb b (x :: xs)) with h0 | h0
      · exfalso
        have h1 := (valb_eq_zero b (by omega) (x :: xs)).1 h0
        have h2 := hl (by simp)
        rw [List.getLast?_eq_some_getLast (by simp)] at h2
        exact h2 (h1 _ (List.getLast_mem _))
      · exact h0
    rw [digs_pos hb hpos, valb_cons, Nat.add_mul_mod_self_left, Nat.mod_eq_of_lt hx, Nat.add_mul_div_left _ _ (by omega), Nat.div_eq_of_lt hx, Nat.zero_add, ih h' ?_]
    intro hne
    have := hl (by simp)
    rwa [List.getLast?_cons_of_ne_nil hne] at this
theorem valb_inj {b : Nat} (xs ys : List Nat) (hx : ∀ x ∈ xs, x < b) (hy : ∀ x ∈ ys, x < b) (hl : xs.length = ys.length) (h : valb b xs = valb b ys) : xs = ys := by
  induction xs generalizing ys with
  | nil => cases ys with | nil => rfl | cons y ys => simp at hl
  | cons x xs ih =>
    cases ys with
    | nil => simp at hl
    | cons y ys =>
      have h1 := hx x (by simp)
      have h2 := hy y (by simp)
      simp only [valb] at h
      have hb : 0 < b := by omega
      have e1 : x = y := by
        have := congrArg (· % b) h
        simp only [Nat.add_mul_mod_self_left] at this
        rwa [Nat.mod_eq_of_lt h1, Nat.mod_eq_of_lt h2] at this
      subst e1
      have e2 : valb b xs = valb b ys := Nat.eq_of_mul_eq_mul_left hb (by omega)
      rw [ih ys (fun z hz => hx z (by simp [hz])) (fun z hz => hy z (by simp [hz])) (by simpa using hl) e2]

/-! ### words -/
/-- 2^64 -/
def B : Nat := 18446744073709551616
theorem B_eq : B = 18446744073709551616 := rfl
theorem B_two : B = 2 ^ 64 := by decide +kernel
theorem two_le_B : 2 ≤ B := by decide +kernel
theorem B_pos : 0 < B := by decide +kernel
abbrev val (xs : List Nat) : Nat := valb B xs
abbrev cn (n : Nat) : List Nat := digs B n
def W64 (xs : List Nat) : Prop := ∀ x ∈ xs, x < B
theorem W64.get {xs : List Nat} (h : W64 xs) (i : Nat) : xs.getD i 0 < B := getD_lt B_pos h i
theorem W64.nil : W64 [] := by intro x hx; simp at hx
theorem W64.cons {x : Nat} {xs : List Nat} (hx : x < B) (h : W64 xs) : W64 (x :: xs) := by
  intro y hy
  rcases List.mem_cons.1 hy with rfl | hy
  · exact hx
  · exact h y hy
theorem W64.append {xs ys : List Nat} (h : W64 xs) (h' : W64 ys) : W64 (xs ++ ys) := by
  intro y hy
  rcases List.mem_append.1 hy with hy | hy
  · exact h y hy
  · exact h' y hy
theorem W64.take {xs : List Nat} (h : W64 xs) (k : Nat) : W64 (xs.take k) := fun x hx => h x (List.mem_of_mem_take hx)
theorem W64.drop {xs : List Nat} (h : W64 xs) (k : Nat) : W64 (xs.drop k) := fun x hx => h x (List.mem_of_mem_drop hx)
theorem W64.cn (n : Nat) : W64 (cn n) := digs_lt B two_le_B n
theorem W64.set {xs : List Nat} (h : W64 xs) (k : Nat) {v : Nat} (hv : v < B) : W64 (xs.set k v) := fun x hx => by
  rcases List.mem_or_eq_of_mem_set hx with h1 | rfl
  · exact h x h1
  · exact hv
theorem val_cn (n : Nat) : val (cn n) = n := valb_digs B two_le_B n

/-- How many words there are up to the last one that is not 0. -/
def topN (xs : List Nat) : Nat := match xs with | [] => 0 | x :: xs => if topN xs = 0 then (if x = 0 then 0 else 1) else topN xs + 1
theorem topN_le (xs : List Nat) : topN xs ≤ xs.length := by
  induction xs with
  | nil => simp [topN]
  | cons x xs ih => simp only [topN]; split <;> (try split) <;> simp only [List.length_cons] <;> omega
theorem topN_zero (xs : List Nat) : ∀ i, topN xs ≤ i → xs.getD i 0 = 0 := by
  induction xs with
  | nil => simp
  | cons x xs ih =>
    intro i hi
    simp only [topN] at hi
    cases i with
    | zero => split at hi <;> (try split at hi) <;> simp_all
    | succ i => simp only [List.getD_cons_succ]; refine ih i ?_; split at hi <;> (try split at hi) <;> omega
theorem topN_last (xs : List Nat) : 0 < topN xs → xs.getD (topN xs - 1) 0 ≠ 0 := by
  induction xs with
  | nil => simp [topN]
  | cons x xs ih =>
    intro h
    simp only [topN] at h ⊢
    split at h
    · rename_i h0
      split at h
      · omega
      · rename_i hx; simp [h0, hx]
    · rename_i h0
      rw [if_neg h0]
      have : topN xs + 1 - 1 = (topN xs - 1) + 1 := by omega
      rw [this, List.getD_cons_succ]; exact ih (by omega)
theorem valb_eq_take_topN (b : Nat) (xs : List Nat) : valb b xs = valb b (xs.take (topN xs)) := by
  rw [valb_take_drop b xs _ (topN_le xs), valb_zero_of b (xs.drop (topN xs))]
  · simp
  · intro x hx
    obtain ⟨i, hi, rfl⟩ := List.mem_iff_getElem.1 hx
    have h := topN_zero xs (topN xs + i) (by omega)
    rw [List.length_drop] at hi
    rw [List.getD_eq_getElem?_getD, List.getElem?_eq_getElem (by omega)] at h
    simpa using h
theorem digs_topN {b : Nat} (hb : 2 ≤ b) (xs : List Nat) (h : ∀ x ∈ xs, x < b) : digs b (valb b xs) = xs.take (topN xs) := by
  rw [valb_eq_take_topN]
  refine digs_valb hb _ (fun x hx => h x (List.mem_of_mem_take hx)) (fun hne => ?_)
  have hp : 0 < topN xs := by
    rcases Nat.eq_zero_or_pos (topN xs) with h0 | h0
    · rw [h0] at hne; simp at hne
    · exact h0
  have hl := topN_le xs
  have h2 := topN_last xs hp
  rw [List.getLast?_eq_getElem?, List.length_take, Nat.min_eq_left hl, List.getElem?_take_of_lt (by omega), ← List.getD_eq_getElem?_getD]
  exact h2
theorem cn_topN (xs : List Nat) (h : W64 xs) : cn (val xs) = xs.take (topN xs) := digs_topN two_le_B xs h
theorem topN_eq_len (xs : List Nat) (h : W64 xs) : topN xs = (cn (val xs)).length := by
  rw [cn_topN xs h, List.length_take, Nat.min_eq_left (topN_le xs)]
theorem val_take_topN (xs : List Nat) : val (xs.take (topN xs)) = val xs := (valb_eq_take_topN B xs).symm
theorem cn_len_le (n k : Nat) : (cn n).length ≤ k ↔ n < B ^ k := digs_len_le two_le_B
theorem cn_len_zero (n : Nat) : (cn n).length = 0 ↔ n = 0 := digs_len_zero two_le_B
theorem val_lt {xs : List Nat} (h : W64 xs) : val xs < B ^ xs.length := valb_lt B xs h
theorem cn_self {xs : List Nat} (h : W64 xs) (hl : topN xs = xs.length) : cn (val xs) = xs := by rw [cn_topN xs h, hl, List.take_length]
theorem topN_cn (n : Nat) : topN (cn n) = (cn n).length := by rw [topN_eq_len _ (W64.cn n), val_cn]
theorem cn_last (n : Nat) (hn : 0 < n) : (cn n).getD ((cn n).length - 1) 0 ≠ 0 := by
  have h := topN_last (cn n)
  rw [topN_cn] at h
  refine h ?_
  have := cn_len_zero n
  omega
end Go.Proofs.YtlnfmngginihfaaGreatDoor
namespace Go.Proofs.YtlnfmngginihfaaGreatDoor
/-- The length in bits. -/
def bl (n : Nat) : Nat := if n = 0 then 0 else n.log2 + 1
theorem bl_le (n k : Nat) : bl n ≤ k ↔ n < 2 ^ k := by
  unfold bl
  split
  · rename_i h; subst h; simp [Nat.pow_pos]
  · rename_i h; rw [Nat.add_one_le_iff, Nat.log2_lt h]
theorem bl_zero : bl 0 = 0 := rfl
theorem bl_pos {n : Nat} (h : 0 < n) : 0 < bl n := by unfold bl; rw [if_neg (by omega)]; omega
theorem bl_eq_zero (n : Nat) : bl n = 0 ↔ n = 0 := by
  constructor
  · intro h; rcases Nat.eq_zero_or_pos n with h0 | h0
    · exact h0
    · have := bl_pos h0; omega
  · rintro rfl; rfl
theorem bl_lt {n : Nat} : n < 2 ^ bl n := (bl_le n _).1 (Nat.le_refl _)
theorem bl_ge {n : Nat} (h : 0 < n) : 2 ^ (bl n - 1) ≤ n := by
  rcases Nat.lt_or_ge n (2 ^ (bl n - 1)) with h1 | h1
  · have := (bl_le n _).2 h1; have := bl_pos h; omega
  · exact h1
theorem bl_unique {n k : Nat} (h1 : 2 ^ k ≤ n) (h2 : n < 2 ^ (k + 1)) : bl n = k + 1 := by
  have h3 := (bl_le n (k + 1)).2 h2
  have h4 : ¬ bl n ≤ k := fun h => by have := (bl_le n k).1 h; omega
  omega
theorem bl_mul_pow (n k : Nat) (h : 0 < n) : bl (n * 2 ^ k) = bl n + k := by
  have h1 := bl_lt (n := n)
  have h2 := bl_ge h
  have h3 := bl_pos h
  have e : bl n + k = (bl n - 1 + k) + 1 := by omega
  rw [e]
  refine bl_unique ?_ ?_
  · rw [Nat.pow_add]; exact Nat.mul_le_mul_right _ h2
  · rw [← e, Nat.pow_add]; exact Nat.mul_lt_mul_of_pos_right h1 (Nat.pow_pos (by omega))
theorem bl_mono {m n : Nat} (h : m ≤ n) : bl m ≤ bl n := (bl_le _ _).2 (Nat.lt_of_le_of_lt h bl_lt)
theorem bitLen_bl (x : Nat) (h : x < B) : Lib.bitLen x = bl x := by
  rw [B_two] at h
  rcases Nat.eq_zero_or_pos x with rfl | h0
  · rfl
  · obtain ⟨h1, h2, h3⟩ := Lib.bitLenAux_bounds 64 x h (by omega)
    have e : bl x = (Lib.bitLenAux 64 x - 1) + 1 := bl_unique h2 (by rw [show Lib.bitLenAux 64 x - 1 + 1 = Lib.bitLenAux 64 x by omega]; exact h3)
    rw [e]; unfold Lib.bitLen; omega
theorem bl_lt_word {x : Nat} (h : x < B) : bl x ≤ 64 := (bl_le _ _).2 (by rw [← B_two]; exact h)
theorem bl_snoc (xs : List Nat) (x : Nat) (h : W64 xs) (hx : 0 < x) (hxb : x < B) : bl (val (xs ++ [x])) = 64 * xs.length + bl x := by
  have h1 : val (xs ++ [x]) = val xs + B ^ xs.length * x := valb_snoc B xs x
  have h2 := val_lt h
  have hb := bl_lt (n := x)
  have hg := bl_ge hx
  have hp := bl_pos hx
  have hB : B ^ xs.length = 2 ^ (64 * xs.length) := by rw [B_two, Nat.pow_mul]
  rw [h1, hB]
  rw [hB] at h2
  have e : 64 * xs.length + bl x = (64 * xs.length + (bl x - 1)) + 1 := by omega
  rw [e]
  refine bl_unique ?_ ?_
  · rw [Nat.pow_add]
    exact Nat.le_trans (Nat.mul_le_mul_left _ hg) (Nat.le_add_left _ _)
  · rw [← e, Nat.pow_add]
    have : 2 ^ (64 * xs.length) * (x + 1) ≤ 2 ^ (64 * xs.length) * 2 ^ bl x := Nat.mul_le_mul_left _ hb
    rw [Nat.mul_add] at this; omega
/-- The length in bits by the canonical words. -/
theorem bl_cn (n : Nat) (h : 0 < n) : bl n = 64 * ((cn n).length - 1) + bl ((cn n).getD ((cn n).length - 1) 0) := by
  have hl : 0 < (cn n).length := by have := cn_len_zero n; omega
  have h1 := W64.cn n
  have h2 := cn_last n h
  have h4 : (cn n).getD ((cn n).length - 1) 0 = (cn n)[(cn n).length - 1]'(by omega) := by
    rw [List.getD_eq_getElem?_getD, List.getElem?_eq_getElem (by omega)]; rfl
  have h3 : cn n = (cn n).take ((cn n).length - 1) ++ [(cn n).getD ((cn n).length - 1) 0] := by
    rw [h4, ← List.take_succ_eq_append_getElem (by omega), List.take_of_length_le (by omega)]
  have h5 := bl_snoc ((cn n).take ((cn n).length - 1)) _ (h1.take _) (Nat.pos_of_ne_zero h2) (h1.get _)
  rw [← h3, val_cn, List.length_take, Nat.min_eq_left (by omega)] at h5
  exact h5

/-- How often 2 divides a number; 0 for 0. -/
def tz (n : Nat) : Nat := if h : n = 0 ∨ n % 2 = 1 then 0 else tz (n / 2) + 1
termination_by n
decreasing_by exact Nat.div_lt_self (by omega) (by omega)
theorem tz_zero : tz 0 = 0 := by rw [tz, dif_pos (.inl rfl)]
theorem tz_odd {n : Nat} (h : n % 2 = 1) : tz n = 0 := by rw [tz, dif_pos (.inr h)]
theorem tz_even {n : Nat} (h0 : 0 < n) (h : n % 2 = 0) : tz n = tz (n / 2) + 1 := by rw [tz, dif_neg (by omega)]
theorem tz_unique (k m : Nat) : tz (2 ^ k * (2 * m + 1)) = k := by
  induction k with
  | zero => rw [tz_odd]; omega
  | succ k ih =>
    have h : 0 < 2 ^ k * (2 * m + 1) := Nat.mul_pos (Nat.pow_pos (by omega)) (by omega)
    have e : 2 ^ (k + 1) * (2 * m + 1) = 2 * (2 ^ k * (2 * m + 1)) := by rw [Nat.pow_succ, Nat.mul_comm (2 ^ k) 2, Nat.mul_assoc]
    rw [e, tz_even (by omega) (by omega), Nat.mul_div_cancel_left _ (by omega), ih]
theorem tz_spec (n : Nat) (h : 0 < n) : ∃ m, n = 2 ^ tz n * (2 * m + 1) := by
  induction n using Nat.strongRecOn with
  | ind n ih =>
    by_cases ho : n % 2 = 1
    · exact ⟨n / 2, by rw [tz_odd ho]; omega⟩
    · obtain ⟨m, hm⟩ := ih (n / 2) (by omega) (by omega)
      refine ⟨m, ?_⟩
      rw [tz_even h (by omega), Nat.pow_succ, Nat.mul_comm (2 ^ _) 2, Nat.mul_assoc, ← hm]; omega
theorem tz_mul_pow (n k : Nat) (h : 0 < n) : tz (2 ^ k * n) = k + tz n := by
  obtain ⟨m, hm⟩ := tz_spec n h
  have : 2 ^ k * n = 2 ^ (k + tz n) * (2 * m + 1) := by rw [Nat.pow_add, Nat.mul_assoc, ← hm]
  rw [this, tz_unique]
theorem tz_div (n : Nat) (h : 0 < n) : n / 2 ^ tz n * 2 ^ tz n = n ∧ (n / 2 ^ tz n) % 2 = 1 := by
  obtain ⟨m, hm⟩ := tz_spec n h
  have e : n / 2 ^ tz n = 2 * m + 1 := by
    have h2 : n / 2 ^ tz n = 2 ^ tz n * (2 * m + 1) / 2 ^ tz n := by rw [← hm]
    rw [h2, Nat.mul_div_cancel_left _ (Nat.pow_pos (by omega))]
  constructor
  · rw [e, Nat.mul_comm, ← hm]
  · omega
theorem tz_dvd (n k : Nat) (h : 0 < n) : 2 ^ k ∣ n ↔ k ≤ tz n := by
  obtain ⟨m, hm⟩ := tz_spec n h
  constructor
  · rintro ⟨q, hq⟩
    rcases Nat.lt_or_ge (tz n) k with hlt | hge
    · exfalso
      have : 2 ^ tz n * (2 * m + 1) = 2 ^ tz n * (2 ^ (k - tz n) * q) := by rw [← hm, ← Nat.mul_assoc, ← Nat.pow_add, show tz n + (k - tz n) = k by omega]; exact hq
      have h2 := Nat.eq_of_mul_eq_mul_left (Nat.pow_pos (by omega)) this
      have h3 : 2 ^ (k - tz n) = 2 * 2 ^ (k - tz n - 1) := by rw [← Nat.pow_succ']; congr 1; omega
      rw [h3, Nat.mul_assoc] at h2
      omega
    · exact hge
  · intro hk
    rw [hm]
    exact Nat.dvd_mul_right_of_dvd (Nat.pow_dvd_pow 2 hk) _
theorem tz_lt_bl (n : Nat) (h : 0 < n) : tz n < bl n := by
  obtain ⟨m, hm⟩ := tz_spec n h
  have h1 : 2 ^ tz n ≤ n := Nat.le_of_dvd h ((tz_dvd n _ h).2 (Nat.le_refl _))
  have h2 := bl_lt (n := n)
  exact (Nat.pow_lt_pow_iff_right (a := 2) (by omega)).1 (Nat.lt_of_le_of_lt h1 h2)
theorem ctz_tz (x : Nat) (h0 : 0 < x) (h : x < B) : Lib.ctz 64 x = tz x := by
  rw [B_two] at h
  unfold Lib.ctz
  rw [if_neg (by omega)]
  obtain ⟨m, hm, _⟩ := Lib.ctzFrom_spec 64 x h0 h
  have := tz_unique (Lib.ctzFrom 64 x) m
  rw [← hm] at this
  exact this.symm
/-- Trailing zeros by the words: the words up to i are 0. -/
theorem tz_words (xs : List Nat) (i : Nat) (hi : i < xs.length) (h0 : ∀ j, j < i → xs.getD j 0 = 0) (hx : 0 < xs.getD i 0) (hb : xs.getD i 0 < B) : tz (val xs) = 64 * i + tz (xs.getD i 0) := by
  have h1 : val (xs.take i) = 0 := by
    refine valb_zero_of B _ (fun x hx => ?_)
    obtain ⟨j, hj, rfl⟩ := List.mem_iff_getElem.1 hx
    rw [List.length_take] at hj
    have := h0 j (by omega)
    rw [List.getD_eq_getElem?_getD, List.getElem?_eq_getElem (by omega)] at this
    simpa using this
  have h2 : val xs = B ^ i * val (xs.drop i) := by
    have := valb_take_drop B xs i (by omega)
    rw [show valb B (xs.take i) = 0 from h1, Nat.zero_add] at this; exact this
  have h3 : xs.drop i = xs.getD i 0 :: xs.drop (i + 1) := by
    rw [List.drop_eq_getElem_cons hi, List.getD_eq_getElem?_getD, List.getElem?_eq_getElem hi]; rfl
  have h4 : val (xs.drop i) = xs.getD i 0 + B * val (xs.drop (i + 1)) := by rw [h3]; rfl
  obtain ⟨m, hm⟩ := tz_spec _ hx
  have hlt : tz (xs.getD i 0) < 64 := by
    have := tz_lt_bl _ hx; have := bl_lt_word hb; omega
  have h5 : val (xs.drop i) = 2 ^ tz (xs.getD i 0) * (2 * (m + 2 ^ (63 - tz (xs.getD i 0)) * val (xs.drop (i + 1))) + 1) := by
    rw [h4]
    have e : B = 2 ^ tz (xs.getD i 0) * (2 * 2 ^ (63 - tz (xs.getD i 0))) := by
      rw [B_two, ← Nat.pow_succ', ← Nat.pow_add]; congr 1; omega
    generalize 2 ^ (63 - tz (xs.getD i 0)) = p at e ⊢
    generalize val (xs.drop (i + 1)) = v
    conv => lhs; rw [hm, e]
    simp only [Nat.mul_add, Nat.mul_one, Nat.mul_assoc]
    omega
  rw [h2, h5, B_two, ← Nat.pow_mul, ← Nat.mul_assoc, ← Nat.pow_add, tz_unique]

/-- One word set in a list. -/
theorem val_set (xs : List Nat) (i v : Nat) (hi : i < xs.length) : val (xs.set i v) + B ^ i * xs.getD i 0 = val xs + B ^ i * v := by
  induction xs generalizing i with
  | nil => simp at hi
  | cons x xs ih =>
    cases i with
    | zero => simp [val, valb]; omega
    | succ i =>
      have := ih i (by simpa using hi)
      simp only [List.set_cons_succ, val, valb, List.getD_cons_succ, Nat.pow_succ] at this ⊢
      have h1 : B * (valb B (xs.set i v) + B ^ i * xs.getD i 0) = B * (valb B xs + B ^ i * v) := by rw [this]
      rw [Nat.mul_add, Nat.mul_add] at h1
      rw [Nat.mul_comm (B ^ i) B, Nat.mul_assoc, Nat.mul_assoc]; omega
theorem val_set_zero (xs : List Nat) (i v : Nat) (hi : i < xs.length) (h0 : xs.getD i 0 = 0) : val (xs.set i v) = val xs + B ^ i * v := by
  have := val_set xs i v hi
  rw [h0, Nat.mul_zero] at this; omega
theorem getD_set (xs : List Nat) (i j v : Nat) (hi : i < xs.length) : (xs.set i v).getD j 0 = if j = i then v else xs.getD j 0 := by
  simp only [List.getD_eq_getElem?_getD, List.getElem?_set]
  by_cases h : i = j
  · subst h; simp [hi]
  · simp [h, Ne.symm h]
theorem getD_replicate (n j : Nat) : (List.replicate n 0).getD j 0 = 0 := by
  rw [List.getD_eq_getElem?_getD, List.getElem?_replicate]; split <;> rfl

/-- What a step of a sum with a carry says. -/
theorem carry_step (x y c : Nat) : (x + y + c) % B + B * ((x + y + c) / B) = x + y + c := Nat.mod_add_div _ _
theorem carry_le {x y c : Nat} (hx : x < B) (hy : y < B) (hc : c ≤ 1) : (x + y + c) / B ≤ 1 := by
  have h := (Nat.div_lt_iff_lt_mul (x := x + y + c) (y := 2) B_pos).2 (by omega)
  omega
def brw (x y b : Nat) : Nat := if x < y + b then 1 else 0
theorem brw_le (x y b : Nat) : brw x y b ≤ 1 := by unfold brw; split <;> omega
theorem borrow_step {x y b : Nat} (hx : x < B) (hy : y < B) (hb : b ≤ 1) : (x + B - y - b) % B + y + b = x + B * brw x y b := by
  unfold brw
  split
  · rw [Nat.mod_eq_of_lt (by omega)]; omega
  · rw [show x + B - y - b = (x - y - b) + B by omega, Nat.add_mod_right, Nat.mod_eq_of_lt (by omega)]; omega
theorem mod_B_lt (n : Nat) : n % B < B := Nat.mod_lt _ B_pos
/-- Two words out of one that is shifted. -/
theorem shl_split (w r : Nat) (hw : w < B) (h0 : 0 < r) (hr : r < 64) : w * 2 ^ r % B + B * (w / 2 ^ (64 - r)) = w * 2 ^ r := by
  have e : B = 2 ^ (64 - r) * 2 ^ r := by rw [B_two, ← Nat.pow_add]; congr 1; omega
  have h := Nat.mod_add_div (w * 2 ^ r) B
  have h2 : w * 2 ^ r / B = w / 2 ^ (64 - r) := by rw [e]; exact Nat.mul_div_mul_right _ _ (Nat.pow_pos (by omega))
  rw [h2] at h; exact h
theorem shl_low_mod (w r : Nat) (hr : r ≤ 64) : (w * 2 ^ r % B) % 2 ^ r = 0 := by
  have e : B = 2 ^ r * 2 ^ (64 - r) := by rw [B_two, ← Nat.pow_add]; congr 1; omega
  rw [e, Nat.mod_mul_right_mod, Nat.mul_mod_left]
theorem shr_high_lt (w r : Nat) (hw : w < B) (hr : r ≤ 64) : w / 2 ^ (64 - r) < 2 ^ r := by
  rw [Nat.div_lt_iff_lt_mul (Nat.pow_pos (by omega)), ← Nat.pow_add, show r + (64 - r) = 64 by omega, ← B_two]; exact hw

/-- Comparison of numbers as Go's -1, 0, 1. -/
def cmp3 (a b : Nat) : Int := if a < b then -1 else if a = b then 0 else 1
theorem cmp3_lt {a b : Nat} (h : a < b) : cmp3 a b = -1 := if_pos h
theorem cmp3_gt {a b : Nat} (h : b < a) : cmp3 a b = 1 := by unfold cmp3; rw [if_neg (by omega), if_neg (by omega)]
theorem cmp3_eq {a b : Nat} (h : a = b) : cmp3 a b = 0 := by unfold cmp3; rw [if_neg (by omega), if_pos h]
/-- Words of one length compare by the highest one in which they part. -/
theorem val_lt_of {b : Nat} (xs ys : List Nat) (i : Nat) (hx : ∀ x ∈ xs, x < b) (hi : i < xs.length) (hj : i < ys.length) (hl : xs.drop (i + 1) = ys.drop (i + 1)) (h : xs.getD i 0 < ys.getD i 0) : valb b xs < valb b ys := by
  have e1 := valb_take_drop b xs (i + 1) hi
  have e2 := valb_take_drop b ys (i + 1) hj
  rw [hl] at e1
  rw [valb_take b xs i hi] at e1
  rw [valb_take b ys i hj] at e2
  have h1 := valb_lt b (xs.take i) (fun x h => hx x (List.mem_of_mem_take h))
  rw [List.length_take, Nat.min_eq_left (by omega)] at h1
  have h2 : b ^ i * (xs.getD i 0 + 1) ≤ b ^ i * ys.getD i 0 := Nat.mul_le_mul_left _ h
  rw [Nat.mul_add] at h2
  omega
theorem cn_len_lt_val {m n : Nat} (h : (cn m).length < (cn n).length) : m < n := by
  have h1 : m < B ^ (cn m).length := (cn_len_le m _).1 (Nat.le_refl _)
  have h2 : ¬ n < B ^ (cn m).length := fun hh => by have := (cn_len_le n _).2 hh; omega
  omega
end Go.Proofs.YtlnfmngginihfaaGreatDoor
