/- Digits in base 2^32, two for each word: pure arithmetic. -/
import Derived.Test.YtgkojhhodncpbaaDoorM1
set_option linter.unusedVariables false
set_option linter.unusedSimpArgs false
namespace Go.Proofs.YtgkojhhodncpbaaDoor

/-- 2^32 -/
def H : Nat := 4294967296
theorem H_eq : H = 4294967296 := rfl
theorem H_two : H = 2 ^ 32 := by decide +kernel
theorem two_le_H : 2 ≤ H := by decide +kernel
theorem H_pos : 0 < H := by decide +kernel
theorem HH : B = H * H := by decide +kernel
theorem HH2 : B = H ^ 2 := by decide +kernel
theorem H_lt_B : H < B := by decide +kernel
abbrev hv (xs : List Nat) : Nat := valb H xs
def D32 (xs : List Nat) : Prop := ∀ x ∈ xs, x < H
theorem D32.w64 {xs : List Nat} (h : D32 xs) : W64 xs := fun x hx => Nat.lt_trans (h x hx) H_lt_B
theorem D32.nil : D32 [] := by intro x hx; simp at hx
theorem D32.cons {x : Nat} {xs : List Nat} (hx : x < H) (h : D32 xs) : D32 (x :: xs) := by
  intro y hy
  rcases List.mem_cons.1 hy with rfl | hy
  · exact hx
  · exact h y hy
theorem D32.append {xs ys : List Nat} (h : D32 xs) (h' : D32 ys) : D32 (xs ++ ys) := by
  intro y hy
  rcases List.mem_append.1 hy with hy | hy
  · exact h y hy
  · exact h' y hy
theorem D32.snoc {xs : List Nat} (h : D32 xs) {x : Nat} (hx : x < H) : D32 (xs ++ [x]) := h.append (D32.cons hx D32.nil)
theorem D32.take {xs : List Nat} (h : D32 xs) (k : Nat) : D32 (xs.take k) := fun x hx => h x (List.mem_of_mem_take hx)
theorem D32.drop {xs : List Nat} (h : D32 xs) (k : Nat) : D32 (xs.drop k) := fun x hx => h x (List.mem_of_mem_drop hx)
theorem D32.get {xs : List Nat} (h : D32 xs) (i : Nat) : xs.getD i 0 < H := getD_lt H_pos h i
theorem D32.set {xs : List Nat} (h : D32 xs) (k : Nat) {v : Nat} (hv : v < H) : D32 (xs.set k v) := fun x hx => by
  rcases List.mem_or_eq_of_mem_set hx with h1 | rfl
  · exact h x h1
  · exact hv
theorem D32.zeros (n : Nat) : D32 (List.replicate n 0) := fun x hx => by rw [List.eq_of_mem_replicate hx]; exact H_pos

/-- The digits of words. -/
def dg : List Nat → List Nat
  | [] => []
  | x :: xs => (x % H) :: (x / H) :: dg xs
theorem dg_len (xs : List Nat) : (dg xs).length = 2 * xs.length := by
  induction xs with
  | nil => rfl
  | cons x xs ih => simp only [dg, List.length_cons, ih]; omega
theorem dg_append (xs ys : List Nat) : dg (xs ++ ys) = dg xs ++ dg ys := by
  induction xs with
  | nil => rfl
  | cons x xs ih => simp only [List.cons_append, dg, ih]
theorem dg_d32 {xs : List Nat} (h : W64 xs) : D32 (dg xs) := by
  induction xs with
  | nil => exact D32.nil
  | cons x xs ih =>
    refine D32.cons (Nat.mod_lt _ H_pos) (D32.cons ?_ (ih (fun y hy => h y (by simp [hy]))))
    rw [Nat.div_lt_iff_lt_mul H_pos, ← HH]
    exact h x (by simp)
theorem dg_val (xs : List Nat) : hv (dg xs) = val xs := by
  induction xs with
  | nil => rfl
  | cons x xs ih =>
    simp only [hv, val, dg, valb] at ih ⊢
    rw [ih, Nat.mul_add, ← Nat.mul_assoc, ← HH, ← Nat.add_assoc, Nat.mod_add_div]
theorem dg_take_succ (xs : List Nat) (i : Nat) (hi : i < xs.length) : dg (xs.take (i + 1)) = dg (xs.take i) ++ [xs.getD i 0 % H, xs.getD i 0 / H] := by
  rw [List.take_succ_eq_append_getElem hi, dg_append, List.getD_eq_getElem?_getD, List.getElem?_eq_getElem hi]
  rfl
/-- The words of digits. -/
def wd : List Nat → List Nat
  | a :: b :: t => (a + b * H) :: wd t
  | _ => []
theorem wd_len : ∀ xs : List Nat, (wd xs).length = xs.length / 2
  | [] => rfl
  | [_] => by simp [wd]
  | a :: b :: t => by simp only [wd, List.length_cons, wd_len t]; omega
theorem wd_w64 : ∀ xs : List Nat, D32 xs → W64 (wd xs)
  | [], _ => W64.nil
  | [_], _ => W64.nil
  | a :: b :: t, h => by
    have ha := h a (by simp)
    have hb := h b (by simp)
    refine W64.cons ?_ (wd_w64 t (fun y hy => h y (by simp [hy])))
    rw [HH]
    have : (b + 1) * H ≤ H * H := Nat.mul_le_mul_right _ hb
    rw [Nat.add_mul] at this; omega
theorem wd_val : ∀ (n : Nat) (xs : List Nat), xs.length = 2 * n → val (wd xs) = hv xs
  | 0, [], _ => rfl
  | n + 1, a :: b :: t, h => by
    have := wd_val n t (by simp at h; omega)
    simp only [wd, val, hv, valb] at this ⊢
    rw [this, Nat.mul_add, ← Nat.mul_assoc, ← HH, Nat.mul_comm b H, ← Nat.add_assoc]
theorem wd_take_succ (xs : List Nat) (i : Nat) (hi : 2 * i + 1 < xs.length) : wd (xs.take (2 * (i + 1))) = wd (xs.take (2 * i)) ++ [xs.getD (2 * i) 0 + xs.getD (2 * i + 1) 0 * H] := by
  induction i generalizing xs with
  | zero =>
    match xs, hi with
    | a :: b :: t, _ => simp [wd]
  | succ i ih =>
    match xs, hi with
    | a :: b :: t, hi =>
      have e := ih t (by simp at hi; omega)
      rw [show 2 * (i + 1 + 1) = 2 * (i + 1) + 1 + 1 by omega, show 2 * (i + 1) = 2 * i + 1 + 1 by omega]
      simp only [List.take_succ_cons, wd, List.getD_cons_succ, List.cons_append]
      rw [show 2 * i + 1 + 1 = 2 * (i + 1) by omega, e]
theorem hv_lt {xs : List Nat} (h : D32 xs) : hv xs < H ^ xs.length := valb_lt H xs h
theorem H_pow_two (n : Nat) : H ^ (2 * n) = B ^ n := by rw [Nat.pow_mul, ← HH2]
/-- A list of n words with a value below B^n is known by that value. -/
theorem words_eq {xs ys : List Nat} (hx : W64 xs) (hy : W64 ys) (hl : xs.length = ys.length) (h : val xs = val ys) : xs = ys := valb_inj xs ys hx hy hl h
theorem digs_eq {xs ys : List Nat} (hx : D32 xs) (hy : D32 ys) (hl : xs.length = ys.length) (h : hv xs = hv ys) : xs = ys := valb_inj xs ys hx hy hl h
/-- What 'nat' does: the canonical words of digits out of the first words. -/
theorem nat_words {d row : List Nat} (hd : D32 d) (hr : W64 row) (hl : row.length = (topN d + 1) / 2) (hv' : val row = hv (d.take (topN d))) : row = cn (hv d) := by
  have e : hv (d.take (topN d)) = hv d := (valb_eq_take_topN H d).symm
  rw [e] at hv'
  have hlen : (cn (hv d)).length = row.length := by
    have h1 : (cn (hv d)).length ≤ row.length := by
      rw [cn_len_le, ← hv']; exact val_lt hr
    have h2 : row.length ≤ (cn (hv d)).length := by
      rcases Nat.lt_or_ge (cn (hv d)).length row.length with h3 | h3
      · exfalso
        have ht : 0 < topN d := by omega
        have h4 : hv d < B ^ (row.length - 1) := (cn_len_le _ _).1 (by omega)
        have h5 : H ^ (topN d - 1) ≤ hv d := by
          have h8 := valb_take H d (topN d - 1) (by have := topN_le d; omega)
          rw [Nat.sub_add_cancel ht] at h8
          rw [← e, hv, h8]
          have h6 := topN_last d ht
          have : H ^ (topN d - 1) * 1 ≤ H ^ (topN d - 1) * d.getD (topN d - 1) 0 := Nat.mul_le_mul_left _ (by omega)
          omega
        have h7 : B ^ (row.length - 1) ≤ H ^ (topN d - 1) := by
          rw [← H_pow_two]; exact Nat.pow_le_pow_right H_pos (by omega)
        omega
      · exact h3
    omega
  exact words_eq hr (W64.cn _) hlen.symm (by rw [val_cn]; exact hv')
end Go.Proofs.YtgkojhhodncpbaaDoor
