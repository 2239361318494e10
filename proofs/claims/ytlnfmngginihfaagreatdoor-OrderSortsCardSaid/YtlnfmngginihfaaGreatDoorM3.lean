/- Digits in base 2^32, two for each word: pure arithmetic. Steps of sums, differences and products of digits in base 2^32: pure arithmetic. -/
import Derived.Test.YtlnfmngginihfaaGreatDoorM1
set_option linter.unusedVariables false
set_option linter.unusedSimpArgs false
namespace Go.Proofs.YtlnfmngginihfaaGreatDoor
/-- 2^32 -/
def H : Nat := 4294967296
theorem H_eq : H = 4294967296 := rfl
theorem H_two : H = 2 ^ 32 := by decide +kernel
theorem two_le_H : 2 ≤ H := by decide +kernel
theorem H_pos : 0 < H := by decide +kernel
theorem HH : B = H * H := by decide +kernel
theorem HH2 : B = H ^ 2 := by decide +kernel
theorem H_lt_B : H < B := by decide +kernel
abbrev hv (xs : List Nat) : Nat := valb H xs
def D32 (xs : List Nat) : Prop := ∀ x ∈ xs, x < H
theorem D32.w64 {xs : List Nat} (h : D32 xs) : W64 xs := fun x hx => Nat.lt_trans (h x hx) H_lt_B
theorem D32.nil : D32 [] := by intro x hx; simp at hx
theorem D32.cons {x : Nat} {xs : List Nat} (hx : x < H) (h : D32 xs) : D32 (x :: xs) := by
  intro y hy
  rcases List.mem_cons.1 hy with rfl | hy
  · exact hx
  · exact h y hy
theorem D32.append {xs ys : List Nat} (h : D32 xs) (h' : D32 ys) : D32 (xs ++ ys) := by
  intro y hy
  rcases List.mem_append.1 hy with hy | hy
  · exact h y hy
  · exact h' y hy
theorem D32.snoc {xs : List Nat} (h : D32 xs) {x : Nat} (hx : x < H) : D32 (xs ++ [x]) := h.append (D32.cons hx D32.nil)
theorem D32.take {xs : List Nat} (h : D32 xs) (k : Nat) : D32 (xs.take k) := fun x hx => h x (List.mem_of_mem_take hx)
theorem D32.drop {xs : List Nat} (h : D32 xs) (k : Nat) : D32 (xs.drop k) := fun x hx => h x (List.mem_of_mem_drop hx)
theorem D32.get {xs : List Nat} (h : D32 xs) (i : Nat) : xs.getD i 0 < H := getD_lt H_pos h i
theorem D32.set {xs : List Nat} (h : D32 xs) (k : Nat) {v : Nat} (hv : v < H) : D32 (xs.set k v) := fun x hx => by
  rcases List.mem_or_eq_of_mem_set hx with h1 | rfl
  · exact h x h1
  · exact hv
theorem D32.zeros (n : Nat) : D32 (List.replicate n 0) := fun x hx => by rw [List.eq_of_mem_replicate hx]; exact H_pos

/-- The digits of words. -/
def dg : List Nat → List Nat
  | [] => []
  | x :: xs => (x % H) :: (x / H) :: dg xs
theorem dg_len (xs : List Nat) : (dg xs).length = 2 * xs.length := by
  induction xs with
  | nil => rfl
  | cons x xs ih => simp only [dg, List.length_cons, ih]; omega
theorem dg_append (xs ys : List Nat) : dg (xs ++ ys) = dg xs ++ dg ys := by
  induction xs with
  | nil => rfl
  | cons x xs ih => simp only [List.cons_append, dg, ih]
theorem dg_d32 {xs : List Nat} (h : W64 xs) : D32 (dg xs) := by
  induction xs with
  | nil => exact D32.nil
  | cons x xs ih =>
    refine D32.cons (Nat.mod_lt _ H_pos) (D32.cons ?_ (ih (fun y hy => h y (by simp [hy]))))
    rw [Nat.div_lt_iff_lt_mul H_pos, ← HH]
    exact h x (by simp)
theorem dg_val (xs : List Nat) : hv (dg xs) = val xs := by
  induction xs with
  | nil => rfl
  | cons x xs ih =>
    simp only [hv, val, dg, valb] at ih ⊢
    rw [ih, Nat.mul_add, ← Nat.mul_assoc, ← HH, ← Nat.add_assoc, Nat.mod_add_div]
theorem dg_take_succ (xs : List Nat) (i : Nat) (hi : i < xs.length) : dg (xs.take (i + 1)) = dg (xs.take i) ++ [xs.getD i 0 % H, xs.getD i 0 / H] := by
  rw [List.take_succ_eq_append_getElem hi, dg_append, List.getD_eq_getElem?_getD, List.getElem?_eq_getElem hi]
  rfl
/-- The words of digits. -/
def wd : List Nat → List Nat
  | a :: b :: t => (a + b * H) :: wd t
  | _ => []
theorem wd_len : ∀ xs : List Nat, (wd xs).length = xs.length / 2
  | [] => rfl
  | [_] => by simp [wd]
  | a :: b :: t => by simp only [wd, List.length_cons, wd_len t]; omega
theorem wd_w64 : ∀ xs : List Nat, D32 xs → W64 (wd xs)
  | [], _ => W64.nil
  | [_], _ => W64.nil
  | a :: b :: t, h => by
    have ha := h a (by simp)
    have hb := h b (by simp)
    refine W64.cons ?_ (wd_w64 t (fun y hy => h y (by simp [hy])))
    rw [HH]
    have : (b + 1) * H ≤ H * H := Nat.mul_le_mul_right _ hb
    rw [Nat.add_mul] at this; omega
theorem wd_val : ∀ (n : Nat) (xs : List Nat), xs.length = 2 * n → val (wd xs) = hv xs
  | 0, [], _ => rfl
  | n + 1, a :: b :: t, h => by
    have := wd_val n t (by simp at h; omega)
    simp only [wd, val, hv, valb] at this ⊢
    rw [this, Nat.mul_add, ← Nat.mul_assoc, ← HH, Nat.mul_comm b H, ← Nat.add_assoc]
theorem wd_take_succ (xs : List Nat) (i : Nat) (hi : 2 * i + 1 < xs.length) : wd (xs.take (2 * (i + 1))) = wd (xs.take (2 * i)) ++ [xs.getD (2 * i) 0 + xs.getD (2 * i + 1) 0 * H] := by
  induction i generalizing xs with
  | zero =>
    match xs, hi with
    | a :: b :: t, _ => simp [wd]
  | succ i ih =>
    match xs, hi with
    | a :: b :: t, hi =>
      have e := ih t (by simp at hi; omega)
      rw [show 2 * (i + 1 + 1) = 2 * (i + 1) + 1 + 1 by omega, show 2 * (i + 1) = 2 * i + 1 + 1 by omega]
      simp only [List.take_succ_cons, wd, List.getD_cons_succ, List.cons_append]
      rw [show 2 * i + 1 + 1 = 2 * (i + 1) by omega, e]
theorem hv_lt {xs : List Nat} (h : D32 xs) : hv xs < H ^ xs.length := valb_lt H xs h
theorem H_pow_two (n : Nat) : H ^ (2 * n) = B ^ n := by rw [Nat.pow_mul, ← HH2]
/-- A list of n words with a value below B^n is known by that value. -/
theorem words_eq {xs ys : List Nat} (hx : W64 xs) (hy : W64 ys) (hl : xs.length = ys.length) (h : val xs = val ys) : xs = ys := valb_inj xs ys hx hy hl h
theorem digs_eq {xs ys : List Nat} (hx : D32 xs) (hy : D32 ys) (hl : xs.length = ys.length) (h : hv xs = hv ys) : xs = ys := valb_inj xs ys hx hy hl h
/-- What 'nat' does: the canonical words of digits out of the first words. -/
theorem nat_words {d row : List Nat} (hd : D32 d) (hr : W64 row) (hl : row.length = (topN d + 1) / 2) (hv' : val row = hv (d.take (topN d))) : row = cn (hv d) := by
  have e : hv (d.take (topN d)) = hv d := (valb_eq_take_topN H d).symm
  rw [e] at hv'
  have hlen : (cn (hv d)).length = row.length := by
    have h1 : (cn (hv d)).length ≤ row.length := by
      rw [cn_len_le, ← hv']; exact val_lt hr
    have h2 : row.length ≤ (cn (hv d)).length := by
      rcases Nat.lt_or_ge (cn (hv d)).length row.length with h3 | h3
      · exfalso
        have ht : 0 < topN d := by omega
        have h4 : hv d < B ^ (row.length - 1) := (cn_len_le _ _).1 (by omega)
        have h5 : H ^ (topN d - 1) ≤ hv d := by
          have h8 := valb_take H d (topN d - 1) (by have := topN_le d; omega)
          rw [Nat.sub_add_cancel ht] at h8
          rw [← e, hv, h8]
          have h6 := topN_last d ht
          have : H ^ (topN d - 1) * 1 ≤ H ^ (topN d - 1) * d.getD (topN d - 1) 0 := Nat.mul_le_mul_left _ (by omega)
          omega
        have h7 : B ^ (row.length - 1) ≤ H ^ (topN d - 1) := by
          rw [← H_pow_two]; exact Nat.pow_le_pow_right H_pos (by omega)
        omega
      · exact h3
    omega
  exact words_eq hr (W64.cn _) hlen.symm (by rw [val_cn]; exact hv')
end Go.Proofs.YtlnfmngginihfaaGreatDoor
namespace Go.Proofs.YtlnfmngginihfaaGreatDoor
theorem valb_take_past (b : Nat) (xs : List Nat) (k : Nat) : valb b (xs.take (k + 1)) = valb b (xs.take k) + b ^ k * xs.getD k 0 := by
  rcases Nat.lt_or_ge k xs.length with h | h
  · exact valb_take b xs k h
  · rw [List.take_of_length_le (by omega), List.take_of_length_le h, List.getD_eq_getElem?_getD, List.getElem?_eq_none h]; simp
theorem valb_set (b : Nat) (xs : List Nat) (i v : Nat) (hi : i < xs.length) : valb b (xs.set i v) + b ^ i * xs.getD i 0 = valb b xs + b ^ i * v := by
  induction xs generalizing i with
  | nil => simp at hi
  | cons x xs ih =>
    cases i with
    | zero => simp [valb]; omega
    | succ i =>
      have := ih i (by simpa using hi)
      simp only [List.set_cons_succ, valb, List.getD_cons_succ, Nat.pow_succ] at this ⊢
      have h1 : b * (valb b (xs.set i v) + b ^ i * xs.getD i 0) = b * (valb b xs + b ^ i * v) := by rw [this]
      rw [Nat.mul_add, Nat.mul_add] at h1
      rw [Nat.mul_comm (b ^ i) b, Nat.mul_assoc, Nat.mul_assoc]; omega
theorem getD_past {xs : List Nat} {i : Nat} (h : xs.length ≤ i) : xs.getD i 0 = 0 := by rw [List.getD_eq_getElem?_getD, List.getElem?_eq_none h]; rfl

/-- A step of a sum. -/
theorem plus_step {out a b : List Nat} {i c t : Nat} (hl : out.length = i) (ht : t = c + a.getD i 0 + b.getD i 0) (h : hv out + H ^ i * c = hv (a.take i) + hv (b.take i)) :
    hv (out ++ [t % H]) + H ^ (i + 1) * (t / H) = hv (a.take (i + 1)) + hv (b.take (i + 1)) := by
  have h1 := valb_take_past H a i
  have h2 := valb_take_past H b i
  have h3 := valb_snoc H out (t % H)
  have h4 := Nat.mod_add_div t H
  have h5 : H ^ i * (t % H) + H ^ (i + 1) * (t / H) = H ^ i * t := by
    rw [Nat.pow_succ, Nat.mul_assoc, ← Nat.mul_add, h4]
  rw [hl] at h3
  simp only [hv] at h ⊢
  rw [h1, h2, h3]
  have h7 : H ^ i * t = H ^ i * c + H ^ i * a.getD i 0 + H ^ i * b.getD i 0 := by rw [ht, Nat.mul_add, Nat.mul_add]
  omega
/-- A step of a difference. -/
theorem minus_step {out a b : List Nat} {i c x : Nat} (hl : out.length = i) (hc : c ≤ 1) (ha : a.getD i 0 < H) (hb : b.getD i 0 < H) (hx : x + b.getD i 0 + c = a.getD i 0 + H) (h : hv out + hv (b.take i) = hv (a.take i) + H ^ i * c) :
    x / H ≤ 1 ∧ hv (out ++ [x % H]) + hv (b.take (i + 1)) = hv (a.take (i + 1)) + H ^ (i + 1) * (1 - x / H) := by
  have h1 := valb_take_past H a i
  have h2 := valb_take_past H b i
  have h3 := valb_snoc H out (x % H)
  have h4 := Nat.mod_add_div x H
  have hq : x / H ≤ 1 := by
    have := (Nat.div_lt_iff_lt_mul (x := x) (y := 2) H_pos).2 (by omega)
    omega
  refine ⟨hq, ?_⟩
  have h6 : H * (1 - x / H) + H * (x / H) = H := by rw [← Nat.mul_add, Nat.sub_add_cancel hq, Nat.mul_one]
  have h5 : H ^ i * (x % H) + H ^ i * b.getD i 0 + H ^ i * c = H ^ i * a.getD i 0 + H ^ (i + 1) * (1 - x / H) := by
    rw [Nat.pow_succ, Nat.mul_assoc, ← Nat.mul_add, ← Nat.mul_add, ← Nat.mul_add]
    congr 1; omega
  rw [hl] at h3
  simp only [hv] at h ⊢
  rw [h1, h2, h3]
  omega
/-- A step of a product's row. -/
theorem times_step {out : List Nat} {i k c x y t P : Nat} (hl : i + k < out.length) (ht : t = c + out.getD (i + k) 0 + x * y) (b : List Nat) (hy : y = b.getD k 0) (h : hv out + H ^ (i + k) * c = P + H ^ i * (x * hv (b.take k))) :
    hv (out.set (i + k) (t % H)) + H ^ (i + (k + 1)) * (t / H) = P + H ^ i * (x * hv (b.take (k + 1))) := by
  have h1 := valb_take_past H b k
  have h2 := valb_set H out (i + k) (t % H) hl
  have h4 := Nat.mod_add_div t H
  have h5 : H ^ (i + k) * (t % H) + H ^ (i + (k + 1)) * (t / H) = H ^ (i + k) * t := by
    rw [← Nat.add_assoc, Nat.pow_succ, Nat.mul_assoc, ← Nat.mul_add, h4]
  have h6 : H ^ i * (x * (H ^ k * y)) = H ^ (i + k) * (x * y) := by
    rw [Nat.pow_add]
    simp only [Nat.mul_comm, Nat.mul_left_comm, Nat.mul_assoc]
  simp only [hv] at h ⊢
  rw [h1, ← hy, Nat.mul_add, Nat.mul_add, h6]
  have h7 : H ^ (i + k) * t = H ^ (i + k) * c + H ^ (i + k) * out.getD (i + k) 0 + H ^ (i + k) * (x * y) := by rw [ht, Nat.mul_add, Nat.mul_add]
  omega
theorem times_bound {c o x y : Nat} (hc : c < H) (ho : o < H) (hx : x < H) (hy : y < H) : c + o + x * y < B ∧ (c + o + x * y) / H < H := by
  have h1 : x * y ≤ (H - 1) * (H - 1) := Nat.mul_le_mul (by omega) (by omega)
  have h2 : c + o + x * y < B := by
    have : (H - 1) * (H - 1) + 2 * (H - 1) < B := by decide +kernel
    omega
  exact ⟨h2, by rw [Nat.div_lt_iff_lt_mul H_pos, ← HH]; exact h2⟩
theorem plus_bound {c x y : Nat} (hc : c ≤ 1) (hx : x < H) (hy : y < H) : (c + x + y) / H ≤ 1 := by
  have := (Nat.div_lt_iff_lt_mul (x := c + x + y) (y := 2) H_pos).2 (by omega)
  omega
/-- A number below b^n whose digits are known: what is taken away in whole. -/
theorem minus_end {n x y o c : Nat} (ho : o < H ^ n) (hx : x < H ^ n) (hc : c ≤ 1) (h : o + y = x + H ^ n * c) : (y ≤ x → c = 0 ∧ o = x - y) ∧ (x < y → c = 1) := by
  have : c = 0 ∨ c = 1 := by omega
  rcases this with rfl | rfl
  · simp only [Nat.mul_zero] at h
    exact ⟨fun _ => ⟨rfl, by omega⟩, fun _ => by omega⟩
  · simp only [Nat.mul_one] at h
    exact ⟨fun _ => by omega, fun _ => rfl⟩
theorem cmp3_val {b : Nat} (xs ys : List Nat) (h : valb b xs = valb b ys) : cmp3 (valb b xs) (valb b ys) = 0 := cmp3_eq h
/-- Values by the digits from i on. -/
theorem valb_drop_step (b : Nat) (xs : List Nat) (i : Nat) : valb b (xs.drop i) = xs.getD i 0 + b * valb b (xs.drop (i + 1)) := by
  rcases Nat.lt_or_ge i xs.length with h | h
  · rw [List.drop_eq_getElem_cons h, valb_cons, List.getD_eq_getElem?_getD, List.getElem?_eq_getElem h]; rfl
  · rw [List.drop_eq_nil_of_le h, List.drop_eq_nil_of_le (by omega), getD_past h]; simp [valb]
theorem cmp3_step {b x y X Y : Nat} (_hx : x < b) (_hy : y < b) : (X < Y → cmp3 (x + b * X) (y + b * Y) = -1) ∧ (Y < X → cmp3 (x + b * X) (y + b * Y) = 1) := by
  constructor
  · intro h
    have : b * (X + 1) ≤ b * Y := Nat.mul_le_mul_left _ h
    rw [Nat.mul_add] at this
    exact cmp3_lt (by omega)
  · intro h
    have : b * (Y + 1) ≤ b * X := Nat.mul_le_mul_left _ h
    rw [Nat.mul_add] at this
    exact cmp3_gt (by omega)
/-- A value and what is beyond its first digits. -/
theorem valb_split (b : Nat) (xs : List Nat) (k : Nat) : valb b xs = valb b (xs.take k) + b ^ k * valb b (xs.drop k) := by
  rcases Nat.lt_or_ge xs.length k with h | h
  · rw [List.take_of_length_le (by omega), List.drop_eq_nil_of_le (by omega)]; simp [valb]
  · exact valb_take_drop b xs k h
/-- Digits padded by zeros. -/
theorem valb_pad (b : Nat) (xs : List Nat) (n : Nat) : valb b (xs ++ List.replicate n 0) = valb b xs := by rw [valb_append, valb_zeros]; simp
/-- The words of digits, when all pairs have been taken. -/
theorem wd_all : ∀ (n : Nat) (xs : List Nat), xs.length ≤ 2 * n + 1 → wd (xs.take (2 * n)) = wd xs
  | 0, [], _ => rfl
  | 0, [_], _ => rfl
  | 0, _ :: _ :: _, h => by simp at h
  | _ + 1, [], _ => by simp
  | n + 1, [x], _ => by rw [List.take_of_length_le (by simp; omega)]
  | n + 1, a :: b :: t, h => by
    have := wd_all n t (by simp at h; omega)
    rw [show 2 * (n + 1) = 2 * n + 1 + 1 by omega]
    simp only [List.take_succ_cons, wd, this]
theorem wd_step (xs : List Nat) (i : Nat) (he : i % 2 = 0) (hi : i + 1 < xs.length) : wd (xs.take (i + 2)) = wd (xs.take i) ++ [xs.getD i 0 + xs.getD (i + 1) 0 * H] := by
  obtain ⟨k, rfl⟩ : ∃ k, i = 2 * k := ⟨i / 2, by omega⟩
  exact wd_take_succ xs k hi
theorem wd_end (xs : List Nat) (i : Nat) (he : i % 2 = 0) (hi : xs.length ≤ i + 1) : wd (xs.take i) = wd xs := by
  obtain ⟨k, rfl⟩ : ∃ k, i = 2 * k := ⟨i / 2, by omega⟩
  exact wd_all k xs hi
/-- What a cut of digits gives: the first n words, and the word above them. -/
theorem cut_row (ds : List Nat) (m n : Nat) (hd : D32 ds) (hl : 2 * n ≤ ds.length + m) :
    (wd ((ds ++ List.replicate m 0).take (2 * n))).length = n ∧ W64 (wd ((ds ++ List.replicate m 0).take (2 * n))) ∧ val (wd ((ds ++ List.replicate m 0).take (2 * n))) = hv ds % B ^ n := by
  have h0 := hd.append (D32.zeros m)
  have hlen : ((ds ++ List.replicate m 0).take (2 * n)).length = 2 * n := by rw [List.length_take, List.length_append, List.length_replicate]; omega
  refine ⟨by rw [wd_len, hlen]; omega, wd_w64 _ (h0.take _), ?_⟩
  rw [wd_val n _ hlen, hv, valb_take_mod H H_pos _ h0, valb_pad, H_pow_two]
theorem cut_high (ds : List Nat) (m n : Nat) (hd : D32 ds) (hl : 2 * n + 2 ≤ ds.length + m) :
    (ds ++ List.replicate m 0).getD (2 * n) 0 + (ds ++ List.replicate m 0).getD (2 * n + 1) 0 * H = hv ds / B ^ n % B := by
  have h0 := hd.append (D32.zeros m)
  have e1 := valb_drop_div H H_pos _ h0 (2 * n)
  rw [valb_pad, H_pow_two] at e1
  rw [hv, ← e1, valb_drop_step, valb_drop_step, Nat.mul_add, ← Nat.add_assoc, ← Nat.mul_assoc, ← HH, Nat.add_mul_mod_self_left, Nat.mul_comm H]
  refine (Nat.mod_eq_of_lt ?_).symm
  have h1 := h0.get (2 * n)
  have h2 := h0.get (2 * n + 1)
  rw [HH]
  have : ((ds ++ List.replicate m 0).getD (2 * n + 1) 0 + 1) * H ≤ H * H := Nat.mul_le_mul_right _ h2
  rw [Nat.add_mul] at this; omega
end Go.Proofs.YtlnfmngginihfaaGreatDoor
