/- Steps of sums, differences and products of digits in base 2^32: pure arithmetic. -/
import Derived.Test.YtgkojhhodncpbaaDoorM2
set_option linter.unusedVariables false
set_option linter.unusedSimpArgs false
namespace Go.Proofs.YtgkojhhodncpbaaDoor

theorem valb_take_past (b : Nat) (xs : List Nat) (k : Nat) : valb b (xs.take (k + 1)) = valb b (xs.take k) + b ^ k * xs.getD k 0 := by
  rcases Nat.lt_or_ge k xs.length with h | h
  · exact valb_take b xs k h
  · rw [List.take_of_length_le (by omega), List.take_of_length_le h, List.getD_eq_getElem?_getD, List.getElem?_eq_none h]; simp
theorem valb_set (b : Nat) (xs : List Nat) (i v : Nat) (hi : i < xs.length) : valb b (xs.set i v) + b ^ i * xs.getD i 0 = valb b xs + b ^ i * v := by
  induction xs generalizing i with
  | nil => simp at hi
  | cons x xs ih =>
    cases i with
    | zero => simp [valb]; omega
    | succ i =>
      have := ih i (by simpa using hi)
      simp only [List.set_cons_succ, valb, List.getD_cons_succ, Nat.pow_succ] at this ⊢
      have h1 : b * (valb b (xs.set i v) + b ^ i * xs.getD i 0) = b * (valb b xs + b ^ i * v) := by rw [this]
      rw [Nat.mul_add, Nat.mul_add] at h1
      rw [Nat.mul_comm (b ^ i) b, Nat.mul_assoc, Nat.mul_assoc]; omega
theorem getD_past {xs : List Nat} {i : Nat} (h : xs.length ≤ i) : xs.getD i 0 = 0 := by rw [List.getD_eq_getElem?_getD, List.getElem?_eq_none h]; rfl

/-- A step of a sum. -/
theorem plus_step {out a b : List Nat} {i c t : Nat} (hl : out.length = i) (ht : t = c + a.getD i 0 + b.getD i 0) (h : hv out + H ^ i * c = hv (a.take i) + hv (b.take i)) :
    hv (out ++ [t % H]) + H ^ (i + 1) * (t / H) = hv (a.take (i + 1)) + hv (b.take (i + 1)) := by
  have h1 := valb_take_past H a i
  have h2 := valb_take_past H b i
  have h3 := valb_snoc H out (t % H)
  have h4 := Nat.mod_add_div t H
  have h5 : H ^ i * (t % H) + H ^ (i + 1) * (t / H) = H ^ i * t := by
    rw [Nat.pow_succ, Nat.mul_assoc, ← Nat.mul_add, h4]
  rw [hl] at h3
  simp only [hv] at h ⊢
  rw [h1, h2, h3]
  have h7 : H ^ i * t = H ^ i * c + H ^ i * a.getD i 0 + H ^ i * b.getD i 0 := by rw [ht, Nat.mul_add, Nat.mul_add]
  omega
/-- A step of a difference. -/
theorem minus_step {out a b : List Nat} {i c x : Nat} (hl : out.length = i) (hc : c ≤ 1) (ha : a.getD i 0 < H) (hb : b.getD i 0 < H) (hx : x + b.getD i 0 + c = a.getD i 0 + H) (h : hv out + hv (b.take i) = hv (a.take i) + H ^ i * c) :
    x / H ≤ 1 ∧ hv (out ++ [x % H]) + hv (b.take (i + 1)) = hv (a.take (i + 1)) + H ^ (i + 1) * (1 - x / H) := by
  have h1 := valb_take_past H a i
  have h2 := valb_take_past H b i
  have h3 := valb_snoc H out (x % H)
  have h4 := Nat.mod_add_div x H
  have hq : x / H ≤ 1 := by
    have := (Nat.div_lt_iff_lt_mul (x := x) (y := 2) H_pos).2 (by omega)
    omega
  refine ⟨hq, ?_⟩
  have h6 : H * (1 - x / H) + H * (x / H) = H := by rw [← Nat.mul_add, Nat.sub_add_cancel hq, Nat.mul_one]
  have h5 : H ^ i * (x % H) + H ^ i * b.getD i 0 + H ^ i * c = H ^ i * a.getD i 0 + H ^ (i + 1) * (1 - x / H) := by
    rw [Nat.pow_succ, Nat.mul_assoc, ← Nat.mul_add, ← Nat.mul_add, ← Nat.mul_add]
    congr 1; omega
  rw [hl] at h3
  simp only [hv] at h ⊢
  rw [h1, h2, h3]
  omega
/-- A step of a product's row. -/
theorem times_step {out : List Nat} {i k c x y t P : Nat} (hl : i + k < out.length) (ht : t = c + out.getD (i + k) 0 + x * y) (b : List Nat) (hy : y = b.getD k 0) (h : hv out + H ^ (i + k) * c = P + H ^ i * (x * hv (b.take k))) :
    hv (out.set (i + k) (t % H)) + H ^ (i + (k + 1)) * (t / H) = P + H ^ i * (x * hv (b.take (k + 1))) := by
  have h1 := valb_take_past H b k
  have h2 := valb_set H out (i + k) (t % H) hl
  have h4 := Nat.mod_add_div t H
  have h5 : H ^ (i + k) * (t % H) + H ^ (i + (k + 1)) * (t / H) = H ^ (i + k) * t := by
    rw [← Nat.add_assoc, Nat.pow_succ, Nat.mul_assoc, ← Nat.mul_add, h4]
  have h6 : H ^ i * (x * (H ^ k * y)) = H ^ (i + k) * (x * y) := by
    rw [Nat.pow_add]
    simp only [Nat.mul_comm, Nat.mul_left_comm, Nat.mul_assoc]
  simp only [hv] at h ⊢
  rw [h1, ← hy, Nat.mul_add, Nat.mul_add, h6]
  have h7 : H ^ (i + k) * t = H ^ (i + k) * c + H ^ (i + k) * out.getD (i + k) 0 + H ^ (i + k) * (x * y) := by rw [ht, Nat.mul_add, Nat.mul_add]
  omega
theorem times_bound {c o x y : Nat} (hc : c < H) (ho : o < H) (hx : x < H) (hy : y < H) : c + o + x * y < B ∧ (c + o + x * y) / H < H := by
  have h1 : x * y ≤ (H - 1) * (H - 1) := Nat.mul_le_mul (by omega) (by omega)
  have h2 : c + o + x * y < B := by
    have : (H - 1) * (H - 1) + 2 * (H - 1) < B := by decide +kernel
    omega
  exact ⟨h2, by rw [Nat.div_lt_iff_lt_mul H_pos, ← HH]; exact h2⟩
theorem plus_bound {c x y : Nat} (hc : c ≤ 1) (hx : x < H) (hy : y < H) : (c + x + y) / H ≤ 1 := by
  have := (Nat.div_lt_iff_lt_mul (x := c + x + y) (y := 2) H_pos).2 (by omega)
  omega
/-- A number below b^n whose digits are known: what is taken away in whole. -/
theorem minus_end {n x y o c : Nat} (ho : o < H ^ n) (hx : x < H ^ n) (hc : c ≤ 1) (h : o + y = x + H ^ n * c) : (y ≤ x → c = 0 ∧ o = x - y) ∧ (x < y → c = 1) := by
  have : c = 0 ∨ c = 1 := by omega
  rcases this with rfl | rfl
  · simp only [Nat.mul_zero] at h
    exact ⟨fun _ => ⟨rfl, by omega⟩, fun _ => by omega⟩
  · simp only [Nat.mul_one] at h
    exact ⟨fun _ => by omega, fun _ => rfl⟩
theorem cmp3_val {b : Nat} (xs ys : List Nat) (h : valb b xs = valb b ys) : cmp3 (valb b xs) (valb b ys) = 0 := cmp3_eq h
/-- Values by the digits from i on. -/
theorem valb_drop_step (b : Nat) (xs : List Nat) (i : Nat) : valb b (xs.drop i) = xs.getD i 0 + b * valb b (xs.drop (i + 1)) := by
  rcases Nat.lt_or_ge i xs.length with h | h
  · rw [List.drop_eq_getElem_cons h, valb_cons, List.getD_eq_getElem?_getD, List.getElem?_eq_getElem h]; rfl
  · rw [List.drop_eq_nil_of_le h, List.drop_eq_nil_of_le (by omega), getD_past h]; simp [valb]
theorem cmp3_step {b x y X Y : Nat} (_hx : x < b) (_hy : y < b) : (X < Y → cmp3 (x + b * X) (y + b * Y) = -1) ∧ (Y < X → cmp3 (x + b * X) (y + b * Y) = 1) := by
  constructor
  · intro h
    have : b * (X + 1) ≤ b * Y := Nat.mul_le_mul_left _ h
    rw [Nat.mul_add] at this
    exact cmp3_lt (by omega)
  · intro h
    have : b * (Y + 1) ≤ b * X := Nat.mul_le_mul_left _ h
    rw [Nat.mul_add] at this
    exact cmp3_gt (by omega)
/-- A value and what is beyond its first digits. -/
theorem valb_split (b : Nat) (xs : List Nat) (k : Nat) : valb b xs = valb b (xs.take k) + b ^ k * valb b (xs.drop k) := by
  rcases Nat.lt_or_ge xs.length k with h | h
  · rw [List.take_of_length_le (by omega), List.drop_eq_nil_of_le (by omega)]; simp [valb]
  · exact valb_take_drop b xs k h
/-- Digits padded by zeros. -/
theorem valb_pad (b : Nat) (xs : List Nat) (n : Nat) : valb b (xs ++ List.replicate n 0) = valb b xs := by rw [valb_append, valb_zeros]; simp
/-- The words of digits, when all pairs have been taken. -/
theorem wd_all : ∀ (n : Nat) (xs : List Nat), xs.length ≤ 2 * n + 1 → wd (xs.take (2 * n)) = wd xs
  | 0, [], _ => rfl
  | 0, [_], _ => rfl
  | 0, _ :: _ :: _, h => by simp at h
  | _ + 1, [], _ => by simp
  | n + 1, [x], _ => by rw [List.take_of_length_le (by simp; omega)]
  | n + 1, a :: b :: t, h => by
    have := wd_all n t (by simp at h; omega)
    rw [show 2 * (n + 1) = 2 * n + 1 + 1 by omega]
    simp only [List.take_succ_cons, wd, this]
theorem wd_step (xs : List Nat) (i : Nat) (he : i % 2 = 0) (hi : i + 1 < xs.length) : wd (xs.take (i + 2)) = wd (xs.take i) ++ [xs.getD i 0 + xs.getD (i + 1) 0 * H] := by
  obtain ⟨k, rfl⟩ : ∃ k, i = 2 * k := ⟨i / 2, by omega⟩
  exact wd_take_succ xs k hi
theorem wd_end (xs : List Nat) (i : Nat) (he : i % 2 = 0) (hi : xs.length ≤ i + 1) : wd (xs.take i) = wd xs := by
  obtain ⟨k, rfl⟩ : ∃ k, i = 2 * k := ⟨i / 2, by omega⟩
  exact wd_all k xs hi
/-- What a cut of digits gives: the first n words, and the word above them. -/
theorem cut_row (ds : List Nat) (m n : Nat) (hd : D32 ds) (hl : 2 * n ≤ ds.length + m) :
    (wd ((ds ++ List.replicate m 0).take (2 * n))).length = n ∧ W64 (wd ((ds ++ List.replicate m 0).take (2 * n))) ∧ val (wd ((ds ++ List.replicate m 0).take (2 * n))) = hv ds % B ^ n := by
  have h0 := hd.append (D32.zeros m)
  have hlen : ((ds ++ List.replicate m 0).take (2 * n)).length = 2 * n := by rw [List.length_take, List.length_append, List.length_replicate]; omega
  refine ⟨by rw [wd_len, hlen]; omega, wd_w64 _ (h0.take _), ?_⟩
  rw [wd_val n _ hlen, hv, valb_take_mod H H_pos _ h0, valb_pad, H_pow_two]
theorem cut_high (ds : List Nat) (m n : Nat) (hd : D32 ds) (hl : 2 * n + 2 ≤ ds.length + m) :
    (ds ++ List.replicate m 0).getD (2 * n) 0 + (ds ++ List.replicate m 0).getD (2 * n + 1) 0 * H = hv ds / B ^ n % B := by
  have h0 := hd.append (D32.zeros m)
  have e1 := valb_drop_div H H_pos _ h0 (2 * n)
  rw [valb_pad, H_pow_two] at e1
  rw [hv, ← e1, valb_drop_step, valb_drop_step, Nat.mul_add, ← Nat.add_assoc, ← Nat.mul_assoc, ← HH, Nat.add_mul_mod_self_left, Nat.mul_comm H]
  refine (Nat.mod_eq_of_lt ?_).symm
  have h1 := h0.get (2 * n)
  have h2 := h0.get (2 * n + 1)
  rw [HH]
  have : ((ds ++ List.replicate m 0).getD (2 * n + 1) 0 + 1) * H ≤ H * H := Nat.mul_le_mul_right _ h2
  rw [Nat.add_mul] at this; omega
end Go.Proofs.YtgkojhhodncpbaaDoor
