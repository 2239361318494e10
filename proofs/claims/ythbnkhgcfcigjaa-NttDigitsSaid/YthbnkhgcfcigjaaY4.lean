/- Division by the schoolbook in the base 2^32: the plain steps. the reference's division by one digit; rows of the call's own that are written. the reference's division by the schoolbook: Divide. the reference's DivMod, Mod, Div and Gcd. -/
import Derived.Test.YthbnkhgcfcigjaaM3
import Derived.Test.YthbnkhgcfcigjaaR6
import Derived.Test.YthbnkhgcfcigjaaR8
set_option linter.unusedVariables false
set_option linter.unusedSimpArgs false
namespace Go.Proofs.Ythbnkhgcfcigjaa
/-- The quotient of the highest digits is not less than the digit. -/
theorem guess_ge {V b r l top bt M : Nat} (hb : b = r + M * bt) (hV : V = l + M * top) (hl : l < M) (hbt : 0 < bt) : V / b ≤ top / bt := by
  rw [Nat.le_div_iff_mul_le hbt]
  have h1 : V / b * b ≤ V := Nat.div_mul_le_self V b
  generalize V / b = q at *
  have h2 : M * (q * bt) ≤ q * b := by
    rw [hb, Nat.mul_add, Nat.mul_left_comm]
    exact Nat.le_add_left _ _
  have h3 : M * (q * bt) < M * (top + 1) := by rw [Nat.mul_add, Nat.mul_one]; omega
  have := Nat.lt_of_mul_lt_mul_left h3
  omega
/-- A digit of the quotient is one. -/
theorem digit_lt {V x U b : Nat} (hV : V = x + H * U) (hx : x < H) (hU : U < b) : V < H * b ∧ V / b < H := by
  have h : V < H * b := by
    have : H * (U + 1) ≤ H * b := Nat.mul_le_mul_left _ hU
    rw [Nat.mul_add, Nat.mul_one] at this
    omega
  exact ⟨h, Nat.div_lt_of_lt_mul (by rw [Nat.mul_comm]; exact h)⟩
/-- A guess that is too great, and one that is not. -/
theorem guess_step {V b g : Nat} (hb : 0 < b) (hg : V / b ≤ g) : (b * g ≤ V → g = V / b) ∧ (V < b * g → V / b ≤ g - 1 ∧ 0 < g) := by
  constructor
  · intro h
    have : g ≤ V / b := (Nat.le_div_iff_mul_le hb).2 (by rw [Nat.mul_comm]; exact h)
    omega
  · intro h
    have h1 : b * (V / b) ≤ V := Nat.mul_div_le V b
    have h2 : V / b ≠ g := by intro e; rw [e] at h1; omega
    generalize V / b = q at *
    omega
/-- Down by a small number, digit by digit. -/
theorem down_step {d : List Nat} {i rest s t x V : Nat} (hi : i < d.length) (hs : 0 < s) (ht : t = rest * H + x) (hz : d.getD i 0 = 0) (h : hv d * s + H ^ (i + 1) * rest = V) :
    hv (d.set i (t / s)) * s + H ^ i * (t % s) = V + H ^ i * x := by
  have e := valb_set H d i (t / s) hi
  rw [hz, Nat.mul_zero, Nat.add_zero] at e
  show valb H (d.set i (t / s)) * s + _ = _
  rw [e, Nat.add_mul, Nat.add_assoc, Nat.mul_assoc, ← Nat.mul_add, Nat.mul_comm (t / s) s, Nat.div_add_mod, ht, Nat.mul_add, ← Nat.add_assoc, ← h, Nat.pow_succ, Nat.mul_assoc, Nat.mul_comm H rest]

/-- The digits while a rest is written over a window. -/
def spl (a rest : List Nat) (i k : Nat) : List Nat := a.take i ++ (rest.take k ++ a.drop (i + k))
theorem spl_len {a rest : List Nat} {i k : Nat} (h : i + k ≤ a.length) (hk : k ≤ rest.length) : (spl a rest i k).length = a.length := by unfold spl; simp; omega
theorem spl_zero (a rest : List Nat) (i : Nat) : spl a rest i 0 = a := by unfold spl; simp
theorem spl_step {a rest : List Nat} {i k : Nat} (h : i + k < a.length) (hk : k < rest.length) : (spl a rest i k).set (i + k) (rest.getD k 0) = spl a rest i (k + 1) := by
  unfold spl
  have l1 : (a.take i).length = i := by simp; omega
  have l2 : (rest.take k).length = k := by simp; omega
  rw [List.set_append_right _ _ (by omega), l1, show i + k - i = k by omega, List.set_append_right _ _ (by omega), l2, Nat.sub_self, List.drop_eq_getElem_cons h, List.set_cons_zero,
    List.take_succ_eq_append_getElem hk, List.append_assoc, show i + (k + 1) = i + k + 1 by omega]
  simp [List.getD_eq_getElem?_getD, List.getElem?_eq_getElem hk]
theorem spl_d32 {a rest : List Nat} {i k : Nat} (ha : D32 a) (hr : D32 rest) : D32 (spl a rest i k) := (ha.take i).append ((hr.take k).append (ha.drop _))
/-- What holds ahead of a round: A is what is divided, i digits of the quotient are to be found. -/
structure DivI (A b n : Nat) (a q : List Nat) (i : Nat) : Prop where
  da : D32 a
  dq : D32 q
  lq : q.length = a.length - n
  le : i ≤ q.length
  sum : hv q * b + hv a = A
  zero : ∀ j, j < i → q.getD j 0 = 0
  top : hv (a.drop i) < b
theorem hv_take_lt {a : List Nat} (h : D32 a) (m : Nat) : hv (a.take m) < H ^ m := by
  refine Nat.lt_of_lt_of_le (hv_lt (h.take m)) (Nat.pow_le_pow_right H_pos ?_)
  rw [List.length_take]; omega
section
variable {A : Nat} {bs a q : List Nat} {i : Nat}
theorem DivI.past (hb : D32 bs) (h : DivI A (hv bs) bs.length a q (i + 1)) : hv (a.drop (i + (bs.length + 1))) = 0 := by
  have h1 := h.top
  have h2 := hv_lt hb
  have h3 : hv (a.drop (i + 1)) = _ := valb_split H (a.drop (i + 1)) bs.length
  rw [List.drop_drop, show i + 1 + bs.length = i + (bs.length + 1) by omega] at h3
  rcases Nat.eq_zero_or_pos (valb H (a.drop (i + (bs.length + 1)))) with h0 | h0
  · exact h0
  · have := Nat.mul_le_mul_left (H ^ bs.length) h0
    omega
theorem DivI.win (hb : D32 bs) (h : DivI A (hv bs) bs.length a q (i + 1)) : hv ((a.drop i).take (bs.length + 1)) = hv (a.drop i) := by
  have h3 : hv (a.drop i) = _ := valb_split H (a.drop i) (bs.length + 1)
  rw [List.drop_drop] at h3
  have h4 : valb H (a.drop (i + (bs.length + 1))) = 0 := h.past hb
  rw [h4, Nat.mul_zero, Nat.add_zero] at h3
  exact h3.symm
theorem DivI.facts (hb : D32 bs) (hbt : 0 < bs.getD (bs.length - 1) 0) (h : DivI A (hv bs) bs.length a q (i + 1)) :
    hv (a.drop i) / hv bs < H ∧ hv (a.drop i) < H * hv bs ∧ hv (a.drop i) / hv bs ≤ (a.getD (i + bs.length) 0 * H + a.getD (i + bs.length - 1) 0) / bs.getD (bs.length - 1) 0 ∧ 0 < bs.length ∧ i + (bs.length + 1) ≤ a.length := by
  have hn : 0 < bs.length := by
    rcases Nat.eq_zero_or_pos bs.length with h0 | h0
    · obtain rfl := List.eq_nil_of_length_eq_zero h0
      simp at hbt
    · exact h0
  have hla : i + (bs.length + 1) ≤ a.length := by have h1 := h.le; have h2 := h.lq; omega
  obtain ⟨h1, h2⟩ := digit_lt (valb_drop_step H a i) (h.da.get i) h.top
  refine ⟨h2, h1, ?_, hn, hla⟩
  obtain ⟨m, hm⟩ : ∃ m, bs.length = m + 1 := ⟨bs.length - 1, by omega⟩
  have hz := h.past hb
  rw [hm] at hz hbt ⊢
  rw [show i + (m + 1) - 1 = i + m by omega, show m + 1 - 1 = m by omega] at *
  have eb : hv bs = hv (bs.take m) + H ^ m * bs.getD m 0 := by
    have e1 : hv bs = _ := valb_split H bs m
    have e2 : valb H (bs.drop m) = _ := valb_drop_step H bs m
    rw [e2, List.drop_eq_nil_of_le (i := m + 1) (by omega)] at e1
    simpa [valb] using e1
  have eV : hv (a.drop i) = hv ((a.drop i).take m) + H ^ m * (a.getD (i + (m + 1)) 0 * H + a.getD (i + m) 0) := by
    have e1 : hv (a.drop i) = _ := valb_split H (a.drop i) m
    rw [List.drop_drop] at e1
    have e2 : valb H (a.drop (i + m)) = _ := valb_drop_step H a (i + m)
    have e3 : valb H (a.drop (i + m + 1)) = _ := valb_drop_step H a (i + m + 1)
    rw [show i + m + 1 + 1 = i + (m + 1 + 1) by omega, show valb H (a.drop (i + (m + 1 + 1))) = 0 from hz, Nat.mul_zero, Nat.add_zero] at e3
    rw [e2, e3] at e1
    rw [e1, Nat.mul_comm H, Nat.add_comm (a.getD (i + m) 0)]
    rfl
  exact guess_ge eb eV (hv_take_lt (h.da.drop i) m) hbt
theorem DivI.round (hb : D32 bs) (hbt : 0 < bs.getD (bs.length - 1) 0) (h : DivI A (hv bs) bs.length a q (i + 1)) {rest : List Nat} (hr : D32 rest) (hl : rest.length = bs.length + 1)
    (hv' : hv rest = hv (a.drop i) - hv bs * (hv (a.drop i) / hv bs)) : DivI A (hv bs) bs.length (spl a rest i (bs.length + 1)) (q.set i (hv (a.drop i) / hv bs)) i := by
  obtain ⟨f1, f2, f3, f4, f5⟩ := h.facts hb hbt
  have hz := h.past hb
  have hbp : 0 < hv bs := by
    have := h.top; omega
  have hiq : i < q.length := by have := h.le; omega
  have l1 : (a.take i).length = i := by simp; omega
  have hrl : rest.take (bs.length + 1) = rest := List.take_of_length_le (by omega)
  have hdr : hv ((spl a rest i (bs.length + 1)).drop i) = hv rest := by
    unfold spl
    rw [hrl, List.drop_append, l1, Nat.sub_self, List.drop_zero, List.drop_eq_nil_of_le (by omega), List.nil_append]
    show valb H (rest ++ a.drop (i + (bs.length + 1))) = _
    rw [valb_append, show valb H (a.drop (i + (bs.length + 1))) = 0 from hz]; simp
  refine ⟨spl_d32 h.da hr, h.dq.set i f1, ?_, ?_, ?_, ?_, ?_⟩
  · rw [List.length_set, spl_len f5 (by omega)]; exact h.lq
  · rw [List.length_set]; omega
  · have e1 : hv (q.set i (hv (a.drop i) / hv bs)) = hv q + H ^ i * (hv (a.drop i) / hv bs) := by
      have := valb_set H q i (hv (a.drop i) / hv bs) hiq
      rw [h.zero i (by omega), Nat.mul_zero, Nat.add_zero] at this
      exact this
    have e2 : hv (spl a rest i (bs.length + 1)) = hv (a.take i) + H ^ i * hv rest := by
      have := valb_split H (spl a rest i (bs.length + 1)) i
      rw [show valb H ((spl a rest i (bs.length + 1)).drop i) = hv rest from hdr] at this
      rw [show hv (spl a rest i (bs.length + 1)) = _ from this]
      congr 1
      unfold spl
      rw [List.take_append, l1, Nat.sub_self, List.take_zero, List.append_nil, List.take_of_length_le (by omega)]
    have e3 : hv a = hv (a.take i) + H ^ i * hv (a.drop i) := valb_split H a i
    have e4 : hv bs * (hv (a.drop i) / hv bs) ≤ hv (a.drop i) := Nat.mul_div_le _ _
    have hs := h.sum
    rw [e3] at hs
    rw [e1, e2, hv', ← hs]
    generalize hv (a.drop i) / hv bs = d at *
    generalize hv (a.drop i) = V at *
    generalize hv bs = b at *
    obtain ⟨r, rfl⟩ : ∃ r, V = b * d + r := ⟨V - b * d, by omega⟩
    rw [Nat.add_sub_cancel_left, Nat.add_mul, Nat.mul_add, Nat.mul_assoc (H ^ i) d b, Nat.mul_comm d b]
    omega
  · intro j hj
    rw [getD_set q i j _ hiq, if_neg (by omega)]
    exact h.zero j (by omega)
  · rw [hdr, hv']
    have := Nat.mod_lt (hv (a.drop i)) hbp
    rw [Nat.mod_eq_sub_mul_div] at this
    exact this
/-- When all digits are found. -/
theorem DivI.done (h : DivI A (hv bs) bs.length a q 0) : hv q = A / hv bs ∧ hv a = A % hv bs := by
  have h1 := h.sum
  have h2 := h.top
  rw [List.drop_zero] at h2
  have hb : 0 < hv bs := by omega
  rw [← h1]
  constructor
  · rw [Nat.mul_comm, Nat.mul_add_div hb, Nat.div_eq_of_lt h2, Nat.add_zero]
  · rw [Nat.mul_comm, Nat.mul_add_mod, Nat.mod_eq_of_lt h2]
end
end Go.Proofs.Ythbnkhgcfcigjaa
namespace Go.Proofs.Ythbnkhgcfcigjaa
open Go.RowKit

/-! ### a row of the call's own, written -/
structure Ro (w : World) (g : Nat) (xs : List Nat) : Prop where
  h : ∃ cur : Array Value, w.heap[g]? = some (.cells cur 22 (0, 0)) ∧ cur.toList.take xs.length = enc xs
  w64 : W64 xs
section
variable {w w' : World} {g : Nat} {xs : List Nat}
theorem Ro.lt (b : Ro w g xs) : g < w.heap.size := by
  obtain ⟨cur, h, -⟩ := b.h
  exact (Array.getElem?_eq_some_iff.1 h).1
theorem Ro.cell (b : Ro w g xs) (i : Nat) (hi : i < xs.length) : w.cell? ⟨g, i, none⟩ = some (.int .u64 (xs.getD i 0 : Nat)) := by
  obtain ⟨cur, hh, h4⟩ := b.h
  rw [cell_of_row w g i _ _ _ hh]
  have e := enc_get xs i hi
  rw [← h4, List.getElem?_take_of_lt (by omega)] at e
  simpa using e
theorem Ro.frozen (b : Ro w g xs) (i : Nat) : w.frozen? ⟨g, i, none⟩ = false := by
  obtain ⟨cur, hh, -⟩ := b.h
  simp [World.frozen?, hh]
theorem Ro.ext (b : Ro w g xs) (h : Ext w w') : Ro w' g xs := by
  have hl := b.lt
  obtain ⟨cur, hh, h4⟩ := b.h
  exact ⟨⟨cur, (h.block g hl).trans hh, h4⟩, b.w64⟩
theorem Ro.drewN (b : Ro w g xs) (n : Nat) : Ro (w.drewN n) g xs := ⟨b.h, b.w64⟩
theorem Ro.set (b : Ro w g xs) (i v : Nat) (hi : i < xs.length) (hv : v < B) : Ro (w.setCell ⟨g, i, none⟩ (.int .u64 (v : Int))) g (xs.set i v) := by
  obtain ⟨cur, hh, h4⟩ := b.h
  refine ⟨⟨cur.setIfInBounds i (.int .u64 (v : Int)), by simp [World.setCell, Array.getElem?_modify, hh], ?_⟩, b.w64.set i hv⟩
  rw [List.length_set, Array.toList_setIfInBounds, List.take_set, h4]
  simp [enc, List.map_set]
theorem Ro.far (b : Ro w g xs) {p : Addr} (hp : g ≠ p.block) (u : Value) : Ro (w.setCell p u) g xs := by
  obtain ⟨cur, hh, h4⟩ := b.h
  exact ⟨⟨cur, (Below.heap_setCell w p u g hp).trans hh, h4⟩, b.w64⟩
theorem Ro.rd (b : Ro w g xs) (hl : xs.length ≤ 9223372036854775807) {c : Nat} (hc : xs.length ≤ c) : Rd w (some ⟨g, 0, none⟩) c xs :=
  ⟨hc, hl, b.w64, fun i hi => ⟨_, rfl, by rw [add_zero']; exact b.cell i hi⟩⟩
end
theorem Own.ro {w : World} {base : Nat} {v : Value} {xs : List Nat} (h : Own w base v xs) (hp : 0 < xs.length) : ∃ g c, v = .slice (some ⟨g, 0, none⟩) xs.length c ∧ base ≤ g ∧ xs.length ≤ c ∧ Ro w g xs := by
  obtain ⟨h0, h1⟩ := h.own
  rcases h1 with ⟨rfl, hn⟩ | ⟨g, cap, cur, rfl, hb, hh, h1, h2, h3, h4⟩
  · omega
  · exact ⟨g, cap, rfl, hb, h1, ⟨⟨cur, hh, by rwa [Nat.mul_one] at h4⟩, h.w64⟩⟩
theorem Rd.far {w : World} {A : Option Addr} {c : Nat} {xs : List Nat} (h : Rd w A c xs) {p : Addr} (hp : ∀ a, A = some a → a.block ≠ p.block) (u : Value) : Rd (w.setCell p u) A c xs := by
  refine ⟨h.cap, h.len, h.w64, fun i hi => ?_⟩
  obtain ⟨ad, e, hc⟩ := h.cell i hi
  refine ⟨ad, e, ?_⟩
  have hb : (ad.add i).block = ad.block := by unfold Addr.add; split <;> rfl
  rw [← hc]
  exact World.cell?_of_block (w := w) (by rw [hb]; exact Below.heap_setCell w p u _ (hp ad e))
theorem Own.rdAt' {w : World} {base : Nat} {A : Option Addr} {c : Nat} {xs : List Nat} (h : Own w base (.slice A xs.length c) xs) : Rd w A c xs := by
  obtain ⟨A1, c1, e, hr⟩ := h.rd
  injection e with e1 e2 e3
  subst e1 e3
  exact hr
/-- The block of a row in new memory. -/
theorem Own.at {w : World} {base : Nat} {A : Option Addr} {n c : Nat} {xs : List Nat} (h : Own w base (.slice A n c) xs) : ∀ a, A = some a → base ≤ a.block ∧ a.block < w.heap.size := by
  obtain ⟨h0, h1⟩ := h.own
  rcases h1 with ⟨e, hn⟩ | ⟨g, cap, cur, e, hb, hh, -⟩
  · injection e with e1 e2 e3
    subst e1
    simp
  · injection e with e1 e2 e3
    subst e1
    intro a ha
    obtain rfl := Option.some.inj ha
    exact ⟨hb, (Array.getElem?_eq_some_iff.1 hh).1⟩

theorem Own.one' (w : World) (x : Nat) (hx : x < B) : Own (w.alloc (.cells #[.int .u64 (x : Int)] 22)) w.heap.size (.slice (some ⟨w.heap.size, 0, none⟩) 1 1) [x] :=
  Bk.own (xs := [x]) ⟨heap_alloc_new w _, W64.cons hx W64.nil⟩ (Nat.le_refl _) (by simp)

/-! ### down, digit by digit -/
structure DownI (a : List Nat) (s i rest : Nat) (d : List Nat) : Prop where
  dd : D32 d
  len : d.length = a.length
  le : i ≤ a.length
  lt : rest < s
  zero : ∀ j, j < i → d.getD j 0 = 0
  sum : hv d * s + H ^ i * rest = H ^ i * hv (a.drop i)
theorem DownI.start (a : List Nat) {s : Nat} (hs : 0 < s) : DownI a s a.length 0 (List.replicate a.length 0) :=
  ⟨D32.zeros _, by simp, Nat.le_refl _, hs, fun j _ => getD_replicate _ _, by rw [show hv (List.replicate a.length 0) = 0 from valb_zeros _ _, List.drop_length]; simp [valb]⟩
theorem DownI.fits {a : List Nat} {s i rest : Nat} {d : List Nat} (h : DownI a s (i + 1) rest d) (ha : D32 a) (hs : s ≤ H) : rest * H + a.getD i 0 < B ∧ (rest * H + a.getD i 0) / s < H ∧ rest * H < B := by
  have h1 := h.lt
  have h2 := ha.get i
  have h3 : (rest + 1) * H ≤ s * H := Nat.mul_le_mul_right _ h1
  have h4 : s * H ≤ H * H := Nat.mul_le_mul_right _ hs
  rw [Nat.add_mul, Nat.one_mul] at h3
  rw [HH]
  refine ⟨by omega, Nat.div_lt_of_lt_mul (by omega), by omega⟩
theorem DownI.step {a : List Nat} {s i rest : Nat} {d : List Nat} (h : DownI a s (i + 1) rest d) (ha : D32 a) (hs : s ≤ H) : DownI a s i ((rest * H + a.getD i 0) % s) (d.set i ((rest * H + a.getD i 0) / s)) := by
  have hp : 0 < s := Nat.lt_of_le_of_lt (Nat.zero_le _) h.lt
  have hl := h.le
  have hld := h.len
  refine ⟨h.dd.set i (h.fits ha hs).2.1, by rw [List.length_set]; exact hld, by omega, Nat.mod_lt _ hp, fun j hj => ?_, ?_⟩
  · rw [getD_set d i j _ (by omega), if_neg (by omega)]
    exact h.zero j (by omega)
  · rw [down_step (rest := rest) (x := a.getD i 0) (V := H ^ (i + 1) * hv (a.drop (i + 1))) (by omega) hp rfl (h.zero i (by omega)) h.sum, show hv (a.drop i) = _ from valb_drop_step H a i, Nat.mul_add, ← Nat.mul_assoc, ← Nat.pow_succ]
    exact Nat.add_comm _ _
theorem DownI.done {a : List Nat} {s rest : Nat} {d : List Nat} (h : DownI a s 0 rest d) : hv d = hv a / s ∧ rest = hv a % s := by
  have h1 := h.sum
  have h2 := h.lt
  have hp : 0 < s := by omega
  rw [Nat.pow_zero, Nat.one_mul, Nat.one_mul, List.drop_zero] at h1
  rw [← h1]
  constructor
  · rw [Nat.mul_comm, Nat.mul_add_div hp, Nat.div_eq_of_lt h2, Nat.add_zero]
  · rw [Nat.mul_comm, Nat.mul_add_mod, Nat.mod_eq_of_lt h2]
/-- What a division hands back. -/
def DivR (w : World) (m q r : Nat) (e : Ending) (w' : World) : Prop :=
  ∃ v1 v2 o1 o2, e = .returned (.tuple #[v1, v2]) ∧ D32 o1 ∧ D32 o2 ∧ hv o1 = q ∧ hv o2 = r ∧ o1.length ≤ m ∧ o2.length ≤ m ∧ Own w' w.heap.size v1 o1 ∧ Own w' w.heap.size v2 o2 ∧ Ext w w'
set_option maxHeartbeats 1000000 in
set_option maxRecDepth 100000 in
theorem rone1_c (A : Option Addr) (c : Nat) (X : List Nat) (b : Nat) (w : World) (h : Rd w A c X) (hX : D32 X) (hs : X.length ≤ 400000000) (hb : 0 < b) (hbH : b < H) :
    Calls Try.prog 113 #[.slice A X.length c, .int .u64 (b : Int)] w (DivR w (X.length + 2) (hv X / b) (hv X % b)) := by
  have hb0 : ((b : Int) == 0) = false := by rw [beq_eq_false_iff_ne]; omega
  have hb1 : ¬ ((b : Int) = 0) := by omega
  go_enter Try.func113, Try.ntmps113
  go_wp2_with (at_make; refine wp_make rfl _ _ _ rfl Try.underlying30 X.length _ rfl rfl rfl (by omega) ?_; intro g w1 hg hbk hb1)
  have HBK := Lib.hid hbk
  have HB1 := Lib.hid hb1
  have HG := Lib.hid hg
  clear hbk hb1 hg
  go_loopw [7, 8] (fun v7 v8 wr => ∃ (i rest : Nat) (d : List Nat), v8 = .int .i64 ((i : Int) - 1) ∧ v7 = .int .u64 rest ∧ Bk wr g d ∧ DownI X b i rest d ∧ Ext w wr) (fun _ v _ => (intOf v + 1).toNat)
  case atStart => exact ⟨X.length, 0, _, rfl, rfl, HBK.out, DownI.start X hb, HB1.out⟩
  case round =>
    clear HBK HB1
    obtain ⟨i, rest, d, rfl, rfl, hbk, hI, hE⟩ := hrel
    have hle := hI.le
    rcases Nat.eq_zero_or_pos i with rfl | h0
    · obtain ⟨e1, e2⟩ := hI.done
      have hlen := hI.len
      have hrB : rest < H := Nat.lt_trans hI.lt hbH
      have HD := Lib.hid (show D32 d ∧ hv d = hv X / b ∧ rest = hv X % b from ⟨hI.dd, e1, e2⟩)
      have hown := hbk.own HG.out (by rw [hlen]; omega)
      have ho2 := Own.one' wr rest (Nat.lt_trans hrB H_lt_B)
      have HL := Lib.hid hlen
      rw [hlen] at hown
      clear e1 e2 hlen
      go_wp2
      go_ret2
      have hdr : D32 [rest] := D32.cons hrB D32.nil
      refine ⟨_, _, d, [rest], rfl, HD.out.1, hdr, HD.out.2.1, by rw [← HD.out.2.2]; simp [valb], by rw [HL.out]; omega, by simp, hown.ext ((Ext.refl _).al _), ho2.low hE.size, hE.al _⟩
    · obtain ⟨ad, rfl, hcell⟩ := h.cell (i - 1) (by omega)
      obtain ⟨j, hj⟩ : ∃ j, i = j + 1 := ⟨i - 1, by omega⟩
      subst hj
      have e1 : ((j + 1 : Nat) : Int) - 1 = (j : Int) := by omega
      rw [show j + 1 - 1 = j by omega] at hcell
      have hlen := hI.len
      have hblk : ad.block < w.heap.size := by
        have := World.block_lt_of_cell? w _ hcell
        have e : (ad.add j).block = ad.block := by unfold Addr.add; split <;> rfl
        rwa [e] at this
      have hne : ¬ ad.block = g := by have := HG.out; omega
      have hne2 : ¬ g = ad.block := by have := HG.out; omega
      have hx1 := hE.cell hcell
      have hcell2 := hbk.cell j (by omega)
      have hfz := hbk.frozen j
      obtain ⟨f1, f2, f3⟩ := hI.fits hX (by omega)
      have hstep := hI.step hX (by omega)
      obtain ⟨x, hxx⟩ : ∃ x, X.getD j 0 = x := ⟨_, rfl⟩
      rw [hxx] at hcell hx1 f1 f2 hstep
      generalize d.getD j 0 = ov at hcell2
      obtain ⟨m, hm⟩ : ∃ m, rest * H = m := ⟨_, rfl⟩
      rw [hm] at f1 f2 f3 hstep
      obtain ⟨t, ht⟩ : ∃ t, m + x = t := ⟨_, rfl⟩
      rw [ht] at f1 f2 hstep
      obtain ⟨q, hq⟩ : ∃ q, t / b = q := ⟨_, rfl⟩
      obtain ⟨r, hr⟩ : ∃ r, t % b = r := ⟨_, rfl⟩
      rw [hq] at f2 hstep
      rw [hr] at hstep
      rw [B_eq] at f1 f3
      have i1 : IntKind.u64.wrap ((rest : Int) * 4294967296) = (m : Int) := by
        rw [IntKind.wrap_u64, ← hm, H_eq] at *; omega
      have i2 : IntKind.u64.wrap ((m : Int) + (x : Int)) = (t : Int) := by rw [IntKind.wrap_u64]; omega
      have i3 : (t : Int).tdiv (b : Int) = (q : Int) := by rw [Int.tdiv_eq_ediv_of_nonneg (by omega), ← hq]; exact (Int.natCast_ediv t b).symm
      have i4 : (t : Int).tmod (b : Int) = (r : Int) := by rw [Int.tmod_eq_emod_of_nonneg (by omega), ← hr]; exact (Int.natCast_emod t b).symm
      have i5 : (t : Int) / (b : Int) = (q : Int) := by rw [← hq]; exact (Int.natCast_ediv t b).symm
      have i6 : (t : Int) % (b : Int) = (r : Int) := by rw [← hr]; exact (Int.natCast_emod t b).symm
      have hrb : r < b := by rw [← hr]; exact Nat.mod_lt _ hb
      rw [H_eq] at f2 hbH
      have i7 : IntKind.u64.wrap (q : Int) = q := by rw [IntKind.wrap_u64]; omega
      have i8 : IntKind.u64.wrap (r : Int) = r := by rw [IntKind.wrap_u64]; omega
      have hb2 := hbk.set j q (by rw [B_eq]; omega)
      have HST := Lib.hid hstep
      have HE := Lib.hid (hE.set HG.out j (.int .u64 (q : Int)))
      have HB2 := Lib.hid hb2
      rw [e1]
      clear hstep hxx hbk hE hI hq hr ht hm hb2
      go_wp2
      go_roundw
      case rel => exact ⟨j, r, _, rfl, rfl, HB2.out, HST.out, HE.out⟩
      case measure => simp [intOf]
end Go.Proofs.Ythbnkhgcfcigjaa
namespace Go.Proofs.Ythbnkhgcfcigjaa
open Go.RowKit

theorem topN_pos {b : Nat} {xs : List Nat} (h : 0 < valb b xs) : 0 < topN xs := by
  rcases Nat.eq_zero_or_pos (topN xs) with h0 | h0
  · have := valb_eq_take_topN b xs
    rw [h0] at this
    simp [valb] at this
    omega
  · exact h0
theorem topN_val {xs : List Nat} (h : 0 < topN xs) : H ^ (topN xs - 1) ≤ hv xs := by
  have h8 := valb_take H xs (topN xs - 1) (by have := topN_le xs; omega)
  rw [show topN xs - 1 + 1 = topN xs by omega] at h8
  have h6 := topN_last xs h
  have : H ^ (topN xs - 1) * 1 ≤ H ^ (topN xs - 1) * xs.getD (topN xs - 1) 0 := Nat.mul_le_mul_left _ (by omega)
  rw [show hv xs = valb H xs from rfl, valb_eq_take_topN H xs, h8]
  omega
/-- The digits that Short leaves. -/
theorem short_facts {xs : List Nat} (hd : D32 xs) (hp : 0 < hv xs) : ∃ zs, zs = xs.take (topN xs) ∧ zs.length = topN xs ∧ D32 zs ∧ hv zs = hv xs ∧ 0 < zs.length ∧ 0 < zs.getD (zs.length - 1) 0 ∧ H ^ (zs.length - 1) ≤ hv zs := by
  have h0 := topN_pos hp
  have hl : (xs.take (topN xs)).length = topN xs := by rw [List.length_take, Nat.min_eq_left (topN_le xs)]
  have hv' : hv (xs.take (topN xs)) = hv xs := (valb_eq_take_topN H xs).symm
  refine ⟨_, rfl, hl, hd.take _, hv', by omega, ?_, ?_⟩
  · rw [hl, List.getD_eq_getElem?_getD, List.getElem?_take_of_lt (by omega), ← List.getD_eq_getElem?_getD]
    have := topN_last xs h0
    omega
  · rw [hl, hv']
    exact topN_val h0
/-- The division begins. -/
theorem DivI.start {bs o : List Nat} {A : Nat} (hb : H ^ (bs.length - 1) ≤ hv bs) (hbl : 0 < bs.length) (hd : D32 o) (ho : hv o = A) : DivI A (hv bs) bs.length (o ++ [0]) (List.replicate (o.length + 1 - bs.length) 0) (o.length + 1 - bs.length) := by
  have hz : ∀ k, hv ((o ++ [0]).drop k) = hv (o.drop k) := fun k => by
    rcases Nat.lt_or_ge o.length k with h | h
    · rw [List.drop_eq_nil_of_le (by simp; omega), List.drop_eq_nil_of_le (by omega)]
    · rw [List.drop_append_of_le_length h]
      show valb H (_ ++ [0]) = _
      rw [valb_append]; simp [valb]
  refine ⟨hd.snoc H_pos, D32.zeros _, by simp, by simp, ?_, fun j _ => getD_replicate _ _, ?_⟩
  · rw [show hv (List.replicate (o.length + 1 - bs.length) 0) = 0 from valb_zeros _ _, Nat.zero_mul, Nat.zero_add]
    have := hz 0
    rw [List.drop_zero, List.drop_zero] at this
    rw [this, ho]
  · rw [hz]
    refine Nat.lt_of_lt_of_le (hv_lt (hd.drop _)) (Nat.le_trans (Nat.pow_le_pow_right H_pos ?_) hb)
    rw [List.length_drop]
    omega
set_option maxHeartbeats 4000000 in
set_option maxRecDepth 100000 in
theorem rdivide_c (A A' : Option Addr) (c c' : Nat) (X Y : List Nat) (w : World) (h : Rd w A c X) (h' : Rd w A' c' Y) (hX : D32 X) (hY : D32 Y) (hp : 0 < hv Y) (hs : X.length ≤ 100000000) (hs' : Y.length ≤ 100000000) :
    Calls Try.prog 109 #[.slice A X.length c, .slice A' Y.length c'] w (DivR w (X.length + 2) (hv X / hv Y) (hv X % hv Y)) := by
  have hsr := rshort_c A' c' Y w h'
  obtain ⟨Z, hZ, zl, zd, zv, zp, zt, zb⟩ := short_facts hY hp
  have hrz : Rd w A' c' Z := by rw [hZ]; exact h'.take _ (topN_le Y) (Nat.le_trans (topN_le Y) h'.cap)
  have hzl : Z.length ≤ 100000000 := by rw [zl]; exact Nat.le_trans (topN_le Y) hs'
  rw [← zl] at hsr
  rw [← zv]
  clear hZ zl zv h' hY hp hs'
  obtain ⟨ad, rfl⟩ := hrz.addr zp
  have hbt := hrz.get (Z.length - 1) (by omega)
  have htH := zd.get (Z.length - 1)
  obtain ⟨t, ht⟩ : ∃ t, Z.getD (Z.length - 1) 0 = t := ⟨_, rfl⟩
  rw [ht] at hbt htH zt
  by_cases h1 : Z.length = 1
  · -- one digit
    have hz1 : hv Z = t := by
      obtain ⟨z, rfl⟩ : ∃ z, Z = [z] := by
        match Z, h1 with
        | [z], _ => exact ⟨z, rfl⟩
      simp at ht
      simp [valb, ht]
    have hon := fun w h => rone1_c A c X t w h hX (by omega) zt htH
    rw [hz1]
    rw [h1] at hsr hbt
    have hbt0 : w.cell? ad = some (.int .u64 (t : Int)) := hbt
    clear hz1 hbt ht zb zp hzl h1
    go_enter Try.func109, Try.ntmps109
    go_wp2_with fail
    refine hsr.mono ?_
    rintro z w1 ⟨rfl, n, rfl⟩
    go_wp2_with fail
    refine (hon _ (h.drewN n)).mono ?_
    rintro z w2 ⟨v1, v2, o1, o2, rfl, d1, d2, q1, q2, l1, l2, ho1, ho2, hb⟩
    go_wp2
    go_ret2
    exact ⟨_, _, o1, o2, rfl, d1, d2, q1, q2, l1, l2, ho1, ho2, ((Ext.refl w).drewN n).tr hb⟩
  have h1' : ((Z.length : Int) == 1) = false := by rw [beq_eq_false_iff_ne]; omega
  have hzl2 : 2 ≤ Z.length := by omega
  obtain ⟨L, hL⟩ : ∃ L, Z.length = L + 1 := ⟨Z.length - 1, by omega⟩
  have hLb : L ≤ 100000000 := by omega
  go_enter Try.func109, Try.ntmps109
  go_wp2_with fail
  refine hsr.mono ?_
  rintro z w1 ⟨rfl, n0, rfl⟩
  have HZB := Lib.hid zb
  have HT := Lib.hid ht
  have HL := Lib.hid hL
  rw [hL] at hbt h1' ⊢
  rw [show L + 1 - 1 = L by omega] at hbt
  clear zb ht hsr hL h1
  go_wp2
  go_loopw [6] (fun v6 wr => ∃ s m : Nat, v6 = .int .u64 s ∧ 0 < s ∧ t * s < H ∧ wr = w.drewN m) (fun v _ => H - (intOf v).toNat)
  case atStart => exact ⟨1, n0, rfl, by omega, by rw [Nat.mul_one]; exact htH, rfl⟩
  case round =>
    obtain ⟨s, m, rfl, hs0, hts, rfl⟩ := hrel
    obtain ⟨u, hu⟩ : ∃ u, t * s = u := ⟨_, rfl⟩
    rw [hu] at hts
    have hsu : s ≤ u := by rw [← hu]; exact Nat.le_mul_of_pos_left s zt
    have hsH : s < H := Nat.lt_of_le_of_lt hsu hts
    rw [H_eq] at hts
    have i1 : IntKind.u64.wrap ((t : Int) * (s : Int)) = (u : Int) := by rw [IntKind.wrap_u64, ← Int.natCast_mul, hu]; omega
    by_cases hlt : u < 2147483648
    · have hd : decide ((u : Int) < 2147483648) = true := by rw [decide_eq_true_iff]; omega
      have HU := Lib.hid (show 0 < 2 * s ∧ t * (2 * s) < H ∧ s < H from ⟨by omega, by rw [← Nat.mul_assoc, Nat.mul_comm t 2, Nat.mul_assoc, hu, H_eq]; omega, hsH⟩)
      clear hu
      go_wp2
      go_roundw
      case rel => exact ⟨2 * s, _, by congr 1, HU.out.1, HU.out.2.1, rfl⟩
      case measure => have := HU.out.2.2; simp [intOf]; omega
    have hd : decide ((u : Int) < 2147483648) = false := by rw [decide_eq_false_iff_not]; omega
    have hds : D32 [s] := D32.cons hsH D32.nil
    have hsB : s < B := Nat.lt_trans hsH H_lt_B
    have hsv : hv [s] = s := by simp [valb]
    have HSV := Lib.hid hsv
    have HU := Lib.hid hu
    clear hu hsv
    have hE0 := (Ext.refl w).drewN m
    have hA1 := hE0.al (.cells #[.int .u64 (s : Int)] 22)
    go_wp2_with fail
    refine (rtimes_c A _ c 1 X [s] _ (h.ext hA1) (Rd.new1 _ s hsB) hX hds (by omega) (by simp)).mono ?_
    rintro z w1 ⟨v1, o, rfl, hol, hod, hov, ho1, hb1⟩
    rw [HSV.out] at hov
    have hE1 := hA1.tr hb1
    have ho1' := (ho1.low (b := w.heap.size) hA1.size).ext ((Ext.refl w1).al (.cells #[.int .u64 0] 22))
    have hol2 : o.length ≤ 100000001 := by rw [hol]; simp; omega
    have HOL := Lib.hid hol
    clear hol ho1
    go_wp2_with (at_builtin; refine wp_append rfl _ _ _ rfl Try.underlying30 w.heap.size _ o rfl ho1' (some ⟨w1.heap.size, 0, none⟩) 1 1 [0] rfl rfl (Rd.new1 w1 0 B_pos) ?hb ?hl ?_; (case hb => have := hE1.size; simp; omega); (case hl => simp; omega); intro v' w2 ho2 hb2 hat hg2; have hE2 : Ext w w2 := (hE1.al (.cells #[.int .u64 0] 22)).trans hb2; clear hat hg2; obtain ⟨ga, ca, rfl, hga, hca, hRo⟩ := ho2.ro (by simp); obtain ⟨P, hP⟩ : ∃ P, o ++ [0] = P := ⟨_, rfl⟩; rw [hP] at hca hRo ⊢; clear ho2 hb2)
    have hA3 := (Ext.refl w2).al (.cells #[.int .u64 (s : Int)] 22)
    have hz3 := rtimes_c (some ad) (some ⟨w2.heap.size, 0, none⟩) c' 1 Z [s] _ (hrz.ext (hE2.tr hA3)) (Rd.new1 w2 s hsB) zd hds (by omega) (by simp)
    rw [HL.out, HSV.out] at hz3
    refine hz3.mono ?_
    rintro z w3 ⟨v3, p3, rfl, hpl, hpd, hpv, ho3, hb3⟩
    obtain ⟨A3, c3, rfl, hr3⟩ := ho3.rd
    have hzp : 0 < hv Z := Nat.lt_of_lt_of_le (Nat.pow_pos H_pos) HZB.out
    obtain ⟨bs, hbs, bl, bd, bv, bp, bt0, bb⟩ := short_facts hpd (by rw [hpv]; exact Nat.mul_pos hzp hs0)
    have hrb : Rd w3 A3 c3 bs := by rw [hbs]; exact hr3.take _ (topN_le p3) (Nat.le_trans (topN_le p3) hr3.cap)
    have hbl2 : bs.length ≤ 100000002 := by rw [bl]; refine Nat.le_trans (topN_le p3) ?_; rw [hpl]; simp; omega
    have hsr3 := rshort_c A3 c3 p3 w3 hr3
    rw [← bl] at hsr3
    obtain ⟨adb, rfl⟩ := hrb.addr bp
    have hat := ho3.at _ rfl
    rw [World.size_alloc] at hat
    have hga2 := hRo.lt
    have hbne : ga < adb.block := by omega
    have hbw3 : adb.block < w3.heap.size := hat.2
    have hE3 := hE2.tr (hA3.tr hb3)
    have hRo3 := hRo.ext (hA3.tr hb3)
    have hDV := DivI.start bb bp hod hov
    rw [hP] at hDV
    have hPl : P.length = o.length + 1 := by rw [← hP]; simp
    have hPl2 : P.length ≤ 100000002 := by omega
    rw [← hPl] at hDV
    have HPL := Lib.hid hPl
    have HBV := Lib.hid (show hv bs = hv Z * s from bv.trans hpv)
    have HP2 := Lib.hid (show P.length = X.length + 2 by rw [hPl, HOL.out]; simp)
    clear hbs bl hpl hpv bv hpd ho3 hr3 hP hPl hat hz3 hod hov ho1' hol2 hzp hga2 bb
    obtain ⟨mq, hmq⟩ : ∃ mq, P.length - bs.length = mq := ⟨_, rfl⟩
    rw [hmq] at hDV
    have j1 : max (0 : Int) ((P.length : Int) - (bs.length : Int)) = (mq : Int) := by omega
    have hmq2 : mq ≤ 100000002 := by omega
    obtain ⟨I0, hI0⟩ : ∃ I0 : Int, (P.length : Int) - (bs.length : Int) - 1 = I0 := ⟨_, rfl⟩
    have hIa : mq = 0 → I0 < 0 := by omega
    have hIb : 0 < mq → I0 = (mq : Int) - 1 := by omega
    have HI := Lib.hid (And.intro hIa hIb)
    have HMQ := Lib.hid hmq
    clear hIa hIb hmq
    have HDV := Lib.hid hDV
    clear hDV
    go_wp2_with fail
    refine hsr3.mono ?_
    rintro z w4 ⟨rfl, n4, rfl⟩
    go_wp2_with (at_make; refine wp_make rfl _ _ _ rfl Try.underlying30 mq _ rfl rfl rfl (by omega) ?_; intro gq w5 hgq hbk hb5)
    have hn4 := (Ext.refl w3).drewN n4
    have hE5 := hE3.tr (hn4.tr hb5)
    have hRo5 := hRo3.ext (hn4.tr hb5)
    have hrb5 := hrb.ext (hn4.tr hb5)
    have hgq' : adb.block < gq := by have := hn4.size; omega
    have HB5 := Lib.hid (And.intro hE5 (And.intro hRo5 (And.intro hrb5 hbk)))
    have HG := Lib.hid (show w.heap.size ≤ ga ∧ w.heap.size ≤ gq from ⟨hga, by have := hE3.size; have := hn4.size; omega⟩)
    have hne1 : ¬ ga = gq := by omega
    have hne2 : ¬ gq = ga := by omega
    have hne3 : ¬ adb.block = ga := by omega
    have hne4 : ¬ adb.block = gq := by omega
    clear hE5 hRo5 hrb5 hbk hRo3 hRo hrb hn4 hb5 hb3 hA3 hE3 hE2 hE1 hA1 hE0 hgq hbw3 hga hbne hgq' hb1
    go_loopw [9] (fun v9 wr => ∃ (i : Nat) (I : Int) (a q : List Nat), v9 = .int .i64 I ∧ (i = 0 → I < 0) ∧ (0 < i → I = (i : Int) - 1) ∧ DivI (hv X * s) (hv bs) bs.length a q i ∧ a.length = P.length ∧ Ro wr ga a ∧ Bk wr gq q ∧ Rd wr (some adb) c3 bs ∧ Ext w wr) (fun v _ => (intOf v + 1).toNat)
    case atStart => exact ⟨mq, I0, P, _, rfl, HI.out.1, HI.out.2, HDV.out, rfl, HB5.out.2.1, HB5.out.2.2.2, HB5.out.2.2.1, HB5.out.1⟩
    case round =>
      clear HB5 HDV HI
      obtain ⟨i, I, a, q, rfl, hi0, hi1, hI, hal, hRo, hBk, hRb, hE⟩ := hrel
      rcases Nat.eq_zero_or_pos i with rfl | hpos
      · have hIneg := hi0 rfl
        obtain ⟨e1, e2⟩ := hI.done
        rw [HBV.out] at e1 e2
        rw [Nat.mul_div_mul_right _ _ hs0] at e1
        rw [Nat.mul_mod_mul_right] at e2
        have hql : q.length = mq := by have h1 := hI.lq; have h3 := HMQ.out; omega
        have hra := hRo.rd (by omega) (c := ca) (by rw [hal]; exact hca)
        have hsh := rshort_c (some ⟨ga, 0, none⟩) ca a wr hra
        have hrR0 := hra.take _ (topN_le a) (Nat.le_trans (topN_le a) hra.cap)
        have hdR0 := hI.da.take (topN a)
        have hvR0 : hv (a.take (topN a)) = hv X % hv Z * s := by rw [← e2]; exact (valb_eq_take_topN H a).symm
        have hlR0 : (a.take (topN a)).length = topN a := by rw [List.length_take, Nat.min_eq_left (topN_le a)]
        have hlR1 : (a.take (topN a)).length ≤ P.length := by rw [hlR0, ← hal]; exact topN_le a
        rw [hal, ← hlR0] at hsh
        obtain ⟨R, hR⟩ : ∃ R, a.take (topN a) = R := ⟨_, rfl⟩
        rw [hR] at hsh hrR0 hdR0 hvR0 hlR1
        have HQ := Lib.hid (show D32 q ∧ hv q = hv X / hv Z ∧ q.length = mq ∧ hv R = hv X % hv Z * s from ⟨hI.dq, e1, hql, hvR0⟩)
        have HBK := Lib.hid hBk
        have HEX := Lib.hid hE
        clear e1 e2 hql hvR0 hlR0 hR hBk hE hi0 hi1 hI hal hra hRo hRb
        generalize wr = w6 at *
        have hdI : decide ((0 : Int) ≤ I) = false := by rw [decide_eq_false_iff_not]; omega
        go_wp2_with fail
        refine hsh.mono ?_
        rintro z w7 ⟨rfl, n7, rfl⟩
        clear hsh
        go_wp2_with (at_make; refine wp_make rfl _ _ _ rfl Try.underlying30 R.length _ rfl rfl rfl (by omega) ?_; intro gd w8 hgd hbk8 hb8)
        have HG8 := Lib.hid (show w6.heap.size ≤ gd from hgd)
        have HB8 := Lib.hid hbk8
        have HE8 := Lib.hid (((Ext.refl w6).drewN n7).tr hb8)
        clear hgd hbk8 hb8
        go_loopw [18, 19] (fun v18 v19 wr => ∃ (i rest : Nat) (d : List Nat), v19 = .int .i64 ((i : Int) - 1) ∧ v18 = .int .u64 rest ∧ Bk wr gd d ∧ DownI R s i rest d ∧ Ext w6 wr) (fun _ v _ => (intOf v + 1).toNat)
        case atStart => exact ⟨R.length, 0, _, by go_num, rfl, HB8.out, DownI.start R hs0, HE8.out⟩
        case round =>
          clear HB8 HE8
          obtain ⟨i, rest, d, rfl, rfl, hbk, hI, hE⟩ := hrel
          have hle := hI.le
          rcases Nat.eq_zero_or_pos i with rfl | h0
          · obtain ⟨e1, e2⟩ := hI.done
            have hlen := hI.len
            obtain ⟨dq, vq, lq, vr⟩ := HQ.out
            rw [vr, Nat.mul_div_cancel _ hs0] at e1
            have hq5 := HBK.out.ext hE
            have hoq := hq5.own HG.out.2 (by rw [lq]; omega)
            have hod2 := hbk.own (base := w.heap.size) (Nat.le_trans HEX.out.size HG8.out) (by rw [hlen]; omega)
            rw [lq] at hoq
            rw [hlen] at hod2
            have HR := Lib.hid (show D32 d ∧ hv d = hv X % hv Z ∧ d.length ≤ X.length + 2 ∧ q.length ≤ X.length + 2 from ⟨hI.dd, e1, by have := HP2.out; omega, by have h1 := HP2.out; have h2 := HMQ.out; omega⟩)
            have HW := Lib.hid (show D32 q ∧ hv q = hv X / hv Z from ⟨dq, vq⟩)
            have HOQ := Lib.hid hoq
            have HOD := Lib.hid hod2
            have HEE := Lib.hid (HEX.out.tr hE)
            clear e1 e2 hlen dq vq lq vr hq5 hoq hod2 hbk hI hE
            go_wp2
            go_ret2
            exact ⟨_, _, q, d, rfl, HW.out.1, HR.out.1, HW.out.2, HR.out.2.1, HR.out.2.2.2, HR.out.2.2.1, HOQ.out, HOD.out, HEE.out⟩
          · obtain ⟨j, hj⟩ : ∃ j, i = j + 1 := ⟨i - 1, by omega⟩
            subst hj
            have e1 : ((j + 1 : Nat) : Int) - 1 = (j : Int) := by omega
            have hlen := hI.len
            have hx1 := (hrR0.ext hE).get j (by omega)
            rw [add_zero'] at hx1
            have hcell2 := hbk.cell j (by omega)
            have hfz := hbk.frozen j
            obtain ⟨f1, f2, f3⟩ := hI.fits hdR0 (by omega)
            have hstep := hI.step hdR0 (by omega)
            obtain ⟨x, hxx⟩ : ∃ x, R.getD j 0 = x := ⟨_, rfl⟩
            rw [hxx] at hx1 f1 f2 hstep
            generalize d.getD j 0 = ov at hcell2
            obtain ⟨m, hm⟩ : ∃ m, rest * H = m := ⟨_, rfl⟩
            rw [hm] at f1 f2 f3 hstep
            obtain ⟨t', ht'⟩ : ∃ t', m + x = t' := ⟨_, rfl⟩
            rw [ht'] at f1 f2 hstep
            obtain ⟨q', hq'⟩ : ∃ q', t' / s = q' := ⟨_, rfl⟩
            obtain ⟨r', hr'⟩ : ∃ r', t' % s = r' := ⟨_, rfl⟩
            rw [hq'] at f2 hstep
            rw [hr'] at hstep
            rw [B_eq] at f1 f3
            have hb0 : ((s : Int) == 0) = false := by rw [beq_eq_false_iff_ne]; omega
            have hb1' : ¬ ((s : Int) = 0) := by omega
            have i1 : IntKind.u64.wrap ((rest : Int) * 4294967296) = (m : Int) := by
              rw [IntKind.wrap_u64, ← hm, H_eq] at *; omega
            have i2 : IntKind.u64.wrap ((m : Int) + (x : Int)) = (t' : Int) := by rw [IntKind.wrap_u64]; omega
            have i3 : (t' : Int).tdiv (s : Int) = (q' : Int) := by rw [Int.tdiv_eq_ediv_of_nonneg (by omega), ← hq']; exact (Int.natCast_ediv t' s).symm
            have i4 : (t' : Int).tmod (s : Int) = (r' : Int) := by rw [Int.tmod_eq_emod_of_nonneg (by omega), ← hr']; exact (Int.natCast_emod t' s).symm
            have i5 : (t' : Int) / (s : Int) = (q' : Int) := by rw [← hq']; exact (Int.natCast_ediv t' s).symm
            have i6 : (t' : Int) % (s : Int) = (r' : Int) := by rw [← hr']; exact (Int.natCast_emod t' s).symm
            have hrb : r' < s := by rw [← hr']; exact Nat.mod_lt _ hs0
            rw [H_eq] at f2
            have i7 : IntKind.u64.wrap (q' : Int) = q' := by rw [IntKind.wrap_u64]; omega
            have i8 : IntKind.u64.wrap (r' : Int) = r' := by rw [IntKind.wrap_u64]; rw [B_eq] at hsB; omega
            have hb2 := hbk.set j q' (by rw [B_eq]; omega)
            have hjl : j < d.length := by omega
            have hj2 : (j : Int) < (R.length : Int) := by omega
            have HST := Lib.hid hstep
            have HE := Lib.hid (hE.set HG8.out j (.int .u64 (q' : Int)))
            have HB2 := Lib.hid hb2
            rw [e1]
            clear hstep hxx hbk hE hI hq' hr' ht' hm hb2 hlen hjl
            go_wp2
            go_roundw
            case rel => exact ⟨j, r', _, rfl, rfl, HB2.out, HST.out, HE.out⟩
            case measure => simp [intOf]
      obtain ⟨j, rfl⟩ : ∃ j, i = j + 1 := ⟨i - 1, by omega⟩
      obtain rfl : I = (j : Int) := by rw [hi1 hpos]; omega
      clear hi0 hi1 hpos
      obtain ⟨f1, f2, f3, f4, f5⟩ := hI.facts bd bt0
      have HBT0 := Lib.hid bt0
      have HF5 := Lib.hid f5
      obtain ⟨n1, hn1⟩ : ∃ n1, j + bs.length = n1 := ⟨_, rfl⟩
      obtain ⟨n0', hn0⟩ : ∃ n0', n1 = n0' + 1 := ⟨n1 - 1, by omega⟩
      obtain ⟨nb, hnb⟩ : ∃ nb, bs.length = nb + 1 := ⟨bs.length - 1, by omega⟩
      have k1 : (j : Int) + (bs.length : Int) = (n1 : Int) := by omega
      have k2 : (n1 : Int) - 1 = (n0' : Int) := by omega
      have k3 : (bs.length : Int) - 1 = (nb : Int) := by omega
      have k4 : IntKind.i64.wrap (n1 : Int) = n1 := by rw [IntKind.wrap_i64]; omega
      have k5 : IntKind.i64.wrap (n0' : Int) = n0' := by rw [IntKind.wrap_i64]; omega
      have k6 : IntKind.i64.wrap (nb : Int) = nb := by rw [IntKind.wrap_i64]; omega
      have c1 := hRo.cell n1 (by omega)
      have c0 := hRo.cell n0' (by omega)
      have cb := hRb.get nb (by omega)
      have hx1 := hI.da.get n1
      have hx0 := hI.da.get n0'
      have hxb := bd.get nb
      rw [hn1, show n1 - 1 = n0' by omega, show bs.length - 1 = nb by omega] at f3
      rw [show bs.length - 1 = nb by omega] at bt0
      obtain ⟨x1, hxx1⟩ : ∃ x1, a.getD n1 0 = x1 := ⟨_, rfl⟩
      obtain ⟨x0, hxx0⟩ : ∃ x0, a.getD n0' 0 = x0 := ⟨_, rfl⟩
      obtain ⟨bt, hbt'⟩ : ∃ bt, bs.getD nb 0 = bt := ⟨_, rfl⟩
      rw [hxx1] at c1 hx1 f3
      rw [hxx0] at c0 hx0 f3
      rw [hbt'] at cb hxb bt0 f3
      obtain ⟨m1, hm1⟩ : ∃ m1, x1 * H = m1 := ⟨_, rfl⟩
      rw [hm1] at f3
      obtain ⟨tp, htp⟩ : ∃ tp, m1 + x0 = tp := ⟨_, rfl⟩
      rw [htp] at f3
      have b1 : x1 * H + H ≤ H * H := by
        have := Nat.mul_le_mul_right H hx1
        rwa [Nat.succ_mul] at this
      have b2 : tp < B := by rw [HH]; omega
      rw [B_eq] at b2
      obtain ⟨q0, hq0⟩ : ∃ q0, tp / bt = q0 := ⟨_, rfl⟩
      rw [hq0] at f3
      have hq0le : q0 ≤ tp := by rw [← hq0]; exact Nat.div_le_self _ _
      obtain ⟨g0, hg0⟩ : ∃ g0, min q0 (H - 1) = g0 := ⟨_, rfl⟩
      have m1' : IntKind.u64.wrap ((x1 : Int) * 4294967296) = (m1 : Int) := by
        rw [IntKind.wrap_u64, ← hm1, H_eq] at *; omega
      have m2' : IntKind.u64.wrap ((m1 : Int) + (x0 : Int)) = (tp : Int) := by rw [IntKind.wrap_u64]; omega
      have m3' : (tp : Int).tdiv (bt : Int) = (q0 : Int) := by rw [Int.tdiv_eq_ediv_of_nonneg (by omega), ← hq0]; exact (Int.natCast_ediv tp bt).symm
      have m4' : (tp : Int) / (bt : Int) = (q0 : Int) := by rw [← hq0]; exact (Int.natCast_ediv tp bt).symm
      have m5' : IntKind.u64.wrap (q0 : Int) = (q0 : Int) := by rw [IntKind.wrap_u64]; omega
      have m6' : min (q0 : Int) 4294967295 = (g0 : Int) := by rw [← hg0, H_eq]; omega
      have hb0 : ((bt : Int) == 0) = false := by rw [beq_eq_false_iff_ne]; omega
      have hb1' : ¬ ((bt : Int) = 0) := by omega
      obtain ⟨V, hV⟩ : ∃ V, hv (a.drop j) = V := ⟨_, rfl⟩
      rw [hV] at f1 f2 f3
      have hgg : V / hv bs ≤ g0 ∧ g0 < H := by have := H_pos; omega
      have HQ := Lib.hid (And.intro hgg (And.intro f1 f2))
      have HV := Lib.hid hV
      have HII := Lib.hid hI
      have HAL := Lib.hid hal
      have HN := Lib.hid (show j + bs.length = n1 ∧ n1 = n0' + 1 ∧ bs.length = nb + 1 ∧ bs.getD nb 0 = bt ∧ 0 < bt from ⟨hn1, hn0, hnb, hbt', bt0⟩)
      have HRO := Lib.hid hRo
      have HBK := Lib.hid hBk
      have HRB := Lib.hid hRb
      have HE := Lib.hid hE
      have g1 : (0 : Int) ≤ (n1 : Int) := by omega
      have g2 : (n1 : Int) < (P.length : Int) := by omega
      have g3 : (0 : Int) ≤ (n0' : Int) := by omega
      have g4 : (n0' : Int) < (P.length : Int) := by omega
      have g5 : (0 : Int) ≤ (nb : Int) := by omega
      have g6 : (nb : Int) < (bs.length : Int) := by omega
      clear hxx1 hxx0 hbt' hm1 htp hq0 hg0 hn1 hn0 hnb hV f1 f2 f3 hgg hI hal hRo hBk hRb hE bt0 b1
      generalize wr = wo at *
      go_wp2
      go_quiet (fail)
      go_wp2
      go_loopw [11] (fun v11 wr => ∃ gs : Nat, v11 = .int .u64 gs ∧ gs < H ∧ V / hv bs ≤ gs ∧ Ext wo wr) (fun v _ => (intOf v).toNat)
      case atStart => exact ⟨g0, rfl, HQ.out.1.2, HQ.out.1.1, (Ext.refl wo).drewN _⟩
      case round =>
        obtain ⟨gs, rfl, hgH, hgV, hE3⟩ := hrel
        have HGV := Lib.hid hgV
        clear hgV
        generalize wr = wi at *
        have dgs : D32 [gs] := D32.cons hgH D32.nil
        have hgB : gs < B := Nat.lt_trans hgH H_lt_B
        have hA := (Ext.refl wi).al (.cells #[.int .u64 (gs : Int)] 22)
        have hRb3 := (HRB.out.ext hE3).ext hA
        obtain ⟨n2, hn2⟩ : ∃ n2, n1 + 1 = n2 := ⟨_, rfl⟩
        have k7 : (n1 : Int) + 1 = (n2 : Int) := by omega
        have k8 : IntKind.i64.wrap (n2 : Int) = n2 := by rw [IntKind.wrap_i64]; omega
        have g7 : (0 : Int) ≤ (j : Int) := by omega
        have g8 : (j : Int) ≤ (n2 : Int) := by have := HN.out.1; omega
        have g9 : (n2 : Int) ≤ (ca : Int) := by omega
        have HN2 := Lib.hid hn2
        clear hn2
        go_wp2_with fail
        refine (rtimes_c (some adb) _ c3 1 bs [gs] _ hRb3 (Rd.new1 wi gs hgB) bd dgs (by omega) (by simp)).mono ?_
        rintro z w5 ⟨v5, p5, rfl, pl5, pd5, pv5, ho5, hb5⟩
        obtain ⟨A5, c5, rfl, hr5⟩ := ho5.rd
        have hE5 := hE3.tr (hA.tr hb5)
        have PL5 := Lib.hid pl5
        have PV5 := Lib.hid (show hv p5 = hv bs * gs by rw [pv5]; simp [valb])
        clear pl5 pv5
        go_wp2_with fail
        have hRo5 := HRO.out.ext hE5
        have hwl : ((a.drop j).take (bs.length + 1)).length = n2 - j := by have h1 := HF5.out; have h2 := HN.out.1; have h3 := HN2.out; rw [List.length_take, List.length_drop]; omega
        have hcl : a.length ≤ ca := by rw [HAL.out]; exact hca
        have hrd := ((hRo5.rd (by have := HAL.out; omega) hcl).drop j).take (bs.length + 1) (by rw [List.length_drop]; have := HF5.out; omega) (c' := ca - j) (by have := HF5.out; omega)
        rw [add_zero'] at hrd
        have hwd := (HII.out.da.drop j).take (bs.length + 1)
        have hwv : hv ((a.drop j).take (bs.length + 1)) = V := by rw [HII.out.win bd, HV.out]
        have hpl : hv p5 < H ^ ((a.drop j).take (bs.length + 1)).length := by
          rw [PV5.out, hwl, show n2 - j = bs.length + 1 by have h2 := HN.out.1; have h3 := HN2.out; omega, Nat.pow_succ]
          exact Nat.mul_lt_mul'' (hv_lt bd) hgH
        have hmn := rminus_c (some ⟨ga, j, none⟩) A5 (ca - j) c5 _ p5 w5 hrd hr5 hwd pd5 (by rw [hwl]; omega) hpl
        rw [hwl, hwv, PV5.out] at hmn
        clear hwl hcl hrd hwd hwv hpl hRo5
        refine hmn.mono ?_
        rintro z w6 ⟨v6, o6, b6, rfl, l6, d6, hle6, hgt6, ho6, hb6⟩
        obtain ⟨A6, c6, rfl, hr6⟩ := ho6.rd
        have hE6 := hE5.tr hb6
        have hat6 := ho6.at
        have L6 := Lib.hid l6
        have hbp : 0 < hv bs := by have := HII.out.top; omega
        by_cases hcase : hv bs * gs ≤ V
        · obtain ⟨rfl, hv6⟩ := hle6 hcase
          have hgs := (guess_step hbp HGV.out).1 hcase
          have HGS := Lib.hid hgs
          have HV6 := Lib.hid hv6
          have hs5 : ga < w5.heap.size := Nat.lt_of_lt_of_le HRO.out.lt hE5.size
          have hs5' : gq < w5.heap.size := Nat.lt_of_lt_of_le HBK.out.lt hE5.size
          have HAT := Lib.hid (show ∀ a6, A6 = some a6 → ¬ a6.block = ga ∧ ¬ a6.block = gq ∧ ¬ ga = a6.block from fun a6 e => by have := (hat6 a6 e).1; omega)
          have HS6 := Lib.hid (And.intro (HRO.out.ext hE6) (And.intro (HBK.out.ext hE6) (And.intro (HRB.out.ext hE6) (HE.out.tr hE6))))
          clear hgs hv6 l6 hle6 hgt6 ho6 hat6 hcase hmn hs5 hs5' hbp
          go_wp2
          go_loopw [15] (fun v15 wr => ∃ k : Nat, k ≤ bs.length + 1 ∧ v15 = .int .i64 k ∧ Ro wr ga (spl a o6 j k) ∧ Bk wr gq q ∧ Rd wr (some adb) c3 bs ∧ Rd wr A6 c6 o6 ∧ Ext w wr) (fun v _ => bs.length + 1 - (intOf v).toNat)
          case atStart => exact ⟨0, Nat.zero_le _, rfl, by rw [spl_zero]; exact HS6.out.1, HS6.out.2.1, HS6.out.2.2.1, hr6, HS6.out.2.2.2⟩
          case round =>
            clear HS6
            obtain ⟨k, hk, rfl, hRo, hBk, hRb, hR6, hE⟩ := hrel
            have hlo6 : o6.length = bs.length + 1 := by have h1 := L6.out; have h2 := HN.out.1; have h3 := HN2.out; omega
            by_cases hlt : k < bs.length + 1
            · obtain ⟨m, hm⟩ : ∃ m, j + k = m := ⟨_, rfl⟩
              have hjk : j + k < a.length := by have := HF5.out; omega
              have i1 : (j : Int) + (k : Int) = (m : Int) := by omega
              have i2 : IntKind.i64.wrap (m : Int) = m := by rw [IntKind.wrap_i64]; omega
              have hlen := spl_len (a := a) (rest := o6) (i := j) (k := k) (by omega) (by omega)
              have cA := hRo.cell m (by omega)
              have fA := hRo.frozen m
              obtain ⟨a6, rfl, hc6⟩ := hR6.cell k (by omega)
              obtain ⟨e1, e2, e3⟩ := HAT.out a6 rfl
              obtain ⟨x, hx⟩ : ∃ x, o6.getD k 0 = x := ⟨_, rfl⟩
              have hxB : o6.getD k 0 < B := hR6.w64.get k
              have hst := spl_step (a := a) (rest := o6) (i := j) (k := k) hjk (by omega)
              have HRo := Lib.hid (hRo.set (j + k) (o6.getD k 0) (by omega) hxB)
              rw [hst, hx, hm] at HRo
              rw [hx] at hc6
              have HBk := Lib.hid (hBk.far (p := ⟨ga, m, none⟩) (by simpa using hne2) (.int .u64 (x : Int)))
              have HRb := Lib.hid (hRb.far (p := ⟨ga, m, none⟩) (fun a0 e => by obtain rfl := Option.some.inj e; simpa using hne3) (.int .u64 (x : Int)))
              have HR6 := Lib.hid (hR6.far (p := ⟨ga, m, none⟩) (fun a0 e => by obtain rfl := Option.some.inj e; simpa using e1) (.int .u64 (x : Int)))
              have HEE := Lib.hid (hE.set HG.out.1 m (.int .u64 (x : Int)))
              have g10 : (k : Int) ≤ (bs.length : Int) := by omega
              have g11 : (k : Int) < ((n2 - j : Nat) : Int) := by have h2 := HN.out.1; have h3 := HN2.out; omega
              have g12 : (m : Int) < (P.length : Int) := by have h2 := HAL.out; omega
              have L6' := L6.out
              have hl6 : (k : Int) < (o6.length : Int) := by omega
              clear hlen hst hx hm hjk hRo hBk hRb hR6 hE hlo6 L6'
              go_wp2
              go_roundw
              case rel => exact ⟨k + 1, hlt, by go_num, HRo.out, HBk.out, HRb.out, HR6.out, HEE.out⟩
              case measure => simp [intOf]; omega
            obtain rfl : k = bs.length + 1 := by omega
            have hnx := HII.out.round bd HBT0.out (rest := o6) d6 hlo6 (by rw [HV.out, HV6.out, ← HGS.out])
            rw [HV.out, ← HGS.out] at hnx
            have hjq : j + 1 ≤ q.length := HII.out.le
            have hql : q.length = mq := by have h1 := HII.out.lq; have h2 := HAL.out; have h3 := HMQ.out; omega
            have hjm : (j : Int) < (mq : Int) := by omega
            have cq := hBk.cell j (by omega)
            have fq := hBk.frozen j
            have hal2 : (spl a o6 j (bs.length + 1)).length = P.length := by rw [spl_len HF5.out (by omega)]; exact HAL.out
            have HNX := Lib.hid (And.intro hnx hal2)
            have HRo := Lib.hid (hRo.far (p := ⟨gq, j, none⟩) (by simpa using hne1) (.int .u64 (gs : Int)))
            have HBk := Lib.hid (hBk.set j gs hgB)
            have HRb := Lib.hid (hRb.far (p := ⟨gq, j, none⟩) (fun a0 e => by obtain rfl := Option.some.inj e; simpa using hne4) (.int .u64 (gs : Int)))
            have HEE := Lib.hid (hE.set HG.out.2 j (.int .u64 (gs : Int)))
            have hdc : decide ((bs.length : Int) + 1 ≤ (bs.length : Int)) = false := by rw [decide_eq_false_iff_not]; omega
            clear hnx hal2 hql hjq hRo hBk hRb hR6 hE hlo6 hk hlt
            go_wp2
            go_roundw
            case rel => exact ⟨j, (j : Int) - 1, _, _, by go_num, fun e => by omega, fun _ => rfl, HNX.out.1, HNX.out.2, HRo.out, HBk.out, HRb.out, HEE.out⟩
            case measure => simp [intOf]
        · obtain rfl := hgt6 (by omega)
          obtain ⟨h1, h2⟩ := (guess_step hbp HGV.out).2 (by omega)
          obtain ⟨g', rfl⟩ : ∃ g', gs = g' + 1 := ⟨gs - 1, by omega⟩
          have i1 : ((g' + 1 : Nat) : Int) - 1 = (g' : Int) := by omega
          have i2 : IntKind.u64.wrap (g' : Int) = g' := by rw [IntKind.wrap_u64]; rw [B_eq] at hgB; omega
          have HH := Lib.hid (show g' < H ∧ V / hv bs ≤ g' from ⟨by omega, h1⟩)
          clear h1 h2 hcase hmn hle6 hgt6 hbp
          go_wp2
          go_roundw
          case rel => exact ⟨g', by first | rfl | (congr 1; omega) | go_num, HH.out.1, HH.out.2, hE6⟩
          case measure => simp [intOf]
end Go.Proofs.Ythbnkhgcfcigjaa
namespace Go.Proofs.Ythbnkhgcfcigjaa
open Go.RowKit

/-- A quotient and a remainder in new memory. -/
def QrR (w : World) (q r : Nat) (e : Ending) (w' : World) : Prop := ∃ v1 v2, e = .returned (.tuple #[v1, v2]) ∧ Own w' w.heap.size v1 (cn q) ∧ Own w' w.heap.size v2 (cn r) ∧ Ext w w'
set_option maxHeartbeats 1000000 in
set_option maxRecDepth 100000 in
theorem rdivmod_c (A A' : Option Addr) (c c' : Nat) (xs ys : List Nat) (w : World) (h : Rd w A c xs) (h' : Rd w A' c' ys) (hp : 0 < val ys) (hs : xs.length ≤ 10000000) (hs' : ys.length ≤ 10000000) :
    Calls Try.prog 101 #[.slice A xs.length c, .slice A' ys.length c'] w (QrR w (val xs / val ys) (val xs % val ys)) := by
  have d1 := fun w h => rdigits_c A c xs w h (by omega)
  have d2 := fun w h => rdigits_c A' c' ys w h (by omega)
  have hx := dg_d32 h.w64
  have hy := dg_d32 h'.w64
  have lx := dg_len xs
  have ly := dg_len ys
  have hdv := fun A A' c c' w h h' => rdivide_c A A' c c' (dg xs) (dg ys) w h h' hx hy (by rw [dg_val]; exact hp) (by omega) (by omega)
  rw [dg_val, dg_val] at hdv
  have lx2 : (dg xs).length ≤ 20000000 := by omega
  clear lx ly hx hy
  generalize dg xs = X at *
  generalize dg ys = Y at *
  generalize val xs / val ys = q at *
  generalize val xs % val ys = r at *
  go_enter Try.func101, Try.ntmps101
  go_wp2_with fail
  refine (d1 _ h).mono ?_
  rintro z w1 ⟨v, rfl, ho1, hb1⟩
  obtain ⟨A1, c1, rfl, hr1⟩ := ho1.rd
  go_wp2_with fail
  refine (d2 _ (h'.ext hb1)).mono ?_
  rintro z w2 ⟨v, rfl, ho2, hb2⟩
  obtain ⟨A2, c2, rfl, hr2⟩ := ho2.rd
  have hE2 := hb1.tr hb2
  go_wp2_with fail
  refine (hdv A1 A2 c1 c2 _ (hr1.ext hb2) hr2).mono ?_
  rintro z w3 ⟨v1, v2, o1, o2, rfl, e1, e2, q1, q2, l1, l2, ho3, ho3', hb3⟩
  obtain ⟨A3, c3, rfl, hr3⟩ := ho3.rd
  obtain ⟨A4, c4, rfl, hr4⟩ := ho3'.rd
  have hE3 := hE2.tr hb3
  have n1 := fun w h => rnat_c A3 c3 o1 w h e1 (by omega)
  have n2 := fun w h => rnat_c A4 c4 o2 w h e2 (by omega)
  rw [q1] at n1
  rw [q2] at n2
  clear q1 q2
  go_wp2_with fail
  refine (n1 _ hr3).mono ?_
  rintro z w5 ⟨v, rfl, ho5, hb5⟩
  obtain ⟨A5, c5, rfl, -⟩ := ho5.rd
  go_wp2_with fail
  refine (n2 _ (hr4.ext hb5)).mono ?_
  rintro z w6 ⟨v, rfl, ho6, hb6⟩
  obtain ⟨A6, c6, rfl, -⟩ := ho6.rd
  go_wp2
  go_ret2
  exact ⟨_, _, rfl, (ho5.low hE3.size).ext hb6, ho6.low (hE3.tr hb5).size, (hE3.tr hb5).tr hb6⟩
set_option maxHeartbeats 1000000 in
set_option maxRecDepth 100000 in
theorem rmod_c (A A' : Option Addr) (c c' : Nat) (xs ys : List Nat) (w : World) (h : Rd w A c xs) (h' : Rd w A' c' ys) (hp : 0 < val ys) (hs : xs.length ≤ 10000000) (hs' : ys.length ≤ 10000000) :
    Calls Try.prog 86 #[.slice A xs.length c, .slice A' ys.length c'] w (Res w (cn (val xs % val ys))) := by
  have hd := fun w h h' => rdivmod_c A A' c c' xs ys w h h' hp hs hs'
  go_enter Try.func86, Try.ntmps86
  go_wp2_with fail
  refine (hd _ h h').mono ?_
  rintro z w1 ⟨v1, v2, rfl, ho1, ho2, hb1⟩
  obtain ⟨A1, c1, rfl, -⟩ := ho1.rd
  obtain ⟨A2, c2, rfl, -⟩ := ho2.rd
  go_wp2
  go_ret
  exact ⟨_, rfl, ho2, hb1⟩
end Go.Proofs.Ythbnkhgcfcigjaa
