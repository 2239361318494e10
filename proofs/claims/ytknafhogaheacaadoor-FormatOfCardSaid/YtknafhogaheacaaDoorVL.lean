/- package wide: the division by the schoolbook: less, laws of a digit, the cases of DivMod by less than the divisor and by one word. -/
import Derived.Test.YtknafhogaheacaaDoorVD
import Derived.Test.YtknafhogaheacaaDoorV9
import Derived.Test.YtknafhogaheacaaDoorW7
set_option linter.unusedVariables false
set_option linter.unusedSimpArgs false
namespace Go.Proofs.YtknafhogaheacaaDoor
open Go.RowKit

theorem dm_digit {U T q : Nat} (hT : 0 < T) (h1 : U / T ≤ q) (h2 : q ≤ U / T + 1) : (if U < q * T then q - 1 else q) = U / T ∧ (q - 1) * T ≤ U ∧ U - U / T * T = U % T := by
  have e := Nat.div_add_mod U T
  have hm := Nat.mod_lt U hT
  rw [Nat.mul_comm] at e
  generalize U / T = d at *
  generalize U % T = r at *
  rcases (show q = d ∨ q = d + 1 by omega) with rfl | rfl
  · have h3 : (q - 1) * T ≤ q * T := Nat.mul_le_mul_right T (by omega)
    refine ⟨if_neg (by omega), by omega, by omega⟩
  · have h3 : (d + 1) * T = d * T + T := by rw [Nat.add_mul, Nat.one_mul]
    rw [Nat.add_sub_cancel]
    refine ⟨if_pos (by omega), by omega, by omega⟩
/-- A number with two leading words. -/
theorem dm_two (xs : List Nat) (m : Nat) (hl : xs.length = m + 2) : val xs = (xs.getD (m + 1) 0 * B + xs.getD m 0) * B ^ m + val (xs.take m) := by
  have h1 := val_take_past xs (m + 1)
  have h2 := val_take_past xs m
  rw [List.take_of_length_le (by omega)] at h1
  rw [h1, h2, Nat.pow_succ]
  generalize B ^ m = P
  generalize xs.getD (m + 1) 0 = a
  generalize xs.getD m 0 = b
  generalize val (xs.take m) = t
  generalize B = M
  have e3 : (a * M + b) * P = P * M * a + P * b := by
    rw [Nat.add_mul, Nat.mul_comm b P]
    congr 1
    ac_rfl
  rw [e3]
  omega
/-- A number with three leading words. -/
theorem dm_three (xs : List Nat) (m : Nat) (h : W64 xs) (hv : val xs < B ^ (m + 3)) :
    val xs = ((xs.getD (m + 2) 0 * B + xs.getD (m + 1) 0) * B + xs.getD m 0) * B ^ m + val (xs.take m) := by
  have h0 := valb_take_mod B B_pos xs h (m + 3)
  rw [show valb B xs % B ^ (m + 3) = val xs from Nat.mod_eq_of_lt hv] at h0
  have h1 := val_take_past xs (m + 2)
  have h2 := val_take_past xs (m + 1)
  have h3 := val_take_past xs m
  rw [← h0]
  show val (xs.take (m + 2 + 1)) = _
  rw [h1, h2, h3]
  have e1 : B ^ (m + 1) = B * B ^ m := by rw [Nat.pow_succ, Nat.mul_comm]
  have e2 : B ^ (m + 2) = B * (B * B ^ m) := by rw [Nat.pow_succ, e1, Nat.mul_comm]
  rw [e2, e1]
  generalize B ^ m = P
  generalize xs.getD (m + 2) 0 = a
  generalize xs.getD (m + 1) 0 = b
  generalize xs.getD m 0 = c
  generalize val (xs.take m) = t
  generalize B = M
  have e3 : ((a * M + b) * M + c) * P = M * (M * P) * a + M * P * b + P * c := by
    simp only [Nat.add_mul]
    rw [show a * M * M * P = M * (M * P) * a by ac_rfl, show b * M * P = M * P * b by ac_rfl, Nat.mul_comm c P]
  rw [e3]
  omega
end Go.Proofs.YtknafhogaheacaaDoor
namespace Go.Proofs.YtknafhogaheacaaDoor
open Go.RowKit

theorem take_lt {xs : List Nat} (h : W64 xs) (m : Nat) : val (xs.take m) < B ^ m := by
  refine Nat.lt_of_lt_of_le (val_lt (h.take m)) (Nat.pow_le_pow_right B_pos ?_)
  rw [List.length_take]
  omega
theorem getD_drop (xs : List Nat) (j k : Nat) : (xs.drop j).getD k 0 = xs.getD (j + k) 0 := by
  rw [List.getD_eq_getElem?_getD, List.getD_eq_getElem?_getD, List.getElem?_drop]
/-- The leading word is not above the divisor's. -/
theorem dm_top {M P V X a b c v w x y : Nat} (hM : 0 < M) (hP : 0 < P) (hV : V = (v * M + w) * P + y) (hX : X = ((a * M + b) * M + c) * P + x) (hw : w < M) (hy : y < P) (hXV : X < M * V) : a ≤ v := by
  refine Nat.le_of_not_lt fun hlt => ?_
  have h1 : (v * M + w + 1) * P ≤ (v + 1) * M * P := by
    refine Nat.mul_le_mul_right P ?_
    rw [Nat.add_mul, Nat.one_mul]
    omega
  have h2 : V < (v + 1) * M * P := by
    rw [Nat.add_mul, Nat.one_mul] at h1
    omega
  have h3 : (v + 1) * M * P ≤ a * M * P := Nat.mul_le_mul_right P (Nat.mul_le_mul_right M hlt)
  have h4 : M * V ≤ M * (a * M * P) := Nat.mul_le_mul_left M (by omega)
  have h5 : a * M * M * P ≤ ((a * M + b) * M + c) * P := by
    refine Nat.mul_le_mul_right P ?_
    rw [Nat.add_mul]
    omega
  have h6 : M * (a * M * P) = a * M * M * P := by ac_rfl
  omega
theorem dm_guess {o vs : List Nat} {j m : Nat} (ho : W64 o) (hv : W64 vs) (hl : vs.length = m + 2) (h0 : 0 < vs.getD (m + 1) 0) (hU : val o < B ^ j * (B * val vs)) :
    let g := gsN (o.getD (j + (m + 2)) 0) (o.getD (j + (m + 1)) 0) (o.getD (j + m) 0) (vs.getD (m + 1) 0) (vs.getD m 0)
    val o / (B ^ j * val vs) ≤ g ∧ g ≤ val o / (B ^ j * val vs) + 1 ∧ o.getD (j + (m + 2)) 0 ≤ vs.getD (m + 1) 0 ∧ val o < B ^ (j + vs.length + 1) := by
  have hp : 0 < B ^ j := Nat.pow_pos B_pos
  have hpm : 0 < B ^ m := Nat.pow_pos B_pos
  have hZ : val (o.drop j) = val o / B ^ j := valb_drop_div B B_pos o ho j
  have hXV : val (o.drop j) < B * val vs := by
    rw [hZ]
    refine (Nat.div_lt_iff_lt_mul hp).2 ?_
    rw [Nat.mul_comm]
    exact hU
  have hVl := val_lt hv
  have hZl : val (o.drop j) < B ^ (m + 3) := by
    refine Nat.lt_trans hXV ?_
    rw [show B ^ (m + 3) = B * B ^ vs.length by rw [hl, Nat.pow_succ, Nat.mul_comm]]
    exact Nat.mul_lt_mul_of_pos_left hVl B_pos
  have e1 := dm_two vs m hl
  have e2 := dm_three (o.drop j) m (ho.drop j) hZl
  rw [getD_drop, getD_drop, getD_drop] at e2
  have hx := take_lt (ho.drop j) m
  have hy := take_lt hv m
  have hw := hv.get m
  have htop := dm_top B_pos hpm e1 e2 hw hy hXV
  have hD : B ≤ vs.getD (m + 1) 0 * B + vs.getD m 0 := by
    have := Nat.mul_le_mul_right B h0
    omega
  obtain ⟨k1, k2⟩ := kn_guess e1 e2 hx hy hD B_pos hXV rfl
  rw [hZ, Nat.div_div_eq_div_mul] at k1 k2
  refine ⟨k1, k2, htop, ?_⟩
  refine Nat.lt_trans hU ?_
  rw [Nat.pow_succ, Nat.pow_add, Nat.mul_comm B, ← Nat.mul_assoc]
  exact Nat.mul_lt_mul_of_pos_right (Nat.mul_lt_mul_of_pos_left hVl hp) B_pos
end Go.Proofs.YtknafhogaheacaaDoor
namespace Go.Proofs.YtknafhogaheacaaDoor
open Go.RowKit

/-- What DivMod answers. -/
def DMR (w : World) (x y : Nat) : Ending → World → Prop := fun e w' => ∃ v v', e = .returned (.tuple #[v, v']) ∧ Own w' w.heap.size v (cn (x / y)) ∧ Own w' w.heap.size v' (cn (x % y)) ∧ Ext w w'
set_option maxHeartbeats 1000000 in
set_option maxRecDepth 100000 in
theorem divmod_low (A A1 : Option Addr) (c c1 : Nat) (xs ys : List Nat) (w : World) (h : Rd w A c xs) (h1 : Rd w A1 c1 ys) (hlt : val xs < val ys) (hs : xs.length ≤ 1000000000) :
    Calls Tryd.prog 17 #[.slice A xs.length c, .slice A1 ys.length c1] w (DMR w (val xs) (val ys)) := by
  have v1 := view_c A c xs w h
  have v2 := fun n => view_c A1 c1 ys (w.drewN n) (h1.drewN n)
  have hr := h.view
  have hr1 := h1.view
  have hl := cn_val_le h.w64
  have hvc := val_cn (val xs)
  have hvc1 := val_cn (val ys)
  have hd : val xs / val ys = 0 := Nat.div_eq_of_lt hlt
  have hm : val xs % val ys = val xs := Nat.mod_eq_of_lt hlt
  unfold DMR
  rw [hd, hm, show cn 0 = [] from digs_zero B]
  have hc : cmp3 (val xs) (val ys) = -1 := cmp3_lt hlt
  generalize val xs = m at *
  generalize val ys = n at *
  have hcm := fun w h h' => cmp_c A A1 (cn m).length (cn n).length (cn m) (cn n) w h h'
  rw [hvc, hvc1, hc] at hcm
  have htr := fun w h => trim_c A (cn m).length (cn m) w h (by omega)
  rw [hvc] at htr
  clear hvc hvc1 hd hm hc
  generalize cn m = X at *
  generalize cn n = Y at *
  go_enter Tryd.func17, Tryd.ntmps17
  go_wp2_with fail
  refine v1.mono ?_
  rintro z w1 ⟨rfl, k, rfl⟩
  go_wp2_with fail
  refine (v2 k).mono ?_
  rintro z w1 ⟨rfl, k', rfl⟩
  have hE := fun m => (Ext.refl w).drewN m
  go_wp2_with fail
  refine (hcm _ (hr.ext (hE _)) (hr1.ext (hE _))).mono ?_
  rintro z w1 ⟨rfl, k'', rfl⟩
  have hE2 := hE (k + k' + k'')
  go_wp2_with fail
  refine (htr _ (hr.ext (hE _))).mono ?_
  rintro z w3 ⟨v, rfl, ho3, hb3⟩
  go_wp2
  go_ret2
  exact ⟨_, _, rfl, Own.nil _ _, ho3.low hE2.size, hE2.tr hb3⟩
set_option maxHeartbeats 1000000 in
set_option maxRecDepth 100000 in
theorem divmod_word (A A1 : Option Addr) (c c1 : Nat) (xs ys : List Nat) (w : World) (h : Rd w A c xs) (h1 : Rd w A1 c1 ys) (hle : val ys ≤ val xs) (h0 : 0 < val ys) (hB : val ys < B) (hs : xs.length ≤ 1000000000) :
    Calls Tryd.prog 17 #[.slice A xs.length c, .slice A1 ys.length c1] w (DMR w (val xs) (val ys)) := by
  have v1 := view_c A c xs w h
  have v2 := fun n => view_c A1 c1 ys (w.drewN n) (h1.drewN n)
  have e1 : cn (val ys) = [val ys] := by
    show digs B (val ys) = _
    rw [digs_pos two_le_B h0, Nat.mod_eq_of_lt hB, Nat.div_eq_of_lt hB, digs_zero]
  have hr := h.view
  have hr1 : Rd w A1 1 [val ys] := by have := h1.view; rwa [e1] at this
  have hl := cn_val_le h.w64
  have hvc := val_cn (val xs)
  simp only [e1, List.length_cons, List.length_nil, Nat.zero_add] at v2
  have hc : cmp3 (val xs) (val [val ys]) = 0 ∨ cmp3 (val xs) (val [val ys]) = 1 := by
    rw [val_one]
    rcases Nat.lt_or_ge (val ys) (val xs) with hh | hh
    · exact .inr (cmp3_gt hh)
    · exact .inl (cmp3_eq (by omega))
  have hwm : val xs % val ys < B := Nat.lt_trans (Nat.mod_lt _ h0) hB
  have hww := fun w => word_c (val xs % val ys) w hwm
  unfold DMR
  generalize val xs = m at *
  have hcm := fun w h h' => cmp_c A A1 (cn m).length 1 (cn m) [val ys] w h h'
  rw [hvc] at hcm
  have hdw := fun w h => divword_c A (cn m).length (val ys) (cn m) w h (by omega) h0 hB
  rw [hvc] at hdw
  generalize cmp3 m (val [val ys]) = t at *
  have ht : decide (t < 0) = false := by rw [decide_eq_false_iff_not]; omega
  obtain ⟨ad1, rfl⟩ := hr1.addr (by simp)
  have hx1 : w.cell? ad1 = some (.int .u64 (val ys : Int)) := by have := hr1.get 0 (by simp); simpa [show ad1.add 0 = ad1 from rfl] using this
  clear hvc hc e1
  simp only [List.length_cons, List.length_nil, Nat.zero_add] at hcm
  generalize cn m = X at *
  generalize val ys = y at *
  generalize cn (m / y) = Q at *
  generalize m % y = r at *
  generalize cn r = Rw at *
  go_enter Tryd.func17, Tryd.ntmps17
  go_wp2_with fail
  refine v1.mono ?_
  rintro z w1 ⟨rfl, n, rfl⟩
  go_wp2_with fail
  refine (v2 n).mono ?_
  rintro z w1 ⟨rfl, n', rfl⟩
  have hE := fun m => (Ext.refl w).drewN m
  go_wp2_with fail
  refine (hcm _ (hr.ext (hE _)) (hr1.ext (hE _))).mono ?_
  rintro z w1 ⟨rfl, n'', rfl⟩
  have hE2 := hE (n + n' + n'')
  have hx2 := hE2.cell hx1
  go_wp2_with fail
  refine (hdw _ (hr.ext (hE _))).mono ?_
  rintro z w3 ⟨v, rfl, ho3, hb3⟩
  go_wp2_with fail
  refine (hww _).mono ?_
  rintro z w4 ⟨v', rfl, ho4, hb4⟩
  go_wp2
  go_ret2
  exact ⟨_, _, rfl, (ho3.ext hb4).low hE2.size, ho4.low (hE2.tr hb3).size, (hE2.tr hb3).tr hb4⟩
end Go.Proofs.YtknafhogaheacaaDoor
namespace Go.Proofs.YtknafhogaheacaaDoor
open Go.RowKit

theorem dm_round {P M V U Q X : Nat} (hP : 0 < P) (hV : 0 < V) (h : U + P * M * (Q * V) = X) : U % (P * V) + P * ((U / (P * V) + M * Q) * V) = X ∧ U % (P * V) < P * V := by
  have hPV : 0 < P * V := Nat.mul_pos hP hV
  have e := Nat.div_add_mod U (P * V)
  refine ⟨?_, Nat.mod_lt _ hPV⟩
  generalize U / (P * V) = d at *
  generalize U % (P * V) = r at *
  have e2 : P * ((d + M * Q) * V) = P * V * d + P * M * (Q * V) := by
    rw [Nat.add_mul, Nat.mul_add]
    congr 1 <;> ac_rfl
  rw [e2]
  omega
theorem dm_end {V U Q X : Nat} (h : U + Q * V = X) (hU : U < V) : Q = X / V ∧ U = X % V := by
  subst h
  have hV : 0 < V := by omega
  rw [Nat.add_mul_div_right _ _ hV, Nat.add_mul_mod_self_right, Nat.div_eq_of_lt hU, Nat.mod_eq_of_lt hU, Nat.zero_add]
  exact ⟨rfl, rfl⟩
/-- The digit stored: what the quotient's words from there on are worth. -/
theorem dm_out {out : List Nat} {j d : Nat} (hj : j < out.length) : val ((out.set j d).drop j) = d + B * val (out.drop (j + 1)) := by
  rw [drop_set_at hj]
  rfl
/-- What the loop starts with: the words, then two zeros, cut. -/
theorem dm_start {xs : List Nat} {k : Nat} (hk : xs.length ≤ k) (hk2 : k ≤ xs.length + 2) : val ((xs ++ [0, 0]).take k) = val xs ∧ ((xs ++ [0, 0]).take k).length = k := by
  refine ⟨?_, by rw [List.length_take, List.length_append]; simp; omega⟩
  rw [List.take_append, List.take_of_length_le hk]
  show valb B _ = _
  rw [valb_append, valb_zero_of B (([0, 0] : List Nat).take (k - xs.length)) (fun x hx => by have := List.mem_of_mem_take hx; simpa using this), Nat.mul_zero, Nat.add_zero]
theorem shl_len_ge (m s : Nat) : (cn m).length ≤ (cn (m * 2 ^ s)).length := cn_len_mono (Nat.le_mul_of_pos_right m (Nat.pow_pos (by omega)))
theorem shl_len_le {m s : Nat} (hs : s ≤ 63) : (cn (m * 2 ^ s)).length ≤ (cn m).length + 1 := by
  refine (cn_len_le _ _).2 ?_
  have h1 := (cn_len_le m _).1 (Nat.le_refl _)
  have h2 : 2 ^ s ≤ B := by rw [B_two]; exact Nat.pow_le_pow_right (by omega) (by omega)
  have hp : 0 < 2 ^ s := Nat.pow_pos (by omega)
  rw [Nat.pow_succ]
  exact Nat.lt_of_lt_of_le (Nat.mul_lt_mul_of_pos_right h1 hp) (Nat.mul_le_mul_left _ h2)
/-- The divisor, shifted until its top bit is set, is as long as it was. -/
theorem shl_len_top {n s tp : Nat} (h2 : 2 ≤ (cn n).length) (ht : (cn n).getD ((cn n).length - 1) 0 = tp) (hs : bl tp + s = 64) : (cn (n * 2 ^ s)).length = (cn n).length := by
  refine Nat.le_antisymm ((cn_len_le _ _).2 ?_) (shl_len_ge n s)
  have hv := val_take_past (cn n) ((cn n).length - 1)
  rw [Nat.sub_add_cancel (by omega), List.take_length, val_cn, ht] at hv
  have h3 := take_lt (W64.cn n) ((cn n).length - 1)
  have h4 : tp < 2 ^ bl tp := bl_lt
  have h5 : B ^ (cn n).length = B ^ ((cn n).length - 1) * B := by rw [← Nat.pow_succ]; congr 1; omega
  have h6 : B = 2 ^ bl tp * 2 ^ s := by rw [← Nat.pow_add, hs, B_two]
  have hp : 0 < 2 ^ s := Nat.pow_pos (by omega)
  have h7 : n < B ^ ((cn n).length - 1) * 2 ^ bl tp := by
    have := Nat.mul_le_mul_left (B ^ ((cn n).length - 1)) h4
    rw [Nat.mul_succ] at this
    omega
  rw [h5]
  have h8 := Nat.mul_lt_mul_of_pos_right h7 hp
  rwa [Nat.mul_assoc, ← h6] at h8
theorem dm_init {m n s : Nat} (h1 : 1 ≤ (cn n).length) (hYX : (cn n).length ≤ (cn m).length) : m * 2 ^ s < B ^ ((cn m).length + 1 - (cn n).length) * (n * 2 ^ s) := by
  have hp : 0 < 2 ^ s := Nat.pow_pos (by omega)
  have hm := (cn_len_le m _).1 (Nat.le_refl _)
  have hn : B ^ ((cn n).length - 1) ≤ n := by
    refine Nat.le_of_not_lt fun h => ?_
    have := (cn_len_le n ((cn n).length - 1)).2 h
    omega
  have e : B ^ (cn m).length = B ^ ((cn m).length + 1 - (cn n).length) * B ^ ((cn n).length - 1) := by rw [← Nat.pow_add]; congr 1; omega
  rw [← Nat.mul_assoc]
  refine Nat.mul_lt_mul_of_pos_right (Nat.lt_of_lt_of_le hm ?_) hp
  rw [e]
  exact Nat.mul_le_mul_left _ hn
theorem Bo.take {w : World} {g : Nat} {xs : List Nat} (b : Bo w g xs) (k : Nat) (hk : k ≤ xs.length) : Bo w g (xs.take k) := by
  obtain ⟨cur, h1, h2⟩ := b.h
  refine ⟨⟨cur, h1, ?_⟩, b.w64.take k⟩
  rw [List.length_take, Nat.min_eq_left hk]
  have e : (cur.toList.take xs.length).take k = (enc xs).take k := by rw [h2]
  rw [List.take_take, Nat.min_eq_left hk] at e
  rw [e]
  simp [enc, List.map_take]
theorem Bo.ext {w w' : World} {g : Nat} {xs : List Nat} (b : Bo w g xs) (h : Ext w w') : Bo w' g xs := by
  obtain ⟨cur, h1, h2⟩ := b.h
  exact ⟨⟨cur, (h.block g (Array.getElem?_eq_some_iff.1 h1).1).trans h1, h2⟩, b.w64⟩
theorem Kb.bk {p : Addr} {w w1 : World} (h : Kb (some p) w w1) {g : Nat} {xs : List Nat} (b : Bk w g xs) (hg : g ≠ p.block) : Bk w1 g xs :=
  ⟨(h.block g b.lt (fun a ha => by obtain rfl := Option.some.inj ha; exact hg)).trans b.h, b.w64⟩
theorem Bo.far {w : World} {g : Nat} {xs : List Nat} (b : Bo w g xs) {p : Addr} (hp : g ≠ p.block) (u : Value) : Bo (w.setCell p u) g xs := by
  obtain ⟨cur, h1, h2⟩ := b.h
  exact ⟨⟨cur, (Below.heap_setCell w p u g hp).trans h1, h2⟩, b.w64⟩
end Go.Proofs.YtknafhogaheacaaDoor
namespace Go.Proofs.YtknafhogaheacaaDoor
open Go.RowKit

/-- An own row that is not empty: its box. -/
theorem Own.split {w : World} {base : Nat} {v : Value} {xs : List Nat} (h : Own w base v xs) (hp : 0 < xs.length) :
    ∃ g cap, v = .slice (some ⟨g, 0, none⟩) xs.length cap ∧ base ≤ g ∧ xs.length ≤ cap ∧ cap ≤ 9223372036854775807 ∧ Bo w g xs := by
  obtain ⟨h0, h1⟩ := h.own
  rcases h1 with ⟨e, hn⟩ | ⟨g, cap, cur, e, hb, hh, h1, h2, h3, h4⟩
  · omega
  · simp only [maxLen] at h2
    exact ⟨g, cap, e, hb, h1, by omega, ⟨cur, hh, by simpa using h4⟩, h.w64⟩
theorem Bo.rd {w : World} {g c : Nat} {xs : List Nat} (b : Bo w g xs) (hl : xs.length ≤ 9223372036854775807) (hc : xs.length ≤ c) : Rd w (some ⟨g, 0, none⟩) c xs :=
  ⟨hc, hl, b.w64, fun i hi => ⟨_, rfl, by rw [add_zero']; exact b.cell i hi⟩⟩
/-- All facts of one round. -/
theorem dm_pack {o vs : List Nat} {j : Nat} (ho : W64 o) (hv : W64 vs) (hl : 2 ≤ vs.length) (h0 : 0 < vs.getD (vs.length - 1) 0) (hU : val o < B ^ (j + 1) * val vs) :
    ∃ a b c v u q, o.getD (j + vs.length) 0 = a ∧ o.getD (j + vs.length - 1) 0 = b ∧ o.getD (j + vs.length - 2) 0 = c ∧ vs.getD (vs.length - 1) 0 = v ∧ vs.getD (vs.length - 2) 0 = u ∧
      gsN a b c v u = q ∧ a ≤ v ∧ b < B ∧ c < B ∧ v < B ∧ u < B ∧ 0 < v ∧ q < B ∧ val o < B ^ (j + vs.length + 1) ∧ (q - 1) * (B ^ j * val vs) ≤ val o ∧
      (if val o < q * (B ^ j * val vs) then q - 1 else q) = val o / (B ^ j * val vs) ∧ val o - val o / (B ^ j * val vs) * (B ^ j * val vs) = val o % (B ^ j * val vs) := by
  obtain ⟨m, hm⟩ : ∃ m, vs.length = m + 2 := ⟨vs.length - 2, by omega⟩
  have e1 : vs.length - 1 = m + 1 := by omega
  have e2 : vs.length - 2 = m := by omega
  have e3 : j + vs.length = j + (m + 2) := by omega
  have e4 : j + vs.length - 1 = j + (m + 1) := by omega
  have e5 : j + vs.length - 2 = j + m := by omega
  rw [e1] at h0
  have hU' : val o < B ^ j * (B * val vs) := by rw [Nat.pow_succ, Nat.mul_assoc] at hU; exact hU
  have hgs := dm_guess ho hv hm h0 hU'
  dsimp only at hgs
  obtain ⟨G, hG⟩ : ∃ G, gsN (o.getD (j + (m + 2)) 0) (o.getD (j + (m + 1)) 0) (o.getD (j + m) 0) (vs.getD (m + 1) 0) (vs.getD m 0) = G := ⟨_, rfl⟩
  have hGB : G < B := by rw [← hG]; exact Nat.lt_of_le_of_lt (Nat.min_le_left _ _) (Nat.sub_lt B_pos Nat.one_pos)
  rw [hG] at hgs
  obtain ⟨g1, g2, g3, g4⟩ := hgs
  have hT : 0 < B ^ j * val vs := by
    rcases Nat.eq_zero_or_pos (B ^ j * val vs) with h | h
    · rw [show B ^ j * (B * val vs) = B * (B ^ j * val vs) by ac_rfl, h, Nat.mul_zero] at hU'
      omega
    · exact h
  obtain ⟨d1, d2, d3⟩ := dm_digit hT g1 g2
  rw [e1, e2, e4, e5]
  exact ⟨_, _, _, _, _, G, by rw [e3], rfl, rfl, rfl, rfl, hG, g3, ho.get _, ho.get _, hv.get _, hv.get _, h0, hGB, g4, d2, d1, d3⟩
/-- The next round's state. -/
theorem dm_next {o2 out : List Nat} {j U V X d : Nat} (hV : 0 < V) (hj : j < out.length) (h : U + B ^ (j + 1) * (val (out.drop (j + 1)) * V) = X) (hd : U / (B ^ j * V) = d) (ho : val o2 = U % (B ^ j * V)) :
    val o2 + B ^ j * (val ((out.set j d).drop j) * V) = X ∧ val o2 < B ^ j * V := by
  have hp : 0 < B ^ j := Nat.pow_pos B_pos
  rw [Nat.pow_succ] at h
  obtain ⟨h1, h2⟩ := dm_round hp hV h
  rw [dm_out hj, ho, ← hd]
  exact ⟨h1, h2⟩
theorem dm_last {o out : List Nat} {m n s : Nat} (h : val o + B ^ 0 * (val (out.drop 0) * (n * 2 ^ s)) = m * 2 ^ s) (hlt : val o < B ^ 0 * (n * 2 ^ s)) : val out = m / n ∧ val o / 2 ^ s = m % n := by
  rw [Nat.pow_zero, Nat.one_mul, List.drop_zero] at h
  rw [Nat.pow_zero, Nat.one_mul] at hlt
  obtain ⟨h1, h2⟩ := dm_end h hlt
  obtain ⟨h3, h4⟩ := dv_shift (x := m) (y := n) (P := 2 ^ s) (Nat.pow_pos (by omega))
  rw [h1, h2]
  exact ⟨h3, h4⟩
end Go.Proofs.YtknafhogaheacaaDoor
