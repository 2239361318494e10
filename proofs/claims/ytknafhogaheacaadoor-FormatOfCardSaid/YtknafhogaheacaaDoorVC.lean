/- A digit of the schoolbook's division from its three leading words (Knuth): the plain law. A product taken away in place, and one divisor added back: the plain law of wide.less. package wide: less in full (under way). -/
import Derived.Test.YtknafhogaheacaaDoorV9
import Derived.Test.YtknafhogaheacaaDoorV1
set_option linter.unusedVariables false
set_option linter.unusedSimpArgs false
namespace Go.Proofs.YtknafhogaheacaaDoor
open Go.RowKit

theorem kn_le {D N P V X x y q : Nat} (hV : V = D * P + y) (hX : X = N * P + x) (hx : x < P) (hq : q * V ≤ X) : q * D ≤ N := by
  have h1 : q * V = q * D * P + q * y := by rw [hV, Nat.mul_add, Nat.mul_assoc]
  have h2 : q * D * P < (N + 1) * P := by rw [Nat.add_mul, Nat.one_mul]; omega
  exact Nat.le_of_lt_succ (Nat.lt_of_mul_lt_mul_right h2)
theorem kn_ge {D N P V X x y g : Nat} (hV : V = D * P + y) (hX : X = N * P + x) (hg : g * D ≤ N) (hgD : g ≤ D) (hy : y ≤ P) : (g - 1) * V ≤ X := by
  rcases Nat.eq_zero_or_pos g with h0 | h0
  · subst h0; rw [Nat.zero_sub, Nat.zero_mul]; exact Nat.zero_le _
  obtain ⟨t, rfl⟩ : ∃ t, g = t + 1 := ⟨g - 1, by omega⟩
  rw [Nat.add_sub_cancel]
  have h1 : t * V = t * D * P + t * y := by rw [hV, Nat.mul_add, Nat.mul_assoc]
  have h2 : (t + 1) * D * P ≤ N * P := Nat.mul_le_mul_right _ hg
  have h3 : (t + 1) * y ≤ D * P := Nat.mul_le_mul hgD hy
  rw [Nat.add_mul, Nat.one_mul, Nat.add_mul] at h2
  rw [Nat.add_mul, Nat.one_mul] at h3
  omega
/-- The guess is the digit, or one more. -/
theorem kn_guess {M D N P V X x y g : Nat} (hV : V = D * P + y) (hX : X = N * P + x) (hx : x < P) (hy : y < P) (hD : M ≤ D) (hM : 0 < M) (hXV : X < M * V)
    (hg : g = min (M - 1) (N / D)) : X / V ≤ g ∧ g ≤ X / V + 1 := by
  have hD0 : 0 < D := by omega
  have hV0 : 0 < V := by
    have : 1 * 1 ≤ D * P := Nat.mul_le_mul hD0 (by omega)
    omega
  have hq : X / V * V ≤ X := Nat.div_mul_le_self _ _
  have h1 : X / V < M := (Nat.div_lt_iff_lt_mul hV0).2 hXV
  have h2 : X / V ≤ N / D := (Nat.le_div_iff_mul_le hD0).2 (kn_le hV hX hx hq)
  have hgN : g ≤ N / D := by omega
  have hgM : g ≤ M - 1 := by omega
  have hgD : g * D ≤ N := (Nat.le_div_iff_mul_le hD0).1 hgN
  have h3 : (g - 1) * V ≤ X := kn_ge hV hX hgD (by omega) (by omega)
  have h4 : g - 1 ≤ X / V := (Nat.le_div_iff_mul_le hV0).2 h3
  omega
end Go.Proofs.YtknafhogaheacaaDoor
namespace Go.Proofs.YtknafhogaheacaaDoor
open Go.RowKit

/-- One word of the product with its carry. -/
theorem ls_one (M q w c : Nat) : q * w + c = (q * w / M + (q * w % M + c) / M) * M + (q * w % M + c) % M := by
  have h1 := Nat.div_add_mod (q * w) M
  have h2 := Nat.div_add_mod (q * w % M + c) M
  rw [Nat.mul_comm] at h1 h2
  rw [Nat.add_mul]
  omega
theorem ls_carry {M q w c : Nat} (hM : 0 < M) (hq : q < M) (hw : w < M) (hc : c < M) : q * w / M + (q * w % M + c) / M < M := by
  have h := ls_one M q w c
  obtain ⟨K, hK⟩ : ∃ K, q * w / M + (q * w % M + c) / M = K := ⟨_, rfl⟩
  obtain ⟨L, hL⟩ : ∃ L, (q * w % M + c) % M = L := ⟨_, rfl⟩
  rw [hK, hL] at h
  rw [hK]
  clear hK hL
  obtain ⟨m, rfl⟩ : ∃ m, M = m + 1 := ⟨M - 1, by omega⟩
  have h1 : q * w ≤ m * m := Nat.mul_le_mul (by omega) (by omega)
  have h3 : (m + 1) * (m + 1) = m * m + m + (m + 1) := by rw [Nat.mul_add, Nat.add_mul]; omega
  have h2 : K * (m + 1) < (m + 1) * (m + 1) := by omega
  exact Nat.lt_of_mul_lt_mul_right h2
/-- One place further; S is the value of all words as they stand, S2 that with the word u' in the place of u. -/
theorem ls_step {M P U S S2 V q b c b' c' u u' w low : Nat} (h : U + (b + c) * P = S + q * V) (hm : q * w + c = c' * M + low) (hs : u + b' * M = u' + low + b)
    (hset : S2 + P * u = S + P * u') : U + (b' + c') * (M * P) = S2 + q * (V + P * w) := by
  have e1 : (u + (b' + c') * M) * P = (u' + b + (q * w + c)) * P := by
    congr 1
    rw [Nat.add_mul]; omega
  rw [Nat.add_mul u, Nat.mul_assoc, Nat.add_mul (u' + b), Nat.add_mul u' b, Nat.add_mul (q * w)] at e1
  rw [Nat.add_mul b c] at h
  rw [Nat.mul_add q, Nat.mul_comm P w, ← Nat.mul_assoc q w]
  rw [Nat.mul_comm P u, Nat.mul_comm P u'] at hset
  omega
/-- The last word: what the product leaves. -/
theorem ls_last {M P U S S2 V q b c b' u u' : Nat} (h : U + (b + c) * P = S + q * V) (hs : u + b' * M = u' + c + b)
    (hset : S2 + P * u = S + P * u') : U + b' * (M * P) = S2 + q * V := by
  have e1 : (u + b' * M) * P = (u' + c + b) * P := by rw [hs]
  rw [Nat.add_mul u, Nat.mul_assoc, Nat.add_mul (u' + c), Nat.add_mul u' c] at e1
  rw [Nat.add_mul b c] at h
  rw [Nat.mul_comm P u, Nat.mul_comm P u'] at hset
  omega
/-- Added back: one place further; R is the value of all words before, S as they stand. -/
theorem ls_back {M P R S S2 V c c' u u' w : Nat} (h : R + V = S + c * P) (hs : u + w + c = u' + c' * M)
    (hset : S2 + P * u = S + P * u') : R + (V + P * w) = S2 + c' * (M * P) := by
  have e1 : (u + w + c) * P = (u' + c' * M) * P := by rw [hs]
  rw [Nat.add_mul u', Nat.mul_assoc, Nat.add_mul (u + w), Nat.add_mul u w] at e1
  rw [Nat.mul_comm P u, Nat.mul_comm P u'] at hset
  rw [Nat.mul_comm P w]
  omega
/-- Added back: the last word. -/
theorem ls_back_last {M P R S S2 V c c' u u' : Nat} (h : R + V = S + c * P) (hs : u + c = u' + c' * M)
    (hset : S2 + P * u = S + P * u') : R + V = S2 + c' * (M * P) := by
  have := ls_back (w := 0) h (by omega : u + 0 + c = u' + c' * M) hset
  rw [Nat.mul_zero, Nat.add_zero] at this
  exact this
/-- No word was lent: the rest. -/
theorem ls_no {U U' V q T : Nat} (h : U + 0 * T = U' + q * V) : ¬ U < q * V ∧ U' = U - q * V := by
  rw [Nat.zero_mul] at h
  omega
/-- One word was lent: the product was too great. -/
theorem ls_yes {U U' V q T : Nat} (h : U + 1 * T = U' + q * V) (hU' : U' < T) : U < q * V := by
  rw [Nat.one_mul] at h
  omega
theorem ls_rest {U U' U2 V q T c : Nat} (h : U + 1 * T = U' + q * V) (hq : 0 < q) (hU' : U' < T) (hk : (q - 1) * V ≤ U) (hb : U' + V = U2 + c * T) (hU2 : U2 < T) (hc : c ≤ 1) (hUT : U < T) :
    c = 1 ∧ U2 = U - (q - 1) * V := by
  obtain ⟨t, rfl⟩ : ∃ t, q = t + 1 := ⟨q - 1, by omega⟩
  rw [Nat.add_sub_cancel] at hk ⊢
  rw [Nat.add_mul, Nat.one_mul, Nat.one_mul] at h
  rcases (show c = 0 ∨ c = 1 by omega) with rfl | rfl
  · rw [Nat.zero_mul] at hb
    omega
  · rw [Nat.one_mul] at hb
    omega
end Go.Proofs.YtknafhogaheacaaDoor
namespace Go.Proofs.YtknafhogaheacaaDoor
open Go.RowKit

/-- A box whose first words are these; it may have room behind them. -/
structure Bo (w : World) (g : Nat) (xs : List Nat) : Prop where
  h : ∃ cur : Array Value, w.heap[g]? = some (.cells cur 50 (0, 0)) ∧ cur.toList.take xs.length = enc xs
  w64 : W64 xs
theorem Bo.cell {w : World} {g : Nat} {xs : List Nat} (b : Bo w g xs) (i : Nat) (hi : i < xs.length) : w.cell? ⟨g, i, none⟩ = some (.int .u64 (xs.getD i 0 : Nat)) := by
  obtain ⟨cur, h1, h2⟩ := b.h
  have e := enc_get xs i hi
  rw [← h2, List.getElem?_take_of_lt hi] at e
  rw [cell_of_row w g i _ _ _ h1]
  simpa using e
theorem Bo.frozen {w : World} {g : Nat} {xs : List Nat} (b : Bo w g xs) (i : Nat) : w.frozen? ⟨g, i, none⟩ = false := by
  obtain ⟨cur, h, h2⟩ := b.h
  simp [World.frozen?, h]
theorem Bo.drewN {w : World} {g : Nat} {xs : List Nat} (b : Bo w g xs) (n : Nat) : Bo (w.drewN n) g xs := ⟨b.h, b.w64⟩
theorem Bo.set {w : World} {g : Nat} {xs : List Nat} (b : Bo w g xs) (i v : Nat) (hv : v < B) : Bo (w.setCell ⟨g, i, none⟩ (.int .u64 (v : Int))) g (xs.set i v) := by
  obtain ⟨cur, h1, h2⟩ := b.h
  refine ⟨⟨cur.set! i (.int .u64 (v : Int)), ?_, ?_⟩, b.w64.set i hv⟩
  · have hg := (Array.getElem?_eq_some_iff.1 h1).1
    simp [World.setCell, Array.getElem?_modify, h1]
  · rw [List.length_set]
    simp only [Array.set!_eq_setIfInBounds, Array.toList_setIfInBounds]
    rw [List.take_set, h2]
    simp [enc, List.map_set]
theorem Own.bo {w : World} {base g n c : Nat} {xs : List Nat} (h : Own w base (.slice (some ⟨g, 0, none⟩) n c) xs) : Bo w g xs := by
  obtain ⟨h0, h1⟩ := h.own
  rcases h1 with ⟨e, hn⟩ | ⟨g', cap, cur, e, hb, hh, h1, h2, h3, h4⟩
  · injection e with e1 e2 e3
    cases e1
  · injection e with e1 e2 e3
    obtain rfl : g = g' := by injection e1 with e1; injection e1
    exact ⟨⟨cur, hh, by simpa using h4⟩, h.w64⟩
theorem Kb.cellOf {p q : Addr} {w w1 : World} (h : Kb (some p) w w1) {v : Value} (hc : w.cell? q = some v) (hq : q.block ≠ p.block) : w1.cell? q = some v := by
  have e := h.block q.block (World.block_lt_of_cell? w _ hc) (fun a ha => by obtain rfl := Option.some.inj ha; exact hq)
  rw [← hc]
  unfold World.cell?
  rw [e]
/-- What holds at the head of the first loop. -/
def LessI (w : World) (g j q : Nat) (U : Nat) (vs o0 : List Nat) (v7 v8 v19 : Value) (wr : World) : Prop := ∃ (i cy bw : Nat) (o : List Nat), i ≤ vs.length ∧ v19 = .int .i64 (i : Int) ∧ v7 = .int .u64 (cy : Int) ∧ v8 = .int .u64 (bw : Int) ∧
  cy < B ∧ bw ≤ 1 ∧ Bo wr g o ∧ o.length = o0.length ∧ U + (bw + cy) * B ^ (j + i) = val o + q * (B ^ j * val (vs.take i)) ∧ o.drop (j + vs.length + 1) = o0.drop (j + vs.length + 1) ∧ Kb (some ⟨g, 0, none⟩) w wr
theorem LessI.step {w wr : World} {g j q U i cy bw : Nat} {vs o0 o : List Nat} (hi : i < vs.length) (hc : cy < B) (hbw : bw ≤ 1) (hq : q < B) (hV : W64 vs) (hj : j + vs.length + 1 ≤ o0.length) (hb : Bo wr g o) (hl : o.length = o0.length)
    (hv : U + (bw + cy) * B ^ (j + i) = val o + q * (B ^ j * val (vs.take i))) (hd : o.drop (j + vs.length + 1) = o0.drop (j + vs.length + 1)) (hk : Kb (some ⟨g, 0, none⟩) w wr)
    (x y lo cc : Nat) (hx : vs.getD i 0 = x) (hy : o.getD (j + i) 0 = y) (hlo : (q * x % B + cy) % B = lo) (hcc : (q * x % B + cy) / B = cc) (v19 : Value) (h19 : v19 = .int .i64 ((i + 1 : Nat) : Int)) :
    LessI w g j q U vs o0 (.int .u64 ((q * x / B + cc : Nat) : Int)) (.int .u64 ((brw y lo bw : Nat) : Int)) v19 (wr.setCell ⟨g, j + i, none⟩ (.int .u64 (((y + B - lo - bw) % B : Nat) : Int))) := by
  have hxB : x < B := by rw [← hx]; exact hV.get i
  have hyB : y < B := by rw [← hy]; exact hb.w64.get _
  have hloB : lo < B := by rw [← hlo]; exact Nat.mod_lt _ B_pos
  have hm := ls_one B q x cy
  have hcB := ls_carry B_pos hq hxB hc
  rw [hlo, hcc] at hm
  rw [hcc] at hcB
  have hbs := borrow_step hyB hloB hbw
  have hset := valb_set B o (j + i) ((y + B - lo - bw) % B) (by omega)
  rw [hy] at hset
  refine ⟨i + 1, _, _, _, hi, h19, rfl, rfl, hcB, brw_le _ _ _, hb.set (j + i) _ (mod_B_lt _), by rw [List.length_set]; exact hl, ?_, ?_, hk.set (p := ⟨g, j + i, none⟩) rfl rfl _⟩
  · rw [val_take_past vs i, hx, Nat.mul_add, ← Nat.mul_assoc (B ^ j), ← Nat.pow_add, show j + (i + 1) = j + i + 1 by omega, Nat.pow_succ, Nat.mul_comm (B ^ (j + i)) B]
    exact ls_step hv hm (by rw [Nat.mul_comm _ B]; omega) hset
  · rw [List.drop_set_of_lt (by omega)]; exact hd
theorem val_low {o o0 : List Nat} {K : Nat} (h : W64 o) (h0 : W64 o0) (hd : o.drop K = o0.drop K) (hz : val o0 < B ^ K) : val o < B ^ K := by
  have hp : 0 < B ^ K := Nat.pow_pos B_pos
  have e0 := valb_drop_div B B_pos o0 h0 K
  have e1 := valb_drop_div B B_pos o h K
  rw [hd, e0] at e1
  have e2 : val o / B ^ K = 0 := e1.symm.trans (Nat.div_eq_of_lt hz)
  rcases (Nat.div_eq_zero_iff).1 e2 with h | h
  · omega
  · exact h
/-- Behind the first loop: the last word. -/
theorem less_last {g j q U cy bw : Nat} {vs o0 o : List Nat} {wr w : World} (hc : cy < B) (hbw : bw ≤ 1) (hj : j + vs.length + 1 ≤ o0.length) (hb : Bo wr g o) (hl : o.length = o0.length)
    (hv : U + (bw + cy) * B ^ (j + vs.length) = val o + q * (B ^ j * val (vs.take vs.length))) (hd : o.drop (j + vs.length + 1) = o0.drop (j + vs.length + 1)) (hk : Kb (some ⟨g, 0, none⟩) w wr)
    (y s b2 : Nat) (hy : o.getD (j + vs.length) 0 = y) (hs : (y + B - cy - bw) % B = s) (hb2 : brw y cy bw = b2) :
    ∃ o2, Bo (wr.setCell ⟨g, j + vs.length, none⟩ (.int .u64 (s : Int))) g o2 ∧ o2.length = o0.length ∧ U + b2 * B ^ (j + vs.length + 1) = val o2 + q * (B ^ j * val vs) ∧ o2.drop (j + vs.length + 1) = o0.drop (j + vs.length + 1) ∧
      Kb (some ⟨g, 0, none⟩) w (wr.setCell ⟨g, j + vs.length, none⟩ (.int .u64 (s : Int))) := by
  have hyB : y < B := by rw [← hy]; exact hb.w64.get _
  have hbs := borrow_step hyB hc hbw
  rw [hs, hb2] at hbs
  have hset := valb_set B o (j + vs.length) s (by omega)
  rw [hy] at hset
  rw [List.take_length] at hv
  refine ⟨_, hb.set (j + vs.length) s (by rw [← hs]; exact mod_B_lt _), by rw [List.length_set]; exact hl, ?_, ?_, hk.set (p := ⟨g, j + vs.length, none⟩) rfl rfl _⟩
  · rw [Nat.pow_succ, Nat.mul_comm (B ^ (j + vs.length)) B]
    exact ls_last hv (by rw [Nat.mul_comm _ B]; omega) hset
  · rw [List.drop_set_of_lt (by omega)]; exact hd
/-- What holds at the head of the second loop. -/
def BackI (w : World) (g j : Nat) (R : Nat) (vs o0 : List Nat) (v14 v72 : Value) (wr : World) : Prop := ∃ (i cy : Nat) (o : List Nat), i ≤ vs.length ∧ v72 = .int .i64 (i : Int) ∧ v14 = .int .u64 (cy : Int) ∧
  cy ≤ 1 ∧ Bo wr g o ∧ o.length = o0.length ∧ R + B ^ j * val (vs.take i) = val o + cy * B ^ (j + i) ∧ o.drop (j + vs.length + 1) = o0.drop (j + vs.length + 1) ∧ Kb (some ⟨g, 0, none⟩) w wr
theorem BackI.step {w wr : World} {g j R i cy : Nat} {vs o0 o : List Nat} (hi : i < vs.length) (hc : cy ≤ 1) (hV : W64 vs) (hj : j + vs.length + 1 ≤ o0.length) (hb : Bo wr g o) (hl : o.length = o0.length)
    (hv : R + B ^ j * val (vs.take i) = val o + cy * B ^ (j + i)) (hd : o.drop (j + vs.length + 1) = o0.drop (j + vs.length + 1)) (hk : Kb (some ⟨g, 0, none⟩) w wr)
    (x y : Nat) (hx : vs.getD i 0 = x) (hy : o.getD (j + i) 0 = y) (v72 : Value) (h72 : v72 = .int .i64 ((i + 1 : Nat) : Int)) :
    BackI w g j R vs o0 (.int .u64 (((y + x + cy) / B : Nat) : Int)) v72 (wr.setCell ⟨g, j + i, none⟩ (.int .u64 (((y + x + cy) % B : Nat) : Int))) := by
  have hxB : x < B := by rw [← hx]; exact hV.get i
  have hyB : y < B := by rw [← hy]; exact hb.w64.get _
  have hset := valb_set B o (j + i) ((y + x + cy) % B) (by omega)
  rw [hy] at hset
  have hdm := Nat.div_add_mod (y + x + cy) B
  have hle : (y + x + cy) / B ≤ 1 := by
    refine Nat.le_of_lt_succ ((Nat.div_lt_iff_lt_mul B_pos).2 ?_)
    omega
  refine ⟨i + 1, _, _, hi, h72, rfl, hle, hb.set (j + i) _ (mod_B_lt _), by rw [List.length_set]; exact hl, ?_, ?_, hk.set (p := ⟨g, j + i, none⟩) rfl rfl _⟩
  · rw [val_take_past vs i, hx, Nat.mul_add, ← Nat.mul_assoc (B ^ j), ← Nat.pow_add, show j + (i + 1) = j + i + 1 by omega, Nat.pow_succ, Nat.mul_comm (B ^ (j + i)) B]
    exact ls_back hv (by rw [Nat.mul_comm _ B]; omega) hset
  · rw [List.drop_set_of_lt (by omega)]; exact hd
/-- Behind the second loop: the last word. -/
theorem back_last {g j R cy : Nat} {vs o0 o : List Nat} {wr w : World} (hj : j + vs.length + 1 ≤ o0.length) (hb : Bo wr g o) (hl : o.length = o0.length) (hc : cy ≤ 1)
    (hv : R + B ^ j * val (vs.take vs.length) = val o + cy * B ^ (j + vs.length)) (hd : o.drop (j + vs.length + 1) = o0.drop (j + vs.length + 1)) (hk : Kb (some ⟨g, 0, none⟩) w wr)
    (y s : Nat) (hy : o.getD (j + vs.length) 0 = y) (hs : (y + cy) % B = s) :
    ∃ o2 c2, Bo (wr.setCell ⟨g, j + vs.length, none⟩ (.int .u64 (s : Int))) g o2 ∧ o2.length = o0.length ∧ c2 ≤ 1 ∧ R + B ^ j * val vs = val o2 + c2 * B ^ (j + vs.length + 1) ∧ o2.drop (j + vs.length + 1) = o0.drop (j + vs.length + 1) ∧
      Kb (some ⟨g, 0, none⟩) w (wr.setCell ⟨g, j + vs.length, none⟩ (.int .u64 (s : Int))) := by
  have hyB : y < B := by rw [← hy]; exact hb.w64.get _
  have hset := valb_set B o (j + vs.length) s (by omega)
  rw [hy] at hset
  rw [List.take_length] at hv
  have hdm := Nat.div_add_mod (y + cy) B
  rw [hs] at hdm
  have hle : (y + cy) / B ≤ 1 := by
    refine Nat.le_of_lt_succ ((Nat.div_lt_iff_lt_mul B_pos).2 ?_)
    omega
  refine ⟨_, (y + cy) / B, hb.set (j + vs.length) s (by rw [← hs]; exact mod_B_lt _), by rw [List.length_set]; exact hl, hle, ?_, ?_, hk.set (p := ⟨g, j + vs.length, none⟩) rfl rfl _⟩
  · rw [Nat.pow_succ, Nat.mul_comm (B ^ (j + vs.length)) B]
    exact ls_back_last hv (by rw [Nat.mul_comm _ B]; omega) hset
  · rw [List.drop_set_of_lt (by omega)]; exact hd
end Go.Proofs.YtknafhogaheacaaDoor
