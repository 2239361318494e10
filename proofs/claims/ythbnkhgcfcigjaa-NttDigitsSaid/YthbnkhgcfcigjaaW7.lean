/- package wide: Shl, Shr. package wide: Shr. -/
import Derived.Test.YthbnkhgcfcigjaaW5
import Derived.BigRegion
set_option linter.unusedVariables false
set_option linter.unusedSimpArgs false
namespace Go.Proofs.Ythbnkhgcfcigjaa
open Go.RowKit

theorem or_shl (a x r : Nat) (ha : a < 2 ^ r) (hx : x < B) (hr : r < 64) : bits BinOp.or IntKind.u64 (a : Int) (IntKind.u64.wrap ((x : Int) * 2 ^ r)) = ((a + x * 2 ^ r % B : Nat) : Int) := by
  have e1 : IntKind.u64.wrap ((x : Int) * 2 ^ r) = ((x * 2 ^ r % B : Nat) : Int) := by
    rw [IntKind.wrap_u64, Int.natCast_emod, Int.natCast_mul, Int.natCast_pow, B_eq]; rfl
  have h2 : 2 ^ r ≤ 2 ^ 64 := Nat.pow_le_pow_right (by omega) (by omega)
  rw [e1, u64_or_nat _ _ (by rw [← B_eq, B_two]; omega) (mod_B_lt _), Nat.or_comm, nat_join r _ _ (shl_low_mod x r (by omega)) ha, Nat.add_comm]
theorem or_shl_lt (a x r : Nat) (ha : a < 2 ^ r) (hr : r < 64) : a + x * 2 ^ r % B < B := by
  have h1 := shl_low_mod x r (by omega)
  have h2 := mod_B_lt (x * 2 ^ r)
  have e : B = 2 ^ r * 2 ^ (64 - r) := by rw [B_two, ← Nat.pow_add]; congr 1; omega
  obtain ⟨q, hq⟩ := Nat.dvd_of_mod_eq_zero h1
  rw [hq] at h2 ⊢
  rw [e] at h2 ⊢
  have h3 : q + 1 ≤ 2 ^ (64 - r) := Nat.lt_of_mul_lt_mul_left h2
  have h4 : 2 ^ r * (q + 1) ≤ 2 ^ r * 2 ^ (64 - r) := Nat.mul_le_mul_left _ h3
  rw [Nat.mul_add] at h4; omega
/-- What holds at the head of the round of a shift to the left. -/
def ShlI (w : World) (g : Nat) (X : List Nat) (s : Nat) (v22 : Value) (wr : World) : Prop := ∃ (i : Nat) (o : List Nat), i ≤ X.length ∧ v22 = .int .i64 i ∧ Bk wr g o ∧
  o.length = X.length + s / 64 + 1 ∧ val o = val (X.take i) * 2 ^ s ∧ (∀ j, i + s / 64 < j → o.getD j 0 = 0) ∧ o.getD (i + s / 64) 0 < 2 ^ (s % 64) ∧ Ext w wr
theorem pow_split (s : Nat) : 2 ^ s = B ^ (s / 64) * 2 ^ (s % 64) := by
  rw [B_two, ← Nat.pow_mul, ← Nat.pow_add, Nat.div_add_mod]
theorem shl_val {X o : List Nat} {s i a x : Nat} (hi : i < X.length) (hl : i + s / 64 < o.length) (hv : val o = val (X.take i) * 2 ^ s) (ha : o.getD (i + s / 64) 0 = a) (hx : X.getD i 0 = x) :
    val (o.set (i + s / 64) (a + x * 2 ^ (s % 64) % B)) = val (X.take i) * 2 ^ s + B ^ (i + s / 64) * (x * 2 ^ (s % 64) % B) := by
  have h := val_set o (i + s / 64) (a + x * 2 ^ (s % 64) % B) hl
  rw [ha, hv, Nat.mul_add] at h; omega
theorem shl_next {X : List Nat} {s i x : Nat} (hi : i < X.length) (hx : X.getD i 0 = x) : val (X.take (i + 1)) * 2 ^ s = val (X.take i) * 2 ^ s + B ^ (i + s / 64) * (x * 2 ^ (s % 64)) := by
  rw [val_take_past, hx, Nat.add_mul, pow_split s, Nat.pow_add]
  simp only [Nat.mul_assoc, Nat.mul_left_comm]
theorem ShlI.step0 {w wr : World} {g : Nat} {X : List Nat} {s i a x v : Nat} {o : List Nat} (hr : s % 64 = 0) (hi : i < X.length) (hX : W64 X) (hb : Bk wr g o) (hl : o.length = X.length + s / 64 + 1) (hv : val o = val (X.take i) * 2 ^ s)
    (h0 : ∀ j, i + s / 64 < j → o.getD j 0 = 0) (hlow : o.getD (i + s / 64) 0 < 2 ^ (s % 64)) (he : Ext w wr) (hg : w.heap.size ≤ g) (hx : X.getD i 0 = x) (ha : o.getD (i + s / 64) 0 = a) (e : a + x * 2 ^ (s % 64) % B = v) :
    ShlI w g X s (.int .i64 ((i + 1 : Nat) : Int)) ((wr.setCell ⟨g, i + s / 64, none⟩ (.int .u64 (v : Int))).drew) := by
  have hxB : x < B := by rw [← hx]; exact hX.get i
  have hvB : v < B := by rw [← e]; exact or_shl_lt a x _ (by rw [← ha]; exact hlow) (by omega)
  refine ⟨i + 1, _, hi, rfl, (hb.set _ _ hvB).drew, by rw [List.length_set]; exact hl, ?_, fun j hj => ?_, ?_, (he.set hg _ _).drew⟩
  · rw [← e, shl_val hi (by omega) hv ha hx, shl_next hi hx, hr, Nat.pow_zero, Nat.mul_one, Nat.mod_eq_of_lt hxB]
  · rw [getD_set o _ j _ (by omega), if_neg (by omega)]; exact h0 j (by omega)
  · rw [getD_set o _ _ _ (by omega), if_neg (by omega), h0 _ (by omega)]; exact Nat.pow_pos (by omega)
theorem ShlI.step1 {w wr : World} {g : Nat} {X : List Nat} {s i a x v u : Nat} {o : List Nat} (hr : 0 < s % 64) (hi : i < X.length) (hX : W64 X) (hb : Bk wr g o) (hl : o.length = X.length + s / 64 + 1) (hv : val o = val (X.take i) * 2 ^ s)
    (h0 : ∀ j, i + s / 64 < j → o.getD j 0 = 0) (hlow : o.getD (i + s / 64) 0 < 2 ^ (s % 64)) (he : Ext w wr) (hg : w.heap.size ≤ g) (hx : X.getD i 0 = x) (ha : o.getD (i + s / 64) 0 = a) (e : a + x * 2 ^ (s % 64) % B = v) (hu : x / 2 ^ (64 - s % 64) = u) :
    ShlI w g X s (.int .i64 ((i + 1 : Nat) : Int)) (((wr.setCell ⟨g, i + s / 64, none⟩ (.int .u64 (v : Int))).setCell ⟨g, i + s / 64 + 1, none⟩ (.int .u64 (u : Int))).drew) := by
  have hxB : x < B := by rw [← hx]; exact hX.get i
  have hvB : v < B := by rw [← e]; exact or_shl_lt a x _ (by rw [← ha]; exact hlow) (by omega)
  have huB : u < B := by rw [← hu]; exact Nat.lt_of_le_of_lt (Nat.div_le_self _ _) hxB
  have hlen : (o.set (i + s / 64) v).length = X.length + s / 64 + 1 := by rw [List.length_set]; exact hl
  have h00 : (o.set (i + s / 64) v).getD (i + s / 64 + 1) 0 = 0 := by rw [getD_set o _ _ _ (by omega), if_neg (by omega)]; exact h0 _ (by omega)
  refine ⟨i + 1, _, hi, rfl, ((hb.set _ _ hvB).set _ _ huB).drew, by rw [List.length_set]; exact hlen, ?_, fun j hj => ?_, ?_, ((he.set hg _ _).set hg _ _).drew⟩
  · rw [val_set_zero _ _ _ (by omega) h00, ← e, shl_val hi (by omega) hv ha hx, shl_next hi hx, ← hu, Nat.pow_succ, Nat.mul_assoc (B ^ _), Nat.add_assoc]
    have e3 := congrArg (B ^ (i + s / 64) * ·) (shl_split x (s % 64) hxB hr (by omega))
    simp only [Nat.mul_add] at e3
    rw [e3]
  · rw [getD_set _ _ j _ (by omega), if_neg (by omega), getD_set o _ j _ (by omega), if_neg (by omega)]; exact h0 j (by omega)
  · rw [show i + 1 + s / 64 = i + s / 64 + 1 by omega, getD_set _ _ _ _ (by omega), if_pos rfl, ← hu]
    exact shr_high_lt x _ hxB (by omega)
end Go.Proofs.Ythbnkhgcfcigjaa
namespace Go.Proofs.Ythbnkhgcfcigjaa
open Go.RowKit

/-- One word of a number that is shifted to the right: z and the word above it. -/
def shrW (z z' r : Nat) : Nat := z / 2 ^ r + z' * 2 ^ (64 - r) % B
theorem shr_step (z z' r V : Nat) (hr : r < 64) : (z + B * (z' + B * V)) / 2 ^ r = shrW z z' r + B * ((z' + B * V) / 2 ^ r) := by
  have e : B = 2 ^ r * 2 ^ (64 - r) := by rw [B_two, ← Nat.pow_add]; congr 1; omega
  generalize hV : z' + B * V = W
  have h1 : (z + B * W) / 2 ^ r = z / 2 ^ r + 2 ^ (64 - r) * W := by
    rw [e, Nat.mul_assoc, Nat.add_mul_div_left _ _ (Nat.pow_pos (by omega))]
  have h2 : 2 ^ (64 - r) * W = 2 ^ (64 - r) * (W % 2 ^ r) + B * (W / 2 ^ r) := by
    conv => lhs; rw [← Nat.mod_add_div W (2 ^ r)]
    rw [Nat.mul_add, e, ← Nat.mul_assoc, Nat.mul_comm (2 ^ (64 - r)) (2 ^ r)]
  have h3 : W % 2 ^ r = z' % 2 ^ r := by
    rw [← hV, e, Nat.mul_assoc, Nat.add_mul_mod_self_left]
  have h4 : z' * 2 ^ (64 - r) % B = 2 ^ (64 - r) * (z' % 2 ^ r) := by
    rw [e, Nat.mul_comm (2 ^ r), Nat.mul_comm z', Nat.mul_mod_mul_left]
  rw [h1, h2, h3, ← h4, shrW, Nat.add_assoc]
theorem shrW_lt (z z' r : Nat) (hz : z < B) (hr : r < 64) : shrW z z' r < B := by
  rcases Nat.eq_zero_or_pos r with rfl | h0
  · unfold shrW
    rw [Nat.pow_zero, Nat.div_one, ← B_two, Nat.mul_mod_left]; omega
  · unfold shrW
    refine or_shl_lt _ _ (64 - r) ?_ (by omega)
    rw [Nat.div_lt_iff_lt_mul (Nat.pow_pos (by omega)), ← Nat.pow_add, show 64 - r + r = 64 by omega, ← B_two]; exact hz
theorem val_drop_step (Z : List Nat) (i : Nat) (hi : i < Z.length) : val (Z.drop i) = Z.getD i 0 + B * val (Z.drop (i + 1)) := by
  rw [List.drop_eq_getElem_cons hi, List.getD_eq_getElem?_getD, List.getElem?_eq_getElem hi]; rfl
theorem val_drop_step' (Z : List Nat) (i : Nat) : val (Z.drop i) = Z.getD i 0 + B * val (Z.drop (i + 1)) := by
  rcases Nat.lt_or_ge i Z.length with h | h
  · exact val_drop_step Z i h
  · rw [List.drop_eq_nil_of_le h, List.drop_eq_nil_of_le (by omega), List.getD_eq_getElem?_getD, List.getElem?_eq_none h]; rfl
def ShrI (w : World) (g : Nat) (Z : List Nat) (r : Nat) (v : Value) (wr : World) : Prop := ∃ (i : Nat) (o : List Nat), i ≤ Z.length ∧ v = .int .i64 i ∧ Bk wr g o ∧
  o.length = Z.length ∧ val o + B ^ i * (val (Z.drop i) / 2 ^ r) = val Z / 2 ^ r ∧ (∀ j, i ≤ j → o.getD j 0 = 0) ∧ Ext w wr
theorem ShrI.step {w wr wr' : World} {g : Nat} {Z : List Nat} {r i u : Nat} {o : List Nat} (hr : r < 64) (hi : i < Z.length) (hZ : W64 Z) (hl : o.length = Z.length) (hv : val o + B ^ i * (val (Z.drop i) / 2 ^ r) = val Z / 2 ^ r)
    (h0 : ∀ j, i ≤ j → o.getD j 0 = 0) (hb : u < B → Bk wr' g (o.set i u)) (he : Ext w wr') (hu : shrW (Z.getD i 0) (Z.getD (i + 1) 0) r = u) : ShrI w g Z r (.int .i64 ((i + 1 : Nat) : Int)) wr' := by
  have hub : u < B := by rw [← hu]; exact shrW_lt _ _ _ (hZ.get i) hr
  refine ⟨i + 1, _, hi, rfl, hb hub, by rw [List.length_set]; exact hl, ?_, fun j hj => ?_, he⟩
  · rw [val_set_zero o i u (by omega) (h0 i (Nat.le_refl _)), ← hv, val_drop_step Z i hi, val_drop_step' Z (i + 1), shr_step _ _ _ _ hr, hu, Nat.mul_add, Nat.pow_succ, Nat.mul_assoc, Nat.add_assoc]
  · rw [getD_set o i j u (by omega), if_neg (by omega)]; exact h0 j (by omega)
end Go.Proofs.Ythbnkhgcfcigjaa
