/- package wide: Add, Sub. package wide: Sub, Bit. -/
import Derived.Test.YthbnkhgcfcigjaaW3
set_option linter.unusedVariables false
set_option linter.unusedSimpArgs false
namespace Go.Proofs.Ythbnkhgcfcigjaa
open Go.RowKit

/-- What holds at the head of the round of a sum with a carry. -/
def AddI (w : World) (g : Nat) (X Y : List Nat) (v6 v22 : Value) (wr : World) : Prop := ∃ (i cy : Nat) (o : List Nat), i ≤ X.length ∧ v22 = .int .i64 i ∧ v6 = .int .u64 cy ∧ cy ≤ 1 ∧ Bk wr g o ∧
  o.length = X.length + 1 ∧ val o + B ^ i * cy = val (X.take i) + val (Y.take i) ∧ (∀ j, i ≤ j → o.getD j 0 = 0) ∧ Ext w wr
theorem val_take_past (xs : List Nat) (k : Nat) : val (xs.take (k + 1)) = val (xs.take k) + B ^ k * xs.getD k 0 := by
  rcases Nat.lt_or_ge k xs.length with h | h
  · exact valb_take B xs k h
  · rw [List.take_of_length_le (by omega), List.take_of_length_le h, List.getD_eq_getElem?_getD, List.getElem?_eq_none h]; simp
theorem AddI.step {w wr : World} {g : Nat} {X Y : List Nat} {i cy : Nat} {o : List Nat} (hi : i < X.length) (hc : cy ≤ 1) (hX : W64 X) (hY : W64 Y) (hb : Bk wr g o) (hl : o.length = X.length + 1)
    (hv : val o + B ^ i * cy = val (X.take i) + val (Y.take i)) (h0 : ∀ j, i ≤ j → o.getD j 0 = 0) (he : Ext w wr) (hg : w.heap.size ≤ g) (x y : Nat) (hx : X.getD i 0 = x) (hy : Y.getD i 0 = y) (v22 : Value) (h22 : v22 = .int .i64 ((i + 1 : Nat) : Int)) :
    AddI w g X Y (.int .u64 (((x + y + cy) / B : Nat) : Int)) v22 (wr.setCell ⟨g, i, none⟩ (.int .u64 (((x + y + cy) % B : Nat) : Int))) := by
  subst hx hy
  refine ⟨i + 1, _, _, hi, h22, rfl, carry_le (hX.get i) (hY.get i) hc, hb.set i _ (mod_B_lt _), by rw [List.length_set]; exact hl, ?_, fun j hj => ?_, he.set hg _ _⟩
  · rw [val_set_zero o i _ (by omega) (h0 i (Nat.le_refl _)), val_take_past X i, val_take_past Y i]
    have e := carry_step (X.getD i 0) (Y.getD i 0) cy
    generalize (X.getD i 0 + Y.getD i 0 + cy) / B = q at *
    generalize (X.getD i 0 + Y.getD i 0 + cy) % B = r at *
    have e2 : B ^ i * (r + B * q) = B ^ i * (X.getD i 0 + Y.getD i 0 + cy) := by rw [e]
    rw [Nat.pow_succ, Nat.mul_assoc]
    simp only [Nat.mul_add] at e2
    omega
  · rw [getD_set o i j _ (by omega), if_neg (by omega)]; exact h0 j (by omega)
end Go.Proofs.Ythbnkhgcfcigjaa
namespace Go.Proofs.Ythbnkhgcfcigjaa
open Go.RowKit

/-- What holds at the head of the round of a difference with a borrow. -/
def SubI (w : World) (g : Nat) (X Y : List Nat) (v6 v18 : Value) (wr : World) : Prop := ∃ (i bw : Nat) (o : List Nat), i ≤ X.length ∧ v18 = .int .i64 i ∧ v6 = .int .u64 bw ∧ bw ≤ 1 ∧ Bk wr g o ∧
  o.length = X.length ∧ val o + val (Y.take i) = val (X.take i) + B ^ i * bw ∧ (∀ j, i ≤ j → o.getD j 0 = 0) ∧ Ext w wr
theorem SubI.step {w wr : World} {g : Nat} {X Y : List Nat} {i bw : Nat} {o : List Nat} (hi : i < X.length) (hc : bw ≤ 1) (hX : W64 X) (hY : W64 Y) (hb : Bk wr g o) (hl : o.length = X.length)
    (hv : val o + val (Y.take i) = val (X.take i) + B ^ i * bw) (h0 : ∀ j, i ≤ j → o.getD j 0 = 0) (he : Ext w wr) (hg : w.heap.size ≤ g) (x y : Nat) (hx : X.getD i 0 = x) (hy : Y.getD i 0 = y) (v18 : Value) (h18 : v18 = .int .i64 ((i + 1 : Nat) : Int)) :
    SubI w g X Y (.int .u64 ((brw x y bw : Nat) : Int)) v18 (wr.setCell ⟨g, i, none⟩ (.int .u64 (((x + B - y - bw) % B : Nat) : Int))) := by
  subst hx hy
  refine ⟨i + 1, _, _, hi, h18, rfl, brw_le _ _ _, hb.set i _ (mod_B_lt _), by rw [List.length_set]; exact hl, ?_, fun j hj => ?_, he.set hg _ _⟩
  · rw [val_set_zero o i _ (by omega) (h0 i (Nat.le_refl _)), val_take_past X i, val_take_past Y i]
    have e := borrow_step (hX.get i) (hY.get i) hc
    generalize brw (X.getD i 0) (Y.getD i 0) bw = q at *
    generalize (X.getD i 0 + B - Y.getD i 0 - bw) % B = r at *
    have e2 : B ^ i * (r + Y.getD i 0 + bw) = B ^ i * (X.getD i 0 + B * q) := by rw [e]
    rw [Nat.pow_succ, Nat.mul_assoc]
    simp only [Nat.mul_add] at e2
    omega
  · rw [getD_set o i j _ (by omega), if_neg (by omega)]; exact h0 j (by omega)
theorem cn_len_mono {m n : Nat} (h : m ≤ n) : (cn m).length ≤ (cn n).length := (cn_len_le m _).2 (Nat.lt_of_le_of_lt h ((cn_len_le n _).1 (Nat.le_refl _)))
theorem shr_cast (x k : Nat) : (x : Int) / 2 ^ k = ((x / 2 ^ k : Nat) : Int) := by rw [Int.natCast_ediv, Int.natCast_pow]; rfl
theorem bit_at (x k : Nat) (hx : x < B) : (bits BinOp.and IntKind.u64 ((x : Int) / 2 ^ k) 1 == 1) = x.testBit k := by
  have h : x / 2 ^ k < B := Nat.lt_of_le_of_lt (Nat.div_le_self _ _) hx
  rw [shr_cast, show (1 : Int) = ((1 : Nat) : Int) from rfl, u64_and_nat _ _ h (by omega), nat_mask1, Nat.testBit_eq_decide_div_mod_eq, Bool.eq_iff_iff, beq_iff_eq, decide_eq_true_iff]
  omega
end Go.Proofs.Ythbnkhgcfcigjaa
