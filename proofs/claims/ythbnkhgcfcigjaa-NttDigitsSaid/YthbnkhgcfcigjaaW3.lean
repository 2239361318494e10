/- package wide: Word, Zero, Len, Cmp, Trailing. package wide: Cmp, Trailing, Bit. -/
import Derived.Test.YthbnkhgcfcigjaaW1
set_option linter.unusedVariables false
set_option linter.unusedSimpArgs false
namespace Go.Proofs.Ythbnkhgcfcigjaa
open Go.RowKit

theorem Rd.new1 (w : World) (x : Nat) (hx : x < B) : Rd (w.alloc (.cells #[.int .u64 (x : Int)] 22)) (some ⟨w.heap.size, 0, none⟩) 1 [x] :=
  Bk.rd (xs := [x]) ⟨heap_alloc_new w _, W64.cons hx W64.nil⟩ (by simp) (by simp)
theorem val_one (x : Nat) : val [x] = x := by simp [val, valb]
end Go.Proofs.Ythbnkhgcfcigjaa
namespace Go.Proofs.Ythbnkhgcfcigjaa
open Go.RowKit

theorem dn2 (w : World) (a b : Nat) : ∃ n, (w.drewN a).drewN b = w.drewN n := ⟨_, World.drewN_drewN ..⟩
theorem dn3 (w : World) (a b c : Nat) : ∃ n, ((w.drewN a).drewN b).drewN c = w.drewN n := ⟨_, (World.drewN_drewN ..).trans (World.drewN_drewN ..)⟩
theorem drop_succ_eq {xs ys : List Nat} (i : Nat) (hx : i < xs.length) (hy : i < ys.length) (h : xs.drop (i + 1) = ys.drop (i + 1)) (e : xs.getD i 0 = ys.getD i 0) : xs.drop i = ys.drop i := by
  rw [List.drop_eq_getElem_cons hx, List.drop_eq_getElem_cons hy, h]
  rw [List.getD_eq_getElem?_getD, List.getD_eq_getElem?_getD, List.getElem?_eq_getElem hx, List.getElem?_eq_getElem hy] at e
  rw [show xs[i] = ys[i] from e]
theorem bit_word (x i : Nat) : ((x / 2 ^ i) &&& 1 = 1) = (x.testBit i = true) := by
  rw [Nat.testBit_eq_decide_div_mod_eq]
  simp [Nat.and_one_is_mod]
theorem testBit_words (xs : List Nat) (h : W64 xs) (i : Nat) : (val xs).testBit i = (xs.getD (i / 64) 0).testBit (i % 64) := by
  have e1 := valb_drop_div B B_pos xs h (i / 64)
  have e2 : val (xs.drop (i / 64)) = xs.getD (i / 64) 0 + B * val (xs.drop (i / 64 + 1)) := by
    rcases Nat.lt_or_ge (i / 64) xs.length with hlt | hge
    · rw [List.drop_eq_getElem_cons hlt, List.getD_eq_getElem?_getD, List.getElem?_eq_getElem hlt]; rfl
    · rw [List.drop_eq_nil_of_le hge, List.drop_eq_nil_of_le (by omega), List.getD_eq_getElem?_getD, List.getElem?_eq_none hge]; rfl
  have e3 : val xs / B ^ (i / 64) = xs.getD (i / 64) 0 + B * val (xs.drop (i / 64 + 1)) := by rw [← e2]; exact e1.symm
  have h5 : (val xs).testBit i = (val xs / B ^ (i / 64)).testBit (i % 64) := by
    rw [B_two, ← Nat.pow_mul, Nat.testBit_div_two_pow, show i % 64 + 64 * (i / 64) = i by omega]
  rw [h5, e3, B_two, Nat.add_comm, Nat.mul_comm, ← Nat.shiftLeft_eq, Nat.shiftLeft_add_eq_or_of_lt (by rw [← B_two]; exact h.get _), Nat.testBit_or, Nat.testBit_shiftLeft]
  have := Nat.mod_lt i (show 64 > 0 by omega)
  simp only [show decide (i % 64 ≥ 64) = false by simp; omega, Bool.false_and, Bool.false_or]
end Go.Proofs.Ythbnkhgcfcigjaa
