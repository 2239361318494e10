/- Laws of chapter 04, plain: the transform of a round product, of a sum, of a transform. -/
import Derived.Test.YthbnkhgcfcigjaaJM
set_option linter.unusedVariables false
set_option linter.unusedSimpArgs false
namespace Go.Proofs.Ythbnkhgcfcigjaa

theorem dft_bk {m : Nat} {x : List Nat} (hm : m ≤ 32) (hl : x.length = 2 ^ m) (hal : Al x) {k : Nat} (hk : k < 2 ^ m) : dft (rootN (2 ^ m)) (bkL x) k = x.getD k 0 := by
  have hb := dft_back (a := x) hl (vN_gd hm) (v := rootN (2 ^ m)) (by rw [Nat.mul_comm]; exact vN_mul hm) (root_gd hm) hk
  have e : dft (rootN (2 ^ m)) (bkL x) k = iN (2 ^ m) * dft (rootN (2 ^ m)) (dftL (vN (2 ^ m)) x) k % PP := by
    unfold dft
    rw [bkL_len, dftL_len, hl, Nat.mul_mod_mod, ← sm_mul]
    refine sm_mod fun j hj => ?_
    unfold bkL
    rw [tab_get _ (by omega), dftL_get _ _ (by omega), hl, Nat.mod_mul_mod]
    congr 1
    ac_rfl
  rw [e, hb, Nat.mul_comm, iN_mul, Nat.mod_eq_of_lt (hal k)]
theorem dft_cyc {m : Nat} {a b : List Nat} (hm : m ≤ 32) (ha : a.length = 2 ^ m) (hb : b.length = 2 ^ m) {k : Nat} (hk : k < 2 ^ m) :
    dft (rootN (2 ^ m)) (cycL a b) k = dft (rootN (2 ^ m)) a k * dft (rootN (2 ^ m)) b k % PP := by
  rw [← bk_pr hm ha hb, dft_bk hm (by rw [prL_len, ha]) (prL_al _ _ _) hk, prL_get _ _ _ (by omega)]
/-- The sum of two lists. -/
def suL (a b : List Nat) (n : Nat) : List Nat := tab n fun i => (a.getD i 0 + b.getD i 0) % PP
theorem suL_len (a b : List Nat) (n : Nat) : (suL a b n).length = n := tab_len _ _
theorem suL_al (a b : List Nat) (n : Nat) : Al (suL a b n) := tab_al fun i hi => Nat.mod_lt _ PP_pos
theorem dft_sum {w n : Nat} {a b : List Nat} (ha : a.length = n) (hb : b.length = n) (k : Nat) : dft w (suL a b n) k = (dft w a k + dft w b k) % PP := by
  unfold dft
  rw [suL_len, ha, hb, ← Nat.add_mod, ← sm_add]
  refine sm_mod fun j hj => ?_
  unfold suL
  rw [tab_get _ hj, Nat.mod_mul_mod, Nat.add_mul]
theorem dft_two {m : Nat} {a : List Nat} (hm : m ≤ 32) (ha : a.length = 2 ^ m) {k : Nat} (hk : k < 2 ^ m) : dft (rootN (2 ^ m)) (dftL (rootN (2 ^ m)) a) k = a.getD ((2 ^ m - k) % 2 ^ m) 0 * 2 ^ m % PP := by
  have hj : (2 ^ m - k) % 2 ^ m < 2 ^ m := Nat.mod_lt _ (Nat.two_pow_pos m)
  have hkk : (2 ^ m - (2 ^ m - k) % 2 ^ m) % 2 ^ m = k := by
    rcases Nat.eq_zero_or_pos k with rfl | h0
    · rw [Nat.sub_zero, Nat.mod_self, Nat.sub_zero, Nat.mod_self]
    · rw [Nat.mod_eq_of_lt (a := 2 ^ m - k) (by omega), show 2 ^ m - (2 ^ m - k) = k by omega, Nat.mod_eq_of_lt hk]
  have h1 := dft_turn (a := dftL (rootN (2 ^ m)) a) (by rw [dftL_len, ha]) (vN_mul hm) (root_one hm) hj
  rw [hkk] at h1
  rw [h1, dft_back ha (root_gd hm) (vN_mul hm) (vN_gd hm) hj, Nat.mul_comm]
theorem root_half {m : Nat} (hm : m ≤ 32) (h0 : m ≠ 0) : rootN (2 ^ m) ^ (2 ^ m / 2) % PP = PP - 1 := by
  rcases root_gd hm with h | h
  · exact absurd h h0
  · rw [show 2 ^ m / 2 = 2 ^ (m - 1) by rw [show m = m - 1 + 1 by omega, Nat.pow_succ, Nat.mul_div_cancel _ (by decide), Nat.add_sub_cancel]]
    exact h
end Go.Proofs.Ythbnkhgcfcigjaa
