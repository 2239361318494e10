/- package wide: view, Trim, Word, Zero, Len, Cmp, Trailing, Add, Sub: what each call hands back, by the numbers' values. -/
import Derived.Test.YthbnkhgcfcigjaaBits
set_option linter.unusedVariables false
set_option linter.unusedSimpArgs false
namespace Go.Proofs.Ythbnkhgcfcigjaa
open Go.RowKit

theorem Rd.view {w : World} {A : Option Addr} {c : Nat} {xs : List Nat} (h : Rd w A c xs) : Rd w A (cn (val xs)).length (cn (val xs)) := by
  rw [cn_topN xs h.w64]
  have := topN_le xs
  exact h.take _ this (by rw [List.length_take]; omega)
theorem cn_val_le {xs : List Nat} (h : W64 xs) : (cn (val xs)).length ≤ xs.length := by rw [← topN_eq_len xs h]; exact topN_le xs
theorem small_len {xs : List Nat} (h : xs.length ≤ 9223372036854775807) (k : Nat) (_ : k ≤ xs.length) : (k : Int) ≤ 9223372036854775807 := by omega
end Go.Proofs.Ythbnkhgcfcigjaa
