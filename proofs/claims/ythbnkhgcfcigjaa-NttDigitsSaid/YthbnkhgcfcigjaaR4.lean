/- the references' bits: Count, Len, IsZero, Large, Bit. -/
import Derived.Test.YthbnkhgcfcigjaaR3
import Derived.Test.YthbnkhgcfcigjaaW5
import Derived.Test.YthbnkhgcfcigjaaM4
set_option linter.unusedVariables false
set_option linter.unusedSimpArgs false
namespace Go.Proofs.Ythbnkhgcfcigjaa
open Go.RowKit

theorem rbit_at (x k : Nat) : (((x : Int) / 2 ^ k).tmod 2 == 1) = x.testBit k := by
  rw [shr_cast, Int.tmod_eq_emod_of_nonneg (Int.natCast_nonneg _), Nat.testBit_eq_decide_div_mod_eq, Bool.eq_iff_iff, beq_iff_eq, decide_eq_true_iff]
  omega
end Go.Proofs.Ythbnkhgcfcigjaa
