/- package reckonerlaw15: Fmt. Left and Low of the reference, at integers. -/
import Derived.Test.YtknafhogaheacaaDoorB0
import Derived.Test.YtknafhogaheacaaDoorR7
import Derived.Test.YtknafhogaheacaaDoorR5
set_option linter.unusedVariables false
set_option linter.unusedSimpArgs false
namespace Go.Proofs.YtknafhogaheacaaDoor
open Go.RowKit

end Go.Proofs.YtknafhogaheacaaDoor
namespace Go.Proofs.YtknafhogaheacaaDoor
open Go.RowKit

theorem rright_i (A : Option Addr) (c : Nat) (xs : List Nat) (S : Int) (w : World) (h : Rd w A c xs) (h0 : 0 ≤ S) (hs : S ≤ 1000000000) (hl : xs.length ≤ 10000000) :
    Calls Tryd.prog 63 #[.slice A xs.length c, .int .i64 S] w (Res w (cn (val xs / 2 ^ S.toNat))) := by
  obtain ⟨s, rfl⟩ := Int.eq_ofNat_of_zero_le h0
  exact rright_c A c xs s w h (by omega) hl
end Go.Proofs.YtknafhogaheacaaDoor
