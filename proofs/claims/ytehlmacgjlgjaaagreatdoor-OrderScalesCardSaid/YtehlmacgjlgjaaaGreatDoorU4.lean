/- The reference 03: Add, Sub of integers. The references 03, 11: Sub of integers; Make, Mul, Sub, Sign, Cmp. -/
import Derived.Test.YtehlmacgjlgjaaaGreatDoorU2
set_option linter.unusedVariables false
set_option linter.unusedSimpArgs false
namespace Go.Proofs.YtehlmacgjlgjaaaGreatDoor
open Go.RowKit

end Go.Proofs.YtehlmacgjlgjaaaGreatDoor
namespace Go.Proofs.YtehlmacgjlgjaaaGreatDoor
open Go.RowKit

theorem sg_not (n : Bool) (m : Nat) : sg (!n) m = -sg n m := by unfold sg; cases n <;> simp
set_option maxHeartbeats 1000000 in
set_option maxRecDepth 100000 in
theorem rsign11_c (neg : Bool) (A : Option Addr) (c : Nat) (xs : List Nat) (w : World) (h : Rd w A c xs) (hs : xs.length ≤ 100000000) :
    Calls Tryz.prog 75 #[intV neg A xs.length c] w fun e w' => e = .returned (.int .i64 (sgn (sg neg (val xs)))) ∧ Ext w w' := by
  have hsn := fun w h => rsign_c neg A c xs w h hs
  have hA := (Ext.refl w).al (.cells #[.bool neg, .slice A xs.length c] 64)
  generalize sgn (sg neg (val xs)) = z at *
  go_enter Tryz.func75, Tryz.ntmps75
  go_wp2_with fail
  refine (hsn _ (h.ext hA)).mono ?_
  rintro e w1 ⟨rfl, hb⟩
  go_wp2
  go_ret
  exact ⟨rfl, hA.tr hb⟩
end Go.Proofs.YtehlmacgjlgjaaaGreatDoor
