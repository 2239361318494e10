/- package reckonerlaw15: Fmt. Left and Low of the reference, at integers. -/
import Derived.Test.YtlnfmngginihfaaGreatDoorB0
import Derived.Test.YtlnfmngginihfaaGreatDoorR7
import Derived.Test.YtlnfmngginihfaaGreatDoorR5
set_option linter.unusedVariables false
set_option linter.unusedSimpArgs false
namespace Go.Proofs.YtlnfmngginihfaaGreatDoor
open Go.RowKit

set_option maxHeartbeats 1000000 in
set_option maxRecDepth 100000 in
theorem fmt_c (k p : Int) (w : World) : Calls Tryz.prog 20 #[.agg #[.int .i64 k, .int .i64 p]] w fun e w' => e = .returned (.agg #[.int .i64 k, .int .i64 p]) ∧ Ext w w' := by
  go_enter Tryz.func20, Tryz.ntmps20
  go_wp2
  refine bodyPost_ret (v := .agg #[.int .i64 k, .int .i64 p]) (by simp [results, Tryz.results20, go_sem]) rfl ?_
  exact ⟨rfl, by repeat (with_reducible first | exact Ext.refl _ | refine Ext.set ?_ (by simp) _ _ | refine Ext.al ?_ _ | refine Ext.drewN ?_ _ | refine Ext.drew ?_)⟩
end Go.Proofs.YtlnfmngginihfaaGreatDoor
namespace Go.Proofs.YtlnfmngginihfaaGreatDoor
open Go.RowKit

theorem rleft_i (A : Option Addr) (c : Nat) (xs : List Nat) (S : Int) (w : World) (h : Rd w A c xs) (h0 : 0 ≤ S) (hs : S ≤ 10000000) (hl : xs.length ≤ 10000000) :
    Calls Tryz.prog 105 #[.slice A xs.length c, .int .i64 S] w (Res w (cn (val xs * 2 ^ S.toNat))) := by
  obtain ⟨s, rfl⟩ := Int.eq_ofNat_of_zero_le h0
  exact rleft_c A c xs s w h (by omega) hl
theorem rright_i (A : Option Addr) (c : Nat) (xs : List Nat) (S : Int) (w : World) (h : Rd w A c xs) (h0 : 0 ≤ S) (hs : S ≤ 1000000000) (hl : xs.length ≤ 10000000) :
    Calls Tryz.prog 62 #[.slice A xs.length c, .int .i64 S] w (Res w (cn (val xs / 2 ^ S.toNat))) := by
  obtain ⟨s, rfl⟩ := Int.eq_ofNat_of_zero_le h0
  exact rright_c A c xs s w h (by omega) hl
end Go.Proofs.YtlnfmngginihfaaGreatDoor
