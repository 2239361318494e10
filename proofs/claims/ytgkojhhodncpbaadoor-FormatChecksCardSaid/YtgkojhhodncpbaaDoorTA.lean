/- package reckonerlaw15: Fmt. -/
import Derived.Test.YtgkojhhodncpbaaDoorB0
set_option linter.unusedVariables false
set_option linter.unusedSimpArgs false
namespace Go.Proofs.YtgkojhhodncpbaaDoor
open Go.RowKit

set_option maxHeartbeats 1000000 in
set_option maxRecDepth 100000 in
theorem fmt_c (k p : Int) (w : World) : Calls Tryd.prog 11 #[.agg #[.int .i64 k, .int .i64 p]] w fun e w' => e = .returned (.agg #[.int .i64 k, .int .i64 p]) ∧ Ext w w' := by
  go_enter Tryd.func11, Tryd.ntmps11
  go_wp2
  refine bodyPost_ret (v := .agg #[.int .i64 k, .int .i64 p]) (by simp [results, Tryd.results11, go_sem]) rfl ?_
  exact ⟨rfl, by repeat (with_reducible first | exact Ext.refl _ | refine Ext.set ?_ (by simp) _ _ | refine Ext.al ?_ _ | refine Ext.drewN ?_ _ | refine Ext.drew ?_)⟩
end Go.Proofs.YtgkojhhodncpbaaDoor
