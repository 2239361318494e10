/- the reference's formats: Right, Greatest, Least, Tiny, Large, In, Check. -/
import Derived.Test.YtbgomnecchgleaaGreatDoorS2
import Derived.Test.YtbgomnecchgleaaGreatDoorQ0
set_option linter.unusedVariables false
set_option linter.unusedSimpArgs false
namespace Go.Proofs.YtbgomnecchgleaaGreatDoor
open Go.RowKit
attribute [local go_sem ↓] Go.wp_at_zero Go.wp_at_succ

/-- The error of a format, and of floats of it (with few words). -/
def chkS (k p : Int) (l : List FA) : Int := if Rgt k p then (if l.all (fun a => (holdS k p a.can).isSome) then 0 else 151) else 150
theorem holdS_isSome {k p : Int} {o : Option Fl} : (holdS k p o).isSome = match o with | none => false | some f => decide (InF k p f) := by
  cases o with
  | none => rfl
  | some f =>
    unfold holdS
    simp only [Option.bind_some]
    by_cases h : InF k p f <;> simp [h]
end Go.Proofs.YtbgomnecchgleaaGreatDoor
