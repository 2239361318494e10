/- the references' Times, Left. -/
import Derived.Test.YtbgomnecchgleaaGreatDoorR4
set_option linter.unusedVariables false
set_option linter.unusedSimpArgs false
namespace Go.Proofs.YtbgomnecchgleaaGreatDoor
open Go.RowKit

end Go.Proofs.YtbgomnecchgleaaGreatDoor
