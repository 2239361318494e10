/- the references' Left, Low. -/
import Derived.Test.YtbgomnecchgleaaGreatDoorR6
import Derived.Test.YtbgomnecchgleaaGreatDoorW7
set_option linter.unusedVariables false
set_option linter.unusedSimpArgs false
namespace Go.Proofs.YtbgomnecchgleaaGreatDoor
open Go.RowKit

end Go.Proofs.YtbgomnecchgleaaGreatDoor
