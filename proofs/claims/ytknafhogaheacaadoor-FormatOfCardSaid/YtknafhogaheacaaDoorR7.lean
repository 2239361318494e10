/- the references' Left, Low. -/
import Derived.Test.YtknafhogaheacaaDoorR6
import Derived.Test.YtknafhogaheacaaDoorW7
set_option linter.unusedVariables false
set_option linter.unusedSimpArgs false
namespace Go.Proofs.YtknafhogaheacaaDoor
open Go.RowKit

end Go.Proofs.YtknafhogaheacaaDoor
