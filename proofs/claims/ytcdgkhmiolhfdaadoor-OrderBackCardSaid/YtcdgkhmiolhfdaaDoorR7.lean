/- the references' Left, Low. -/
import Derived.Test.YtcdgkhmiolhfdaaDoorR6
import Derived.Test.YtcdgkhmiolhfdaaDoorW7
set_option linter.unusedVariables false
set_option linter.unusedSimpArgs false
namespace Go.Proofs.YtcdgkhmiolhfdaaDoor
open Go.RowKit

end Go.Proofs.YtcdgkhmiolhfdaaDoor
