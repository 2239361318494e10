/- package format: Value, where it hands back a finite number. -/
import Derived.Test.YtknafhogaheacaaDoorT3
set_option linter.unusedVariables false
set_option linter.unusedSimpArgs false
namespace Go.Proofs.YtknafhogaheacaaDoor
open Go.RowKit
attribute [local go_sem ↓] Go.wp_at_zero Go.wp_at_succ

end Go.Proofs.YtknafhogaheacaaDoor
