
/- The reference's best segments; marking lists of segments. -/
import Derived.Test.YtamgbmoeanmfaaaSegs
import Derived.Test.YtamgbmoeanmfaaaTab
namespace Go.Proofs.Ytamgbmoeanmfaaa
set_option linter.unusedVariables false
set_option linter.unusedSimpArgs false
open Go.RowKit

end Go.Proofs.Ytamgbmoeanmfaaa
