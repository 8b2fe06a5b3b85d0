
/- The reference's best segments; marking lists of segments. -/
import Derived.Test.YthjklchmjeojjaaSegs
import Derived.Test.YthjklchmjeojjaaTab
namespace Go.Proofs.Ythjklchmjeojjaa
set_option linter.unusedVariables false
set_option linter.unusedSimpArgs false
open Go.RowKit

end Go.Proofs.Ythjklchmjeojjaa
