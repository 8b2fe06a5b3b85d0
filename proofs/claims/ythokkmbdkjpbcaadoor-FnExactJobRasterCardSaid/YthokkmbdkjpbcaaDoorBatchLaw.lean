
/- How the laws measure, copy and compare batches. -/
import Derived.Test.YthokkmbdkjpbcaaDoorBatchI
namespace Go.Proofs.YthokkmbdkjpbcaaDoor
set_option linter.unusedVariables false
set_option linter.unusedSimpArgs false
open Go.RowKit

end Go.Proofs.YthokkmbdkjpbcaaDoor
