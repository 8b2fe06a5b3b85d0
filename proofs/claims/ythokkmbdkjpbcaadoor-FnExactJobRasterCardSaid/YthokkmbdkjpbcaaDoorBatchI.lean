
/- Valid batches, the program's side. -/
import Derived.Test.YthokkmbdkjpbcaaDoorBatch
namespace Go.Proofs.YthokkmbdkjpbcaaDoor
set_option linter.unusedVariables false
set_option linter.unusedSimpArgs false
open Go.RowKit

end Go.Proofs.YthokkmbdkjpbcaaDoor
