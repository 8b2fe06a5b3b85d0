
/- How the laws copy, compare and mark grids. -/
import Derived.Test.YthokkmbdkjpbcaaGreatBands
import Derived.Test.YthokkmbdkjpbcaaGreatWriteS
import Derived.Test.YthokkmbdkjpbcaaGreatInts
namespace Go.Proofs.YthokkmbdkjpbcaaGreat
set_option linter.unusedVariables false
set_option linter.unusedSimpArgs false
open Go.RowKit

end Go.Proofs.YthokkmbdkjpbcaaGreat
