
/- How the reference reads a segment. -/
import Derived.Test.YthokkmbdkjpbcaaGreatReadSeg2
namespace Go.Proofs.YthokkmbdkjpbcaaGreat
set_option linter.unusedVariables false
set_option linter.unusedSimpArgs false
open Go.RowKit

end Go.Proofs.YthokkmbdkjpbcaaGreat

