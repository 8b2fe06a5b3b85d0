
/- How a segment is written: the bits, and the reference's walk. -/
import Derived.Test.YthokkmbdkjpbcaaGreatBits
import Derived.Test.YthokkmbdkjpbcaaGreatModes
namespace Go.Proofs.YthokkmbdkjpbcaaGreat
set_option linter.unusedVariables false
set_option linter.unusedSimpArgs false
open Go.RowKit

end Go.Proofs.YthokkmbdkjpbcaaGreat
