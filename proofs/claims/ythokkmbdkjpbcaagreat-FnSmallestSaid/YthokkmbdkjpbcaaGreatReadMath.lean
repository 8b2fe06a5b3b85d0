
/- What was written is read again. -/
import Derived.Test.YthokkmbdkjpbcaaGreatReadSeg2
import Derived.Test.YthokkmbdkjpbcaaGreatWriteS
import Derived.Test.YthokkmbdkjpbcaaGreatSegMath3
/-! What was written is read again. -/
namespace Go.Proofs.YthokkmbdkjpbcaaGreat
set_option linter.unusedVariables false
set_option linter.unusedSimpArgs false
open Go.RowKit

end Go.Proofs.YthokkmbdkjpbcaaGreat

/-! A segment that is read has been written with just these bits. -/
namespace Go.Proofs.YthokkmbdkjpbcaaGreat
set_option linter.unusedVariables false
set_option linter.unusedSimpArgs false
open Go.RowKit

end Go.Proofs.YthokkmbdkjpbcaaGreat
