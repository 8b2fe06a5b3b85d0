
/- Drawn grids. -/
import Derived.Test.YthokkmbdkjpbcaaGreatDrawPart
import Derived.Test.YthokkmbdkjpbcaaGreatBands
import Derived.Test.YthokkmbdkjpbcaaGreatGridLaw
import Derived.Test.YthokkmbdkjpbcaaGreatBase
import Derived.Deep.DeepCutAuto
import Derived.Deep.CutBlock
/-! Drawn grids. -/
namespace Go.Proofs.YthokkmbdkjpbcaaGreat
set_option linter.unusedVariables false
set_option linter.unusedSimpArgs false
open Go.RowKit

end Go.Proofs.YthokkmbdkjpbcaaGreat

/-! Drawn prints. -/
namespace Go.Proofs.YthokkmbdkjpbcaaGreat
set_option linter.unusedVariables false
set_option linter.unusedSimpArgs false
open Go.RowKit

end Go.Proofs.YthokkmbdkjpbcaaGreat
