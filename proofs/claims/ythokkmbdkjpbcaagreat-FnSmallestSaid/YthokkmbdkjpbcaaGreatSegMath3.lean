
/- The best segments are segments; how many bits a segment has. -/
import Derived.Test.YthokkmbdkjpbcaaGreatSegMath
import Derived.Test.YthokkmbdkjpbcaaGreatWrite
import Derived.Test.YthokkmbdkjpbcaaGreatJoin
namespace Go.Proofs.YthokkmbdkjpbcaaGreat
set_option linter.unusedVariables false
set_option linter.unusedSimpArgs false
open Go.RowKit

end Go.Proofs.YthokkmbdkjpbcaaGreat
