
/- The joined text of segments; segmentations. -/
import Derived.Test.YthokkmbdkjpbcaaGreatSegs
namespace Go.Proofs.YthokkmbdkjpbcaaGreat
set_option linter.unusedVariables false
set_option linter.unusedSimpArgs false
open Go.RowKit

def joined (xs : List Sg) : ByteArray := xs.foldl (fun a x => a ++ x.2) ByteArray.empty
end Go.Proofs.YthokkmbdkjpbcaaGreat
