
/- Parts of a message: validity, bits. -/
import Derived.Test.YthokkmbdkjpbcaaGreatEncode
namespace Go.Proofs.YthokkmbdkjpbcaaGreat
set_option linter.unusedVariables false
set_option linter.unusedSimpArgs false
open Go.RowKit

abbrev vPart (i n y : Int) (t : ByteArray) : Value := .agg #[.int .i64 i, .int .i64 n, .int .i64 y, .string t]
end Go.Proofs.YthokkmbdkjpbcaaGreat
