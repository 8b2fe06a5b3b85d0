
/- Contracts of chapter 9, third part: the narrowest mode; how the laws hand segments on. -/
import Derived.Test.YtbnpdpmbbppnhaaModes2
namespace Go.Proofs.Ytbnpdpmbbppnhaa
set_option linter.unusedVariables false
set_option linter.unusedSimpArgs false
open Go.RowKit

open Classical in
noncomputable def narrowest (s : ByteArray) : Int := if AllIn 1 s then 1 else if AllIn 3 s then 3 else if AllIn 2 s then 2 else 4

end Go.Proofs.Ytbnpdpmbbppnhaa
