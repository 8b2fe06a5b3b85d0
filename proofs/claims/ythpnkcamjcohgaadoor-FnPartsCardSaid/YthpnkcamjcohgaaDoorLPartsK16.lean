/- How the reference reads a segment. -/
import Derived.Test.YthpnkcamjcohgaaDoorLPartsK15
namespace Go.Proofs.YthpnkcamjcohgaaDoor
set_option linter.unusedVariables false
set_option linter.unusedSimpArgs false
open Go.RowKit

end Go.Proofs.YthpnkcamjcohgaaDoor
