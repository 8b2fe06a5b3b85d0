
/- How the laws measure, copy and compare batches. -/
import Derived.Test.YthpnkcamjcohgaaDoorBatchI
namespace Go.Proofs.YthpnkcamjcohgaaDoor
set_option linter.unusedVariables false
set_option linter.unusedSimpArgs false
open Go.RowKit

end Go.Proofs.YthpnkcamjcohgaaDoor
