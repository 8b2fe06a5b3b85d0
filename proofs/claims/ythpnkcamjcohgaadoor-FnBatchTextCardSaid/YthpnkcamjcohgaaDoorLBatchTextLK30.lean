/- How the laws measure, copy and compare batches. -/
import Derived.Test.YthpnkcamjcohgaaDoorLBatchTextLK29
namespace Go.Proofs.YthpnkcamjcohgaaDoor
set_option linter.unusedVariables false
set_option linter.unusedSimpArgs false
open Go.RowKit

end Go.Proofs.YthpnkcamjcohgaaDoor
