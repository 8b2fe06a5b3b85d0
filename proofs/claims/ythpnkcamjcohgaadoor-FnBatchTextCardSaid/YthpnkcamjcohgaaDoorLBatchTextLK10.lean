/- The reference's fields: multiplication by the generator, the powers, valid fields. -/
import Derived.Test.YthpnkcamjcohgaaDoorLBatchTextLK09
/-! The reference's fields: multiplication by the generator, the powers, valid fields. -/
namespace Go.Proofs.YthpnkcamjcohgaaDoor
set_option linter.unusedVariables false
set_option linter.unusedSimpArgs false
open Go.RowKit

end Go.Proofs.YthpnkcamjcohgaaDoor

/-! The reference's IsField. -/
namespace Go.Proofs.YthpnkcamjcohgaaDoor
set_option linter.unusedVariables false
set_option linter.unusedSimpArgs false
open Go.RowKit

end Go.Proofs.YthpnkcamjcohgaaDoor
