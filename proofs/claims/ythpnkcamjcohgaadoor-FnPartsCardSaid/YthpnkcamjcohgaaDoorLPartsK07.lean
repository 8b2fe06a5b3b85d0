/- How a segment is written: the bits, and the reference's walk. -/
import Derived.Test.YthpnkcamjcohgaaDoorLPartsK04
import Derived.Test.YthpnkcamjcohgaaDoorLPartsK06
namespace Go.Proofs.YthpnkcamjcohgaaDoor
set_option linter.unusedVariables false
set_option linter.unusedSimpArgs false
open Go.RowKit

def gN (m : Int) (t : ByteArray) (at_ : Nat) : Nat := min (grp m).toNat (t.size - at_)
end Go.Proofs.YthpnkcamjcohgaaDoor
