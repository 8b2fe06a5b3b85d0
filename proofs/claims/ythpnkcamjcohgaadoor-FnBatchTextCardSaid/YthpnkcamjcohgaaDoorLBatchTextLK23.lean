/- How the reference reads a segment. -/
import Derived.Test.YthpnkcamjcohgaaDoorLBatchTextLK18
import Derived.Test.YthpnkcamjcohgaaDoorLBatchTextLK10
import Derived.Test.YthpnkcamjcohgaaDoorLBatchTextLK16
import Derived.Test.YthpnkcamjcohgaaDoorLBatchTextLK19
import Derived.Test.YthpnkcamjcohgaaDoorLBatchTextLK17
import Derived.Test.YthpnkcamjcohgaaDoorLBatchTextLK21
import Derived.Test.YthpnkcamjcohgaaDoorLBatchTextLK22
import Derived.Test.YthpnkcamjcohgaaDoorLBatchTextLK03
namespace Go.Proofs.YthpnkcamjcohgaaDoor
set_option linter.unusedVariables false
set_option linter.unusedSimpArgs false
open Go.RowKit

end Go.Proofs.YthpnkcamjcohgaaDoor
/- The width of a field, the size of a payload. -/
namespace Go.Proofs.YthpnkcamjcohgaaDoor
set_option linter.unusedVariables false
set_option linter.unusedSimpArgs false
open Go.RowKit

end Go.Proofs.YthpnkcamjcohgaaDoor
/- WriteMessage. -/
namespace Go.Proofs.YthpnkcamjcohgaaDoor
set_option linter.unusedVariables false
set_option linter.unusedSimpArgs false
open Go.RowKit

end Go.Proofs.YthpnkcamjcohgaaDoor
/- The reference's payload: bits filled up, elements. -/
/-! The reference's payload: bits filled up, elements. -/
namespace Go.Proofs.YthpnkcamjcohgaaDoor
set_option linter.unusedVariables false
set_option linter.unusedSimpArgs false
open Go.RowKit

theorem RowI.sl {B n : Nat} {w : World} {v : Value} {xs : List Int} (h : RowI B w v xs) (hn : xs.length = n) : ∃ p c, v = .slice p n c := by
  obtain ⟨p, c, hv, _⟩ := h.own
  exact ⟨p, c, by rw [hv, hn]⟩
end Go.Proofs.YthpnkcamjcohgaaDoor

/-! EncodePayload. -/
/-! EncodePayload. -/
namespace Go.Proofs.YthpnkcamjcohgaaDoor
set_option linter.unusedVariables false
set_option linter.unusedSimpArgs false
open Go.RowKit

end Go.Proofs.YthpnkcamjcohgaaDoor

/-! The reference's EncodePayload; the walk of the law FnExactEncodePayload. -/
namespace Go.Proofs.YthpnkcamjcohgaaDoor
set_option linter.unusedVariables false
set_option linter.unusedSimpArgs false
open Go.RowKit

end Go.Proofs.YthpnkcamjcohgaaDoor
