/- Drawn texts; names of modes. -/
import Derived.Test.YthpnkcamjcohgaaDoorLBatchTextLK06
import Derived.Test.YthpnkcamjcohgaaDoorLBatchTextLK01
import Derived.Test.YthpnkcamjcohgaaDoorLBatchTextLK03
import Derived.Test.YthpnkcamjcohgaaDoorLBatchTextLK11
import Derived.Test.YthpnkcamjcohgaaDoorLBatchTextLK04
import Derived.Test.YthpnkcamjcohgaaDoorLBatchTextLK05
/-! Drawn texts; names of modes. -/
namespace Go.Proofs.YthpnkcamjcohgaaDoor
set_option linter.unusedVariables false
set_option linter.unusedSimpArgs false
open Go.RowKit

theorem RowB.but {g B : Nat} {a b : World} {v : Value} {s : ByteArray} (h : RowB B a v s) (k : But g a b) (hg : g < B) : RowB B b v s := by
  refine ⟨h.1, ?_⟩
  rcases h.2 with h2 | ⟨g', cap, cur, hv, hg', hh, r⟩
  · exact .inl h2
  · exact .inr ⟨g', cap, cur, hv, hg', by rw [k.block g' (Array.getElem?_eq_some_iff.1 hh).1 (by omega)]; exact hh, r⟩

end Go.Proofs.YthpnkcamjcohgaaDoor

/-! A string of zero bytes. -/
namespace Go.Proofs.YthpnkcamjcohgaaDoor
set_option linter.unusedVariables false
set_option linter.unusedSimpArgs false
open Go.RowKit

end Go.Proofs.YthpnkcamjcohgaaDoor
/- How a segment is written: the bits, and the reference's walk. -/
namespace Go.Proofs.YthpnkcamjcohgaaDoor
set_option linter.unusedVariables false
set_option linter.unusedSimpArgs false
open Go.RowKit

def gN (m : Int) (t : ByteArray) (at_ : Nat) : Nat := min (grp m).toNat (t.size - at_)
end Go.Proofs.YthpnkcamjcohgaaDoor
