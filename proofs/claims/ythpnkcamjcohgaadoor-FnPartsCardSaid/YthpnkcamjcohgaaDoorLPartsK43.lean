/- The bits of elements. -/
import Derived.Test.YthpnkcamjcohgaaDoorLPartsK22
import Derived.Test.YthpnkcamjcohgaaDoorLPartsK15
import Derived.Test.YthpnkcamjcohgaaDoorLPartsK16
import Derived.Test.YthpnkcamjcohgaaDoorLPartsK12
import Derived.Test.YthpnkcamjcohgaaDoorLPartsK13
import Derived.Test.YthpnkcamjcohgaaDoorLPartsK40
/-! The bits of elements. -/
namespace Go.Proofs.YthpnkcamjcohgaaDoor
set_option linter.unusedVariables false
set_option linter.unusedSimpArgs false
open Go.RowKit

theorem RowI.room {B : Nat} {w : World} (hB : B ≤ w.heap.size) (z : Array Value) (n : Nat) (hz : z.size = 1) (hn : n ≤ maxLen) : RowI B (w.alloc (.cells (madeCells z n) 2)) (.slice (some ⟨w.heap.size, 0, none⟩) 0 n) [] :=
  World.ownsRow_made w _ n hB hn (by simp [size_madeCells, hz])
theorem CalcB.lt {w : World} {g : Nat} {bin : Bool} {size : Int} (h : CalcB w g bin size) : g < w.heap.size := by
  obtain ⟨cs, h, _⟩ := h
  exact h.lt
end Go.Proofs.YthpnkcamjcohgaaDoor

/-! The reference's element bits. -/
namespace Go.Proofs.YthpnkcamjcohgaaDoor
set_option linter.unusedVariables false
set_option linter.unusedSimpArgs false
open Go.RowKit

end Go.Proofs.YthpnkcamjcohgaaDoor

/-! Lists of segments that are read. -/
namespace Go.Proofs.YthpnkcamjcohgaaDoor
set_option linter.unusedVariables false
set_option linter.unusedSimpArgs false
open Go.RowKit

end Go.Proofs.YthpnkcamjcohgaaDoor

/-! Payloads that are read. -/
namespace Go.Proofs.YthpnkcamjcohgaaDoor
set_option linter.unusedVariables false
set_option linter.unusedSimpArgs false
open Go.RowKit

end Go.Proofs.YthpnkcamjcohgaaDoor

/-! Payloads that are decoded. -/
namespace Go.Proofs.YthpnkcamjcohgaaDoor
set_option linter.unusedVariables false
set_option linter.unusedSimpArgs false
open Go.RowKit

end Go.Proofs.YthpnkcamjcohgaaDoor
