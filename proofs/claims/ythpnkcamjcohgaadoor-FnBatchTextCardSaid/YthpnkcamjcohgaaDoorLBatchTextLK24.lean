/- A field of a size, and drawn fields. -/
import Derived.Test.YthpnkcamjcohgaaDoorLBatchTextLK10
import Derived.Test.YthpnkcamjcohgaaDoorLBatchTextLK06
import Derived.Test.YthpnkcamjcohgaaDoorLBatchTextLK20
import Derived.Test.YthpnkcamjcohgaaDoorLBatchTextLK21
import Derived.Test.YthpnkcamjcohgaaDoorLBatchTextLK23
import Derived.Test.YthpnkcamjcohgaaDoorLBatchTextLK01
/-! A field of a size, and drawn fields. -/
namespace Go.Proofs.YthpnkcamjcohgaaDoor
set_option linter.unusedVariables false
set_option linter.unusedSimpArgs false
open Go.RowKit

end Go.Proofs.YthpnkcamjcohgaaDoor

/-! Drawn fields. -/
namespace Go.Proofs.YthpnkcamjcohgaaDoor
set_option linter.unusedVariables false
set_option linter.unusedSimpArgs false
open Go.RowKit

end Go.Proofs.YthpnkcamjcohgaaDoor

/-! Drawn payloads. -/
namespace Go.Proofs.YthpnkcamjcohgaaDoor
set_option linter.unusedVariables false
set_option linter.unusedSimpArgs false
open Go.RowKit

end Go.Proofs.YthpnkcamjcohgaaDoor
/- Parts of a message: validity, bits. -/
namespace Go.Proofs.YthpnkcamjcohgaaDoor
set_option linter.unusedVariables false
set_option linter.unusedSimpArgs false
open Go.RowKit

abbrev vPart (i n y : Int) (t : ByteArray) : Value := .agg #[.int .i64 i, .int .i64 n, .int .i64 y, .string t]
end Go.Proofs.YthpnkcamjcohgaaDoor
/- Drawn parts of messages. -/
namespace Go.Proofs.YthpnkcamjcohgaaDoor
set_option linter.unusedVariables false
set_option linter.unusedSimpArgs false
open Go.RowKit

theorem Src.set {n0 g x i : Nat} {w : World} {v : Value} (h : Src n0 w g) (hx : n0 ≤ x) : Src n0 (w.setCell ⟨x, i, none⟩ v) g := h.low ((Below.refl n0 w).setCell (p := ⟨x, i, none⟩) hx v) (Nat.le_refl _)
theorem But.setOld {g x i : Nat} {a b : World} {v : Value} (h : But g a b) (hx : a.heap.size ≤ x) : But g a (b.setCell ⟨x, i, none⟩ v) := h.below ((Below.refl a.heap.size b).setCell (p := ⟨x, i, none⟩) hx v) (Nat.le_refl _)
theorem But.alloc {g : Nat} {a b : World} (h : But g a b) (o : Obj) : But g a (b.alloc o) := h.trans (But.of ((Ext.refl b).alloc o))
theorem Src.alloc {n0 g : Nat} {w : World} (h : Src n0 w g) (o : Obj) : Src n0 (w.alloc o) g := h.ext ((Ext.refl w).alloc o)
end Go.Proofs.YthpnkcamjcohgaaDoor
