
/- Drawn parts of messages. -/
import Derived.Test.YthokkmbdkjpbcaaGreatDrawPay
import Derived.Test.YthokkmbdkjpbcaaGreatCanon
import Derived.Test.YthokkmbdkjpbcaaGreatPart
namespace Go.Proofs.YthokkmbdkjpbcaaGreat
set_option linter.unusedVariables false
set_option linter.unusedSimpArgs false
open Go.RowKit

theorem Src.set {n0 g x i : Nat} {w : World} {v : Value} (h : Src n0 w g) (hx : n0 ≤ x) : Src n0 (w.setCell ⟨x, i, none⟩ v) g := h.low ((Below.refl n0 w).setCell (p := ⟨x, i, none⟩) hx v) (Nat.le_refl _)
theorem But.alloc {g : Nat} {a b : World} (h : But g a b) (o : Obj) : But g a (b.alloc o) := h.trans (But.of ((Ext.refl b).alloc o))
theorem Src.alloc {n0 g : Nat} {w : World} (h : Src n0 w g) (o : Obj) : Src n0 (w.alloc o) g := h.ext ((Ext.refl w).alloc o)
end Go.Proofs.YthokkmbdkjpbcaaGreat
