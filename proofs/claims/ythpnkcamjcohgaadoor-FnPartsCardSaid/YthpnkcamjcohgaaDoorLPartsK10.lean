/- How the program writes a segment. -/
import Derived.Test.YthpnkcamjcohgaaDoorLPartsK07
import Derived.Test.YthpnkcamjcohgaaDoorLPartsK09
import Derived.Lib.SlBytesRow
import Derived.Test.YthpnkcamjcohgaaDoorLPartsK04
import Derived.Conc.LoneCalls
import Derived.Test.YthpnkcamjcohgaaDoorLPartsK05
import Derived.Deep.Cut
/-! How the program writes a segment. -/
namespace Go.Proofs.YthpnkcamjcohgaaDoor
set_option linter.unusedVariables false
set_option linter.unusedSimpArgs false
open Go.RowKit

def iBase (m : Int) : Int := if m = 1 then 10 else if m = 2 then 45 else if m = 3 then 32 else 256
end Go.Proofs.YthpnkcamjcohgaaDoor

/-! Reading a segment from bits: the numbers, the plain reading. -/
namespace Go.Proofs.YthpnkcamjcohgaaDoor
set_option linter.unusedVariables false
set_option linter.unusedSimpArgs false
open Go.RowKit

end Go.Proofs.YthpnkcamjcohgaaDoor
/- Channels in one goroutine: a send into a buffer with room, a receive, in a walk of the kit's own. -/
/-! Channels in one goroutine: a send into a buffer with room, a receive, in a walk of the kit's own. -/
namespace Go.Proofs.YthpnkcamjcohgaaDoor
set_option linter.unusedVariables false
set_option linter.unusedSimpArgs false
open Go.RowKit Go.Conc

section
variable {P : Program} {ops : Array Oper} {Q : Exit → Act → World → Prop} {i : Nat} {rest : List Nat} {o : Oper} {a : Act} {w : World}
end

/-- A channel of room for so many, which holds these numbers. -/
def ChanI (w : World) (c cap : Nat) (xs : List Int) (closed : Bool) : Prop := ∃ s r, w.heap[c]? = some (.chan cap (xs.map (Value.int .i64)).toArray closed s r false)
theorem ChanI.lt {w : World} {c cap : Nat} {xs : List Int} {closed : Bool} (h : ChanI w c cap xs closed) : c < w.heap.size := by
  obtain ⟨s, r, h⟩ := h
  exact (Array.getElem?_eq_some_iff.1 h).1
theorem ChanI.ext {w w' : World} {c cap : Nat} {xs : List Int} {closed : Bool} (h : ChanI w c cap xs closed) (hb : Ext w w') : ChanI w' c cap xs closed := by
  have hl := h.lt
  obtain ⟨s, r, h⟩ := h
  exact ⟨s, r, (hb.below.block c hl).trans h⟩
end Go.Proofs.YthpnkcamjcohgaaDoor

/-! A payload's bits, sent over a channel. -/
namespace Go.Proofs.YthpnkcamjcohgaaDoor
set_option linter.unusedVariables false
set_option linter.unusedSimpArgs false
open Go.RowKit Go.Conc

end Go.Proofs.YthpnkcamjcohgaaDoor

/-! The elements of bits that come over a channel. -/
namespace Go.Proofs.YthpnkcamjcohgaaDoor
set_option linter.unusedVariables false
set_option linter.unusedSimpArgs false
open Go.RowKit Go.Conc

theorem ChanI.low {B : Nat} {w w' : World} {c cap : Nat} {xs : List Int} {closed : Bool} (h : ChanI w c cap xs closed) (hb : Below B w w') (hB : c < B) : ChanI w' c cap xs closed := by
  obtain ⟨s, r, h⟩ := h
  exact ⟨s, r, (hb.block c hB).trans h⟩

end Go.Proofs.YthpnkcamjcohgaaDoor
