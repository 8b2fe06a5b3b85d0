/- How the program reads a segment. -/
import Derived.Test.YthpnkcamjcohgaaDoorLPartsK10
import Derived.Test.YthpnkcamjcohgaaDoorLPartsK03
import Derived.Test.YthpnkcamjcohgaaDoorLPartsK14
/-! How the program reads a segment. -/
namespace Go.Proofs.YthpnkcamjcohgaaDoor
set_option linter.unusedVariables false
set_option linter.unusedSimpArgs false
open Go.RowKit

def chr (m v : Int) : UInt8 := if m = 4 then UInt8.ofNat v.toNat else (modeSet m).data.toList.getD v.toNat 0
/-- g divided j times by b. -/
def gq (g b : Int) : Nat → Int
  | 0 => g
  | j + 1 => gq g b j / b
/-- The bytes of a group of n. -/
def dig (m g : Int) (n : Nat) : List UInt8 := (List.range n).map fun i => chr m (gq g (iBase m) (n - 1 - i) % iBase m)
/-- The last j bytes of a group stand in the cells. -/
def PTab (m g : Int) (n : Nat) (cs : Array Value) (j : Nat) : Prop := cs.size = n ∧ ∀ q, q < n → n ≤ q + j → cs[q]? = some (.int .u8 (chr m (gq g (iBase m) (n - 1 - q) % iBase m)).toNat)
theorem PTab.step {m g : Int} {n : Nat} {cs : Array Value} {j : Nat} (h : PTab m g n cs j) (hj : j < n) : PTab m g n (cs.setIfInBounds (n - 1 - j) (.int .u8 (chr m (gq g (iBase m) j % iBase m)).toNat)) (j + 1) := by
  refine ⟨by simpa using h.1, fun q h1 h2 => ?_⟩
  by_cases e : q = n - 1 - j
  · subst e
    rw [Array.getElem?_setIfInBounds_self_of_lt (by rw [h.1]; omega), show n - 1 - (n - 1 - j) = j by omega]
  · rw [Array.getElem?_setIfInBounds_ne (by omega)]
    exact h.2 q h1 (by omega)
theorem PTab.all {m g : Int} {n : Nat} {cs : Array Value} (h : PTab m g n cs n) : cs.toList = Lib.strCells ⟨(dig m g n).toArray⟩ := by
  apply List.ext_getElem?
  intro q
  by_cases hq : q < n
  · have := h.2 q hq (by omega)
    rw [Array.getElem?_toList, this]
    simp [Lib.strCells, dig, hq]
  · rw [List.getElem?_eq_none (by rw [Array.length_toList, h.1]; omega), List.getElem?_eq_none (by simp [Lib.strCells, dig]; omega)]
end Go.Proofs.YthpnkcamjcohgaaDoor

/-! The walk of readSegment. -/
namespace Go.Proofs.YthpnkcamjcohgaaDoor
set_option linter.unusedVariables false
set_option linter.unusedSimpArgs false
open Go.RowKit

section
variable {ops : Array Oper} {Q : Exit → Act → World → Prop} {rest : List Oper} {a : Act} {dst : Option Tmp} {s x : Operand} {ty : TypeId} {pos : String} {after : Array Edge} {B : Nat} {w0 : World} {v : Value} {xs : ByteArray}
end

end Go.Proofs.YthpnkcamjcohgaaDoor

/-! readSegment, whole. -/
namespace Go.Proofs.YthpnkcamjcohgaaDoor
set_option linter.unusedVariables false
set_option linter.unusedSimpArgs false
open Go.RowKit

end Go.Proofs.YthpnkcamjcohgaaDoor
