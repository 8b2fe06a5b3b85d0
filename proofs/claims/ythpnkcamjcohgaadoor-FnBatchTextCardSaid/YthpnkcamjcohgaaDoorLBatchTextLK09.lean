/- The arithmetic of a field: the tables are filled. -/
import Derived.Test.YthpnkcamjcohgaaDoorLBatchTextLK00
import Derived.Test.YthpnkcamjcohgaaDoorLBatchTextLK05
import Derived.Test.YthpnkcamjcohgaaDoorLBatchTextLK04
/-! The arithmetic of a field: the tables are filled. -/
namespace Go.Proofs.YthpnkcamjcohgaaDoor
set_option linter.unusedVariables false
set_option linter.unusedSimpArgs false
open Go.RowKit

/-- What a field's arithmetic keeps beside the tables. -/
def CalcS (cs : Array Value) (bin : Bool) (size : Int) : Prop := cs.size = 2044 ∧ cs[0]? = some (.bool bin) ∧ cs[1]? = some (.int .i64 size) ∧ ∀ i, 2 ≤ i → i < 2044 → ∃ n, cs[i]? = some (.int .i64 n)
theorem CalcS.set {cs : Array Value} {bin : Bool} {size : Int} (h : CalcS cs bin size) {i : Nat} (hi : 2 ≤ i) (n : Int) : CalcS (cs.setIfInBounds i (.int .i64 n)) bin size := by
  obtain ⟨h1, h2, h3, h4⟩ := h
  refine ⟨by simpa using h1, by rw [Array.getElem?_setIfInBounds_ne (by omega)]; exact h2, by rw [Array.getElem?_setIfInBounds_ne (by omega)]; exact h3, fun j h5 h6 => ?_⟩
  by_cases e : i = j
  · subst e
    exact ⟨n, by rw [Array.getElem?_setIfInBounds_self_of_lt (by omega)]⟩
  · rw [Array.getElem?_setIfInBounds_ne e]
    exact h4 j h5 h6
/-- A block holds the arithmetic of a field with so many elements. -/
def CalcB (w : World) (g : Nat) (bin : Bool) (size : Int) : Prop := ∃ cs, Blk w g cs 155 ∧ CalcS cs bin size
theorem CalcB.ext {w w' : World} {g : Nat} {bin : Bool} {size : Int} (h : CalcB w g bin size) (hb : Ext w w') : CalcB w' g bin size := by
  obtain ⟨cs, h1, h2⟩ := h
  exact ⟨cs, h1.ext hb, h2⟩
end Go.Proofs.YthpnkcamjcohgaaDoor

/-! The arithmetic of a field of prime size. -/
namespace Go.Proofs.YthpnkcamjcohgaaDoor
set_option linter.unusedVariables false
set_option linter.unusedSimpArgs false
open Go.RowKit

end Go.Proofs.YthpnkcamjcohgaaDoor

/-! Prime numbers; the arithmetic of a field of prime size, found. -/
namespace Go.Proofs.YthpnkcamjcohgaaDoor
set_option linter.unusedVariables false
set_option linter.unusedSimpArgs false
open Go.RowKit

end Go.Proofs.YthpnkcamjcohgaaDoor

/-! The arithmetic of a field of prime size: it is found just where the field is valid. -/
namespace Go.Proofs.YthpnkcamjcohgaaDoor
set_option linter.unusedVariables false
set_option linter.unusedSimpArgs false
open Go.RowKit

abbrev vFld (p k q : Int) : Value := .agg #[.int .i64 p, .int .i64 k, .int .i64 q]
end Go.Proofs.YthpnkcamjcohgaaDoor

/-! The arithmetic of a binary field. -/
namespace Go.Proofs.YthpnkcamjcohgaaDoor
set_option linter.unusedVariables false
set_option linter.unusedSimpArgs false
open Go.RowKit

end Go.Proofs.YthpnkcamjcohgaaDoor

/-! calc, whole. -/
namespace Go.Proofs.YthpnkcamjcohgaaDoor
set_option linter.unusedVariables false
set_option linter.unusedSimpArgs false
open Go.RowKit

end Go.Proofs.YthpnkcamjcohgaaDoor
