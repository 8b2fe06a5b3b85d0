/- The reference's best segments; marking lists of segments. -/
import Derived.Test.YthpnkcamjcohgaaDoorLPartsK13
import Derived.Test.YthpnkcamjcohgaaDoorLPartsK12
import Derived.Test.YthpnkcamjcohgaaDoorLPartsK03
import Derived.Test.YthpnkcamjcohgaaDoorLPartsK05
/-! The reference's best segments; marking lists of segments. -/
namespace Go.Proofs.YthpnkcamjcohgaaDoor
set_option linter.unusedVariables false
set_option linter.unusedSimpArgs false
open Go.RowKit

end Go.Proofs.YthpnkcamjcohgaaDoor

/-! Marks: the text of a mark. -/
/-! Marks: the text of a mark. -/
namespace Go.Proofs.YthpnkcamjcohgaaDoor
set_option linter.unusedVariables false
set_option linter.unusedSimpArgs false
open Go.RowKit

end Go.Proofs.YthpnkcamjcohgaaDoor

/-! Marking and holding lists of segments. -/
namespace Go.Proofs.YthpnkcamjcohgaaDoor
set_option linter.unusedVariables false
set_option linter.unusedSimpArgs false
open Go.RowKit

theorem OwnCells.at {B : Nat} {w : World} {p : Option Addr} {P c R : List Value} (h : OwnCells B w p (P ++ (c ++ R))) {j n : Nat} (hn : n = P.length + j) (hj : j < c.length) :
    ∃ b o, p = some ⟨b, o, none⟩ ∧ B ≤ b ∧ b < w.heap.size ∧ w.cell? ⟨b, o + n, none⟩ = some (c[j]'hj) ∧ w.frozen? ⟨b, o + n, none⟩ = false := by
  subst hn
  obtain ⟨b, o, h1, h2, h3, h4, h5⟩ := h (P.length + j) (by simp; omega)
  refine ⟨b, o, h1, h2, h3, ?_, h5⟩
  rw [h4, List.getElem_append_right (by omega)]
  simp only [Nat.add_sub_cancel_left]
  rw [List.getElem_append_left hj]

end Go.Proofs.YthpnkcamjcohgaaDoor

/-! BestSegments: the law's walk. -/
namespace Go.Proofs.YthpnkcamjcohgaaDoor
set_option linter.unusedVariables false
set_option linter.unusedSimpArgs false
open Go.RowKit

end Go.Proofs.YthpnkcamjcohgaaDoor
