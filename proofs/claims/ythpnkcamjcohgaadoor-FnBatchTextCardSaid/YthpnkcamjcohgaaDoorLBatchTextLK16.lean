/- The best length and the best segments. -/
import Derived.Test.YthpnkcamjcohgaaDoorLBatchTextLK15
import Derived.Test.YthpnkcamjcohgaaDoorLBatchTextLK13
import Derived.Test.YthpnkcamjcohgaaDoorLBatchTextLK04
import Derived.Test.YthpnkcamjcohgaaDoorLBatchTextLK01
/-! The best length and the best segments. -/
namespace Go.Proofs.YthpnkcamjcohgaaDoor
set_option linter.unusedVariables false
set_option linter.unusedSimpArgs false
open Go.RowKit

end Go.Proofs.YthpnkcamjcohgaaDoor

/-! The specification's table. -/
namespace Go.Proofs.YthpnkcamjcohgaaDoor
set_option linter.unusedVariables false
set_option linter.unusedSimpArgs false
open Go.RowKit

/-- The table in a round: the shorter rests are there, and the best choice so far where there is one. -/
def WTb (s : ByteArray) (cs : Array Value) (d : Nat) (b : Cell) : Prop := DTab s cs d ∧ (b.cnt ≠ 0 → ∀ k, k < 4 → cs[(s.size - 1 - d) * 4 + k]? = b.cells[k]?)
theorem WTb.done {s : ByteArray} {cs : Array Value} {d : Nat} (h : WTb s cs d (cell s (d + 1))) (hd : d < s.size) : DTab s cs (d + 1) := by
  refine ⟨h.1.1, fun j h1 h2 k hk => ?_⟩
  by_cases e : j = d + 1
  · subst e
    have hg := cell_good s (d + 1) (by omega)
    rw [show s.size - (d + 1) = s.size - 1 - d by omega]
    exact h.2 (by unfold Cell.good at hg; omega) k hk
  · exact h.1.2 j (by omega) h2 k hk
theorem WTb.put {s : ByteArray} {cs : Array Value} {d : Nat} {b : Cell} (h : WTb s cs d b) (hd : d < s.size) (x : Cell) : WTb s (put4 cs ((s.size - 1 - d) * 4) x) d x := by
  refine ⟨⟨by simp [put4, h.1.1], fun j h1 h2 k hk => ?_⟩, fun _ k hk => put4_at (by rw [h.1.1]; omega) hk⟩
  rw [put4_ne (by omega)]
  exact h.1.2 j h1 h2 k hk
theorem WTb.cells {s : ByteArray} {cs : Array Value} {d : Nat} {b : Cell} (h : WTb s cs d b) (hb : b.cnt ≠ 0) :
    cs[(s.size - 1 - d) * 4]? = some (.int .i64 b.len) ∧ cs[(s.size - 1 - d) * 4 + 1]? = some (.int .i64 b.cnt) ∧ cs[(s.size - 1 - d) * 4 + 2]? = some (.int .i64 b.size) ∧ cs[(s.size - 1 - d) * 4 + 3]? = some (.int .i64 b.mode) :=
  ⟨h.2 hb 0 (by omega), h.2 hb 1 (by omega), h.2 hb 2 (by omega), h.2 hb 3 (by omega)⟩
end Go.Proofs.YthpnkcamjcohgaaDoor

/-! The length of the segmentation in one mode. -/
namespace Go.Proofs.YthpnkcamjcohgaaDoor
set_option linter.unusedVariables false
set_option linter.unusedSimpArgs false
open Go.RowKit

end Go.Proofs.YthpnkcamjcohgaaDoor
