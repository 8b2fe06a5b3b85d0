
/- The best length and the best segments. -/
import Derived.Test.YthjklchmjeojjaaChoices
import Derived.Test.YthjklchmjeojjaaSegMath
import Derived.Test.YthjklchmjeojjaaStructs
namespace Go.Proofs.Ythjklchmjeojjaa
set_option linter.unusedVariables false
set_option linter.unusedSimpArgs false
open Go.RowKit

/-- Two whole numbers given back. -/
def ret2 (a b : Int) : Ending := .returned (.tuple #[.int .i64 a, .int .i64 b])

theorem DTab.atK {s : ByteArray} {cs : Array Value} {k : Nat} (h : DTab s cs s.size) (hk : k ≤ s.size) :
    cs[k * 4]? = some (.int .i64 (cell s (s.size - k)).len) ∧ cs[k * 4 + 1]? = some (.int .i64 (cell s (s.size - k)).cnt) ∧
    cs[k * 4 + 2]? = some (.int .i64 (cell s (s.size - k)).size) ∧ cs[k * 4 + 3]? = some (.int .i64 (cell s (s.size - k)).mode) := by
  have := h.2 (s.size - k) (by omega) (by omega)
  rw [show s.size - (s.size - k) = k by omega] at this
  exact ⟨this 0 (by omega), this 1 (by omega), this 2 (by omega), this 3 (by omega)⟩
theorem segF_len (x : Sg) : (segF x).length = 2 := rfl
theorem segF_one (x : Sg) : ∀ u ∈ segF x, u.oneCell' = true := by
  intro u hu
  simp only [segF, List.mem_cons, List.not_mem_nil, or_false] at hu
  rcases hu with rfl | rfl <;> rfl

end Go.Proofs.Ythjklchmjeojjaa
