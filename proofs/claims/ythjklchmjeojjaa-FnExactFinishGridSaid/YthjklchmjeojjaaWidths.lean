
import Derived.Test.YthjklchmjeojjaaSegMath
import Derived.Test.YthjklchmjeojjaaStructs
namespace Go.Proofs.Ythjklchmjeojjaa
set_option linter.unusedVariables false
set_option linter.unusedSimpArgs false
open Go.RowKit

/-- The first M modes' widths are in the table, and of mode M + 1 those of fewer than t bytes. -/
def WTab (cs : Array Value) (M t : Nat) : Prop := cs.size = 1280 ∧ ∀ m n : Nat, 1 ≤ m → 1 ≤ n → n ≤ 255 → (m < M ∨ (m = M ∧ n < t)) → cs[m * 256 + n]? = some (.int .i64 (segW m n))
set_option maxRecDepth 100000 in
theorem WTab.step {cs : Array Value} {M t : Nat} (h : WTab cs M t) (hM : 1 ≤ M ∧ M ≤ 4) (ht : 1 ≤ t ∧ t ≤ 255) : WTab (cs.setIfInBounds (M * 256 + t) (.int .i64 (segW M t))) M (t + 1) := by
  refine ⟨by simpa using h.1, fun m n h1 h2 h3 h4 => ?_⟩
  by_cases e : m * 256 + n = M * 256 + t
  · have e1 : m = M ∧ n = t := by omega
    rw [e, Array.getElem?_setIfInBounds_self_of_lt (by rw [h.1]; omega), e1.1, e1.2]
  · rw [Array.getElem?_setIfInBounds_ne (by omega)]
    exact h.2 m n h1 h2 h3 (by omega)
theorem WTab.next {cs : Array Value} {M t : Nat} (h : WTab cs M t) (ht : 256 ≤ t) : WTab cs (M + 1) 1 :=
  ⟨h.1, fun m n h1 h2 h3 h4 => h.2 m n h1 h2 h3 (by omega)⟩

end Go.Proofs.Ythjklchmjeojjaa
