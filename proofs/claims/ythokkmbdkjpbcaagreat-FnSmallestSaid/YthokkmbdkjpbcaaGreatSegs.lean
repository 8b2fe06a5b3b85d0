
/- Lists of segments: how the laws hand them on; their length. -/
import Derived.Test.YthokkmbdkjpbcaaGreatTab
import Derived.Test.YthokkmbdkjpbcaaGreatStructs
import Derived.Test.YthokkmbdkjpbcaaGreatInts
/-! Lists of segments: how the laws hand them on; their length. -/
namespace Go.Proofs.YthokkmbdkjpbcaaGreat
set_option linter.unusedVariables false
set_option linter.unusedSimpArgs false
open Go.RowKit

theorem SAt.two {α : Type} {f : α → List Value} {w : World} {p : Option Addr} {xs : List α} (h : SAt f 2 w p xs) {i : Nat} (hi : i < xs.length) {u v : Value} (hf : f (xs[i]'hi) = [u, v]) :
    ∃ b o, p = some ⟨b, o, none⟩ ∧ b < w.heap.size ∧ w.cell? ⟨b, o + i * 2, none⟩ = some u ∧ w.cell? ⟨b, o + i * 2 + 1, none⟩ = some v := by
  obtain ⟨b, o, h1, h2, h3⟩ := h i hi
  rw [hf] at h3
  exact ⟨b, o, h1, h2, h3 0 u rfl, h3 1 v rfl⟩

end Go.Proofs.YthokkmbdkjpbcaaGreat

/-! The length of a list of segments; their joined text. -/
namespace Go.Proofs.YthokkmbdkjpbcaaGreat
set_option linter.unusedVariables false
set_option linter.unusedSimpArgs false
open Go.RowKit

end Go.Proofs.YthokkmbdkjpbcaaGreat
