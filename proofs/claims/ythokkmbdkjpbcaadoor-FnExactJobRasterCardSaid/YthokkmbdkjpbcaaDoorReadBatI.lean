
/- ReadBatch, the program's side. -/
import Derived.Test.YthokkmbdkjpbcaaDoorReadBat
namespace Go.Proofs.YthokkmbdkjpbcaaDoor
set_option linter.unusedVariables false
set_option linter.unusedSimpArgs false
open Go.RowKit

theorem SAt.wdh {w : World} {g o : Nat} {xs : List ByteArray} (h : SAt wdF 1 w (some ⟨g, o, none⟩) xs) {i : Nat} (hi : i < xs.length) : g < w.heap.size ∧ w.cell? ⟨g, o + i, none⟩ = some (.string (xs[i]'hi)) := by
  obtain ⟨b', o', e, h1, h2⟩ := h.wd hi
  simp only [Option.some.injEq, Addr.mk.injEq, and_true] at e
  obtain ⟨rfl, rfl⟩ := e
  exact ⟨h1, h2⟩
abbrev num4 (a b c d : Nat) : Array Value := #[.int .i64 a, .int .i64 b, .int .i64 c, .int .i64 d]
end Go.Proofs.YthokkmbdkjpbcaaDoor
