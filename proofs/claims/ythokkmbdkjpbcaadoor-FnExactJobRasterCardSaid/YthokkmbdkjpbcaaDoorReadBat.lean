
/- ReadBatch, on both sides. -/
import Derived.Test.YthokkmbdkjpbcaaDoorRBat
namespace Go.Proofs.YthokkmbdkjpbcaaDoor
set_option linter.unusedVariables false
set_option linter.unusedSimpArgs false
open Go.RowKit

abbrev bat5 (a : ByteArray) (f st c wd : Int) : Array Value := #[.string a, .int .i64 f, .int .i64 st, .int .i64 c, .int .i64 wd]
theorem IntsAt.here {w : World} {b o : Nat} {xs : List Int} (h : IntsAt w (some ⟨b, o, none⟩) xs) {i : Nat} (hi : i < xs.length) : w.cell? ⟨b, o + i, none⟩ = some (.int .i64 (xs.getD i 0)) := by
  obtain ⟨b', o', e, -, h2⟩ := h i hi
  simp only [Option.some.injEq, Addr.mk.injEq, and_true] at e
  obtain ⟨rfl, rfl⟩ := e
  exact h2
end Go.Proofs.YthokkmbdkjpbcaaDoor
