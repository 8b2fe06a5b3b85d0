/- ReadBatch, on both sides. -/
import Derived.Test.YthpnkcamjcohgaaGreatDoorLJobsReadK34
namespace Go.Proofs.YthpnkcamjcohgaaGreatDoor
set_option linter.unusedVariables false
set_option linter.unusedSimpArgs false
open Go.RowKit

abbrev bat5 (a : ByteArray) (f st c wd : Int) : Array Value := #[.string a, .int .i64 f, .int .i64 st, .int .i64 c, .int .i64 wd]
theorem IntsAt.here {w : World} {b o : Nat} {xs : List Int} (h : IntsAt w (some ⟨b, o, none⟩) xs) {i : Nat} (hi : i < xs.length) : w.cell? ⟨b, o + i, none⟩ = some (.int .i64 (xs.getD i 0)) := by
  obtain ⟨b', o', e, -, h2⟩ := h i hi
  simp only [Option.some.injEq, Addr.mk.injEq, and_true] at e
  obtain ⟨rfl, rfl⟩ := e
  exact h2
end Go.Proofs.YthpnkcamjcohgaaGreatDoor
/- ReadBatch, the program's side. -/
namespace Go.Proofs.YthpnkcamjcohgaaGreatDoor
set_option linter.unusedVariables false
set_option linter.unusedSimpArgs false
open Go.RowKit

theorem SAt.wdh {w : World} {g o : Nat} {xs : List ByteArray} (h : SAt wdF 1 w (some ⟨g, o, none⟩) xs) {i : Nat} (hi : i < xs.length) : g < w.heap.size ∧ w.cell? ⟨g, o + i, none⟩ = some (.string (xs[i]'hi)) := by
  obtain ⟨b', o', e, h1, h2⟩ := h.wd hi
  simp only [Option.some.injEq, Addr.mk.injEq, and_true] at e
  obtain ⟨rfl, rfl⟩ := e
  exact ⟨h1, h2⟩
abbrev num4 (a b c d : Nat) : Array Value := #[.int .i64 a, .int .i64 b, .int .i64 c, .int .i64 d]
end Go.Proofs.YthpnkcamjcohgaaGreatDoor
