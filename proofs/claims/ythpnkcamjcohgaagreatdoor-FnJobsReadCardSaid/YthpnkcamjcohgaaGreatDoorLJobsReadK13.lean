/- How the laws copy, compare and mark grids. -/
import Derived.Test.YthpnkcamjcohgaaGreatDoorLJobsReadK12
import Derived.Test.YthpnkcamjcohgaaGreatDoorLJobsReadK10
import Derived.Test.YthpnkcamjcohgaaGreatDoorLJobsReadK03
namespace Go.Proofs.YthpnkcamjcohgaaGreatDoor
set_option linter.unusedVariables false
set_option linter.unusedSimpArgs false
open Go.RowKit

theorem OwnInts.setFar {B g i : Nat} {w : World} {q : Option Addr} {xs : List Int} {v : Value} (h : OwnInts B w q xs) (hg : g < B) : OwnInts B (w.setCell ⟨g, i, none⟩ v) q xs := by
  refine h.keep (by simp [World.setCell]) fun b o hn hq _ => ?_
  have := h.lt0 hn hq
  exact Below.heap_setCell w ⟨g, i, none⟩ v b (by show b ≠ g; omega)
end Go.Proofs.YthpnkcamjcohgaaGreatDoor
