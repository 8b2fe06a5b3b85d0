/- Lists of segments: how the laws hand them on; their length. -/
import Derived.Test.YthpnkcamjcohgaaDoorLBatchTextLK16
import Derived.Test.YthpnkcamjcohgaaDoorLBatchTextLK04
import Derived.Test.YthpnkcamjcohgaaDoorLBatchTextLK03
import Derived.Test.YthpnkcamjcohgaaDoorLBatchTextLK13
import Derived.Test.YthpnkcamjcohgaaDoorLBatchTextLK12
/-! Lists of segments: how the laws hand them on; their length. -/
namespace Go.Proofs.YthpnkcamjcohgaaDoor
set_option linter.unusedVariables false
set_option linter.unusedSimpArgs false
open Go.RowKit

theorem SAt.two {α : Type} {f : α → List Value} {w : World} {p : Option Addr} {xs : List α} (h : SAt f 2 w p xs) {i : Nat} (hi : i < xs.length) {u v : Value} (hf : f (xs[i]'hi) = [u, v]) :
    ∃ b o, p = some ⟨b, o, none⟩ ∧ b < w.heap.size ∧ w.cell? ⟨b, o + i * 2, none⟩ = some u ∧ w.cell? ⟨b, o + i * 2 + 1, none⟩ = some v := by
  obtain ⟨b, o, h1, h2, h3⟩ := h i hi
  rw [hf] at h3
  exact ⟨b, o, h1, h2, h3 0 u rfl, h3 1 v rfl⟩

theorem bytes_eq {a b : ByteArray} : a.toList = b.toList ↔ a = b := by
  rw [ByteArray.toList_eq, ByteArray.toList_eq]
  constructor
  · intro h
    cases a; cases b
    congr 1
    exact Array.ext' h
  · intro h; rw [h]
end Go.Proofs.YthpnkcamjcohgaaDoor

/-! The length of a list of segments; their joined text. -/
namespace Go.Proofs.YthpnkcamjcohgaaDoor
set_option linter.unusedVariables false
set_option linter.unusedSimpArgs false
open Go.RowKit

end Go.Proofs.YthpnkcamjcohgaaDoor
/- The joined text of segments; segmentations. -/
namespace Go.Proofs.YthpnkcamjcohgaaDoor
set_option linter.unusedVariables false
set_option linter.unusedSimpArgs false
open Go.RowKit

def joined (xs : List Sg) : ByteArray := xs.foldl (fun a x => a ++ x.2) ByteArray.empty
end Go.Proofs.YthpnkcamjcohgaaDoor
/- The best segments are segments; how many bits a segment has. -/
namespace Go.Proofs.YthpnkcamjcohgaaDoor
set_option linter.unusedVariables false
set_option linter.unusedSimpArgs false
open Go.RowKit

end Go.Proofs.YthpnkcamjcohgaaDoor
