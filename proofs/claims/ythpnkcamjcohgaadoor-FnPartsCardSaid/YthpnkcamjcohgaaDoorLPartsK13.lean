/- Lists of segments: how the laws hand them on; their length. -/
import Derived.Test.YthpnkcamjcohgaaDoorLPartsK12
import Derived.Test.YthpnkcamjcohgaaDoorLPartsK05
import Derived.Test.YthpnkcamjcohgaaDoorLPartsK03
/-! Lists of segments: how the laws hand them on; their length. -/
namespace Go.Proofs.YthpnkcamjcohgaaDoor
set_option linter.unusedVariables false
set_option linter.unusedSimpArgs false
open Go.RowKit

theorem SAt.two {α : Type} {f : α → List Value} {w : World} {p : Option Addr} {xs : List α} (h : SAt f 2 w p xs) {i : Nat} (hi : i < xs.length) {u v : Value} (hf : f (xs[i]'hi) = [u, v]) :
    ∃ b o, p = some ⟨b, o, none⟩ ∧ b < w.heap.size ∧ w.cell? ⟨b, o + i * 2, none⟩ = some u ∧ w.cell? ⟨b, o + i * 2 + 1, none⟩ = some v := by
  obtain ⟨b, o, h1, h2, h3⟩ := h i hi
  rw [hf] at h3
  exact ⟨b, o, h1, h2, h3 0 u rfl, h3 1 v rfl⟩

end Go.Proofs.YthpnkcamjcohgaaDoor

/-! The length of a list of segments; their joined text. -/
namespace Go.Proofs.YthpnkcamjcohgaaDoor
set_option linter.unusedVariables false
set_option linter.unusedSimpArgs false
open Go.RowKit

def segsOK (xs : List Sg) : Prop := ∀ x ∈ xs, IsSeg x.1 x.2
def segsSum (xs : List Sg) : Int := (xs.map fun x => segLen x.1 x.2).sum
end Go.Proofs.YthpnkcamjcohgaaDoor
/- The joined text of segments; segmentations. -/
namespace Go.Proofs.YthpnkcamjcohgaaDoor
set_option linter.unusedVariables false
set_option linter.unusedSimpArgs false
open Go.RowKit

def joined (xs : List Sg) : ByteArray := xs.foldl (fun a x => a ++ x.2) ByteArray.empty
end Go.Proofs.YthpnkcamjcohgaaDoor
