/- Drawn lists of bits and segments. -/
import Derived.Test.YthpnkcamjcohgaaDoorLPartsK37
import Derived.Test.YthpnkcamjcohgaaDoorLPartsK05
import Derived.Test.YthpnkcamjcohgaaDoorLPartsK22
/-! Drawn lists of bits and segments. -/
namespace Go.Proofs.YthpnkcamjcohgaaDoor
set_option linter.unusedVariables false
set_option linter.unusedSimpArgs false
open Go.RowKit

theorem OwnInts.but {g B : Nat} {w w' : World} {p : Option Addr} {xs : List Int} (h : OwnInts B w p xs) (hb : But g w w') (hg : g < B) : OwnInts B w' p xs := fun i hi => by
  obtain ⟨b, o, h1, hB, h2, h3, h4⟩ := h i hi
  have hk := hb.block b h2 (by omega)
  exact ⟨b, o, h1, hB, Nat.lt_of_lt_of_le h2 hb.size, (World.cell?_of_block (a := ⟨b, o + i, none⟩) hk).trans h3, (World.frozen?_of_block (a := ⟨b, o + i, none⟩) hk).trans h4⟩
end Go.Proofs.YthpnkcamjcohgaaDoor

/-! A drawn list of bits with a segment in it. -/
namespace Go.Proofs.YthpnkcamjcohgaaDoor
set_option linter.unusedVariables false
set_option linter.unusedSimpArgs false
open Go.RowKit

theorem IntsAt.but {g : Nat} {w w' : World} {p : Option Addr} {xs : List Int} (h : IntsAt w p xs) (hb : But g w w') (hp : ∀ b o, 0 < xs.length → p = some ⟨b, o, none⟩ → b ≠ g) : IntsAt w' p xs := fun i hi => by
  obtain ⟨b, o, h1, h2, h3⟩ := h i hi
  have hk := hb.block b h2 (hp b o (by omega) h1)
  exact ⟨b, o, h1, Nat.lt_of_lt_of_le h2 hb.size, (World.cell?_of_block (a := ⟨b, o + i, none⟩) hk).trans h3⟩
end Go.Proofs.YthpnkcamjcohgaaDoor
