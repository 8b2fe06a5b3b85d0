
/- Drawn messages and segmentations. -/
import Derived.Test.YthjklchmjeojjaaChars
import Derived.Test.YthjklchmjeojjaaWBest
import Derived.Test.YthjklchmjeojjaaSegMath3
namespace Go.Proofs.Ythjklchmjeojjaa
set_option linter.unusedVariables false
set_option linter.unusedSimpArgs false
open Go.RowKit

/-- A message has been drawn. -/
def MsgR (n0 g : Nat) (w : World) (e : Ending) (w' : World) : Prop := ∃ t : ByteArray, e = .returned (.string t) ∧ t.size ≤ 500 ∧ Src n0 w' g ∧ But g w w'
def MsgE (w : World) (e : Ending) (w' : World) : Prop := ∃ t : ByteArray, e = .returned (.string t) ∧ t.size ≤ 500 ∧ Ext w w'
/-- A message and segments have been drawn. -/
def SegmE (w : World) (e : Ending) (w' : World) : Prop := ∃ (t : ByteArray) (q : Option Addr) (cc : Nat) (xs : List Sg), e = .returned (.tuple #[.string t, .slice q xs.length cc]) ∧ t.size ≤ 600 ∧ xs.length ≤ 400 ∧ (∀ x ∈ xs, x.2.size ≤ 1048576) ∧ SAt segF 2 w' q xs ∧ Ext w w'
theorem bsL_size (s : ByteArray) : ∀ x ∈ bsL s, x.2.size ≤ 255 := by
  unfold bsL
  split
  · intro x hx
    exact (bests_ok s s.size (Nat.le_refl _) x hx).2.1.2
  · intro x hx
    simp at hx
theorem SAt.but {α : Type} {f : α → List Value} {k g : Nat} {w w' : World} {p : Option Addr} {xs : List α} (h : SAt f k w p xs) (hb : But g w w') (hp : ∀ b o, 0 < xs.length → p = some ⟨b, o, none⟩ → b ≠ g) : SAt f k w' p xs := fun i hi => by
  obtain ⟨b, o, h1, h2, h3⟩ := h i hi
  exact ⟨b, o, h1, Nat.lt_of_lt_of_le h2 hb.size, fun j v hv => (World.cell?_of_block (a := ⟨b, o + i * k + j, none⟩) (hb.block b h2 (hp b o (by omega) h1))).trans (h3 j v hv)⟩
theorem SOwn.but {α : Type} {f : α → List Value} {k g B : Nat} {w w' : World} {p : Option Addr} {xs : List α} (h : SOwn f k B w p xs) (hb : But g w w') (hg : g < B) : SOwn f k B w' p xs := fun i hi => by
  obtain ⟨b, o, h1, hB, h2, h3, h4⟩ := h i hi
  have hk := hb.block b h2 (by omega)
  exact ⟨b, o, h1, hB, Nat.lt_of_lt_of_le h2 hb.size, fun j v hv => (World.cell?_of_block (a := ⟨b, o + i * k + j, none⟩) hk).trans (h3 j v hv), fun j => (World.frozen?_of_block (a := ⟨b, j, none⟩) hk).trans (h4 j)⟩

end Go.Proofs.Ythjklchmjeojjaa
