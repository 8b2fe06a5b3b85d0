/- How the program reads a segment. -/
import Derived.Test.YthpnkcamjcohgaaDoorLJobsK09
import Derived.Test.YthpnkcamjcohgaaDoorLJobsK03
import Derived.Test.YthpnkcamjcohgaaDoorLJobsK10
import Derived.Test.YthpnkcamjcohgaaDoorLJobsK07
import Derived.Test.YthpnkcamjcohgaaDoorLJobsK04
/-! How the program reads a segment. -/
namespace Go.Proofs.YthpnkcamjcohgaaDoor
set_option linter.unusedVariables false
set_option linter.unusedSimpArgs false
open Go.RowKit

def chr (m v : Int) : UInt8 := if m = 4 then UInt8.ofNat v.toNat else (modeSet m).data.toList.getD v.toNat 0
/-- g divided j times by b. -/
def gq (g b : Int) : Nat → Int
  | 0 => g
  | j + 1 => gq g b j / b
/-- The bytes of a group of n. -/
def dig (m g : Int) (n : Nat) : List UInt8 := (List.range n).map fun i => chr m (gq g (iBase m) (n - 1 - i) % iBase m)
/-- The last j bytes of a group stand in the cells. -/
def PTab (m g : Int) (n : Nat) (cs : Array Value) (j : Nat) : Prop := cs.size = n ∧ ∀ q, q < n → n ≤ q + j → cs[q]? = some (.int .u8 (chr m (gq g (iBase m) (n - 1 - q) % iBase m)).toNat)
theorem PTab.step {m g : Int} {n : Nat} {cs : Array Value} {j : Nat} (h : PTab m g n cs j) (hj : j < n) : PTab m g n (cs.setIfInBounds (n - 1 - j) (.int .u8 (chr m (gq g (iBase m) j % iBase m)).toNat)) (j + 1) := by
  refine ⟨by simpa using h.1, fun q h1 h2 => ?_⟩
  by_cases e : q = n - 1 - j
  · subst e
    rw [Array.getElem?_setIfInBounds_self_of_lt (by rw [h.1]; omega), show n - 1 - (n - 1 - j) = j by omega]
  · rw [Array.getElem?_setIfInBounds_ne (by omega)]
    exact h.2 q h1 (by omega)
theorem PTab.all {m g : Int} {n : Nat} {cs : Array Value} (h : PTab m g n cs n) : cs.toList = Lib.strCells ⟨(dig m g n).toArray⟩ := by
  apply List.ext_getElem?
  intro q
  by_cases hq : q < n
  · have := h.2 q hq (by omega)
    rw [Array.getElem?_toList, this]
    simp [Lib.strCells, dig, hq]
  · rw [List.getElem?_eq_none (by rw [Array.length_toList, h.1]; omega), List.getElem?_eq_none (by simp [Lib.strCells, dig]; omega)]
end Go.Proofs.YthpnkcamjcohgaaDoor

/-! The walk of readSegment. -/
namespace Go.Proofs.YthpnkcamjcohgaaDoor
set_option linter.unusedVariables false
set_option linter.unusedSimpArgs false
open Go.RowKit

section
variable {ops : Array Oper} {Q : Exit → Act → World → Prop} {rest : List Oper} {a : Act} {dst : Option Tmp} {s x : Operand} {ty : TypeId} {pos : String} {after : Array Edge} {B : Nat} {w0 : World} {v : Value} {xs : ByteArray}
end

end Go.Proofs.YthpnkcamjcohgaaDoor

/-! readSegment, whole. -/
namespace Go.Proofs.YthpnkcamjcohgaaDoor
set_option linter.unusedVariables false
set_option linter.unusedSimpArgs false
open Go.RowKit

end Go.Proofs.YthpnkcamjcohgaaDoor
/- WriteSegment. -/
namespace Go.Proofs.YthpnkcamjcohgaaDoor
set_option linter.unusedVariables false
set_option linter.unusedSimpArgs false
open Go.RowKit

def intF (x : Int) : List Value := [.int .i64 x]
theorem SOwn.ints {B : Nat} {w : World} {p : Option Addr} {xs : List Int} (h : SOwn intF 1 B w p xs) : OwnInts B w p xs := fun i hi => by
  obtain ⟨b, o, h1, hB, h2, h3, h4⟩ := h i hi
  refine ⟨b, o, h1, hB, h2, ?_, h4 _⟩
  have := h3 0 (.int .i64 (xs[i]'hi)) rfl
  rw [Nat.mul_one, Nat.add_zero] at this
  rw [this, List.getD_eq_getElem?_getD, List.getElem?_eq_getElem hi]
  rfl
/-- A list and a code given back; the list is of its own. -/
def LC (B : Nat) (L : List Int) (code : Int) (e : Ending) (w' : World) : Prop := ∃ p c, e = .returned (.tuple #[.slice p L.length c, .int .i64 code]) ∧ OwnInts B w' p L ∧ L.length ≤ c
theorem LC.of {B : Nat} {L : List Int} {code : Int} {w : World} {v : Value} (h : RowI B w v L) : LC B L code (.returned (.tuple #[v, .int .i64 code])) w := by
  obtain ⟨p, c, rfl, ho, hc⟩ := h.ownC
  exact ⟨p, c, rfl, ho, hc⟩
theorem LC.nil {B : Nat} {code : Int} {w : World} : LC B [] code (.returned (.tuple #[.slice none 0 0, .int .i64 code])) w := ⟨none, 0, rfl, OwnInts.nil _ _ _, Nat.le_refl _⟩

end Go.Proofs.YthpnkcamjcohgaaDoor
/- What was written is read again. -/
/-! What was written is read again. -/
namespace Go.Proofs.YthpnkcamjcohgaaDoor
set_option linter.unusedVariables false
set_option linter.unusedSimpArgs false
open Go.RowKit

end Go.Proofs.YthpnkcamjcohgaaDoor

/-! A segment that is read has been written with just these bits. -/
namespace Go.Proofs.YthpnkcamjcohgaaDoor
set_option linter.unusedVariables false
set_option linter.unusedSimpArgs false
open Go.RowKit

end Go.Proofs.YthpnkcamjcohgaaDoor
/- Drawn lists of bits and segments. -/
/-! Drawn lists of bits and segments. -/
namespace Go.Proofs.YthpnkcamjcohgaaDoor
set_option linter.unusedVariables false
set_option linter.unusedSimpArgs false
open Go.RowKit

theorem OwnInts.but {g B : Nat} {w w' : World} {p : Option Addr} {xs : List Int} (h : OwnInts B w p xs) (hb : But g w w') (hg : g < B) : OwnInts B w' p xs := fun i hi => by
  obtain ⟨b, o, h1, hB, h2, h3, h4⟩ := h i hi
  have hk := hb.block b h2 (by omega)
  exact ⟨b, o, h1, hB, Nat.lt_of_lt_of_le h2 hb.size, (World.cell?_of_block (a := ⟨b, o + i, none⟩) hk).trans h3, (World.frozen?_of_block (a := ⟨b, o + i, none⟩) hk).trans h4⟩
end Go.Proofs.YthpnkcamjcohgaaDoor

/-! A drawn list of bits with a segment in it. -/
namespace Go.Proofs.YthpnkcamjcohgaaDoor
set_option linter.unusedVariables false
set_option linter.unusedSimpArgs false
open Go.RowKit

theorem IntsAt.but {g : Nat} {w w' : World} {p : Option Addr} {xs : List Int} (h : IntsAt w p xs) (hb : But g w w') (hp : ∀ b o, 0 < xs.length → p = some ⟨b, o, none⟩ → b ≠ g) : IntsAt w' p xs := fun i hi => by
  obtain ⟨b, o, h1, h2, h3⟩ := h i hi
  have hk := hb.block b h2 (hp b o (by omega) h1)
  exact ⟨b, o, h1, Nat.lt_of_lt_of_le h2 hb.size, (World.cell?_of_block (a := ⟨b, o + i, none⟩) hk).trans h3⟩
end Go.Proofs.YthpnkcamjcohgaaDoor
