/- The best length and the best segments. -/
import Derived.Test.YthpnkcamjcohgaaGreatDoorLJobsReadK09
import Derived.Test.YthpnkcamjcohgaaGreatDoorLJobsReadK08
import Derived.Test.YthpnkcamjcohgaaGreatDoorLJobsReadK04
import Derived.Test.YthpnkcamjcohgaaGreatDoorLJobsReadK01
import Derived.Test.YthpnkcamjcohgaaGreatDoorLJobsReadK03
/-! The best length and the best segments. -/
namespace Go.Proofs.YthpnkcamjcohgaaGreatDoor
set_option linter.unusedVariables false
set_option linter.unusedSimpArgs false
open Go.RowKit

end Go.Proofs.YthpnkcamjcohgaaGreatDoor

/-! The specification's table. -/
namespace Go.Proofs.YthpnkcamjcohgaaGreatDoor
set_option linter.unusedVariables false
set_option linter.unusedSimpArgs false
open Go.RowKit

/-- The table in a round: the shorter rests are there, and the best choice so far where there is one. -/
def WTb (s : ByteArray) (cs : Array Value) (d : Nat) (b : Cell) : Prop := DTab s cs d ∧ (b.cnt ≠ 0 → ∀ k, k < 4 → cs[(s.size - 1 - d) * 4 + k]? = b.cells[k]?)
theorem WTb.done {s : ByteArray} {cs : Array Value} {d : Nat} (h : WTb s cs d (cell s (d + 1))) (hd : d < s.size) : DTab s cs (d + 1) := by
  refine ⟨h.1.1, fun j h1 h2 k hk => ?_⟩
  by_cases e : j = d + 1
  · subst e
    have hg := cell_good s (d + 1) (by omega)
    rw [show s.size - (d + 1) = s.size - 1 - d by omega]
    exact h.2 (by unfold Cell.good at hg; omega) k hk
  · exact h.1.2 j (by omega) h2 k hk
theorem WTb.put {s : ByteArray} {cs : Array Value} {d : Nat} {b : Cell} (h : WTb s cs d b) (hd : d < s.size) (x : Cell) : WTb s (put4 cs ((s.size - 1 - d) * 4) x) d x := by
  refine ⟨⟨by simp [put4, h.1.1], fun j h1 h2 k hk => ?_⟩, fun _ k hk => put4_at (by rw [h.1.1]; omega) hk⟩
  rw [put4_ne (by omega)]
  exact h.1.2 j h1 h2 k hk
theorem WTb.cells {s : ByteArray} {cs : Array Value} {d : Nat} {b : Cell} (h : WTb s cs d b) (hb : b.cnt ≠ 0) :
    cs[(s.size - 1 - d) * 4]? = some (.int .i64 b.len) ∧ cs[(s.size - 1 - d) * 4 + 1]? = some (.int .i64 b.cnt) ∧ cs[(s.size - 1 - d) * 4 + 2]? = some (.int .i64 b.size) ∧ cs[(s.size - 1 - d) * 4 + 3]? = some (.int .i64 b.mode) :=
  ⟨h.2 hb 0 (by omega), h.2 hb 1 (by omega), h.2 hb 2 (by omega), h.2 hb 3 (by omega)⟩
end Go.Proofs.YthpnkcamjcohgaaGreatDoor

/-! The length of the segmentation in one mode. -/
namespace Go.Proofs.YthpnkcamjcohgaaGreatDoor
set_option linter.unusedVariables false
set_option linter.unusedSimpArgs false
open Go.RowKit

end Go.Proofs.YthpnkcamjcohgaaGreatDoor
/- Lists of segments: how the laws hand them on; their length. -/
/-! Lists of segments: how the laws hand them on; their length. -/
namespace Go.Proofs.YthpnkcamjcohgaaGreatDoor
set_option linter.unusedVariables false
set_option linter.unusedSimpArgs false
open Go.RowKit

theorem SAt.two {α : Type} {f : α → List Value} {w : World} {p : Option Addr} {xs : List α} (h : SAt f 2 w p xs) {i : Nat} (hi : i < xs.length) {u v : Value} (hf : f (xs[i]'hi) = [u, v]) :
    ∃ b o, p = some ⟨b, o, none⟩ ∧ b < w.heap.size ∧ w.cell? ⟨b, o + i * 2, none⟩ = some u ∧ w.cell? ⟨b, o + i * 2 + 1, none⟩ = some v := by
  obtain ⟨b, o, h1, h2, h3⟩ := h i hi
  rw [hf] at h3
  exact ⟨b, o, h1, h2, h3 0 u rfl, h3 1 v rfl⟩

end Go.Proofs.YthpnkcamjcohgaaGreatDoor

/-! The length of a list of segments; their joined text. -/
namespace Go.Proofs.YthpnkcamjcohgaaGreatDoor
set_option linter.unusedVariables false
set_option linter.unusedSimpArgs false
open Go.RowKit

end Go.Proofs.YthpnkcamjcohgaaGreatDoor
/- The joined text of segments; segmentations. -/
namespace Go.Proofs.YthpnkcamjcohgaaGreatDoor
set_option linter.unusedVariables false
set_option linter.unusedSimpArgs false
open Go.RowKit

def joined (xs : List Sg) : ByteArray := xs.foldl (fun a x => a ++ x.2) ByteArray.empty
end Go.Proofs.YthpnkcamjcohgaaGreatDoor
/- The best segments are segments; how many bits a segment has. -/
namespace Go.Proofs.YthpnkcamjcohgaaGreatDoor
set_option linter.unusedVariables false
set_option linter.unusedSimpArgs false
open Go.RowKit

end Go.Proofs.YthpnkcamjcohgaaGreatDoor
/- How the program reads a segment. -/
/-! How the program reads a segment. -/
namespace Go.Proofs.YthpnkcamjcohgaaGreatDoor
set_option linter.unusedVariables false
set_option linter.unusedSimpArgs false
open Go.RowKit

def chr (m v : Int) : UInt8 := if m = 4 then UInt8.ofNat v.toNat else (modeSet m).data.toList.getD v.toNat 0
/-- g divided j times by b. -/
def gq (g b : Int) : Nat → Int
  | 0 => g
  | j + 1 => gq g b j / b
/-- The bytes of a group of n. -/
def dig (m g : Int) (n : Nat) : List UInt8 := (List.range n).map fun i => chr m (gq g (iBase m) (n - 1 - i) % iBase m)
/-- The last j bytes of a group stand in the cells. -/
def PTab (m g : Int) (n : Nat) (cs : Array Value) (j : Nat) : Prop := cs.size = n ∧ ∀ q, q < n → n ≤ q + j → cs[q]? = some (.int .u8 (chr m (gq g (iBase m) (n - 1 - q) % iBase m)).toNat)
theorem PTab.step {m g : Int} {n : Nat} {cs : Array Value} {j : Nat} (h : PTab m g n cs j) (hj : j < n) : PTab m g n (cs.setIfInBounds (n - 1 - j) (.int .u8 (chr m (gq g (iBase m) j % iBase m)).toNat)) (j + 1) := by
  refine ⟨by simpa using h.1, fun q h1 h2 => ?_⟩
  by_cases e : q = n - 1 - j
  · subst e
    rw [Array.getElem?_setIfInBounds_self_of_lt (by rw [h.1]; omega), show n - 1 - (n - 1 - j) = j by omega]
  · rw [Array.getElem?_setIfInBounds_ne (by omega)]
    exact h.2 q h1 (by omega)
theorem PTab.all {m g : Int} {n : Nat} {cs : Array Value} (h : PTab m g n cs n) : cs.toList = Lib.strCells ⟨(dig m g n).toArray⟩ := by
  apply List.ext_getElem?
  intro q
  by_cases hq : q < n
  · have := h.2 q hq (by omega)
    rw [Array.getElem?_toList, this]
    simp [Lib.strCells, dig, hq]
  · rw [List.getElem?_eq_none (by rw [Array.length_toList, h.1]; omega), List.getElem?_eq_none (by simp [Lib.strCells, dig]; omega)]
end Go.Proofs.YthpnkcamjcohgaaGreatDoor

/-! The walk of readSegment. -/
namespace Go.Proofs.YthpnkcamjcohgaaGreatDoor
set_option linter.unusedVariables false
set_option linter.unusedSimpArgs false
open Go.RowKit

section
variable {ops : Array Oper} {Q : Exit → Act → World → Prop} {rest : List Oper} {a : Act} {dst : Option Tmp} {s x : Operand} {ty : TypeId} {pos : String} {after : Array Edge} {B : Nat} {w0 : World} {v : Value} {xs : ByteArray}
end

end Go.Proofs.YthpnkcamjcohgaaGreatDoor

/-! readSegment, whole. -/
namespace Go.Proofs.YthpnkcamjcohgaaGreatDoor
set_option linter.unusedVariables false
set_option linter.unusedSimpArgs false
open Go.RowKit

end Go.Proofs.YthpnkcamjcohgaaGreatDoor
/- WriteSegment. -/
namespace Go.Proofs.YthpnkcamjcohgaaGreatDoor
set_option linter.unusedVariables false
set_option linter.unusedSimpArgs false
open Go.RowKit

def intF (x : Int) : List Value := [.int .i64 x]
theorem SOwn.ints {B : Nat} {w : World} {p : Option Addr} {xs : List Int} (h : SOwn intF 1 B w p xs) : OwnInts B w p xs := fun i hi => by
  obtain ⟨b, o, h1, hB, h2, h3, h4⟩ := h i hi
  refine ⟨b, o, h1, hB, h2, ?_, h4 _⟩
  have := h3 0 (.int .i64 (xs[i]'hi)) rfl
  rw [Nat.mul_one, Nat.add_zero] at this
  rw [this, List.getD_eq_getElem?_getD, List.getElem?_eq_getElem hi]
  rfl
/-- A list and a code given back; the list is of its own. -/
def LC (B : Nat) (L : List Int) (code : Int) (e : Ending) (w' : World) : Prop := ∃ p c, e = .returned (.tuple #[.slice p L.length c, .int .i64 code]) ∧ OwnInts B w' p L ∧ L.length ≤ c
theorem LC.of {B : Nat} {L : List Int} {code : Int} {w : World} {v : Value} (h : RowI B w v L) : LC B L code (.returned (.tuple #[v, .int .i64 code])) w := by
  obtain ⟨p, c, rfl, ho, hc⟩ := h.ownC
  exact ⟨p, c, rfl, ho, hc⟩
theorem LC.nil {B : Nat} {code : Int} {w : World} : LC B [] code (.returned (.tuple #[.slice none 0 0, .int .i64 code])) w := ⟨none, 0, rfl, OwnInts.nil _ _ _, Nat.le_refl _⟩

end Go.Proofs.YthpnkcamjcohgaaGreatDoor
/- What was written is read again. -/
/-! What was written is read again. -/
namespace Go.Proofs.YthpnkcamjcohgaaGreatDoor
set_option linter.unusedVariables false
set_option linter.unusedSimpArgs false
open Go.RowKit

end Go.Proofs.YthpnkcamjcohgaaGreatDoor

/-! A segment that is read has been written with just these bits. -/
namespace Go.Proofs.YthpnkcamjcohgaaGreatDoor
set_option linter.unusedVariables false
set_option linter.unusedSimpArgs false
open Go.RowKit

end Go.Proofs.YthpnkcamjcohgaaGreatDoor
/- Drawn lists of bits and segments. -/
/-! Drawn lists of bits and segments. -/
namespace Go.Proofs.YthpnkcamjcohgaaGreatDoor
set_option linter.unusedVariables false
set_option linter.unusedSimpArgs false
open Go.RowKit

theorem OwnInts.but {g B : Nat} {w w' : World} {p : Option Addr} {xs : List Int} (h : OwnInts B w p xs) (hb : But g w w') (hg : g < B) : OwnInts B w' p xs := fun i hi => by
  obtain ⟨b, o, h1, hB, h2, h3, h4⟩ := h i hi
  have hk := hb.block b h2 (by omega)
  exact ⟨b, o, h1, hB, Nat.lt_of_lt_of_le h2 hb.size, (World.cell?_of_block (a := ⟨b, o + i, none⟩) hk).trans h3, (World.frozen?_of_block (a := ⟨b, o + i, none⟩) hk).trans h4⟩
end Go.Proofs.YthpnkcamjcohgaaGreatDoor

/-! A drawn list of bits with a segment in it. -/
namespace Go.Proofs.YthpnkcamjcohgaaGreatDoor
set_option linter.unusedVariables false
set_option linter.unusedSimpArgs false
open Go.RowKit

theorem IntsAt.but {g : Nat} {w w' : World} {p : Option Addr} {xs : List Int} (h : IntsAt w p xs) (hb : But g w w') (hp : ∀ b o, 0 < xs.length → p = some ⟨b, o, none⟩ → b ≠ g) : IntsAt w' p xs := fun i hi => by
  obtain ⟨b, o, h1, h2, h3⟩ := h i hi
  have hk := hb.block b h2 (hp b o (by omega) h1)
  exact ⟨b, o, h1, Nat.lt_of_lt_of_le h2 hb.size, (World.cell?_of_block (a := ⟨b, o + i, none⟩) hk).trans h3⟩
end Go.Proofs.YthpnkcamjcohgaaGreatDoor
