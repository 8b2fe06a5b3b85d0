/- The reference's best segments; marking lists of segments. -/
import Derived.Test.YthpnkcamjcohgaaGreatDoorLJoinedJobsK10
import Derived.Test.YthpnkcamjcohgaaGreatDoorLJoinedJobsK03
import Derived.Test.YthpnkcamjcohgaaGreatDoorLJoinedJobsK04
import Derived.Test.YthpnkcamjcohgaaGreatDoorLJoinedJobsK08
import Derived.Test.YthpnkcamjcohgaaGreatDoorLJoinedJobsK05
import Derived.Conc.LoneCalls
import Derived.Deep.Cut
import Derived.Test.YthpnkcamjcohgaaGreatDoorLJoinedJobsK09
import Derived.Test.YthpnkcamjcohgaaGreatDoorLJoinedJobsK06
import Derived.Test.YthpnkcamjcohgaaGreatDoorLJoinedJobsK01
/-! The reference's best segments; marking lists of segments. -/
namespace Go.Proofs.YthpnkcamjcohgaaGreatDoor
set_option linter.unusedVariables false
set_option linter.unusedSimpArgs false
open Go.RowKit

end Go.Proofs.YthpnkcamjcohgaaGreatDoor

/-! Marks: the text of a mark. -/
/-! Marks: the text of a mark. -/
namespace Go.Proofs.YthpnkcamjcohgaaGreatDoor
set_option linter.unusedVariables false
set_option linter.unusedSimpArgs false
open Go.RowKit

end Go.Proofs.YthpnkcamjcohgaaGreatDoor

/-! Marking and holding lists of segments. -/
namespace Go.Proofs.YthpnkcamjcohgaaGreatDoor
set_option linter.unusedVariables false
set_option linter.unusedSimpArgs false
open Go.RowKit

theorem OwnCells.at {B : Nat} {w : World} {p : Option Addr} {P c R : List Value} (h : OwnCells B w p (P ++ (c ++ R))) {j n : Nat} (hn : n = P.length + j) (hj : j < c.length) :
    ∃ b o, p = some ⟨b, o, none⟩ ∧ B ≤ b ∧ b < w.heap.size ∧ w.cell? ⟨b, o + n, none⟩ = some (c[j]'hj) ∧ w.frozen? ⟨b, o + n, none⟩ = false := by
  subst hn
  obtain ⟨b, o, h1, h2, h3, h4, h5⟩ := h (P.length + j) (by simp; omega)
  refine ⟨b, o, h1, h2, h3, ?_, h5⟩
  rw [h4, List.getElem_append_right (by omega)]
  simp only [Nat.add_sub_cancel_left]
  rw [List.getElem_append_left hj]

end Go.Proofs.YthpnkcamjcohgaaGreatDoor

/-! BestSegments: the law's walk. -/
namespace Go.Proofs.YthpnkcamjcohgaaGreatDoor
set_option linter.unusedVariables false
set_option linter.unusedSimpArgs false
open Go.RowKit

end Go.Proofs.YthpnkcamjcohgaaGreatDoor
/- Drawn messages and segmentations. -/
namespace Go.Proofs.YthpnkcamjcohgaaGreatDoor
set_option linter.unusedVariables false
set_option linter.unusedSimpArgs false
open Go.RowKit

theorem SAt.but {α : Type} {f : α → List Value} {k g : Nat} {w w' : World} {p : Option Addr} {xs : List α} (h : SAt f k w p xs) (hb : But g w w') (hp : ∀ b o, 0 < xs.length → p = some ⟨b, o, none⟩ → b ≠ g) : SAt f k w' p xs := fun i hi => by
  obtain ⟨b, o, h1, h2, h3⟩ := h i hi
  exact ⟨b, o, h1, Nat.lt_of_lt_of_le h2 hb.size, fun j v hv => (World.cell?_of_block (a := ⟨b, o + i * k + j, none⟩) (hb.block b h2 (hp b o (by omega) h1))).trans (h3 j v hv)⟩
theorem SOwn.but {α : Type} {f : α → List Value} {k g B : Nat} {w w' : World} {p : Option Addr} {xs : List α} (h : SOwn f k B w p xs) (hb : But g w w') (hg : g < B) : SOwn f k B w' p xs := fun i hi => by
  obtain ⟨b, o, h1, hB, h2, h3, h4⟩ := h i hi
  have hk := hb.block b h2 (by omega)
  exact ⟨b, o, h1, hB, Nat.lt_of_lt_of_le h2 hb.size, fun j v hv => (World.cell?_of_block (a := ⟨b, o + i * k + j, none⟩) hk).trans (h3 j v hv), fun j => (World.frozen?_of_block (a := ⟨b, j, none⟩) hk).trans (h4 j)⟩

end Go.Proofs.YthpnkcamjcohgaaGreatDoor
/- Channels in one goroutine: a send into a buffer with room, a receive, in a walk of the kit's own. -/
/-! Channels in one goroutine: a send into a buffer with room, a receive, in a walk of the kit's own. -/
namespace Go.Proofs.YthpnkcamjcohgaaGreatDoor
set_option linter.unusedVariables false
set_option linter.unusedSimpArgs false
open Go.RowKit Go.Conc

section
variable {P : Program} {ops : Array Oper} {Q : Exit → Act → World → Prop} {i : Nat} {rest : List Nat} {o : Oper} {a : Act} {w : World}
end

/-- A channel of room for so many, which holds these numbers. -/
def ChanI (w : World) (c cap : Nat) (xs : List Int) (closed : Bool) : Prop := ∃ s r, w.heap[c]? = some (.chan cap (xs.map (Value.int .i64)).toArray closed s r false)
theorem ChanI.lt {w : World} {c cap : Nat} {xs : List Int} {closed : Bool} (h : ChanI w c cap xs closed) : c < w.heap.size := by
  obtain ⟨s, r, h⟩ := h
  exact (Array.getElem?_eq_some_iff.1 h).1
theorem ChanI.ext {w w' : World} {c cap : Nat} {xs : List Int} {closed : Bool} (h : ChanI w c cap xs closed) (hb : Ext w w') : ChanI w' c cap xs closed := by
  have hl := h.lt
  obtain ⟨s, r, h⟩ := h
  exact ⟨s, r, (hb.below.block c hl).trans h⟩
end Go.Proofs.YthpnkcamjcohgaaGreatDoor

/-! A payload's bits, sent over a channel. -/
namespace Go.Proofs.YthpnkcamjcohgaaGreatDoor
set_option linter.unusedVariables false
set_option linter.unusedSimpArgs false
open Go.RowKit Go.Conc

end Go.Proofs.YthpnkcamjcohgaaGreatDoor

/-! The elements of bits that come over a channel. -/
namespace Go.Proofs.YthpnkcamjcohgaaGreatDoor
set_option linter.unusedVariables false
set_option linter.unusedSimpArgs false
open Go.RowKit Go.Conc

theorem ChanI.low {B : Nat} {w w' : World} {c cap : Nat} {xs : List Int} {closed : Bool} (h : ChanI w c cap xs closed) (hb : Below B w w') (hB : c < B) : ChanI w' c cap xs closed := by
  obtain ⟨s, r, h⟩ := h
  exact ⟨s, r, (hb.block c hB).trans h⟩

end Go.Proofs.YthpnkcamjcohgaaGreatDoor
/- How the reference reads a segment. -/
namespace Go.Proofs.YthpnkcamjcohgaaGreatDoor
set_option linter.unusedVariables false
set_option linter.unusedSimpArgs false
open Go.RowKit

end Go.Proofs.YthpnkcamjcohgaaGreatDoor
/- The width of a field, the size of a payload. -/
namespace Go.Proofs.YthpnkcamjcohgaaGreatDoor
set_option linter.unusedVariables false
set_option linter.unusedSimpArgs false
open Go.RowKit

end Go.Proofs.YthpnkcamjcohgaaGreatDoor
/- WriteMessage. -/
namespace Go.Proofs.YthpnkcamjcohgaaGreatDoor
set_option linter.unusedVariables false
set_option linter.unusedSimpArgs false
open Go.RowKit

theorem SOwn.grew {α : Type} {f : α → List Value} {k n0 : Nat} {v o : Value} {W wr : World} {p : Option Addr} {xs : List α} (hx : SOwn f k n0 W p xs) (h : Grew v W wr o) (hv : ∀ k, v.ownBlock = some k → k < n0) : SOwn f k n0 wr p xs := fun i hi => by
  obtain ⟨b, o', e, hB, hb, hc, hf⟩ := hx i hi
  have hbk : wr.heap[b]? = W.heap[b]? := h.by_.block b hb fun e => by have := hv b e.symm; omega
  exact ⟨b, o', e, hB, Nat.lt_of_lt_of_le hb h.by_.size, fun j u hu => (World.cell?_of_block (a := ⟨b, o' + i * k + j, none⟩) hbk).trans (hc j u hu), fun j => (World.frozen?_of_block (a := ⟨b, j, none⟩) hbk).trans (hf j)⟩

end Go.Proofs.YthpnkcamjcohgaaGreatDoor
/- The reference's payload: bits filled up, elements. -/
/-! The reference's payload: bits filled up, elements. -/
namespace Go.Proofs.YthpnkcamjcohgaaGreatDoor
set_option linter.unusedVariables false
set_option linter.unusedSimpArgs false
open Go.RowKit

theorem RowI.sl {B n : Nat} {w : World} {v : Value} {xs : List Int} (h : RowI B w v xs) (hn : xs.length = n) : ∃ p c, v = .slice p n c := by
  obtain ⟨p, c, hv, _⟩ := h.own
  exact ⟨p, c, by rw [hv, hn]⟩
end Go.Proofs.YthpnkcamjcohgaaGreatDoor

/-! EncodePayload. -/
/-! EncodePayload. -/
namespace Go.Proofs.YthpnkcamjcohgaaGreatDoor
set_option linter.unusedVariables false
set_option linter.unusedSimpArgs false
open Go.RowKit

end Go.Proofs.YthpnkcamjcohgaaGreatDoor

/-! The reference's EncodePayload; the walk of the law FnExactEncodePayload. -/
namespace Go.Proofs.YthpnkcamjcohgaaGreatDoor
set_option linter.unusedVariables false
set_option linter.unusedSimpArgs false
open Go.RowKit

end Go.Proofs.YthpnkcamjcohgaaGreatDoor
/- A field of a size, and drawn fields. -/
/-! A field of a size, and drawn fields. -/
namespace Go.Proofs.YthpnkcamjcohgaaGreatDoor
set_option linter.unusedVariables false
set_option linter.unusedSimpArgs false
open Go.RowKit

end Go.Proofs.YthpnkcamjcohgaaGreatDoor

/-! Drawn fields. -/
namespace Go.Proofs.YthpnkcamjcohgaaGreatDoor
set_option linter.unusedVariables false
set_option linter.unusedSimpArgs false
open Go.RowKit

end Go.Proofs.YthpnkcamjcohgaaGreatDoor

/-! Drawn payloads. -/
namespace Go.Proofs.YthpnkcamjcohgaaGreatDoor
set_option linter.unusedVariables false
set_option linter.unusedSimpArgs false
open Go.RowKit

end Go.Proofs.YthpnkcamjcohgaaGreatDoor
/- Parts of a message: validity, bits. -/
namespace Go.Proofs.YthpnkcamjcohgaaGreatDoor
set_option linter.unusedVariables false
set_option linter.unusedSimpArgs false
open Go.RowKit

abbrev vPart (i n y : Int) (t : ByteArray) : Value := .agg #[.int .i64 i, .int .i64 n, .int .i64 y, .string t]
end Go.Proofs.YthpnkcamjcohgaaGreatDoor
/- Drawn parts of messages. -/
namespace Go.Proofs.YthpnkcamjcohgaaGreatDoor
set_option linter.unusedVariables false
set_option linter.unusedSimpArgs false
open Go.RowKit

theorem Src.set {n0 g x i : Nat} {w : World} {v : Value} (h : Src n0 w g) (hx : n0 ≤ x) : Src n0 (w.setCell ⟨x, i, none⟩ v) g := h.low ((Below.refl n0 w).setCell (p := ⟨x, i, none⟩) hx v) (Nat.le_refl _)
theorem But.setOld {g x i : Nat} {a b : World} {v : Value} (h : But g a b) (hx : a.heap.size ≤ x) : But g a (b.setCell ⟨x, i, none⟩ v) := h.below ((Below.refl a.heap.size b).setCell (p := ⟨x, i, none⟩) hx v) (Nat.le_refl _)
theorem But.alloc {g : Nat} {a b : World} (h : But g a b) (o : Obj) : But g a (b.alloc o) := h.trans (But.of ((Ext.refl b).alloc o))
theorem Src.alloc {n0 g : Nat} {w : World} (h : Src n0 w g) (o : Obj) : Src n0 (w.alloc o) g := h.ext ((Ext.refl w).alloc o)
end Go.Proofs.YthpnkcamjcohgaaGreatDoor
