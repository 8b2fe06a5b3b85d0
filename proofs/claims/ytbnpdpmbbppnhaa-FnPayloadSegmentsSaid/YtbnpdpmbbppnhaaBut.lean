
/- A world in which only one old block has turned. -/
import Derived.Test.YtbnpdpmbbppnhaaBlk
namespace Go.Proofs.Ytbnpdpmbbppnhaa
set_option linter.unusedVariables false
set_option linter.unusedSimpArgs false
open Go.RowKit

/-- Of what was there only block g may have turned. -/
structure But (g : Nat) (w w' : World) : Prop where
  os : w'.os = w.os
  tape : w'.tape = w.tape
  output : w'.output = w.output
  size : w.heap.size ≤ w'.heap.size
  block : ∀ k, k < w.heap.size → k ≠ g → w'.heap[k]? = w.heap[k]?
section
variable {g : Nat} {a b c : World}
theorem But.refl (g : Nat) (w : World) : But g w w := ⟨rfl, rfl, rfl, Nat.le_refl _, fun _ _ _ => rfl⟩
theorem But.trans (h : But g a b) (k : But g b c) : But g a c :=
  ⟨k.os.trans h.os, k.tape.trans h.tape, k.output.trans h.output, Nat.le_trans h.size k.size, fun i hi hg => (k.block i (Nat.lt_of_lt_of_le hi h.size) hg).trans (h.block i hi hg)⟩
theorem But.drew (h : But g a b) : But g a b.drew := ⟨h.os, h.tape, h.output, h.size, h.block⟩
theorem But.drewN (h : But g a b) (n : Nat) : But g a (b.drewN n) := ⟨h.os, h.tape, h.output, h.size, h.block⟩
theorem But.of (h : Ext a b) : But g a b := ⟨h.os, h.tape, h.output, h.size, fun i hi _ => h.block i hi⟩
theorem But.set (w : World) (g i : Nat) (v : Value) : But g w (w.setCell ⟨g, i, none⟩ v) :=
  ⟨rfl, rfl, rfl, by simp [World.setCell], fun k _ hk => Below.heap_setCell w ⟨g, i, none⟩ v k hk⟩
theorem bucell (h : But g a b) : (∀ k o, k < a.heap.size → k ≠ g → b.cell? ⟨k, o, none⟩ = a.cell? ⟨k, o, none⟩) ∧ (∀ k o, k < a.heap.size → k ≠ g → b.frozen? ⟨k, o, none⟩ = a.frozen? ⟨k, o, none⟩) ∧ (∀ k, k < a.heap.size → k < b.heap.size) ∧ a.heap.size ≤ b.heap.size :=
  ⟨fun k o h1 h2 => World.cell?_of_block (a := ⟨k, o, none⟩) (h.block k h1 h2), fun k o h1 h2 => World.frozen?_of_block (a := ⟨k, o, none⟩) (h.block k h1 h2), fun _ hk => Nat.lt_of_lt_of_le hk h.size, h.size⟩
theorem But.below {B : Nat} (h : But g a b) (k : Below B b c) (hB : a.heap.size ≤ B) : But g a c :=
  ⟨k.os.trans h.os, k.tape.trans h.tape, k.output.trans h.output, Nat.le_trans h.size k.size, fun i hi hg => (k.block i (show i < B by omega)).trans (h.block i hi hg)⟩
theorem Ext.but (h : Ext a b) (k : But g b c) (hg : a.heap.size ≤ g) : Ext a c :=
  ⟨k.os.trans h.os, k.tape.trans h.tape, k.output.trans h.output, Nat.le_trans h.size k.size, fun i hi => (k.block i (Nat.lt_of_lt_of_le hi h.size) (by omega)).trans (h.block i hi)⟩
theorem RowI.but {B : Nat} {v : Value} {xs : List Int} (h : RowI B a v xs) (k : But g a b) (hg : g < B) : RowI B b v xs := by
  refine ⟨h.1, ?_⟩
  rcases h.2 with h2 | ⟨g', cap, cur, hv, hg', hh, r⟩
  · exact .inl h2
  · exact .inr ⟨g', cap, cur, hv, hg', by rw [k.block g' (Array.getElem?_eq_some_iff.1 hh).1 (by omega)]; exact hh, r⟩
theorem Blk.but {g' : Nat} {cs : Array Value} {t : TypeId} (h : Blk a g' cs t) (k : But g a b) (hne : g' ≠ g) : Blk b g' cs t := (k.block g' h.lt hne).trans h
end
end Go.Proofs.Ytbnpdpmbbppnhaa
