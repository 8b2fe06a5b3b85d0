
/- Drawn lists of bits and segments. -/
import Derived.Test.YtdjknkmifaomgaaGreatChars
import Derived.Test.YtdjknkmifaomgaaGreatStructs
import Derived.Test.YtdjknkmifaomgaaGreatReadMath
/-! Drawn lists of bits and segments. -/
namespace Go.Proofs.YtdjknkmifaomgaaGreat
set_option linter.unusedVariables false
set_option linter.unusedSimpArgs false
open Go.RowKit

/-- A list has been drawn; its numbers are small. -/
def BitsR (n0 g : Nat) (w : World) (e : Ending) (w' : World) : Prop := ∃ (p : Option Addr) (c : Nat) (xs : List Int), e = .returned (.slice p xs.length c) ∧ (xs.length ≤ 100000 ∧ xs.length ≤ c) ∧ (∀ x ∈ xs, -1 ≤ x ∧ x ≤ 2) ∧ OwnInts w.heap.size w' p xs ∧ Src n0 w' g ∧ But g w w'
theorem small_wfs {xs : List Int} (h : ∀ x ∈ xs, -1 ≤ x ∧ x ≤ 2) : wfs xs := fun x hx => by
  have := h x hx
  have e1 : IntKind.i64.min = -9223372036854775808 := by decide
  have e2 : IntKind.i64.max = 9223372036854775807 := by decide
  simp only [Lit.wf, Bool.and_eq_true, decide_eq_true_eq, e1, e2]
  omega
theorem small_snoc {xs : List Int} {x : Int} (h : ∀ y ∈ xs, -1 ≤ y ∧ y ≤ 2) (hx : -1 ≤ x ∧ x ≤ 2) : ∀ y ∈ xs ++ [x], -1 ≤ y ∧ y ≤ 2 := fun y hy => by
  rcases List.mem_append.1 hy with h' | h'
  · exact h y h'
  · simp at h'; subst h'; exact hx

theorem OwnInts_zeros {B g n : Nat} {w : World} (hb : Blk w g (madeCells #[.int .i64 0] n) 2) (hB : B ≤ g) : OwnInts B w (some ⟨g, 0, none⟩) (List.replicate n 0) := fun i hi => by
  have hi2 : i < n := by simpa using hi
  refine ⟨g, 0, rfl, hB, hb.lt, ?_, hb.free _⟩
  rw [Nat.zero_add]
  refine hb.cell ?_
  rw [made_get hi2]
  simp [Nat.mod_one, hi2]
theorem bits_zeros {n0 g n : Nat} {w w3 : World} (hn : n ≤ 100000) (hs : Src n0 w3 g) (hb : But g w w3) : BitsR n0 g w (.returned (.slice (some ⟨w3.heap.size, 0, none⟩) n n)) (w3.alloc (.cells (madeCells #[.int .i64 0] n) 2)) :=
  ⟨_, n, List.replicate n 0, by rw [List.length_replicate], by rw [List.length_replicate]; exact ⟨hn, Nat.le_refl _⟩, fun x hx => by have := (List.mem_replicate.1 hx).2; omega, OwnInts_zeros (Blk.new _ _ _) hb.size, hs.ext ((Ext.refl _).alloc _), hb.trans (But.of ((Ext.refl _).alloc _))⟩
/-- A segment has been drawn. -/
def SegR (n0 g : Nat) (w : World) (e : Ending) (w' : World) : Prop := ∃ (m : Int) (t : ByteArray), e = .returned (vSeg m t) ∧ t.size ≤ 300 ∧ Src n0 w' g ∧ But g w w'
theorem OwnInts.but {g B : Nat} {w w' : World} {p : Option Addr} {xs : List Int} (h : OwnInts B w p xs) (hb : But g w w') (hg : g < B) : OwnInts B w' p xs := fun i hi => by
  obtain ⟨b, o, h1, hB, h2, h3, h4⟩ := h i hi
  have hk := hb.block b h2 (by omega)
  exact ⟨b, o, h1, hB, Nat.lt_of_lt_of_le h2 hb.size, (World.cell?_of_block (a := ⟨b, o + i, none⟩) hk).trans h3, (World.frozen?_of_block (a := ⟨b, o + i, none⟩) hk).trans h4⟩
/-- A list and a segment have been drawn. -/
def WsE (w : World) (e : Ending) (w' : World) : Prop := ∃ (p : Option Addr) (c : Nat) (xs : List Int) (m : Int) (t : ByteArray), e = .returned (.tuple #[.slice p xs.length c, vSeg m t]) ∧ xs.length ≤ 100000 ∧ wfs xs ∧ t.size ≤ 300 ∧ IntsAt w' p xs ∧ Ext w w'
end Go.Proofs.YtdjknkmifaomgaaGreat

/-! A drawn list of bits with a segment in it. -/
namespace Go.Proofs.YtdjknkmifaomgaaGreat
set_option linter.unusedVariables false
set_option linter.unusedSimpArgs false
open Go.RowKit

theorem IntsAt.but {g : Nat} {w w' : World} {p : Option Addr} {xs : List Int} (h : IntsAt w p xs) (hb : But g w w') (hp : ∀ b o, 0 < xs.length → p = some ⟨b, o, none⟩ → b ≠ g) : IntsAt w' p xs := fun i hi => by
  obtain ⟨b, o, h1, h2, h3⟩ := h i hi
  have hk := hb.block b h2 (hp b o (by omega) h1)
  exact ⟨b, o, h1, Nat.lt_of_lt_of_le h2 hb.size, (World.cell?_of_block (a := ⟨b, o + i, none⟩) hk).trans h3⟩
/-- A list and an index have been drawn. -/
def RsE (w : World) (e : Ending) (w' : World) : Prop := ∃ (p : Option Addr) (c : Nat) (xs : List Int) (a : Int), e = .returned (.tuple #[.slice p xs.length c, .int .i64 a]) ∧ (xs.length ≤ 300000 ∧ xs.length ≤ c) ∧ wfs xs ∧ IntsAt w' p xs ∧ Ext w w'
end Go.Proofs.YtdjknkmifaomgaaGreat
