/- Lists of bits: chapter 1. -/
import Derived.Test.YthpnkcamjcohgaaDoorLBatchTextLK03
import Derived.Test.YthpnkcamjcohgaaDoorLBatchTextLK00
namespace Go.Proofs.YthpnkcamjcohgaaDoor
set_option linter.unusedVariables false
set_option linter.unusedSimpArgs false
open Go.RowKit

/-- v' is the row v grown: only the block of v may have turned, new blocks may have come. -/
structure Grew (v : Value) (w w' : World) (v' : Value) : Prop where
  by_ : w.grownBy w' v.ownBlock
  own : ∀ k, v'.ownBlock = some k → v.ownBlock = some k ∨ w.heap.size ≤ k
section
variable {v v' v'' : Value} {w w' w'' a : World} {B : Nat}
theorem Grew.refl (v : Value) (w : World) : Grew v w w v := ⟨⟨rfl, rfl, rfl, Nat.le_refl _, fun _ _ _ => rfl⟩, fun _ h => .inl h⟩
theorem Grew.trans (h : Grew v w w' v') (k : Grew v' w' w'' v'') : Grew v w w'' v'' :=
  ⟨⟨k.by_.os.trans h.by_.os, k.by_.tape.trans h.by_.tape, k.by_.output.trans h.by_.output, Nat.le_trans h.by_.size k.by_.size, fun i hi hne =>
    (k.by_.block i (Nat.lt_of_lt_of_le hi h.by_.size) fun e => by
      rcases h.own i e.symm with h2 | h2
      · exact hne h2.symm
      · omega).trans (h.by_.block i hi hne)⟩,
   fun i hi => by
    rcases k.own i hi with h2 | h2
    · exact h.own i h2
    · exact .inr (Nat.le_trans h.by_.size h2)⟩
theorem Grew.ext (h : Ext w w') : Grew v w w' v := ⟨⟨h.os, h.tape, h.output, h.size, fun i hi _ => h.block i hi⟩, fun _ h => .inl h⟩
theorem Grew.below (h : Grew v w w' v') (hv : ∀ k, v.ownBlock = some k → B ≤ k) (hB : B ≤ w.heap.size) : Below B w w' := Below.grown (Below.refl B w) h.by_ hB hv
theorem Grew.fresh (h : Grew v w w' v') (hx : Ext a w) (hv : ∀ k, v.ownBlock = some k → a.heap.size ≤ k) : ∀ k, v'.ownBlock = some k → a.heap.size ≤ k := fun k hk => by
  rcases h.own k hk with h2 | h2
  · exact hv k h2
  · exact Nat.le_trans hx.below.size h2
end

theorem Grew.alloc {v v' : Value} {w w' : World} {o : Obj} (h : Grew v (w.alloc o) w' v') : Grew v w w' v' := by
  have hs : (w.alloc o).heap.size = w.heap.size + 1 := by simp
  refine ⟨⟨h.by_.os, h.by_.tape, h.by_.output, by have := h.by_.size; omega, fun k hk hne => ?_⟩, fun k hk => ?_⟩
  · rw [h.by_.block k (by omega) hne]
    exact (MapKept.heap_alloc w o).2 k hk
  · rcases h.own k hk with h2 | h2
    · exact .inl h2
    · exact .inr (by omega)

section
variable {ops : Array Oper} {Q : Exit → Act → World → Prop} {rest : List Oper} {a : Act} {dst : Option Tmp} {s x : Operand} {ty : TypeId} {pos : String} {after : Array Edge} {B : Nat} {w0 : World} {v : Value} {xs : List Int} {n : Int}
end

section
variable {ops : Array Oper} {Q : Exit → Act → World → Prop} {rest : List Oper} {a : Act} {dst : Option Tmp} {s x : Operand} {ty : TypeId} {pos : String} {after : Array Edge} {B : Nat} {w0 : World} {v : Value} {xs ys : List Int} {p : Option Addr} {c : Nat}
end

def wfs (xs : List Int) : Prop := ∀ x ∈ xs, (Lit.int .i64 x).wf = true
theorem wfs.at {xs : List Int} (h : wfs xs) {k : Nat} (hk : k < xs.length) : -9223372036854775808 ≤ xs.getD k 0 ∧ xs.getD k 0 ≤ 9223372036854775807 := by
  have := h (xs[k]'hk) (List.getElem_mem hk)
  rw [List.getD_eq_getElem?_getD, List.getElem?_eq_getElem hk]
  simp only [Lit.wf, Bool.and_eq_true, decide_eq_true_eq] at this
  have e1 : IntKind.i64.min = -9223372036854775808 := by decide
  have e2 : IntKind.i64.max = 9223372036854775807 := by decide
  rw [e1, e2] at this
  simpa using this
section
variable {Q : Exit → Act → World → Prop} {K : Act → World → Prop} {a : Act} {dst : Option Tmp} {s x : Operand} {ty : TypeId} {pos : String} {after : Array Edge} {B : Nat} {w0 : World} {v : Value} {xs : List Int} {n : Int}
end
end Go.Proofs.YthpnkcamjcohgaaDoor
