
/- Appending a struct in a region that draws. -/
import Derived.Test.YtbnpdpmbbppnhaaStructs
import Derived.Test.YtbnpdpmbbppnhaaBlk
namespace Go.Proofs.Ytbnpdpmbbppnhaa
set_option linter.unusedVariables false
set_option linter.unusedSimpArgs false
open Go.RowKit

section
variable {α : Type} {f : α → List Value} {k : Nat} {e t : TypeId}
variable {Q : Exit → Act → World → Prop} {K : Act → World → Prop} {a : Act} {dst : Option Tmp} {s x : Operand} {ty : TypeId} {pos : String} {after : Array Edge} {B : Nat} {w0 : World} {v : Value} {xs : List α} {n : α}
theorem append1S_op {z : Value} {bytes : Nat} (ht : Try.prog.underlying t = some (.slice e)) (hinfo : (Try.prog.info? e).map (fun i => (i.zero, i.size, i.bytes)) = some (some z, k, bytes)) (hz : z.cells.size = k) (hk : 0 < k) (hbytes : bytes ≤ 128)
    (hf : ∀ x, (f x).length = k) (h1 : ∀ x, ∀ u ∈ f x, u.oneCell' = true)
    (hown : RowS e f k B w0 v xs) (hlen : xs.length < 1099511627775) (hB : B ≤ w0.heap.size) {cs : Array Value} (hcs : cs = (f n).toArray)
    (h : ∀ v' w', RowS e f k B w' v' (xs ++ [n]) → Below B w0 w' → (∀ j, j < w0.heap.size → v.ownBlock ≠ some j → w'.heap[j]? = w0.heap[j]?) → K (a.put dst v') w') (hs : a.eval s = v) (hx : a.eval x = .slice (some ⟨w0.heap.size, 0, none⟩) 1 1) :
    Oper.wp Try.prog ⟨dst, .call { callee := .builtin .append, args := #[s, x], argTypes := #[t, t] }, ty, pos, after, none⟩ a (w0.alloc (.cells cs e)) K Q := by
  subst hcs
  obtain ⟨i0, hi, hz0, hz1, hz2⟩ := info_parts hinfo
  refine wp_append_own _ s x t rfl B e i0 z k bytes ht hi hz0 hz1 hz2 hz hk v xs.length (xs.flatMap f) hs (World.ownsRow.alloc hown _) ⟨w0.heap.size, 0, none⟩ 1 1 (f n) hx (by rw [hf, Nat.one_mul]) ?_ (h1 n) ?_ ?_ ?_ ?_
  · intro j u hj
    have : (w0.alloc (.cells (f n).toArray e)).heap[w0.heap.size]? = some (.cells (f n).toArray e) := (MapKept.heap_alloc w0 _).1
    rw [addr_add]
    simp only [World.cell?, this]
    simpa using hj
  · unfold maxLen; omega
  · have := Nat.mul_le_mul (show xs.length + 1 ≤ 1099511627776 from by omega) hbytes
    omega
  · simp; omega
  · intro v' w' h1 h2 _
    refine h v' w' ?_ ?_ ?_
    · have e1 : (xs ++ [n]).length = xs.length + 1 := by simp
      unfold RowS
      rw [e1]
      simpa using h1
    · exact Below.grown ((Below.refl B w0).alloc hB _) h2 (by simp; omega) (fun k hk => (hown.lt k hk).1)
    · intro j hj hne
      rw [h2.block j (by simp; omega) (fun e => hne e.symm)]
      exact (MapKept.heap_alloc w0 _).2 j hj
end

end Go.Proofs.Ytbnpdpmbbppnhaa
