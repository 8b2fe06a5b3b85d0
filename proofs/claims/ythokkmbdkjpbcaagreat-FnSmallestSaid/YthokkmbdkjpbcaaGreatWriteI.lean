
/- How the program writes a segment. -/
import Derived.Test.YthokkmbdkjpbcaaGreatWrite
import Derived.Test.YthokkmbdkjpbcaaGreatWidths
import Derived.Lib.SlBytesRow
/-! How the program writes a segment. -/
namespace Go.Proofs.YthokkmbdkjpbcaaGreat
set_option linter.unusedVariables false
set_option linter.unusedSimpArgs false
open Go.RowKit

theorem Blk.grew {w w' : World} {v v' : Value} {g : Nat} {cs : Array Value} {t : TypeId} (h : Blk w g cs t) (k : Grew v w w' v') (hne : v.ownBlock ≠ some g) : Blk w' g cs t :=
  (k.by_.block g h.lt (fun e => hne e.symm)).trans h
/-- What a grown row leaves alone: all blocks from n0 on, where the row lay below n0. -/
theorem gcell {v o : Value} {W wr : World} {n0 : Nat} (h : Grew v W wr o) (hv : ∀ k, v.ownBlock = some k → k < n0) :
    (∀ b o, n0 ≤ b → b < W.heap.size → wr.cell? ⟨b, o, none⟩ = W.cell? ⟨b, o, none⟩) ∧ (∀ b o, n0 ≤ b → b < W.heap.size → wr.frozen? ⟨b, o, none⟩ = W.frozen? ⟨b, o, none⟩) ∧ (∀ k, k < W.heap.size → k < wr.heap.size) ∧ W.heap.size ≤ wr.heap.size := by
  have hb : ∀ b, n0 ≤ b → b < W.heap.size → wr.heap[b]? = W.heap[b]? := fun b h1 h2 => h.by_.block b h2 fun e => by have := hv b e.symm; omega
  exact ⟨fun b o h1 h2 => World.cell?_of_block (a := ⟨b, o, none⟩) (hb b h1 h2), fun b o h1 h2 => World.frozen?_of_block (a := ⟨b, o, none⟩) (hb b h1 h2), fun k hk => Nat.lt_of_lt_of_le hk h.by_.size, h.by_.size⟩
theorem IntsAt.grew {v o : Value} {W wr : World} {n0 : Nat} {p : Option Addr} {xs : List Int} (hx : IntsAt W p xs) (h : Grew v W wr o) (hv : ∀ k, v.ownBlock = some k → k < n0) (hp : ∀ b o, p = some ⟨b, o, none⟩ → n0 ≤ b) : IntsAt wr p xs := fun i hi => by
  obtain ⟨b, o', e, hb, hc⟩ := hx i hi
  exact ⟨b, o', e, Nat.lt_of_lt_of_le hb h.by_.size, by rw [(gcell h hv).1 b _ (hp _ _ e) hb]; exact hc⟩

def iBase (m : Int) : Int := if m = 1 then 10 else if m = 2 then 45 else if m = 3 then 32 else 256
end Go.Proofs.YthokkmbdkjpbcaaGreat

/-! Reading a segment from bits: the numbers, the plain reading. -/
namespace Go.Proofs.YthokkmbdkjpbcaaGreat
set_option linter.unusedVariables false
set_option linter.unusedSimpArgs false
open Go.RowKit

end Go.Proofs.YthokkmbdkjpbcaaGreat
