
/- Drawn parts of messages. -/
import Derived.Test.YtdjknkmifaomgaaGreatDrawPay
import Derived.Test.YtdjknkmifaomgaaGreatCanon
import Derived.Test.YtdjknkmifaomgaaGreatPart
namespace Go.Proofs.YtdjknkmifaomgaaGreat
set_option linter.unusedVariables false
set_option linter.unusedSimpArgs false
open Go.RowKit

theorem Src.set {n0 g x i : Nat} {w : World} {v : Value} (h : Src n0 w g) (hx : n0 ≤ x) : Src n0 (w.setCell ⟨x, i, none⟩ v) g := h.low ((Below.refl n0 w).setCell (p := ⟨x, i, none⟩) hx v) (Nat.le_refl _)
theorem But.setOld {g x i : Nat} {a b : World} {v : Value} (h : But g a b) (hx : a.heap.size ≤ x) : But g a (b.setCell ⟨x, i, none⟩ v) := h.below ((Below.refl a.heap.size b).setCell (p := ⟨x, i, none⟩) hx v) (Nat.le_refl _)
theorem But.alloc {g : Nat} {a b : World} (h : But g a b) (o : Obj) : But g a (b.alloc o) := h.trans (But.of ((Ext.refl b).alloc o))
theorem Src.alloc {n0 g : Nat} {w : World} (h : Src n0 w g) (o : Obj) : Src n0 (w.alloc o) g := h.ext ((Ext.refl w).alloc o)
theorem pairA (a b : Int) (j : Nat) (hj : j < 2) : ∃ v : Int, (#[.int .i64 a, .int .i64 b] : Array Value)[j]? = some (.int .i64 v) ∧ (v = a ∨ v = b) := by
  match j, hj with
  | 0, _ => exact ⟨_, rfl, .inl rfl⟩
  | 1, _ => exact ⟨_, rfl, .inr rfl⟩
/-- A part has been drawn; only the source has turned. -/
def PartR (n0 g : Nat) (w : World) (e : Ending) (w' : World) : Prop := ∃ (i n y : Int) (t : ByteArray), e = .returned (vPart i n y t) ∧ t.size ≤ 500 ∧ Src n0 w' g ∧ But g w w'
end Go.Proofs.YtdjknkmifaomgaaGreat
