
/- WriteMessage. -/
import Derived.Test.YthokkmbdkjpbcaaGreatWriteS
import Derived.Test.YthokkmbdkjpbcaaGreatSegMath3
import Derived.Test.YthokkmbdkjpbcaaGreatWBest
namespace Go.Proofs.YthokkmbdkjpbcaaGreat
set_option linter.unusedVariables false
set_option linter.unusedSimpArgs false
open Go.RowKit

theorem SOwn.grew {α : Type} {f : α → List Value} {k n0 : Nat} {v o : Value} {W wr : World} {p : Option Addr} {xs : List α} (hx : SOwn f k n0 W p xs) (h : Grew v W wr o) (hv : ∀ k, v.ownBlock = some k → k < n0) : SOwn f k n0 wr p xs := fun i hi => by
  obtain ⟨b, o', e, hB, hb, hc, hf⟩ := hx i hi
  have hbk : wr.heap[b]? = W.heap[b]? := h.by_.block b hb fun e => by have := hv b e.symm; omega
  exact ⟨b, o', e, hB, Nat.lt_of_lt_of_le hb h.by_.size, fun j u hu => (World.cell?_of_block (a := ⟨b, o' + i * k + j, none⟩) hbk).trans (hc j u hu), fun j => (World.frozen?_of_block (a := ⟨b, j, none⟩) hbk).trans (hf j)⟩

end Go.Proofs.YthokkmbdkjpbcaaGreat
