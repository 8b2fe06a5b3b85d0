
/- The text of a batch, on both sides. -/
import Derived.Test.YthokkmbdkjpbcaaDoorBatchLaw
import Derived.Test.YthokkmbdkjpbcaaDoorDecimals
import Derived.Test.YthokkmbdkjpbcaaDoorRead
import Derived.Shelf.Vars
namespace Go.Proofs.YthokkmbdkjpbcaaDoor
set_option linter.unusedVariables false
set_option linter.unusedSimpArgs false
open Go.RowKit

/-- The text of a batch that is valid. -/
def batT (s : ByteArray) (f st c wd : Int) : ByteArray := s ++ slB ++ dec f ++ slB ++ dec st ++ slB ++ dec c ++ slB ++ dec wd
/-- The library's variable that its search functions read holds a number. -/
def MaxC (w : World) : Prop := ∃ m, w.cell? ⟨1, 0, none⟩ = some (.int .i64 m)
theorem MaxC.of {w : World} (h : w.ShapedOpen Tryd.prog) : MaxC w := cell_of_shapedOpen_int (zero := #[.int .i64 0]) (t := 3) h (of_decide_eq_true (by kernel_rfl)) (by kernel_rfl) rfl (by kernel_rfl) (by kernel_rfl) Tryd.underlying3
theorem MaxC.ext {w w' : World} (h : MaxC w) (hb : Ext w w') : MaxC w' := by
  obtain ⟨m, hm⟩ := h
  exact ⟨m, by rw [(ecell hb).1 _ _ (cell_lt hm).1]; exact hm⟩
end Go.Proofs.YthokkmbdkjpbcaaDoor
