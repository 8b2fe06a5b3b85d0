
/- Texts of batches: plain laws. -/
import Derived.Test.YthokkmbdkjpbcaaDoorDecS
import Derived.Lib.Replace
import Derived.Lib.SplitLaws
import Derived.Lib.IndexBytes
namespace Go.Proofs.YthokkmbdkjpbcaaDoor
set_option linter.unusedVariables false
set_option linter.unusedSimpArgs false
open Go.RowKit

theorem indexByte_pre (x : UInt8) : ∀ (pre post : List UInt8), x ∉ pre → Lib.indexByte (pre ++ x :: post) x = (pre.length : Int) := by
  intro pre
  induction pre with
  | nil => intro post _; simp [Lib.indexByte]
  | cons b l ih =>
    intro post h
    simp only [List.mem_cons, not_or] at h
    have := ih post h.2
    simp only [List.cons_append, Lib.indexByte, this]
    have hb : ¬ b = x := fun e => h.1 e.symm
    first
      | (simp [hb]; done)
      | (simp [hb]; omega)
def spB : ByteArray := ByteArray.mk #[32]
def slB : ByteArray := ByteArray.mk #[47]
end Go.Proofs.YthokkmbdkjpbcaaDoor
