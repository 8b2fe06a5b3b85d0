
/- The reference's payload: bits filled up, elements. -/
import Derived.Test.YthokkmbdkjpbcaaGreatChan
import Derived.Test.YthokkmbdkjpbcaaGreatSRead
import Derived.Test.YthokkmbdkjpbcaaGreatPaySize
import Derived.Test.YthokkmbdkjpbcaaGreatMsg
import Derived.Test.YthokkmbdkjpbcaaGreatReadMath
import Derived.Test.YthokkmbdkjpbcaaGreatInts
/-! The reference's payload: bits filled up, elements. -/
namespace Go.Proofs.YthokkmbdkjpbcaaGreat
set_option linter.unusedVariables false
set_option linter.unusedSimpArgs false
open Go.RowKit

theorem RowI.sl {B n : Nat} {w : World} {v : Value} {xs : List Int} (h : RowI B w v xs) (hn : xs.length = n) : ∃ p c, v = .slice p n c := by
  obtain ⟨p, c, hv, _⟩ := h.own
  exact ⟨p, c, by rw [hv, hn]⟩
end Go.Proofs.YthokkmbdkjpbcaaGreat

/-! EncodePayload. -/
/-! EncodePayload. -/
namespace Go.Proofs.YthokkmbdkjpbcaaGreat
set_option linter.unusedVariables false
set_option linter.unusedSimpArgs false
open Go.RowKit

end Go.Proofs.YthokkmbdkjpbcaaGreat

/-! The reference's EncodePayload; the walk of the law FnExactEncodePayload. -/
namespace Go.Proofs.YthokkmbdkjpbcaaGreat
set_option linter.unusedVariables false
set_option linter.unusedSimpArgs false
open Go.RowKit

end Go.Proofs.YthokkmbdkjpbcaaGreat
