/- WriteMessage. -/
import Derived.Test.YthpnkcamjcohgaaDoorLPartsK20
import Derived.Test.YthpnkcamjcohgaaDoorLPartsK14
import Derived.Test.YthpnkcamjcohgaaDoorLPartsK21
import Derived.Test.YthpnkcamjcohgaaDoorLPartsK15
import Derived.Test.YthpnkcamjcohgaaDoorLPartsK10
import Derived.Test.YthpnkcamjcohgaaDoorLPartsK16
import Derived.Test.YthpnkcamjcohgaaDoorLPartsK19
import Derived.Test.YthpnkcamjcohgaaDoorLPartsK03
namespace Go.Proofs.YthpnkcamjcohgaaDoor
set_option linter.unusedVariables false
set_option linter.unusedSimpArgs false
open Go.RowKit

end Go.Proofs.YthpnkcamjcohgaaDoor
/- What was written is read again. -/
/-! What was written is read again. -/
namespace Go.Proofs.YthpnkcamjcohgaaDoor
set_option linter.unusedVariables false
set_option linter.unusedSimpArgs false
open Go.RowKit

end Go.Proofs.YthpnkcamjcohgaaDoor

/-! A segment that is read has been written with just these bits. -/
namespace Go.Proofs.YthpnkcamjcohgaaDoor
set_option linter.unusedVariables false
set_option linter.unusedSimpArgs false
open Go.RowKit

end Go.Proofs.YthpnkcamjcohgaaDoor
/- The reference's payload: bits filled up, elements. -/
/-! The reference's payload: bits filled up, elements. -/
namespace Go.Proofs.YthpnkcamjcohgaaDoor
set_option linter.unusedVariables false
set_option linter.unusedSimpArgs false
open Go.RowKit

theorem RowI.sl {B n : Nat} {w : World} {v : Value} {xs : List Int} (h : RowI B w v xs) (hn : xs.length = n) : ∃ p c, v = .slice p n c := by
  obtain ⟨p, c, hv, _⟩ := h.own
  exact ⟨p, c, by rw [hv, hn]⟩
end Go.Proofs.YthpnkcamjcohgaaDoor

/-! EncodePayload. -/
/-! EncodePayload. -/
namespace Go.Proofs.YthpnkcamjcohgaaDoor
set_option linter.unusedVariables false
set_option linter.unusedSimpArgs false
open Go.RowKit

end Go.Proofs.YthpnkcamjcohgaaDoor

/-! The reference's EncodePayload; the walk of the law FnExactEncodePayload. -/
namespace Go.Proofs.YthpnkcamjcohgaaDoor
set_option linter.unusedVariables false
set_option linter.unusedSimpArgs false
open Go.RowKit

theorem l11Capacity_c (n : Int) (w : World) : Calls Tryd.prog 57 #[.int .i64 n] w fun e w' => isB e (1 ≤ n ∧ n ≤ 1500) ∧ w = w' := by
  go_enter Tryd.func57, Tryd.ntmps57
  go_wp2_with (go_at_call 98; (with_reducible refine (l01In_c _ _ _ _).mono ?_); rintro e w1 ⟨⟨hP, rfl⟩ | ⟨hP, rfl⟩, rfl⟩)
  · go_ret
    exact ⟨isB_t hP, rfl⟩
  · go_ret
    exact ⟨isB_f hP, rfl⟩

end Go.Proofs.YthpnkcamjcohgaaDoor
