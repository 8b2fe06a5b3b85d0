
/- BestSegments: the law's walk. -/
import Derived.Test.YthjklchmjeojjaaBestS
import Derived.Test.YthjklchmjeojjaaMarkS
namespace Go.Proofs.Ythjklchmjeojjaa
set_option linter.unusedVariables false
set_option linter.unusedSimpArgs false
open Go.RowKit

def bsL (s : ByteArray) : List Sg := if s.size ≤ 400 then bests s s.size else []
def bsC (s : ByteArray) : Int := if s.size ≤ 400 then 0 else 3
theorem bsL_len (s : ByteArray) : (bsL s).length ≤ 400 := by
  unfold bsL
  split
  · have := bests_len s s.size
    omega
  · simp
/-- The answer of BestSegments. -/
def bsR (s : ByteArray) (B : Nat) (e : Ending) (w : World) : Prop := ∃ p c, e = .returned (.tuple #[.slice p (bsL s).length c, .int .i64 (bsC s)]) ∧ SOwn segF 2 B w p (bsL s)

end Go.Proofs.Ythjklchmjeojjaa
