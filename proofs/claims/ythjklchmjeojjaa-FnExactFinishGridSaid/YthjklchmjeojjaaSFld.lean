
/- The reference's fields: multiplication by the generator, the powers, valid fields. -/
import Derived.Test.YthjklchmjeojjaaCalc
/-! The reference's fields: multiplication by the generator, the powers, valid fields. -/
namespace Go.Proofs.Ythjklchmjeojjaa
set_option linter.unusedVariables false
set_option linter.unusedSimpArgs false
open Go.RowKit

/-- The second loop of the multiplication by 2. -/
def MulL (k : Nat) (q a : Int) (o i : Value) : Prop := (∃ c : Nat, k ≤ c ∧ c ≤ 2 * k ∧ i = .int .i64 c ∧ o = .int .i64 (2 * a)) ∨ (i = .int .i64 ((k : Int) - 1) ∧ o = .int .i64 (xtS k q a))
end Go.Proofs.Ythjklchmjeojjaa

/-! The reference's IsField. -/
namespace Go.Proofs.Ythjklchmjeojjaa
set_option linter.unusedVariables false
set_option linter.unusedSimpArgs false
open Go.RowKit

theorem gps_one {g p : Int} (hg : 0 ≤ g ∧ g < p) : itS (gpS g p) 1 = g := by
  show 1 * g % p = g
  rw [Int.one_mul]
  exact Int.emod_eq_of_lt hg.1 hg.2
end Go.Proofs.Ythjklchmjeojjaa
