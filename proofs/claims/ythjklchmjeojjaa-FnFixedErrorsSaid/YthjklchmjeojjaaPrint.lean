
/- Printing (chapter 21): bounds and bleed. Contracts. -/
import Derived.Test.YthjklchmjeojjaaA
namespace Go.Proofs.Ythjklchmjeojjaa
set_option linter.unusedVariables false
set_option linter.unusedSimpArgs false
open Go.RowKit

def bleedBound (p : Int) : Int × Int := if 1 ≤ p ∧ p ≤ 12 then (p / 2 + 1 - p, p / 2) else (0, 0)
theorem bleedBound_in {p : Int} (h : 1 ≤ p ∧ p ≤ 12) : bleedBound p = (p / 2 + 1 - p, p / 2) := if_pos h
theorem bleedBound_out {p : Int} (h : ¬ (1 ≤ p ∧ p ≤ 12)) : bleedBound p = (0, 0) := if_neg h

abbrev vPrint (p t q b d l : Int) : Value := .agg #[.int .i64 p, .int .i64 t, .int .i64 q, .int .i64 b, .int .i64 d, .int .i64 l]
def IsPrint (p t q b d l : Int) : Prop := (1 ≤ p ∧ p ≤ 12) ∧ (1 ≤ t ∧ t ≤ 12) ∧ (0 ≤ q ∧ q ≤ 16) ∧ (1 - p ≤ b ∧ b ≤ p - 1) ∧ (0 ≤ d ∧ d < l ∧ l ≤ 255)

def BoundedBleed (p t q b d l : Int) : Prop := IsPrint p t q b d l ∧ (bleedBound p).1 ≤ b ∧ b ≤ (bleedBound p).2

end Go.Proofs.Ythjklchmjeojjaa
