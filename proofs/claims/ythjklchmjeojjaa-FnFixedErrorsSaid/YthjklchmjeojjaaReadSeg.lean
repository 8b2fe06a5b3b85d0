
/- Reading a segment from bits: the numbers, the plain reading. -/
import Derived.Test.YthjklchmjeojjaaWriteI
import Derived.Lib.SlBytesRow
namespace Go.Proofs.Ythjklchmjeojjaa
set_option linter.unusedVariables false
set_option linter.unusedSimpArgs false
open Go.RowKit

/-- The number that is written in k bits from a on. -/
def numAt (xs : List Int) (a : Nat) : Nat → Int
  | 0 => 0
  | k + 1 => numAt xs a k * 2 + xs.getD (a + k) 0
theorem numAt_bd {xs : List Int} (h : ∀ x ∈ xs, x = 0 ∨ x = 1) (a : Nat) : ∀ k, a + k ≤ xs.length → 0 ≤ numAt xs a k ∧ numAt xs a k < 2 ^ k := by
  intro k
  induction k with
  | zero => intro _; simp [numAt]
  | succ k ih =>
    intro hk
    have := ih (by omega)
    have hx : xs.getD (a + k) 0 = 0 ∨ xs.getD (a + k) 0 = 1 := by
      rw [List.getD_eq_getElem?_getD, List.getElem?_eq_getElem (by omega)]
      exact h _ (List.getElem_mem _)
    simp only [numAt, Int.pow_succ]
    omega
theorem or_bit (n b : Int) (hn : 0 ≤ n ∧ n < 2305843009213693952) (hb : b = 0 ∨ b = 1) : bits .or .i64 (n * 2) b = n * 2 + b := by
  obtain ⟨k, rfl⟩ : ∃ k : Nat, n = k := ⟨n.toNat, by omega⟩
  obtain ⟨j, rfl⟩ : ∃ j : Nat, b = j := ⟨b.toNat, by omega⟩
  have hj : j < 2 := by omega
  have := bits_or_nat (k * 2) j (by omega) (by omega)
  have h2 := Nat.two_pow_add_eq_or_of_lt (i := 1) (b := j) (by omega) k
  rw [show (k : Int) * 2 = ((k * 2 : Nat) : Int) by omega, this]
  have h3 : k * 2 ||| j = k * 2 + j := by
    have e : 2 ^ 1 * k = k * 2 := by omega
    rw [e] at h2
    exact h2.symm
  rw [h3]
  omega

end Go.Proofs.Ythjklchmjeojjaa
