
/- The arithmetic of a field: the tables are filled. -/
import Derived.Test.YthjklchmjeojjaaBase
import Derived.Test.YthjklchmjeojjaaBits
import Derived.Test.YthjklchmjeojjaaStructs
/-! The arithmetic of a field: the tables are filled. -/
namespace Go.Proofs.Ythjklchmjeojjaa
set_option linter.unusedVariables false
set_option linter.unusedSimpArgs false
open Go.RowKit

/-- t, n times from 1 on. -/
def itS (t : Int → Int) : Nat → Int
  | 0 => 1
  | n + 1 => t (itS t n)
/-- The powers come back to 1 after just N steps, and never to 0. -/
def Runs (t : Int → Int) (N : Nat) : Prop := (∀ n, n < N → itS t n ≠ 0 ∧ (0 < n → itS t n ≠ 1)) ∧ itS t N = 1
theorem itS_bd {t : Int → Int} {size : Int} (h3 : 3 ≤ size) (ht : ∀ x, 0 ≤ x ∧ x < size → 0 ≤ t x ∧ t x < size) : ∀ n, 0 ≤ itS t n ∧ itS t n < size := by
  intro n
  induction n with
  | zero => exact ⟨by show (0 : Int) ≤ 1; omega, by show (1 : Int) < size; omega⟩
  | succ n ih => exact ht _ ih

/-- What a field's arithmetic keeps beside the tables. -/
def CalcS (cs : Array Value) (bin : Bool) (size : Int) : Prop := cs.size = 2044 ∧ cs[0]? = some (.bool bin) ∧ cs[1]? = some (.int .i64 size) ∧ ∀ i, 2 ≤ i → i < 2044 → ∃ n, cs[i]? = some (.int .i64 n)
theorem CalcS.set {cs : Array Value} {bin : Bool} {size : Int} (h : CalcS cs bin size) {i : Nat} (hi : 2 ≤ i) (n : Int) : CalcS (cs.setIfInBounds i (.int .i64 n)) bin size := by
  obtain ⟨h1, h2, h3, h4⟩ := h
  refine ⟨by simpa using h1, by rw [Array.getElem?_setIfInBounds_ne (by omega)]; exact h2, by rw [Array.getElem?_setIfInBounds_ne (by omega)]; exact h3, fun j h5 h6 => ?_⟩
  by_cases e : i = j
  · subst e
    exact ⟨n, by rw [Array.getElem?_setIfInBounds_self_of_lt (by omega)]⟩
  · rw [Array.getElem?_setIfInBounds_ne e]
    exact h4 j h5 h6
end Go.Proofs.Ythjklchmjeojjaa

/-! The arithmetic of a field of prime size. -/
namespace Go.Proofs.Ythjklchmjeojjaa
set_option linter.unusedVariables false
set_option linter.unusedSimpArgs false
open Go.RowKit

def gpS (g p x : Int) : Int := x * g % p
theorem gpS_bd {g p : Int} (hp : 3 ≤ p) : ∀ x, 0 ≤ x ∧ x < p → 0 ≤ gpS g p x ∧ gpS g p x < p := fun x _ => ⟨Int.emod_nonneg _ (by omega), Int.emod_lt_of_pos _ (by omega)⟩
def isZeroI : Value → Bool
  | .int .i64 0 => true
  | _ => false
theorem isZeroI_eq {v : Value} (h : isZeroI v = true) : v = .int .i64 0 := by
  unfold isZeroI at h
  split at h
  · rfl
  · simp at h
end Go.Proofs.Ythjklchmjeojjaa

/-! Prime numbers; the arithmetic of a field of prime size, found. -/
namespace Go.Proofs.Ythjklchmjeojjaa
set_option linter.unusedVariables false
set_option linter.unusedSimpArgs false
open Go.RowKit

def isPr (n : Int) : Prop := ∀ d : Nat, 2 ≤ d → (d : Int) * d ≤ n → n % d ≠ 0

end Go.Proofs.Ythjklchmjeojjaa

/-! The arithmetic of a field of prime size: it is found just where the field is valid. -/
namespace Go.Proofs.Ythjklchmjeojjaa
set_option linter.unusedVariables false
set_option linter.unusedSimpArgs false
open Go.RowKit

/-- x doubled, with the polynomial q taken off where it has grown too large. -/
def xtS (k : Nat) (q x : Int) : Int := if 2 * x < 2 ^ k then 2 * x else (((2 * x).toNat ^^^ q.toNat : Nat) : Int)
/-- The field is valid. -/
def fldOK (p k q : Int) : Prop :=
  (k = 1 ∧ (3 ≤ p ∧ p ≤ 1021) ∧ isPr p ∧ (1 ≤ q ∧ q ≤ p - 1) ∧ (∀ g : Int, 1 ≤ g → g < q → ¬ Runs (gpS g p) (p - 1).toNat) ∧ Runs (gpS q p) (p - 1).toNat) ∨
  (k ≠ 1 ∧ p = 2 ∧ (3 ≤ k ∧ k ≤ 8) ∧ (2 ^ k.toNat ≤ q ∧ q < 2 ^ (k.toNat + 1)) ∧ Runs (xtS k.toNat q) (2 ^ k.toNat - 1))
def fldSize (p k : Int) : Int := if k = 1 then p else 2 ^ k.toNat
abbrev vFld (p k q : Int) : Value := .agg #[.int .i64 p, .int .i64 k, .int .i64 q]
theorem runs_one {p : Int} (hp : 3 ≤ p) : ¬ Runs (gpS 1 p) (p - 1).toNat := fun h => by
  have h1 : itS (gpS 1 p) 1 = 1 := by
    show 1 * 1 % p = 1
    rw [Int.one_mul]
    exact Int.emod_eq_of_lt (by omega) (by omega)
  exact (h.1 1 (by omega)).2 (by omega) h1

end Go.Proofs.Ythjklchmjeojjaa

/-! The arithmetic of a binary field. -/
namespace Go.Proofs.Ythjklchmjeojjaa
set_option linter.unusedVariables false
set_option linter.unusedSimpArgs false
open Go.RowKit

theorem and_top {k y : Nat} (hy : y < 2 ^ (k + 1)) : y &&& 2 ^ k = if y < 2 ^ k then 0 else 2 ^ k := by
  apply Nat.eq_of_testBit_eq
  intro i
  rw [Nat.testBit_and, Nat.testBit_two_pow]
  by_cases h : y < 2 ^ k
  · rw [if_pos h, Nat.zero_testBit]
    by_cases e : k = i
    · subst e
      rw [Nat.testBit_lt_two_pow h]
      rfl
    · simp [e]
  · rw [if_neg h, Nat.testBit_two_pow]
    by_cases e : k = i
    · subst e
      rw [Nat.testBit_of_two_pow_le_and_two_pow_add_one_gt (by omega) hy]
      rfl
    · simp [e]
theorem xor_top {k y q : Nat} (h1 : 2 ^ k ≤ y) (h2 : y < 2 ^ (k + 1)) (h3 : 2 ^ k ≤ q) (h4 : q < 2 ^ (k + 1)) : y ^^^ q < 2 ^ k := by
  refine Nat.lt_pow_two_of_testBit _ fun i hi => ?_
  rw [Nat.testBit_xor]
  by_cases e : i = k
  · subst e
    rw [Nat.testBit_of_two_pow_le_and_two_pow_add_one_gt h1 h2, Nat.testBit_of_two_pow_le_and_two_pow_add_one_gt h3 h4]
    rfl
  · have h5 : 2 ^ (k + 1) ≤ 2 ^ i := Nat.pow_le_pow_right (by omega) (by omega)
    rw [Nat.testBit_lt_two_pow (by omega), Nat.testBit_lt_two_pow (by omega)]
    rfl
theorem two_pow_cast (k : Nat) : ((2 ^ k : Nat) : Int) = (2 : Int) ^ k := by simp
theorem xtS_bd {k : Nat} {q : Int} (hq : (2 : Int) ^ k ≤ q ∧ q < 2 ^ (k + 1)) : ∀ x, 0 ≤ x ∧ x < 2 ^ k → 0 ≤ xtS k q x ∧ xtS k q x < 2 ^ k := by
  intro x hx
  have h1 := two_pow_cast k
  have h2 := two_pow_cast (k + 1)
  have h3 : (2 : Nat) ^ (k + 1) = 2 * 2 ^ k := by rw [Nat.pow_succ, Nat.mul_comm]
  unfold xtS
  split
  · omega
  · have := xor_top (k := k) (y := (2 * x).toNat) (q := q.toNat) (by omega) (by omega) (by omega) (by omega)
    omega

end Go.Proofs.Ythjklchmjeojjaa

/-! calc, whole. -/
namespace Go.Proofs.Ythjklchmjeojjaa
set_option linter.unusedVariables false
set_option linter.unusedSimpArgs false
open Go.RowKit

end Go.Proofs.Ythjklchmjeojjaa
