
/- The width of a field, the size of a payload. -/
import Derived.Test.YthjklchmjeojjaaSFld
import Derived.Test.YthjklchmjeojjaaLen
namespace Go.Proofs.Ythjklchmjeojjaa
set_option linter.unusedVariables false
set_option linter.unusedSimpArgs false
open Go.RowKit

/-- The greatest w with 2^w at most the size. -/
def fW (size : Int) : Nat := Nat.log2 size.toNat
theorem fW_eq {size : Int} {j : Nat} (h0 : 1 ≤ size) (h1 : (2 : Int) ^ j ≤ size) (h2 : size < 2 ^ (j + 1)) : fW size = j := by
  have e1 := two_pow_cast j
  have e2 := two_pow_cast (j + 1)
  unfold fW
  rw [Nat.log2_eq_iff (by omega)]
  omega
theorem fW_bd {size : Int} (h : 3 ≤ size ∧ size ≤ 1021) : 1 ≤ fW size ∧ fW size ≤ 9 ∧ (2 : Int) ^ fW size ≤ size ∧ size < 2 ^ (fW size + 1) := by
  have h1 := (Nat.log2_eq_iff (n := size.toNat) (k := fW size) (by omega)).1 rfl
  have e1 := two_pow_cast (fW size)
  have e2 := two_pow_cast (fW size + 1)
  refine ⟨?_, ?_, by omega, by omega⟩
  · rcases Nat.eq_zero_or_pos (fW size) with h0 | h0
    · rw [h0] at h1; omega
    · exact h0
  · rcases Nat.lt_or_ge 9 (fW size) with h0 | h0
    · have : 2 ^ 10 ≤ 2 ^ fW size := Nat.pow_le_pow_right (by omega) h0
      omega
    · exact h0
theorem pow_shl {j : Nat} {size : Int} (hs : size ≤ 1021) (h : (2 : Int) ^ j ≤ size) : 1 ≤ (2 : Int) ^ j ∧ (2 : Int) * 2 ^ j ≤ 2042 ∧ (2 : Int) ^ (j + 1) = 2 * 2 ^ j := by
  have : (0 : Int) < 2 ^ j := Int.pow_pos (by omega)
  exact ⟨by omega, by omega, by rw [Int.pow_succ, Int.mul_comm]⟩

theorem fldSize_bd {p k q : Int} (h : fldOK p k q) : (3 ≤ fldSize p k ∧ fldSize p k ≤ 1021) ∧ 0 ≤ k ∧ k ≤ 40 := by
  rcases h with ⟨rfl, h, _⟩ | ⟨h1, rfl, h2, _⟩
  · exact ⟨h, by omega⟩
  · have e : fldSize 2 k = 2 ^ k.toNat := if_neg h1
    have e1 := two_pow_cast k.toNat
    have e4 : (2 : Nat) ^ k.toNat ≤ 2 ^ 8 := Nat.pow_le_pow_right (by omega) (by omega)
    have e5 : (2 : Nat) ^ 3 ≤ 2 ^ k.toNat := Nat.pow_le_pow_right (by omega) (by omega)
    omega
open Classical in
/-- What PayloadSize answers. -/
noncomputable def psN (p k : Int) (t : ByteArray) : Int := max 1 (((cell t t.size).len + fW (fldSize p k) - 1) / fW (fldSize p k))
open Classical in
noncomputable def psV (p k q : Int) (t : ByteArray) : Int × Int := if ¬ fldOK p k q then (0, 1) else if ¬ t.size ≤ 400 then (0, 3) else if 1500 < psN p k t then (0, 3) else (psN p k t, 0)
theorem cell_len_bd (t : ByteArray) (h : t.size ≤ 400) : 0 ≤ (cell t t.size).len ∧ (cell t t.size).len ≤ 1000000 := by
  have := cell_ok t t.size
  simp only [Cell.ok] at this
  omega

theorem psV_yes {p k q : Int} {t : ByteArray} {D : Int} (h1 : fldOK p k q) (h2 : t.size ≤ 400) (hD : ((cell t t.size).len + fW (fldSize p k) - 1) / fW (fldSize p k) = D) : psV p k q t = if D ≤ 1 then (1, 0) else if D ≤ 1500 then (D, 0) else (0, 3) := by
  have hn : psN p k t = max 1 D := by rw [← hD]; rfl
  unfold psV
  rw [if_neg (not_not_intro h1), if_neg (not_not_intro h2), hn]
  by_cases h3 : D ≤ 1
  · rw [if_pos h3, if_neg (by omega), show max 1 D = 1 by omega]
  · rw [if_neg h3, show max 1 D = D by omega]
    by_cases h4 : D ≤ 1500
    · rw [if_pos h4, if_neg (by omega)]
    · rw [if_neg h4, if_pos (by omega)]
theorem psV_long {p k q : Int} {t : ByteArray} (h1 : fldOK p k q) (h2 : ¬ t.size ≤ 400) : psV p k q t = (0, 3) := by
  unfold psV
  rw [if_neg (not_not_intro h1), if_pos h2]
theorem psV_no {p k q : Int} {t : ByteArray} (h1 : ¬ fldOK p k q) : psV p k q t = (0, 1) := by
  unfold psV
  rw [if_pos h1]

end Go.Proofs.Ythjklchmjeojjaa
