
/- How a segment is written: the bits, and the reference's walk. -/
import Derived.Test.YthokkmbdkjpbcaaDoorBits
import Derived.Test.YthokkmbdkjpbcaaDoorModes
namespace Go.Proofs.YthokkmbdkjpbcaaDoor
set_option linter.unusedVariables false
set_option linter.unusedSimpArgs false
open Go.RowKit

/-- The number of a group of j bytes. -/
def numF (b m : Int) (t : ByteArray) (at_ : Nat) : Nat → Int
  | 0 => 0
  | j + 1 => numF b m t at_ j * b + charVal m (byteAt t (at_ + j))
def gN (m : Int) (t : ByteArray) (at_ : Nat) : Nat := min (grp m).toNat (t.size - at_)
/-- The bits of the groups from a byte on. -/
def rB (m : Int) (t : ByteArray) : Nat → Nat → List Int
  | 0, _ => []
  | f + 1, a => if t.size ≤ a then [] else bitsOf (numF (grpBase m) m t a (gN m t a)) (wid m (gN m t a)) ++ rB m t f (a + (grp m).toNat)
theorem rB_end (m : Int) (t : ByteArray) (f a : Nat) (h : t.size ≤ a) : rB m t f a = [] := by
  cases f with
  | zero => rfl
  | succ f => rw [rB, if_pos h]
theorem rB_step (m : Int) (t : ByteArray) (f a : Nat) (h : a < t.size) : rB m t (f + 1) a = bitsOf (numF (grpBase m) m t a (gN m t a)) (wid m (gN m t a)) ++ rB m t f (a + (grp m).toNat) := by
  rw [rB, if_neg (by omega)]
def segBits (m : Int) (t : ByteArray) : List Int := bitsOf m 3 ++ bitsOf t.size 8 ++ rB m t t.size 0

theorem idxB_le (s : ByteArray) (b : Int) : -1 ≤ idxB s b ∧ idxB s b < s.size := by
  unfold idxB
  split
  · rename_i i h
    rw [List.findIdx?_eq_some_iff_getElem] at h
    obtain ⟨h, _⟩ := h
    simp at h
    omega
  · omega
theorem charVal_hi (m : Int) (t : ByteArray) (a : Nat) : charVal m (byteAt t a) ≤ 255 := by
  have h1 := byteAt_bd t a
  have h2 := idxB_le (modeSet m) (byteAt t a)
  have h3 := modeSet_size m
  unfold charVal
  split
  · omega
  · split <;> omega
theorem charVal_ok {m : Int} {t : ByteArray} (h : AllIn m t) {a : Nat} (ha : a < t.size) : 0 ≤ charVal m (byteAt t a) := by
  rw [byteAt_eq ha]
  exact h a ha
theorem numF_bd {b m : Int} {t : ByteArray} (h : AllIn m t) (hb : 0 ≤ b ∧ b ≤ 256) {a : Nat} : ∀ j, a + j ≤ t.size → 0 ≤ numF b m t a j ∧ numF b m t a j < 256 ^ j := by
  intro j
  induction j with
  | zero => intro _; simp [numF]
  | succ j ih =>
    intro hj
    obtain ⟨h1, h2⟩ := ih (by omega)
    have h3 := charVal_ok h (show a + j < t.size by omega)
    have h4 := charVal_hi m t (a + j)
    have h5 : 0 ≤ numF b m t a j * b := Int.mul_nonneg h1 hb.1
    have h6 : numF b m t a j * b ≤ numF b m t a j * 256 := Int.mul_le_mul_of_nonneg_left hb.2 h1
    have h7 : (256 : Int) ^ (j + 1) = 256 ^ j * 256 := by rw [Int.pow_succ]
    simp only [numF]
    rw [h7]
    omega
theorem numF_small {b m : Int} {t : ByteArray} (h : AllIn m t) (hb : 0 ≤ b ∧ b ≤ 256) {a j : Nat} (hj : a + j ≤ t.size) (h3 : j ≤ 3) : 0 ≤ numF b m t a j ∧ numF b m t a j < 16777216 := by
  obtain ⟨h1, h2⟩ := numF_bd h hb j hj
  have : (256 : Int) ^ j ≤ 16777216 := by
    match j, h3 with
    | 0, _ => decide
    | 1, _ => decide
    | 2, _ => decide
    | 3, _ => decide
  omega
theorem numF_base {b b' m : Int} {t : ByteArray} {a : Nat} : ∀ j, j ≤ 1 → numF b m t a j = numF b' m t a j := by
  intro j hj
  match j, hj with
  | 0, _ => rfl
  | 1, _ => simp [numF]
theorem grpBase_bd (m : Int) : 0 ≤ grpBase m ∧ grpBase m ≤ 256 := by
  unfold grpBase
  (repeat' split) <;> omega

end Go.Proofs.YthokkmbdkjpbcaaDoor
