
/- The length of the segmentation in one mode. -/
import Derived.Test.YthjklchmjeojjaaTab
namespace Go.Proofs.Ythjklchmjeojjaa
set_option linter.unusedVariables false
set_option linter.unusedSimpArgs false
open Go.RowKit

def mn255 (x : Int) : Int := if 255 < x then 255 else x
theorem mn255_bd (x : Int) (h : 0 < x ∧ x ≤ 400) : 0 ≤ mn255 x ∧ mn255 x ≤ 255 := by
  unfold mn255
  split <;> omega
def limR (s : ByteArray) (e : Ending) (v : Int) : Prop := (s.size ≤ 400 ∧ e = .returned (.tuple #[.int .i64 v, .int .i64 0])) ∨ (¬ s.size ≤ 400 ∧ e = .returned (.tuple #[.int .i64 0, .int .i64 3]))
def lbS (m : Int) (n : Nat) : Nat → Int
  | 0 => 0
  | j + 1 => lbS m n j + (11 + textW m (mn255 ((n : Int) - 255 * j)))
def lbJ (n : Nat) : Nat := (n + 254) / 255
theorem lbS_bd (m : Int) (n : Nat) (hn : n ≤ 400) : ∀ j, j ≤ lbJ n → 0 ≤ lbS m n j ∧ lbS m n j ≤ 10000 * j := by
  intro j
  induction j with
  | zero => intro _; simp [lbS]
  | succ j ih =>
    intro hj
    unfold lbJ at hj ih
    have := ih (by omega)
    have := mn255_bd ((n : Int) - 255 * j) (by omega)
    have := textW_bd m (mn255 ((n : Int) - 255 * j)) (by omega)
    simp only [lbS]
    omega
theorem narrowest_bd (s : ByteArray) : 1 ≤ narrowest s ∧ narrowest s ≤ 4 := by
  unfold narrowest
  (repeat' split) <;> omega
noncomputable def lbV (s : ByteArray) : Int := lbS (narrowest s) s.size (lbJ s.size)

end Go.Proofs.Ythjklchmjeojjaa
