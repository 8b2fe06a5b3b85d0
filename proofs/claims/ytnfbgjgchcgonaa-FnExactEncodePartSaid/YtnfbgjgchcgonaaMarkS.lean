
/- Marking and holding lists of segments. -/
import Derived.Test.YtnfbgjgchcgonaaCells
import Derived.Test.YtnfbgjgchcgonaaMark
import Derived.Test.YtnfbgjgchcgonaaSegs
namespace Go.Proofs.Ytnfbgjgchcgonaa
set_option linter.unusedVariables false
set_option linter.unusedSimpArgs false
open Go.RowKit

def mkSg (k0 : Nat) (n : Nat) : List Sg := (List.range n).map fun i => (((k0 + 2 * i : Nat) : Int), mText (k0 + 2 * i + 1))
theorem mkSg_len (k0 n : Nat) : (mkSg k0 n).length = n := by simp [mkSg]
theorem mkSg_succ (k0 n : Nat) : mkSg k0 (n + 1) = mkSg k0 n ++ [(((k0 + 2 * n : Nat) : Int), mText (k0 + 2 * n + 1))] := by simp [mkSg, List.range_succ]
theorem OwnCells.at {B : Nat} {w : World} {p : Option Addr} {P c R : List Value} (h : OwnCells B w p (P ++ (c ++ R))) {j n : Nat} (hn : n = P.length + j) (hj : j < c.length) :
    ∃ b o, p = some ⟨b, o, none⟩ ∧ B ≤ b ∧ b < w.heap.size ∧ w.cell? ⟨b, o + n, none⟩ = some (c[j]'hj) ∧ w.frozen? ⟨b, o + n, none⟩ = false := by
  subst hn
  obtain ⟨b, o, h1, h2, h3, h4, h5⟩ := h (P.length + j) (by simp; omega)
  refine ⟨b, o, h1, h2, h3, ?_, h5⟩
  rw [h4, List.getElem_append_right (by omega)]
  simp only [Nat.add_sub_cancel_left]
  rw [List.getElem_append_left hj]

theorem markText1_c (q : Nat) (w : World) (hk : q + 1 ≤ 1099511627776) :
    Calls Try.prog 124 #[.int .i64 ((q : Int) + 1)] w fun e w' => e = .returned (.string (mText (q + 1))) ∧ Ext w w' := markText_c (q + 1) w hk
end Go.Proofs.Ytnfbgjgchcgonaa
