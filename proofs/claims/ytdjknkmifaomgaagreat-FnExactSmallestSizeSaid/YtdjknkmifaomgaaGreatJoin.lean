
/- The joined text of segments; segmentations. -/
import Derived.Test.YtdjknkmifaomgaaGreatSegs
namespace Go.Proofs.YtdjknkmifaomgaaGreat
set_option linter.unusedVariables false
set_option linter.unusedSimpArgs false
open Go.RowKit

def joined (xs : List Sg) : ByteArray := xs.foldl (fun a x => a ++ x.2) ByteArray.empty
theorem joined_snoc (xs : List Sg) (x : Sg) : joined (xs ++ [x]) = joined xs ++ x.2 := by simp [joined]
theorem joined_take {xs : List Sg} {k : Nat} (hlt : k < xs.length) : joined (xs.take (k + 1)) = joined (xs.take k) ++ (xs[k]'hlt).2 := by
  rw [List.take_succ_eq_append_getElem hlt, joined_snoc]
theorem joined_size (xs : List Sg) (h : segsOK xs) : ∀ k, k ≤ xs.length → (joined (xs.take k)).size ≤ 255 * k := by
  intro k
  induction k with
  | zero => intro _; simp [joined]
  | succ k ih =>
    intro hk
    have := ih (by omega)
    have h2 := (h _ (List.getElem_mem (show k < xs.length by omega))).2.1.2
    rw [joined_take (by omega), ByteArray.size_append]
    omega

/-- The answer of JoinSegments. -/
def jnR (xs : List Sg) (e : Ending) : Prop :=
  ((xs.length ≤ 400 ∧ segsOK xs ∧ (joined xs).size ≤ 400) ∧ e = .returned (.tuple #[.string (joined xs), .int .i64 0])) ∨
  ((¬ xs.length ≤ 400 ∨ (segsOK xs ∧ ¬ (joined xs).size ≤ 400)) ∧ e = .returned (.tuple #[.string ⟨#[]⟩, .int .i64 3])) ∨
  ((xs.length ≤ 400 ∧ ¬ segsOK xs) ∧ e = .returned (.tuple #[.string ⟨#[]⟩, .int .i64 1]))

/-- xs is a segmentation of s. -/
def isSegm (s : ByteArray) (xs : List Sg) : Prop := (xs.length ≤ 400 ∧ segsOK xs ∧ (joined xs).size ≤ 400) ∧ joined xs = s
end Go.Proofs.YtdjknkmifaomgaaGreat
