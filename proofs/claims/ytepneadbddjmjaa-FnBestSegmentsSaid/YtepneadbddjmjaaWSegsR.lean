/- The answers of SegmentsLength and JoinSegments as values. -/
import Derived.Test.YtepneadbddjmjaaJoin
namespace Go.Proofs.Ytepneadbddjmjaa
set_option linter.unusedVariables false
set_option linter.unusedSimpArgs false
open Go.RowKit

open Classical in
noncomputable def slA (xs : List Sg) : Int := if xs.length ≤ 400 ∧ segsOK xs then segsSum xs else 0
open Classical in
noncomputable def slB (xs : List Sg) : Int := if ¬ xs.length ≤ 400 then 3 else if segsOK xs then 0 else 1
theorem slR.fn {xs : List Sg} {e : Ending} (h : slR xs e) : e = .returned (.tuple #[.int .i64 (slA xs), .int .i64 (slB xs)]) := by
  unfold slA slB
  rcases h with ⟨h, rfl⟩ | ⟨h, rfl⟩ | ⟨h, rfl⟩
  · rw [if_pos h, if_neg (by simp; exact h.1), if_pos h.2]
  · rw [if_neg (fun h' => h h'.1), if_pos h]
  · rw [if_neg (fun h' => h.2 h'.2), if_neg (by simp; exact h.1), if_neg h.2]
open Classical in
noncomputable def jnA (xs : List Sg) : ByteArray := if xs.length ≤ 400 ∧ segsOK xs ∧ (joined xs).size ≤ 400 then joined xs else ⟨#[]⟩
open Classical in
noncomputable def jnB (xs : List Sg) : Int := if xs.length ≤ 400 ∧ segsOK xs ∧ (joined xs).size ≤ 400 then 0 else if ¬ xs.length ≤ 400 ∨ (segsOK xs ∧ ¬ (joined xs).size ≤ 400) then 3 else 1
theorem jnR.fn {xs : List Sg} {e : Ending} (h : jnR xs e) : e = .returned (.tuple #[.string (jnA xs), .int .i64 (jnB xs)]) := by
  unfold jnA jnB
  rcases h with ⟨h, rfl⟩ | ⟨h, rfl⟩ | ⟨h, rfl⟩
  · rw [if_pos h, if_pos h]
  · have h0 : ¬ (xs.length ≤ 400 ∧ segsOK xs ∧ (joined xs).size ≤ 400) := fun h' => h.elim (fun h => h h'.1) (fun h => h.2 h'.2.2)
    rw [if_neg h0, if_neg h0, if_pos h]
  · have h0 : ¬ (xs.length ≤ 400 ∧ segsOK xs ∧ (joined xs).size ≤ 400) := fun h' => h.2 h'.2.1
    rw [if_neg h0, if_neg h0, if_neg (fun h' => h'.elim (fun h' => h' h.1) (fun h' => h.2 h'.1))]
end Go.Proofs.Ytepneadbddjmjaa
