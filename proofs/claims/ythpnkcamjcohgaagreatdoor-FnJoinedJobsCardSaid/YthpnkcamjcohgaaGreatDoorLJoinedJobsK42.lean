/- What ReadJob tells, as one value. -/
import Derived.Test.YthpnkcamjcohgaaGreatDoorLJoinedJobsK41
namespace Go.Proofs.YthpnkcamjcohgaaGreatDoor
set_option linter.unusedVariables false
set_option linter.unusedSimpArgs false
open Go.RowKit

open Classical in
/-- The grid of a job and whether there is one. -/
noncomputable def rjV (s : ByteArray) : Int × Int × List Int × Bool := if h : ∃ t : Nat × Nat × List Int, jobOK s t.1 t.2.1 t.2.2 then (((Classical.choose h).1 : Int), ((Classical.choose h).2.1 : Int), (Classical.choose h).2.2, true) else (0, 0, [], false)
theorem rjV_yes {s : ByteArray} {R C : Nat} {xs : List Int} (h : jobOK s R C xs) : rjV s = ((R : Int), (C : Int), xs, true) := by
  have he : ∃ t : Nat × Nat × List Int, jobOK s t.1 t.2.1 t.2.2 := ⟨(R, C, xs), h⟩
  unfold rjV
  rw [dif_pos he]
  obtain ⟨h1, h2, h3⟩ := (Classical.choose_spec he).one h
  rw [h1, h2, h3]
theorem rjV_no {s : ByteArray} (h : ∀ R C xs, ¬ jobOK s R C xs) : rjV s = (0, 0, [], false) := by
  unfold rjV
  rw [dif_neg (fun ⟨t, ht⟩ => h _ _ _ ht)]
theorem rjV_cases (s : ByteArray) : (∃ R C xs, jobOK s R C xs ∧ rjV s = ((R : Int), (C : Int), xs, true)) ∨ rjV s = (0, 0, [], false) := by
  by_cases h : ∃ R C xs, jobOK s R C xs
  · obtain ⟨R, C, xs, h⟩ := h
    exact .inl ⟨R, C, xs, h, rjV_yes h⟩
  · exact .inr (rjV_no (fun R C xs hh => h ⟨R, C, xs, hh⟩))
theorem rjV_len (s : ByteArray) : (rjV s).2.2.1.length ≤ 40000 := by
  rcases rjV_cases s with ⟨R, C, xs, h, e⟩ | e
  · rw [e]
    have h1 := h.1.len; have h2 := h.1.le
    simp only
    omega
  · rw [e]; simp
theorem RjE.form {B : Nat} {s : ByteArray} {e : Ending} {w' : World} (h : RjE B s e w') : ∃ p k, e = .returned (.tuple #[vGrid (rjV s).1 (rjV s).2.1 p (rjV s).2.2.1.length k, .bool (rjV s).2.2.2]) ∧ OwnInts B w' p (rjV s).2.2.1 := by
  rcases h with ⟨R, C, xs, p, c, rfl, h, _, ho⟩ | ⟨rfl, h⟩
  · rw [rjV_yes h]
    exact ⟨p, c, rfl, ho⟩
  · rw [rjV_no h]
    exact ⟨none, 0, rfl, OwnInts.nil _ _ _⟩
end Go.Proofs.YthpnkcamjcohgaaGreatDoor
