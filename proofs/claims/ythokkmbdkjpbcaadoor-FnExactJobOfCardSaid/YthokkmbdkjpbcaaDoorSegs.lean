
/- Lists of segments: how the laws hand them on; their length. -/
import Derived.Test.YthokkmbdkjpbcaaDoorTab
import Derived.Test.YthokkmbdkjpbcaaDoorStructs
import Derived.Test.YthokkmbdkjpbcaaDoorInts
/-! Lists of segments: how the laws hand them on; their length. -/
namespace Go.Proofs.YthokkmbdkjpbcaaDoor
set_option linter.unusedVariables false
set_option linter.unusedSimpArgs false
open Go.RowKit

theorem SAt.two {α : Type} {f : α → List Value} {w : World} {p : Option Addr} {xs : List α} (h : SAt f 2 w p xs) {i : Nat} (hi : i < xs.length) {u v : Value} (hf : f (xs[i]'hi) = [u, v]) :
    ∃ b o, p = some ⟨b, o, none⟩ ∧ b < w.heap.size ∧ w.cell? ⟨b, o + i * 2, none⟩ = some u ∧ w.cell? ⟨b, o + i * 2 + 1, none⟩ = some v := by
  obtain ⟨b, o, h1, h2, h3⟩ := h i hi
  rw [hf] at h3
  exact ⟨b, o, h1, h2, h3 0 u rfl, h3 1 v rfl⟩

theorem bytes_eq {a b : ByteArray} : a.toList = b.toList ↔ a = b := by
  rw [ByteArray.toList_eq, ByteArray.toList_eq]
  constructor
  · intro h
    cases a; cases b
    congr 1
    exact Array.ext' h
  · intro h; rw [h]
theorem open_Segs {w : World} {v : Value} (h : rd w (.sl (.st [.i .i64, .str])) [v]) : ∃ p cap xs, v = .slice p xs.length cap ∧ xs.length ≤ maxLen ∧ SAt segF 2 w p xs ∧ ∀ x ∈ xs, x.2.size ≤ maxLen :=
  rd_list (fun x : Sg => x.2.size ≤ maxLen) rfl (by omega) (fun cs h => by
    obtain ⟨m, _, rfl, _, h⟩ := rds_int (show rds w [.i .i64, .str] cs from h)
    obtain ⟨s, _, rfl, hs, h⟩ := rds_str h
    exact ⟨(m, s), by rw [rds_nil h]; rfl, hs⟩) h

/-- What is left: negative, or the sizes are small. -/
def szR (xs : List Sg) (left : Int) (e : Ending) : Prop := ∃ r : Int, e = .returned (.int .i64 r) ∧ (r = -1 ∨ (0 ≤ r ∧ r ≤ left ∧ xs.length ≤ left ∧ ∀ x ∈ xs, x.2.size ≤ left))
end Go.Proofs.YthokkmbdkjpbcaaDoor

/-! The length of a list of segments; their joined text. -/
namespace Go.Proofs.YthokkmbdkjpbcaaDoor
set_option linter.unusedVariables false
set_option linter.unusedSimpArgs false
open Go.RowKit

def segsOK (xs : List Sg) : Prop := ∀ x ∈ xs, IsSeg x.1 x.2
def segsSum (xs : List Sg) : Int := (xs.map fun x => segLen x.1 x.2).sum
theorem segsSum_snoc (xs : List Sg) (x : Sg) : segsSum (xs ++ [x]) = segsSum xs + segLen x.1 x.2 := by simp [segsSum]
theorem segLen_bd {x : Sg} (h : IsSeg x.1 x.2) : 11 ≤ segLen x.1 x.2 ∧ segLen x.1 x.2 ≤ 2051 := by
  have h2 := h.2.1
  have := textW_bd x.1 x.2.size (by omega)
  unfold segLen
  omega
theorem segsSum_bd : ∀ (xs : List Sg), segsOK xs → 0 ≤ segsSum xs ∧ segsSum xs ≤ 2051 * xs.length := by
  intro xs
  induction xs with
  | nil => intro _; simp [segsSum]
  | cons x xs ih =>
    intro h
    have h1 := ih (fun y hy => h y (by simp [hy]))
    have h2 := segLen_bd (h x (by simp))
    have : segsSum (x :: xs) = segLen x.1 x.2 + segsSum xs := by simp [segsSum]
    rw [this]
    simp only [List.length_cons]
    omega
theorem segsOK_take {xs : List Sg} {k : Nat} (hlt : k < xs.length) (h : segsOK (xs.take k)) (h2 : IsSeg (xs[k]'hlt).1 (xs[k]'hlt).2) : segsOK (xs.take (k + 1)) := fun x hx => by
  rw [List.take_succ_eq_append_getElem hlt] at hx
  rcases List.mem_append.1 hx with h' | h'
  · exact h x h'
  · simp at h'; subst h'; exact h2
theorem segsSum_take {xs : List Sg} {k : Nat} (hlt : k < xs.length) : segsSum (xs.take (k + 1)) = segsSum (xs.take k) + segLen (xs[k]'hlt).1 (xs[k]'hlt).2 := by
  rw [List.take_succ_eq_append_getElem hlt, segsSum_snoc]

/-- The answer of SegmentsLength. -/
def slR (xs : List Sg) (e : Ending) : Prop :=
  ((xs.length ≤ 400 ∧ segsOK xs) ∧ e = .returned (.tuple #[.int .i64 (segsSum xs), .int .i64 0])) ∨ (¬ xs.length ≤ 400 ∧ e = .returned (.tuple #[.int .i64 0, .int .i64 3])) ∨
  ((xs.length ≤ 400 ∧ ¬ segsOK xs) ∧ e = .returned (.tuple #[.int .i64 0, .int .i64 1]))

end Go.Proofs.YthokkmbdkjpbcaaDoor
