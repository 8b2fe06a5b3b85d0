
/- Lists of segments: how the laws hand them on; their length. -/
import Derived.Test.YtbnpdpmbbppnhaaLen
import Derived.Test.YtbnpdpmbbppnhaaSlist
namespace Go.Proofs.Ytbnpdpmbbppnhaa
set_option linter.unusedVariables false
set_option linter.unusedSimpArgs false
open Go.RowKit

theorem SAt.two {α : Type} {f : α → List Value} {w : World} {p : Option Addr} {xs : List α} (h : SAt f 2 w p xs) {i : Nat} (hi : i < xs.length) {u v : Value} (hf : f (xs[i]'hi) = [u, v]) :
    ∃ b o, p = some ⟨b, o, none⟩ ∧ b < w.heap.size ∧ w.cell? ⟨b, o + i * 2, none⟩ = some u ∧ w.cell? ⟨b, o + i * 2 + 1, none⟩ = some v := by
  obtain ⟨b, o, h1, h2, h3⟩ := h i hi
  rw [hf] at h3
  exact ⟨b, o, h1, h2, h3 0 u rfl, h3 1 v rfl⟩

theorem bytes_eq {a b : ByteArray} : a.toList = b.toList ↔ a = b := by
  rw [ByteArray.toList_eq, ByteArray.toList_eq]
  constructor
  · intro h
    cases a; cases b
    congr 1
    exact Array.ext' h
  · intro h; rw [h]
theorem open_Segs {w : World} {v : Value} (h : rd w (.sl (.st [.i .i64, .str])) [v]) : ∃ p cap xs, v = .slice p xs.length cap ∧ xs.length ≤ maxLen ∧ SAt segF 2 w p xs ∧ ∀ x ∈ xs, x.2.size ≤ maxLen :=
  rd_list (fun x : Sg => x.2.size ≤ maxLen) rfl (by omega) (fun cs h => by
    obtain ⟨m, _, rfl, _, h⟩ := rds_int (show rds w [.i .i64, .str] cs from h)
    obtain ⟨s, _, rfl, hs, h⟩ := rds_str h
    exact ⟨(m, s), by rw [rds_nil h]; rfl, hs⟩) h

/-- What is left: negative, or the sizes are small. -/
def szR (xs : List Sg) (left : Int) (e : Ending) : Prop := ∃ r : Int, e = .returned (.int .i64 r) ∧ (r = -1 ∨ (0 ≤ r ∧ r ≤ left ∧ xs.length ≤ left ∧ ∀ x ∈ xs, x.2.size ≤ left))
end Go.Proofs.Ytbnpdpmbbppnhaa
