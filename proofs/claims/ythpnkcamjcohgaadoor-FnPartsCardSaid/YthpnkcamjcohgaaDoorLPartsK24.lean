/- Lists of parts: comparing, marking, holding. -/
import Derived.Test.YthpnkcamjcohgaaDoorLPartsK23
import Derived.Test.YthpnkcamjcohgaaDoorLPartsK21
namespace Go.Proofs.YthpnkcamjcohgaaDoor
set_option linter.unusedVariables false
set_option linter.unusedSimpArgs false
open Go.RowKit

abbrev Pt : Type := Int × Int × Int × ByteArray
def ptF (x : Pt) : List Value := [.int .i64 x.1, .int .i64 x.2.1, .int .i64 x.2.2.1, .string x.2.2.2]
theorem ptF_len (x : Pt) : (ptF x).length = 4 := rfl
theorem ptF_one (x : Pt) : ∀ u ∈ ptF x, u.oneCell' = true := by
  intro u hu
  simp only [ptF, List.mem_cons, List.not_mem_nil, or_false] at hu
  rcases hu with rfl | rfl | rfl | rfl <;> rfl
abbrev vPt (x : Pt) : Value := vPart x.1 x.2.1 x.2.2.1 x.2.2.2
theorem SAt.four {α : Type} {f : α → List Value} {w : World} {p : Option Addr} {xs : List α} (h : SAt f 4 w p xs) {i : Nat} (hi : i < xs.length) {u0 u1 u2 u3 : Value} (hf : f (xs[i]'hi) = [u0, u1, u2, u3]) :
    ∃ b o, p = some ⟨b, o, none⟩ ∧ b < w.heap.size ∧ w.cell? ⟨b, o + i * 4, none⟩ = some u0 ∧ w.cell? ⟨b, o + i * 4 + 1, none⟩ = some u1 ∧ w.cell? ⟨b, o + i * 4 + 2, none⟩ = some u2 ∧ w.cell? ⟨b, o + i * 4 + 3, none⟩ = some u3 := by
  obtain ⟨b, o, h1, h2, h3⟩ := h i hi
  rw [hf] at h3
  exact ⟨b, o, h1, h2, h3 0 u0 rfl, h3 1 u1 rfl, h3 2 u2 rfl, h3 3 u3 rfl⟩
end Go.Proofs.YthpnkcamjcohgaaDoor
