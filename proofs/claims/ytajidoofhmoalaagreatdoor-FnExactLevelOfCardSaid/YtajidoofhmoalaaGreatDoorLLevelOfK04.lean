/- Stacked symbols: plain laws on patterns, runs of cells and values of rows. -/
import Derived.Test.YtajidoofhmoalaaGreatDoorLLevelOfK03
set_option linter.unusedVariables false
set_option linter.unusedSimpArgs false
namespace Go.Proofs.YtajidoofhmoalaaGreatDoor
open Go.RowKit

def pats : Nat → Nat → List (List Int)
  | 0, _ => []
  | 1, s => [[(s : Int)]]
  | p + 2, s => (List.range (s - (p + 1))).flatMap fun i => (pats (p + 1) (s - (i + 1))).map fun l => ((i + 1 : Nat) : Int) :: l
def PAT : List (List Int) := pats 8 11
theorem PAT_len : PAT.length = 120 := by decide +kernel
def idxP (p : List Int) : Option Nat := (List.range 120).find? fun i => PAT.getD i [] == p
theorem idxP_at : ∀ i, i < 120 → idxP (PAT.getD i []) = some i := by decide +kernel
theorem idxP_some {p : List Int} {i : Nat} (h : idxP p = some i) : i < 120 ∧ PAT.getD i [] = p := by
  unfold idxP at h
  have h1 := List.find?_some h
  have h2 := List.mem_of_find?_eq_some h
  exact ⟨List.mem_range.1 h2, by simpa using h1⟩
theorem PAT_at8 : ∀ i, i < 120 → (PAT.getD i []).length = 8 := by decide +kernel
theorem idxP_eight {p : List Int} {i : Nat} (h : idxP p = some i) : p.length = 8 ∧ i < 120 := by
  obtain ⟨h1, h2⟩ := idxP_some h
  exact ⟨by rw [← h2]; exact PAT_at8 i h1, h1⟩
def incL (l : List Int) : List Int := l.set (l.length - 1) (l.getD (l.length - 1) 0 + 1)
theorem incL_len (l : List Int) : (incL l).length = l.length := by simp [incL]
def runsTo (xs : List Int) : Nat → List Int
  | 0 => []
  | k + 1 => if 0 < k ∧ xs.getD k 0 = xs.getD (k - 1) 0 then incL (runsTo xs k) else runsTo xs k ++ [1]
theorem runsTo_go {xs : List Int} {k : Nat} (h : 0 < k ∧ xs.getD k 0 = xs.getD (k - 1) 0) : runsTo xs (k + 1) = incL (runsTo xs k) := if_pos h
theorem runsTo_new {xs : List Int} {k : Nat} (h : ¬ (0 < k ∧ xs.getD k 0 = xs.getD (k - 1) 0)) : runsTo xs (k + 1) = runsTo xs k ++ [1] := if_neg h
theorem runsTo_len (xs : List Int) : ∀ k, (runsTo xs k).length ≤ k ∧ (0 < k → 0 < (runsTo xs k).length)
  | 0 => ⟨Nat.le_refl _, fun h => absurd h (Nat.lt_irrefl _)⟩
  | k + 1 => by
    have ih := runsTo_len xs k
    by_cases h : 0 < k ∧ xs.getD k 0 = xs.getD (k - 1) 0
    · rw [runsTo_go h, incL_len]
      have := ih.2 h.1
      omega
    · rw [runsTo_new h, List.length_append]
      simp
      omega
theorem runsTo_par {xs : List Int} (hz : ∀ x ∈ xs, x = 0 ∨ x = 1) : ∀ k, 0 < k → k ≤ xs.length → xs.getD (k - 1) 0 = if (runsTo xs k).length % 2 = 1 then xs.getD 0 0 else 1 - xs.getD 0 0 := by
  intro k
  induction k with
  | zero => intro h; omega
  | succ k ih =>
    intro _ hk
    have hat : ∀ j, j < xs.length → xs.getD j 0 = 0 ∨ xs.getD j 0 = 1 := fun j hj => by
      rw [List.getD_eq_getElem?_getD, List.getElem?_eq_getElem hj]
      exact hz _ (List.getElem_mem hj)
    rw [Nat.add_sub_cancel]
    rcases Nat.eq_zero_or_pos k with rfl | hk0
    · rfl
    · have ih := ih hk0 (by omega)
      have h0 := hat 0 (by omega); have h1 := hat k (by omega); have h2 := hat (k - 1) (by omega)
      by_cases h : 0 < k ∧ xs.getD k 0 = xs.getD (k - 1) 0
      · rw [runsTo_go h, incL_len, h.2]
        exact ih
      · rw [runsTo_new h, List.length_append]
        have hne : xs.getD k 0 ≠ xs.getD (k - 1) 0 := fun e => h ⟨hk0, e⟩
        simp only [List.length_cons, List.length_nil]
        split at ih <;> split <;> omega
def rvl (xs : List Int) (cl : Int) : Int :=
  if (∀ x ∈ xs, 0 ≤ x) ∧ xs.getD 0 0 ≠ 0 then (match idxP (runsTo xs xs.length) with
    | some i => if (i : Int) % 3 = cl ∧ i < 96 then ((i / 3 : Nat) : Int) else -1
    | none => -1) else -1
def okS (xs : List Int) : Prop := (∀ x ∈ xs, x ≠ -1) ∧ xs.getD 0 0 = 1 ∧ xs.getD (xs.length - 1) 0 = 0 ∧ (runsTo xs xs.length).length = 8
theorem rvl_ok {xs : List Int} {cl : Int} (hl : 0 < xs.length) (hb : ∀ x ∈ xs, -1 ≤ x ∧ x ≤ 1) (h : okS xs) : rvl xs cl = match idxP (runsTo xs xs.length) with
    | some i => if (i : Int) % 3 = cl ∧ i < 96 then ((i / 3 : Nat) : Int) else -1
    | none => -1 := by
  unfold rvl
  rw [if_pos ⟨fun x hx => by have := hb x hx; have := h.1 x hx; omega, by rw [h.2.1]; omega⟩]
theorem rvl_no {xs : List Int} {cl : Int} (hl : 0 < xs.length) (hb : ∀ x ∈ xs, -1 ≤ x ∧ x ≤ 1) (h : ¬ okS xs) : rvl xs cl = -1 := by
  unfold rvl
  by_cases h1 : (∀ x ∈ xs, 0 ≤ x) ∧ xs.getD 0 0 ≠ 0
  · rw [if_pos h1]
    cases hi : idxP (runsTo xs xs.length) with
    | none => rfl
    | some i =>
      exfalso
      have h8 := (idxP_eight hi).1
      have hz : ∀ x ∈ xs, x = 0 ∨ x = 1 := fun x hx => by have := hb x hx; have := h1.1 x hx; omega
      have h0 : xs.getD 0 0 = 1 := by
        have hm : xs.getD 0 0 ∈ xs := by rw [List.getD_eq_getElem?_getD, List.getElem?_eq_getElem hl]; exact List.getElem_mem hl
        rcases hz _ hm with e | e
        · exact absurd e h1.2
        · exact e
      have hp := runsTo_par hz xs.length hl (Nat.le_refl _)
      rw [h8, h0, if_neg (by decide)] at hp
      exact h ⟨fun x hx => by have := h1.1 x hx; omega, h0, by rw [hp]; rfl, h8⟩
  · rw [if_neg h1]
def rowV (xs : List Int) (cl : Int) (m : Nat) : List Int := (List.range m).map fun j => rvl ((xs.drop (7 + 11 * j)).take 11) cl
theorem rowV_len (xs : List Int) (cl : Int) (m : Nat) : (rowV xs cl m).length = m := by simp [rowV]
theorem rowV_succ (xs : List Int) (cl : Int) (m : Nat) : rowV xs cl (m + 1) = rowV xs cl m ++ [rvl ((xs.drop (7 + 11 * m)).take 11) cl] := by simp [rowV, List.range_succ]
end Go.Proofs.YtajidoofhmoalaaGreatDoor
