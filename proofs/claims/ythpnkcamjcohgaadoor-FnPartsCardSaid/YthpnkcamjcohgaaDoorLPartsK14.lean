/- The best segments are segments; how many bits a segment has. -/
import Derived.Test.YthpnkcamjcohgaaDoorLPartsK08
import Derived.Test.YthpnkcamjcohgaaDoorLPartsK07
import Derived.Test.YthpnkcamjcohgaaDoorLPartsK13
namespace Go.Proofs.YthpnkcamjcohgaaDoor
set_option linter.unusedVariables false
set_option linter.unusedSimpArgs false
open Go.RowKit

/-- The first segment of a cell is valid in the rest of d bytes. -/
def Cell.fits (s : ByteArray) (L : Nat → Cell) (d : Nat) (c : Cell) : Prop := c.cnt = 0 ∨ ∃ m t : Nat, c = cand L d m t ∧ 1 ≤ m ∧ m ≤ 4 ∧ 1 ≤ t ∧ t ≤ farF m s d
theorem upd_fits {s : ByteArray} {L : Nat → Cell} {d : Nat} {b x : Cell} (hb : b.fits s L d) (hx : x.fits s L d) : (b.upd x).fits s L d := by
  unfold Cell.upd
  split <;> assumption
theorem foldT_fits {s : ByteArray} {L : Nat → Cell} {d m : Nat} {b : Cell} (hm : 1 ≤ m ∧ m ≤ 4) (hb : b.fits s L d) : ∀ T, T ≤ farF m s d → (foldT L d m b T).fits s L d := by
  intro T
  induction T with
  | zero => intro _; exact hb
  | succ T ih => intro h; exact upd_fits (ih (by omega)) (.inr ⟨m, T + 1, rfl, hm.1, hm.2, by omega, h⟩)
theorem foldM_fits {s : ByteArray} {L : Nat → Cell} {d : Nat} : ∀ M, M ≤ 4 → (foldM s L d M).fits s L d := by
  intro M
  induction M with
  | zero => intro _; exact .inl rfl
  | succ M ih => intro h; exact foldT_fits ⟨by omega, h⟩ (ih (by omega)) _ (Nat.le_refl _)
theorem cell_cand (s : ByteArray) (d : Nat) (h : 1 ≤ d) : ∃ m t : Nat, cell s d = cand (cell s) d m t ∧ 1 ≤ m ∧ m ≤ 4 ∧ 1 ≤ t ∧ t ≤ farF m s d := by
  obtain ⟨k, rfl⟩ : ∃ k, d = k + 1 := ⟨d - 1, by omega⟩
  have hg := cell_good s (k + 1) (by omega)
  have hf : (cell s (k + 1)).fits s (cell s) (k + 1) := by rw [cell_succ]; exact foldM_fits 4 (by omega)
  rcases hf with h0 | h0
  · simp only [Cell.good] at hg; omega
  · exact h0
theorem cell_fits (s : ByteArray) (d : Nat) (h : 1 ≤ d) : ∃ m t : Nat, (cell s d).mode = m ∧ (cell s d).size = t ∧ 1 ≤ m ∧ m ≤ 4 ∧ 1 ≤ t ∧ t ≤ farF m s d := by
  obtain ⟨m, t, e, h⟩ := cell_cand s d h
  exact ⟨m, t, by rw [e]; rfl, by rw [e]; rfl, h⟩
theorem seg_at (s : ByteArray) {d m t : Nat} (hd : d ≤ s.size) (hm : 1 ≤ m ∧ m ≤ 4) (ht : 1 ≤ t) (hf : t ≤ farF m s d) : IsSeg m (s.extract (s.size - d) (s.size - d + t)) := by
  have hl := farF_le m s d
  have hsz : (s.extract (s.size - d) (s.size - d + t)).size = t := by
    rw [ByteArray.size_extract]; omega
  refine ⟨⟨by omega, by omega⟩, by rw [hsz]; omega, fun j hj => ?_⟩
  have hj2 : j < t := by omega
  have hv := farF_valid m s d hd (j + 1) (by omega) (by omega)
  rw [show s.size - d + (j + 1) - 1 = s.size - d + j by omega, byteAt_eq (show s.size - d + j < s.size by omega)] at hv
  rw [ByteArray.getElem_extract]
  exact hv
theorem bests_ok (s : ByteArray) : ∀ d, d ≤ s.size → ∀ x ∈ bests s d, IsSeg x.1 x.2 := by
  intro d
  induction d using Nat.strongRecOn with
  | _ d ih =>
    intro hd x hx
    by_cases h0 : d = 0
    · subst h0; simp [bests_zero] at hx
    · obtain ⟨m, t, e1, e2, hm1, hm2, ht, hf⟩ := cell_fits s d (by omega)
      rw [bests_step s d (by omega), e1, e2] at hx
      simp only [Int.toNat_natCast, List.mem_cons] at hx
      rcases hx with rfl | hx
      · exact seg_at s hd ⟨hm1, hm2⟩ ht hf
      · exact ih (d - t) (by omega) (by omega) x hx

theorem seg_size (s : ByteArray) {d t : Nat} (hd : d ≤ s.size) (ht : t ≤ d) : (s.extract (s.size - d) (s.size - d + t)).size = t := by
  rw [ByteArray.size_extract]; omega
theorem bests_sum (s : ByteArray) : ∀ d, d ≤ s.size → segsSum (bests s d) = (cell s d).len := by
  intro d
  induction d using Nat.strongRecOn with
  | _ d ih =>
    intro hd
    by_cases h0 : d = 0
    · subst h0; rfl
    · obtain ⟨m, t, e, hm1, hm2, ht, hf⟩ := cell_cand s d (by omega)
      have hl := farF_le m s d
      have hi := ih (d - t) (by omega) (by omega)
      rw [bests_step s d (by omega), e]
      show segLen (m : Int) (s.extract (s.size - d) (s.size - d + ((t : Int)).toNat)) + segsSum (bests s (d - ((t : Int)).toNat)) = segW m t + (cell s (d - t)).len
      rw [Int.toNat_natCast, hi]
      unfold segLen segW
      rw [seg_size s hd (by omega)]
theorem joined_cons (x : Sg) (xs : List Sg) : joined (x :: xs) = x.2 ++ joined xs := by
  have : ∀ (xs : List Sg) (a : ByteArray), xs.foldl (fun a x => a ++ x.2) a = a ++ joined xs := by
    intro xs
    induction xs with
    | nil => intro a; simp [joined]
    | cons y ys ih =>
      intro a
      have h1 : joined (y :: ys) = y.2 ++ joined ys := by
        show ys.foldl (fun a x => a ++ x.2) (ByteArray.empty ++ y.2) = _
        rw [ih]
        simp
      rw [List.foldl_cons, ih, h1, ByteArray.append_assoc]
  show xs.foldl (fun a x => a ++ x.2) (ByteArray.empty ++ x.2) = _
  rw [this]
  simp
theorem bests_joined (s : ByteArray) : ∀ d, d ≤ s.size → joined (bests s d) = s.extract (s.size - d) s.size := by
  intro d
  induction d using Nat.strongRecOn with
  | _ d ih =>
    intro hd
    by_cases h0 : d = 0
    · subst h0
      simp [bests_zero, joined]
    · obtain ⟨m, t, e1, e2, hm1, hm2, ht, hf⟩ := cell_fits s d (by omega)
      have hl := farF_le m s d
      have hi := ih (d - t) (by omega) (by omega)
      rw [bests_step s d (by omega), e2, joined_cons, Int.toNat_natCast, hi]
      show s.extract (s.size - d) (s.size - d + t) ++ s.extract (s.size - (d - t)) s.size = _
      rw [show s.size - (d - t) = s.size - d + t by omega, ByteArray.extract_append_extract, Nat.min_eq_left (by omega), Nat.max_eq_right (by omega)]
end Go.Proofs.YthpnkcamjcohgaaDoor
