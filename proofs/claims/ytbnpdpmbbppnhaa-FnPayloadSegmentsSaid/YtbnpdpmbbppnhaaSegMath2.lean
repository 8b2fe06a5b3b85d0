
/- The best segmentation: every rest has a first segment; the list of segments. -/
import Derived.Test.YtbnpdpmbbppnhaaSegMath
namespace Go.Proofs.Ytbnpdpmbbppnhaa
set_option linter.unusedVariables false
set_option linter.unusedSimpArgs false
open Go.RowKit

def Cell.good (c : Cell) : Prop := 1 ≤ c.cnt ∧ 1 ≤ c.size ∧ 1 ≤ c.mode
theorem upd_good {b x : Cell} (hb : b.cnt = 0 ∨ b.good) (hx : x.good) : (b.upd x).good := by
  unfold Cell.upd
  split
  · exact hx
  · rename_i h
    rcases hb with h0 | h0
    · exact absurd (Or.inl h0) h
    · exact h0
theorem cand_good {L : Nat → Cell} {d : Nat} {m : Int} {t : Nat} (hL : 0 ≤ (L (d - t)).cnt) (hm : 1 ≤ m) (ht : 1 ≤ t) : (cand L d m t).good := by
  simp only [cand, Cell.good]
  omega
theorem foldT_good {L : Nat → Cell} {d : Nat} {m : Int} {b : Cell} (hL : ∀ j, 0 ≤ (L j).cnt) (hm : 1 ≤ m) (hb : b.cnt = 0 ∨ b.good) : ∀ T, (T = 0 → b.good) → (foldT L d m b T).good := by
  intro T
  induction T with
  | zero => intro h; exact h rfl
  | succ T ih =>
    intro _
    refine upd_good ?_ (cand_good (hL _) hm (by omega))
    cases T with
    | zero => exact hb
    | succ T => exact .inr (ih (by omega))
theorem foldT_zero {L : Nat → Cell} {d : Nat} {m : Int} {b : Cell} (hL : ∀ j, 0 ≤ (L j).cnt) (hm : 1 ≤ m) (hb : b.cnt = 0 ∨ b.good) (T : Nat) : (foldT L d m b T).cnt = 0 ∨ (foldT L d m b T).good := by
  cases T with
  | zero => exact hb
  | succ T => exact .inr (foldT_good hL hm hb (T + 1) (by omega))
theorem foldM_zero {s : ByteArray} {L : Nat → Cell} {d : Nat} (hL : ∀ j, 0 ≤ (L j).cnt) : ∀ M, (foldM s L d M).cnt = 0 ∨ (foldM s L d M).good := by
  intro M
  induction M with
  | zero => exact .inl rfl
  | succ M ih => exact foldT_zero hL (by omega) ih _
theorem far4_pos (s : ByteArray) (d : Nat) (h : 1 ≤ d) : 1 ≤ farF 4 s d := by
  obtain ⟨k, rfl⟩ : ∃ k, d = k + 1 := ⟨d - 1, by omega⟩
  have := byteAt_bd s (s.size - (k + 1))
  have h2 : ¬ charVal 4 (byteAt s (s.size - (k + 1))) < 0 := by
    simp only [charVal]
    split <;> simp <;> omega
  simp only [farF, if_neg h2]
  omega
theorem cell_good (s : ByteArray) (d : Nat) (h : 1 ≤ d) : (cell s d).good := by
  obtain ⟨k, rfl⟩ : ∃ k, d = k + 1 := ⟨d - 1, by omega⟩
  rw [cell_succ]
  have hL : ∀ j, 0 ≤ (cell s j).cnt := fun j => (cell_ok s j).2.2.1
  show (foldT (cell s) (k + 1) 4 (foldM s (cell s) (k + 1) 3) (farF 4 s (k + 1))).good
  exact foldT_good hL (by omega) (foldM_zero hL 3) _ (fun h0 => by have := far4_pos s (k + 1) (by omega); omega)

/-- A segment: its mode and its text. -/
abbrev Sg : Type := Int × ByteArray
def segF (x : Sg) : List Value := [.int .i64 x.1, .string x.2]
/-- The best segments of the rest of d bytes. -/
def bestL (s : ByteArray) : Nat → Nat → List Sg
  | 0, _ => []
  | f + 1, d => if d = 0 then [] else ((cell s d).mode, s.extract (s.size - d) (s.size - d + (cell s d).size.toNat)) :: bestL s f (d - (cell s d).size.toNat)
theorem bestL_stable (s : ByteArray) : ∀ f d, d ≤ f → bestL s f d = bestL s d d := by
  intro f
  induction f using Nat.strongRecOn with
  | _ f ih =>
    intro d hd
    cases f with
    | zero => obtain rfl : d = 0 := by omega
              rfl
    | succ f =>
      cases d with
      | zero => rfl
      | succ d =>
        have h := cell_good s (d + 1) (by omega)
        simp only [Cell.good] at h
        simp only [bestL, Nat.add_one_ne_zero, if_false]
        rw [ih f (by omega) (d + 1 - (cell s (d + 1)).size.toNat) (by omega)]
        by_cases e : d = f
        · rw [e]
          rw [e] at h
          rw [ih f (by omega) (f + 1 - (cell s (f + 1)).size.toNat) (by omega)]
        · rw [ih d (by omega) (d + 1 - (cell s (d + 1)).size.toNat) (by omega)]
def bests (s : ByteArray) (d : Nat) : List Sg := bestL s d d
theorem bests_zero (s : ByteArray) : bests s 0 = [] := rfl
theorem bests_step (s : ByteArray) (d : Nat) (h : 1 ≤ d) :
    bests s d = ((cell s d).mode, s.extract (s.size - d) (s.size - d + (cell s d).size.toNat)) :: bests s (d - (cell s d).size.toNat) := by
  have hg := cell_good s d h
  simp only [Cell.good] at hg
  obtain ⟨k, rfl⟩ : ∃ k, d = k + 1 := ⟨d - 1, by omega⟩
  simp only [bests]
  rw [bestL, if_neg (by omega), bestL_stable s k _ (by omega)]
theorem bests_len (s : ByteArray) : ∀ d, (bests s d).length ≤ d := by
  intro d
  induction d using Nat.strongRecOn with
  | _ d ih =>
    by_cases h : d = 0
    · subst h; simp [bests_zero]
    · have hg := cell_good s d (by omega)
      simp only [Cell.good] at hg
      rw [bests_step s d (by omega), List.length_cons]
      by_cases h2 : (cell s d).size.toNat ≤ d
      · have := ih (d - (cell s d).size.toNat) (by omega)
        omega
      · have := ih (d - (cell s d).size.toNat) (by omega)
        omega

end Go.Proofs.Ytbnpdpmbbppnhaa
