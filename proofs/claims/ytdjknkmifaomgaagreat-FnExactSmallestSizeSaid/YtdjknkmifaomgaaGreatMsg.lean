
/- WriteMessage. -/
import Derived.Test.YtdjknkmifaomgaaGreatWriteS
import Derived.Test.YtdjknkmifaomgaaGreatSegMath3
import Derived.Test.YtdjknkmifaomgaaGreatWBest
namespace Go.Proofs.YtdjknkmifaomgaaGreat
set_option linter.unusedVariables false
set_option linter.unusedSimpArgs false
open Go.RowKit

theorem SOwn.grew {α : Type} {f : α → List Value} {k n0 : Nat} {v o : Value} {W wr : World} {p : Option Addr} {xs : List α} (hx : SOwn f k n0 W p xs) (h : Grew v W wr o) (hv : ∀ k, v.ownBlock = some k → k < n0) : SOwn f k n0 wr p xs := fun i hi => by
  obtain ⟨b, o', e, hB, hb, hc, hf⟩ := hx i hi
  have hbk : wr.heap[b]? = W.heap[b]? := h.by_.block b hb fun e => by have := hv b e.symm; omega
  exact ⟨b, o', e, hB, Nat.lt_of_lt_of_le hb h.by_.size, fun j u hu => (World.cell?_of_block (a := ⟨b, o' + i * k + j, none⟩) hbk).trans (hc j u hu), fun j => (World.frozen?_of_block (a := ⟨b, j, none⟩) hbk).trans (hf j)⟩

open Classical in
noncomputable def wmCode (xs : List Int) (s : ByteArray) : Int := if ¬ isBits xs then 1 else if ¬ s.size ≤ 400 ∨ 8192 < (xs.length : Int) + (cell s s.size).len then 3 else 0
noncomputable def wmList (xs : List Int) (s : ByteArray) : List Int := if wmCode xs s = 0 then xs ++ mBits (bests s s.size) else []
theorem wm_ok {xs : List Int} {s : ByteArray} (h1 : isBits xs) (h2 : s.size ≤ 400) (h3 : ¬ 8192 < (xs.length : Int) + (cell s s.size).len) : wmCode xs s = 0 ∧ wmList xs s = xs ++ mBits (bests s s.size) := by
  have hc : wmCode xs s = 0 := by unfold wmCode; rw [if_neg (not_not_intro h1), if_neg (by omega)]
  exact ⟨hc, by unfold wmList; rw [if_pos hc]⟩
theorem wm_lim {xs : List Int} {s : ByteArray} (h1 : isBits xs) (h2 : ¬ s.size ≤ 400 ∨ 8192 < (xs.length : Int) + (cell s s.size).len) : wmCode xs s = 3 ∧ wmList xs s = [] := by
  have hc : wmCode xs s = 3 := by unfold wmCode; rw [if_neg (not_not_intro h1), if_pos h2]
  exact ⟨hc, by unfold wmList; rw [hc]; exact if_neg (by omega)⟩
theorem wm_inv {xs : List Int} {s : ByteArray} (h1 : ¬ isBits xs) : wmCode xs s = 1 ∧ wmList xs s = [] := by
  have hc : wmCode xs s = 1 := by unfold wmCode; rw [if_pos h1]
  exact ⟨hc, by unfold wmList; rw [hc]; exact if_neg (by omega)⟩
theorem wmList_len (xs : List Int) (s : ByteArray) (hl : xs.length ≤ 1048576) : (wmList xs s).length ≤ 50000000 := by
  unfold wmList
  split
  · rename_i h
    have h2 : s.size ≤ 400 := by
      unfold wmCode at h
      split at h
      · omega
      · split at h
        · omega
        · omega
    have hml := mBits_len (bests s s.size) (bests_ok s s.size (Nat.le_refl _))
    rw [bests_sum s s.size (Nat.le_refl _)] at hml
    have hck := (cell_ok s s.size).2.1
    rw [List.length_append]
    omega
  · simp

end Go.Proofs.YtdjknkmifaomgaaGreat
