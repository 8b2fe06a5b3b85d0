
/- The reference's payload: bits filled up, elements. -/
import Derived.Test.YtdjknkmifaomgaaGreatChan
import Derived.Test.YtdjknkmifaomgaaGreatSRead
import Derived.Test.YtdjknkmifaomgaaGreatPaySize
import Derived.Test.YtdjknkmifaomgaaGreatMsg
import Derived.Test.YtdjknkmifaomgaaGreatReadMath
import Derived.Test.YtdjknkmifaomgaaGreatInts
/-! The reference's payload: bits filled up, elements. -/
namespace Go.Proofs.YtdjknkmifaomgaaGreat
set_option linter.unusedVariables false
set_option linter.unusedSimpArgs false
open Go.RowKit

theorem RowI.sl {B n : Nat} {w : World} {v : Value} {xs : List Int} (h : RowI B w v xs) (hn : xs.length = n) : ∃ p c, v = .slice p n c := by
  obtain ⟨p, c, hv, _⟩ := h.own
  exact ⟨p, c, by rw [hv, hn]⟩
end Go.Proofs.YtdjknkmifaomgaaGreat

/-! EncodePayload. -/
/-! EncodePayload. -/
namespace Go.Proofs.YtdjknkmifaomgaaGreat
set_option linter.unusedVariables false
set_option linter.unusedSimpArgs false
open Go.RowKit

theorem mBits_bit {xs : List Sg} : ∀ x ∈ mBits xs, x = 0 ∨ x = 1 := fun x hx => by
  simp only [mBits, List.mem_flatMap] at hx
  obtain ⟨y, _, hy⟩ := hx
  exact segBits_bit x hy
theorem padL_bit {xs : List Int} {room : Nat} (h : ∀ x ∈ xs, x = 0 ∨ x = 1) : ∀ x ∈ padL xs room, x = 0 ∨ x = 1 := fun x hx => by
  simp only [padL, List.mem_append] at hx
  rcases hx with (hx | hx) | hx
  · exact h x hx
  · exact .inl (List.mem_replicate.1 hx).2
  · simp only [patL, List.mem_map] at hx
    obtain ⟨k, _, rfl⟩ := hx
    have : k % 6 = 0 ∨ k % 6 = 1 ∨ k % 6 = 2 ∨ k % 6 = 3 ∨ k % 6 = 4 ∨ k % 6 = 5 := by omega
    rcases this with h | h | h | h | h | h <;> rw [h] <;> simp
theorem padL_len {xs : List Int} {room : Nat} (h : xs.length ≤ room) : (padL xs room).length = room := by
  simp [padL, patL]; omega
theorem msg_len (t : ByteArray) : ((mBits (bests t t.size)).length : Int) = (cell t t.size).len := by
  rw [mBits_len _ (bests_ok t t.size (Nat.le_refl _)), bests_sum t t.size (Nat.le_refl _)]

open Classical in
noncomputable def epC (p k q : Int) (t : ByteArray) (cap : Int) : Int :=
  if ¬ fldOK p k q then 1 else if ¬ (1 ≤ cap ∧ cap ≤ 1500) then 2 else if ¬ t.size ≤ 400 ∨ 8192 < cap * fW (fldSize p k) ∨ cap * fW (fldSize p k) < (cell t t.size).len then 3 else 0
noncomputable def epL (p k q : Int) (t : ByteArray) (cap : Int) : List Int :=
  if epC p k q t cap = 0 then elemsL (fW (fldSize p k)) (padL (mBits (bests t t.size)) (cap * fW (fldSize p k)).toNat) else []
theorem ep_1 {p k q : Int} {t : ByteArray} {cap : Int} (h1 : ¬ fldOK p k q) : epC p k q t cap = 1 ∧ epL p k q t cap = [] := by
  have hc : epC p k q t cap = 1 := by unfold epC; rw [if_pos h1]
  exact ⟨hc, by unfold epL; rw [hc]; exact if_neg (by omega)⟩
theorem ep_2 {p k q : Int} {t : ByteArray} {cap : Int} (h1 : fldOK p k q) (h2 : ¬ (1 ≤ cap ∧ cap ≤ 1500)) : epC p k q t cap = 2 ∧ epL p k q t cap = [] := by
  have hc : epC p k q t cap = 2 := by unfold epC; rw [if_neg (not_not_intro h1), if_pos h2]
  exact ⟨hc, by unfold epL; rw [hc]; exact if_neg (by omega)⟩
theorem ep_3 {p k q : Int} {t : ByteArray} {cap : Int} (h1 : fldOK p k q) (h2 : 1 ≤ cap ∧ cap ≤ 1500) (h3 : ¬ t.size ≤ 400 ∨ 8192 < cap * fW (fldSize p k) ∨ cap * fW (fldSize p k) < (cell t t.size).len) : epC p k q t cap = 3 ∧ epL p k q t cap = [] := by
  have hc : epC p k q t cap = 3 := by unfold epC; rw [if_neg (not_not_intro h1), if_neg (not_not_intro h2), if_pos h3]
  exact ⟨hc, by unfold epL; rw [hc]; exact if_neg (by omega)⟩
theorem ep_0 {p k q : Int} {t : ByteArray} {cap : Int} (h1 : fldOK p k q) (h2 : 1 ≤ cap ∧ cap ≤ 1500) (h3 : ¬ (¬ t.size ≤ 400 ∨ 8192 < cap * fW (fldSize p k) ∨ cap * fW (fldSize p k) < (cell t t.size).len)) :
    epC p k q t cap = 0 ∧ epL p k q t cap = elemsL (fW (fldSize p k)) (padL (mBits (bests t t.size)) (cap * fW (fldSize p k)).toNat) := by
  have hc : epC p k q t cap = 0 := by unfold epC; rw [if_neg (not_not_intro h1), if_neg (not_not_intro h2), if_neg h3]
  exact ⟨hc, by unfold epL; rw [hc]; exact if_pos rfl⟩

end Go.Proofs.YtdjknkmifaomgaaGreat

/-! The reference's EncodePayload; the walk of the law FnExactEncodePayload. -/
namespace Go.Proofs.YtdjknkmifaomgaaGreat
set_option linter.unusedVariables false
set_option linter.unusedSimpArgs false
open Go.RowKit

end Go.Proofs.YtdjknkmifaomgaaGreat
