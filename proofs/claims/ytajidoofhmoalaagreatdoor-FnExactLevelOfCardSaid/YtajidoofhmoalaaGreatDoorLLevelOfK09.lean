/- Contracts of chapter 9: modes, segments. -/
import Derived.Test.YtajidoofhmoalaaGreatDoorLLevelOfK00
import Derived.Test.YtajidoofhmoalaaGreatDoorLLevelOfK01
import Derived.Test.YtajidoofhmoalaaGreatDoorLLevelOfK06
set_option linter.unusedVariables false
set_option linter.unusedSimpArgs false
namespace Go.Proofs.YtajidoofhmoalaaGreatDoor
open Go.RowKit

def idxB (s : ByteArray) (b : Int) : Int := match s.data.toList.findIdx? (fun c => (c.toNat : Int) == b) with | some i => i | none => -1
def digitsB : ByteArray := ⟨#[48, 49, 50, 51, 52, 53, 54, 55, 56, 57]⟩
def lettersB : ByteArray := ⟨#[48, 49, 50, 51, 52, 53, 54, 55, 56, 57, 65, 66, 67, 68, 69, 70, 71, 72, 73, 74, 75, 76, 77, 78, 79, 80, 81, 82, 83, 84, 85, 86, 87, 88, 89, 90, 32, 33, 35, 38, 40, 41, 43, 45, 47]⟩
def lowerB : ByteArray := ⟨#[97, 98, 99, 100, 101, 102, 103, 104, 105, 106, 107, 108, 109, 110, 111, 112, 113, 114, 115, 116, 117, 118, 119, 120, 121, 122, 32, 10, 44, 46, 39, 63]⟩
def modeSet (m : Int) : ByteArray := if m = 1 then digitsB else if m = 2 then lettersB else if m = 3 then lowerB else ByteArray.empty
def charVal (m b : Int) : Int := if ¬ (1 ≤ m ∧ m ≤ 4) ∨ ¬ (0 ≤ b ∧ b ≤ 255) then -1 else if m = 4 then b else idxB (modeSet m) b

end Go.Proofs.YtajidoofhmoalaaGreatDoor

namespace Go.Proofs.YtajidoofhmoalaaGreatDoor
open Go.RowKit

def textW (m n : Int) : Int :=
  if m = 1 then n / 3 * 10 + (if n % 3 = 0 then 0 else if n % 3 = 1 then 4 else 7) else if m = 2 then n / 2 * 11 + (if n % 2 = 0 then 0 else 6) else if m = 3 then n * 5 else n * 8

theorem textW_bd (m n : Int) (hn : 0 ≤ n ∧ n ≤ 1000000) : 0 ≤ textW m n ∧ textW m n ≤ n * 8 := by
  unfold textW
  (repeat' split) <;> omega

abbrev vSeg (m : Int) (s : ByteArray) : Value := .agg #[.int .i64 m, .string s]
end Go.Proofs.YtajidoofhmoalaaGreatDoor

namespace Go.Proofs.YtajidoofhmoalaaGreatDoor
open Go.RowKit

end Go.Proofs.YtajidoofhmoalaaGreatDoor
/- How a segment is written: the bits, and the reference's walk. -/
namespace Go.Proofs.YtajidoofhmoalaaGreatDoor
open Go.RowKit

end Go.Proofs.YtajidoofhmoalaaGreatDoor
/- The best segmentation: plain laws. No program in sight but for the values of characters. -/
namespace Go.Proofs.YtajidoofhmoalaaGreatDoor
open Go.RowKit

def farF (m : Int) (s : ByteArray) : Nat → Nat
  | 0 => 0
  | d + 1 => if charVal m (byteAt s (s.size - (d + 1))) < 0 then 0 else min (farF m s d + 1) 255

theorem farF_le (m : Int) (s : ByteArray) (d : Nat) : farF m s d ≤ 255 ∧ farF m s d ≤ d := by
  induction d with
  | zero => simp [farF]
  | succ d ih =>
    simp only [farF]
    split <;> omega
structure Cell where
  len : Int
  cnt : Int
  size : Int
  mode : Int
def Cell.zero : Cell := ⟨0, 0, 0, 0⟩
def Cell.better (a b : Cell) : Bool :=
  if a.len ≠ b.len then decide (a.len < b.len) else if a.cnt ≠ b.cnt then decide (a.cnt < b.cnt) else if a.size ≠ b.size then decide (b.size < a.size) else decide (a.mode < b.mode)
def Cell.upd (b x : Cell) : Cell := if b.cnt = 0 ∨ x.better b = true then x else b
def segW (m n : Int) : Int := 11 + textW m n
def cand (L : Nat → Cell) (d : Nat) (m : Int) (t : Nat) : Cell := ⟨segW m t + (L (d - t)).len, (L (d - t)).cnt + 1, t, m⟩
def foldT (L : Nat → Cell) (d : Nat) (m : Int) (b : Cell) : Nat → Cell
  | 0 => b
  | t + 1 => (foldT L d m b t).upd (cand L d m (t + 1))
def foldM (s : ByteArray) (L : Nat → Cell) (d : Nat) : Nat → Cell
  | 0 => Cell.zero
  | m + 1 => foldT L d (m + 1 : Nat) (foldM s L d m) (farF (m + 1 : Nat) s d)
def tabs (s : ByteArray) : Nat → List Cell
  | 0 => [Cell.zero]
  | d + 1 => tabs s d ++ [foldM s (fun j => (tabs s d).getD j Cell.zero) (d + 1) 4]
def cell (s : ByteArray) (d : Nat) : Cell := (tabs s d).getD d Cell.zero
theorem tabs_length (s : ByteArray) (d : Nat) : (tabs s d).length = d + 1 := by
  induction d with
  | zero => rfl
  | succ d ih => simp [tabs, ih]
theorem tabs_get (s : ByteArray) : ∀ (d j : Nat), j ≤ d → (tabs s d).getD j Cell.zero = cell s j := by
  intro d
  induction d with
  | zero => intro j hj; have : j = 0 := by omega
            subst this; rfl
  | succ d ih =>
    intro j hj
    by_cases e : j = d + 1
    · subst e; rfl
    · rw [← ih j (by omega)]
      simp only [tabs, List.getD_eq_getElem?_getD]
      rw [List.getElem?_append_left (by rw [tabs_length]; omega)]
theorem foldT_congr (L L' : Nat → Cell) (d : Nat) (m : Int) (b : Cell) (T : Nat) (hT : T ≤ d) (h : ∀ j, j < d → L j = L' j) : foldT L d m b T = foldT L' d m b T := by
  induction T with
  | zero => rfl
  | succ T ih =>
    simp only [foldT, cand]
    rw [ih (by omega), h (d - (T + 1)) (by omega)]
theorem foldM_congr (s : ByteArray) (L L' : Nat → Cell) (d : Nat) (M : Nat) (h : ∀ j, j < d → L j = L' j) : foldM s L d M = foldM s L' d M := by
  induction M with
  | zero => rfl
  | succ M ih => simp only [foldM]; rw [ih, foldT_congr L L' d _ _ _ (farF_le _ _ _).2 h]
theorem cell_zero (s : ByteArray) : cell s 0 = Cell.zero := rfl
theorem cell_succ (s : ByteArray) (d : Nat) : cell s (d + 1) = foldM s (cell s) (d + 1) 4 := by
  have : cell s (d + 1) = foldM s (fun j => (tabs s d).getD j Cell.zero) (d + 1) 4 := by
    simp [cell, tabs, List.getD_eq_getElem?_getD, tabs_length]
  rw [this]
  exact foldM_congr _ _ _ _ _ fun j hj => tabs_get s d j (by omega)

def Cell.ok (c : Cell) (d : Nat) : Prop := 0 ≤ c.len ∧ c.len ≤ 19 * d ∧ 0 ≤ c.cnt ∧ c.cnt ≤ d ∧ 0 ≤ c.size ∧ c.size ≤ d ∧ c.size ≤ 255 ∧ 0 ≤ c.mode ∧ c.mode ≤ 4
theorem segW_bd (m : Int) (n : Nat) (hn : n ≤ 1000) : 11 ≤ segW m n ∧ segW m n ≤ 11 + 8 * n := by
  have := textW_bd m n (by omega)
  unfold segW
  omega
theorem cand_ok {L : Nat → Cell} {d : Nat} {m : Int} {t : Nat} (hL : (L (d - t)).ok (d - t)) (ht : 1 ≤ t) (htd : t ≤ d) (ht2 : t ≤ 255) (hm : 0 ≤ m ∧ m ≤ 4) : (cand L d m t).ok d := by
  obtain ⟨h1, h2, h3, h4, _⟩ := hL
  have := segW_bd m t (by omega)
  have e : ((d - t : Nat) : Int) = d - t := by omega
  rw [e] at h2 h4
  simp only [cand, Cell.ok]
  omega
theorem zero_ok (d : Nat) : Cell.zero.ok d := by simp [Cell.zero, Cell.ok]; omega
theorem upd_ok {b x : Cell} {d : Nat} (hb : b.ok d) (hx : x.ok d) : (b.upd x).ok d := by
  unfold Cell.upd
  split <;> assumption
theorem foldT_ok {L : Nat → Cell} {d : Nat} {m : Int} {b : Cell} (hL : ∀ j, j < d → (L j).ok j) (hb : b.ok d) (hm : 0 ≤ m ∧ m ≤ 4) : ∀ T, T ≤ d → T ≤ 255 → (foldT L d m b T).ok d := by
  intro T
  induction T with
  | zero => intro _ _; exact hb
  | succ T ih => intro h1 h2; exact upd_ok (ih (by omega) (by omega)) (cand_ok (hL _ (by omega)) (by omega) h1 h2 hm)
theorem foldM_ok {s : ByteArray} {L : Nat → Cell} {d : Nat} (hL : ∀ j, j < d → (L j).ok j) : ∀ M, M ≤ 4 → (foldM s L d M).ok d := by
  intro M
  induction M with
  | zero => intro _; exact zero_ok d
  | succ M ih => intro h; exact foldT_ok hL (ih (by omega)) (by omega) _ (farF_le _ _ _).2 (farF_le _ _ _).1
theorem cell_ok (s : ByteArray) : ∀ d, (cell s d).ok d := by
  intro d
  induction d using Nat.strongRecOn with
  | _ d ih =>
    cases d with
    | zero => exact zero_ok 0
    | succ d => rw [cell_succ]; exact foldM_ok ih 4 (by omega)

end Go.Proofs.YtajidoofhmoalaaGreatDoor

namespace Go.Proofs.YtajidoofhmoalaaGreatDoor
open Go.RowKit

def Cell.good (c : Cell) : Prop := 1 ≤ c.cnt ∧ 1 ≤ c.size ∧ 1 ≤ c.mode
theorem upd_good {b x : Cell} (hb : b.cnt = 0 ∨ b.good) (hx : x.good) : (b.upd x).good := by
  unfold Cell.upd
  split
  · exact hx
  · rename_i h
    rcases hb with h0 | h0
    · exact absurd (Or.inl h0) h
    · exact h0
theorem cand_good {L : Nat → Cell} {d : Nat} {m : Int} {t : Nat} (hL : 0 ≤ (L (d - t)).cnt) (hm : 1 ≤ m) (ht : 1 ≤ t) : (cand L d m t).good := by
  simp only [cand, Cell.good]
  omega
theorem foldT_good {L : Nat → Cell} {d : Nat} {m : Int} {b : Cell} (hL : ∀ j, 0 ≤ (L j).cnt) (hm : 1 ≤ m) (hb : b.cnt = 0 ∨ b.good) : ∀ T, (T = 0 → b.good) → (foldT L d m b T).good := by
  intro T
  induction T with
  | zero => intro h; exact h rfl
  | succ T ih =>
    intro _
    refine upd_good ?_ (cand_good (hL _) hm (by omega))
    cases T with
    | zero => exact hb
    | succ T => exact .inr (ih (by omega))
theorem foldT_zero {L : Nat → Cell} {d : Nat} {m : Int} {b : Cell} (hL : ∀ j, 0 ≤ (L j).cnt) (hm : 1 ≤ m) (hb : b.cnt = 0 ∨ b.good) (T : Nat) : (foldT L d m b T).cnt = 0 ∨ (foldT L d m b T).good := by
  cases T with
  | zero => exact hb
  | succ T => exact .inr (foldT_good hL hm hb (T + 1) (by omega))
theorem foldM_zero {s : ByteArray} {L : Nat → Cell} {d : Nat} (hL : ∀ j, 0 ≤ (L j).cnt) : ∀ M, (foldM s L d M).cnt = 0 ∨ (foldM s L d M).good := by
  intro M
  induction M with
  | zero => exact .inl rfl
  | succ M ih => exact foldT_zero hL (by omega) ih _
theorem far4_pos (s : ByteArray) (d : Nat) (h : 1 ≤ d) : 1 ≤ farF 4 s d := by
  obtain ⟨k, rfl⟩ : ∃ k, d = k + 1 := ⟨d - 1, by omega⟩
  have := byteAt_bd s (s.size - (k + 1))
  have h2 : ¬ charVal 4 (byteAt s (s.size - (k + 1))) < 0 := by
    simp only [charVal]
    split <;> simp <;> omega
  simp only [farF, if_neg h2]
  omega
theorem cell_good (s : ByteArray) (d : Nat) (h : 1 ≤ d) : (cell s d).good := by
  obtain ⟨k, rfl⟩ : ∃ k, d = k + 1 := ⟨d - 1, by omega⟩
  rw [cell_succ]
  have hL : ∀ j, 0 ≤ (cell s j).cnt := fun j => (cell_ok s j).2.2.1
  show (foldT (cell s) (k + 1) 4 (foldM s (cell s) (k + 1) 3) (farF 4 s (k + 1))).good
  exact foldT_good hL (by omega) (foldM_zero hL 3) _ (fun h0 => by have := far4_pos s (k + 1) (by omega); omega)

abbrev Sg : Type := Int × ByteArray
end Go.Proofs.YtajidoofhmoalaaGreatDoor
