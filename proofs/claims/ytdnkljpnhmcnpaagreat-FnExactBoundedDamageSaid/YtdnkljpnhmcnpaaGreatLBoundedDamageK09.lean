/- Contracts of chapter 9: modes, segments. -/
import Derived.Test.YtdnkljpnhmcnpaaGreatLBoundedDamageK00
import Derived.Test.YtdnkljpnhmcnpaaGreatLBoundedDamageK01
import Derived.Test.YtdnkljpnhmcnpaaGreatLBoundedDamageK04
import Derived.Test.YtdnkljpnhmcnpaaGreatLBoundedDamageK08
set_option linter.unusedVariables false
set_option linter.unusedSimpArgs false
namespace Go.Proofs.YtdnkljpnhmcnpaaGreat
open Go.RowKit

def idxB (s : ByteArray) (b : Int) : Int := match s.data.toList.findIdx? (fun c => (c.toNat : Int) == b) with | some i => i | none => -1
def digitsB : ByteArray := ⟨#[48, 49, 50, 51, 52, 53, 54, 55, 56, 57]⟩
def lettersB : ByteArray := ⟨#[48, 49, 50, 51, 52, 53, 54, 55, 56, 57, 65, 66, 67, 68, 69, 70, 71, 72, 73, 74, 75, 76, 77, 78, 79, 80, 81, 82, 83, 84, 85, 86, 87, 88, 89, 90, 32, 33, 35, 38, 40, 41, 43, 45, 47]⟩
def lowerB : ByteArray := ⟨#[97, 98, 99, 100, 101, 102, 103, 104, 105, 106, 107, 108, 109, 110, 111, 112, 113, 114, 115, 116, 117, 118, 119, 120, 121, 122, 32, 10, 44, 46, 39, 63]⟩
def modeSet (m : Int) : ByteArray := if m = 1 then digitsB else if m = 2 then lettersB else if m = 3 then lowerB else ByteArray.empty
def charVal (m b : Int) : Int := if ¬ (1 ≤ m ∧ m ≤ 4) ∨ ¬ (0 ≤ b ∧ b ≤ 255) then -1 else if m = 4 then b else idxB (modeSet m) b

open Go.RowKit

def textW (m n : Int) : Int :=
 if m = 1 then n / 3 * 10 + (if n % 3 = 0 then 0 else if n % 3 = 1 then 4 else 7) else if m = 2 then n / 2 * 11 + (if n % 2 = 0 then 0 else 6) else if m = 3 then n * 5 else n * 8

theorem textW_bd (m n : Int) (hn : 0 ≤ n ∧ n ≤ 1000000) : 0 ≤ textW m n ∧ textW m n ≤ n * 8 := by
 unfold textW
 (repeat' split) <;> omega

abbrev vSeg (m : Int) (s : ByteArray) : Value := .agg #[.int .i64 m, .string s]
open Go.RowKit

end Go.Proofs.YtdnkljpnhmcnpaaGreat
/- The best segmentation: plain laws. No program in sight but for the values of characters. -/
namespace Go.Proofs.YtdnkljpnhmcnpaaGreat
open Go.RowKit

def farF (m : Int) (s : ByteArray) : Nat → Nat
 | 0 => 0
 | d + 1 => if charVal m (byteAt s (s.size - (d + 1))) < 0 then 0 else min (farF m s d + 1) 255

theorem farF_le (m : Int) (s : ByteArray) (d : Nat) : farF m s d ≤ 255 ∧ farF m s d ≤ d := by
 induction d with
 | zero => simp [farF]
 | succ d ih =>
  simp only [farF]
  split <;> omega
structure Cell where
 len : Int
 cnt : Int
 size : Int
 mode : Int
def Cell.zero : Cell := ⟨0, 0, 0, 0⟩
def Cell.better (a b : Cell) : Bool :=
 if a.len ≠ b.len then decide (a.len < b.len) else if a.cnt ≠ b.cnt then decide (a.cnt < b.cnt) else if a.size ≠ b.size then decide (b.size < a.size) else decide (a.mode < b.mode)
def Cell.upd (b x : Cell) : Cell := if b.cnt = 0 ∨ x.better b = true then x else b
def segW (m n : Int) : Int := 11 + textW m n
def cand (L : Nat → Cell) (d : Nat) (m : Int) (t : Nat) : Cell := ⟨segW m t + (L (d - t)).len, (L (d - t)).cnt + 1, t, m⟩
def foldT (L : Nat → Cell) (d : Nat) (m : Int) (b : Cell) : Nat → Cell
 | 0 => b
 | t + 1 => (foldT L d m b t).upd (cand L d m (t + 1))
def foldM (s : ByteArray) (L : Nat → Cell) (d : Nat) : Nat → Cell
 | 0 => Cell.zero
 | m + 1 => foldT L d (m + 1 : Nat) (foldM s L d m) (farF (m + 1 : Nat) s d)
def tabs (s : ByteArray) : Nat → List Cell
 | 0 => [Cell.zero]
 | d + 1 => tabs s d ++ [foldM s (fun j => (tabs s d).getD j Cell.zero) (d + 1) 4]
def cell (s : ByteArray) (d : Nat) : Cell := (tabs s d).getD d Cell.zero
theorem tabs_length (s : ByteArray) (d : Nat) : (tabs s d).length = d + 1 := by
 induction d with
 | zero => rfl
 | succ d ih => simp [tabs, ih]
theorem tabs_get (s : ByteArray) : ∀ (d j : Nat), j ≤ d → (tabs s d).getD j Cell.zero = cell s j := by
 intro d
 induction d with
 | zero => intro j hj; have : j = 0 := by omega
           subst this; rfl
 | succ d ih =>
  intro j hj
  by_cases e : j = d + 1
  ·subst e; rfl
  ·rw [← ih j (by omega)]
   simp only [tabs, List.getD_eq_getElem?_getD]
   rw [List.getElem?_append_left (by rw [tabs_length]; omega)]
theorem foldT_congr (L L' : Nat → Cell) (d : Nat) (m : Int) (b : Cell) (T : Nat) (hT : T ≤ d) (h : ∀ j, j < d → L j = L' j) : foldT L d m b T = foldT L' d m b T := by
 induction T with
 | zero => rfl
 | succ T ih =>
  simp only [foldT, cand]
  rw [ih (by omega), h (d - (T + 1)) (by omega)]
theorem foldM_congr (s : ByteArray) (L L' : Nat → Cell) (d : Nat) (M : Nat) (h : ∀ j, j < d → L j = L' j) : foldM s L d M = foldM s L' d M := by
 induction M with
 | zero => rfl
 | succ M ih => simp only [foldM]; rw [ih, foldT_congr L L' d _ _ _ (farF_le _ _ _).2 h]
theorem cell_zero (s : ByteArray) : cell s 0 = Cell.zero := rfl
theorem cell_succ (s : ByteArray) (d : Nat) : cell s (d + 1) = foldM s (cell s) (d + 1) 4 := by
 have : cell s (d + 1) = foldM s (fun j => (tabs s d).getD j Cell.zero) (d + 1) 4 := by
  simp [cell, tabs, List.getD_eq_getElem?_getD, tabs_length]
 rw [this]
 exact foldM_congr _ _ _ _ _ fun j hj => tabs_get s d j (by omega)

def Cell.ok (c : Cell) (d : Nat) : Prop := 0 ≤ c.len ∧ c.len ≤ 19 * d ∧ 0 ≤ c.cnt ∧ c.cnt ≤ d ∧ 0 ≤ c.size ∧ c.size ≤ d ∧ c.size ≤ 255 ∧ 0 ≤ c.mode ∧ c.mode ≤ 4
theorem segW_bd (m : Int) (n : Nat) (hn : n ≤ 1000) : 11 ≤ segW m n ∧ segW m n ≤ 11 + 8 * n := by
 have := textW_bd m n (by omega)
 unfold segW
 omega
theorem cand_ok {L : Nat → Cell} {d : Nat} {m : Int} {t : Nat} (hL : (L (d - t)).ok (d - t)) (ht : 1 ≤ t) (htd : t ≤ d) (ht2 : t ≤ 255) (hm : 0 ≤ m ∧ m ≤ 4) : (cand L d m t).ok d := by
 obtain ⟨h1, h2, h3, h4, _⟩ := hL
 have := segW_bd m t (by omega)
 have e : ((d - t : Nat) : Int) = d - t := by omega
 rw [e] at h2 h4
 simp only [cand, Cell.ok]
 omega
theorem zero_ok (d : Nat) : Cell.zero.ok d := by simp [Cell.zero, Cell.ok]; omega
theorem upd_ok {b x : Cell} {d : Nat} (hb : b.ok d) (hx : x.ok d) : (b.upd x).ok d := by
 unfold Cell.upd
 split <;> assumption
theorem foldT_ok {L : Nat → Cell} {d : Nat} {m : Int} {b : Cell} (hL : ∀ j, j < d → (L j).ok j) (hb : b.ok d) (hm : 0 ≤ m ∧ m ≤ 4) : ∀ T, T ≤ d → T ≤ 255 → (foldT L d m b T).ok d := by
 intro T
 induction T with
 | zero => intro _ _; exact hb
 | succ T ih => intro h1 h2; exact upd_ok (ih (by omega) (by omega)) (cand_ok (hL _ (by omega)) (by omega) h1 h2 hm)
theorem foldM_ok {s : ByteArray} {L : Nat → Cell} {d : Nat} (hL : ∀ j, j < d → (L j).ok j) : ∀ M, M ≤ 4 → (foldM s L d M).ok d := by
 intro M
 induction M with
 | zero => intro _; exact zero_ok d
 | succ M ih => intro h; exact foldT_ok hL (ih (by omega)) (by omega) _ (farF_le _ _ _).2 (farF_le _ _ _).1
theorem cell_ok (s : ByteArray) : ∀ d, (cell s d).ok d := by
 intro d
 induction d using Nat.strongRecOn with
 | _ d ih =>
  cases d with
  | zero => exact zero_ok 0
  | succ d => rw [cell_succ]; exact foldM_ok ih 4 (by omega)

open Go.RowKit

def Cell.good (c : Cell) : Prop := 1 ≤ c.cnt ∧ 1 ≤ c.size ∧ 1 ≤ c.mode
theorem upd_good {b x : Cell} (hb : b.cnt = 0 ∨ b.good) (hx : x.good) : (b.upd x).good := by
 unfold Cell.upd
 split
 ·exact hx
 ·rename_i h
  rcases hb with h0 | h0
  ·exact absurd (Or.inl h0) h
  ·exact h0
theorem cand_good {L : Nat → Cell} {d : Nat} {m : Int} {t : Nat} (hL : 0 ≤ (L (d - t)).cnt) (hm : 1 ≤ m) (ht : 1 ≤ t) : (cand L d m t).good := by
 simp only [cand, Cell.good]
 omega
theorem foldT_good {L : Nat → Cell} {d : Nat} {m : Int} {b : Cell} (hL : ∀ j, 0 ≤ (L j).cnt) (hm : 1 ≤ m) (hb : b.cnt = 0 ∨ b.good) : ∀ T, (T = 0 → b.good) → (foldT L d m b T).good := by
 intro T
 induction T with
 | zero => intro h; exact h rfl
 | succ T ih =>
  intro _
  refine upd_good ?_ (cand_good (hL _) hm (by omega))
  cases T with
  | zero => exact hb
  | succ T => exact .inr (ih (by omega))
theorem foldT_zero {L : Nat → Cell} {d : Nat} {m : Int} {b : Cell} (hL : ∀ j, 0 ≤ (L j).cnt) (hm : 1 ≤ m) (hb : b.cnt = 0 ∨ b.good) (T : Nat) : (foldT L d m b T).cnt = 0 ∨ (foldT L d m b T).good := by
 cases T with
 | zero => exact hb
 | succ T => exact .inr (foldT_good hL hm hb (T + 1) (by omega))
theorem foldM_zero {s : ByteArray} {L : Nat → Cell} {d : Nat} (hL : ∀ j, 0 ≤ (L j).cnt) : ∀ M, (foldM s L d M).cnt = 0 ∨ (foldM s L d M).good := by
 intro M
 induction M with
 | zero => exact .inl rfl
 | succ M ih => exact foldT_zero hL (by omega) ih _
theorem far4_pos (s : ByteArray) (d : Nat) (h : 1 ≤ d) : 1 ≤ farF 4 s d := by
 obtain ⟨k, rfl⟩ : ∃ k, d = k + 1 := ⟨d - 1, by omega⟩
 have := byteAt_bd s (s.size - (k + 1))
 have h2 : ¬ charVal 4 (byteAt s (s.size - (k + 1))) < 0 := by
  simp only [charVal]
  split <;> simp <;> omega
 simp only [farF, if_neg h2]
 omega
theorem cell_good (s : ByteArray) (d : Nat) (h : 1 ≤ d) : (cell s d).good := by
 obtain ⟨k, rfl⟩ : ∃ k, d = k + 1 := ⟨d - 1, by omega⟩
 rw [cell_succ]
 have hL : ∀ j, 0 ≤ (cell s j).cnt := fun j => (cell_ok s j).2.2.1
 show (foldT (cell s) (k + 1) 4 (foldM s (cell s) (k + 1) 3) (farF 4 s (k + 1))).good
 exact foldT_good hL (by omega) (foldM_zero hL 3) _ (fun h0 => by have := far4_pos s (k + 1) (by omega); omega)

abbrev Sg : Type := Int × ByteArray
open Go.RowKit

def WTab (cs : Array Value) (M t : Nat) : Prop := cs.size = 1280 ∧ ∀ m n : Nat, 1 ≤ m → 1 ≤ n → n ≤ 255 → (m < M ∨ (m = M ∧ n < t)) → cs[m * 256 + n]? = some (.int .i64 (segW m n))
set_option maxRecDepth 100000 in
theorem WTab.step {cs : Array Value} {M t : Nat} (h : WTab cs M t) (hM : 1 ≤ M ∧ M ≤ 4) (ht : 1 ≤ t ∧ t ≤ 255) : WTab (cs.setIfInBounds (M * 256 + t) (.int .i64 (segW M t))) M (t + 1) := by
 refine ⟨by simpa using h.1, fun m n h1 h2 h3 h4 => ?_⟩
 by_cases e : m * 256 + n = M * 256 + t
 ·have e1 : m = M ∧ n = t := by omega
  rw [e, Array.getElem?_setIfInBounds_self_of_lt (by rw [h.1]; omega), e1.1, e1.2]
 ·rw [Array.getElem?_setIfInBounds_ne (by omega)]
  exact h.2 m n h1 h2 h3 (by omega)
theorem WTab.next {cs : Array Value} {M t : Nat} (h : WTab cs M t) (ht : 256 ≤ t) : WTab cs (M + 1) 1 :=
 ⟨h.1, fun m n h1 h2 h3 h4 => h.2 m n h1 h2 h3 (by omega)⟩

end Go.Proofs.YtdnkljpnhmcnpaaGreat
/- A world in which only one old block has turned; taking a byte into the reach of each mode. -/
namespace Go.Proofs.YtdnkljpnhmcnpaaGreat
open Go.RowKit

def nextR (m b x : Int) : Int := if charVal m b < 0 then 0 else min (x + 1) 255
def RTab (x : Int → Int) (b : Int) (cs : Array Value) (M : Nat) : Prop := cs.size = 5 ∧ ∀ m : Nat, 1 ≤ m → m ≤ 4 → cs[m]? = some (.int .i64 (if m < M then nextR m b (x m) else x m))
theorem RTab.step {x : Int → Int} {b : Int} {cs : Array Value} {M : Nat} (h : RTab x b cs M) (hM : 1 ≤ M ∧ M ≤ 4) {v : Int} (hv : v = nextR M b (x M)) : RTab x b (cs.setIfInBounds M (.int .i64 v)) (M + 1) := by
 refine ⟨by simpa using h.1, fun m h1 h2 => ?_⟩
 by_cases e : m = M
 ·subst e
  rw [Array.getElem?_setIfInBounds_self_of_lt (by rw [h.1]; omega), if_pos (by omega), hv]
 ·rw [Array.getElem?_setIfInBounds_ne (by omega), h.2 m h1 h2]
  by_cases e2 : m < M
  ·rw [if_pos e2, if_pos (by omega)]
  ·rw [if_neg e2, if_neg (by omega)]

open Go.RowKit

def Cell.val (c : Cell) : Value := .agg #[.int .i64 c.len, .int .i64 c.cnt, .int .i64 c.size, .int .i64 c.mode]
def Cell.cells (c : Cell) : Array Value := #[.int .i64 c.len, .int .i64 c.cnt, .int .i64 c.size, .int .i64 c.mode]
def DTab (s : ByteArray) (cs : Array Value) (d : Nat) : Prop := cs.size = (s.size + 1) * 4 ∧ ∀ j, j ≤ d → j ≤ s.size → ∀ k, k < 4 → cs[(s.size - j) * 4 + k]? = (cell s j).cells[k]?
theorem DTab.zero (s : ByteArray) : DTab s (madeCells Cell.zero.val.cells ((s.size + 1) * 4)) 0 := by
 refine ⟨size_madeCells _ _, fun j h1 h2 k hk => ?_⟩
 obtain rfl : j = 0 := by omega
 rw [made_get (by omega), cell_zero]
 have e : ((s.size - 0) * 4 + k) % Cell.zero.val.cells.size = k := by
  show ((s.size - 0) * 4 + k) % 4 = k
  omega
 rw [e]
 match k, hk with
 | 0, _ => rfl
 | 1, _ => rfl
 | 2, _ => rfl
 | 3, _ => rfl
def put4 (cs : Array Value) (o : Nat) (c : Cell) : Array Value :=
 (((cs.setIfInBounds o (.int .i64 c.len)).setIfInBounds (o + 1) (.int .i64 c.cnt)).setIfInBounds (o + 2) (.int .i64 c.size)).setIfInBounds (o + 3) (.int .i64 c.mode)
theorem put4_ne {cs : Array Value} {o i : Nat} {c : Cell} (h : i < o ∨ o + 4 ≤ i) : (put4 cs o c)[i]? = cs[i]? := by
 unfold put4
 rw [Array.getElem?_setIfInBounds_ne (by omega), Array.getElem?_setIfInBounds_ne (by omega), Array.getElem?_setIfInBounds_ne (by omega), Array.getElem?_setIfInBounds_ne (by omega)]
theorem put4_at {cs : Array Value} {o k : Nat} {c : Cell} (h : o + 4 ≤ cs.size) (hk : k < 4) : (put4 cs o c)[o + k]? = c.cells[k]? := by
 unfold put4
 match k, hk with
 | 3, _ => rw [Array.getElem?_setIfInBounds_self_of_lt (by simp; omega)]; rfl
 | 2, _ => rw [Array.getElem?_setIfInBounds_ne (by omega), Array.getElem?_setIfInBounds_self_of_lt (by simp; omega)]; rfl
 | 1, _ => rw [Array.getElem?_setIfInBounds_ne (by omega), Array.getElem?_setIfInBounds_ne (by omega), Array.getElem?_setIfInBounds_self_of_lt (by simp; omega)]; rfl
 | 0, _ => rw [Array.getElem?_setIfInBounds_ne (by omega), Array.getElem?_setIfInBounds_ne (by omega), Array.getElem?_setIfInBounds_ne (by omega), Nat.add_zero, Array.getElem?_setIfInBounds_self_of_lt (by omega)]; rfl
theorem DTab.put {s : ByteArray} {cs : Array Value} {d : Nat} (h : DTab s cs d) (hd : d < s.size) : DTab s (put4 cs ((s.size - 1 - d) * 4) (cell s (d + 1))) (d + 1) := by
 refine ⟨by simp [put4, h.1], fun j h1 h2 k hk => ?_⟩
 by_cases e : j = d + 1
 ·subst e
  rw [show s.size - (d + 1) = s.size - 1 - d by omega]
  exact put4_at (by rw [h.1]; omega) hk
 ·rw [put4_ne (by omega)]
  exact h.2 j (by omega) h2 k hk
theorem Blk.put4 {w : World} {g : Nat} {t : TypeId} {cs : Array Value} (h : Blk w g cs t) (o : Nat) (x : Cell) :
  Blk ((((w.setCell ⟨g, o, none⟩ (.int .i64 x.len)).setCell ⟨g, o + 1, none⟩ (.int .i64 x.cnt)).setCell ⟨g, o + 2, none⟩ (.int .i64 x.size)).setCell ⟨g, o + 3, none⟩ (.int .i64 x.mode)) g (put4 cs o x) t :=
 (((h.set o (.int .i64 x.len)).set (o + 1) (.int .i64 x.cnt)).set (o + 2) (.int .i64 x.size)).set (o + 3) (.int .i64 x.mode)
section
variable {w wr w' : World} {gT gF gw gb : Nat} {csT csF csw : Array Value}
end
end Go.Proofs.YtdnkljpnhmcnpaaGreat
/- The best length and the best segments. -/
namespace Go.Proofs.YtdnkljpnhmcnpaaGreat
open Go.RowKit

open Go.RowKit

def WTb (s : ByteArray) (cs : Array Value) (d : Nat) (b : Cell) : Prop := DTab s cs d ∧ (b.cnt ≠ 0 → ∀ k, k < 4 → cs[(s.size - 1 - d) * 4 + k]? = b.cells[k]?)
theorem WTb.done {s : ByteArray} {cs : Array Value} {d : Nat} (h : WTb s cs d (cell s (d + 1))) (hd : d < s.size) : DTab s cs (d + 1) := by
 refine ⟨h.1.1, fun j h1 h2 k hk => ?_⟩
 by_cases e : j = d + 1
 ·subst e
  have hg := cell_good s (d + 1) (by omega)
  rw [show s.size - (d + 1) = s.size - 1 - d by omega]
  exact h.2 (by unfold Cell.good at hg; omega) k hk
 ·exact h.1.2 j (by omega) h2 k hk
theorem WTb.put {s : ByteArray} {cs : Array Value} {d : Nat} {b : Cell} (h : WTb s cs d b) (hd : d < s.size) (x : Cell) : WTb s (put4 cs ((s.size - 1 - d) * 4) x) d x := by
 refine ⟨⟨by simp [put4, h.1.1], fun j h1 h2 k hk => ?_⟩, fun _ k hk => put4_at (by rw [h.1.1]; omega) hk⟩
 rw [put4_ne (by omega)]
 exact h.1.2 j h1 h2 k hk
theorem WTb.cells {s : ByteArray} {cs : Array Value} {d : Nat} {b : Cell} (h : WTb s cs d b) (hb : b.cnt ≠ 0) :
  cs[(s.size - 1 - d) * 4]? = some (.int .i64 b.len) ∧ cs[(s.size - 1 - d) * 4 + 1]? = some (.int .i64 b.cnt) ∧ cs[(s.size - 1 - d) * 4 + 2]? = some (.int .i64 b.size) ∧ cs[(s.size - 1 - d) * 4 + 3]? = some (.int .i64 b.mode) :=
 ⟨h.2 hb 0 (by omega), h.2 hb 1 (by omega), h.2 hb 2 (by omega), h.2 hb 3 (by omega)⟩
open Go.RowKit

end Go.Proofs.YtdnkljpnhmcnpaaGreat
/- The width of a field, the size of a payload. -/
namespace Go.Proofs.YtdnkljpnhmcnpaaGreat
open Go.RowKit

def fW (size : Int) : Nat := Nat.log2 size.toNat
theorem fW_eq {size : Int} {j : Nat} (h0 : 1 ≤ size) (h1 : (2 : Int) ^ j ≤ size) (h2 : size < 2 ^ (j + 1)) : fW size = j := by
 have e1 := two_pow_cast j
 have e2 := two_pow_cast (j + 1)
 unfold fW
 rw [Nat.log2_eq_iff (by omega)]
 omega
theorem fW_bd {size : Int} (h : 3 ≤ size ∧ size ≤ 1021) : 1 ≤ fW size ∧ fW size ≤ 9 ∧ (2 : Int) ^ fW size ≤ size ∧ size < 2 ^ (fW size + 1) := by
 have h1 := (Nat.log2_eq_iff (n := size.toNat) (k := fW size) (by omega)).1 rfl
 have e1 := two_pow_cast (fW size)
 have e2 := two_pow_cast (fW size + 1)
 refine ⟨?_, ?_, by omega, by omega⟩
 ·rcases Nat.eq_zero_or_pos (fW size) with h0 | h0
  ·rw [h0] at h1; omega
  ·exact h0
 ·rcases Nat.lt_or_ge 9 (fW size) with h0 | h0
  ·have : 2 ^ 10 ≤ 2 ^ fW size := Nat.pow_le_pow_right (by omega) h0
   omega
  ·exact h0
theorem pow_shl {j : Nat} {size : Int} (hs : size ≤ 1021) (h : (2 : Int) ^ j ≤ size) : 1 ≤ (2 : Int) ^ j ∧ (2 : Int) * 2 ^ j ≤ 2042 ∧ (2 : Int) ^ (j + 1) = 2 * 2 ^ j := by
 have : (0 : Int) < 2 ^ j := Int.pow_pos (by omega)
 exact ⟨by omega, by omega, by rw [Int.pow_succ, Int.mul_comm]⟩

theorem width_c (g : Nat) (size : Int) (w : World) (hq : w.cell? ⟨g, 1, none⟩ = some (.int .i64 size)) (hs : 3 ≤ size ∧ size ≤ 1021) :
  Calls Tryz.prog 186 #[.pointer (some ⟨g, 0, none⟩)] w fun e w' => e = .returned (.int .i64 (fW size)) ∧ Ext w w' := by
 have hbd := fW_bd hs
 go_enter Tryz.func186, Tryz.ntmps186
 go_wp2
 go_loopw [3] (fun i wr => ∃ (j n : Nat), j ≤ fW size ∧ i = .int .i64 j ∧ (2 : Int) ^ j ≤ size ∧ wr = w.drewN n) (fun i _ => fW size - (intOf i).toNat)
 case atStart => exact ⟨0, 0, by omega, rfl, by show (1 : Int) ≤ size; omega, rfl⟩
 case round =>
  obtain ⟨j, n, hj, rfl, hp, rfl⟩ := hrel
  obtain ⟨p1, p2, p3⟩ := pow_shl hs.2 hp
  by_cases hlt : (2 : Int) * 2 ^ j ≤ size
  ·have hjl : j < fW size := by
    rcases Nat.lt_or_ge j (fW size) with h | h
    ·exact h
    ·obtain rfl : j = fW size := by omega
     omega
   have hp1 : (2 : Int) ^ (j + 1) ≤ size := by omega
   have HP := Lib.hid hp1
   have hj9 : (j : Int) ≤ 62 := by omega
   clear p3 hp1 hbd
   go_wp2_with fail
   go_quiet (fail)
   go_wp2
   go_roundw
   case rel => exact ⟨j + 1, n + nq, by omega, by go_num, HP.out, rfl⟩
   case measure => simp [intOf]; omega
  ·have hfw := Lib.hid (fW_eq (by omega) hp (by omega))
   have hj9 : (j : Int) ≤ 62 := by omega
   clear p3 hbd
   go_wp2_with fail
   go_quiet (fail)
   go_wp2
   go_ret
   exact ⟨by rw [hfw.out]; rfl, eX⟩

theorem fldSize_bd {p k q : Int} (h : fldOK p k q) : (3 ≤ fldSize p k ∧ fldSize p k ≤ 1021) ∧ 0 ≤ k ∧ k ≤ 40 := by
 rcases h with ⟨rfl, h, _⟩ | ⟨h1, rfl, h2, _⟩
 ·exact ⟨h, by omega⟩
 ·have e : fldSize 2 k = 2 ^ k.toNat := if_neg h1
  have e1 := two_pow_cast k.toNat
  have e4 : (2 : Nat) ^ k.toNat ≤ 2 ^ 8 := Nat.pow_le_pow_right (by omega) (by omega)
  have e5 : (2 : Nat) ^ 3 ≤ 2 ^ k.toNat := Nat.pow_le_pow_right (by omega) (by omega)
  omega
theorem l11Width_c (p k q : Int) (w : World) (hok : fldOK p k q) :
  Calls Tryz.prog 118 #[vFld p k q] w fun e w' => e = .returned (.int .i64 (fW (fldSize p k))) ∧ Ext w w' := by
 obtain ⟨hs, hk⟩ := fldSize_bd hok
 have hsc := Lib.hid (fun W => l02Size_c p k q W hk)
 have hbd := fW_bd hs
 clear hok hk
 generalize fldSize p k = size at *
 have hb := Blk.new w #[.int .i64 p, .int .i64 k, .int .i64 q] 53
 go_enter Tryz.func118, Tryz.ntmps118
 go_wp2
 have hx : Ext w (w.alloc (.cells #[.int .i64 p, .int .i64 k, .int .i64 q] 53)) := eX
 generalize w.alloc (.cells #[.int .i64 p, .int .i64 k, .int .i64 q] 53) = w0 at *
 go_loopw [3] (fun i wr => ∃ j : Nat, j ≤ fW size ∧ i = .int .i64 j ∧ (2 : Int) ^ j ≤ size ∧ Ext w0 wr) (fun i _ => fW size - (intOf i).toNat)
 case atStart => exact ⟨0, by omega, rfl, by show (1 : Int) ≤ size; omega, eX⟩
 case round =>
  obtain ⟨j, hj, rfl, hp, hext⟩ := hrel
  obtain ⟨p1, p2, p3⟩ := pow_shl hs.2 hp
  have hbr := hb.ext hext
  have q0 := hbr.cell (i := 0) (v := .int .i64 p) rfl
  have q1 := hbr.cell (i := 1) (v := .int .i64 k) rfl
  have q2 := hbr.cell (i := 2) (v := .int .i64 q) rfl
  have ql := hbr.lt
  have hj9 : (j : Int) ≤ 62 := by omega
  by_cases hlt : (2 : Int) * 2 ^ j ≤ size
  ·have hjl : j < fW size := by
    rcases Nat.lt_or_ge j (fW size) with h | h
    ·exact h
    ·obtain rfl : j = fW size := by omega
     omega
   have hp1 : (2 : Int) ^ (j + 1) ≤ size := by omega
   have HP := Lib.hid hp1
   clear p3 hp1 hbd
   go_wp2_with (go_at_call 162; (with_reducible refine (hsc.out _).mono ?_); rintro e w1 ⟨rfl, hx1⟩)
   go_roundw
   case rel => exact ⟨j + 1, by omega, by go_num, HP.out, hext.trans hx1⟩
   case measure => simp [intOf]; omega
  ·have hfw := Lib.hid (fW_eq (by omega) hp (by omega))
   clear p3 hbd
   go_wp2_with (go_at_call 162; (with_reducible refine (hsc.out _).mono ?_); rintro e w1 ⟨rfl, hx1⟩)
   go_ret
   exact ⟨by rw [hfw.out]; rfl, (hx.trans hext).trans hx1⟩

theorem calcOK_c (p k q size : Int) (hok : fldOK p k q) (hsz : fldSize p k = size) (w : World) :
  Calls Tryz.prog 185 #[vFld p k q] w fun e w' => (∃ (g : Nat) (b : Bool), e = .returned (.tuple #[.pointer (some ⟨g, 0, none⟩), .bool true]) ∧ CalcB w' g b size) ∧ Ext w w' := by
 refine (calc_c p k q w).mono ?_
 rintro e w' ⟨⟨_, g, b, he, hcb⟩ | ⟨hno, _⟩, hx⟩
 ·rw [hsz] at hcb
  exact ⟨⟨g, b, he, hcb⟩, hx⟩
 ·exact absurd hok hno
theorem calcNo_c (p k q : Int) (hok : ¬ fldOK p k q) (w : World) :
  Calls Tryz.prog 185 #[vFld p k q] w fun e w' => (∃ v, e = .returned (.tuple #[v, .bool false])) ∧ Ext w w' := by
 refine (calc_c p k q w).mono ?_
 rintro e w' ⟨⟨h, _⟩ | ⟨_, h⟩, hx⟩
 ·exact absurd h hok
 ·exact ⟨h, hx⟩
end Go.Proofs.YtdnkljpnhmcnpaaGreat
