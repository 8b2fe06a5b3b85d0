
/- Contracts of chapter 9: modes, segments. -/
import Derived.Test.YthjklchmjeojjaaBase
import Derived.Test.YthjklchmjeojjaaCanon
/-! Contracts of chapter 9: modes, segments. -/
namespace Go.Proofs.Ythjklchmjeojjaa
set_option linter.unusedVariables false
set_option linter.unusedSimpArgs false
open Go.RowKit

def idxB (s : ByteArray) (b : Int) : Int := match s.data.toList.findIdx? (fun c => (c.toNat : Int) == b) with | some i => i | none => -1
theorem bget (s : ByteArray) (j : Nat) (h : j < s.size) : s.data.toList[j]'(by simpa using h) = s[j]'h := by
  cases s; rfl
theorem idxB_found {s : ByteArray} {b : Int} {k : Nat} (h : k < s.size) (hk : ((s[k]'h).toNat : Int) = b) (hn : ∀ j (h : j < s.size), j < k → ((s[j]'h).toNat : Int) ≠ b) : idxB s b = k := by
  unfold idxB
  have : s.data.toList.findIdx? (fun c => (c.toNat : Int) == b) = some k := by
    rw [List.findIdx?_eq_some_iff_getElem]
    refine ⟨by simpa using h, by rw [bget s k h]; simpa using hk, fun j hj => ?_⟩
    have hj' : j < s.size := by omega
    rw [bget s j hj']
    simpa using hn j hj' hj
  rw [this]
theorem idxB_none {s : ByteArray} {b : Int} (hn : ∀ j (h : j < s.size), ((s[j]'h).toNat : Int) ≠ b) : idxB s b = -1 := by
  unfold idxB
  have : s.data.toList.findIdx? (fun c => (c.toNat : Int) == b) = none := by
    rw [List.findIdx?_eq_none_iff]
    intro x hx
    obtain ⟨j, hj, rfl⟩ := List.mem_iff_getElem.1 hx
    have hj' : j < s.size := by simpa using hj
    rw [bget s j hj']
    simpa using hn j hj'
  rw [this]

def Ascii (s : ByteArray) : Prop := ∀ j (h : j < s.size), (s[j]'h).toNat < 128

def digitsB : ByteArray := ⟨#[48, 49, 50, 51, 52, 53, 54, 55, 56, 57]⟩
def lettersB : ByteArray := ⟨#[48, 49, 50, 51, 52, 53, 54, 55, 56, 57, 65, 66, 67, 68, 69, 70, 71, 72, 73, 74, 75, 76, 77, 78, 79, 80, 81, 82, 83, 84, 85, 86, 87, 88, 89, 90, 32, 33, 35, 38, 40, 41, 43, 45, 47]⟩
def lowerB : ByteArray := ⟨#[97, 98, 99, 100, 101, 102, 103, 104, 105, 106, 107, 108, 109, 110, 111, 112, 113, 114, 115, 116, 117, 118, 119, 120, 121, 122, 32, 10, 44, 46, 39, 63]⟩
def modeSet (m : Int) : ByteArray := if m = 1 then digitsB else if m = 2 then lettersB else if m = 3 then lowerB else ByteArray.empty
def charVal (m b : Int) : Int := if ¬ (1 ≤ m ∧ m ≤ 4) ∨ ¬ (0 ≤ b ∧ b ≤ 255) then -1 else if m = 4 then b else idxB (modeSet m) b

def modeWidths (m : Int) : List Int := if m = 1 then [4, 7, 10] else if m = 2 then [6, 11] else if m = 3 then [5] else []
theorem ascii_of_all {s : ByteArray} (h : s.data.toList.all (fun c => decide (c.toNat < 128)) = true) : Ascii s := by
  intro j hj
  rw [← bget s j hj]
  simp only [List.all_eq_true, decide_eq_true_eq] at h
  exact h _ (List.getElem_mem _)
theorem modeSet_ascii (m : Int) : Ascii (modeSet m) := by
  unfold modeSet
  split
  · exact ascii_of_all (by decide)
  · split
    · exact ascii_of_all (by decide)
    · split
      · exact ascii_of_all (by decide)
      · exact ascii_of_all (by decide)
theorem modeSet_size (m : Int) : (modeSet m).size ≤ 45 := by
  unfold modeSet
  (repeat' split) <;> decide

def AllIn (m : Int) (s : ByteArray) : Prop := ∀ j (h : j < s.size), 0 ≤ charVal m (s[j]'h).toNat
theorem charVal_lo (m b : Int) : -1 ≤ charVal m b := by
  unfold charVal idxB
  split
  · omega
  · split
    · omega
    · split <;> omega

theorem charVal_listed {m b : Int} (hm : 1 ≤ m ∧ m ≤ 3) (hb : 0 ≤ b ∧ b ≤ 255) : charVal m b = idxB (modeSet m) b := by
  unfold charVal
  rw [if_neg (by omega), if_neg (by omega)]
theorem charVal_bytes {m b : Int} (hm : m = 4) (hb : 0 ≤ b ∧ b ≤ 255) : charVal m b = b := by
  unfold charVal
  rw [if_neg (by omega), if_pos hm]
theorem wrapByte (c : UInt8) : IntKind.i64.wrap (c.toNat : Int) = c.toNat := by
  have := UInt8.toNat_lt c
  exact IntWalk.i64_in _ (by omega)
theorem AllIn_step {m : Int} {s : ByteArray} {k : Nat} (hk : k < s.size) (h : ∀ j (h : j < s.size), j < k → 0 ≤ charVal m (s[j]'h).toNat) (h0 : 0 ≤ charVal m (s[k]'hk).toNat) :
    ∀ j (h : j < s.size), j < k + 1 → 0 ≤ charVal m (s[j]'h).toNat := fun j hj hjk => by
  by_cases e : j = k
  · subst e; exact h0
  · exact h j hj (by omega)

end Go.Proofs.Ythjklchmjeojjaa

/-! Contracts of chapter 9, second part: widths, whole segments. -/
namespace Go.Proofs.Ythjklchmjeojjaa
set_option linter.unusedVariables false
set_option linter.unusedSimpArgs false
open Go.RowKit

def textW (m n : Int) : Int :=
  if m = 1 then n / 3 * 10 + (if n % 3 = 0 then 0 else if n % 3 = 1 then 4 else 7) else if m = 2 then n / 2 * 11 + (if n % 2 = 0 then 0 else 6) else if m = 3 then n * 5 else n * 8

theorem textW_bd (m n : Int) (hn : 0 ≤ n ∧ n ≤ 1000000) : 0 ≤ textW m n ∧ textW m n ≤ n * 8 := by
  unfold textW
  (repeat' split) <;> omega

abbrev vSeg (m : Int) (s : ByteArray) : Value := .agg #[.int .i64 m, .string s]
def IsSeg (m : Int) (s : ByteArray) : Prop := (1 ≤ m ∧ m ≤ 4) ∧ (1 ≤ s.size ∧ s.size ≤ 255) ∧ AllIn m s

def segLen (m : Int) (s : ByteArray) : Int := 11 + textW m s.size

def grp (m : Int) : Int := if m = 1 then 3 else if m = 2 then 2 else 1
def grpBase (m : Int) : Int := if m = 1 then 10 else if m = 2 then 45 else 256
def wid (m g : Int) : Int := if m = 1 then (if g = 1 then 4 else if g = 2 then 7 else if g = 3 then 10 else 0) else if m = 2 then (if g = 1 then 6 else if g = 2 then 11 else 0) else if m = 3 then 5 else 8

theorem wid_bd (m g : Int) : 0 ≤ wid m g ∧ wid m g ≤ 11 := by
  unfold wid
  (repeat' split) <;> omega
theorem grp_bd (m : Int) : 1 ≤ grp m ∧ grp m ≤ 3 := by
  unfold grp
  (repeat' split) <;> omega
theorem textW_grp (m n : Int) (hm : 1 ≤ m ∧ m ≤ 4) (hn : 0 ≤ n ∧ n ≤ 1000000) : textW m n = n / grp m * wid m (grp m) + (if 0 < n % grp m then wid m (n % grp m) else 0) := by
  have : m = 1 ∨ m = 2 ∨ m = 3 ∨ m = 4 := by omega
  rcases this with rfl | rfl | rfl | rfl
  · have : n % 3 = 0 ∨ n % 3 = 1 ∨ n % 3 = 2 := by omega
    rcases this with h | h | h <;> simp [textW, grp, wid, h]
  · have : n % 2 = 0 ∨ n % 2 = 1 := by omega
    rcases this with h | h <;> simp [textW, grp, wid, h]
  · simp [textW, grp, wid]
  · simp [textW, grp, wid]

end Go.Proofs.Ythjklchmjeojjaa

/-! Contracts of chapter 9, third part: the narrowest mode; how the laws hand segments on. -/
namespace Go.Proofs.Ythjklchmjeojjaa
set_option linter.unusedVariables false
set_option linter.unusedSimpArgs false
open Go.RowKit

open Classical in
noncomputable def narrowest (s : ByteArray) : Int := if AllIn 1 s then 1 else if AllIn 3 s then 3 else if AllIn 2 s then 2 else 4

end Go.Proofs.Ythjklchmjeojjaa
