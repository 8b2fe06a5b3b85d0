/- Contracts of chapter 9: modes, segments. -/
import Derived.Test.YthpnkcamjcohgaaDoorLBatchTextLK00
import Derived.Test.YthpnkcamjcohgaaDoorLBatchTextLK01
/-! Contracts of chapter 9: modes, segments. -/
namespace Go.Proofs.YthpnkcamjcohgaaDoor
set_option linter.unusedVariables false
set_option linter.unusedSimpArgs false
open Go.RowKit

def idxB (s : ByteArray) (b : Int) : Int := match s.data.toList.findIdx? (fun c => (c.toNat : Int) == b) with | some i => i | none => -1
def digitsB : ByteArray := ⟨#[48, 49, 50, 51, 52, 53, 54, 55, 56, 57]⟩
def lettersB : ByteArray := ⟨#[48, 49, 50, 51, 52, 53, 54, 55, 56, 57, 65, 66, 67, 68, 69, 70, 71, 72, 73, 74, 75, 76, 77, 78, 79, 80, 81, 82, 83, 84, 85, 86, 87, 88, 89, 90, 32, 33, 35, 38, 40, 41, 43, 45, 47]⟩
def lowerB : ByteArray := ⟨#[97, 98, 99, 100, 101, 102, 103, 104, 105, 106, 107, 108, 109, 110, 111, 112, 113, 114, 115, 116, 117, 118, 119, 120, 121, 122, 32, 10, 44, 46, 39, 63]⟩
def modeSet (m : Int) : ByteArray := if m = 1 then digitsB else if m = 2 then lettersB else if m = 3 then lowerB else ByteArray.empty
def charVal (m b : Int) : Int := if ¬ (1 ≤ m ∧ m ≤ 4) ∨ ¬ (0 ≤ b ∧ b ≤ 255) then -1 else if m = 4 then b else idxB (modeSet m) b

def modeWidths (m : Int) : List Int := if m = 1 then [4, 7, 10] else if m = 2 then [6, 11] else if m = 3 then [5] else []
/-- v is the mode of the number m; with another number it is the plain one. -/
def ModeV (w : World) (m : Int) (v : Value) : Prop :=
  ((1 ≤ m ∧ m ≤ 3) ∧ ∃ p n, v = .iface 239 (.agg #[.string (modeSet m), .slice p n n]) ∧ n = (modeWidths m).length ∧ IntsAt w p (modeWidths m)) ∨
  (¬ (1 ≤ m ∧ m ≤ 3) ∧ v = .iface 241 (.agg #[]))
theorem ModeV.ext {w w' : World} {m : Int} {v : Value} (h : ModeV w m v) (hb : Ext w w') : ModeV w' m v := by
  rcases h with ⟨h, p, n, h1, h2, h3⟩ | h
  · exact .inl ⟨h, p, n, h1, h2, h3.ext hb⟩
  · exact .inr h

def AllIn (m : Int) (s : ByteArray) : Prop := ∀ j (h : j < s.size), 0 ≤ charVal m (s[j]'h).toNat
end Go.Proofs.YthpnkcamjcohgaaDoor

/-! Contracts of chapter 9, second part: widths, whole segments. -/
namespace Go.Proofs.YthpnkcamjcohgaaDoor
set_option linter.unusedVariables false
set_option linter.unusedSimpArgs false
open Go.RowKit

def textW (m n : Int) : Int :=
  if m = 1 then n / 3 * 10 + (if n % 3 = 0 then 0 else if n % 3 = 1 then 4 else 7) else if m = 2 then n / 2 * 11 + (if n % 2 = 0 then 0 else 6) else if m = 3 then n * 5 else n * 8

theorem textW_bd (m n : Int) (hn : 0 ≤ n ∧ n ≤ 1000000) : 0 ≤ textW m n ∧ textW m n ≤ n * 8 := by
  unfold textW
  (repeat' split) <;> omega

abbrev vSeg (m : Int) (s : ByteArray) : Value := .agg #[.int .i64 m, .string s]
def grp (m : Int) : Int := if m = 1 then 3 else if m = 2 then 2 else 1
end Go.Proofs.YthpnkcamjcohgaaDoor

/-! Contracts of chapter 9, third part: the narrowest mode; how the laws hand segments on. -/
namespace Go.Proofs.YthpnkcamjcohgaaDoor
set_option linter.unusedVariables false
set_option linter.unusedSimpArgs false
open Go.RowKit

open Classical in
noncomputable def narrowest (s : ByteArray) : Int := if AllIn 1 s then 1 else if AllIn 3 s then 3 else if AllIn 2 s then 2 else 4

end Go.Proofs.YthpnkcamjcohgaaDoor
