
/- Drawn texts; names of modes. -/
import Derived.Test.YthjklchmjeojjaaDraw
import Derived.Test.YthjklchmjeojjaaCanon
import Derived.Test.YthjklchmjeojjaaInts
import Derived.Test.YthjklchmjeojjaaModes
import Derived.Test.YthjklchmjeojjaaStructs
/-! Drawn texts; names of modes. -/
namespace Go.Proofs.Ythjklchmjeojjaa
set_option linter.unusedVariables false
set_option linter.unusedSimpArgs false
open Go.RowKit

theorem RowB.but {g B : Nat} {a b : World} {v : Value} {s : ByteArray} (h : RowB B a v s) (k : But g a b) (hg : g < B) : RowB B b v s := by
  refine ⟨h.1, ?_⟩
  rcases h.2 with h2 | ⟨g', cap, cur, hv, hg', hh, r⟩
  · exact .inl h2
  · exact .inr ⟨g', cap, cur, hv, hg', by rw [k.block g' (Array.getElem?_eq_some_iff.1 hh).1 (by omega)]; exact hh, r⟩

/-- A text of at most most bytes has been drawn. -/
def TextR (n0 g : Nat) (most : Int) (w : World) (e : Ending) (w' : World) : Prop := ∃ t : ByteArray, e = .returned (.string t) ∧ (t.size : Int) ≤ most ∧ Src n0 w' g ∧ But g w w'
/-- Two numbers have been drawn: a mode and a byte, nearly. -/
def TwoR (w : World) (e : Ending) (w' : World) : Prop := ∃ a b : Int, e = .returned (.tuple #[.int .i64 a, .int .i64 b]) ∧ -1 ≤ a ∧ a ≤ 6 ∧ -1 ≤ b ∧ b ≤ 256 ∧ Ext w w'
/-- A short text has been drawn. -/
def ShortR (w : World) (e : Ending) (w' : World) : Prop := ∃ t : ByteArray, e = .returned (.string t) ∧ t.size ≤ 6 ∧ Ext w w'
def modeName (m : Int) : ByteArray := if m = 0 then ⟨#[101, 110, 100]⟩ else if m = 1 then ⟨#[100, 105, 103, 105, 116, 115]⟩ else if m = 2 then ⟨#[108, 101, 116, 116, 101, 114, 115]⟩ else if m = 3 then ⟨#[108, 111, 119, 101, 114]⟩ else if m = 4 then ⟨#[98, 121, 116, 101, 115]⟩ else if m = 5 then ⟨#[97, 112, 112, 101, 110, 100]⟩ else ⟨#[]⟩
theorem modeName_none (m : Int) (h : ¬ (0 ≤ m ∧ m ≤ 5)) : modeName m = ⟨#[]⟩ := by
  unfold modeName
  rw [if_neg (by omega), if_neg (by omega), if_neg (by omega), if_neg (by omega), if_neg (by omega), if_neg (by omega)]
end Go.Proofs.Ythjklchmjeojjaa

/-! A string of zero bytes. -/
namespace Go.Proofs.Ythjklchmjeojjaa
set_option linter.unusedVariables false
set_option linter.unusedSimpArgs false
open Go.RowKit

theorem zeroStr (g n : Nat) (w : World) (hb : Blk w g (madeCells #[.int .u8 0] n) 5) : (convert 22 9 (.slice (some ⟨g, 0, none⟩) n n)).run Try.prog w = .ok (.string ⟨(List.replicate n (0 : UInt8)).toArray⟩) w := by
  have := run_convert_bytes_back (P := Try.prog) w 22 9 5 ⟨g, 0, none⟩ n (List.replicate n 0) (by kernel_rfl) (by kernel_rfl) (by kernel_rfl) (fun j hj => by
    have hj2 : j < n := by simpa using hj
    rw [addr_add, Nat.zero_add]
    refine hb.cell ?_
    rw [made_get hj2]
    simp [Nat.mod_one])
  simpa using this
end Go.Proofs.Ythjklchmjeojjaa
