/- Whole numbers in decimal: plain laws, the table of powers of ten, the reference's numeral. -/
import Derived.Test.YthpnkcamjcohgaaDoorLPartsK03
import Derived.Lib.ItoaMem
import Derived.Lib.ItoaLen
import Derived.Lib.AppendIntMem
import Derived.Test.YthpnkcamjcohgaaDoorLPartsK32
import Derived.Lib.LaidTab
import Derived.LaidSub
import Derived.MakeChecks
namespace Go.Proofs.YthpnkcamjcohgaaDoor
set_option linter.unusedVariables false
set_option linter.unusedSimpArgs false
open Go.RowKit

/-- The numeral of n. -/
def dec (n : Int) : ByteArray := ⟨(Lib.itoa n).toArray⟩
theorem dec_small (n : Nat) (h : n < 10) : dec n = ByteArray.mk #[UInt8.ofNat (48 + n)] := by
  unfold dec
  rw [Lib.itoa_nonneg, Lib.decDigits, dif_pos h]
/-- The table of powers of ten lies as the program's text lays it. -/
def Tab10 (w : World) : Prop := Lib.TabIs Tryd.prog w "internal/strconv.uint64pow10" .u64 Lib.pow10Tab
theorem Tab10.ext {w w' : World} (h : Tab10 w) (hb : Ext w w') : Tab10 w' := by
  unfold Tab10 Lib.TabIs World.var? at *
  cases hg : Tryd.prog.globalNamed "internal/strconv.uint64pow10" with
  | none => simp [hg] at h
  | some g =>
    simp only [hg, Option.bind_some] at h ⊢
    have hlt : g < w.heap.size := by
      rcases Nat.lt_or_ge g w.heap.size with h' | h'
      · exact h'
      · rw [Array.getElem?_eq_none h'] at h; simp at h
    rw [hb.below.block g hlt]
    exact h
theorem RowB.one {B : Nat} {w : World} (hB : B ≤ w.heap.size) (b : UInt8) : RowB B (w.alloc (.cells #[.int .u8 b.toNat] 5)) (.slice (some ⟨w.heap.size, 0, none⟩) 1 1) (ByteArray.mk #[b]) :=
  ⟨by simp [Lib.strCells, ByteArray.size], .inr ⟨_, 1, #[.int .u8 b.toNat], rfl, hB, (MapKept.heap_alloc w _).1, Nat.le_refl _, by unfold maxLen; omega, by simp, by simp [Lib.strCells, ByteArray.size]⟩⟩
end Go.Proofs.YthpnkcamjcohgaaDoor
/- Numerals by the library's functions: its contracts in this seat's words. -/
namespace Go.Proofs.YthpnkcamjcohgaaDoor
set_option linter.unusedVariables false
set_option linter.unusedSimpArgs false
open Go.RowKit

end Go.Proofs.YthpnkcamjcohgaaDoor
