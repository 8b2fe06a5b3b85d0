/- Whole numbers in decimal: plain laws, the table of powers of ten, the reference's numeral. -/
import Derived.Test.YthpnkcamjcohgaaDoorLBatchTextLK03
import Derived.Lib.ItoaMem
import Derived.Lib.ItoaLen
import Derived.Lib.AppendIntMem
namespace Go.Proofs.YthpnkcamjcohgaaDoor
set_option linter.unusedVariables false
set_option linter.unusedSimpArgs false
open Go.RowKit

/-- The numeral of n. -/
def dec (n : Int) : ByteArray := ⟨(Lib.itoa n).toArray⟩
theorem dec_size (n : Int) : (dec n).size = (Lib.itoa n).length := by simp [dec, ByteArray.size]
theorem dec_le (n : Int) (h0 : -9223372036854775808 ≤ n) (h1 : n ≤ 9223372036854775807) : (dec n).size ≤ 21 := by rw [dec_size]; exact Lib.itoa_length_le n h0 h1
theorem dec_small (n : Nat) (h : n < 10) : dec n = ByteArray.mk #[UInt8.ofNat (48 + n)] := by
  unfold dec
  rw [Lib.itoa_nonneg, Lib.decDigits, dif_pos h]
theorem dec_big (n : Nat) (h : ¬ n < 10) : dec n = dec ((n / 10 : Nat) : Int) ++ ByteArray.mk #[UInt8.ofNat (48 + n % 10)] := by
  unfold dec
  rw [Lib.itoa_nonneg, Lib.itoa_nonneg, Lib.decDigits, dif_neg h]
  apply ByteArray.ext
  simp
/-- The table of powers of ten lies as the program's text lays it. -/
def Tab10 (w : World) : Prop := Lib.TabIs Tryd.prog w "internal/strconv.uint64pow10" .u64 Lib.pow10Tab
theorem Tab10.ext {w w' : World} (h : Tab10 w) (hb : Ext w w') : Tab10 w' := by
  unfold Tab10 Lib.TabIs World.var? at *
  cases hg : Tryd.prog.globalNamed "internal/strconv.uint64pow10" with
  | none => simp [hg] at h
  | some g =>
    simp only [hg, Option.bind_some] at h ⊢
    have hlt : g < w.heap.size := by
      rcases Nat.lt_or_ge g w.heap.size with h' | h'
      · exact h'
      · rw [Array.getElem?_eq_none h'] at h; simp at h
    rw [hb.below.block g hlt]
    exact h
theorem RowB.one {B : Nat} {w : World} (hB : B ≤ w.heap.size) (b : UInt8) : RowB B (w.alloc (.cells #[.int .u8 b.toNat] 5)) (.slice (some ⟨w.heap.size, 0, none⟩) 1 1) (ByteArray.mk #[b]) :=
  ⟨by simp [Lib.strCells, ByteArray.size], .inr ⟨_, 1, #[.int .u8 b.toNat], rfl, hB, (MapKept.heap_alloc w _).1, Nat.le_refl _, by unfold maxLen; omega, by simp, by simp [Lib.strCells, ByteArray.size]⟩⟩
end Go.Proofs.YthpnkcamjcohgaaDoor
