/- Lists of whole numbers in decimal, as the program writes them. -/
import Derived.Test.YthpnkcamjcohgaaGreatDoorLJobsReadK16
import Derived.Test.YthpnkcamjcohgaaGreatDoorLJobsReadK21
import Derived.Deep.DeepCutAuto
import Derived.Shelf.Strings.Builder1
import Derived.Shelf.Bits.Mul64
import Derived.Test.YthpnkcamjcohgaaGreatDoorProg
namespace Go.Proofs.YthpnkcamjcohgaaGreatDoor
set_option linter.unusedVariables false
set_option linter.unusedSimpArgs false
open Go.RowKit

theorem Tab10.low {W w : World} (h : Tab10 W) (hx : Ext W w) : Lib.TabBelow Tryz.prog W.heap.size w "internal/strconv.uint64pow10" .u64 Lib.pow10Tab := fun w' hb => h.ext (hx.trans3 hb)
/-- The text of the first k numbers. -/
def decT (xs : List Int) : Nat → ByteArray
  | 0 => ByteArray.empty
  | k + 1 => (if k = 0 then ByteArray.empty else decT xs k ++ spB) ++ dec (xs.getD k 0)
def i64s (xs : List Int) : Prop := ∀ k, k < xs.length → -9223372036854775808 ≤ xs.getD k 0 ∧ xs.getD k 0 ≤ 9223372036854775807
theorem decT_size {xs : List Int} (h : i64s xs) : ∀ k, k ≤ xs.length → (decT xs k).size ≤ 22 * k := by
  intro k
  induction k with
  | zero => intro _; simp [decT]
  | succ k ih =>
    intro hk
    have h1 := ih (by omega)
    have h2 := h k (by omega)
    have h3 := dec_le (xs.getD k 0) h2.1 h2.2
    unfold decT
    by_cases h0 : k = 0
    · rw [if_pos h0, ByteArray.size_append]
      have : ByteArray.empty.size = 0 := rfl
      omega
    · rw [if_neg h0, ByteArray.size_append, ByteArray.size_append]
      have : spB.size = 1 := rfl
      omega
theorem RowB.numeral {B : Nat} {w : World} {v : Value} {s : ByteArray} {i : Int} (h : w.ownsRow B 5 1 v (s.size + (Lib.itoa i).length) (Lib.strCells s ++ Lib.byteCells (Lib.itoa i))) : RowB B w v (s ++ dec i) := by
  unfold RowB
  rw [strCells_append, ByteArray.size_append, dec_size]
  exact h
theorem push_sp (s : ByteArray) : s.push 32 = s ++ spB := by
  apply ByteArray.ext
  simp [spB, ByteArray.push]
set_option maxHeartbeats 800000 in
set_option maxRecDepth 100000 in
theorem decimals_c (p : Option Addr) (c : Nat) (xs : List Int) (w : World) (hx : IntsAt w p xs) (hl : xs.length ≤ 1000000) (hi : i64s xs) (hT : Tab10 w) :
    Calls Tryz.prog 44 #[.slice p xs.length c] w fun e w' => e = .returned (.string (decT xs xs.length)) ∧ Ext w w' := by
  have HX := Lib.hid hx; have HI := Lib.hid hi; have hds := Lib.hid (decT_size hi)
  clear hx hi
  have hI1 : Tryz.prog.underlying 22 = some (.slice 5) := by kernel_rfl
  go_enter Tryz.func44, Tryz.ntmps44
  go_wp2_with fail
  go_loopw [3, 9] (fun o i wr => ∃ k : Nat, k ≤ xs.length ∧ i = .int .i64 k ∧ RowB w.heap.size wr o (decT xs k) ∧ Ext w wr) (fun _ i _ => xs.length - (intOf i).toNat)
  case atStart => exact ⟨0, Nat.zero_le _, rfl, RowB.made (Nat.le_refl _), (by repeat (first | exact Ext.refl _ | assumption | refine Ext.drew ?_ | refine Ext.drewN ?_ _ | refine Ext.iter ?_ _ _ | refine Ext.alloc ?_ _ | refine Ext.setCell ?_ (by first | exact Nat.le_refl _ | (simp <;> omega)) _ | refine Ext.trans2 (by assumption) ?_))⟩
  case round =>
    obtain ⟨k, hk, rfl, hrow, hext⟩ := hrel
    by_cases hlt : k < xs.length
    · obtain ⟨b, o, rfl, hbl, y1⟩ := (HX.out.ext hext) k hlt
      have hki := HI.out k hlt
      have hz := hds.out k hk
      have hB := hext.below.size
      have hdt : decT xs (k + 1) = (if k = 0 then ByteArray.empty else decT xs k ++ spB) ++ dec (xs.getD k 0) := rfl
      generalize xs.getD k 0 = x at *
      by_cases h0 : k = 0
      · subst h0
        rw [if_pos rfl] at hdt
        have hd0 : decT xs 0 = ByteArray.empty := rfl
        rw [hd0] at hrow
        rw [Nat.add_zero] at y1
        have hown := hrow
        unfold RowB at hown
        replace hdt := Lib.hid hdt; replace hd0 := Lib.hid hd0
        go_wp2_with (go_at_call 61; (with_reducible refine (Tryz.strconv_AppendInt_10 w.heap.size _ x hki.1 hki.2 _ _ _ hown hB (by decide) (hT.low hext)).mono ?_); rintro e w4 ⟨v4, rfl, hown4, hb4, -⟩; have hrow4 := RowB.numeral hown4)
        go_roundw
        case rel => exact ⟨0 + 1, hlt, by go_num, by rw [hdt.out]; exact hrow4, hext.trans3 hb4⟩
        case measure => simp [intOf]; omega
      · rw [if_neg h0, ← push_sp] at hdt
        have h1 : (0 : Int) < k := by omega
        replace hdt := Lib.hid hdt
        generalize decT xs k = s at *
        have hps : (s.push 32).size = s.size + 1 := by simp
        go_upto_region 7 with (at_builtin; go_loud (refine append1B (n := 32) hrow (by omega) hB rfl ?_ rfl rfl); intro v3 w3 hrow3 hb3)
        have hx3 := hext.trans3 hb3
        have hB3 := hx3.below.size
        have hown3 : w3.ownsRow w.heap.size 5 1 v3 (s.push 32).size (Lib.strCells (s.push 32)) := hrow3
        go_wp2_with (go_at_call 61; (with_reducible refine (Tryz.strconv_AppendInt_10 w.heap.size _ x hki.1 hki.2 _ _ _ hown3 hB3 (by omega) (hT.low hx3)).mono ?_); rintro e w4 ⟨v4, rfl, hown4, hb4, -⟩; have hrow4 := RowB.numeral hown4)
        go_roundw
        case rel => exact ⟨k + 1, hlt, by go_num, by rw [hdt.out]; exact hrow4, hx3.trans3 hb4⟩
        case measure => simp [intOf]; omega
    · obtain rfl : k = xs.length := by omega
      have hcv := hrow.conv
      go_wp2
      go_ret
      exact ⟨rfl, hext⟩
end Go.Proofs.YthpnkcamjcohgaaGreatDoor
/-
  DERIVED: THE SHELF's CONTRACTS AT THIS DUMP, IN PLAIN WORDS (tools/lay-plain.mjs out of 'TryzShelf.lean', which tools/lay-shelf.mjs wrote): THE SAME DECLARATIONS UNDER THE SAME NAMES: 'import', 'namespace', 'open', 'def', 'theorem' AND NOTHING ELSE: no command of the shelf's: FOR A HAND-IN. Each laying: the table of numbers ('.._ren') and one theorem, a field a fact of the dump's own or the kernel's comparison; each contract: ONE APPLICATION.
-/
namespace Go.Proofs
open Go.Shelf
def Tryz.lays169_ren : Go.Shelf.Ren := ⟨fun | 169 => 49 | n => n, fun | 70 => 71 | 9 => 9 | 0 => 0 | 72 => 73 | 37 => 22 | 127 => 101 | 3 => 3 | 5 => 5 | n => n, fun | n => n⟩
theorem Tryz.lays169 : Go.Proofs.Lays.n169 Tryz.prog Tryz.lays169_ren := {
  mixed := by kernel_rfl
  f169 := Tryz.func49.trans (congrArg some (by kernel_rfl))
  t0 := Tryz.underlying0
  a0 := Tryz.isAgg0
  z0 := Tryz.sizeOf0
  v0 := Tryz.zeroValue0
  t3 := Tryz.underlying3
  a3 := Tryz.isAgg3
  z3 := Tryz.sizeOf3
  v3 := Tryz.zeroValue3
  t9 := Tryz.underlying9
  a9 := Tryz.isAgg9
  z9 := Tryz.sizeOf9
  v9 := Tryz.zeroValue9
  t37 := Tryz.underlying22
  a37 := Tryz.isAgg22
  z37 := Tryz.sizeOf22
  v37 := Tryz.zeroValue22
  t70 := Tryz.underlying71
  a70 := Tryz.isAgg71
  z70 := Tryz.sizeOf71
  v70 := Tryz.zeroValue71
  t72 := Tryz.underlying73
  a72 := Tryz.isAgg73
  z72 := Tryz.sizeOf73
  v72 := Tryz.zeroValue73
  t127 := Tryz.underlying101
  a127 := Tryz.isAgg101
  z127 := Tryz.sizeOf101
  v127 := Tryz.zeroValue101 }
theorem Tryz.Builder_Extra_169 : Builder.Extra Tryz.prog Tryz.lays169_ren := {
  sizeBuilder := by kernel_rfl
  liesBuilder := by kernel_rfl
  t5 := Tryz.underlying5
  a5 := Tryz.isAgg5
  z5 := Tryz.sizeOf5
  v5 := Tryz.zeroValue5
  infoByte := by kernel_rfl
  cellsByte := by kernel_rfl
  sizeByte := by kernel_rfl
  neB5 := by decide }
open Go.RowKit in
/-- (*strings.Builder).String: "String returns the accumulated string.": WHATEVER THE BUILDER HOLDS. (LAID: no walk: one application.) -/
theorem Tryz.Builder_String_any (B b : Nat) (l : List UInt8) (w : World) (h : Lib.IsBuilder 73 5 B b (Lib.byteCells l) w) (hBw : B ≤ w.heap.size) :
    Calls Tryz.prog 49 #[.pointer (some ⟨b, 0, none⟩)] w fun e w' => e = .returned (.string ⟨l.toArray⟩) ∧ Below B w w' := Any.Builder_String_any Tryz.lays169 Tryz.Builder_Extra_169 B b l w h hBw
def Tryz.lays212_ren : Go.Shelf.Ren := ⟨fun | 212 => 53 | 263 => 71 | 264 => 72 | n => n, fun | 46 => 89 | 51 => 105 | 146 => 106 | 53 => 108 | 148 => 109 | n => n, fun | n => n⟩
theorem Tryz.lays212 : Go.Proofs.Lays.n212 Tryz.prog Tryz.lays212_ren := {
  mixed := by kernel_rfl
  f212 := Tryz.func53.trans (congrArg some (by kernel_rfl))
  f263 := Tryz.func71.trans (congrArg some (by kernel_rfl))
  f264 := Tryz.func72.trans (congrArg some (by kernel_rfl))
  t46 := Tryz.underlying89
  a46 := Tryz.isAgg89
  z46 := Tryz.sizeOf89
  v46 := Tryz.zeroValue89
  t51 := Tryz.underlying105
  a51 := Tryz.isAgg105
  z51 := Tryz.sizeOf105
  v51 := Tryz.zeroValue105
  t53 := Tryz.underlying108
  a53 := Tryz.isAgg108
  z53 := Tryz.sizeOf108
  v53 := Tryz.zeroValue108
  t146 := Tryz.underlying106
  a146 := Tryz.isAgg106
  z146 := Tryz.sizeOf106
  v146 := Tryz.zeroValue106
  t148 := Tryz.underlying109
  a148 := Tryz.isAgg109
  z148 := Tryz.sizeOf109
  v148 := Tryz.zeroValue109 }
open Go.RowKit Go.Lib in
/-- math/bits.Mul: "Mul returns the full-width product of x and y": on a machine of 64 bits: Mul64's. (LAID: no walk: one application.) -/
theorem Tryz.bits_Mul (x y : Nat) (hx : x < 18446744073709551616) (hy : y < 18446744073709551616) (w : World) :
    Calls Tryz.prog 53 #[.int .u64 x, .int .u64 y] w fun e w' => e = .returned (.tuple #[.int .u64 ((x * y / 18446744073709551616 : Nat) : Int), .int .u64 ((x * y % 18446744073709551616 : Nat) : Int)]) ∧ w' = w := Any.bits_Mul Tryz.lays212 x y hx hy w
end Go.Proofs
