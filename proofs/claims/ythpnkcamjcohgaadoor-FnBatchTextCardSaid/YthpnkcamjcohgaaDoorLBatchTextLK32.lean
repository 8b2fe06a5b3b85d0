/- Lists of whole numbers in decimal, as the program writes them. -/
import Derived.Test.YthpnkcamjcohgaaDoorLBatchTextLK31
import Derived.Test.YthpnkcamjcohgaaDoorLBatchTextLK27
import Derived.Deep.DeepCutAuto
namespace Go.Proofs.YthpnkcamjcohgaaDoor
set_option linter.unusedVariables false
set_option linter.unusedSimpArgs false
open Go.RowKit

theorem Tab10.low {W w : World} (h : Tab10 W) (hx : Ext W w) : Lib.TabBelow Tryd.prog W.heap.size w "internal/strconv.uint64pow10" .u64 Lib.pow10Tab := fun w' hb => h.ext (hx.trans3 hb)
/-- The text of the first k numbers. -/
def decT (xs : List Int) : Nat → ByteArray
  | 0 => ByteArray.empty
  | k + 1 => (if k = 0 then ByteArray.empty else decT xs k ++ spB) ++ dec (xs.getD k 0)
def i64s (xs : List Int) : Prop := ∀ k, k < xs.length → -9223372036854775808 ≤ xs.getD k 0 ∧ xs.getD k 0 ≤ 9223372036854775807
theorem decT_size {xs : List Int} (h : i64s xs) : ∀ k, k ≤ xs.length → (decT xs k).size ≤ 22 * k := by
  intro k
  induction k with
  | zero => intro _; simp [decT]
  | succ k ih =>
    intro hk
    have h1 := ih (by omega)
    have h2 := h k (by omega)
    have h3 := dec_le (xs.getD k 0) h2.1 h2.2
    unfold decT
    by_cases h0 : k = 0
    · rw [if_pos h0, ByteArray.size_append]
      have : ByteArray.empty.size = 0 := rfl
      omega
    · rw [if_neg h0, ByteArray.size_append, ByteArray.size_append]
      have : spB.size = 1 := rfl
      omega
theorem RowB.numeral {B : Nat} {w : World} {v : Value} {s : ByteArray} {i : Int} (h : w.ownsRow B 5 1 v (s.size + (Lib.itoa i).length) (Lib.strCells s ++ Lib.byteCells (Lib.itoa i))) : RowB B w v (s ++ dec i) := by
  unfold RowB
  rw [strCells_append, ByteArray.size_append, dec_size]
  exact h
theorem push_sp (s : ByteArray) : s.push 32 = s ++ spB := by
  apply ByteArray.ext
  simp [spB, ByteArray.push]
set_option maxHeartbeats 800000 in
set_option maxRecDepth 100000 in
theorem decimals_c (p : Option Addr) (c : Nat) (xs : List Int) (w : World) (hx : IntsAt w p xs) (hl : xs.length ≤ 1000000) (hi : i64s xs) (hT : Tab10 w) :
    Calls Tryd.prog 43 #[.slice p xs.length c] w fun e w' => e = .returned (.string (decT xs xs.length)) ∧ Ext w w' := by
  have HX := Lib.hid hx; have HI := Lib.hid hi; have hds := Lib.hid (decT_size hi)
  clear hx hi
  have hI1 : Tryd.prog.underlying 29 = some (.slice 5) := by kernel_rfl
  go_enter Tryd.func43, Tryd.ntmps43
  go_wp2_with fail
  go_loopw [3, 9] (fun o i wr => ∃ k : Nat, k ≤ xs.length ∧ i = .int .i64 k ∧ RowB w.heap.size wr o (decT xs k) ∧ Ext w wr) (fun _ i _ => xs.length - (intOf i).toNat)
  case atStart => exact ⟨0, Nat.zero_le _, rfl, RowB.made (Nat.le_refl _), (by repeat (first | exact Ext.refl _ | assumption | refine Ext.drew ?_ | refine Ext.drewN ?_ _ | refine Ext.iter ?_ _ _ | refine Ext.alloc ?_ _ | refine Ext.setCell ?_ (by first | exact Nat.le_refl _ | (simp <;> omega)) _ | refine Ext.trans2 (by assumption) ?_))⟩
  case round =>
    obtain ⟨k, hk, rfl, hrow, hext⟩ := hrel
    by_cases hlt : k < xs.length
    · obtain ⟨b, o, rfl, hbl, y1⟩ := (HX.out.ext hext) k hlt
      have hki := HI.out k hlt
      have hz := hds.out k hk
      have hB := hext.below.size
      have hdt : decT xs (k + 1) = (if k = 0 then ByteArray.empty else decT xs k ++ spB) ++ dec (xs.getD k 0) := rfl
      generalize xs.getD k 0 = x at *
      by_cases h0 : k = 0
      · subst h0
        rw [if_pos rfl] at hdt
        have hd0 : decT xs 0 = ByteArray.empty := rfl
        rw [hd0] at hrow
        rw [Nat.add_zero] at y1
        have hown := hrow
        unfold RowB at hown
        replace hdt := Lib.hid hdt; replace hd0 := Lib.hid hd0
        go_wp2_with (go_at_call 87; (with_reducible refine (Tryd.strconv_AppendInt_10 w.heap.size _ x hki.1 hki.2 _ _ _ hown hB (by decide) (hT.low hext)).mono ?_); rintro e w4 ⟨v4, rfl, hown4, hb4, -⟩; have hrow4 := RowB.numeral hown4)
        go_roundw
        case rel => exact ⟨0 + 1, hlt, by go_num, by rw [hdt.out]; exact hrow4, hext.trans3 hb4⟩
        case measure => simp [intOf]; omega
      · rw [if_neg h0, ← push_sp] at hdt
        have h1 : (0 : Int) < k := by omega
        replace hdt := Lib.hid hdt
        generalize decT xs k = s at *
        have hps : (s.push 32).size = s.size + 1 := by simp
        go_upto_region 7 with (at_builtin; go_loud (refine append1B (n := 32) hrow (by omega) hB rfl ?_ rfl rfl); intro v3 w3 hrow3 hb3)
        have hx3 := hext.trans3 hb3
        have hB3 := hx3.below.size
        have hown3 : w3.ownsRow w.heap.size 5 1 v3 (s.push 32).size (Lib.strCells (s.push 32)) := hrow3
        go_wp2_with (go_at_call 87; (with_reducible refine (Tryd.strconv_AppendInt_10 w.heap.size _ x hki.1 hki.2 _ _ _ hown3 hB3 (by omega) (hT.low hx3)).mono ?_); rintro e w4 ⟨v4, rfl, hown4, hb4, -⟩; have hrow4 := RowB.numeral hown4)
        go_roundw
        case rel => exact ⟨k + 1, hlt, by go_num, by rw [hdt.out]; exact hrow4, hx3.trans3 hb4⟩
        case measure => simp [intOf]; omega
    · obtain rfl : k = xs.length := by omega
      have hcv := hrow.conv
      go_wp2
      go_ret
      exact ⟨rfl, hext⟩
end Go.Proofs.YthpnkcamjcohgaaDoor
