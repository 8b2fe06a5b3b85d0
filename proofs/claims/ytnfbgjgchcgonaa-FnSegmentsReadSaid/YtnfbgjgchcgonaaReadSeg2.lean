
/- How the program reads a segment. -/
import Derived.Test.YtnfbgjgchcgonaaReadSeg
import Derived.Test.YtnfbgjgchcgonaaBytes
import Derived.Test.YtnfbgjgchcgonaaSegMath3
namespace Go.Proofs.Ytnfbgjgchcgonaa
set_option linter.unusedVariables false
set_option linter.unusedSimpArgs false
open Go.RowKit

def chr (m v : Int) : UInt8 := if m = 4 then UInt8.ofNat v.toNat else (modeSet m).data.toList.getD v.toNat 0
/-- g divided j times by b. -/
def gq (g b : Int) : Nat → Int
  | 0 => g
  | j + 1 => gq g b j / b
theorem gq_bd {g b : Int} (hg : 0 ≤ g ∧ g ≤ 1099511627776) (hb : 1 ≤ b) : ∀ j, 0 ≤ gq g b j ∧ gq g b j ≤ 1099511627776 := by
  intro j
  induction j with
  | zero => exact hg
  | succ j ih =>
    have h1 : 0 ≤ gq g b j / b := Int.ediv_nonneg ih.1 (by omega)
    have h2 : gq g b j / b ≤ gq g b j := Int.ediv_le_self _ ih.1
    simp only [gq]
    omega
/-- The bytes of a group of n. -/
def dig (m g : Int) (n : Nat) : List UInt8 := (List.range n).map fun i => chr m (gq g (iBase m) (n - 1 - i) % iBase m)
theorem dig_len (m g : Int) (n : Nat) : (dig m g n).length = n := by simp [dig]
/-- The groups from the bit a on, for c bytes. -/
def rdG (m : Int) (xs : List Int) : Nat → Nat → Nat → Option (ByteArray × Nat)
  | 0, a, c => if c = 0 then some (ByteArray.empty, a) else none
  | f + 1, a, c => if c = 0 then some (ByteArray.empty, a) else
    if 0 < gq (numAt xs a (wid m (min (grp m).toNat c : Nat)).toNat) (iBase m) (min (grp m).toNat c) then none
    else (rdG m xs f (a + (wid m (min (grp m).toNat c : Nat)).toNat) (c - min (grp m).toNat c)).map fun r => (⟨(dig m (numAt xs a (wid m (min (grp m).toNat c : Nat)).toNat) (min (grp m).toNat c)).toArray⟩ ++ r.1, r.2)
theorem rdG_zero (m : Int) (xs : List Int) (f a : Nat) : rdG m xs f a 0 = some (ByteArray.empty, a) := by
  cases f <;> rfl
/-- A segment that is written from the bit a on. -/
def rdS (xs : List Int) (a : Nat) : Option (Int × ByteArray × Nat) :=
  if xs.length < a + 11 then none
  else if ¬ (1 ≤ numAt xs a 3 ∧ numAt xs a 3 ≤ 4) ∨ numAt xs (a + 3) 8 = 0 ∨ (xs.length : Int) < a + 11 + textW (numAt xs a 3) (numAt xs (a + 3) 8) then none
  else (rdG (numAt xs a 3) xs (numAt xs (a + 3) 8).toNat (a + 11) (numAt xs (a + 3) 8).toNat).map fun r => (numAt xs a 3, r.1, r.2)

theorem iBase_pos (m : Int) : 1 ≤ iBase m := by
  unfold iBase
  (repeat' split) <;> omega
theorem iBase_size {m : Int} (hm : 1 ≤ m ∧ m ≤ 3) : ((modeSet m).size : Int) = iBase m := by
  have : m = 1 ∨ m = 2 ∨ m = 3 := by omega
  rcases this with rfl | rfl | rfl <;> rfl
theorem lChar_c (m v : Int) (p : Option Addr) (n c : Nat) (w : World) (hm : 1 ≤ m ∧ m ≤ 3) (hv : 0 ≤ v ∧ v < iBase m) :
    Calls Try.prog 212 #[.agg #[.string (modeSet m), .slice p n c], .int .i64 v] w fun e w' => e = .returned (.int .u8 (chr m v).toNat) ∧ Ext w w' := by
  have hs := modeSet_size m
  have hz := iBase_size hm
  obtain ⟨k, rfl⟩ : ∃ k : Nat, v = k := ⟨v.toNat, by omega⟩
  have hk : k < (modeSet m).size := by omega
  have hc : chr m (k : Int) = (modeSet m)[k]'hk := by
    unfold chr
    rw [if_neg (by omega), Int.toNat_natCast, List.getD_eq_getElem?_getD, List.getElem?_eq_getElem (by simpa using hk)]
    exact bget _ k hk
  rw [hc]
  clear hc hz
  generalize modeSet m = S at *
  go_enter Try.func212, Try.ntmps212
  go_wp2
  go_ret
  exact ⟨rfl, (by repeat (first | exact Ext.refl _ | assumption | refine Ext.drew ?_ | refine Ext.drewN ?_ _ | refine Ext.iter ?_ _ _ | refine Ext.alloc ?_ _ | refine Ext.setCell ?_ (by first | exact Nat.le_refl _ | (simp <;> omega)) _ | refine Ext.trans2 (by assumption) ?_))⟩
theorem pChar_c (m v : Int) (w : World) (hm : m = 4) (hv : 0 ≤ v ∧ v < 256) :
    Calls Try.prog 217 #[.agg #[], .int .i64 v] w fun e w' => e = .returned (.int .u8 (chr m v).toNat) ∧ Ext w w' := by
  have hc : ((chr m v).toNat : Int) = v := by
    unfold chr
    rw [if_pos hm, UInt8.toNat_ofNat_of_lt' (show v.toNat < 256 by omega), Int.toNat_of_nonneg hv.1]
  rw [hc]
  clear hc hm
  go_enter Try.func217, Try.ntmps217
  go_wp2
  go_ret
  exact ⟨rfl, (by repeat (first | exact Ext.refl _ | assumption | refine Ext.drew ?_ | refine Ext.drewN ?_ _ | refine Ext.iter ?_ _ _ | refine Ext.alloc ?_ _ | refine Ext.setCell ?_ (by first | exact Nat.le_refl _ | (simp <;> omega)) _ | refine Ext.trans2 (by assumption) ?_))⟩

/-- The last j bytes of a group stand in the cells. -/
def PTab (m g : Int) (n : Nat) (cs : Array Value) (j : Nat) : Prop := cs.size = n ∧ ∀ q, q < n → n ≤ q + j → cs[q]? = some (.int .u8 (chr m (gq g (iBase m) (n - 1 - q) % iBase m)).toNat)
theorem PTab.step {m g : Int} {n : Nat} {cs : Array Value} {j : Nat} (h : PTab m g n cs j) (hj : j < n) : PTab m g n (cs.setIfInBounds (n - 1 - j) (.int .u8 (chr m (gq g (iBase m) j % iBase m)).toNat)) (j + 1) := by
  refine ⟨by simpa using h.1, fun q h1 h2 => ?_⟩
  by_cases e : q = n - 1 - j
  · subst e
    rw [Array.getElem?_setIfInBounds_self_of_lt (by rw [h.1]; omega), show n - 1 - (n - 1 - j) = j by omega]
  · rw [Array.getElem?_setIfInBounds_ne (by omega)]
    exact h.2 q h1 (by omega)
theorem PTab.all {m g : Int} {n : Nat} {cs : Array Value} (h : PTab m g n cs n) : cs.toList = Lib.strCells ⟨(dig m g n).toArray⟩ := by
  apply List.ext_getElem?
  intro q
  by_cases hq : q < n
  · have := h.2 q hq (by omega)
    rw [Array.getElem?_toList, this]
    simp [Lib.strCells, dig, hq]
  · rw [List.getElem?_eq_none (by rw [Array.length_toList, h.1]; omega), List.getElem?_eq_none (by simp [Lib.strCells, dig]; omega)]
end Go.Proofs.Ytnfbgjgchcgonaa
