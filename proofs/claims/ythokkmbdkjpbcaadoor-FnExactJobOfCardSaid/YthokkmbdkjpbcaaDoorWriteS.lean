
/- WriteSegment. -/
import Derived.Test.YthokkmbdkjpbcaaDoorWriteI
import Derived.Test.YthokkmbdkjpbcaaDoorSegs
namespace Go.Proofs.YthokkmbdkjpbcaaDoor
set_option linter.unusedVariables false
set_option linter.unusedSimpArgs false
open Go.RowKit

def intF (x : Int) : List Value := [.int .i64 x]
theorem intF_len (x : Int) : (intF x).length = 1 := rfl
theorem SOwn.ints {B : Nat} {w : World} {p : Option Addr} {xs : List Int} (h : SOwn intF 1 B w p xs) : OwnInts B w p xs := fun i hi => by
  obtain ⟨b, o, h1, hB, h2, h3, h4⟩ := h i hi
  refine ⟨b, o, h1, hB, h2, ?_, h4 _⟩
  have := h3 0 (.int .i64 (xs[i]'hi)) rfl
  rw [Nat.mul_one, Nat.add_zero] at this
  rw [this, List.getD_eq_getElem?_getD, List.getElem?_eq_getElem hi]
  rfl
theorem toInt64S_c (p : Option Addr) (c : Nat) (xs : List Int) (w : World) (hx : IntsAt w p xs) (hl : xs.length ≤ 1048576) :
    Calls Tryd.prog 57 #[.slice p xs.length c] w fun e w' => (∃ q, e = .returned (.slice q xs.length xs.length) ∧ OwnInts w.heap.size w' q xs) ∧ Ext w w' := by
  have hI1 : Tryd.prog.underlying 22 = some (.slice 2) := by kernel_rfl
  have hI2 := infoInt
  go_enter Tryd.func57, Tryd.ntmps57
  go_wp2_with (first | (at_make; go_loud (refine make_blk hI1 hI2 xs.length ?_ ?_ (by omega) (by omega) ?_; rfl; rfl)))
  have hb := Blk.new w (madeCells #[.int .i64 0] xs.length) 2
  clear hI1 hI2
  go_loopw [4] (fun i wr => ∃ (k : Nat) (cs : Array Value), k ≤ xs.length ∧ i = .int .i64 k ∧ Blk wr w.heap.size cs 2 ∧ Hid (TabS intF 1 xs cs k) ∧ Ext w wr) (fun i _ => xs.length - (intOf i).toNat)
  case atStart => exact ⟨0, _, Nat.zero_le _, rfl, hb, Lib.hid ⟨(size_madeCells _ _).trans (Nat.mul_one _).symm, fun j _ h => by omega⟩, (by repeat (first | exact Ext.refl _ | assumption | refine Ext.drew ?_ | refine Ext.drewN ?_ _ | refine Ext.iter ?_ _ _ | refine Ext.alloc ?_ _ | refine Ext.setCell ?_ (by first | exact Nat.le_refl _ | (simp <;> omega)) _ | refine Ext.trans2 (by assumption) ?_))⟩
  case round =>
    clear hb
    obtain ⟨k, cs, hk, rfl, hb, hT, hext⟩ := hrel
    by_cases hlt : k < xs.length
    · obtain ⟨b, o, rfl, hbl, h0⟩ := (hx.ext hext) k hlt
      have hT2 := Lib.hid (hT.out.step intF_len hlt)
      have hn := hT.out.1
      clear hx
      obtain ⟨z0, z0'⟩ : ∃ v, cs[k]? = some v := ⟨_, Array.getElem?_eq_getElem (by omega)⟩
      have q0 := hb.cell z0'
      have q2 := hb.lt
      have q3 := hb.free
      go_wp2
      go_roundw
      case rel =>
        refine ⟨k + 1, _, hlt, by go_num, hb.set _ _, ?_, hext.setCell (Nat.le_refl _) _⟩
        have := hT2.out
        simp only [intF, putL, Nat.mul_one] at this
        exact Lib.hid this
      case measure => simp [intOf]; omega
    · clear hx
      obtain rfl : k = xs.length := by omega
      go_wp2
      go_ret
      exact ⟨⟨_, rfl, (hT.out.own intF_len hb (Nat.le_refl _)).ints⟩, hext⟩

open Classical in
noncomputable def wsCode (xs : List Int) (m : Int) (t : ByteArray) : Int := if ¬ isBits xs then 1 else if ¬ IsSeg m t then 2 else if 8192 < (xs.length : Int) + segLen m t then 3 else 0
open Classical in
noncomputable def wsList (xs : List Int) (m : Int) (t : ByteArray) : List Int := if wsCode xs m t = 0 then xs ++ segBits m t else []
/-- A list and a code given back; the list is of its own. -/
def LC (B : Nat) (L : List Int) (code : Int) (e : Ending) (w' : World) : Prop := ∃ p c, e = .returned (.tuple #[.slice p L.length c, .int .i64 code]) ∧ OwnInts B w' p L ∧ L.length ≤ c
theorem LC.of {B : Nat} {L : List Int} {code : Int} {w : World} {v : Value} (h : RowI B w v L) : LC B L code (.returned (.tuple #[v, .int .i64 code])) w := by
  obtain ⟨p, c, rfl, ho, hc⟩ := h.ownC
  exact ⟨p, c, rfl, ho, hc⟩
theorem LC.nil {B : Nat} {code : Int} {w : World} : LC B [] code (.returned (.tuple #[.slice none 0 0, .int .i64 code])) w := ⟨none, 0, rfl, OwnInts.nil _ _ _, Nat.le_refl _⟩

theorem rB_len (m : Int) (t : ByteArray) : ∀ f a, (rB m t f a).length ≤ 11 * f := by
  intro f
  induction f with
  | zero => intro a; simp [rB]
  | succ f ih =>
    intro a
    have := ih (a + (grp m).toNat)
    have hw := wid_bd m (gN m t a)
    rw [rB]
    split
    · simp
    · rw [List.length_append, bitsOf_len]
      omega
theorem wsList_len (xs : List Int) (m : Int) (t : ByteArray) (hl : xs.length ≤ 1048576) (ht : t.size ≤ 1048576) : (wsList xs m t).length ≤ 50000000 := by
  unfold wsList
  split
  · have := rB_len m t t.size 0
    simp only [segBits, List.length_append, bitsOf_len]
    omega
  · simp
end Go.Proofs.YthokkmbdkjpbcaaDoor
