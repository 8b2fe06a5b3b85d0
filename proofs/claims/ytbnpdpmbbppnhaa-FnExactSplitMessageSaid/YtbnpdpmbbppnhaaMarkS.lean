
/- Marks: the text of a mark. -/
import Derived.Test.YtbnpdpmbbppnhaaBytes
import Derived.Test.YtbnpdpmbbppnhaaStructs
import Derived.Test.YtbnpdpmbbppnhaaCells
import Derived.Test.YtbnpdpmbbppnhaaSegs
/-! Marks: the text of a mark. -/
namespace Go.Proofs.Ytbnpdpmbbppnhaa
set_option linter.unusedVariables false
set_option linter.unusedSimpArgs false
open Go.RowKit

theorem byteStr (b : UInt8) (w : World) : (convert 22 9 (.slice (some ⟨w.heap.size, 0, none⟩) 1 1)).run Try.prog (w.alloc (.cells #[.int .u8 b.toNat] 5)) = .ok (.string ⟨#[b]⟩) (w.alloc (.cells #[.int .u8 b.toNat] 5)) := by
  have := run_convert_bytes_back (P := Try.prog) (w.alloc (.cells #[.int .u8 b.toNat] 5)) 22 9 5 ⟨w.heap.size, 0, none⟩ 1 [b] (by kernel_rfl) (by kernel_rfl) (by kernel_rfl) (fun j hj => by
    have hj0 : j = 0 := by simpa using hj
    subst hj0
    rw [addr_add]
    exact (Blk.new w #[.int .u8 b.toNat] 5).cell rfl)
  exact this
/-- A digit's sign. -/
def dig1 (x : Nat) : UInt8 := UInt8.ofNat (48 + x)
def digA : Nat → Nat → ByteArray → ByteArray
  | 0, _, o => o
  | f + 1, k, o => if k = 0 then o else digA f (k / 10) (⟨#[dig1 (k % 10)]⟩ ++ o)
def mText (k : Nat) : ByteArray := if k = 0 then ⟨#[109, 48]⟩ else ⟨#[109]⟩ ++ digA k k ByteArray.empty
set_option maxRecDepth 100000 in
theorem markText_c (k : Nat) (w : World) (hk : k ≤ 1099511627776) :
    Calls Try.prog 110 #[.int .i64 k] w fun e w' => e = .returned (.string (mText k)) ∧ Ext w w' := by
  by_cases h0 : k = 0
  · subst h0
    go_enter Try.func110, Try.ntmps110
    go_wp2
    go_ret
    exact ⟨rfl, (by repeat (first | exact Ext.refl _ | assumption | refine Ext.drew ?_ | refine Ext.drewN ?_ _ | refine Ext.iter ?_ _ _ | refine Ext.alloc ?_ _ | refine Ext.setCell ?_ (by first | exact Nat.le_refl _ | (simp <;> omega)) _ | refine Ext.trans2 (by assumption) ?_))⟩
  · have hm : mText k = ⟨#[109]⟩ ++ digA k k ByteArray.empty := if_neg h0
    rw [hm]
    clear hm
    have hd : 0 < (k : Int) := by omega
    go_enter Try.func110, Try.ntmps110
    go_wp2
    go_loopw [0, 3] (fun kk o wr => ∃ (n f j : Nat) (s : ByteArray), kk = .int .i64 n ∧ o = .string s ∧ n ≤ f ∧ n < 10 ^ j ∧ j + s.size = 14 ∧ n ≤ 1099511627776 ∧ Hid (digA f n s = digA k k ByteArray.empty) ∧ Ext w wr) (fun kk _ _ => (intOf kk).toNat)
    case atStart => exact ⟨k, k, 14, ByteArray.empty, rfl, rfl, Nat.le_refl _, by omega, rfl, hk, Lib.hid rfl, (by repeat (first | exact Ext.refl _ | assumption | refine Ext.drew ?_ | refine Ext.drewN ?_ _ | refine Ext.iter ?_ _ _ | refine Ext.alloc ?_ _ | refine Ext.setCell ?_ (by first | exact Nat.le_refl _ | (simp <;> omega)) _ | refine Ext.trans2 (by assumption) ?_))⟩
    case round =>
      obtain ⟨n, f, j, s, rfl, rfl, hf, hj, hs, hn, hD, hext⟩ := hrel
      by_cases hlt : 0 < n
      · have hj0 : 0 < j := by
          rcases Nat.eq_zero_or_pos j with h | h
          · subst h; omega
          · exact h
        obtain ⟨j', rfl⟩ : ∃ j', j = j' + 1 := ⟨j - 1, by omega⟩
        obtain ⟨f', rfl⟩ : ∃ f', f = f' + 1 := ⟨f - 1, by omega⟩
        rw [Nat.pow_succ] at hj
        have hD2 := hD.out
        rw [digA, if_neg (by omega)] at hD2
        have HD2 := Lib.hid hD2; clear hD2 hD
        have hcv := fun w => byteStr (dig1 (n % 10)) w
        have hbv : ((dig1 (n % 10)).toNat : Int) = 48 + (n : Int) % 10 := by
          unfold dig1
          rw [UInt8.toNat_ofNat_of_lt' (show 48 + n % 10 < 256 by omega)]; omega
        rw [hbv] at hcv
        clear hbv
        go_wp2
        go_roundw
        case rel => exact ⟨n / 10, f', j', ⟨#[dig1 (n % 10)]⟩ ++ s, by go_num, rfl, by omega, by omega, by rw [ByteArray.size_append]; show j' + (1 + s.size) = 14; omega, by omega, HD2, (by repeat (first | exact Ext.refl _ | assumption | refine Ext.drew ?_ | refine Ext.drewN ?_ _ | refine Ext.iter ?_ _ _ | refine Ext.alloc ?_ _ | refine Ext.setCell ?_ (by first | exact Nat.le_refl _ | (simp <;> omega)) _ | refine Ext.trans2 (by assumption) ?_))⟩
        case measure => simp [intOf]; omega
      · obtain rfl : n = 0 := by omega
        have hD2 := hD.out
        have e0 : digA f 0 s = s := by
          cases f with
          | zero => rfl
          | succ f => rw [digA, if_pos rfl]
        rw [e0] at hD2
        subst hD2
        go_wp2
        go_ret
        exact ⟨rfl, (by repeat (first | exact Ext.refl _ | assumption | refine Ext.drew ?_ | refine Ext.drewN ?_ _ | refine Ext.iter ?_ _ _ | refine Ext.alloc ?_ _ | refine Ext.setCell ?_ (by first | exact Nat.le_refl _ | (simp <;> omega)) _ | refine Ext.trans2 (by assumption) ?_))⟩
end Go.Proofs.Ytbnpdpmbbppnhaa

/-! Marking and holding lists of segments. -/
namespace Go.Proofs.Ytbnpdpmbbppnhaa
set_option linter.unusedVariables false
set_option linter.unusedSimpArgs false
open Go.RowKit

def mkSg (k0 : Nat) (n : Nat) : List Sg := (List.range n).map fun i => (((k0 + 2 * i : Nat) : Int), mText (k0 + 2 * i + 1))
theorem mkSg_len (k0 n : Nat) : (mkSg k0 n).length = n := by simp [mkSg]
theorem mkSg_succ (k0 n : Nat) : mkSg k0 (n + 1) = mkSg k0 n ++ [(((k0 + 2 * n : Nat) : Int), mText (k0 + 2 * n + 1))] := by simp [mkSg, List.range_succ]
theorem OwnCells.at {B : Nat} {w : World} {p : Option Addr} {P c R : List Value} (h : OwnCells B w p (P ++ (c ++ R))) {j n : Nat} (hn : n = P.length + j) (hj : j < c.length) :
    ∃ b o, p = some ⟨b, o, none⟩ ∧ B ≤ b ∧ b < w.heap.size ∧ w.cell? ⟨b, o + n, none⟩ = some (c[j]'hj) ∧ w.frozen? ⟨b, o + n, none⟩ = false := by
  subst hn
  obtain ⟨b, o, h1, h2, h3, h4, h5⟩ := h (P.length + j) (by simp; omega)
  refine ⟨b, o, h1, h2, h3, ?_, h5⟩
  rw [h4, List.getElem_append_right (by omega)]
  simp only [Nat.add_sub_cancel_left]
  rw [List.getElem_append_left hj]

theorem markText1_c (q : Nat) (w : World) (hk : q + 1 ≤ 1099511627776) :
    Calls Try.prog 110 #[.int .i64 ((q : Int) + 1)] w fun e w' => e = .returned (.string (mText (q + 1))) ∧ Ext w w' := markText_c (q + 1) w hk
end Go.Proofs.Ytbnpdpmbbppnhaa
