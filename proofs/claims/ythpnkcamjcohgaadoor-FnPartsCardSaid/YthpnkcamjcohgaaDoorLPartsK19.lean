/- The width of a field, the size of a payload. -/
import Derived.Test.YthpnkcamjcohgaaDoorLPartsK18
import Derived.Test.YthpnkcamjcohgaaDoorLPartsK12
namespace Go.Proofs.YthpnkcamjcohgaaDoor
set_option linter.unusedVariables false
set_option linter.unusedSimpArgs false
open Go.RowKit

/-- The greatest w with 2^w at most the size. -/
def fW (size : Int) : Nat := Nat.log2 size.toNat
theorem fW_eq {size : Int} {j : Nat} (h0 : 1 ≤ size) (h1 : (2 : Int) ^ j ≤ size) (h2 : size < 2 ^ (j + 1)) : fW size = j := by
  have e1 := two_pow_cast j
  have e2 := two_pow_cast (j + 1)
  unfold fW
  rw [Nat.log2_eq_iff (by omega)]
  omega
theorem fW_bd {size : Int} (h : 3 ≤ size ∧ size ≤ 1021) : 1 ≤ fW size ∧ fW size ≤ 9 ∧ (2 : Int) ^ fW size ≤ size ∧ size < 2 ^ (fW size + 1) := by
  have h1 := (Nat.log2_eq_iff (n := size.toNat) (k := fW size) (by omega)).1 rfl
  have e1 := two_pow_cast (fW size)
  have e2 := two_pow_cast (fW size + 1)
  refine ⟨?_, ?_, by omega, by omega⟩
  · rcases Nat.eq_zero_or_pos (fW size) with h0 | h0
    · rw [h0] at h1; omega
    · exact h0
  · rcases Nat.lt_or_ge 9 (fW size) with h0 | h0
    · have : 2 ^ 10 ≤ 2 ^ fW size := Nat.pow_le_pow_right (by omega) h0
      omega
    · exact h0
theorem pow_shl {j : Nat} {size : Int} (hs : size ≤ 1021) (h : (2 : Int) ^ j ≤ size) : 1 ≤ (2 : Int) ^ j ∧ (2 : Int) * 2 ^ j ≤ 2042 ∧ (2 : Int) ^ (j + 1) = 2 * 2 ^ j := by
  have : (0 : Int) < 2 ^ j := Int.pow_pos (by omega)
  exact ⟨by omega, by omega, by rw [Int.pow_succ, Int.mul_comm]⟩

theorem width_c (g : Nat) (size : Int) (w : World) (hq : w.cell? ⟨g, 1, none⟩ = some (.int .i64 size)) (hs : 3 ≤ size ∧ size ≤ 1021) :
    Calls Tryd.prog 52 #[.pointer (some ⟨g, 0, none⟩)] w fun e w' => e = .returned (.int .i64 (fW size)) ∧ Ext w w' := by
  have hbd := fW_bd hs
  go_enter Tryd.func52, Tryd.ntmps52
  go_wp2
  go_loopw [3] (fun i wr => ∃ (j n : Nat), j ≤ fW size ∧ i = .int .i64 j ∧ (2 : Int) ^ j ≤ size ∧ wr = w.drewN n) (fun i _ => fW size - (intOf i).toNat)
  case atStart => exact ⟨0, 0, by omega, rfl, by show (1 : Int) ≤ size; omega, rfl⟩
  case round =>
    obtain ⟨j, n, hj, rfl, hp, rfl⟩ := hrel
    obtain ⟨p1, p2, p3⟩ := pow_shl hs.2 hp
    by_cases hlt : (2 : Int) * 2 ^ j ≤ size
    · have hjl : j < fW size := by
        rcases Nat.lt_or_ge j (fW size) with h | h
        · exact h
        · obtain rfl : j = fW size := by omega
          omega
      have hp1 : (2 : Int) ^ (j + 1) ≤ size := by omega
      have HP := Lib.hid hp1
      have hj9 : (j : Int) ≤ 62 := by omega
      clear p3 hp1 hbd
      go_wp2_with fail
      go_quiet (fail)
      go_wp2
      go_roundw
      case rel => exact ⟨j + 1, n + nq, by omega, by go_num, HP.out, rfl⟩
      case measure => simp [intOf]; omega
    · have hfw := Lib.hid (fW_eq (by omega) hp (by omega))
      have hj9 : (j : Int) ≤ 62 := by omega
      clear p3 hbd
      go_wp2_with fail
      go_quiet (fail)
      go_wp2
      go_ret
      exact ⟨by rw [hfw.out]; rfl, (by repeat (first | exact Ext.refl _ | assumption | refine Ext.drew ?_ | refine Ext.drewN ?_ _ | refine Ext.iter ?_ _ _ | refine Ext.alloc ?_ _ | refine Ext.setCell ?_ (by first | exact Nat.le_refl _ | (simp <;> omega)) _ | refine Ext.trans2 (by assumption) ?_))⟩

theorem fldSize_bd {p k q : Int} (h : fldOK p k q) : (3 ≤ fldSize p k ∧ fldSize p k ≤ 1021) ∧ 0 ≤ k ∧ k ≤ 40 := by
  rcases h with ⟨rfl, h, _⟩ | ⟨h1, rfl, h2, _⟩
  · exact ⟨h, by omega⟩
  · have e : fldSize 2 k = 2 ^ k.toNat := if_neg h1
    have e1 := two_pow_cast k.toNat
    have e4 : (2 : Nat) ^ k.toNat ≤ 2 ^ 8 := Nat.pow_le_pow_right (by omega) (by omega)
    have e5 : (2 : Nat) ^ 3 ≤ 2 ^ k.toNat := Nat.pow_le_pow_right (by omega) (by omega)
    omega
theorem l11Width_c (p k q : Int) (w : World) (hok : fldOK p k q) :
    Calls Tryd.prog 58 #[vFld p k q] w fun e w' => e = .returned (.int .i64 (fW (fldSize p k))) ∧ Ext w w' := by
  obtain ⟨hs, hk⟩ := fldSize_bd hok
  have hsc := Lib.hid (fun W => l02Size_c p k q W hk)
  have hbd := fW_bd hs
  clear hok hk
  generalize fldSize p k = size at *
  have hb := Blk.new w #[.int .i64 p, .int .i64 k, .int .i64 q] 32
  go_enter Tryd.func58, Tryd.ntmps58
  go_wp2
  have hx : Ext w (w.alloc (.cells #[.int .i64 p, .int .i64 k, .int .i64 q] 32)) := (by repeat (first | exact Ext.refl _ | assumption | refine Ext.drew ?_ | refine Ext.drewN ?_ _ | refine Ext.iter ?_ _ _ | refine Ext.alloc ?_ _ | refine Ext.setCell ?_ (by first | exact Nat.le_refl _ | (simp <;> omega)) _ | refine Ext.trans2 (by assumption) ?_))
  generalize w.alloc (.cells #[.int .i64 p, .int .i64 k, .int .i64 q] 32) = w0 at *
  go_loopw [3] (fun i wr => ∃ j : Nat, j ≤ fW size ∧ i = .int .i64 j ∧ (2 : Int) ^ j ≤ size ∧ Ext w0 wr) (fun i _ => fW size - (intOf i).toNat)
  case atStart => exact ⟨0, by omega, rfl, by show (1 : Int) ≤ size; omega, (by repeat (first | exact Ext.refl _ | assumption | refine Ext.drew ?_ | refine Ext.drewN ?_ _ | refine Ext.iter ?_ _ _ | refine Ext.alloc ?_ _ | refine Ext.setCell ?_ (by first | exact Nat.le_refl _ | (simp <;> omega)) _ | refine Ext.trans2 (by assumption) ?_))⟩
  case round =>
    obtain ⟨j, hj, rfl, hp, hext⟩ := hrel
    obtain ⟨p1, p2, p3⟩ := pow_shl hs.2 hp
    have hbr := hb.ext hext
    have q0 := hbr.cell (i := 0) (v := .int .i64 p) rfl
    have q1 := hbr.cell (i := 1) (v := .int .i64 k) rfl
    have q2 := hbr.cell (i := 2) (v := .int .i64 q) rfl
    have ql := hbr.lt
    have hj9 : (j : Int) ≤ 62 := by omega
    by_cases hlt : (2 : Int) * 2 ^ j ≤ size
    · have hjl : j < fW size := by
        rcases Nat.lt_or_ge j (fW size) with h | h
        · exact h
        · obtain rfl : j = fW size := by omega
          omega
      have hp1 : (2 : Int) ^ (j + 1) ≤ size := by omega
      have HP := Lib.hid hp1
      clear p3 hp1 hbd
      go_wp2_with (go_at_call 101; (with_reducible refine (hsc.out _).mono ?_); rintro e w1 ⟨rfl, hx1⟩)
      go_roundw
      case rel => exact ⟨j + 1, by omega, by go_num, HP.out, hext.trans hx1⟩
      case measure => simp [intOf]; omega
    · have hfw := Lib.hid (fW_eq (by omega) hp (by omega))
      clear p3 hbd
      go_wp2_with (go_at_call 101; (with_reducible refine (hsc.out _).mono ?_); rintro e w1 ⟨rfl, hx1⟩)
      go_ret
      exact ⟨by rw [hfw.out]; rfl, (hx.trans hext).trans hx1⟩

theorem calcOK_c (p k q size : Int) (hok : fldOK p k q) (hsz : fldSize p k = size) (w : World) :
    Calls Tryd.prog 50 #[vFld p k q] w fun e w' => (∃ (g : Nat) (b : Bool), e = .returned (.tuple #[.pointer (some ⟨g, 0, none⟩), .bool true]) ∧ CalcB w' g b size) ∧ Ext w w' := by
  refine (calc_c p k q w).mono ?_
  rintro e w' ⟨⟨_, g, b, he, hcb⟩ | ⟨hno, _⟩, hx⟩
  · rw [hsz] at hcb
    exact ⟨⟨g, b, he, hcb⟩, hx⟩
  · exact absurd hok hno
theorem calcNo_c (p k q : Int) (hok : ¬ fldOK p k q) (w : World) :
    Calls Tryd.prog 50 #[vFld p k q] w fun e w' => (∃ v, e = .returned (.tuple #[v, .bool false])) ∧ Ext w w' := by
  refine (calc_c p k q w).mono ?_
  rintro e w' ⟨⟨h, _⟩ | ⟨_, h⟩, hx⟩
  · exact absurd h hok
  · exact ⟨h, hx⟩
end Go.Proofs.YthpnkcamjcohgaaDoor
