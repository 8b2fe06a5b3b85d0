
/- The width of a field, the size of a payload. -/
import Derived.Test.YthokkmbdkjpbcaaGreatSFld
import Derived.Test.YthokkmbdkjpbcaaGreatTab
namespace Go.Proofs.YthokkmbdkjpbcaaGreat
set_option linter.unusedVariables false
set_option linter.unusedSimpArgs false
open Go.RowKit

/-- The greatest w with 2^w at most the size. -/
def fW (size : Int) : Nat := Nat.log2 size.toNat
theorem fW_eq {size : Int} {j : Nat} (h0 : 1 ≤ size) (h1 : (2 : Int) ^ j ≤ size) (h2 : size < 2 ^ (j + 1)) : fW size = j := by
  have e1 := two_pow_cast j
  have e2 := two_pow_cast (j + 1)
  unfold fW
  rw [Nat.log2_eq_iff (by omega)]
  omega
theorem fW_bd {size : Int} (h : 3 ≤ size ∧ size ≤ 1021) : 1 ≤ fW size ∧ fW size ≤ 9 ∧ (2 : Int) ^ fW size ≤ size ∧ size < 2 ^ (fW size + 1) := by
  have h1 := (Nat.log2_eq_iff (n := size.toNat) (k := fW size) (by omega)).1 rfl
  have e1 := two_pow_cast (fW size)
  have e2 := two_pow_cast (fW size + 1)
  refine ⟨?_, ?_, by omega, by omega⟩
  · rcases Nat.eq_zero_or_pos (fW size) with h0 | h0
    · rw [h0] at h1; omega
    · exact h0
  · rcases Nat.lt_or_ge 9 (fW size) with h0 | h0
    · have : 2 ^ 10 ≤ 2 ^ fW size := Nat.pow_le_pow_right (by omega) h0
      omega
    · exact h0
theorem pow_shl {j : Nat} {size : Int} (hs : size ≤ 1021) (h : (2 : Int) ^ j ≤ size) : 1 ≤ (2 : Int) ^ j ∧ (2 : Int) * 2 ^ j ≤ 2042 ∧ (2 : Int) ^ (j + 1) = 2 * 2 ^ j := by
  have : (0 : Int) < 2 ^ j := Int.pow_pos (by omega)
  exact ⟨by omega, by omega, by rw [Int.pow_succ, Int.mul_comm]⟩

theorem width_c (g : Nat) (size : Int) (w : World) (hq : w.cell? ⟨g, 1, none⟩ = some (.int .i64 size)) (hs : 3 ≤ size ∧ size ≤ 1021) :
    Calls Tryz.prog 25 #[.pointer (some ⟨g, 0, none⟩)] w fun e w' => e = .returned (.int .i64 (fW size)) ∧ Ext w w' := by
  have hbd := fW_bd hs
  go_enter Tryz.func25, Tryz.ntmps25
  go_wp2
  go_loopw [3] (fun i wr => ∃ (j n : Nat), j ≤ fW size ∧ i = .int .i64 j ∧ (2 : Int) ^ j ≤ size ∧ wr = w.drewN n) (fun i _ => fW size - (intOf i).toNat)
  case atStart => exact ⟨0, 0, by omega, rfl, by show (1 : Int) ≤ size; omega, rfl⟩
  case round =>
    obtain ⟨j, n, hj, rfl, hp, rfl⟩ := hrel
    obtain ⟨p1, p2, p3⟩ := pow_shl hs.2 hp
    by_cases hlt : (2 : Int) * 2 ^ j ≤ size
    · have hjl : j < fW size := by
        rcases Nat.lt_or_ge j (fW size) with h | h
        · exact h
        · obtain rfl : j = fW size := by omega
          omega
      have hp1 : (2 : Int) ^ (j + 1) ≤ size := by omega
      have HP := Lib.hid hp1
      have hj9 : (j : Int) ≤ 62 := by omega
      clear p3 hp1 hbd
      go_wp2_with fail
      go_quiet (fail)
      go_wp2
      go_roundw
      case rel => exact ⟨j + 1, n + nq, by omega, by go_num, HP.out, rfl⟩
      case measure => simp [intOf]; omega
    · have hfw := Lib.hid (fW_eq (by omega) hp (by omega))
      have hj9 : (j : Int) ≤ 62 := by omega
      clear p3 hbd
      go_wp2_with fail
      go_quiet (fail)
      go_wp2
      go_ret
      exact ⟨by rw [hfw.out]; rfl, (by repeat (first | exact Ext.refl _ | assumption | refine Ext.drew ?_ | refine Ext.drewN ?_ _ | refine Ext.iter ?_ _ _ | refine Ext.alloc ?_ _ | refine Ext.setCell ?_ (by first | exact Nat.le_refl _ | (simp <;> omega)) _ | refine Ext.trans2 (by assumption) ?_))⟩

theorem fldSize_bd {p k q : Int} (h : fldOK p k q) : (3 ≤ fldSize p k ∧ fldSize p k ≤ 1021) ∧ 0 ≤ k ∧ k ≤ 40 := by
  rcases h with ⟨rfl, h, _⟩ | ⟨h1, rfl, h2, _⟩
  · exact ⟨h, by omega⟩
  · have e : fldSize 2 k = 2 ^ k.toNat := if_neg h1
    have e1 := two_pow_cast k.toNat
    have e4 : (2 : Nat) ^ k.toNat ≤ 2 ^ 8 := Nat.pow_le_pow_right (by omega) (by omega)
    have e5 : (2 : Nat) ^ 3 ≤ 2 ^ k.toNat := Nat.pow_le_pow_right (by omega) (by omega)
    omega
theorem l11Width_c (p k q : Int) (w : World) (hok : fldOK p k q) :
    Calls Tryz.prog 47 #[vFld p k q] w fun e w' => e = .returned (.int .i64 (fW (fldSize p k))) ∧ Ext w w' := by
  obtain ⟨hs, hk⟩ := fldSize_bd hok
  have hsc := Lib.hid (fun W => l02Size_c p k q W hk)
  have hbd := fW_bd hs
  clear hok hk
  generalize fldSize p k = size at *
  have hb := Blk.new w #[.int .i64 p, .int .i64 k, .int .i64 q] 25
  go_enter Tryz.func47, Tryz.ntmps47
  go_wp2
  have hx : Ext w (w.alloc (.cells #[.int .i64 p, .int .i64 k, .int .i64 q] 25)) := (by repeat (first | exact Ext.refl _ | assumption | refine Ext.drew ?_ | refine Ext.drewN ?_ _ | refine Ext.iter ?_ _ _ | refine Ext.alloc ?_ _ | refine Ext.setCell ?_ (by first | exact Nat.le_refl _ | (simp <;> omega)) _ | refine Ext.trans2 (by assumption) ?_))
  generalize w.alloc (.cells #[.int .i64 p, .int .i64 k, .int .i64 q] 25) = w0 at *
  go_loopw [3] (fun i wr => ∃ j : Nat, j ≤ fW size ∧ i = .int .i64 j ∧ (2 : Int) ^ j ≤ size ∧ Ext w0 wr) (fun i _ => fW size - (intOf i).toNat)
  case atStart => exact ⟨0, by omega, rfl, by show (1 : Int) ≤ size; omega, (by repeat (first | exact Ext.refl _ | assumption | refine Ext.drew ?_ | refine Ext.drewN ?_ _ | refine Ext.iter ?_ _ _ | refine Ext.alloc ?_ _ | refine Ext.setCell ?_ (by first | exact Nat.le_refl _ | (simp <;> omega)) _ | refine Ext.trans2 (by assumption) ?_))⟩
  case round =>
    obtain ⟨j, hj, rfl, hp, hext⟩ := hrel
    obtain ⟨p1, p2, p3⟩ := pow_shl hs.2 hp
    have hbr := hb.ext hext
    have q0 := hbr.cell (i := 0) (v := .int .i64 p) rfl
    have q1 := hbr.cell (i := 1) (v := .int .i64 k) rfl
    have q2 := hbr.cell (i := 2) (v := .int .i64 q) rfl
    have ql := hbr.lt
    have hj9 : (j : Int) ≤ 62 := by omega
    by_cases hlt : (2 : Int) * 2 ^ j ≤ size
    · have hjl : j < fW size := by
        rcases Nat.lt_or_ge j (fW size) with h | h
        · exact h
        · obtain rfl : j = fW size := by omega
          omega
      have hp1 : (2 : Int) ^ (j + 1) ≤ size := by omega
      have HP := Lib.hid hp1
      clear p3 hp1 hbd
      go_wp2_with (go_at_call 67; (with_reducible refine (hsc.out _).mono ?_); rintro e w1 ⟨rfl, hx1⟩)
      go_roundw
      case rel => exact ⟨j + 1, by omega, by go_num, HP.out, hext.trans hx1⟩
      case measure => simp [intOf]; omega
    · have hfw := Lib.hid (fW_eq (by omega) hp (by omega))
      clear p3 hbd
      go_wp2_with (go_at_call 67; (with_reducible refine (hsc.out _).mono ?_); rintro e w1 ⟨rfl, hx1⟩)
      go_ret
      exact ⟨by rw [hfw.out]; rfl, (hx.trans hext).trans hx1⟩

theorem calcOK_c (p k q size : Int) (hok : fldOK p k q) (hsz : fldSize p k = size) (w : World) :
    Calls Tryz.prog 23 #[vFld p k q] w fun e w' => (∃ (g : Nat) (b : Bool), e = .returned (.tuple #[.pointer (some ⟨g, 0, none⟩), .bool true]) ∧ CalcB w' g b size) ∧ Ext w w' := by
  refine (calc_c p k q w).mono ?_
  rintro e w' ⟨⟨_, g, b, he, hcb⟩ | ⟨hno, _⟩, hx⟩
  · rw [hsz] at hcb
    exact ⟨⟨g, b, he, hcb⟩, hx⟩
  · exact absurd hok hno
theorem calcNo_c (p k q : Int) (hok : ¬ fldOK p k q) (w : World) :
    Calls Tryz.prog 23 #[vFld p k q] w fun e w' => (∃ v, e = .returned (.tuple #[v, .bool false])) ∧ Ext w w' := by
  refine (calc_c p k q w).mono ?_
  rintro e w' ⟨⟨h, _⟩ | ⟨_, h⟩, hx⟩
  · exact absurd h hok
  · exact ⟨h, hx⟩
open Classical in
/-- What PayloadSize answers. -/
noncomputable def psN (p k : Int) (t : ByteArray) : Int := max 1 (((cell t t.size).len + fW (fldSize p k) - 1) / fW (fldSize p k))
open Classical in
noncomputable def psV (p k q : Int) (t : ByteArray) : Int × Int := if ¬ fldOK p k q then (0, 1) else if ¬ t.size ≤ 400 then (0, 3) else if 1500 < psN p k t then (0, 3) else (psN p k t, 0)
theorem cell_len_bd (t : ByteArray) (h : t.size ≤ 400) : 0 ≤ (cell t t.size).len ∧ (cell t t.size).len ≤ 1000000 := by
  have := cell_ok t t.size
  simp only [Cell.ok] at this
  omega

theorem psV_yes {p k q : Int} {t : ByteArray} {D : Int} (h1 : fldOK p k q) (h2 : t.size ≤ 400) (hD : ((cell t t.size).len + fW (fldSize p k) - 1) / fW (fldSize p k) = D) : psV p k q t = if D ≤ 1 then (1, 0) else if D ≤ 1500 then (D, 0) else (0, 3) := by
  have hn : psN p k t = max 1 D := by rw [← hD]; rfl
  unfold psV
  rw [if_neg (not_not_intro h1), if_neg (not_not_intro h2), hn]
  by_cases h3 : D ≤ 1
  · rw [if_pos h3, if_neg (by omega), show max 1 D = 1 by omega]
  · rw [if_neg h3, show max 1 D = D by omega]
    by_cases h4 : D ≤ 1500
    · rw [if_pos h4, if_neg (by omega)]
    · rw [if_neg h4, if_pos (by omega)]
theorem psV_long {p k q : Int} {t : ByteArray} (h1 : fldOK p k q) (h2 : ¬ t.size ≤ 400) : psV p k q t = (0, 3) := by
  unfold psV
  rw [if_neg (not_not_intro h1), if_pos h2]
theorem psV_no {p k q : Int} {t : ByteArray} (h1 : ¬ fldOK p k q) : psV p k q t = (0, 1) := by
  unfold psV
  rw [if_pos h1]

set_option maxHeartbeats 400000 in
set_option maxRecDepth 100000 in
theorem iPayloadSize_c (p k q : Int) (t : ByteArray) (w : World) (ht : t.size ≤ 1048576) :
    Calls Tryz.prog 8 #[vFld p k q, .string t] w fun e w' => e = .returned (.tuple #[.int .i64 (psV p k q t).1, .int .i64 (psV p k q t).2]) ∧ Ext w w' := by
  by_cases h1 : fldOK p k q
  · obtain ⟨hs, hk⟩ := fldSize_bd h1
    have hbd := fW_bd hs
    by_cases h2 : t.size ≤ 400
    · have hcl := cell_len_bd t h2
      have h1w : 1 ≤ fW (fldSize p k) ∧ fW (fldSize p k) ≤ 9 := by omega
      have hcell := Lib.hid (fun W => bestLength_c t W ht); have hcalc := Lib.hid (fun W => calcOK_c p k q _ h1 rfl W); have hwd := Lib.hid (fun g W hq => width_c g (fldSize p k) W hq hs)
      obtain ⟨D, hD⟩ : ∃ D, ((cell t t.size).len + fW (fldSize p k) - 1) / fW (fldSize p k) = D := ⟨_, rfl⟩
      rw [psV_yes h1 h2 hD]
      clear hbd
      generalize fldSize p k = size at *
      generalize fW size = W at *
      generalize (cell t t.size).len = L at *
      have hne : ¬ (W : Int) = 0 := by omega
      have hpos : 0 < (W : Int) := by omega
      have hnum : 0 ≤ L + W - 1 := by omega
      have e1 : (L + W - 1).tdiv W = D := by rw [Int.tdiv_eq_ediv_of_nonneg hnum]; exact hD
      have hd1 : 0 ≤ D := by rw [← hD]; exact Int.ediv_nonneg hnum (by omega)
      have hd2 : D ≤ L + W - 1 := by rw [← hD]; exact Int.ediv_le_self _ hnum
      by_cases h3 : D ≤ 1
      · rw [if_pos h3]
        have hm : max 1 D = 1 := by omega
        have hm2 : (if (1 : Int) < D then D else 1) = 1 := if_neg (by omega)
        go_enter Tryz.func8, Tryz.ntmps8
        go_wp2_with (first | (go_at_call 23; (with_reducible refine (hcalc.out _).mono ?_); rintro e w1 ⟨⟨g, b, rfl, hcb⟩, hx1⟩) | (go_at_call 16; (with_reducible refine (isMessage_c _ _ ht).mono ?_); rintro e w2 ⟨⟨hP, rfl⟩ | ⟨hP, rfl⟩, rfl⟩ <;> try contradiction) | (go_at_call 24; (with_reducible refine (hcell.out _).mono ?_); rintro e w3 ⟨rfl, hx3⟩; have qz := (hcb.ext hx3).sizeCell) | (go_at_call 25; (with_reducible refine (hwd.out _ _ qz).mono ?_); rintro e w4 ⟨rfl, hx4⟩; have qz2 := ((hcb.ext hx3).ext hx4).sizeCell) | (go_at_call 25; (with_reducible refine (hwd.out _ _ qz2).mono ?_); rintro e w5 ⟨rfl, hx5⟩))
        go_ret2
        exact ⟨rfl, (by repeat (first | exact Ext.refl _ | assumption | refine Ext.drew ?_ | refine Ext.drewN ?_ _ | refine Ext.iter ?_ _ _ | refine Ext.alloc ?_ _ | refine Ext.setCell ?_ (by first | exact Nat.le_refl _ | (simp <;> omega)) _ | refine Ext.trans2 (by assumption) ?_))⟩
      · rw [if_neg h3]
        have hm : max 1 D = D := by omega
        have hm2 : (if (1 : Int) < D then D else 1) = D := if_pos (by omega)
        by_cases h4 : D ≤ 1500
        · rw [if_pos h4]
          go_enter Tryz.func8, Tryz.ntmps8
          go_wp2_with (first | (go_at_call 23; (with_reducible refine (hcalc.out _).mono ?_); rintro e w1 ⟨⟨g, b, rfl, hcb⟩, hx1⟩) | (go_at_call 16; (with_reducible refine (isMessage_c _ _ ht).mono ?_); rintro e w2 ⟨⟨hP, rfl⟩ | ⟨hP, rfl⟩, rfl⟩ <;> try contradiction) | (go_at_call 24; (with_reducible refine (hcell.out _).mono ?_); rintro e w3 ⟨rfl, hx3⟩; have qz := (hcb.ext hx3).sizeCell) | (go_at_call 25; (with_reducible refine (hwd.out _ _ qz).mono ?_); rintro e w4 ⟨rfl, hx4⟩; have qz2 := ((hcb.ext hx3).ext hx4).sizeCell) | (go_at_call 25; (with_reducible refine (hwd.out _ _ qz2).mono ?_); rintro e w5 ⟨rfl, hx5⟩))
          go_ret2
          exact ⟨rfl, (by repeat (first | exact Ext.refl _ | assumption | refine Ext.drew ?_ | refine Ext.drewN ?_ _ | refine Ext.iter ?_ _ _ | refine Ext.alloc ?_ _ | refine Ext.setCell ?_ (by first | exact Nat.le_refl _ | (simp <;> omega)) _ | refine Ext.trans2 (by assumption) ?_))⟩
        · rw [if_neg h4]
          go_enter Tryz.func8, Tryz.ntmps8
          go_wp2_with (first | (go_at_call 23; (with_reducible refine (hcalc.out _).mono ?_); rintro e w1 ⟨⟨g, b, rfl, hcb⟩, hx1⟩) | (go_at_call 16; (with_reducible refine (isMessage_c _ _ ht).mono ?_); rintro e w2 ⟨⟨hP, rfl⟩ | ⟨hP, rfl⟩, rfl⟩ <;> try contradiction) | (go_at_call 24; (with_reducible refine (hcell.out _).mono ?_); rintro e w3 ⟨rfl, hx3⟩; have qz := (hcb.ext hx3).sizeCell) | (go_at_call 25; (with_reducible refine (hwd.out _ _ qz).mono ?_); rintro e w4 ⟨rfl, hx4⟩; have qz2 := ((hcb.ext hx3).ext hx4).sizeCell) | (go_at_call 25; (with_reducible refine (hwd.out _ _ qz2).mono ?_); rintro e w5 ⟨rfl, hx5⟩))
          go_ret2
          exact ⟨rfl, (by repeat (first | exact Ext.refl _ | assumption | refine Ext.drew ?_ | refine Ext.drewN ?_ _ | refine Ext.iter ?_ _ _ | refine Ext.alloc ?_ _ | refine Ext.setCell ?_ (by first | exact Nat.le_refl _ | (simp <;> omega)) _ | refine Ext.trans2 (by assumption) ?_))⟩
    · rw [psV_long h1 h2]
      have hcell := Lib.hid (fun W => bestLength_c t W ht); have hcalc := Lib.hid (fun W => calcOK_c p k q _ h1 rfl W); have hwd := Lib.hid (fun g W hq => width_c g (fldSize p k) W hq hs)
      have h1w : 1 ≤ fW (fldSize p k) ∧ fW (fldSize p k) ≤ 9 := by omega
      clear hbd
      generalize fldSize p k = size at *
      generalize fW size = W at *
      have hne : ¬ (W : Int) = 0 := by omega
      have hpos : 0 < (W : Int) := by omega
      have hW9 : (W : Int) ≤ 9 := by omega
      go_enter Tryz.func8, Tryz.ntmps8
      go_wp2_with (first | (go_at_call 23; (with_reducible refine (hcalc.out _).mono ?_); rintro e w1 ⟨⟨g, b, rfl, hcb⟩, hx1⟩) | (go_at_call 16; (with_reducible refine (isMessage_c _ _ ht).mono ?_); rintro e w2 ⟨⟨hP, rfl⟩ | ⟨hP, rfl⟩, rfl⟩ <;> try contradiction) | (go_at_call 24; (with_reducible refine (hcell.out _).mono ?_); rintro e w3 ⟨rfl, hx3⟩; have qz := (hcb.ext hx3).sizeCell) | (go_at_call 25; (with_reducible refine (hwd.out _ _ qz).mono ?_); rintro e w4 ⟨rfl, hx4⟩; have qz2 := ((hcb.ext hx3).ext hx4).sizeCell) | (go_at_call 25; (with_reducible refine (hwd.out _ _ qz2).mono ?_); rintro e w5 ⟨rfl, hx5⟩))
      all_goals
        go_ret2
        exact ⟨rfl, (by repeat (first | exact Ext.refl _ | assumption | refine Ext.drew ?_ | refine Ext.drewN ?_ _ | refine Ext.iter ?_ _ _ | refine Ext.alloc ?_ _ | refine Ext.setCell ?_ (by first | exact Nat.le_refl _ | (simp <;> omega)) _ | refine Ext.trans2 (by assumption) ?_))⟩
  · rw [psV_no h1]
    have hcalc := Lib.hid (fun W => calcNo_c p k q h1 W)
    go_enter Tryz.func8, Tryz.ntmps8
    go_wp2_with (first
      | (go_at_call 23; (with_reducible refine (hcalc.out _).mono ?_); rintro e w1 ⟨⟨v, rfl⟩, hx1⟩)
      | (go_at_call 44; (with_reducible refine (sIsField_c _ _ _ _).mono ?_); rintro e w1 ⟨⟨hP1, rfl⟩ | ⟨hP1, rfl⟩, hx1⟩ <;> try contradiction))
    go_ret2
    exact ⟨rfl, (by repeat (first | exact Ext.refl _ | assumption | refine Ext.drew ?_ | refine Ext.drewN ?_ _ | refine Ext.iter ?_ _ _ | refine Ext.alloc ?_ _ | refine Ext.setCell ?_ (by first | exact Nat.le_refl _ | (simp <;> omega)) _ | refine Ext.trans2 (by assumption) ?_))⟩
set_option maxHeartbeats 400000 in
set_option maxRecDepth 100000 in
theorem sPayloadSize_c (p k q : Int) (t : ByteArray) (w : World) (ht : t.size ≤ 1048576) :
    Calls Tryz.prog 21 #[vFld p k q, .string t] w fun e w' => e = .returned (.tuple #[.int .i64 (psV p k q t).1, .int .i64 (psV p k q t).2]) ∧ Ext w w' := by
  by_cases h1 : fldOK p k q
  · obtain ⟨hs, hk⟩ := fldSize_bd h1
    have hbd := fW_bd hs
    by_cases h2 : t.size ≤ 400
    · have hcl := cell_len_bd t h2
      have h1w : 1 ≤ fW (fldSize p k) ∧ fW (fldSize p k) ≤ 9 := by omega
      have hcell := Lib.hid (fun W => sBestLength_c t W ht); have hwd := Lib.hid (fun W => l11Width_c p k q W h1)
      obtain ⟨D, hD⟩ : ∃ D, ((cell t t.size).len + fW (fldSize p k) - 1) / fW (fldSize p k) = D := ⟨_, rfl⟩
      rw [psV_yes h1 h2 hD]
      clear hbd
      generalize fldSize p k = size at *
      generalize fW size = W at *
      generalize (cell t t.size).len = L at *
      have hne : ¬ (W : Int) = 0 := by omega
      have hpos : 0 < (W : Int) := by omega
      have hnum : 0 ≤ L + W - 1 := by omega
      have e1 : (L + W - 1).tdiv W = D := by rw [Int.tdiv_eq_ediv_of_nonneg hnum]; exact hD
      have hd1 : 0 ≤ D := by rw [← hD]; exact Int.ediv_nonneg hnum (by omega)
      have hd2 : D ≤ L + W - 1 := by rw [← hD]; exact Int.ediv_le_self _ hnum
      by_cases h3 : D ≤ 1
      · rw [if_pos h3]
        have hm : max 1 D = 1 := by omega
        have hm2 : (if (1 : Int) < D then D else 1) = 1 := if_neg (by omega)
        go_enter Tryz.func21, Tryz.ntmps21
        go_wp2_with (first | (go_at_call 44; (with_reducible refine (sIsField_c _ _ _ _).mono ?_); rintro e w1 ⟨⟨hP1, rfl⟩ | ⟨hP1, rfl⟩, hx1⟩ <;> (try contradiction); obtain ⟨hc1, hf1, hk1, hz1⟩ := ecell hx1; try simp at hz1) | (go_at_call 46; (with_reducible refine (hcell.out _).mono ?_); rintro e w3 ⟨⟨hP, rfl⟩ | ⟨hP, rfl⟩, hx3⟩ <;> (try contradiction); obtain ⟨hc3, hf3, hk3, hz3⟩ := ecell (hx1.trans hx3)) | (go_at_call 47; (with_reducible refine (hwd.out _).mono ?_); rintro e w4 ⟨rfl, hx4⟩))
        go_ret2
        exact ⟨rfl, (by repeat (first | exact Ext.refl _ | assumption | refine Ext.drew ?_ | refine Ext.drewN ?_ _ | refine Ext.iter ?_ _ _ | refine Ext.alloc ?_ _ | refine Ext.setCell ?_ (by first | exact Nat.le_refl _ | (simp <;> omega)) _ | refine Ext.trans2 (by assumption) ?_))⟩
      · rw [if_neg h3]
        have hm : max 1 D = D := by omega
        have hm2 : (if (1 : Int) < D then D else 1) = D := if_pos (by omega)
        by_cases h4 : D ≤ 1500
        · rw [if_pos h4]
          go_enter Tryz.func21, Tryz.ntmps21
          go_wp2_with (first | (go_at_call 44; (with_reducible refine (sIsField_c _ _ _ _).mono ?_); rintro e w1 ⟨⟨hP1, rfl⟩ | ⟨hP1, rfl⟩, hx1⟩ <;> (try contradiction); obtain ⟨hc1, hf1, hk1, hz1⟩ := ecell hx1; try simp at hz1) | (go_at_call 46; (with_reducible refine (hcell.out _).mono ?_); rintro e w3 ⟨⟨hP, rfl⟩ | ⟨hP, rfl⟩, hx3⟩ <;> (try contradiction); obtain ⟨hc3, hf3, hk3, hz3⟩ := ecell (hx1.trans hx3)) | (go_at_call 47; (with_reducible refine (hwd.out _).mono ?_); rintro e w4 ⟨rfl, hx4⟩))
          go_ret2
          exact ⟨rfl, (by repeat (first | exact Ext.refl _ | assumption | refine Ext.drew ?_ | refine Ext.drewN ?_ _ | refine Ext.iter ?_ _ _ | refine Ext.alloc ?_ _ | refine Ext.setCell ?_ (by first | exact Nat.le_refl _ | (simp <;> omega)) _ | refine Ext.trans2 (by assumption) ?_))⟩
        · rw [if_neg h4]
          go_enter Tryz.func21, Tryz.ntmps21
          go_wp2_with (first | (go_at_call 44; (with_reducible refine (sIsField_c _ _ _ _).mono ?_); rintro e w1 ⟨⟨hP1, rfl⟩ | ⟨hP1, rfl⟩, hx1⟩ <;> (try contradiction); obtain ⟨hc1, hf1, hk1, hz1⟩ := ecell hx1; try simp at hz1) | (go_at_call 46; (with_reducible refine (hcell.out _).mono ?_); rintro e w3 ⟨⟨hP, rfl⟩ | ⟨hP, rfl⟩, hx3⟩ <;> (try contradiction); obtain ⟨hc3, hf3, hk3, hz3⟩ := ecell (hx1.trans hx3)) | (go_at_call 47; (with_reducible refine (hwd.out _).mono ?_); rintro e w4 ⟨rfl, hx4⟩))
          go_ret2
          exact ⟨rfl, (by repeat (first | exact Ext.refl _ | assumption | refine Ext.drew ?_ | refine Ext.drewN ?_ _ | refine Ext.iter ?_ _ _ | refine Ext.alloc ?_ _ | refine Ext.setCell ?_ (by first | exact Nat.le_refl _ | (simp <;> omega)) _ | refine Ext.trans2 (by assumption) ?_))⟩
    · rw [psV_long h1 h2]
      have hcell := Lib.hid (fun W => sBestLength_c t W ht); have hwd := Lib.hid (fun W => l11Width_c p k q W h1)
      have h1w : 1 ≤ fW (fldSize p k) ∧ fW (fldSize p k) ≤ 9 := by omega
      clear hbd
      generalize fldSize p k = size at *
      generalize fW size = W at *
      have hne : ¬ (W : Int) = 0 := by omega
      have hpos : 0 < (W : Int) := by omega
      have hW9 : (W : Int) ≤ 9 := by omega
      go_enter Tryz.func21, Tryz.ntmps21
      go_wp2_with (first | (go_at_call 44; (with_reducible refine (sIsField_c _ _ _ _).mono ?_); rintro e w1 ⟨⟨hP1, rfl⟩ | ⟨hP1, rfl⟩, hx1⟩ <;> (try contradiction); obtain ⟨hc1, hf1, hk1, hz1⟩ := ecell hx1; try simp at hz1) | (go_at_call 46; (with_reducible refine (hcell.out _).mono ?_); rintro e w3 ⟨⟨hP, rfl⟩ | ⟨hP, rfl⟩, hx3⟩ <;> (try contradiction); obtain ⟨hc3, hf3, hk3, hz3⟩ := ecell (hx1.trans hx3)) | (go_at_call 47; (with_reducible refine (hwd.out _).mono ?_); rintro e w4 ⟨rfl, hx4⟩))
      all_goals
        go_ret2
        exact ⟨rfl, (by repeat (first | exact Ext.refl _ | assumption | refine Ext.drew ?_ | refine Ext.drewN ?_ _ | refine Ext.iter ?_ _ _ | refine Ext.alloc ?_ _ | refine Ext.setCell ?_ (by first | exact Nat.le_refl _ | (simp <;> omega)) _ | refine Ext.trans2 (by assumption) ?_))⟩
  · rw [psV_no h1]
    have hcalc := Lib.hid (fun W => calcNo_c p k q h1 W)
    go_enter Tryz.func21, Tryz.ntmps21
    go_wp2_with (first
      | (go_at_call 23; (with_reducible refine (hcalc.out _).mono ?_); rintro e w1 ⟨⟨v, rfl⟩, hx1⟩)
      | (go_at_call 44; (with_reducible refine (sIsField_c _ _ _ _).mono ?_); rintro e w1 ⟨⟨hP1, rfl⟩ | ⟨hP1, rfl⟩, hx1⟩ <;> try contradiction))
    go_ret2
    exact ⟨rfl, (by repeat (first | exact Ext.refl _ | assumption | refine Ext.drew ?_ | refine Ext.drewN ?_ _ | refine Ext.iter ?_ _ _ | refine Ext.alloc ?_ _ | refine Ext.setCell ?_ (by first | exact Nat.le_refl _ | (simp <;> omega)) _ | refine Ext.trans2 (by assumption) ?_))⟩
end Go.Proofs.YthokkmbdkjpbcaaGreat
