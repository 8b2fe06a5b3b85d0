
/- How a segment is written: the bits, and the reference's walk. -/
import Derived.Test.YtbnpdpmbbppnhaaBits
import Derived.Test.YtbnpdpmbbppnhaaModes
namespace Go.Proofs.Ytbnpdpmbbppnhaa
set_option linter.unusedVariables false
set_option linter.unusedSimpArgs false
open Go.RowKit

/-- The number of a group of j bytes. -/
def numF (b m : Int) (t : ByteArray) (at_ : Nat) : Nat → Int
  | 0 => 0
  | j + 1 => numF b m t at_ j * b + charVal m (byteAt t (at_ + j))
def gN (m : Int) (t : ByteArray) (at_ : Nat) : Nat := min (grp m).toNat (t.size - at_)
/-- The bits of the groups from a byte on. -/
def rB (m : Int) (t : ByteArray) : Nat → Nat → List Int
  | 0, _ => []
  | f + 1, a => if t.size ≤ a then [] else bitsOf (numF (grpBase m) m t a (gN m t a)) (wid m (gN m t a)) ++ rB m t f (a + (grp m).toNat)
theorem rB_end (m : Int) (t : ByteArray) (f a : Nat) (h : t.size ≤ a) : rB m t f a = [] := by
  cases f with
  | zero => rfl
  | succ f => rw [rB, if_pos h]
theorem rB_step (m : Int) (t : ByteArray) (f a : Nat) (h : a < t.size) : rB m t (f + 1) a = bitsOf (numF (grpBase m) m t a (gN m t a)) (wid m (gN m t a)) ++ rB m t f (a + (grp m).toNat) := by
  rw [rB, if_neg (by omega)]
def segBits (m : Int) (t : ByteArray) : List Int := bitsOf m 3 ++ bitsOf t.size 8 ++ rB m t t.size 0

theorem idxB_le (s : ByteArray) (b : Int) : -1 ≤ idxB s b ∧ idxB s b < s.size := by
  unfold idxB
  split
  · rename_i i h
    rw [List.findIdx?_eq_some_iff_getElem] at h
    obtain ⟨h, _⟩ := h
    simp at h
    omega
  · omega
theorem charVal_hi (m : Int) (t : ByteArray) (a : Nat) : charVal m (byteAt t a) ≤ 255 := by
  have h1 := byteAt_bd t a
  have h2 := idxB_le (modeSet m) (byteAt t a)
  have h3 := modeSet_size m
  unfold charVal
  split
  · omega
  · split <;> omega
theorem charVal_ok {m : Int} {t : ByteArray} (h : AllIn m t) {a : Nat} (ha : a < t.size) : 0 ≤ charVal m (byteAt t a) := by
  rw [byteAt_eq ha]
  exact h a ha
theorem numF_bd {b m : Int} {t : ByteArray} (h : AllIn m t) (hb : 0 ≤ b ∧ b ≤ 256) {a : Nat} : ∀ j, a + j ≤ t.size → 0 ≤ numF b m t a j ∧ numF b m t a j < 256 ^ j := by
  intro j
  induction j with
  | zero => intro _; simp [numF]
  | succ j ih =>
    intro hj
    obtain ⟨h1, h2⟩ := ih (by omega)
    have h3 := charVal_ok h (show a + j < t.size by omega)
    have h4 := charVal_hi m t (a + j)
    have h5 : 0 ≤ numF b m t a j * b := Int.mul_nonneg h1 hb.1
    have h6 : numF b m t a j * b ≤ numF b m t a j * 256 := Int.mul_le_mul_of_nonneg_left hb.2 h1
    have h7 : (256 : Int) ^ (j + 1) = 256 ^ j * 256 := by rw [Int.pow_succ]
    simp only [numF]
    rw [h7]
    omega
theorem numF_small {b m : Int} {t : ByteArray} (h : AllIn m t) (hb : 0 ≤ b ∧ b ≤ 256) {a j : Nat} (hj : a + j ≤ t.size) (h3 : j ≤ 3) : 0 ≤ numF b m t a j ∧ numF b m t a j < 16777216 := by
  obtain ⟨h1, h2⟩ := numF_bd h hb j hj
  have : (256 : Int) ^ j ≤ 16777216 := by
    match j, h3 with
    | 0, _ => decide
    | 1, _ => decide
    | 2, _ => decide
    | 3, _ => decide
  omega
theorem numF_base {b b' m : Int} {t : ByteArray} {a : Nat} : ∀ j, j ≤ 1 → numF b m t a j = numF b' m t a j := by
  intro j hj
  match j, hj with
  | 0, _ => rfl
  | 1, _ => simp [numF]
theorem grpBase_bd (m : Int) : 0 ≤ grpBase m ∧ grpBase m ≤ 256 := by
  unfold grpBase
  (repeat' split) <;> omega

set_option maxRecDepth 100000 in
theorem sWrite_c (p : Option Addr) (c : Nat) (xs : List Int) (m : Int) (t : ByteArray) (w : World) (hx : IntsAt w p xs) (hl : xs.length ≤ 500000) (hS : IsSeg m t) :
    Calls Try.prog 171 #[.slice p xs.length c, vSeg m t] w fun e w' => (∃ v, e = .returned v ∧ RowI w.heap.size w' v (xs ++ segBits m t)) ∧ Ext w w' := by
  have hm := hS.1
  have hsz := hS.2.1
  have hA := Lib.hid hS.2.2
  clear hS
  have hgb := grpBase_bd m
  have hg := grp_bd m
  go_enter Try.func171, Try.ntmps171
  go_wp2_with fail
  refine wp_region_canon (fun w' => Ext (w.alloc (.cells #[.int .i64 m, .string t] 107)) w') [(0, true), (1, true), (2, true), (4, true), (5, true), (6, true), (3, false), (7, false), (8, true)] (by kernel_rfl) (by kernel_rfl) (by decide) (by kernel_rfl) ?_ ?_
  · exact (by repeat (first | exact Ext.refl _ | assumption | refine Ext.drew ?_ | refine Ext.drewN ?_ _ | refine Ext.iter ?_ _ _ | refine Ext.alloc ?_ _ | refine Ext.setCell ?_ (by first | exact Nat.le_refl _ | (simp <;> omega)) _ | refine Ext.trans2 (by assumption) ?_))
  refine canon_intro fun ops eo => ?_
  have ho0 := canon_at eo 0 rfl
  have ho1 := canon_at eo 1 rfl
  have ho2 := canon_at eo 2 rfl
  have ho3 := canon_at eo 3 rfl
  have ho4 := canon_at eo 4 rfl
  have ho5 := canon_at eo 5 rfl
  have ho6 := canon_at eo 6 rfl
  have ho7 := canon_at eo 7 rfl
  have ho8 := canon_at eo 8 rfl
  clear eo
  all_goals (apply canon_st ho0 rfl; (intro w2 hS; first | (go_simp; first | done | rfl) | rfl | (obtain ⟨hc, hf, hk, hz⟩ := ecell hS; go_simp; first | done | rfl)); simp only [Act.put, List.setIfInBounds_toArray, List.set_cons_zero, List.set_cons_succ])
  all_goals clear ho0
  all_goals (apply canon_st ho1 rfl; (intro w2 hS; first | (go_simp; first | done | rfl) | rfl | (obtain ⟨hc, hf, hk, hz⟩ := ecell hS; go_simp; first | done | rfl)); simp only [Act.put, List.setIfInBounds_toArray, List.set_cons_zero, List.set_cons_succ])
  all_goals clear ho1
  all_goals (apply canon_st ho2 rfl; (intro w2 hS; first | (go_simp; first | done | rfl) | rfl | (obtain ⟨hc, hf, hk, hz⟩ := ecell hS; go_simp; first | done | rfl)); simp only [Act.put, List.setIfInBounds_toArray, List.set_cons_zero, List.set_cons_succ])
  all_goals clear ho2
  all_goals (apply canon_st ho4 rfl; (intro w2 hS; first | (go_simp; first | done | rfl) | rfl | (obtain ⟨hc, hf, hk, hz⟩ := ecell hS; go_simp; first | done | rfl)); simp only [Act.put, List.setIfInBounds_toArray, List.set_cons_zero, List.set_cons_succ])
  all_goals clear ho4
  all_goals (apply canon_st ho5 rfl; (intro w2 hS; first | (go_simp; first | done | rfl) | rfl | (obtain ⟨hc, hf, hk, hz⟩ := ecell hS; go_simp; first | done | rfl)); simp only [Act.put, List.setIfInBounds_toArray, List.set_cons_zero, List.set_cons_succ])
  all_goals clear ho5
  all_goals (apply canon_st ho6 rfl; (intro w2 hS; first | (go_simp; first | done | rfl) | rfl | (obtain ⟨hc, hf, hk, hz⟩ := ecell hS; go_simp; first | done | rfl)); simp only [Act.put, List.setIfInBounds_toArray, List.set_cons_zero, List.set_cons_succ])
  all_goals clear ho6
  all_goals first | (refine canon_ef ho3 rfl (fun K hK => ?_); go_simp; ((go_at_call 169; (with_reducible refine (sAppend_c _ _ _ m 3 _ (hx.ext (by repeat (first | exact Ext.refl _ | assumption | refine Ext.drew ?_ | refine Ext.drewN ?_ _ | refine Ext.iter ?_ _ _ | refine Ext.alloc ?_ _ | refine Ext.setCell ?_ (by first | exact Nat.le_refl _ | (simp <;> omega)) _ | refine Ext.trans2 (by assumption) ?_))) (by omega) (by omega) (by omega)).mono ?_); rintro e w1 ⟨⟨v1, rfl, hr1⟩, hb1⟩; obtain ⟨ys, hys⟩ : ∃ ys, ys = xs ++ bitsOf m 3 := ⟨_, rfl⟩; rw [← hys] at hr1; have hyl : ys.length = xs.length + 3 := (by rw [hys]; simp [bitsOf_len]); have HY := Lib.hid hys; clear hys; obtain ⟨p1, c1, rfl, ho1⟩ := hr1.own; have hyl2 : ys.length ≤ 600000 := (by omega); clear hyl)); all_goals (refine hK _ _ ⟨(by repeat (first | exact Ext.refl _ | assumption | refine Ext.drew ?_ | refine Ext.drewN ?_ _ | refine Ext.iter ?_ _ _ | refine Ext.alloc ?_ _ | refine Ext.setCell ?_ (by first | exact Nat.le_refl _ | (simp <;> omega)) _ | refine Ext.trans2 (by assumption) ?_)), ?_⟩; clear hK K; go_simp)) | (refine canon_ef ho3 rfl (fun K hK => ?_); go_simp; ((go_at_call 169; (with_reducible refine (sAppend_c _ _ _ (t.size : Int) 8 _ ho1.ints (by omega) (by omega) (by omega)).mono ?_); rintro e w2 ⟨⟨v2, rfl, hr2⟩, hb2⟩)); all_goals (refine hK _ _ ⟨(by repeat (first | exact Ext.refl _ | assumption | refine Ext.drew ?_ | refine Ext.drewN ?_ _ | refine Ext.iter ?_ _ _ | refine Ext.alloc ?_ _ | refine Ext.setCell ?_ (by first | exact Nat.le_refl _ | (simp <;> omega)) _ | refine Ext.trans2 (by assumption) ?_)), ?_⟩; clear hK K; go_simp))
  all_goals clear ho3
  all_goals first | (refine canon_ef ho7 rfl (fun K hK => ?_); go_simp; ((go_at_call 169; (with_reducible refine (sAppend_c _ _ _ m 3 _ (hx.ext (by repeat (first | exact Ext.refl _ | assumption | refine Ext.drew ?_ | refine Ext.drewN ?_ _ | refine Ext.iter ?_ _ _ | refine Ext.alloc ?_ _ | refine Ext.setCell ?_ (by first | exact Nat.le_refl _ | (simp <;> omega)) _ | refine Ext.trans2 (by assumption) ?_))) (by omega) (by omega) (by omega)).mono ?_); rintro e w1 ⟨⟨v1, rfl, hr1⟩, hb1⟩; obtain ⟨ys, hys⟩ : ∃ ys, ys = xs ++ bitsOf m 3 := ⟨_, rfl⟩; rw [← hys] at hr1; have hyl : ys.length = xs.length + 3 := (by rw [hys]; simp [bitsOf_len]); have HY := Lib.hid hys; clear hys; obtain ⟨p1, c1, rfl, ho1⟩ := hr1.own; have hyl2 : ys.length ≤ 600000 := (by omega); clear hyl)); all_goals (refine hK _ _ ⟨(by repeat (first | exact Ext.refl _ | assumption | refine Ext.drew ?_ | refine Ext.drewN ?_ _ | refine Ext.iter ?_ _ _ | refine Ext.alloc ?_ _ | refine Ext.setCell ?_ (by first | exact Nat.le_refl _ | (simp <;> omega)) _ | refine Ext.trans2 (by assumption) ?_)), ?_⟩; clear hK K; go_simp)) | (refine canon_ef ho7 rfl (fun K hK => ?_); go_simp; ((go_at_call 169; (with_reducible refine (sAppend_c _ _ _ (t.size : Int) 8 _ ho1.ints (by omega) (by omega) (by omega)).mono ?_); rintro e w2 ⟨⟨v2, rfl, hr2⟩, hb2⟩)); all_goals (refine hK _ _ ⟨(by repeat (first | exact Ext.refl _ | assumption | refine Ext.drew ?_ | refine Ext.drewN ?_ _ | refine Ext.iter ?_ _ _ | refine Ext.alloc ?_ _ | refine Ext.setCell ?_ (by first | exact Nat.le_refl _ | (simp <;> omega)) _ | refine Ext.trans2 (by assumption) ?_)), ?_⟩; clear hK K; go_simp))
  all_goals clear ho7
  all_goals (apply canon_st ho8 rfl; (intro w2 hS; first | (go_simp; first | done | rfl) | rfl | (obtain ⟨hc, hf, hk, hz⟩ := ecell hS; go_simp; first | done | rfl)); simp only [Act.put, List.setIfInBounds_toArray, List.set_cons_zero, List.set_cons_succ])
  all_goals clear ho8
  all_goals refine canon_done (NoPanic.normal ?_)
  have hx0 : Ext (w.alloc (.cells #[.int .i64 m, .string t] 107)) w2 := (((Ext.refl _).drew).trans hb1).trans hb2
  have hr3 := hr2.mono (B' := w.heap.size) (by have := hb1.below.size; simp at this; omega)
  obtain ⟨acc0, hacc0⟩ : ∃ acc, acc = bitsOf m 3 ++ bitsOf t.size 8 := ⟨_, rfl⟩
  have hal0 : acc0.length = 11 := by rw [hacc0]; simp [bitsOf_len]
  rw [HY.out, List.append_assoc, ← hacc0] at hr3
  have HA0 := Lib.hid (show acc0 ++ rB m t t.size 0 = segBits m t by rw [hacc0]; rfl)
  clear hacc0 hr2 hb1 hb2 hr1 ho1 HY hx
  obtain ⟨hc, hf, hk, hz⟩ := ecell hx0
  simp at hz
  go_wp2_with (first | (go_at_call 216; (with_reducible refine (sGroup_c _ _).mono ?_); rintro e w3 ⟨rfl, rfl⟩))
  go_loopw [5, 9] (fun o i wr => ∃ (a f : Nat) (acc : List Int), i = .int .i64 a ∧ a ≤ t.size + 2 ∧ t.size ≤ a + f ∧ acc.length ≤ 11 + 11 * a ∧ RowI w.heap.size wr o (xs ++ acc) ∧ Hid (acc ++ rB m t f a = segBits m t) ∧ Ext (w.alloc (.cells #[.int .i64 m, .string t] 107)) wr) (fun _ i _ => t.size - (intOf i).toNat)
  case atStart => exact ⟨0, t.size, acc0, rfl, by omega, by omega, by omega, hr3, HA0, hx0⟩
  case round =>
    clear hx0 hr3 HA0 hal0 hc hf hk hz
    obtain ⟨a, f, acc, rfl, ha, hf1, hal, hown, hT, hext⟩ := hrel
    obtain ⟨wo, rfl⟩ : ∃ wo : World, wo = wr := ⟨_, rfl⟩
    by_cases hlt : a < t.size
    · have hif : (if (t.size : Int) - a < grp m then (t.size : Int) - a else grp m) = (gN m t a : Int) := by unfold gN; split <;> omega
      have hn1 : 1 ≤ gN m t a ∧ gN m t a ≤ 3 ∧ a + gN m t a ≤ t.size ∧ gN m t a ≤ (grp m).toNat := by unfold gN; omega
      obtain ⟨f', rfl⟩ : ∃ f', f = f' + 1 := ⟨f - 1, by omega⟩
      have hT2 := hT.out
      rw [rB_step m t f' a hlt] at hT2
      generalize hgn : gN m t a = n at *
      have hw1 : 1 ≤ (n : Int) := by omega
      have hw2 : m = 1 → (n : Int) ≤ 3 := by omega
      have hw3 : m = 2 → (n : Int) ≤ 2 := by intro h; subst h; have : (grp 2).toNat = 2 := rfl; omega
      have hwd := wid_bd m n
      have HG := Lib.hid hgn; have HT2 := Lib.hid hT2; have HW2 := Lib.hid hw2; have HW3 := Lib.hid hw3
      clear hgn hT2 hw2 hw3 hT
      obtain ⟨hc, hf, hk, hz⟩ := ecell hext
      simp at hz
      go_wp2_with fail
      clear hif
      go_loopw [11, 12] (fun v k wr' => ∃ q : Nat, a ≤ q ∧ q ≤ a + n ∧ v = .int .i64 (numF (grpBase m) m t a (q - a)) ∧ k = .int .i64 q ∧ Ext wo wr') (fun _ k _ => a + n - (intOf k).toNat)
      case atStart => exact ⟨a, by omega, by omega, by simp [numF], rfl, (by repeat (first | exact Ext.refl _ | assumption | refine Ext.drew ?_ | refine Ext.drewN ?_ _ | refine Ext.iter ?_ _ _ | refine Ext.alloc ?_ _ | refine Ext.setCell ?_ (by first | exact Nat.le_refl _ | (simp <;> omega)) _ | refine Ext.trans2 (by assumption) ?_))⟩
      case round =>
        obtain ⟨q, hq1, hq2, rfl, rfl, hext2⟩ := hrel
        generalize hjq : q - a = j at *
        have hj : j ≤ n := by omega
        have HJ := Lib.hid (show a + j = q by omega)
        clear hjq
        have hnb := numF_small hA.out hgb (a := a) (j := j) (by omega) (by omega)
        by_cases hlt2 : q < a + n
        · have hq3 : q < t.size := by omega
          have hcv := charVal_ok hA.out (show q < t.size by omega)
          have hch := charVal_hi m t q
          rw [byteAt_eq (show q < t.size by omega)] at hcv hch
          have h8 : (t[q]'(by omega)).toNat < 256 := UInt8.toNat_lt _
          have hp0 : 0 ≤ numF (grpBase m) m t a j * grpBase m := Int.mul_nonneg hnb.1 hgb.1
          have hp1 : numF (grpBase m) m t a j * grpBase m ≤ 16777216 * 256 := Int.mul_le_mul (by omega) hgb.2 hgb.1 (by omega)
          have hnx : numF (grpBase m) m t a (j + 1) = numF (grpBase m) m t a j * grpBase m + charVal m (t[q]'(by omega)).toNat := by rw [numF, HJ.out, byteAt_eq (show q < t.size by omega)]
          have HN := Lib.hid hnx; clear hnx
          have e1 := IntWalk.i64_in (numF (grpBase m) m t a j * grpBase m) (by omega)
          have e2 := IntWalk.i64_in (numF (grpBase m) m t a j * grpBase m + charVal m (t[q]'(by omega)).toNat) (by omega)
          have e3 := wrapByte (t[q]'(by omega))
          have hd1 : (q : Int) < (a : Int) + n := by omega
          have hc1 := hext.trans hext2
          obtain ⟨hc, hf, hk, hz⟩ := ecell hc1
          simp at hz
          go_wp2_with fail
          refine wp_region_canon (fun w' => Ext wr w') [(0, true), (1, true), (2, true), (3, true), (4, true), (5, true), (6, true), (7, true), (8, true), (9, true), (10, false), (11, true), (12, true)] (by kernel_rfl) (by kernel_rfl) (by decide) (by kernel_rfl) ?_ ?_
          · exact (by repeat (first | exact Ext.refl _ | assumption | refine Ext.drew ?_ | refine Ext.drewN ?_ _ | refine Ext.iter ?_ _ _ | refine Ext.alloc ?_ _ | refine Ext.setCell ?_ (by first | exact Nat.le_refl _ | (simp <;> omega)) _ | refine Ext.trans2 (by assumption) ?_))
          refine canon_intro fun ops eo => ?_
          have ho0 := canon_at eo 0 rfl
          have ho1 := canon_at eo 1 rfl
          have ho2 := canon_at eo 2 rfl
          have ho3 := canon_at eo 3 rfl
          have ho4 := canon_at eo 4 rfl
          have ho5 := canon_at eo 5 rfl
          have ho6 := canon_at eo 6 rfl
          have ho7 := canon_at eo 7 rfl
          have ho8 := canon_at eo 8 rfl
          have ho9 := canon_at eo 9 rfl
          have ho10 := canon_at eo 10 rfl
          have ho11 := canon_at eo 11 rfl
          have ho12 := canon_at eo 12 rfl
          clear eo
          all_goals (apply canon_st ho0 rfl; (intro w2 hS; first | (go_simp; first | done | rfl) | rfl | (obtain ⟨hc, hf, hk, hz⟩ := ecell hS; go_simp; first | done | rfl)); simp only [Act.put, List.setIfInBounds_toArray, List.set_cons_zero, List.set_cons_succ])
          all_goals clear ho0
          all_goals (apply canon_st ho1 rfl; (intro w2 hS; first | (go_simp; first | done | rfl) | rfl | (obtain ⟨hc, hf, hk, hz⟩ := ecell hS; go_simp; first | done | rfl)); simp only [Act.put, List.setIfInBounds_toArray, List.set_cons_zero, List.set_cons_succ])
          all_goals clear ho1
          all_goals (apply canon_st ho2 rfl; (intro w2 hS; first | (go_simp; first | done | rfl) | rfl | (obtain ⟨hc, hf, hk, hz⟩ := ecell hS; go_simp; first | done | rfl)); simp only [Act.put, List.setIfInBounds_toArray, List.set_cons_zero, List.set_cons_succ])
          all_goals clear ho2
          all_goals (apply canon_st ho3 rfl; (intro w2 hS; first | (go_simp; first | done | rfl) | rfl | (obtain ⟨hc, hf, hk, hz⟩ := ecell hS; go_simp; first | done | rfl)); simp only [Act.put, List.setIfInBounds_toArray, List.set_cons_zero, List.set_cons_succ])
          all_goals clear ho3
          all_goals (apply canon_st ho4 rfl; (intro w2 hS; first | (go_simp; first | done | rfl) | rfl | (obtain ⟨hc, hf, hk, hz⟩ := ecell hS; go_simp; first | done | rfl)); simp only [Act.put, List.setIfInBounds_toArray, List.set_cons_zero, List.set_cons_succ])
          all_goals clear ho4
          all_goals (apply canon_st ho5 rfl; (intro w2 hS; first | (go_simp; first | done | rfl) | rfl | (obtain ⟨hc, hf, hk, hz⟩ := ecell hS; go_simp; first | done | rfl)); simp only [Act.put, List.setIfInBounds_toArray, List.set_cons_zero, List.set_cons_succ])
          all_goals clear ho5
          all_goals (apply canon_st ho6 rfl; (intro w2 hS; first | (go_simp; first | done | rfl) | rfl | (obtain ⟨hc, hf, hk, hz⟩ := ecell hS; go_simp; first | done | rfl)); simp only [Act.put, List.setIfInBounds_toArray, List.set_cons_zero, List.set_cons_succ])
          all_goals clear ho6
          all_goals (apply canon_st ho7 rfl; (intro w2 hS; first | (go_simp; first | done | rfl) | rfl | (obtain ⟨hc, hf, hk, hz⟩ := ecell hS; go_simp; first | done | rfl)); simp only [Act.put, List.setIfInBounds_toArray, List.set_cons_zero, List.set_cons_succ])
          all_goals clear ho7
          all_goals (apply canon_st ho8 rfl; (intro w2 hS; first | (go_simp; first | done | rfl) | rfl | (obtain ⟨hc, hf, hk, hz⟩ := ecell hS; go_simp; first | done | rfl)); simp only [Act.put, List.setIfInBounds_toArray, List.set_cons_zero, List.set_cons_succ])
          all_goals clear ho8
          all_goals (apply canon_st ho9 rfl; (intro w2 hS; first | (go_simp; first | done | rfl) | rfl | (obtain ⟨hc, hf, hk, hz⟩ := ecell hS; go_simp; first | done | rfl)); simp only [Act.put, List.setIfInBounds_toArray, List.set_cons_zero, List.set_cons_succ])
          all_goals clear ho9
          all_goals first | (refine canon_ef ho10 rfl (fun K hK => ?_); go_simp; ((go_at_call 217; (with_reducible refine (sCharacterValue_c _ _ _).mono ?_); rintro e w3 ⟨rfl, hb⟩)); all_goals (refine hK _ _ ⟨(by repeat (first | exact Ext.refl _ | assumption | refine Ext.drew ?_ | refine Ext.drewN ?_ _ | refine Ext.iter ?_ _ _ | refine Ext.alloc ?_ _ | refine Ext.setCell ?_ (by first | exact Nat.le_refl _ | (simp <;> omega)) _ | refine Ext.trans2 (by assumption) ?_)), ?_⟩; clear hK K; go_simp))
          all_goals clear ho10
          all_goals (apply canon_st ho11 rfl; (intro w2 hS; first | (go_simp; first | done | rfl) | rfl | (obtain ⟨hc, hf, hk, hz⟩ := ecell hS; go_simp; first | done | rfl)); simp only [Act.put, List.setIfInBounds_toArray, List.set_cons_zero, List.set_cons_succ])
          all_goals clear ho11
          all_goals (apply canon_st ho12 rfl; (intro w2 hS; first | (go_simp; first | done | rfl) | rfl | (obtain ⟨hc, hf, hk, hz⟩ := ecell hS; go_simp; first | done | rfl)); simp only [Act.put, List.setIfInBounds_toArray, List.set_cons_zero, List.set_cons_succ])
          all_goals clear ho12
          all_goals refine canon_done (NoPanic.normal ?_)
          clear e1 e2 e3
          go_wp2_with fail
          go_roundw
          case rel => exact ⟨q + 1, by omega, by omega, by rw [show q + 1 - a = j + 1 by have := HJ.out; omega, HN.out], by go_num, (by repeat (first | exact Ext.refl _ | assumption | refine Ext.drew ?_ | refine Ext.drewN ?_ _ | refine Ext.iter ?_ _ _ | refine Ext.alloc ?_ _ | refine Ext.setCell ?_ (by first | exact Nat.le_refl _ | (simp <;> omega)) _ | refine Ext.trans2 (by assumption) ?_))⟩
          case measure => simp [intOf]; omega
        · obtain rfl : j = n := by have := HJ.out; omega
          have hd1 : ¬ (q : Int) < (a : Int) + j := by omega
          have hc1 := hext.trans hext2
          obtain ⟨hc, hf, hk, hz⟩ := ecell hc1
          simp at hz
          have hown2 := hown.ext hext2
          obtain ⟨ys, hys⟩ : ∃ ys, ys = xs ++ acc := ⟨_, rfl⟩
          rw [← hys] at hown2
          have hyl : ys.length ≤ 600000 := by rw [hys]; simp; omega
          have HY := Lib.hid hys
          clear hys hown
          obtain ⟨p4, c4, rfl, ho4⟩ := hown2.own
          go_wp2_with (first
            | (go_at_call 218; (with_reducible refine (sWidth_c _ _ _ hw1 HW2.out HW3.out).mono ?_); rintro e w3 ⟨rfl, hb3⟩; have ho5 := ho4.ints.ext hb3)
            | (go_at_call 169; (with_reducible refine (sAppend_c _ _ _ _ _ _ ho5 (by omega) (by omega) (by omega)).mono ?_); rintro e w4 ⟨⟨v4, rfl, hr4⟩, hb4⟩))
          have hx4 := (hc1.trans hb3).trans hb4
          refine ⟨⟨a + (grp m).toNat, f', acc ++ bitsOf (numF (grpBase m) m t a j) (wid m j), by go_num, by omega, by omega, ?_, ?_, Lib.hid ?_, hx4⟩, by simp [intOf]; omega⟩
          · simp [bitsOf_len]; omega
          · rw [← List.append_assoc, ← HY.out]
            exact hr4.mono (by have := (hc1.trans hb3).below.size; simp at this; omega)
          · have := HT2.out
            rwa [← List.append_assoc] at this
    · have hd0 : ¬ (a : Int) < t.size := by omega
      have := hT.out
      rw [rB_end _ _ _ _ (by omega), List.append_nil] at this
      rw [this] at hown
      go_wp2
      go_ret
      exact ⟨⟨_, rfl, hown⟩, ((Ext.refl w).alloc _).trans hext⟩
end Go.Proofs.Ytbnpdpmbbppnhaa
