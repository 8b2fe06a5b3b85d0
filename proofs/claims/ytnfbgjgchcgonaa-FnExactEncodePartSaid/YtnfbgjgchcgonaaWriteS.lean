
/- WriteSegment. -/
import Derived.Test.YtnfbgjgchcgonaaWriteI
import Derived.Test.YtnfbgjgchcgonaaSegs2
namespace Go.Proofs.Ytnfbgjgchcgonaa
set_option linter.unusedVariables false
set_option linter.unusedSimpArgs false
open Go.RowKit

theorem iAppendSegment_c (B : Nat) (v : Value) (xs : List Int) (m : Int) (t : ByteArray) (w : World) (hown : RowI B w v xs) (hB : B ≤ w.heap.size) (hl : xs.length ≤ 500000) (hS : IsSeg m t) :
    Calls Try.prog 78 #[v, vSeg m t] w fun e w' => GrewI B v w (xs ++ segBits m t) e w' := by
  have := hS.1
  by_cases h : m = 4
  · exact iAppendSegment2_c B v xs m t w hown hB hl hS h
  · exact iAppendSegment1_c B v xs m t w hown hB hl hS (by omega)

def intF (x : Int) : List Value := [.int .i64 x]
theorem intF_len (x : Int) : (intF x).length = 1 := rfl
theorem SOwn.ints {B : Nat} {w : World} {p : Option Addr} {xs : List Int} (h : SOwn intF 1 B w p xs) : OwnInts B w p xs := fun i hi => by
  obtain ⟨b, o, h1, hB, h2, h3, h4⟩ := h i hi
  refine ⟨b, o, h1, hB, h2, ?_, h4 _⟩
  have := h3 0 (.int .i64 (xs[i]'hi)) rfl
  rw [Nat.mul_one, Nat.add_zero] at this
  rw [this, List.getD_eq_getElem?_getD, List.getElem?_eq_getElem hi]
  rfl
theorem toInt64S_c (p : Option Addr) (c : Nat) (xs : List Int) (w : World) (hx : IntsAt w p xs) (hl : xs.length ≤ 1048576) :
    Calls Try.prog 128 #[.slice p xs.length c] w fun e w' => (∃ q, e = .returned (.slice q xs.length xs.length) ∧ OwnInts w.heap.size w' q xs) ∧ Ext w w' := by
  have hI1 : Try.prog.underlying 24 = some (.slice 2) := by kernel_rfl
  have hI2 := infoInt
  go_enter Try.func128, Try.ntmps128
  go_wp2_with (first | (at_make; go_loud (refine make_blk hI1 hI2 xs.length ?_ ?_ (by omega) (by omega) ?_; rfl; rfl)))
  have hb := Blk.new w (madeCells #[.int .i64 0] xs.length) 2
  clear hI1 hI2
  go_loopw [4] (fun i wr => ∃ (k : Nat) (cs : Array Value), k ≤ xs.length ∧ i = .int .i64 k ∧ Blk wr w.heap.size cs 2 ∧ Hid (TabS intF 1 xs cs k) ∧ Ext w wr) (fun i _ => xs.length - (intOf i).toNat)
  case atStart => exact ⟨0, _, Nat.zero_le _, rfl, hb, Lib.hid ⟨(size_madeCells _ _).trans (Nat.mul_one _).symm, fun j _ h => by omega⟩, (by repeat (first | exact Ext.refl _ | assumption | refine Ext.drew ?_ | refine Ext.drewN ?_ _ | refine Ext.iter ?_ _ _ | refine Ext.alloc ?_ _ | refine Ext.setCell ?_ (by first | exact Nat.le_refl _ | (simp <;> omega)) _ | refine Ext.trans2 (by assumption) ?_))⟩
  case round =>
    clear hb
    obtain ⟨k, cs, hk, rfl, hb, hT, hext⟩ := hrel
    by_cases hlt : k < xs.length
    · obtain ⟨b, o, rfl, hbl, h0⟩ := (hx.ext hext) k hlt
      have hT2 := Lib.hid (hT.out.step intF_len hlt)
      have hn := hT.out.1
      clear hx
      obtain ⟨z0, z0'⟩ : ∃ v, cs[k]? = some v := ⟨_, Array.getElem?_eq_getElem (by omega)⟩
      have q0 := hb.cell z0'
      have q2 := hb.lt
      have q3 := hb.free
      go_wp2
      go_roundw
      case rel =>
        refine ⟨k + 1, _, hlt, by go_num, hb.set _ _, ?_, hext.setCell (Nat.le_refl _) _⟩
        have := hT2.out
        simp only [intF, putL, Nat.mul_one] at this
        exact Lib.hid this
      case measure => simp [intOf]; omega
    · clear hx
      obtain rfl : k = xs.length := by omega
      go_wp2
      go_ret
      exact ⟨⟨_, rfl, (hT.out.own intF_len hb (Nat.le_refl _)).ints⟩, hext⟩

open Classical in
noncomputable def wsCode (xs : List Int) (m : Int) (t : ByteArray) : Int := if ¬ isBits xs then 1 else if ¬ IsSeg m t then 2 else if 8192 < (xs.length : Int) + segLen m t then 3 else 0
open Classical in
noncomputable def wsList (xs : List Int) (m : Int) (t : ByteArray) : List Int := if wsCode xs m t = 0 then xs ++ segBits m t else []
/-- A list and a code given back; the list is of its own. -/
def LC (B : Nat) (L : List Int) (code : Int) (e : Ending) (w' : World) : Prop := ∃ p c, e = .returned (.tuple #[.slice p L.length c, .int .i64 code]) ∧ OwnInts B w' p L ∧ L.length ≤ c
theorem LC.of {B : Nat} {L : List Int} {code : Int} {w : World} {v : Value} (h : RowI B w v L) : LC B L code (.returned (.tuple #[v, .int .i64 code])) w := by
  obtain ⟨p, c, rfl, ho, hc⟩ := h.ownC
  exact ⟨p, c, rfl, ho, hc⟩
theorem LC.nil {B : Nat} {code : Int} {w : World} : LC B [] code (.returned (.tuple #[.slice none 0 0, .int .i64 code])) w := ⟨none, 0, rfl, OwnInts.nil _ _ _, Nat.le_refl _⟩

set_option maxRecDepth 100000 in
theorem iWriteSegment_c (p : Option Addr) (c : Nat) (xs : List Int) (m : Int) (t : ByteArray) (w : World) (hx : IntsAt w p xs) (hl : xs.length ≤ 1048576) (hw : wfs xs) (ht : t.size ≤ 1048576) :
    Calls Try.prog 16 #[.slice p xs.length c, vSeg m t] w fun e w' => LC w.heap.size (wsList xs m t) (wsCode xs m t) e w' ∧ Ext w w' := by
  have HW := Lib.hid hw; clear hw
  by_cases h1 : isBits xs
  · by_cases h2 : IsSeg m t
    · by_cases h3 : 8192 < (xs.length : Int) + segLen m t
      · have hcode : wsCode xs m t = 3 := by unfold wsCode; rw [if_neg (not_not_intro h1), if_neg (not_not_intro h2), if_pos h3]
        have hlist : wsList xs m t = [] := by unfold wsList; rw [hcode]; exact if_neg (by omega)
        rw [hcode, hlist]
        clear hcode hlist
        have hlb := segLen_bd (x := (m, t)) h2
        simp only at hlb
        go_enter Try.func16, Try.ntmps16
        go_wp2_with (first
          | (go_at_call 77; (with_reducible refine (iIsBits_c _ _ _ _ (hx.ext (by repeat (first | exact Ext.refl _ | assumption | refine Ext.drew ?_ | refine Ext.drewN ?_ _ | refine Ext.iter ?_ _ _ | refine Ext.alloc ?_ _ | refine Ext.setCell ?_ (by first | exact Nat.le_refl _ | (simp <;> omega)) _ | refine Ext.trans2 (by assumption) ?_))) hl HW.out).mono ?_); rintro e w1 ⟨⟨hP, rfl⟩ | ⟨hP, rfl⟩, rfl⟩ <;> try contradiction)
          | (go_at_call 22; (with_reducible refine (iSegmentLength_c _ _ _ ht).mono ?_); rintro e w1 ⟨⟨hP, rfl⟩ | ⟨hP, rfl⟩, hb⟩ <;> try contradiction))
        go_ret2
        exact ⟨LC.nil, (by repeat (first | exact Ext.refl _ | assumption | refine Ext.drew ?_ | refine Ext.drewN ?_ _ | refine Ext.iter ?_ _ _ | refine Ext.alloc ?_ _ | refine Ext.setCell ?_ (by first | exact Nat.le_refl _ | (simp <;> omega)) _ | refine Ext.trans2 (by assumption) ?_))⟩
      · have hcode : wsCode xs m t = 0 := by unfold wsCode; rw [if_neg (not_not_intro h1), if_neg (not_not_intro h2), if_neg h3]
        have hlist : wsList xs m t = xs ++ segBits m t := by unfold wsList; rw [hcode]; exact if_pos rfl
        rw [hcode, hlist]
        clear hcode hlist
        have hlb := segLen_bd (x := (m, t)) h2
        simp only at hlb
        have H2 := Lib.hid h2
        have hl8 := h1.1
        go_enter Try.func16, Try.ntmps16
        go_wp2_with (first
          | (go_at_call 77; (with_reducible refine (iIsBits_c _ _ _ _ (hx.ext (by repeat (first | exact Ext.refl _ | assumption | refine Ext.drew ?_ | refine Ext.drewN ?_ _ | refine Ext.iter ?_ _ _ | refine Ext.alloc ?_ _ | refine Ext.setCell ?_ (by first | exact Nat.le_refl _ | (simp <;> omega)) _ | refine Ext.trans2 (by assumption) ?_))) hl HW.out).mono ?_); rintro e w1 ⟨⟨hP, rfl⟩ | ⟨hP, rfl⟩, rfl⟩ <;> try contradiction)
          | (go_at_call 22; (with_reducible refine (iSegmentLength_c _ _ _ ht).mono ?_); rintro e w2 ⟨⟨hP, rfl⟩ | ⟨hP, rfl⟩, hb⟩ <;> try contradiction))
        have hxs : Ext w w2 := ((Ext.refl w).alloc _).trans hb
        have hbx := (Blk.new w #[.int .i64 m, .string t] 26).ext hb
        have q0 := hbx.cell (i := 0) (v := .int .i64 m) rfl
        have q1 := hbx.cell (i := 1) (v := .string t) rfl
        have ql := hbx.lt
        refine wp_region_canon (fun w' => Ext w2 w') [(0, true), (2, true), (1, false), (3, false), (4, true), (5, true)] (by kernel_rfl) (by kernel_rfl) (by decide) (by kernel_rfl) ?_ ?_
        · exact (by repeat (first | exact Ext.refl _ | assumption | refine Ext.drew ?_ | refine Ext.drewN ?_ _ | refine Ext.iter ?_ _ _ | refine Ext.alloc ?_ _ | refine Ext.setCell ?_ (by first | exact Nat.le_refl _ | (simp <;> omega)) _ | refine Ext.trans2 (by assumption) ?_))
        refine canon_intro fun ops eo => ?_
        have ho0 := canon_at eo 0 rfl
        have ho1 := canon_at eo 1 rfl
        have ho2 := canon_at eo 2 rfl
        have ho3 := canon_at eo 3 rfl
        have ho4 := canon_at eo 4 rfl
        have ho5 := canon_at eo 5 rfl
        clear eo
        all_goals (apply canon_st ho0 rfl; (intro w2 hS; first | (go_simp; first | done | rfl) | rfl | (obtain ⟨hc, hf, hk, hz⟩ := ecell hS; go_simp; first | done | rfl)); simp only [Act.put, List.setIfInBounds_toArray, List.set_cons_zero, List.set_cons_succ])
        all_goals clear ho0
        all_goals (apply canon_st ho2 rfl; (intro w2 hS; first | (go_simp; first | done | rfl) | rfl | (obtain ⟨hc, hf, hk, hz⟩ := ecell hS; go_simp; first | done | rfl)); simp only [Act.put, List.setIfInBounds_toArray, List.set_cons_zero, List.set_cons_succ])
        all_goals clear ho2
        all_goals first | (refine canon_ef ho1 rfl (fun K hK => ?_); go_simp; ((go_at_call 79; (with_reducible refine (copyOf_c _ _ _ _ ((hx.ext hxs).ext (by repeat (first | exact Ext.refl _ | assumption | refine Ext.drew ?_ | refine Ext.drewN ?_ _ | refine Ext.iter ?_ _ _ | refine Ext.alloc ?_ _ | refine Ext.setCell ?_ (by first | exact Nat.le_refl _ | (simp <;> omega)) _ | refine Ext.trans2 (by assumption) ?_))) hl).mono ?_); rintro e w3 ⟨⟨v3, rfl, hr3⟩, hb3⟩)); all_goals (refine hK _ _ ⟨(by repeat (first | exact Ext.refl _ | assumption | refine Ext.drew ?_ | refine Ext.drewN ?_ _ | refine Ext.iter ?_ _ _ | refine Ext.alloc ?_ _ | refine Ext.setCell ?_ (by first | exact Nat.le_refl _ | (simp <;> omega)) _ | refine Ext.trans2 (by assumption) ?_)), ?_⟩; clear hK K; go_simp)) | (refine canon_ef ho1 rfl (fun K hK => ?_); go_simp; ((go_at_call 78; (with_reducible refine (iAppendSegment_c w2.heap.size _ _ m t _ (hr3.mono (Nat.le_refl _)) (by have := hb3.below.size; simp at this; omega) (by omega) H2.out).mono ?_); rintro e w4 ⟨v4, rfl, hr4, hG4⟩; have hx4 : Ext w2 w4 := hG4.toExt (((Ext.refl w2).drew).trans hb3) (fun k hk => (hr3.lt k hk).1))); all_goals (refine hK _ _ ⟨(by repeat (first | exact Ext.refl _ | assumption | refine Ext.drew ?_ | refine Ext.drewN ?_ _ | refine Ext.iter ?_ _ _ | refine Ext.alloc ?_ _ | refine Ext.setCell ?_ (by first | exact Nat.le_refl _ | (simp <;> omega)) _ | refine Ext.trans2 (by assumption) ?_)), ?_⟩; clear hK K; go_simp))
        all_goals clear ho1
        all_goals first | (refine canon_ef ho3 rfl (fun K hK => ?_); go_simp; ((go_at_call 79; (with_reducible refine (copyOf_c _ _ _ _ ((hx.ext hxs).ext (by repeat (first | exact Ext.refl _ | assumption | refine Ext.drew ?_ | refine Ext.drewN ?_ _ | refine Ext.iter ?_ _ _ | refine Ext.alloc ?_ _ | refine Ext.setCell ?_ (by first | exact Nat.le_refl _ | (simp <;> omega)) _ | refine Ext.trans2 (by assumption) ?_))) hl).mono ?_); rintro e w3 ⟨⟨v3, rfl, hr3⟩, hb3⟩)); all_goals (refine hK _ _ ⟨(by repeat (first | exact Ext.refl _ | assumption | refine Ext.drew ?_ | refine Ext.drewN ?_ _ | refine Ext.iter ?_ _ _ | refine Ext.alloc ?_ _ | refine Ext.setCell ?_ (by first | exact Nat.le_refl _ | (simp <;> omega)) _ | refine Ext.trans2 (by assumption) ?_)), ?_⟩; clear hK K; go_simp)) | (refine canon_ef ho3 rfl (fun K hK => ?_); go_simp; ((go_at_call 78; (with_reducible refine (iAppendSegment_c w2.heap.size _ _ m t _ (hr3.mono (Nat.le_refl _)) (by have := hb3.below.size; simp at this; omega) (by omega) H2.out).mono ?_); rintro e w4 ⟨v4, rfl, hr4, hG4⟩; have hx4 : Ext w2 w4 := hG4.toExt (((Ext.refl w2).drew).trans hb3) (fun k hk => (hr3.lt k hk).1))); all_goals (refine hK _ _ ⟨(by repeat (first | exact Ext.refl _ | assumption | refine Ext.drew ?_ | refine Ext.drewN ?_ _ | refine Ext.iter ?_ _ _ | refine Ext.alloc ?_ _ | refine Ext.setCell ?_ (by first | exact Nat.le_refl _ | (simp <;> omega)) _ | refine Ext.trans2 (by assumption) ?_)), ?_⟩; clear hK K; go_simp))
        all_goals clear ho3
        all_goals (apply canon_st ho4 rfl; (intro w2 hS; first | (go_simp; first | done | rfl) | rfl | (obtain ⟨hc, hf, hk, hz⟩ := ecell hS; go_simp; first | done | rfl)); simp only [Act.put, List.setIfInBounds_toArray, List.set_cons_zero, List.set_cons_succ])
        all_goals clear ho4
        all_goals (apply canon_st ho5 rfl; (intro w2 hS; first | (go_simp; first | done | rfl) | rfl | (obtain ⟨hc, hf, hk, hz⟩ := ecell hS; go_simp; first | done | rfl)); simp only [Act.put, List.setIfInBounds_toArray, List.set_cons_zero, List.set_cons_succ])
        all_goals clear ho5
        all_goals refine canon_done (NoPanic.normal ?_)
        go_wp2
        go_ret2
        exact ⟨LC.of (hr4.mono hxs.below.size), hxs.trans hx4⟩
    · have hcode : wsCode xs m t = 2 := by unfold wsCode; rw [if_neg (not_not_intro h1), if_pos h2]
      have hlist : wsList xs m t = [] := by unfold wsList; rw [hcode]; exact if_neg (by omega)
      rw [hcode, hlist]
      clear hcode hlist
      go_enter Try.func16, Try.ntmps16
      go_wp2_with (first
        | (go_at_call 77; (with_reducible refine (iIsBits_c _ _ _ _ (hx.ext (by repeat (first | exact Ext.refl _ | assumption | refine Ext.drew ?_ | refine Ext.drewN ?_ _ | refine Ext.iter ?_ _ _ | refine Ext.alloc ?_ _ | refine Ext.setCell ?_ (by first | exact Nat.le_refl _ | (simp <;> omega)) _ | refine Ext.trans2 (by assumption) ?_))) hl HW.out).mono ?_); rintro e w1 ⟨⟨hP, rfl⟩ | ⟨hP, rfl⟩, rfl⟩ <;> try contradiction)
        | (go_at_call 22; (with_reducible refine (iSegmentLength_c _ _ _ ht).mono ?_); rintro e w1 ⟨⟨hP, rfl⟩ | ⟨hP, rfl⟩, hb⟩ <;> try contradiction))
      go_ret2
      exact ⟨LC.nil, (by repeat (first | exact Ext.refl _ | assumption | refine Ext.drew ?_ | refine Ext.drewN ?_ _ | refine Ext.iter ?_ _ _ | refine Ext.alloc ?_ _ | refine Ext.setCell ?_ (by first | exact Nat.le_refl _ | (simp <;> omega)) _ | refine Ext.trans2 (by assumption) ?_))⟩
  · have hcode : wsCode xs m t = 1 := by unfold wsCode; rw [if_pos h1]
    have hlist : wsList xs m t = [] := by unfold wsList; rw [hcode]; exact if_neg (by omega)
    rw [hcode, hlist]
    clear hcode hlist
    go_enter Try.func16, Try.ntmps16
    go_wp2_with (first
      | (go_at_call 77; (with_reducible refine (iIsBits_c _ _ _ _ (hx.ext (by repeat (first | exact Ext.refl _ | assumption | refine Ext.drew ?_ | refine Ext.drewN ?_ _ | refine Ext.iter ?_ _ _ | refine Ext.alloc ?_ _ | refine Ext.setCell ?_ (by first | exact Nat.le_refl _ | (simp <;> omega)) _ | refine Ext.trans2 (by assumption) ?_))) hl HW.out).mono ?_); rintro e w1 ⟨⟨hP, rfl⟩ | ⟨hP, rfl⟩, rfl⟩ <;> try contradiction))
    go_ret2
    exact ⟨LC.nil, (by repeat (first | exact Ext.refl _ | assumption | refine Ext.drew ?_ | refine Ext.drewN ?_ _ | refine Ext.iter ?_ _ _ | refine Ext.alloc ?_ _ | refine Ext.setCell ?_ (by first | exact Nat.le_refl _ | (simp <;> omega)) _ | refine Ext.trans2 (by assumption) ?_))⟩

set_option maxRecDepth 100000 in
theorem sWriteSegment_c (p : Option Addr) (c : Nat) (xs : List Int) (m : Int) (t : ByteArray) (w : World) (hx : IntsAt w p xs) (hl : xs.length ≤ 1048576) (ht : t.size ≤ 1048576) :
    Calls Try.prog 17 #[.slice p xs.length c, vSeg m t] w fun e w' => LC w.heap.size (wsList xs m t) (wsCode xs m t) e w' ∧ Ext w w' := by
  by_cases h1 : isBits xs
  · by_cases h2 : IsSeg m t
    · have hlb := segLen_bd (x := (m, t)) h2
      simp only at hlb
      have H2 := Lib.hid h2
      have hl8 := h1.1
      by_cases h3 : 8192 < (xs.length : Int) + segLen m t
      · have hcode : wsCode xs m t = 3 := by unfold wsCode; rw [if_neg (not_not_intro h1), if_neg (not_not_intro h2), if_pos h3]
        have hlist : wsList xs m t = [] := by unfold wsList; rw [hcode]; exact if_neg (by omega)
        rw [hcode, hlist]
        clear hcode hlist
        go_enter Try.func17, Try.ntmps17
        go_wp2_with (first
          | (go_at_call 80; (with_reducible refine (sIsBits_c _ _ _ _ (hx.ext (by repeat (first | exact Ext.refl _ | assumption | refine Ext.drew ?_ | refine Ext.drewN ?_ _ | refine Ext.iter ?_ _ _ | refine Ext.alloc ?_ _ | refine Ext.setCell ?_ (by first | exact Nat.le_refl _ | (simp <;> omega)) _ | refine Ext.trans2 (by assumption) ?_))) hl).mono ?_); rintro e w1 ⟨⟨hP, rfl⟩ | ⟨hP, rfl⟩, rfl⟩ <;> try contradiction)
          | (go_at_call 20; (with_reducible refine (sIsSegment_c _ _ _ ht).mono ?_); rintro e w1 ⟨⟨hP, rfl⟩ | ⟨hP, rfl⟩, hb⟩ <;> (try contradiction); (obtain ⟨hc, hf, hk, hz⟩ := ecell hb; try (have hx := Ext.trans2 hb (by assumption); obtain ⟨hcx, hfx, hkx, hzx⟩ := ecell hx)))
          | (go_at_call 81; (with_reducible refine (sSegmentLength_c _ _ _ ht).mono ?_); rintro e w2 ⟨⟨hP, rfl⟩ | ⟨hP, rfl⟩, hb2⟩ <;> try contradiction))
        go_ret2
        exact ⟨LC.nil, (by repeat (first | exact Ext.refl _ | assumption | refine Ext.drew ?_ | refine Ext.drewN ?_ _ | refine Ext.iter ?_ _ _ | refine Ext.alloc ?_ _ | refine Ext.setCell ?_ (by first | exact Nat.le_refl _ | (simp <;> omega)) _ | refine Ext.trans2 (by assumption) ?_))⟩
      · have hcode : wsCode xs m t = 0 := by unfold wsCode; rw [if_neg (not_not_intro h1), if_neg (not_not_intro h2), if_neg h3]
        have hlist : wsList xs m t = xs ++ segBits m t := by unfold wsList; rw [hcode]; exact if_pos rfl
        rw [hcode, hlist]
        clear hcode hlist
        go_enter Try.func17, Try.ntmps17
        go_wp2_with (first
          | (go_at_call 80; (with_reducible refine (sIsBits_c _ _ _ _ (hx.ext (by repeat (first | exact Ext.refl _ | assumption | refine Ext.drew ?_ | refine Ext.drewN ?_ _ | refine Ext.iter ?_ _ _ | refine Ext.alloc ?_ _ | refine Ext.setCell ?_ (by first | exact Nat.le_refl _ | (simp <;> omega)) _ | refine Ext.trans2 (by assumption) ?_))) hl).mono ?_); rintro e w1 ⟨⟨hP, rfl⟩ | ⟨hP, rfl⟩, rfl⟩ <;> try contradiction)
          | (go_at_call 20; (with_reducible refine (sIsSegment_c _ _ _ ht).mono ?_); rintro e w1 ⟨⟨hP, rfl⟩ | ⟨hP, rfl⟩, hb⟩ <;> (try contradiction); (obtain ⟨hc, hf, hk, hz⟩ := ecell hb; try (have hx := Ext.trans2 hb (by assumption); obtain ⟨hcx, hfx, hkx, hzx⟩ := ecell hx)))
          | (go_at_call 81; (with_reducible refine (sSegmentLength_c _ _ _ ht).mono ?_); rintro e w2 ⟨⟨hP, rfl⟩ | ⟨hP, rfl⟩, hb2⟩ <;> (try contradiction); have hx2 : Ext w w2 := (((Ext.refl w).alloc _).trans hb).trans hb2; obtain ⟨hc2, hf2, hk2, hz2⟩ := ecell (hb.trans hb2))
          | (go_at_call 82; (with_reducible refine (sWrite_c _ _ _ m t _ (hx.ext hx2) (by omega) H2.out).mono ?_); rintro e w3 ⟨⟨v3, rfl, hr3⟩, hb3⟩))
        go_ret2
        exact ⟨LC.of (hr3.mono hx2.below.size), hx2.trans hb3⟩
    · have hcode : wsCode xs m t = 2 := by unfold wsCode; rw [if_neg (not_not_intro h1), if_pos h2]
      have hlist : wsList xs m t = [] := by unfold wsList; rw [hcode]; exact if_neg (by omega)
      rw [hcode, hlist]
      clear hcode hlist
      go_enter Try.func17, Try.ntmps17
      go_wp2_with (first
        | (go_at_call 80; (with_reducible refine (sIsBits_c _ _ _ _ (hx.ext (by repeat (first | exact Ext.refl _ | assumption | refine Ext.drew ?_ | refine Ext.drewN ?_ _ | refine Ext.iter ?_ _ _ | refine Ext.alloc ?_ _ | refine Ext.setCell ?_ (by first | exact Nat.le_refl _ | (simp <;> omega)) _ | refine Ext.trans2 (by assumption) ?_))) hl).mono ?_); rintro e w1 ⟨⟨hP, rfl⟩ | ⟨hP, rfl⟩, rfl⟩ <;> try contradiction)
        | (go_at_call 20; (with_reducible refine (sIsSegment_c _ _ _ ht).mono ?_); rintro e w1 ⟨⟨hP, rfl⟩ | ⟨hP, rfl⟩, hb⟩ <;> try contradiction))
      go_ret2
      exact ⟨LC.nil, (by repeat (first | exact Ext.refl _ | assumption | refine Ext.drew ?_ | refine Ext.drewN ?_ _ | refine Ext.iter ?_ _ _ | refine Ext.alloc ?_ _ | refine Ext.setCell ?_ (by first | exact Nat.le_refl _ | (simp <;> omega)) _ | refine Ext.trans2 (by assumption) ?_))⟩
  · have hcode : wsCode xs m t = 1 := by unfold wsCode; rw [if_pos h1]
    have hlist : wsList xs m t = [] := by unfold wsList; rw [hcode]; exact if_neg (by omega)
    rw [hcode, hlist]
    clear hcode hlist
    go_enter Try.func17, Try.ntmps17
    go_wp2_with (first
      | (go_at_call 80; (with_reducible refine (sIsBits_c _ _ _ _ (hx.ext (by repeat (first | exact Ext.refl _ | assumption | refine Ext.drew ?_ | refine Ext.drewN ?_ _ | refine Ext.iter ?_ _ _ | refine Ext.alloc ?_ _ | refine Ext.setCell ?_ (by first | exact Nat.le_refl _ | (simp <;> omega)) _ | refine Ext.trans2 (by assumption) ?_))) hl).mono ?_); rintro e w1 ⟨⟨hP, rfl⟩ | ⟨hP, rfl⟩, rfl⟩ <;> try contradiction))
    go_ret2
    exact ⟨LC.nil, (by repeat (first | exact Ext.refl _ | assumption | refine Ext.drew ?_ | refine Ext.drewN ?_ _ | refine Ext.iter ?_ _ _ | refine Ext.alloc ?_ _ | refine Ext.setCell ?_ (by first | exact Nat.le_refl _ | (simp <;> omega)) _ | refine Ext.trans2 (by assumption) ?_))⟩

theorem rB_len (m : Int) (t : ByteArray) : ∀ f a, (rB m t f a).length ≤ 11 * f := by
  intro f
  induction f with
  | zero => intro a; simp [rB]
  | succ f ih =>
    intro a
    have := ih (a + (grp m).toNat)
    have hw := wid_bd m (gN m t a)
    rw [rB]
    split
    · simp
    · rw [List.length_append, bitsOf_len]
      omega
theorem wsList_len (xs : List Int) (m : Int) (t : ByteArray) (hl : xs.length ≤ 1048576) (ht : t.size ≤ 1048576) : (wsList xs m t).length ≤ 50000000 := by
  unfold wsList
  split
  · have := rB_len m t t.size 0
    simp only [segBits, List.length_append, bitsOf_len]
    omega
  · simp
end Go.Proofs.Ytnfbgjgchcgonaa
