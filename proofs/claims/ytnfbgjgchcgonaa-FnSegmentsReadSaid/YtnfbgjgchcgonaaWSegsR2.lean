
/- The walk of the law FnSegmentsRead. -/
import Derived.Test.YtnfbgjgchcgonaaSReadS
import Derived.Test.YtnfbgjgchcgonaaReadBack
import Derived.Test.YtnfbgjgchcgonaaDrawRead
import Derived.Test.YtnfbgjgchcgonaaWSegsL
namespace Go.Proofs.Ytnfbgjgchcgonaa
set_option linter.unusedVariables false
set_option linter.unusedSimpArgs false
open Go.RowKit

theorem rsV_back {xs : List Int} {a : Int} {m : Int} {t : ByteArray} {nx : Int} (h : rsV xs a = (m, t, nx, 0)) : ∃ A B : Nat, a = A ∧ nx = B ∧ isBits xs ∧ IsSeg m t ∧ A + 11 ≤ B ∧ B ≤ xs.length ∧ wsCode (xs.take A) m t = 0 ∧ wsList (xs.take A) m t = xs.take B := by
  unfold rsV at h
  by_cases h1 : isBits xs
  · rw [if_neg (not_not_intro h1)] at h
    by_cases h2 : 0 ≤ a ∧ a ≤ xs.length
    · rw [if_neg (not_not_intro h2)] at h
      obtain ⟨A, rfl⟩ : ∃ A : Nat, a = A := ⟨a.toNat, by omega⟩
      rw [Int.toNat_natCast] at h
      cases hr : rdS xs A with
      | none => rw [hr] at h; simp at h
      | some r =>
        rw [hr] at h
        obtain ⟨m', t', b⟩ := r
        simp only [Prod.mk.injEq] at h
        obtain ⟨rfl, rfl, rfl, _⟩ := h
        obtain ⟨r1, r2, r3, r4⟩ := rdS_back h1.2 hr
        have hbt : isBits (xs.take A) := ⟨by rw [List.length_take]; have := h1.1; omega, fun x hx => h1.2 x (List.mem_of_mem_take hx)⟩
        have hsl := segBits_length (t := t') r1.1
        have hll : (segBits m' t').length = b - A := by rw [r4, List.length_take, List.length_drop]; omega
        have hcode : wsCode (xs.take A) m' t' = 0 := by
          unfold wsCode
          rw [if_neg (not_not_intro hbt), if_neg (not_not_intro r1), if_neg (by rw [List.length_take]; have := h1.1; omega)]
        refine ⟨A, b, rfl, rfl, h1, r1, r2, r3, hcode, ?_⟩
        unfold wsList
        rw [hcode]
        refine (if_pos rfl).trans ?_
        rw [r4]
        have := take_drop_app xs (a := 0) (b := A) (c := b) (by omega) (by omega)
        simpa using this
    · rw [if_pos h2] at h; simp at h
  · rw [if_pos h1] at h; simp at h

set_option maxRecDepth 100000 in
theorem segmentsRead_law (p : Option Addr) (c : Nat) (code : List Int) (w : World) (hx : U8At w p code) (hl : code.length ≤ maxLen) :
    Calls Try.prog 4 #[.slice p code.length c] w fun e w' => e = .returned (.bool true) ∧ Ext w w' := by
  have HX := Lib.hid hx; clear hx
  by_cases h4 : code.length ≤ 4096
  · go_enter Try.func4, Try.ntmps4
    go_wp2_with (first
      | (go_at_call 14; (with_reducible refine (big_c _ _ _ _ hl).mono ?_); rintro e w1 ⟨⟨hP, rfl⟩ | ⟨hP, rfl⟩, rfl⟩ <;> first | (exfalso; omega) | skip)
      | (go_at_call 23; (with_reducible refine (DrawReadSegment_c _ _ _ _ HX.out h4).mono ?_); rintro e w2 ⟨p1, c1, xs, a, rfl, hxl, hxw, hx1, hx2⟩; have HXW := Lib.hid hxw; clear hxw))
    have HX1 := Lib.hid hx1; clear hx1
    obtain ⟨m, t, nx, kc, hV⟩ : ∃ m t nx kc, rsV xs a = (m, t, nx, kc) := ⟨_, _, _, _, rfl⟩
    have hV2 := hV
    have hV := Lib.hid hV
    refine (iReadSegment_c p1 c1 xs a _ (HX1.out.ext (by repeat (first | exact Ext.refl _ | assumption | refine Ext.drew ?_ | refine Ext.drewN ?_ _ | refine Ext.iter ?_ _ _ | refine Ext.alloc ?_ _ | refine Ext.setCell ?_ (by first | exact Nat.le_refl _ | (simp <;> omega)) _ | refine Ext.trans2 (by assumption) ?_))) hxl.2 (by omega) HXW.out).mono ?_
    rw [hV.out]
    rintro e w3 ⟨rfl, hx3⟩
    unfold vRs
    have hB := Blk.new w3 #[.int .i64 m, .string t] 26
    have q0 := hB.cell (i := 0) (v := .int .i64 m) rfl
    have q1 := hB.cell (i := 1) (v := .string t) rfl
    clear hV2
    go_wp2_with fail
    refine (sReadSegment_c p1 c1 xs a _ (HX1.out.ext (hx3.alloc _)) (by omega)).mono ?_
    rw [hV.out]
    rintro e w4 ⟨rfl, hx4⟩
    unfold vRs
    have hB4 := hB.ext hx4
    have q0 := hB4.cell (i := 0) (v := .int .i64 m) rfl
    have q1 := hB4.cell (i := 1) (v := .string t) rfl
    have ql := hB4.lt
    by_cases hk0 : kc = 0
    · subst hk0
      obtain ⟨A, B, rfl, rfl, hbits, hseg, hab, hbl, hcode, hlist⟩ := rsV_back hV.out
      obtain ⟨b, o, rfl, _, _⟩ := HX1.out 0 (by omega)
      have hx04 : Ext w2 (w4.alloc (.cells #[.int .i64 m, .string t] 26)) := ((hx3.alloc _).trans hx4).alloc _
      have hB4a := hB4.alloc (.cells #[.int .i64 m, .string t] 26)
      have q0 := hB4a.cell (i := 0) (v := .int .i64 m) rfl
      have q1 := hB4a.cell (i := 1) (v := .string t) rfl
      have ql := hB4a.lt
      have hlA : (xs.take A).length = A := by rw [List.length_take]; omega
      have hlB : (xs.take B).length = B := by rw [List.length_take]; omega
      have hIT : ∀ (W : World) (k : Nat), k ≤ xs.length → IntsAt W (some ⟨b, o, none⟩) xs → IntsAt W (some ⟨b, o, none⟩) (xs.take k) := fun W k hk h i hi => by
        rw [List.length_take] at hi
        obtain ⟨b', o', e1, e2, e3⟩ := h i (by omega)
        refine ⟨b', o', e1, e2, ?_⟩
        rw [e3, List.getD_eq_getElem?_getD, List.getD_eq_getElem?_getD, List.getElem?_take_of_lt (by omega)]
      have hwr : ∀ W, IntsAt W (some ⟨b, o, none⟩) xs → Calls Try.prog 16 #[.slice (some ⟨b, o, none⟩) A c1, vSeg m t] W fun e w' => LC W.heap.size (xs.take B) 0 e w' ∧ Ext W w' := fun W h => by
        have := iWriteSegment_c (some ⟨b, o, none⟩) c1 (xs.take A) m t W (hIT W A (by omega) h) (by rw [hlA]; omega) (fun x hx => HXW.out x (List.mem_of_mem_take hx)) (by have := hseg.2.1; omega)
        rw [hcode, hlist, hlA] at this
        exact this
      have HWR := Lib.hid hwr; have HIT := Lib.hid hIT; have HLB := Lib.hid hlB
      clear hwr hIT hlA hlB hcode hlist q0 q1
      have hAc : A ≤ c1 := by omega
      have hBc : B ≤ c1 := by omega
      have hAn : (A : Int) ≤ xs.length := by omega
      have hBn : (B : Int) ≤ xs.length := by omega
      go_wp2_with fail
      refine wp_region_canon (fun w' => Ext (w4.alloc (.cells #[.int .i64 m, .string t] 26)) w') [(0, true), (1, true), (2, true), (3, true), (4, false), (5, true), (6, true), (7, true), (8, true), (9, true)] (by kernel_rfl) (by kernel_rfl) (by decide) (by kernel_rfl) ?_ ?_
      · exact (by repeat (first | exact Ext.refl _ | assumption | refine Ext.drew ?_ | refine Ext.drewN ?_ _ | refine Ext.iter ?_ _ _ | refine Ext.alloc ?_ _ | refine Ext.setCell ?_ (by first | exact Nat.le_refl _ | (simp <;> omega)) _ | refine Ext.trans2 (by assumption) ?_))
      refine canon_intro fun ops eo => ?_
      have ho0 := canon_at eo 0 rfl
      have ho1 := canon_at eo 1 rfl
      have ho2 := canon_at eo 2 rfl
      have ho3 := canon_at eo 3 rfl
      have ho4 := canon_at eo 4 rfl
      have ho5 := canon_at eo 5 rfl
      have ho6 := canon_at eo 6 rfl
      have ho7 := canon_at eo 7 rfl
      have ho8 := canon_at eo 8 rfl
      have ho9 := canon_at eo 9 rfl
      clear eo
      all_goals (apply canon_st ho0 rfl; (intro w2 hS; first | (go_simp; first | done | rfl) | rfl | (obtain ⟨hc, hf, hk, hz⟩ := ecell hS; have q0 := hB4a.cell (i := 0) (v := .int .i64 m) rfl; have q1 := hB4a.cell (i := 1) (v := .string t) rfl; go_simp; first | done | rfl)); simp only [Act.put, List.setIfInBounds_toArray, List.set_cons_zero, List.set_cons_succ])
      all_goals clear ho0
      all_goals (apply canon_st ho1 rfl; (intro w2 hS; first | (go_simp; first | done | rfl) | rfl | (obtain ⟨hc, hf, hk, hz⟩ := ecell hS; have q0 := hB4a.cell (i := 0) (v := .int .i64 m) rfl; have q1 := hB4a.cell (i := 1) (v := .string t) rfl; go_simp; first | done | rfl)); simp only [Act.put, List.setIfInBounds_toArray, List.set_cons_zero, List.set_cons_succ])
      all_goals clear ho1
      all_goals (apply canon_st ho2 rfl; (intro w2 hS; first | (go_simp; first | done | rfl) | rfl | (obtain ⟨hc, hf, hk, hz⟩ := ecell hS; have q0 := hB4a.cell (i := 0) (v := .int .i64 m) rfl; have q1 := hB4a.cell (i := 1) (v := .string t) rfl; go_simp; first | done | rfl)); simp only [Act.put, List.setIfInBounds_toArray, List.set_cons_zero, List.set_cons_succ])
      all_goals clear ho2
      all_goals (apply canon_st ho3 rfl; (intro w2 hS; first | (go_simp; first | done | rfl) | rfl | (obtain ⟨hc, hf, hk, hz⟩ := ecell hS; have q0 := hB4a.cell (i := 0) (v := .int .i64 m) rfl; have q1 := hB4a.cell (i := 1) (v := .string t) rfl; go_simp; first | done | rfl)); simp only [Act.put, List.setIfInBounds_toArray, List.set_cons_zero, List.set_cons_succ])
      all_goals clear ho3
      all_goals first | (refine canon_ef ho4 rfl (fun K hK => ?_); go_simp; ((go_at_call 16; (with_reducible refine (HWR.out _ (HX1.out.ext (hx04.trans (by repeat (first | exact Ext.refl _ | assumption | refine Ext.drew ?_ | refine Ext.drewN ?_ _ | refine Ext.iter ?_ _ _ | refine Ext.alloc ?_ _ | refine Ext.setCell ?_ (by first | exact Nat.le_refl _ | (simp <;> omega)) _ | refine Ext.trans2 (by assumption) ?_))))).mono ?_); rintro e w5 ⟨⟨p5, c5, rfl, oq5, hc5⟩, hx5⟩)); all_goals (refine hK _ _ ⟨(by repeat (first | exact Ext.refl _ | assumption | refine Ext.drew ?_ | refine Ext.drewN ?_ _ | refine Ext.iter ?_ _ _ | refine Ext.alloc ?_ _ | refine Ext.setCell ?_ (by first | exact Nat.le_refl _ | (simp <;> omega)) _ | refine Ext.trans2 (by assumption) ?_)), ?_⟩; clear hK K; go_simp))
      all_goals clear ho4
      all_goals (apply canon_st ho5 rfl; (intro w2 hS; first | (go_simp; first | done | rfl) | rfl | (obtain ⟨hc, hf, hk, hz⟩ := ecell hS; have q0 := hB4a.cell (i := 0) (v := .int .i64 m) rfl; have q1 := hB4a.cell (i := 1) (v := .string t) rfl; go_simp; first | done | rfl)); simp only [Act.put, List.setIfInBounds_toArray, List.set_cons_zero, List.set_cons_succ])
      all_goals clear ho5
      all_goals (apply canon_st ho6 rfl; (intro w2 hS; first | (go_simp; first | done | rfl) | rfl | (obtain ⟨hc, hf, hk, hz⟩ := ecell hS; have q0 := hB4a.cell (i := 0) (v := .int .i64 m) rfl; have q1 := hB4a.cell (i := 1) (v := .string t) rfl; go_simp; first | done | rfl)); simp only [Act.put, List.setIfInBounds_toArray, List.set_cons_zero, List.set_cons_succ])
      all_goals clear ho6
      all_goals (apply canon_st ho7 rfl; (intro w2 hS; first | (go_simp; first | done | rfl) | rfl | (obtain ⟨hc, hf, hk, hz⟩ := ecell hS; have q0 := hB4a.cell (i := 0) (v := .int .i64 m) rfl; have q1 := hB4a.cell (i := 1) (v := .string t) rfl; go_simp; first | done | rfl)); simp only [Act.put, List.setIfInBounds_toArray, List.set_cons_zero, List.set_cons_succ])
      all_goals clear ho7
      all_goals (apply canon_st ho8 rfl; (intro w2 hS; first | (go_simp; first | done | rfl) | rfl | (obtain ⟨hc, hf, hk, hz⟩ := ecell hS; have q0 := hB4a.cell (i := 0) (v := .int .i64 m) rfl; have q1 := hB4a.cell (i := 1) (v := .string t) rfl; go_simp; first | done | rfl)); simp only [Act.put, List.setIfInBounds_toArray, List.set_cons_zero, List.set_cons_succ])
      all_goals clear ho8
      all_goals (apply canon_st ho9 rfl; (intro w2 hS; first | (go_simp; first | done | rfl) | rfl | (obtain ⟨hc, hf, hk, hz⟩ := ecell hS; have q0 := hB4a.cell (i := 0) (v := .int .i64 m) rfl; have q1 := hB4a.cell (i := 1) (v := .string t) rfl; go_simp; first | done | rfl)); simp only [Act.put, List.setIfInBounds_toArray, List.set_cons_zero, List.set_cons_succ])
      all_goals clear ho9
      all_goals refine canon_done (NoPanic.normal ?_)
      have hx25 : Ext w2 w5 := hx04.drew.trans hx5
      have hlk := likeInts_c p5 (some ⟨b, o, none⟩) c5 c1 (xs.take B) (xs.take B) w5 oq5.ints (HIT.out w5 B hbl (HX1.out.ext hx25)) (by rw [HLB.out]; omega) (by rw [HLB.out]; omega)
      rw [HLB.out] at hlk
      have HLK := Lib.hid hlk
      clear hlk hx5 oq5 hc5
      go_wp2_with (go_at_call 18; (with_reducible refine HLK.out.mono ?_); rintro e w6 ⟨⟨_, rfl⟩ | ⟨hne, rfl⟩, n6, rfl⟩; rotate_left 1; exact absurd rfl hne)
      go_ret
      exact ⟨rfl, (hx2.trans hx25).drewN n6⟩
    · have hkn : (kc != 0) = true := by simpa using hk0
      go_wp2
      go_ret
      exact ⟨rfl, hx2.trans (((hx3.alloc _).trans hx4).alloc _)⟩
  · go_enter Try.func4, Try.ntmps4
    go_wp2_with (first
      | (go_at_call 14; (with_reducible refine (big_c _ _ _ _ hl).mono ?_); rintro e w1 ⟨⟨hP, rfl⟩ | ⟨hP, rfl⟩, rfl⟩ <;> first | (exfalso; omega) | skip))
    go_ret
    exact ⟨rfl, (by repeat (first | exact Ext.refl _ | assumption | refine Ext.drew ?_ | refine Ext.drewN ?_ _ | refine Ext.iter ?_ _ _ | refine Ext.alloc ?_ _ | refine Ext.setCell ?_ (by first | exact Nat.le_refl _ | (simp <;> omega)) _ | refine Ext.trans2 (by assumption) ?_))⟩
end Go.Proofs.Ytnfbgjgchcgonaa
