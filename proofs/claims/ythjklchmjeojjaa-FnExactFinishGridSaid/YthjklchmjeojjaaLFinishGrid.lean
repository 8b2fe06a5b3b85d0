
/- FnExactFinishGrid: for every input the program's FinishGrid returns what the reference's returns, in memory of its own, and leaves its argument as it was. No conditions. -/
import Derived.Test.YthjklchmjeojjaaFinish
import Derived.Test.YthjklchmjeojjaaGridLaw
import Derived.Test.YthjklchmjeojjaaRead
namespace Go.Proofs.Ythjklchmjeojjaa
set_option linter.unusedVariables false
set_option linter.unusedSimpArgs false
open Go.RowKit Go.ChangeShapes Go.WideShapes Go.ChangeAt

theorem markGrid_c2 (B : Nat) (r c : Int) (p : Option Addr) (k : Nat) (xs : List Int) (w : World) (hx : OwnInts B w p xs) (hl : xs.length ≤ 1048576) (hB : B ≤ w.heap.size) :
    Calls Try.prog 24 #[vGrid r c p xs.length k, .int .i64 1] w fun e w' => e = .returned (.int .i64 (1 + xs.length)) ∧ OwnInts B w' p (marksL 1 xs.length) ∧ Below B w w' ∧ ∀ k, k < w.heap.size → (∀ b o, xs ≠ [] → p = some ⟨b, o, none⟩ → b ≠ k) → w'.heap[k]? = w.heap[k]? := by
  have hx0 : Ext w (w.alloc (.cells #[.int .i64 r, .int .i64 c, .slice p xs.length k] 26)) := (Ext.refl w).alloc _
  have hmk := Lib.hid (mark_c B p k 1 xs (w.alloc (.cells #[.int .i64 r, .int .i64 c, .slice p xs.length k] 26)) (hx.ext hx0) (by omega) (by omega))
  go_enter Try.func24, Try.ntmps24
  go_wp2_with fail
  refine hmk.out.mono ?_
  rintro e w1 ⟨rfl, oq1, hb1, hk1⟩
  go_wp2_with fail
  go_ret
  exact ⟨rfl, oq1, (hx0.below.mono hB).trans hb1, fun j hj hd => (hk1 j (by simp; omega) hd).trans (hx0.below.block j hj)⟩
theorem heldGrid_c (r c : Int) (p : Option Addr) (k n : Nat) (w : World) (hx : IntsAt w p (marksL 1 n)) (hl : n ≤ 1048576) :
    Calls Try.prog 25 #[vGrid r c p n k, .int .i64 1] w fun e w' => e = .returned (.int .i64 (1 + n)) ∧ Ext w w' := by
  have hx0 : Ext w (w.alloc (.cells #[.int .i64 r, .int .i64 c, .slice p n k] 26)) := (Ext.refl w).alloc _
  have hh := Lib.hid (heldInt64S_c p k 1 n (w.alloc (.cells #[.int .i64 r, .int .i64 c, .slice p n k] 26)) (hx.ext hx0) (by omega) (by omega))
  have hn : ¬ (1 : Int) + n < 0 := by omega
  go_enter Try.func25, Try.ntmps25
  go_wp2_with (go_at_call 55; (with_reducible refine hh.out.mono ?_); rintro e w1 ⟨rfl, rfl⟩)
  go_ret
  exact ⟨rfl, hx0⟩
set_option maxHeartbeats 1600000 in
set_option maxRecDepth 100000 in
theorem finishGrid_law (r c l m : Int) (p : Option Addr) (k : Nat) (xs : List Int) (w : World) (hx : IntsAt w p xs) (hlm : xs.length ≤ maxLen) :
    Calls Try.prog 5 #[vGrid r c p xs.length k, .int .i64 l, .int .i64 m] w fun e w' => e = .returned (.bool true) ∧ Ext w w' := by
  have HX := Lib.hid hx; clear hx
  unfold maxLen at hlm
  have hbox := Blk.new w #[.int .i64 r, .int .i64 c, .slice p xs.length k] 43
  have hx0 : Ext w (w.alloc (.cells #[.int .i64 r, .int .i64 c, .slice p xs.length k] 43)) := (Ext.refl w).alloc _
  by_cases hl : xs.length ≤ 1048576
  · have hsz := Lib.hid (fun W => szGrid_c r c p k xs.length W (by omega))
    rw [if_pos hl] at hsz
    have htg := Lib.hid (fun W (h : IntsAt W p xs) => toGrid_c r c p k xs W h hl)
    have hib := Lib.hid (fun q W (h : IntsAt W q xs) => iFinishGrid_c r c l m q xs.length xs W h hl)
    have hsb := Lib.hid (fun q W (h : IntsAt W q xs) => sFinishGrid_c r c l m q xs.length xs W h hl)
    have hbl := fgV_len r c xs l m hl
    generalize (fgV r c xs l m).2.2.2 = L at *
    generalize (fgV r c xs l m).2.2.1 = C at *
    generalize (fgV r c xs l m).2.1 = R at *
    generalize (fgV r c xs l m).1 = K at *
    have hn0 : ¬ (1048576 : Int) - xs.length < 0 := by omega
    have hn1 : ¬ (1 : Int) + xs.length < 0 := by omega
    have hn2 : ¬ (1 : Int) + L.length < 0 := by omega
    have heq := Lib.hid (fun W p q k l (h1 : IntsAt W p L) (h2 : IntsAt W q L) => eqGrid_c R C p q k l L W h1 h2 hbl)
    have FB := Lib.hid (fun W (h : Ext (w.alloc (.cells #[.int .i64 r, .int .i64 c, .slice p xs.length k] 43)) W) => hbox.ext h)
    go_enter Try.func5, Try.ntmps5
    go_wp2_with (go_at_call 19; (with_reducible refine (hsz.out _).mono ?_); rintro e w1 ⟨rfl, hx1⟩; have hb1 := FB.out _ hx1; have q0 := hb1.cell (i := 0) (v := .int .i64 r) rfl; have q1 := hb1.cell (i := 1) (v := .int .i64 c) rfl; have q2 := hb1.cell (i := 2) (v := .slice p xs.length k) rfl; have ql := hb1.lt)
    refine (htg.out _ (HX.out.ext (hx0.trans hx1))).mono ?_
    rintro e w2 ⟨⟨p2, rfl, oq2⟩, hx2⟩
    go_wp2_with fail
    refine (hsb.out _ _ oq2.ints).mono ?_
    rintro e w3 ⟨⟨p3, k3, rfl, oq3, hk3⟩, hx3⟩
    have hx03 := (hx1.trans hx2).trans hx3
    have hA := Blk.new w3 #[.int .i64 R, .int .i64 C, .slice p3 L.length k3] 26
    have hx3A : Ext w3 (w3.alloc (.cells #[.int .i64 R, .int .i64 C, .slice p3 L.length k3] 26)) := (Ext.refl w3).alloc _
    have hx0A := hx03.trans hx3A
    have i3 := Lib.hid (oq3.ints.ext hx3A)
    have hbA := FB.out _ hx0A
    have q0 := hbA.cell (i := 0) (v := .int .i64 r) rfl; have q1 := hbA.cell (i := 1) (v := .int .i64 c) rfl; have q2 := hbA.cell (i := 2) (v := .slice p xs.length k) rfl; have ql := hbA.lt
    clear oq2 hb1 oq3
    go_wp2_with fail
    generalize w3.alloc (.cells #[.int .i64 R, .int .i64 C, .slice p3 L.length k3] 26) = wA at *
    generalize w3.heap.size = gA at *
    have hAl := hA.lt
    refine (htg.out _ (HX.out.ext (hx0.trans hx0A))).mono ?_
    rintro e w4 ⟨⟨p4, rfl, oq4⟩, hx4⟩
    have hB := Blk.new w4 #[.int .i64 r, .int .i64 c, .slice p4 xs.length xs.length] 26
    have hx4B : Ext w4 (w4.alloc (.cells #[.int .i64 r, .int .i64 c, .slice p4 xs.length xs.length] 26)) := (Ext.refl w4).alloc _
    have hlB : w4.heap.size < (w4.alloc (.cells #[.int .i64 r, .int .i64 c, .slice p4 xs.length xs.length] 26)).heap.size := by simp
    have hz4 := hx4.below.size
    have hp4 : ∀ b o, xs ≠ [] → p4 = some ⟨b, o, none⟩ → b < w4.heap.size := fun b o hn hp => (oq4.lt0 hn hp).2
    have hp4 := Lib.hid hp4
    have oqB := Lib.hid (oq4.ext hx4B)
    go_wp2_with fail
    generalize w4.alloc (.cells #[.int .i64 r, .int .i64 c, .slice p4 xs.length xs.length] 26) = wB at *
    generalize w4.heap.size = gB at *
    refine (hib.out _ _ oqB.out.ints).mono ?_
    rintro e w6 ⟨⟨p6, k6, rfl, oq6, hk6⟩, hx6⟩
    have hC := Blk.new w6 #[.int .i64 R, .int .i64 C, .slice p6 L.length k6] 26
    have hx6C : Ext w6 (w6.alloc (.cells #[.int .i64 R, .int .i64 C, .slice p6 L.length k6] 26)) := (Ext.refl w6).alloc _
    have hlC : w6.heap.size < (w6.alloc (.cells #[.int .i64 R, .int .i64 C, .slice p6 L.length k6] 26)).heap.size := by simp
    have hz6 := hx6.below.size
    have hp6 : ∀ b o, L ≠ [] → p6 = some ⟨b, o, none⟩ → wB.heap.size ≤ b ∧ b < w6.heap.size := fun b o hn hp => oq6.lt0 hn hp
    have hp6 := Lib.hid hp6
    have oqC := Lib.hid (oq6.ext hx6C)
    have hxAC := ((hx4.trans hx4B).trans hx6).trans hx6C
    have hxBC := hx6.trans hx6C
    replace hA := hA.ext hxAC
    replace hB := hB.ext hxBC
    have hbC := FB.out _ (hx0A.trans hxAC)
    have i3C := Lib.hid (i3.out.ext hxAC)
    have oqBC := Lib.hid (oqB.out.ext hxBC)
    clear oq4 oq6 hbA hx6 hx6C hx4 hx4B q0 q1 q2 ql hx3A hx3 hx03 hx2 hx1
    have a0 := hA.cell (i := 0) (v := .int .i64 R) rfl; have a1 := hA.cell (i := 1) (v := .int .i64 C) rfl; have a2 := hA.cell (i := 2) (v := .slice p3 L.length k3) rfl; have al := hA.lt
    have c0 := hC.cell (i := 0) (v := .int .i64 R) rfl; have c1 := hC.cell (i := 1) (v := .int .i64 C) rfl; have c2 := hC.cell (i := 2) (v := .slice p6 L.length k6) rfl; have cl := hC.lt
    go_wp2_with fail
    generalize w6.alloc (.cells #[.int .i64 R, .int .i64 C, .slice p6 L.length k6] 26) = wC at *
    generalize w6.heap.size = gC at *
    refine (heq.out _ _ _ _ _ oqC.out.ints i3C.out).mono ?_
    rintro e w7 ⟨rfl, hx7⟩
    have hA7 := hA.ext hx7; have hB7 := hB.ext hx7; have hC7 := hC.ext hx7; have hb7 := hbC.ext hx7
    have q0 := hb7.cell (i := 0) (v := .int .i64 r) rfl; have q1 := hb7.cell (i := 1) (v := .int .i64 c) rfl; have q2 := hb7.cell (i := 2) (v := .slice p xs.length k) rfl; have ql := hb7.lt
    have g0 := hB7.cell (i := 0) (v := .int .i64 r) rfl; have g1 := hB7.cell (i := 1) (v := .int .i64 c) rfl; have g2 := hB7.cell (i := 2) (v := .slice p4 xs.length xs.length) rfl; have gl := hB7.lt
    clear a0 a1 a2 al c0 c1 c2 cl
    go_wp2_with fail
    refine wp_region_canon (fun w' => Ext w7 w') [(0, true), (1, true), (2, false), (3, false), (4, true)] (by kernel_rfl) (by kernel_rfl) (by decide) (by kernel_rfl) ?_ ?_
    · exact (by repeat (first | exact Ext.refl _ | assumption | refine Ext.drew ?_ | refine Ext.drewN ?_ _ | refine Ext.iter ?_ _ _ | refine Ext.alloc ?_ _ | refine Ext.setCell ?_ (by first | exact Nat.le_refl _ | (simp <;> omega)) _ | refine Ext.trans2 (by assumption) ?_))
    refine canon_intro fun ops eo => ?_
    have ho0 := canon_at eo 0 rfl
    have ho1 := canon_at eo 1 rfl
    have ho2 := canon_at eo 2 rfl
    have ho3 := canon_at eo 3 rfl
    have ho4 := canon_at eo 4 rfl
    clear eo
    all_goals (apply canon_st ho0 rfl; (intro w2 hS; first | (go_simp; first | done | rfl) | rfl | (obtain ⟨hc, hf, hk', hz⟩ := ecell hS; go_simp; first | done | rfl)); simp only [Act.put, List.setIfInBounds_toArray, List.set_cons_zero, List.set_cons_succ])
    all_goals clear ho0
    all_goals (apply canon_st ho1 rfl; (intro w2 hS; first | (go_simp; first | done | rfl) | rfl | (obtain ⟨hc, hf, hk', hz⟩ := ecell hS; go_simp; first | done | rfl)); simp only [Act.put, List.setIfInBounds_toArray, List.set_cons_zero, List.set_cons_succ])
    all_goals clear ho1
    all_goals first | (refine canon_ef ho2 rfl (fun K hK => ?_); go_simp; ((go_at_call 21; (with_reducible refine (htg.out _ (HX.out.ext ((hx0.trans ((hx0A.trans hxAC).trans hx7)).trans (by repeat (first | exact Ext.refl _ | assumption | refine Ext.drew ?_ | refine Ext.drewN ?_ _ | refine Ext.iter ?_ _ _ | refine Ext.alloc ?_ _ | refine Ext.setCell ?_ (by first | exact Nat.le_refl _ | (simp <;> omega)) _ | refine Ext.trans2 (by assumption) ?_))))).mono ?_); rintro e w8 ⟨⟨p8, rfl, oq8⟩, hx8⟩)); all_goals (refine hK _ _ ⟨(by repeat (first | exact Ext.refl _ | assumption | refine Ext.drew ?_ | refine Ext.drewN ?_ _ | refine Ext.iter ?_ _ _ | refine Ext.alloc ?_ _ | refine Ext.setCell ?_ (by first | exact Nat.le_refl _ | (simp <;> omega)) _ | refine Ext.trans2 (by assumption) ?_)), ?_⟩; clear hK K; go_simp)) | (refine canon_ef ho2 rfl (fun K hK => ?_); go_simp; ((go_at_call 23; (with_reducible refine (eqGrid_c r c p4 p8 xs.length xs.length xs _ (oqBC.out.ints.ext (hx7.trans (by repeat (first | exact Ext.refl _ | assumption | refine Ext.drew ?_ | refine Ext.drewN ?_ _ | refine Ext.iter ?_ _ _ | refine Ext.alloc ?_ _ | refine Ext.setCell ?_ (by first | exact Nat.le_refl _ | (simp <;> omega)) _ | refine Ext.trans2 (by assumption) ?_)))) oq8.ints hl).mono ?_); rintro e w9 ⟨rfl, hx9⟩)); all_goals (refine hK _ _ ⟨(by repeat (first | exact Ext.refl _ | assumption | refine Ext.drew ?_ | refine Ext.drewN ?_ _ | refine Ext.iter ?_ _ _ | refine Ext.alloc ?_ _ | refine Ext.setCell ?_ (by first | exact Nat.le_refl _ | (simp <;> omega)) _ | refine Ext.trans2 (by assumption) ?_)), ?_⟩; clear hK K; go_simp))
    all_goals clear ho2
    all_goals first | (refine canon_ef ho3 rfl (fun K hK => ?_); go_simp; ((go_at_call 21; (with_reducible refine (htg.out _ (HX.out.ext ((hx0.trans ((hx0A.trans hxAC).trans hx7)).trans (by repeat (first | exact Ext.refl _ | assumption | refine Ext.drew ?_ | refine Ext.drewN ?_ _ | refine Ext.iter ?_ _ _ | refine Ext.alloc ?_ _ | refine Ext.setCell ?_ (by first | exact Nat.le_refl _ | (simp <;> omega)) _ | refine Ext.trans2 (by assumption) ?_))))).mono ?_); rintro e w8 ⟨⟨p8, rfl, oq8⟩, hx8⟩)); all_goals (refine hK _ _ ⟨(by repeat (first | exact Ext.refl _ | assumption | refine Ext.drew ?_ | refine Ext.drewN ?_ _ | refine Ext.iter ?_ _ _ | refine Ext.alloc ?_ _ | refine Ext.setCell ?_ (by first | exact Nat.le_refl _ | (simp <;> omega)) _ | refine Ext.trans2 (by assumption) ?_)), ?_⟩; clear hK K; go_simp)) | (refine canon_ef ho3 rfl (fun K hK => ?_); go_simp; ((go_at_call 23; (with_reducible refine (eqGrid_c r c p4 p8 xs.length xs.length xs _ (oqBC.out.ints.ext (hx7.trans (by repeat (first | exact Ext.refl _ | assumption | refine Ext.drew ?_ | refine Ext.drewN ?_ _ | refine Ext.iter ?_ _ _ | refine Ext.alloc ?_ _ | refine Ext.setCell ?_ (by first | exact Nat.le_refl _ | (simp <;> omega)) _ | refine Ext.trans2 (by assumption) ?_)))) oq8.ints hl).mono ?_); rintro e w9 ⟨rfl, hx9⟩)); all_goals (refine hK _ _ ⟨(by repeat (first | exact Ext.refl _ | assumption | refine Ext.drew ?_ | refine Ext.drewN ?_ _ | refine Ext.iter ?_ _ _ | refine Ext.alloc ?_ _ | refine Ext.setCell ?_ (by first | exact Nat.le_refl _ | (simp <;> omega)) _ | refine Ext.trans2 (by assumption) ?_)), ?_⟩; clear hK K; go_simp))
    all_goals clear ho3
    all_goals (apply canon_st ho4 rfl; (intro w2 hS; first | (go_simp; first | done | rfl) | rfl | (obtain ⟨hc, hf, hk', hz⟩ := ecell hS; go_simp; first | done | rfl)); simp only [Act.put, List.setIfInBounds_toArray, List.set_cons_zero, List.set_cons_succ])
    all_goals clear ho4
    all_goals refine canon_done (NoPanic.normal ?_)
    have hx79 : Ext w7 w9 := ((Ext.refl w7).drew.trans hx8).trans hx9
    have hxC9 := hx7.trans hx79
    have hA9 := hA7.ext hx79; have hB9 := hB7.ext hx79; have hC9 := hC7.ext hx79
    have g0 := hB9.cell (i := 0) (v := .int .i64 r) rfl; have g1 := hB9.cell (i := 1) (v := .int .i64 c) rfl; have g2 := hB9.cell (i := 2) (v := .slice p4 xs.length xs.length) rfl; have gl := hB9.lt
    have oqC9 := Lib.hid (oqC.out.ext hxC9)
    have hxA9 := hxAC.trans hxC9
    clear oq8 hx8 hx9 q0 q1 q2 ql hA7 hB7 hC7 hb7
    go_wp2_with fail
    refine (markGrid_c wA.heap.size r c p4 xs.length xs w9 (oqBC.out.ext hxC9) hl hxA9.below.size).mono ?_
    rintro e w10 ⟨rfl, hb10, hk10⟩
    have hxA10 : Ext wA w10 := hxA9.low hb10 (Nat.le_refl _)
    have hzC9 := hxC9.below.size
    have hzB := hxBC.below.size
    have hne : ∀ j, gB ≤ j → ∀ b' o', xs ≠ [] → p4 = some ⟨b', o', none⟩ → b' ≠ j := fun j hj b' o' hn hp => by have := hp4.out b' o' hn hp; omega
    have oq10 : OwnInts wB.heap.size w10 p6 L := oqC9.out.keep hb10.size fun b o hn hp hlt => hk10 b hlt (hne b (by have := (hp6.out b o hn hp).1; omega))
    have hA10 : Blk w10 gA #[.int .i64 R, .int .i64 C, .slice p3 L.length k3] 26 := hA9.low hb10 hAl
    have hC10 : Blk w10 gC #[.int .i64 R, .int .i64 C, .slice p6 L.length k6] 26 := (hk10 gC hC9.lt (hne gC (by omega))).trans hC9
    have oq10 := Lib.hid oq10
    have i310 := Lib.hid (i3.out.ext hxA10)
    have hz10 := hb10.size
    have a0 := hA10.cell (i := 0) (v := .int .i64 R) rfl; have a1 := hA10.cell (i := 1) (v := .int .i64 C) rfl; have a2 := hA10.cell (i := 2) (v := .slice p3 L.length k3) rfl; have al := hA10.lt
    have c0 := hC10.cell (i := 0) (v := .int .i64 R) rfl; have c1 := hC10.cell (i := 1) (v := .int .i64 C) rfl; have c2 := hC10.cell (i := 2) (v := .slice p6 L.length k6) rfl; have cl := hC10.lt
    clear hk10 hb10 hne g0 g1 g2 gl hA9 hB9 hC9
    go_wp2_with fail
    refine (heq.out _ _ _ _ _ oq10.out.ints i310.out).mono ?_
    rintro e w11 ⟨rfl, hx11⟩
    have hC11 := hC10.ext hx11; have hA11 := hA10.ext hx11
    have oq11 := Lib.hid (oq10.out.ext hx11)
    have hxA11 := hxA10.trans hx11
    clear a0 a1 a2 al c0 c1 c2 cl
    have c0 := hC11.cell (i := 0) (v := .int .i64 R) rfl; have c1 := hC11.cell (i := 1) (v := .int .i64 C) rfl; have c2 := hC11.cell (i := 2) (v := .slice p6 L.length k6) rfl; have cl := hC11.lt
    have hzAB : wA.heap.size ≤ wB.heap.size := by omega
    have hzB11 : wB.heap.size ≤ w11.heap.size := by have := hx11.below.size; omega
    go_wp2_with fail
    refine (markGrid_c2 wB.heap.size R C p6 k6 L w11 oq11.out hbl hzB11).mono ?_
    rintro e w12 ⟨rfl, oq12, hb12, hk12⟩
    have hxA12 : Ext wA w12 := hxA11.low hb12 hzAB
    have hC12 : Blk w12 gC #[.int .i64 R, .int .i64 C, .slice p6 L.length k6] 26 := (hk12 gC hC11.lt (fun b' o' hn hp => by have := (hp6.out b' o' hn hp).2; omega)).trans hC11
    have hA12 : Blk w12 gA #[.int .i64 R, .int .i64 C, .slice p3 L.length k3] 26 := hA11.low hb12 (by omega)
    have i312 := Lib.hid (i3.out.ext hxA12)
    have m12 := Lib.hid oq12.ints
    have hbx12 := FB.out _ (hx0A.trans hxA12)
    have hzC12 := hb12.size
    clear hk12 hb12 oq12 c0 c1 c2 cl
    have c0 := hC12.cell (i := 0) (v := .int .i64 R) rfl; have c1 := hC12.cell (i := 1) (v := .int .i64 C) rfl; have c2 := hC12.cell (i := 2) (v := .slice p6 L.length k6) rfl; have cl := hC12.lt
    go_wp2_with fail
    refine (heldGrid_c R C p6 k6 L.length w12 m12.out hbl).mono ?_
    rintro e w13 ⟨rfl, hx13⟩
    have hbx13 := hbx12.ext hx13
    have q0 := hbx13.cell (i := 0) (v := .int .i64 r) rfl; have q1 := hbx13.cell (i := 1) (v := .int .i64 c) rfl; have q2 := hbx13.cell (i := 2) (v := .slice p xs.length k) rfl; have ql := hbx13.lt
    clear c0 c1 c2 cl
    go_wp2_with fail
    refine (htg.out _ (HX.out.ext ((hx0.trans (hx0A.trans hxA12)).trans hx13))).mono ?_
    rintro e w14 ⟨⟨p14, rfl, oq14⟩, hx14⟩
    clear q0 q1 q2 ql
    have oq14 := Lib.hid oq14.ints
    go_wp2_with fail
    refine (hib.out _ _ oq14.out).mono ?_
    rintro e w15 ⟨⟨p15, k15, rfl, oq15, hk15⟩, hx15⟩
    have hD := Blk.new w15 #[.int .i64 R, .int .i64 C, .slice p15 L.length k15] 26
    have hx15D : Ext w15 (w15.alloc (.cells #[.int .i64 R, .int .i64 C, .slice p15 L.length k15] 26)) := (Ext.refl w15).alloc _
    have hx12D := ((hx13.trans hx14).trans hx15).trans hx15D
    have i15 := Lib.hid (oq15.ints.ext hx15D)
    have hAD := hA12.ext hx12D; have hCD := hC12.ext hx12D
    have mD := Lib.hid (m12.out.ext hx12D)
    have i3D := Lib.hid (i312.out.ext hx12D)
    have hxAD := hxA12.trans hx12D
    clear oq15 hx15D hx13 hx14 hx15 hA12 hC12
    have a0 := hAD.cell (i := 0) (v := .int .i64 R) rfl; have a1 := hAD.cell (i := 1) (v := .int .i64 C) rfl; have a2 := hAD.cell (i := 2) (v := .slice p3 L.length k3) rfl; have al := hAD.lt
    have d0 := hD.cell (i := 0) (v := .int .i64 R) rfl; have d1 := hD.cell (i := 1) (v := .int .i64 C) rfl; have d2 := hD.cell (i := 2) (v := .slice p15 L.length k15) rfl; have dl := hD.lt
    go_wp2_with fail
    generalize w15.alloc (.cells #[.int .i64 R, .int .i64 C, .slice p15 L.length k15] 26) = wD at *
    generalize w15.heap.size = gD at *
    refine (heq.out _ _ _ _ _ i15.out i3D.out).mono ?_
    rintro e w16 ⟨rfl, hx16⟩
    have hC16 := hCD.ext hx16
    clear a0 a1 a2 al d0 d1 d2 dl
    have c0 := hC16.cell (i := 0) (v := .int .i64 R) rfl; have c1 := hC16.cell (i := 1) (v := .int .i64 C) rfl; have c2 := hC16.cell (i := 2) (v := .slice p6 L.length k6) rfl; have cl := hC16.lt
    go_wp2_with fail
    refine (heldGrid_c R C p6 k6 L.length w16 (mD.out.ext hx16) hbl).mono ?_
    rintro e w17 ⟨rfl, hx17⟩
    clear c0 c1 c2 cl
    go_wp2_with fail
    go_ret
    exact ⟨rfl, (hx0.trans hx0A).trans ((hxAD.trans hx16).trans hx17)⟩
  · have hsz := Lib.hid (fun W => szGrid_c r c p k xs.length W (by omega))
    rw [if_neg hl] at hsz
    go_enter Try.func5, Try.ntmps5
    go_wp2_with (go_at_call 19; (with_reducible refine (hsz.out _).mono ?_); rintro e w1 ⟨rfl, hx1⟩)
    go_ret
    exact ⟨rfl, hx0.trans hx1⟩
theorem open_GridLM {w : World} {cs : List Value} (h : rds w [.i .i64, .i .i64, .sl (.i .i64)] cs) : ∃ (r c : Int) (p : Option Addr) (k : Nat) (xs : List Int), cs = [.int .i64 r, .int .i64 c, .slice p xs.length k] ∧ xs.length ≤ maxLen ∧ IntsAt w p xs := by
  obtain ⟨r, _, rfl, _, h⟩ := rds_int h
  obtain ⟨c, _, rfl, _, h⟩ := rds_int h
  obtain ⟨v, _, rfl, hv, h3⟩ := rds_sl h
  obtain ⟨p, k, xs, rfl, hl, hx, _⟩ := rd_ints hv
  obtain rfl := rds_nil h3
  exact ⟨r, c, p, k, xs, rfl, hl, hx⟩
namespace fnExactFinishGrid
set_option maxRecDepth 100000 in
theorem lifted (os : Os) (started : os.Started) (H : Type) (enc : TypeId × Value → H) :
    ReturnsInHanded {} Try.checked os 5 .any (Rows.fnExactFinishGridSpec.pre6 enc Try.prog Try.f5 Rows.fnExactFinishGridRow.domain false) (Rows.fnExactFinishGridSpec.post enc Try.prog Try.f5 false true false false) := by
  refine returnsInHanded_of_change (C := Try.checked) lawOwn started (by kernel_rfl) Try.func5
    (ChangeSpec.witness6 (enc := enc) (C := Try.checked) false ⟨#[], #[.agg #[.int .i64 0, .int .i64 0, .slice none 0 0], .int .i64 0, .int .i64 0], []⟩ 8 (by kernel_rfl) (by kernel_rfl) (by kernel_rfl) (by kernel_rfl)) ?_
  intro W base args ds gs before hval0 hW hcnd _
  have hval : ∀ (j : Nat) t v, Try.f5.params[j]? = some t → args[j]? = some v → Value.okWide Try.prog W .any base t v := hval0
  have hW' := hW
  obtain ⟨p, q, hA0, hV, rfl, hfz, hnd⟩ := hW
  have hA : DataW.TrodAll enc Try.prog W 0 (fun _ => true) true Try.f5.params.toList args.toList ds p := hA0
  rw [Try.params5] at hA hval
  obtain ⟨v0, vs0, d0, ds0, p0, q0, hargs, rfl, rfl, h0, r0⟩ := trodAll_cons hA
  obtain ⟨v1, vs1, d1, ds1, p1, q1, rfl, rfl, rfl, h1, r1⟩ := trodAll_cons r0
  obtain ⟨v2, vs2, d2, ds2, p2, q2, rfl, rfl, rfl, h2, r2⟩ := trodAll_cons r1
  obtain ⟨rfl, rfl, rfl⟩ := trodAll_nil r2
  obtain rfl : args = #[v0, v1, v2] := by cases args; simp_all
  obtain ⟨rfl, rfl⟩ := trodVars_none hV
  have lt0 : ∀ x ∈ p0, x.block < W.heap.size := by obtain ⟨m, hm⟩ := h0; exact DataW.trod_lt m _ _ _ hm
  obtain ⟨a0, rfl, s0⟩ := arg_st 9 [.i .i64, .i .i64, .sl (.i .i64)] (by kernel_rfl) Try.underlying43 (hval 0 43 v0 rfl rfl) h0
  have lt1 : ∀ x ∈ p1, x.block < W.heap.size := by obtain ⟨m, hm⟩ := h1; exact DataW.trod_lt m _ _ _ hm
  obtain ⟨a1, rfl, s1⟩ := arg_int Try.underlying2 (hval 1 2 v1 rfl rfl) h1
  have lt2 : ∀ x ∈ p2, x.block < W.heap.size := by obtain ⟨m, hm⟩ := h2; exact DataW.trod_lt m _ _ _ hm
  obtain ⟨a2, rfl, s2⟩ := arg_int Try.underlying2 (hval 2 2 v2 rfl rfl) h2
  obtain ⟨r, c, pp, kk, xs, rfl, hxl, hxs⟩ := open_GridLM s0
  refine (finishGrid_law r c a1 a2 pp kk xs W hxs hxl).mono fun e W' ⟨he, hg⟩ => ?_
  have bel : Below W.heap.size W W' := hg
  subst he
  exact ⟨_, rfl, _, _, _, [], _, [], hW', trodAll_mk1 (shut_bool Try.underlying4 _), (trodAll_cons_mk (Below.trod lawLaid (by kernel_rfl) (of_decide_eq_true (by kernel_rfl)) h0 bel lt0) (trodAll_cons_mk (Below.trod lawLaid (by kernel_rfl) (of_decide_eq_true (by kernel_rfl)) h1 bel lt1) (trodAll_cons_mk (Below.trod lawLaid (by kernel_rfl) (of_decide_eq_true (by kernel_rfl)) h2 bel lt2) trodAll_mk0))), rfl, bel.frame _, fun h => by cases h⟩
theorem over : Rows.fnExactFinishGridRow.holds Try.pinned (OpenSpec.ofChange Rows.fnExactFinishGridSpec) :=
  OpenClaim.holds_of_wide 5 Try.f5 rfl rfl rfl rfl rfl rfl rfl ⟨rfl, rfl, rfl, rfl, rfl⟩ rfl rfl rfl rfl rfl (by kernel_rfl) Try.func5 (by kernel_rfl)
    (of_decide_eq_true (by kernel_rfl)) (by unfold Func.isWrapper; first | (rw [if_pos (by decide +kernel)]; kernel_rfl) | (rw [if_neg (by decide +kernel)]; exact ⟨rfl, rfl⟩))
    (fun os started H enc _ => lifted os started H enc)
theorem proved : Rows.FnExactFinishGridSaid := over
end fnExactFinishGrid

end Go.Proofs.Ythjklchmjeojjaa
