
/- FnExactJobOf: for every input the program's JobOf returns what the reference's returns, and leaves its argument as it was. Conditions: the listed package variables of the library hold what their initialisers lay; the card ties that to the program's text. -/
import Derived.Test.YthokkmbdkjpbcaaDoorJobC
import Derived.Test.YthokkmbdkjpbcaaDoorGridLaw
import Derived.Test.YthokkmbdkjpbcaaDoorCard
import Derived.Test.YthokkmbdkjpbcaaDoorCards
import Derived.Lay
namespace Go.Proofs.YthokkmbdkjpbcaaDoor
set_option linter.unusedVariables false
set_option linter.unusedSimpArgs false
open Go.RowKit Go.ChangeShapes Go.WideShapes Go.ChangeAt

set_option maxHeartbeats 800000 in
set_option maxRecDepth 100000 in
theorem jobOf_law (r c : Int) (p : Option Addr) (k : Nat) (xs : List Int) (w : World) (hx : IntsAt w p xs) (hlm : xs.length ≤ maxLen) (hT : Tab10 w) :
    Calls Tryd.prog 3 #[vGrid r c p xs.length k] w fun e w' => e = .returned (.bool true) ∧ Ext w w' := by
  have HX := Lib.hid hx; clear hx
  have HT := Lib.hid hT; clear hT
  unfold maxLen at hlm
  have hbox := Blk.new w #[.int .i64 r, .int .i64 c, .slice p xs.length k] 24
  have hx0 : Ext w (w.alloc (.cells #[.int .i64 r, .int .i64 c, .slice p xs.length k] 24)) := (Ext.refl w).alloc _
  by_cases hl : xs.length ≤ 1048576
  · have hsz := Lib.hid (fun W => szGrid_c r c p k xs.length W (by omega))
    rw [if_pos hl] at hsz
    have htg := Lib.hid (fun W (h : IntsAt W p xs) => toGrid_c r c p k xs W h hl)
    have hib := Lib.hid (fun q W (h : IntsAt W q xs) (hT : Tab10 W) => iJobOf_c r c q xs.length xs W h hl (Nat.le_refl _) hT)
    have hsb := Lib.hid (fun q W (h : IntsAt W q xs) (hT : Tab10 W) => sJobOf_c r c q xs.length xs W h hl (Nat.le_refl _) hT)
    generalize joV r c xs = V at *
    obtain ⟨V1, V2⟩ := V
    simp only at hib hsb
    have hn0 : ¬ (1048576 : Int) - xs.length < 0 := by omega
    have FB : ∀ W, Ext (w.alloc (.cells #[.int .i64 r, .int .i64 c, .slice p xs.length k] 24)) W → Blk W w.heap.size #[.int .i64 r, .int .i64 c, .slice p xs.length k] 24 := fun W h => hbox.ext h
    have FB := Lib.hid FB
    go_enter Tryd.func3, Tryd.ntmps3
    go_wp2_with (go_at_call 12; (with_reducible refine (hsz.out _).mono ?_); rintro e w1 ⟨rfl, hx1⟩; have hb1 := FB.out _ hx1; have q0 := hb1.cell (i := 0) (v := .int .i64 r) rfl; have q1 := hb1.cell (i := 1) (v := .int .i64 c) rfl; have q2 := hb1.cell (i := 2) (v := .slice p xs.length k) rfl; have ql := hb1.lt)
    refine (htg.out _ (HX.out.ext (hx0.trans hx1))).mono ?_
    rintro e w2 ⟨⟨p2, rfl, oq2⟩, hx2⟩
    go_wp2_with fail
    refine (hsb.out _ _ oq2.ints (HT.out.ext ((hx0.trans hx1).trans hx2))).mono ?_
    rintro e w3 ⟨rfl, hx3⟩
    have hx03 := (hx1.trans hx2).trans hx3
    have hb3 := FB.out _ hx03
    have q0 := hb3.cell (i := 0) (v := .int .i64 r) rfl; have q1 := hb3.cell (i := 1) (v := .int .i64 c) rfl; have q2 := hb3.cell (i := 2) (v := .slice p xs.length k) rfl; have ql := hb3.lt
    clear oq2 hb1
    go_wp2_with fail
    refine (htg.out _ (HX.out.ext (hx0.trans hx03))).mono ?_
    rintro e w4 ⟨⟨p4, rfl, oq4⟩, hx4⟩
    have hG4 := Blk.new w4 #[.int .i64 r, .int .i64 c, .slice p4 xs.length xs.length] 28
    have hx5 : Ext w4 (w4.alloc (.cells #[.int .i64 r, .int .i64 c, .slice p4 xs.length xs.length] 28)) := (Ext.refl w4).alloc _
    have hlt5 : w4.heap.size < (w4.alloc (.cells #[.int .i64 r, .int .i64 c, .slice p4 xs.length xs.length] 28)).heap.size := by simp
    go_wp2_with fail
    generalize w4.alloc (.cells #[.int .i64 r, .int .i64 c, .slice p4 xs.length xs.length] 28) = w5 at *
    have oq5 := Lib.hid (oq4.ext hx5)
    generalize w4.heap.size = gx at *
    have hx05 := (hx03.trans hx4).trans hx5
    refine (hib.out _ _ oq5.out.ints (HT.out.ext (hx0.trans hx05))).mono ?_
    rintro e w7 ⟨rfl, hx6⟩
    clear oq4
    have hx07 := hx05.trans hx6
    have hb7 := FB.out _ hx07
    have hG7 := hG4.ext hx6
    clear q0 q1 q2 ql
    have q0 := hb7.cell (i := 0) (v := .int .i64 r) rfl; have q1 := hb7.cell (i := 1) (v := .int .i64 c) rfl; have q2 := hb7.cell (i := 2) (v := .slice p xs.length k) rfl; have ql := hb7.lt
    have g0 := hG7.cell (i := 0) (v := .int .i64 r) rfl; have g1 := hG7.cell (i := 1) (v := .int .i64 c) rfl; have g2 := hG7.cell (i := 2) (v := .slice p4 xs.length xs.length) rfl; have gl := hG7.lt
    go_wp2_with fail
    refine wp_region_canon (fun w' => Ext w7 w') [(0, true), (1, true), (2, false), (3, false), (4, true)] (by kernel_rfl) (by kernel_rfl) (by decide) (by kernel_rfl) ?_ ?_
    · exact (by repeat (first | exact Ext.refl _ | assumption | refine Ext.drew ?_ | refine Ext.drewN ?_ _ | refine Ext.iter ?_ _ _ | refine Ext.alloc ?_ _ | refine Ext.setCell ?_ (by first | exact Nat.le_refl _ | (simp <;> omega)) _ | refine Ext.trans2 (by assumption) ?_))
    refine canon_intro fun ops eo => ?_
    have ho0 := canon_at eo 0 rfl
    have ho1 := canon_at eo 1 rfl
    have ho2 := canon_at eo 2 rfl
    have ho3 := canon_at eo 3 rfl
    have ho4 := canon_at eo 4 rfl
    clear eo
    all_goals (apply canon_st ho0 rfl; (intro w2 hS; first | (go_simp; first | done | rfl) | rfl | (obtain ⟨hc, hf, hk', hz⟩ := ecell hS; go_simp; first | done | rfl)); simp only [Act.put, List.setIfInBounds_toArray, List.set_cons_zero, List.set_cons_succ])
    all_goals clear ho0
    all_goals (apply canon_st ho1 rfl; (intro w2 hS; first | (go_simp; first | done | rfl) | rfl | (obtain ⟨hc, hf, hk', hz⟩ := ecell hS; go_simp; first | done | rfl)); simp only [Act.put, List.setIfInBounds_toArray, List.set_cons_zero, List.set_cons_succ])
    all_goals clear ho1
    all_goals first | (refine canon_ef ho2 rfl (fun K hK => ?_); go_simp; ((go_at_call 14; (with_reducible refine (htg.out _ (HX.out.ext ((hx0.trans hx07).trans (by repeat (first | exact Ext.refl _ | assumption | refine Ext.drew ?_ | refine Ext.drewN ?_ _ | refine Ext.iter ?_ _ _ | refine Ext.alloc ?_ _ | refine Ext.setCell ?_ (by first | exact Nat.le_refl _ | (simp <;> omega)) _ | refine Ext.trans2 (by assumption) ?_))))).mono ?_); rintro e w8 ⟨⟨p8, rfl, oq8⟩, hx8⟩)); all_goals (refine hK _ _ ⟨(by repeat (first | exact Ext.refl _ | assumption | refine Ext.drew ?_ | refine Ext.drewN ?_ _ | refine Ext.iter ?_ _ _ | refine Ext.alloc ?_ _ | refine Ext.setCell ?_ (by first | exact Nat.le_refl _ | (simp <;> omega)) _ | refine Ext.trans2 (by assumption) ?_)), ?_⟩; clear hK K; go_simp)) | (refine canon_ef ho2 rfl (fun K hK => ?_); go_simp; ((go_at_call 16; (with_reducible refine (eqGrid_c r c p4 p8 xs.length xs.length xs _ (oq5.out.ints.ext (hx6.trans (by repeat (first | exact Ext.refl _ | assumption | refine Ext.drew ?_ | refine Ext.drewN ?_ _ | refine Ext.iter ?_ _ _ | refine Ext.alloc ?_ _ | refine Ext.setCell ?_ (by first | exact Nat.le_refl _ | (simp <;> omega)) _ | refine Ext.trans2 (by assumption) ?_)))) oq8.ints hl).mono ?_); rintro e w9 ⟨rfl, hx9⟩)); all_goals (refine hK _ _ ⟨(by repeat (first | exact Ext.refl _ | assumption | refine Ext.drew ?_ | refine Ext.drewN ?_ _ | refine Ext.iter ?_ _ _ | refine Ext.alloc ?_ _ | refine Ext.setCell ?_ (by first | exact Nat.le_refl _ | (simp <;> omega)) _ | refine Ext.trans2 (by assumption) ?_)), ?_⟩; clear hK K; go_simp))
    all_goals clear ho2
    all_goals first | (refine canon_ef ho3 rfl (fun K hK => ?_); go_simp; ((go_at_call 14; (with_reducible refine (htg.out _ (HX.out.ext ((hx0.trans hx07).trans (by repeat (first | exact Ext.refl _ | assumption | refine Ext.drew ?_ | refine Ext.drewN ?_ _ | refine Ext.iter ?_ _ _ | refine Ext.alloc ?_ _ | refine Ext.setCell ?_ (by first | exact Nat.le_refl _ | (simp <;> omega)) _ | refine Ext.trans2 (by assumption) ?_))))).mono ?_); rintro e w8 ⟨⟨p8, rfl, oq8⟩, hx8⟩)); all_goals (refine hK _ _ ⟨(by repeat (first | exact Ext.refl _ | assumption | refine Ext.drew ?_ | refine Ext.drewN ?_ _ | refine Ext.iter ?_ _ _ | refine Ext.alloc ?_ _ | refine Ext.setCell ?_ (by first | exact Nat.le_refl _ | (simp <;> omega)) _ | refine Ext.trans2 (by assumption) ?_)), ?_⟩; clear hK K; go_simp)) | (refine canon_ef ho3 rfl (fun K hK => ?_); go_simp; ((go_at_call 16; (with_reducible refine (eqGrid_c r c p4 p8 xs.length xs.length xs _ (oq5.out.ints.ext (hx6.trans (by repeat (first | exact Ext.refl _ | assumption | refine Ext.drew ?_ | refine Ext.drewN ?_ _ | refine Ext.iter ?_ _ _ | refine Ext.alloc ?_ _ | refine Ext.setCell ?_ (by first | exact Nat.le_refl _ | (simp <;> omega)) _ | refine Ext.trans2 (by assumption) ?_)))) oq8.ints hl).mono ?_); rintro e w9 ⟨rfl, hx9⟩)); all_goals (refine hK _ _ ⟨(by repeat (first | exact Ext.refl _ | assumption | refine Ext.drew ?_ | refine Ext.drewN ?_ _ | refine Ext.iter ?_ _ _ | refine Ext.alloc ?_ _ | refine Ext.setCell ?_ (by first | exact Nat.le_refl _ | (simp <;> omega)) _ | refine Ext.trans2 (by assumption) ?_)), ?_⟩; clear hK K; go_simp))
    all_goals clear ho3
    all_goals (apply canon_st ho4 rfl; (intro w2 hS; first | (go_simp; first | done | rfl) | rfl | (obtain ⟨hc, hf, hk', hz⟩ := ecell hS; go_simp; first | done | rfl)); simp only [Act.put, List.setIfInBounds_toArray, List.set_cons_zero, List.set_cons_succ])
    all_goals clear ho4
    all_goals refine canon_done (NoPanic.normal ?_)
    have hx79 : Ext w7 w9 := ((Ext.refl w7).drew.trans hx8).trans hx9
    go_wp2_with fail
    go_ret
    exact ⟨rfl, (hx0.trans hx07).trans hx79⟩
  · have hsz := Lib.hid (fun W => szGrid_c r c p k xs.length W (by omega))
    rw [if_neg hl] at hsz
    go_enter Tryd.func3, Tryd.ntmps3
    go_wp2_with (go_at_call 12; (with_reducible refine (hsz.out _).mono ?_); rintro e w1 ⟨rfl, hx1⟩)
    go_ret
    exact ⟨rfl, hx0.trans hx1⟩
theorem open_Grid {w : World} {cs : List Value} (h : rds w [.i .i64, .i .i64, .sl (.i .i64)] cs) : ∃ (r c : Int) (p : Option Addr) (k : Nat) (xs : List Int), cs = [.int .i64 r, .int .i64 c, .slice p xs.length k] ∧ xs.length ≤ maxLen ∧ IntsAt w p xs := by
  obtain ⟨r, _, rfl, _, h⟩ := rds_int h
  obtain ⟨c, _, rfl, _, h⟩ := rds_int h
  obtain ⟨v, _, rfl, hv, h3⟩ := rds_sl h
  obtain ⟨p, k, xs, rfl, hl, hx, _⟩ := rd_ints hv
  obtain rfl := rds_nil h3
  exact ⟨r, c, p, k, xs, rfl, hl, hx⟩
namespace fnExactJobOf
theorem door_met (os : Os) (args : Array Value) : laidMetH Tryd.prog Rows.fnExactJobOfRow.laid ((World.doorLaid Tryd.prog 72 os).forCall (fun _ _ => 0) ⟨#[], args, []⟩).memory :=
  laidMetH_of_parts3 (fuel := 8) (laidMet_of_run' 8 (by kernel_rfl) (by kernel_rfl)) (by kernel_rfl) (by kernel_rfl)
set_option maxRecDepth 100000 in
theorem lifted (os : Os) (started : os.Started) (H : Type) (enc : TypeId × Value → H) :
    ReturnsInHanded {} Tryd.checked os 3 .any (fun w args => (Rows.fnExactJobOfSpec.pre enc Tryd.prog Tryd.f3 [] false w args ∧ laidMetH Tryd.prog Rows.fnExactJobOfRow.laid w) ∧ sizedMet enc Tryd.prog Tryd.f3 (OpenSpec.ofChange Rows.fnExactJobOfSpec) false w args) (Rows.fnExactJobOfSpec.post enc Tryd.prog Tryd.f3 false true false false) := by
  refine returns_and_shaped (C := Tryd.checked) (X := fun w _ => laidMetH Tryd.prog Rows.fnExactJobOfRow.laid w) (fun _ _ _ hh h => h.of_heap hh) lawOwn started (by kernel_rfl) Tryd.func3
    (ChangeSpec.witness_shaped (enc := enc) (C := Tryd.checked) (os := os) (X := fun w _ => laidMetH Tryd.prog Rows.fnExactJobOfRow.laid w) false (World.doorLaid Tryd.prog 72 os) #[.agg #[.int .i64 0, .int .i64 0, .slice none 0 0]] 8 rfl (World.shaped_of_RefB (by kernel_rfl) (by kernel_rfl)) (by kernel_rfl) (by kernel_rfl) (by kernel_rfl) (door_met os _)) ?_
  intro W base args ds gs before hval0 hW hL hsh
  have hval : ∀ (j : Nat) t v, Tryd.f3.params[j]? = some t → args[j]? = some v → Value.okWide Tryd.prog W .any base t v := hval0
  have hW' := hW
  obtain ⟨p, q, hA0, hV, rfl, hfz, hnd⟩ := hW
  have hA : DataW.TrodAll enc Tryd.prog W 0 (fun _ => true) true Tryd.f3.params.toList args.toList ds p := hA0
  rw [Tryd.params3] at hA hval
  obtain ⟨v0, vs0, d0, ds0, p0, q0, hargs, rfl, rfl, h0, r0⟩ := trodAll_cons hA
  obtain ⟨rfl, rfl, rfl⟩ := trodAll_nil r0
  obtain rfl : args = #[v0] := by cases args; simp_all
  obtain ⟨rfl, rfl⟩ := trodVars_none hV
  have lt0 : ∀ x ∈ p0, x.block < W.heap.size := by obtain ⟨m, hm⟩ := h0; exact DataW.trod_lt m _ _ _ hm
  obtain ⟨a0, rfl, s0⟩ := arg_st 9 [.i .i64, .i .i64, .sl (.i .i64)] (by kernel_rfl) Tryd.underlying24 (hval 0 24 v0 rfl rfl) h0
  obtain ⟨r, c, pp, kk, xs, rfl, hxl, hxs⟩ := open_Grid s0
  refine (jobOf_law r c pp kk xs W hxs hxl (tab10_of hL rfl)).mono fun e W' ⟨he, hg⟩ => ?_
  have bel : Below W.heap.size W W' := hg
  subst he
  exact ⟨_, rfl, _, _, _, [], _, [], hW', trodAll_mk1 (shut_bool Tryd.underlying4 _), (trodAll_cons_mk (Below.trod lawLaid (by kernel_rfl) (of_decide_eq_true (by kernel_rfl)) h0 bel lt0) trodAll_mk0), rfl, bel.frame _, fun h => by cases h⟩
theorem over : Rows.fnExactJobOfRow.holds Tryd.pinned (OpenSpec.ofChange Rows.fnExactJobOfSpec) :=
  OpenClaim.holds_of_wide 3 Tryd.f3 rfl rfl rfl rfl rfl rfl rfl ⟨rfl, rfl, rfl, rfl, rfl⟩ rfl rfl rfl rfl rfl (by kernel_rfl) Tryd.func3 (by kernel_rfl)
    (of_decide_eq_true (by kernel_rfl)) (by unfold Func.isWrapper; first | (rw [if_pos (by decide +kernel)]; kernel_rfl) | (rw [if_neg (by decide +kernel)]; exact ⟨rfl, rfl⟩))
    (fun os started H enc _ => lifted os started H enc)
theorem proved : Rows.FnExactJobOfCardSaid :=
  Claim7.holds_tied_plain_at .later [] Rows.fnExactJobOfCard.laidKinds true Rows.fnExactJobOfCard.stood.harness Rows.fnExactJobOfCard.stood.looks over (fun _ h => by cases h) (by kernel_rfl) (fun _ h => by cases h) fnExactJobOf_row_tie rfl ⟨rfl, rfl⟩ (by kernel_rfl) rfl
    (fun f fn hf hfn => by
      obtain rfl : f = 3 := Option.some.inj ((show Tryd.prog.funcNamed "loop.example/g00879/laws.FnExactJobOf" = some 3 by kernel_rfl).symm.trans hf) |>.symm
      obtain rfl : fn = Tryd.f3 := (Option.some.inj (Tryd.func3.symm.trans hfn)).symm
      exact ⟨by kernel_rfl, fun j t ht => by
        rw [Tryd.params3] at ht
        have hm : t ∈ [24] := by simpa using Array.mem_of_getElem? ht
        have hall : ([24].all fun u => !Tryd.prog.wantsStandIn u) = true := by kernel_rfl
        exact (show Tryd.prog.wantsStandIn t = false by simpa using List.all_eq_true.1 hall t hm)⟩)
    (by kernel_rfl)
end fnExactJobOf

end Go.Proofs.YthokkmbdkjpbcaaDoor
