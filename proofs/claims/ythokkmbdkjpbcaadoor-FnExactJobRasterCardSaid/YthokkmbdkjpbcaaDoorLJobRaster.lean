
/- FnExactJobRaster: for every input the program's JobRaster returns what the reference's returns, in memory of its own. Conditions: the listed package variables of the library hold what their initialisers lay; the card ties that to the program's text. -/
import Derived.Test.YthokkmbdkjpbcaaDoorJRas2
import Derived.Test.YthokkmbdkjpbcaaDoorRasHeld
import Derived.Test.YthokkmbdkjpbcaaDoorErrs
import Derived.Test.YthokkmbdkjpbcaaDoorCard
import Derived.Test.YthokkmbdkjpbcaaDoorCards
import Derived.Lay
namespace Go.Proofs.YthokkmbdkjpbcaaDoor
set_option linter.unusedVariables false
set_option linter.unusedSimpArgs false
open Go.RowKit Go.ChangeShapes Go.WideShapes Go.ChangeAt

set_option maxHeartbeats 1600000 in
set_option maxRecDepth 100000 in
theorem jobRaster_law (s : ByteArray) (w : World) (hs : s.size ≤ maxLen) (hT : Tab10 w) (hM : MaxC w) (hE : ErrC w) :
    Calls Tryd.prog 8 #[.string s] w fun e w' => e = .returned (.bool true) ∧ Ext w w' := by
  have HT := Lib.hid hT; have HM := Lib.hid hM; have HE := Lib.hid hE; clear hT hM hE
  unfold maxLen at hs
  by_cases h : s.size ≤ 1048576
  · have d1 : ¬ (1048576 : Int) < s.size := by omega
    have hsb := Lib.hid (fun W => (sJobRaster_c s W h).mono (fun e w' (h : JrE _ _ _ _ ∧ _) => (And.intro h.1.form h.2)))
    have hib := Lib.hid (fun W (hx : Ext w W) => (iJobRaster_c s W h (HT.out.ext hx) (HM.out.ext hx) (HE.out.ext hx)).mono (fun e w' (h : JrE _ _ _ _ ∧ _) => (And.intro h.1.form h.2)))
    have hbl := jrV_len s
    generalize (jrV s).2.2.2 = OK at *
    generalize (jrV s).2.2.1 = L at *
    generalize (jrV s).2.1 = C at *
    generalize (jrV s).1 = R at *
    have hn2 : ¬ (1 : Int) + L.length < 0 := by omega
    have heq := Lib.hid (fun W p q k l (h1 : IntsAt W p L) (h2 : IntsAt W q L) => eqRaster_c3 R C p q k l L W h1 h2 (by omega))
    go_enter Tryd.func8, Tryd.ntmps8
    go_wp2_with fail
    refine (hsb.out _).mono ?_
    rintro e w3 ⟨⟨p3, k3, rfl, oq3⟩, hx3⟩
    have hA := Blk.new w3 #[.int .i64 R, .int .i64 C, .slice p3 L.length k3] 47
    have hx3A : Ext w3 (w3.alloc (.cells #[.int .i64 R, .int .i64 C, .slice p3 L.length k3] 47)) := (Ext.refl w3).alloc _
    have hx0A := hx3.trans hx3A
    have i3 := Lib.hid (oq3.ints.ext hx3A)
    clear oq3
    go_wp2_with fail
    generalize w3.alloc (.cells #[.int .i64 R, .int .i64 C, .slice p3 L.length k3] 47) = wA at *
    generalize w3.heap.size = gA at *
    have hAl := hA.lt
    refine (hib.out _ hx0A).mono ?_
    rintro e w6 ⟨⟨p6, k6, rfl, oq6⟩, hx6⟩
    have hC := Blk.new w6 #[.int .i64 R, .int .i64 C, .slice p6 L.length k6] 47
    have hx6C : Ext w6 (w6.alloc (.cells #[.int .i64 R, .int .i64 C, .slice p6 L.length k6] 47)) := (Ext.refl w6).alloc _
    have hlC : w6.heap.size < (w6.alloc (.cells #[.int .i64 R, .int .i64 C, .slice p6 L.length k6] 47)).heap.size := by simp
    have hz6 := hx6.below.size
    have hp6 : ∀ b o, L ≠ [] → p6 = some ⟨b, o, none⟩ → wA.heap.size ≤ b ∧ b < w6.heap.size := fun b o hn hp => oq6.lt0 hn hp
    have hp6 := Lib.hid hp6
    have oqC := Lib.hid (oq6.ext hx6C)
    have hxAC := hx6.trans hx6C
    replace hA := hA.ext hxAC
    have i3C := Lib.hid (i3.out.ext hxAC)
    clear oq6 hx6 hx6C hx3A
    have a0 := hA.cell (i := 0) (v := .int .i64 R) rfl; have a1 := hA.cell (i := 1) (v := .int .i64 C) rfl; have a2 := hA.cell (i := 2) (v := .slice p3 L.length k3) rfl; have al := hA.lt
    have c0 := hC.cell (i := 0) (v := .int .i64 R) rfl; have c1 := hC.cell (i := 1) (v := .int .i64 C) rfl; have c2 := hC.cell (i := 2) (v := .slice p6 L.length k6) rfl; have cl := hC.lt
    go_wp2_with fail
    generalize w6.alloc (.cells #[.int .i64 R, .int .i64 C, .slice p6 L.length k6] 47) = wC at *
    generalize w6.heap.size = gC at *
    refine (heq.out _ _ _ _ _ oqC.out.ints i3C.out).mono ?_
    rintro e w11 ⟨rfl, hx11⟩
    have hC11 := hC.ext hx11; have hA11 := hA.ext hx11
    have oq11 := Lib.hid (oqC.out.ext hx11)
    have hxA11 := hxAC.trans hx11
    clear a0 a1 a2 al c0 c1 c2 cl
    have c0 := hC11.cell (i := 0) (v := .int .i64 R) rfl; have c1 := hC11.cell (i := 1) (v := .int .i64 C) rfl; have c2 := hC11.cell (i := 2) (v := .slice p6 L.length k6) rfl; have cl := hC11.lt
    have hzA11 : wA.heap.size ≤ w11.heap.size := hxA11.below.size
    go_wp2_with fail
    refine (markRaster_c3 wA.heap.size R C p6 k6 L w11 oq11.out (by omega) hzA11).mono ?_
    rintro e w12 ⟨rfl, oq12, hb12, hk12⟩
    have hxA12 : Ext wA w12 := hxA11.low hb12 (Nat.le_refl _)
    have hC12 : Blk w12 gC #[.int .i64 R, .int .i64 C, .slice p6 L.length k6] 47 := (hk12 gC hC11.lt (fun b' o' hn hp => by have := (hp6.out b' o' hn hp).2; omega)).trans hC11
    have hA12 : Blk w12 gA #[.int .i64 R, .int .i64 C, .slice p3 L.length k3] 47 := hA11.low hb12 hAl
    have i312 := Lib.hid (i3.out.ext hxA12)
    have m12 := Lib.hid oq12.ints
    have hzC12 := hb12.size
    clear hk12 hb12 oq12 c0 c1 c2 cl
    have c0 := hC12.cell (i := 0) (v := .int .i64 R) rfl; have c1 := hC12.cell (i := 1) (v := .int .i64 C) rfl; have c2 := hC12.cell (i := 2) (v := .slice p6 L.length k6) rfl; have cl := hC12.lt
    go_wp2_with fail
    refine (heldRaster_c3 R C p6 k6 L.length w12 m12.out (by omega)).mono ?_
    rintro e w13 ⟨rfl, hx13⟩
    clear c0 c1 c2 cl
    go_wp2_with fail
    refine (hib.out _ ((hx0A.trans hxA12).trans hx13)).mono ?_
    rintro e w15 ⟨⟨p15, k15, rfl, oq15⟩, hx15⟩
    have hD := Blk.new w15 #[.int .i64 R, .int .i64 C, .slice p15 L.length k15] 47
    have hx15D : Ext w15 (w15.alloc (.cells #[.int .i64 R, .int .i64 C, .slice p15 L.length k15] 47)) := (Ext.refl w15).alloc _
    have hx12D := (hx13.trans hx15).trans hx15D
    have i15 := Lib.hid (oq15.ints.ext hx15D)
    have hAD := hA12.ext hx12D; have hCD := hC12.ext hx12D
    have mD := Lib.hid (m12.out.ext hx12D)
    have i3D := Lib.hid (i312.out.ext hx12D)
    have hxAD := hxA12.trans hx12D
    clear oq15 hx15D hx13 hx15 hA12 hC12
    have a0 := hAD.cell (i := 0) (v := .int .i64 R) rfl; have a1 := hAD.cell (i := 1) (v := .int .i64 C) rfl; have a2 := hAD.cell (i := 2) (v := .slice p3 L.length k3) rfl; have al := hAD.lt
    have d0 := hD.cell (i := 0) (v := .int .i64 R) rfl; have d1 := hD.cell (i := 1) (v := .int .i64 C) rfl; have d2 := hD.cell (i := 2) (v := .slice p15 L.length k15) rfl; have dl := hD.lt
    go_wp2_with fail
    generalize w15.alloc (.cells #[.int .i64 R, .int .i64 C, .slice p15 L.length k15] 47) = wD at *
    generalize w15.heap.size = gD at *
    refine (heq.out _ _ _ _ _ i15.out i3D.out).mono ?_
    rintro e w16 ⟨rfl, hx16⟩
    have hC16 := hCD.ext hx16
    clear a0 a1 a2 al d0 d1 d2 dl
    have c0 := hC16.cell (i := 0) (v := .int .i64 R) rfl; have c1 := hC16.cell (i := 1) (v := .int .i64 C) rfl; have c2 := hC16.cell (i := 2) (v := .slice p6 L.length k6) rfl; have cl := hC16.lt
    go_wp2_with fail
    refine (heldRaster_c3 R C p6 k6 L.length w16 (mD.out.ext hx16) (by omega)).mono ?_
    rintro e w17 ⟨rfl, hx17⟩
    clear c0 c1 c2 cl
    go_wp2_with fail
    go_ret
    exact ⟨rfl, hx0A.trans ((hxAD.trans hx16).trans hx17)⟩
  · have d1 : (1048576 : Int) < s.size := by omega
    go_enter Tryd.func8, Tryd.ntmps8
    go_wp2
    go_ret
    exact ⟨rfl, Ext.refl w⟩
namespace fnExactJobRaster
set_option maxRecDepth 100000 in
theorem lifted (os : Os) (started : os.Started) (H : Type) (enc : TypeId × Value → H) :
    ReturnsInHanded {} Tryd.checked os 8 .any (fun w args => (Rows.fnExactJobRasterSpec.pre enc Tryd.prog Tryd.f8 [] false w args ∧ laidMetH Tryd.prog Rows.fnExactJobRasterRow.laid w) ∧ sizedMet enc Tryd.prog Tryd.f8 (OpenSpec.ofChange Rows.fnExactJobRasterSpec) false w args) (Rows.fnExactJobRasterSpec.post enc Tryd.prog Tryd.f8 false true false false) := by
  refine returns_and_shaped (C := Tryd.checked) (X := fun w _ => laidMetH Tryd.prog Rows.fnExactJobRasterRow.laid w) (fun _ _ _ hh h => h.of_heap hh) lawOwn started (by kernel_rfl) Tryd.func8
    (ChangeSpec.witness_shaped (enc := enc) (C := Tryd.checked) (os := os) (X := fun w _ => laidMetH Tryd.prog Rows.fnExactJobRasterRow.laid w) false (World.laidAll Tryd.prog os Rows.fnExactJobRasterRow.laid) #[.string ByteArray.empty] 8 (World.laidAll_os _ _ _) (World.shaped_of_ZipB (by kernel_rfl) (by kernel_rfl)) (by kernel_rfl) (by kernel_rfl) (by kernel_rfl) (by rw [MakeChecks.laidMetH_plain _ _ _ (by kernel_rfl)]; exact laidMet_laidAll _ (by kernel_rfl) (by kernel_rfl))) ?_
  intro W base args ds gs before hval0 hW hL hsh
  have hval : ∀ (j : Nat) t v, Tryd.f8.params[j]? = some t → args[j]? = some v → Value.okWide Tryd.prog W .any base t v := hval0
  have hW' := hW
  obtain ⟨p, q, hA0, hV, rfl, hfz, hnd⟩ := hW
  have hA : DataW.TrodAll enc Tryd.prog W 0 (fun _ => true) true Tryd.f8.params.toList args.toList ds p := hA0
  rw [Tryd.params8] at hA hval
  obtain ⟨v0, vs0, d0, ds0, p0, q0, hargs, rfl, rfl, h0, r0⟩ := trodAll_cons hA
  obtain ⟨rfl, rfl, rfl⟩ := trodAll_nil r0
  obtain rfl : args = #[v0] := by cases args; simp_all
  obtain ⟨rfl, rfl⟩ := trodVars_none hV
  have lt0 : ∀ x ∈ p0, x.block < W.heap.size := by obtain ⟨m, hm⟩ := h0; exact DataW.trod_lt m _ _ _ hm
  obtain ⟨a0, rfl, s0⟩ := arg_str Tryd.underlying9 (hval 0 9 v0 rfl rfl) h0
  refine (jobRaster_law a0 W s0 (tab10_of hL rfl) (MaxC.of hsh) (errC_of hL rfl rfl)).mono fun e W' ⟨he, hg⟩ => ?_
  have bel : Below W.heap.size W W' := hg
  subst he
  exact ⟨_, rfl, _, _, _, [], _, [], hW', trodAll_mk1 (shut_bool Tryd.underlying4 _), (trodAll_cons_mk (Below.trod lawLaid (by kernel_rfl) (of_decide_eq_true (by kernel_rfl)) h0 bel lt0) trodAll_mk0), rfl, bel.frame _, fun h => by cases h⟩
theorem over : Rows.fnExactJobRasterRow.holds Tryd.pinned (OpenSpec.ofChange Rows.fnExactJobRasterSpec) :=
  OpenClaim.holds_of_wide 8 Tryd.f8 rfl rfl rfl rfl rfl rfl rfl ⟨rfl, rfl, rfl, rfl, rfl⟩ rfl rfl rfl rfl rfl (by kernel_rfl) Tryd.func8 (by kernel_rfl)
    (of_decide_eq_true (by kernel_rfl)) (by unfold Func.isWrapper; first | (rw [if_pos (by decide +kernel)]; kernel_rfl) | (rw [if_neg (by decide +kernel)]; exact ⟨rfl, rfl⟩))
    (fun os started H enc _ => lifted os started H enc)
theorem proved : Rows.FnExactJobRasterCardSaid :=
  Claim7.holds_tied_plain_at .later [] Rows.fnExactJobRasterCard.laidKinds true Rows.fnExactJobRasterCard.stood.harness Rows.fnExactJobRasterCard.stood.looks over (fun _ h => by cases h) (by kernel_rfl) (fun _ h => by cases h) fnExactJobRaster_row_tie rfl ⟨rfl, rfl⟩ (by kernel_rfl) rfl
    (fun f fn hf hfn => by
      obtain rfl : f = 8 := Option.some.inj ((show Tryd.prog.funcNamed "loop.example/g00879/laws.FnExactJobRaster" = some 8 by kernel_rfl).symm.trans hf) |>.symm
      obtain rfl : fn = Tryd.f8 := (Option.some.inj (Tryd.func8.symm.trans hfn)).symm
      exact ⟨by kernel_rfl, fun j t ht => by
        rw [Tryd.params8] at ht
        have hm : t ∈ [9] := by simpa using Array.mem_of_getElem? ht
        have hall : ([9].all fun u => !Tryd.prog.wantsStandIn u) = true := by kernel_rfl
        exact (show Tryd.prog.wantsStandIn t = false by simpa using List.all_eq_true.1 hall t hm)⟩)
    (by kernel_rfl)
end fnExactJobRaster

end Go.Proofs.YthokkmbdkjpbcaaDoor
