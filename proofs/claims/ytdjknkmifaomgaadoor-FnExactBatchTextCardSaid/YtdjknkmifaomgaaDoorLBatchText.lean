
/- FnExactBatchText: for every input the program's BatchText returns what the reference's returns. Conditions: the listed package variables of the library hold what their initialisers lay; the card ties that to the program's text. -/
import Derived.Test.YtdjknkmifaomgaaDoorBatchT
import Derived.Test.YtdjknkmifaomgaaDoorCard
import Derived.Test.YtdjknkmifaomgaaDoorCards
import Derived.Lay
namespace Go.Proofs.YtdjknkmifaomgaaDoor
set_option linter.unusedVariables false
set_option linter.unusedSimpArgs false
open Go.RowKit Go.ChangeShapes Go.WideShapes Go.ChangeAt

set_option maxRecDepth 100000 in
theorem batchText_law (s : ByteArray) (f st c wd : Int) (w : World) (hs : s.size ≤ maxLen) (hT : Tab10 w) (hM : MaxC w) :
    Calls Tryd.prog 6 #[vBatch s f st c wd] w fun e w' => e = .returned (.bool true) ∧ Ext w w' := by
  have hbx := Blk.new w #[.string s, .int .i64 f, .int .i64 st, .int .i64 c, .int .i64 wd] 51
  have hx0 : Ext w (w.alloc (.cells #[.string s, .int .i64 f, .int .i64 st, .int .i64 c, .int .i64 wd] 51)) := (Ext.refl w).alloc _
  have hsz := Lib.hid (fun W => szBatch_c s f st c wd W hs)
  have htb := Lib.hid (fun W => toBatch_c s f st c wd W)
  have hT0 := hT.ext hx0; have hM0 := hM.ext hx0
  by_cases h : s.size ≤ 1048576
  · rw [if_pos h] at hsz
    have d1 : ¬ (1048576 : Int) - s.size < 0 := by omega
    have hsp := Lib.hid (fun W => sBatchText_c s f st c wd W h)
    have him := Lib.hid (fun W (hT : Tab10 W) (hM : MaxC W) => iBatchText_c s f st c wd W h hT hM)
    generalize btV s f st c wd = BT at *
    go_enter Tryd.func6, Tryd.ntmps6
    go_wp2_with (first
      | (go_at_call 23; (with_reducible refine (hsz.out _).mono ?_); rintro e w1 ⟨rfl, hx1⟩; have hb1 := hbx.ext hx1; have a0 := hb1.cell (i := 0) (v := .string s) rfl; have a1 := hb1.cell (i := 1) (v := .int .i64 f) rfl; have a2 := hb1.cell (i := 2) (v := .int .i64 st) rfl; have a3 := hb1.cell (i := 3) (v := .int .i64 c) rfl; have a4 := hb1.cell (i := 4) (v := .int .i64 wd) rfl; have aL := hb1.lt)
      | (go_at_call 25; (with_reducible refine (htb.out _).mono ?_); rintro e w2 ⟨rfl, hx2⟩)
      | (go_at_call 27; (with_reducible refine (hsp.out _).mono ?_); rintro e w3 ⟨rfl, hx3⟩; have hx13 := (hx1.trans hx2).trans hx3; have hb3 := hbx.ext hx13; have b0 := hb3.cell (i := 0) (v := .string s) rfl; have b1 := hb3.cell (i := 1) (v := .int .i64 f) rfl; have b2 := hb3.cell (i := 2) (v := .int .i64 st) rfl; have b3 := hb3.cell (i := 3) (v := .int .i64 c) rfl; have b4 := hb3.cell (i := 4) (v := .int .i64 wd) rfl; have bL := hb3.lt)
      | (go_at_call 28; (with_reducible refine (him.out _ (hT0.ext (hx13.trans hx2)) (hM0.ext (hx13.trans hx2))).mono ?_); rintro e w4 ⟨rfl, hx4⟩))
    go_ret
    exact ⟨rfl, hx0.trans (by repeat (first | exact Ext.refl _ | assumption | refine Ext.drew ?_ | refine Ext.drewN ?_ _ | refine Ext.iter ?_ _ _ | refine Ext.alloc ?_ _ | refine Ext.setCell ?_ (by first | exact Nat.le_refl _ | (simp <;> omega)) _ | refine Ext.trans2 (by assumption) ?_))⟩
  · rw [if_neg h] at hsz
    go_enter Tryd.func6, Tryd.ntmps6
    go_wp2_with (go_at_call 23; (with_reducible refine (hsz.out _).mono ?_); rintro e w1 ⟨rfl, hx1⟩)
    go_ret
    exact ⟨rfl, hx0.trans hx1⟩
theorem open_BatchLM {w : World} {cs : List Value} (h : rds w [.str, .i .i64, .i .i64, .i .i64, .i .i64] cs) : ∃ (s : ByteArray) (f st c wd : Int), cs = [.string s, .int .i64 f, .int .i64 st, .int .i64 c, .int .i64 wd] ∧ s.size ≤ maxLen := by
  obtain ⟨s, _, rfl, hs, h⟩ := rds_str h
  obtain ⟨f, _, rfl, _, h⟩ := rds_int h
  obtain ⟨st, _, rfl, _, h⟩ := rds_int h
  obtain ⟨c, _, rfl, _, h⟩ := rds_int h
  obtain ⟨wd, _, rfl, _, h⟩ := rds_int h
  obtain rfl := rds_nil h
  exact ⟨s, f, st, c, wd, rfl, hs⟩
namespace fnExactBatchText
set_option maxRecDepth 100000 in
theorem lifted (os : Os) (started : os.Started) (H : Type) (enc : TypeId × Value → H) :
    ReturnsInHanded {} Tryd.checked os 6 .any (fun w args => (Rows.fnExactBatchTextSpec.pre enc Tryd.prog Tryd.f6 [] false w args ∧ laidMetH Tryd.prog Rows.fnExactBatchTextRow.laid w) ∧ sizedMet enc Tryd.prog Tryd.f6 (OpenSpec.ofChange Rows.fnExactBatchTextSpec) false w args) (Rows.fnExactBatchTextSpec.post enc Tryd.prog Tryd.f6 false true false false) := by
  refine returns_and_shaped (C := Tryd.checked) (X := fun w _ => laidMetH Tryd.prog Rows.fnExactBatchTextRow.laid w) (fun _ _ _ hh h => h.of_heap hh) lawOwn started (by kernel_rfl) Tryd.func6
    (ChangeSpec.witness_shaped (enc := enc) (C := Tryd.checked) (os := os) (X := fun w _ => laidMetH Tryd.prog Rows.fnExactBatchTextRow.laid w) false (World.laidAll Tryd.prog os Rows.fnExactBatchTextRow.laid) #[.agg #[.string ByteArray.empty, .int .i64 0, .int .i64 0, .int .i64 0, .int .i64 0]] 8 (World.laidAll_os _ _ _) (World.shaped_of_ZipB (by kernel_rfl) (by kernel_rfl)) (by kernel_rfl) (by kernel_rfl) (by kernel_rfl) (by rw [MakeChecks.laidMetH_plain _ _ _ (by kernel_rfl)]; exact laidMet_laidAll _ (by kernel_rfl) (by kernel_rfl))) ?_
  intro W base args ds gs before hval0 hW hL hsh
  have hval : ∀ (j : Nat) t v, Tryd.f6.params[j]? = some t → args[j]? = some v → Value.okWide Tryd.prog W .any base t v := hval0
  have hW' := hW
  obtain ⟨p, q, hA0, hV, rfl, hfz, hnd⟩ := hW
  have hA : DataW.TrodAll enc Tryd.prog W 0 (fun _ => true) true Tryd.f6.params.toList args.toList ds p := hA0
  rw [Tryd.params6] at hA hval
  obtain ⟨v0, vs0, d0, ds0, p0, q0, hargs, rfl, rfl, h0, r0⟩ := trodAll_cons hA
  obtain ⟨rfl, rfl, rfl⟩ := trodAll_nil r0
  obtain rfl : args = #[v0] := by cases args; simp_all
  obtain ⟨rfl, rfl⟩ := trodVars_none hV
  have lt0 : ∀ x ∈ p0, x.block < W.heap.size := by obtain ⟨m, hm⟩ := h0; exact DataW.trod_lt m _ _ _ hm
  obtain ⟨a0, rfl, s0⟩ := arg_st 9 [.str, .i .i64, .i .i64, .i .i64, .i .i64] (by kernel_rfl) Tryd.underlying51 (hval 0 51 v0 rfl rfl) h0
  obtain ⟨s, f, st, c, wd, rfl, hs⟩ := open_BatchLM s0
  refine (batchText_law s f st c wd W hs (tab10_of hL rfl) (MaxC.of hsh)).mono fun e W' ⟨he, hg⟩ => ?_
  have bel : Below W.heap.size W W' := hg
  subst he
  exact ⟨_, rfl, _, _, _, [], _, [], hW', trodAll_mk1 (shut_bool Tryd.underlying4 _), (trodAll_cons_mk (Below.trod lawLaid (by kernel_rfl) (of_decide_eq_true (by kernel_rfl)) h0 bel lt0) trodAll_mk0), rfl, bel.frame _, fun h => by cases h⟩
theorem over : Rows.fnExactBatchTextRow.holds Tryd.pinned (OpenSpec.ofChange Rows.fnExactBatchTextSpec) :=
  OpenClaim.holds_of_wide 6 Tryd.f6 rfl rfl rfl rfl rfl rfl rfl ⟨rfl, rfl, rfl, rfl, rfl⟩ rfl rfl rfl rfl rfl (by kernel_rfl) Tryd.func6 (by kernel_rfl)
    (of_decide_eq_true (by kernel_rfl)) (by unfold Func.isWrapper; first | (rw [if_pos (by decide +kernel)]; kernel_rfl) | (rw [if_neg (by decide +kernel)]; exact ⟨rfl, rfl⟩))
    (fun os started H enc _ => lifted os started H enc)
theorem proved : Rows.FnExactBatchTextCardSaid :=
  Claim7.holds_tied_plain_at .later [] Rows.fnExactBatchTextCard.laidKinds true Rows.fnExactBatchTextCard.stood.harness Rows.fnExactBatchTextCard.stood.looks over (fun _ h => by cases h) (by kernel_rfl) (fun _ h => by cases h) fnExactBatchText_row_tie rfl ⟨rfl, rfl⟩ (by kernel_rfl) rfl
    (fun f fn hf hfn => by
      obtain rfl : f = 6 := Option.some.inj ((show Tryd.prog.funcNamed "loop.example/g00879/laws.FnExactBatchText" = some 6 by kernel_rfl).symm.trans hf) |>.symm
      obtain rfl : fn = Tryd.f6 := (Option.some.inj (Tryd.func6.symm.trans hfn)).symm
      exact ⟨by kernel_rfl, fun j t ht => by
        rw [Tryd.params6] at ht
        have hm : t ∈ [51] := by simpa using Array.mem_of_getElem? ht
        have hall : ([51].all fun u => !Tryd.prog.wantsStandIn u) = true := by kernel_rfl
        exact (show Tryd.prog.wantsStandIn t = false by simpa using List.all_eq_true.1 hall t hm)⟩)
    (by kernel_rfl)
end fnExactBatchText

end Go.Proofs.YtdjknkmifaomgaaDoor
