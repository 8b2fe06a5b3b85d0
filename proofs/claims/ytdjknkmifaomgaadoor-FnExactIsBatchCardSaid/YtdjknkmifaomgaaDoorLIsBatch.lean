
/- FnExactIsBatch: for every input the program's IsBatch returns what the reference's returns. Conditions: the listed package variables of the library hold what their initialisers lay; the card ties that to the program's text. -/
import Derived.Test.YtdjknkmifaomgaaDoorBatchLaw
import Derived.Test.YtdjknkmifaomgaaDoorCard
import Derived.Test.YtdjknkmifaomgaaDoorCards
namespace Go.Proofs.YtdjknkmifaomgaaDoor
set_option linter.unusedVariables false
set_option linter.unusedSimpArgs false
open Go.RowKit Go.ChangeShapes Go.WideShapes Go.ChangeAt

set_option maxRecDepth 100000 in
theorem isBatch_law (s : ByteArray) (f st c wd : Int) (w : World) (hs : s.size ≤ maxLen) (hT : Tab10 w) :
    Calls Tryd.prog 5 #[vBatch s f st c wd] w fun e w' => e = .returned (.bool true) ∧ Ext w w' := by
  have hbx := Blk.new w #[.string s, .int .i64 f, .int .i64 st, .int .i64 c, .int .i64 wd] 51
  have hx0 : Ext w (w.alloc (.cells #[.string s, .int .i64 f, .int .i64 st, .int .i64 c, .int .i64 wd] 51)) := (Ext.refl w).alloc _
  have hsz := Lib.hid (fun W => szBatch_c s f st c wd W hs)
  have htb := Lib.hid (fun W => toBatch_c s f st c wd W)
  have hT0 := hT.ext hx0
  by_cases h : s.size ≤ 1048576
  · rw [if_pos h] at hsz
    have d1 : ¬ (1048576 : Int) - s.size < 0 := by omega
    have hsp := Lib.hid (fun W => sIsBatch_c s f st c wd W h)
    have him := Lib.hid (fun W (hT : Tab10 W) => iIsBatch_c s f st c wd W h hT)
    generalize batOK s f st c wd = M at *
    go_enter Tryd.func5, Tryd.ntmps5
    go_wp2_with (first
      | (go_at_call 23; (with_reducible refine (hsz.out _).mono ?_); rintro e w1 ⟨rfl, hx1⟩; have hb1 := hbx.ext hx1; have a0 := hb1.cell (i := 0) (v := .string s) rfl; have a1 := hb1.cell (i := 1) (v := .int .i64 f) rfl; have a2 := hb1.cell (i := 2) (v := .int .i64 st) rfl; have a3 := hb1.cell (i := 3) (v := .int .i64 c) rfl; have a4 := hb1.cell (i := 4) (v := .int .i64 wd) rfl; have aL := hb1.lt)
      | (go_at_call 25; (with_reducible refine (htb.out _).mono ?_); rintro e w2 ⟨rfl, hx2⟩)
      | (go_at_call 24; (with_reducible refine (hsp.out _).mono ?_); rintro e w3 ⟨hM, hx3⟩; have hx13 := (hx1.trans hx2).trans hx3; have hb3 := hbx.ext hx13; have b0 := hb3.cell (i := 0) (v := .string s) rfl; have b1 := hb3.cell (i := 1) (v := .int .i64 f) rfl; have b2 := hb3.cell (i := 2) (v := .int .i64 st) rfl; have b3 := hb3.cell (i := 3) (v := .int .i64 c) rfl; have b4 := hb3.cell (i := 4) (v := .int .i64 wd) rfl; have bL := hb3.lt; rcases hM with ⟨hM, rfl⟩ | ⟨hM, rfl⟩)
      | (go_at_call 26; (with_reducible refine (him.out _ (hT0.ext (hx13.trans hx2))).mono ?_); rintro e w4 ⟨⟨hN, rfl⟩ | ⟨hN, rfl⟩, hx4⟩ <;> first | exact absurd hM hN | exact absurd hN hM | skip))
    all_goals
      go_ret
      exact ⟨rfl, hx0.trans (by repeat (first | exact Ext.refl _ | assumption | refine Ext.drew ?_ | refine Ext.drewN ?_ _ | refine Ext.iter ?_ _ _ | refine Ext.alloc ?_ _ | refine Ext.setCell ?_ (by first | exact Nat.le_refl _ | (simp <;> omega)) _ | refine Ext.trans2 (by assumption) ?_))⟩
  · rw [if_neg h] at hsz
    go_enter Tryd.func5, Tryd.ntmps5
    go_wp2_with (go_at_call 23; (with_reducible refine (hsz.out _).mono ?_); rintro e w1 ⟨rfl, hx1⟩)
    go_ret
    exact ⟨rfl, hx0.trans hx1⟩
theorem open_BatchLM {w : World} {cs : List Value} (h : rds w [.str, .i .i64, .i .i64, .i .i64, .i .i64] cs) : ∃ (s : ByteArray) (f st c wd : Int), cs = [.string s, .int .i64 f, .int .i64 st, .int .i64 c, .int .i64 wd] ∧ s.size ≤ maxLen := by
  obtain ⟨s, _, rfl, hs, h⟩ := rds_str h
  obtain ⟨f, _, rfl, _, h⟩ := rds_int h
  obtain ⟨st, _, rfl, _, h⟩ := rds_int h
  obtain ⟨c, _, rfl, _, h⟩ := rds_int h
  obtain ⟨wd, _, rfl, _, h⟩ := rds_int h
  obtain rfl := rds_nil h
  exact ⟨s, f, st, c, wd, rfl, hs⟩
namespace fnExactIsBatch
theorem door_met (os : Os) (args : Array Value) : laidMetH Tryd.prog Rows.fnExactIsBatchRow.laid ((World.doorLaid Tryd.prog 72 os).forCall (fun _ _ => 0) ⟨#[], args, []⟩).memory :=
  laidMetH_of_parts3 (fuel := 8) (laidMet_of_run' 8 (by kernel_rfl) (by kernel_rfl)) (by kernel_rfl) (by kernel_rfl)
set_option maxRecDepth 100000 in
theorem lifted (os : Os) (started : os.Started) (H : Type) (enc : TypeId × Value → H) :
    ReturnsInHanded {} Tryd.checked os 5 .any (fun w args => (Rows.fnExactIsBatchSpec.pre enc Tryd.prog Tryd.f5 [] false w args ∧ laidMetH Tryd.prog Rows.fnExactIsBatchRow.laid w) ∧ sizedMet enc Tryd.prog Tryd.f5 (OpenSpec.ofChange Rows.fnExactIsBatchSpec) false w args) (Rows.fnExactIsBatchSpec.post enc Tryd.prog Tryd.f5 false true false false) := by
  refine returns_and_shaped (C := Tryd.checked) (X := fun w _ => laidMetH Tryd.prog Rows.fnExactIsBatchRow.laid w) (fun _ _ _ hh h => h.of_heap hh) lawOwn started (by kernel_rfl) Tryd.func5
    (ChangeSpec.witness_shaped (enc := enc) (C := Tryd.checked) (os := os) (X := fun w _ => laidMetH Tryd.prog Rows.fnExactIsBatchRow.laid w) false (World.doorLaid Tryd.prog 72 os) #[.agg #[.string ByteArray.empty, .int .i64 0, .int .i64 0, .int .i64 0, .int .i64 0]] 8 rfl (World.shaped_of_RefB (by kernel_rfl) (by kernel_rfl)) (by kernel_rfl) (by kernel_rfl) (by kernel_rfl) (door_met os _)) ?_
  intro W base args ds gs before hval0 hW hL hsh
  have hval : ∀ (j : Nat) t v, Tryd.f5.params[j]? = some t → args[j]? = some v → Value.okWide Tryd.prog W .any base t v := hval0
  have hW' := hW
  obtain ⟨p, q, hA0, hV, rfl, hfz, hnd⟩ := hW
  have hA : DataW.TrodAll enc Tryd.prog W 0 (fun _ => true) true Tryd.f5.params.toList args.toList ds p := hA0
  rw [Tryd.params5] at hA hval
  obtain ⟨v0, vs0, d0, ds0, p0, q0, hargs, rfl, rfl, h0, r0⟩ := trodAll_cons hA
  obtain ⟨rfl, rfl, rfl⟩ := trodAll_nil r0
  obtain rfl : args = #[v0] := by cases args; simp_all
  obtain ⟨rfl, rfl⟩ := trodVars_none hV
  have lt0 : ∀ x ∈ p0, x.block < W.heap.size := by obtain ⟨m, hm⟩ := h0; exact DataW.trod_lt m _ _ _ hm
  obtain ⟨a0, rfl, s0⟩ := arg_st 9 [.str, .i .i64, .i .i64, .i .i64, .i .i64] (by kernel_rfl) Tryd.underlying51 (hval 0 51 v0 rfl rfl) h0
  obtain ⟨s, f, st, c, wd, rfl, hs⟩ := open_BatchLM s0
  refine (isBatch_law s f st c wd W hs (tab10_of hL rfl)).mono fun e W' ⟨he, hg⟩ => ?_
  have bel : Below W.heap.size W W' := hg
  subst he
  exact ⟨_, rfl, _, _, _, [], _, [], hW', trodAll_mk1 (shut_bool Tryd.underlying4 _), (trodAll_cons_mk (Below.trod lawLaid (by kernel_rfl) (of_decide_eq_true (by kernel_rfl)) h0 bel lt0) trodAll_mk0), rfl, bel.frame _, fun h => by cases h⟩
theorem over : Rows.fnExactIsBatchRow.holds Tryd.pinned (OpenSpec.ofChange Rows.fnExactIsBatchSpec) :=
  OpenClaim.holds_of_wide 5 Tryd.f5 rfl rfl rfl rfl rfl rfl rfl ⟨rfl, rfl, rfl, rfl, rfl⟩ rfl rfl rfl rfl rfl (by kernel_rfl) Tryd.func5 (by kernel_rfl)
    (of_decide_eq_true (by kernel_rfl)) (by unfold Func.isWrapper; first | (rw [if_pos (by decide +kernel)]; kernel_rfl) | (rw [if_neg (by decide +kernel)]; exact ⟨rfl, rfl⟩))
    (fun os started H enc _ => lifted os started H enc)
theorem proved : Rows.FnExactIsBatchCardSaid :=
  Claim7.holds_tied_plain_at .later [] Rows.fnExactIsBatchCard.laidKinds true Rows.fnExactIsBatchCard.stood.harness Rows.fnExactIsBatchCard.stood.looks over (fun _ h => by cases h) (by kernel_rfl) (fun _ h => by cases h) fnExactIsBatch_row_tie rfl ⟨rfl, rfl⟩ (by kernel_rfl) rfl
    (fun f fn hf hfn => by
      obtain rfl : f = 5 := Option.some.inj ((show Tryd.prog.funcNamed "loop.example/g00879/laws.FnExactIsBatch" = some 5 by kernel_rfl).symm.trans hf) |>.symm
      obtain rfl : fn = Tryd.f5 := (Option.some.inj (Tryd.func5.symm.trans hfn)).symm
      exact ⟨by kernel_rfl, fun j t ht => by
        rw [Tryd.params5] at ht
        have hm : t ∈ [51] := by simpa using Array.mem_of_getElem? ht
        have hall : ([51].all fun u => !Tryd.prog.wantsStandIn u) = true := by kernel_rfl
        exact (show Tryd.prog.wantsStandIn t = false by simpa using List.all_eq_true.1 hall t hm)⟩)
    (by kernel_rfl)
end fnExactIsBatch

end Go.Proofs.YtdjknkmifaomgaaDoor
