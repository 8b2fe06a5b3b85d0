
/- FnExactReadBatch: for every input the program's ReadBatch returns what the reference's returns. Conditions: the listed package variables of the library hold what their initialisers lay; the card ties that to the program's text. -/
import Derived.Test.YtdjknkmifaomgaaDoorErrs
import Derived.Test.YtdjknkmifaomgaaDoorCard
import Derived.Test.YtdjknkmifaomgaaDoorCards
import Derived.Lay
namespace Go.Proofs.YtdjknkmifaomgaaDoor
set_option linter.unusedVariables false
set_option linter.unusedSimpArgs false
open Go.RowKit Go.ChangeShapes Go.WideShapes Go.ChangeAt

/-- What ReadBatch tells is one thing. -/
theorem RbE.two {s : ByteArray} {e e' : Ending} (h : RbE s e) (h' : RbE s e') : ∃ (a : ByteArray) (f st c wd : Int) (b : Bool), e = .returned (.tuple #[vBatch a f st c wd, .bool b]) ∧ e' = .returned (.tuple #[vBatch a f st c wd, .bool b]) := by
  rcases h with ⟨a, f, st, c, wd, rfl, h1, h2⟩ | ⟨rfl, h1⟩
  · rcases h' with ⟨a', f', st', c', wd', rfl, g1, g2⟩ | ⟨rfl, g1⟩
    · obtain ⟨rfl, rfl, rfl, rfl, rfl⟩ := rb_one h1 g1 (h2.symm.trans g2)
      exact ⟨_, _, _, _, _, _, rfl, rfl⟩
    · exact absurd h2 (g1 _ _ _ _ _ h1)
  · rcases h' with ⟨a', f', st', c', wd', rfl, g1, g2⟩ | ⟨rfl, g1⟩
    · exact absurd g2 (h1 _ _ _ _ _ g1)
    · exact ⟨_, _, _, _, _, _, rfl, rfl⟩
theorem RbE.form {s : ByteArray} {e : Ending} (h : RbE s e) : ∃ (a : ByteArray) (f st c wd : Int) (b : Bool), e = .returned (.tuple #[vBatch a f st c wd, .bool b]) := by
  obtain ⟨a, f, st, c, wd, b, h1, _⟩ := h.two h
  exact ⟨a, f, st, c, wd, b, h1⟩
set_option maxHeartbeats 800000 in
set_option maxRecDepth 100000 in
theorem readBatch_law (s : ByteArray) (w : World) (hs : s.size ≤ maxLen) (hT : Tab10 w) (hM : MaxC w) (hE : ErrC w) :
    Calls Tryd.prog 7 #[.string s] w fun e w' => e = .returned (.bool true) ∧ Ext w w' := by
  unfold maxLen at hs
  by_cases h : s.size ≤ 1048576
  · have d1 : ¬ (1048576 : Int) < s.size := by omega
    have hsp := Lib.hid (fun W => sReadBatch_c s W h)
    have him := Lib.hid (fun W (hT : Tab10 W) (hM : MaxC W) (hE : ErrC W) => iReadBatch_c s W h hT hM hE)
    go_enter Tryd.func7, Tryd.ntmps7
    go_upto_region 4 with (go_at_call 29; (with_reducible refine (hsp.out _).mono ?_); rintro e w1 ⟨hR, hx1⟩; obtain ⟨a, f, st, c, wd, b, rfl⟩ := hR.form; replace hR := Lib.hid hR)
    have hb2 := Blk.new w1 #[.string a, .int .i64 f, .int .i64 st, .int .i64 c, .int .i64 wd] 54
    have hx2 := hx1.alloc (.cells #[.string a, .int .i64 f, .int .i64 st, .int .i64 c, .int .i64 wd] 54)
    generalize w1.alloc (.cells #[.string a, .int .i64 f, .int .i64 st, .int .i64 c, .int .i64 wd] 54) = w2 at *
    generalize w1.heap.size = g2 at *
    go_upto_region 5 with (go_at_call 30; (with_reducible refine (him.out _ (hT.ext hx2) (hM.ext hx2) (hE.ext hx2)).mono ?_); rintro e w3 ⟨hS, hx3⟩; obtain ⟨a', f', st', c', wd', b', g1, rfl⟩ := hR.out.two hS; simp only [Ending.returned.injEq, Value.tuple.injEq, Array.mk.injEq, List.cons.injEq, Value.agg.injEq, Value.string.injEq, Value.int.injEq, Value.bool.injEq, true_and, and_true] at g1; obtain ⟨⟨rfl, rfl, rfl, rfl, rfl⟩, rfl⟩ := g1)
    have hb3 := (hb2.ext hx3).alloc (.cells #[.string a, .int .i64 f, .int .i64 st, .int .i64 c, .int .i64 wd] 54)
    have hb4 := Blk.new w3 #[.string a, .int .i64 f, .int .i64 st, .int .i64 c, .int .i64 wd] 54
    have hx4 := (hx2.trans hx3).alloc (.cells #[.string a, .int .i64 f, .int .i64 st, .int .i64 c, .int .i64 wd] 54)
    generalize w3.alloc (.cells #[.string a, .int .i64 f, .int .i64 st, .int .i64 c, .int .i64 wd] 54) = w4 at *
    generalize w3.heap.size = g4 at *
    have a0 := hb3.cell (i := 0) (v := .string a) rfl; have a1 := hb3.cell (i := 1) (v := .int .i64 f) rfl; have a2 := hb3.cell (i := 2) (v := .int .i64 st) rfl; have a3 := hb3.cell (i := 3) (v := .int .i64 c) rfl; have a4 := hb3.cell (i := 4) (v := .int .i64 wd) rfl; have aL := hb3.lt
    have b0 := hb4.cell (i := 0) (v := .string a) rfl; have b1 := hb4.cell (i := 1) (v := .int .i64 f) rfl; have b2 := hb4.cell (i := 2) (v := .int .i64 st) rfl; have b3 := hb4.cell (i := 3) (v := .int .i64 c) rfl; have b4 := hb4.cell (i := 4) (v := .int .i64 wd) rfl; have bL := hb4.lt
    cases b
    all_goals
      go_wp2_with (go_at_call 31; (with_reducible refine (eqBatch_c _ _ _ _ _ _).mono ?_); rintro e w5 ⟨rfl, hx5⟩)
      go_ret
      exact ⟨rfl, hx4.trans hx5⟩
  · have d1 : (1048576 : Int) < s.size := by omega
    go_enter Tryd.func7, Tryd.ntmps7
    go_wp2
    go_ret
    exact ⟨rfl, Ext.refl w⟩
namespace fnExactReadBatch
set_option maxRecDepth 100000 in
theorem lifted (os : Os) (started : os.Started) (H : Type) (enc : TypeId × Value → H) :
    ReturnsInHanded {} Tryd.checked os 7 .any (fun w args => (Rows.fnExactReadBatchSpec.pre enc Tryd.prog Tryd.f7 [] false w args ∧ laidMetH Tryd.prog Rows.fnExactReadBatchRow.laid w) ∧ sizedMet enc Tryd.prog Tryd.f7 (OpenSpec.ofChange Rows.fnExactReadBatchSpec) false w args) (Rows.fnExactReadBatchSpec.post enc Tryd.prog Tryd.f7 false true false false) := by
  refine returns_and_shaped (C := Tryd.checked) (X := fun w _ => laidMetH Tryd.prog Rows.fnExactReadBatchRow.laid w) (fun _ _ _ hh h => h.of_heap hh) lawOwn started (by kernel_rfl) Tryd.func7
    (ChangeSpec.witness_shaped (enc := enc) (C := Tryd.checked) (os := os) (X := fun w _ => laidMetH Tryd.prog Rows.fnExactReadBatchRow.laid w) false (World.laidAll Tryd.prog os Rows.fnExactReadBatchRow.laid) #[.string ByteArray.empty] 8 (World.laidAll_os _ _ _) (World.shaped_of_ZipB (by kernel_rfl) (by kernel_rfl)) (by kernel_rfl) (by kernel_rfl) (by kernel_rfl) (by rw [MakeChecks.laidMetH_plain _ _ _ (by kernel_rfl)]; exact laidMet_laidAll _ (by kernel_rfl) (by kernel_rfl))) ?_
  intro W base args ds gs before hval0 hW hL hsh
  have hval : ∀ (j : Nat) t v, Tryd.f7.params[j]? = some t → args[j]? = some v → Value.okWide Tryd.prog W .any base t v := hval0
  have hW' := hW
  obtain ⟨p, q, hA0, hV, rfl, hfz, hnd⟩ := hW
  have hA : DataW.TrodAll enc Tryd.prog W 0 (fun _ => true) true Tryd.f7.params.toList args.toList ds p := hA0
  rw [Tryd.params7] at hA hval
  obtain ⟨v0, vs0, d0, ds0, p0, q0, hargs, rfl, rfl, h0, r0⟩ := trodAll_cons hA
  obtain ⟨rfl, rfl, rfl⟩ := trodAll_nil r0
  obtain rfl : args = #[v0] := by cases args; simp_all
  obtain ⟨rfl, rfl⟩ := trodVars_none hV
  have lt0 : ∀ x ∈ p0, x.block < W.heap.size := by obtain ⟨m, hm⟩ := h0; exact DataW.trod_lt m _ _ _ hm
  obtain ⟨a0, rfl, s0⟩ := arg_str Tryd.underlying9 (hval 0 9 v0 rfl rfl) h0
  refine (readBatch_law a0 W s0 (tab10_of hL rfl) (MaxC.of hsh) (errC_of hL rfl rfl)).mono fun e W' ⟨he, hg⟩ => ?_
  have bel : Below W.heap.size W W' := hg
  subst he
  exact ⟨_, rfl, _, _, _, [], _, [], hW', trodAll_mk1 (shut_bool Tryd.underlying4 _), (trodAll_cons_mk (Below.trod lawLaid (by kernel_rfl) (of_decide_eq_true (by kernel_rfl)) h0 bel lt0) trodAll_mk0), rfl, bel.frame _, fun h => by cases h⟩
theorem over : Rows.fnExactReadBatchRow.holds Tryd.pinned (OpenSpec.ofChange Rows.fnExactReadBatchSpec) :=
  OpenClaim.holds_of_wide 7 Tryd.f7 rfl rfl rfl rfl rfl rfl rfl ⟨rfl, rfl, rfl, rfl, rfl⟩ rfl rfl rfl rfl rfl (by kernel_rfl) Tryd.func7 (by kernel_rfl)
    (of_decide_eq_true (by kernel_rfl)) (by unfold Func.isWrapper; first | (rw [if_pos (by decide +kernel)]; kernel_rfl) | (rw [if_neg (by decide +kernel)]; exact ⟨rfl, rfl⟩))
    (fun os started H enc _ => lifted os started H enc)
theorem proved : Rows.FnExactReadBatchCardSaid :=
  Claim7.holds_tied_plain_at .later [] Rows.fnExactReadBatchCard.laidKinds true Rows.fnExactReadBatchCard.stood.harness Rows.fnExactReadBatchCard.stood.looks over (fun _ h => by cases h) (by kernel_rfl) (fun _ h => by cases h) fnExactReadBatch_row_tie rfl ⟨rfl, rfl⟩ (by kernel_rfl) rfl
    (fun f fn hf hfn => by
      obtain rfl : f = 7 := Option.some.inj ((show Tryd.prog.funcNamed "loop.example/g00879/laws.FnExactReadBatch" = some 7 by kernel_rfl).symm.trans hf) |>.symm
      obtain rfl : fn = Tryd.f7 := (Option.some.inj (Tryd.func7.symm.trans hfn)).symm
      exact ⟨by kernel_rfl, fun j t ht => by
        rw [Tryd.params7] at ht
        have hm : t ∈ [9] := by simpa using Array.mem_of_getElem? ht
        have hall : ([9].all fun u => !Tryd.prog.wantsStandIn u) = true := by kernel_rfl
        exact (show Tryd.prog.wantsStandIn t = false by simpa using List.all_eq_true.1 hall t hm)⟩)
    (by kernel_rfl)
end fnExactReadBatch

end Go.Proofs.YtdjknkmifaomgaaDoor
