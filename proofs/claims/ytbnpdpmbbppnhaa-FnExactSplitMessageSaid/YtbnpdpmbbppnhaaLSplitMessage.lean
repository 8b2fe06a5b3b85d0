
/- FnExactSplitMessage: for every input the program's SplitMessage returns what the reference's returns, in memory of its own. No conditions. -/
import Derived.Test.YtbnpdpmbbppnhaaSplitS
import Derived.Test.YtbnpdpmbbppnhaaRead
namespace Go.Proofs.Ytbnpdpmbbppnhaa
set_option linter.unusedVariables false
set_option linter.unusedSimpArgs false
open Go.RowKit Go.ChangeShapes Go.WideShapes Go.ChangeAt

theorem toField_c (p k q : Int) (w : World) :
    Calls Try.prog 34 #[vFld p k q] w fun e w' => e = .returned (vFld p k q) ∧ Ext w w' := by
  go_enter Try.func34, Try.ntmps34
  go_wp2
  exact bodyPost_ret (v := vFld p k q) (by simp [results, Try.results34, go_sem]) rfl ⟨rfl, (by repeat (first | exact Ext.refl _ | assumption | refine Ext.drew ?_ | refine Ext.drewN ?_ _ | refine Ext.iter ?_ _ _ | refine Ext.alloc ?_ _ | refine Ext.setCell ?_ (by first | exact Nat.le_refl _ | (simp <;> omega)) _ | refine Ext.trans2 (by assumption) ?_))⟩
theorem smV_len (p k q : Int) (t : ByteArray) (cap : Int) : (smV p k q t cap).1.length ≤ 9 := by
  unfold smV
  (repeat' split) <;> try simp
  generalize hS : splitR (cap * ↑(fW (fldSize p k)) - 17) 9 t 0 = S
  cases S with
  | none => simp [smO]
  | some L =>
    have := splitR_len _ _ _ _ _ hS
    simp only [smO, mkP_len]
    exact this
set_option maxHeartbeats 400000 in
set_option maxRecDepth 100000 in
theorem splitMessage_law (p k q : Int) (t : ByteArray) (cap : Int) (w : World) (ht : t.size ≤ maxLen) :
    Calls Try.prog 6 #[vFld p k q, .string t, .int .i64 cap] w fun e w' => e = .returned (.bool true) ∧ Ext w w' := by
  unfold maxLen at ht
  by_cases h : t.size ≤ 1048576
  · have hi := Lib.hid (fun W => iSplitMessage_c p k q t cap W h)
    have hs := Lib.hid (fun W => sSplitMessage_c p k q t cap W h)
    have hll := smV_len p k q t cap
    generalize smV p k q t cap = Y at *
    obtain ⟨L, kc⟩ := Y
    replace hll : L.length ≤ 9 := hll
    have hbox := Blk.new w #[.int .i64 p, .int .i64 k, .int .i64 q] 52
    have hx0 : Ext w (w.alloc (.cells #[.int .i64 p, .int .i64 k, .int .i64 q] 52)) := (Ext.refl w).alloc _
    go_enter Try.func6, Try.ntmps6
    go_wp2_with (go_at_call 34; (with_reducible refine (toField_c _ _ _ _).mono ?_); rintro e wa ⟨rfl, hba⟩)
    refine (hs.out _).mono ?_
    rintro e w2 ⟨⟨p2, c2, rfl, oq2, -⟩, hb2⟩
    have oq2 := Lib.hid (oq2.sat ptF_len (by omega))
    have hb02 := hba.trans hb2
    have hbx2 := hbox.ext hb02
    have q0 := hbx2.cell (i := 0) (v := .int .i64 p) rfl
    have q1 := hbx2.cell (i := 1) (v := .int .i64 k) rfl
    have q2 := hbx2.cell (i := 2) (v := .int .i64 q) rfl
    have ql := hbx2.lt
    go_wp2_with (go_at_call 34; (with_reducible refine (toField_c _ _ _ _).mono ?_); rintro e w3 ⟨rfl, hb3⟩)
    refine (hi.out _).mono ?_
    rintro e w4 ⟨⟨p4, c4, rfl, oq4, -⟩, hb4⟩
    have oq4 := Lib.hid oq4
    go_wp2_with fail
    refine (eqPartS_c p4 p2 c4 c2 L w4 (oq4.out.sat ptF_len (by omega)) (oq2.out.ext (hb3.trans hb4)) (by omega)).mono ?_
    rintro e w5 ⟨rfl, hb5⟩
    have oq5 := Lib.hid (oq4.out.ext hb5)
    go_wp2_with fail
    refine (markPartS_c w3.heap.size p4 c4 1 L w5 oq5.out (by omega) (by omega) (hb4.trans hb5).below.size).mono ?_
    rintro e w6 ⟨rfl, oq6, hM6⟩
    have hx26 : Ext w2 w6 := ((hb3.trans hb4).trans hb5).low hM6.1 hb3.below.size
    have HX26 := Lib.hid hx26
    have oq6 := Lib.hid (oq6.sat ptF_len (by omega))
    go_wp2_with fail
    refine (heldPartS_c p4 c4 1 L.length w6 oq6.out (by omega) (by omega)).mono ?_
    rintro e w7 ⟨rfl, hb7⟩
    have hx27 := hx26.trans hb7
    have hbx7 := hbx2.ext hx27
    have q0 := hbx7.cell (i := 0) (v := .int .i64 p) rfl
    have q1 := hbx7.cell (i := 1) (v := .int .i64 k) rfl
    have q2 := hbx7.cell (i := 2) (v := .int .i64 q) rfl
    have ql := hbx7.lt
    have OQ7 := Lib.hid (oq6.out.ext hb7); have OQ2 := Lib.hid (oq2.out.ext hx27)
    clear oq6 oq5 oq4 oq2 hM6 hx26
    go_wp2_with (go_at_call 34; (with_reducible refine (toField_c _ _ _ _).mono ?_); rintro e w8 ⟨rfl, hb8⟩)
    refine (hi.out _).mono ?_
    rintro e w9 ⟨⟨p9, c9, rfl, oq9, -⟩, hb9⟩
    have oq9 := Lib.hid (oq9.sat ptF_len (by omega))
    go_wp2_with fail
    refine (eqPartS_c p9 p2 c9 c2 L w9 oq9.out (OQ2.out.ext (hb8.trans hb9)) (by omega)).mono ?_
    rintro e w10 ⟨rfl, hb10⟩
    go_wp2_with fail
    refine (heldPartS_c p4 c4 1 L.length w10 (OQ7.out.ext ((hb8.trans hb9).trans hb10)) (by omega) (by omega)).mono ?_
    rintro e w11 ⟨rfl, hb11⟩
    go_wp2_with fail
    go_ret
    exact ⟨rfl, (((hx0.trans hb02).trans hx27).trans (hb8.trans hb9)).trans (hb10.trans hb11)⟩
  · go_enter Try.func6, Try.ntmps6
    go_wp2
    go_ret
    exact ⟨rfl, (by repeat (first | exact Ext.refl _ | assumption | refine Ext.drew ?_ | refine Ext.drewN ?_ _ | refine Ext.iter ?_ _ _ | refine Ext.alloc ?_ _ | refine Ext.setCell ?_ (by first | exact Nat.le_refl _ | (simp <;> omega)) _ | refine Ext.trans2 (by assumption) ?_))⟩
theorem open_Field {w : World} {cs : List Value} (h : rds w [.i .i64, .i .i64, .i .i64] cs) : ∃ p k q : Int, cs = [.int .i64 p, .int .i64 k, .int .i64 q] := by
  obtain ⟨p, _, rfl, _, h⟩ := rds_int h
  obtain ⟨k, _, rfl, _, h⟩ := rds_int h
  obtain ⟨q, _, rfl, _, h⟩ := rds_int h
  exact ⟨p, k, q, by rw [rds_nil h]⟩
namespace fnExactSplitMessage
set_option maxRecDepth 100000 in
theorem lifted (os : Os) (started : os.Started) (H : Type) (enc : TypeId × Value → H) :
    ReturnsInHanded {} Try.checked os 6 .any (Rows.fnExactSplitMessageSpec.pre6 enc Try.prog Try.f6 Rows.fnExactSplitMessageRow.domain false) (Rows.fnExactSplitMessageSpec.post enc Try.prog Try.f6 false true false false) := by
  refine returnsInHanded_of_change (C := Try.checked) lawOwn started (by kernel_rfl) Try.func6
    (ChangeSpec.witness6 (enc := enc) (C := Try.checked) false ⟨#[], #[.agg #[.int .i64 0, .int .i64 0, .int .i64 0], .string ByteArray.empty, .int .i64 0], []⟩ 8 (by kernel_rfl) (by kernel_rfl) (by kernel_rfl) (by kernel_rfl)) ?_
  intro W base args ds gs before hval0 hW hcnd _
  have hval : ∀ (j : Nat) t v, Try.f6.params[j]? = some t → args[j]? = some v → Value.okWide Try.prog W .any base t v := hval0
  have hW' := hW
  obtain ⟨p, q, hA0, hV, rfl, hfz, hnd⟩ := hW
  have hA : DataW.TrodAll enc Try.prog W 0 (fun _ => true) true Try.f6.params.toList args.toList ds p := hA0
  rw [Try.params6] at hA hval
  obtain ⟨v0, vs0, d0, ds0, p0, q0, hargs, rfl, rfl, h0, r0⟩ := trodAll_cons hA
  obtain ⟨v1, vs1, d1, ds1, p1, q1, rfl, rfl, rfl, h1, r1⟩ := trodAll_cons r0
  obtain ⟨v2, vs2, d2, ds2, p2, q2, rfl, rfl, rfl, h2, r2⟩ := trodAll_cons r1
  obtain ⟨rfl, rfl, rfl⟩ := trodAll_nil r2
  obtain rfl : args = #[v0, v1, v2] := by cases args; simp_all
  obtain ⟨rfl, rfl⟩ := trodVars_none hV
  have lt0 : ∀ x ∈ p0, x.block < W.heap.size := by obtain ⟨m, hm⟩ := h0; exact DataW.trod_lt m _ _ _ hm
  obtain ⟨a0, rfl, s0⟩ := arg_st 9 [.i .i64, .i .i64, .i .i64] (by kernel_rfl) Try.underlying52 (hval 0 52 v0 rfl rfl) h0
  have lt1 : ∀ x ∈ p1, x.block < W.heap.size := by obtain ⟨m, hm⟩ := h1; exact DataW.trod_lt m _ _ _ hm
  obtain ⟨a1, rfl, s1⟩ := arg_str Try.underlying9 (hval 1 9 v1 rfl rfl) h1
  have lt2 : ∀ x ∈ p2, x.block < W.heap.size := by obtain ⟨m, hm⟩ := h2; exact DataW.trod_lt m _ _ _ hm
  obtain ⟨a2, rfl, s2⟩ := arg_int Try.underlying2 (hval 2 2 v2 rfl rfl) h2
  obtain ⟨p, k, q, rfl⟩ := open_Field s0
  refine (splitMessage_law p k q a1 a2 W s1).mono fun e W' ⟨he, hg⟩ => ?_
  have bel : Below W.heap.size W W' := hg
  subst he
  exact ⟨_, rfl, _, _, _, [], _, [], hW', trodAll_mk1 (shut_bool Try.underlying4 _), (trodAll_cons_mk (Below.trod lawLaid (by kernel_rfl) (of_decide_eq_true (by kernel_rfl)) h0 bel lt0) (trodAll_cons_mk (Below.trod lawLaid (by kernel_rfl) (of_decide_eq_true (by kernel_rfl)) h1 bel lt1) (trodAll_cons_mk (Below.trod lawLaid (by kernel_rfl) (of_decide_eq_true (by kernel_rfl)) h2 bel lt2) trodAll_mk0))), rfl, bel.frame _, fun h => by cases h⟩
theorem over : Rows.fnExactSplitMessageRow.holds Try.pinned (OpenSpec.ofChange Rows.fnExactSplitMessageSpec) :=
  OpenClaim.holds_of_wide 6 Try.f6 rfl rfl rfl rfl rfl rfl rfl ⟨rfl, rfl, rfl, rfl, rfl⟩ rfl rfl rfl rfl rfl (by kernel_rfl) Try.func6 (by kernel_rfl)
    (of_decide_eq_true (by kernel_rfl)) (by unfold Func.isWrapper; first | (rw [if_pos (by decide +kernel)]; kernel_rfl) | (rw [if_neg (by decide +kernel)]; exact ⟨rfl, rfl⟩))
    (fun os started H enc _ => lifted os started H enc)
theorem proved : Rows.FnExactSplitMessageSaid := over
end fnExactSplitMessage

end Go.Proofs.Ytbnpdpmbbppnhaa
