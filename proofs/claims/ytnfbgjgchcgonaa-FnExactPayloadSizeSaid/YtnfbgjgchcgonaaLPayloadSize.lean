
/- FnExactPayloadSize: for every input the program's PayloadSize returns what the reference's returns. No conditions. -/
import Derived.Test.YtnfbgjgchcgonaaPaySize
import Derived.Test.YtnfbgjgchcgonaaRead
namespace Go.Proofs.Ytnfbgjgchcgonaa
set_option linter.unusedVariables false
set_option linter.unusedSimpArgs false
open Go.RowKit Go.ChangeShapes Go.WideShapes Go.ChangeAt

theorem toField_c (p k q : Int) (w : World) :
    Calls Try.prog 26 #[vFld p k q] w fun e w' => e = .returned (vFld p k q) ∧ Ext w w' := by
  go_enter Try.func26, Try.ntmps26
  go_wp2
  exact bodyPost_ret (v := vFld p k q) (by simp [results, Try.results26, go_sem]) rfl ⟨rfl, (by repeat (first | exact Ext.refl _ | assumption | refine Ext.drew ?_ | refine Ext.drewN ?_ _ | refine Ext.iter ?_ _ _ | refine Ext.alloc ?_ _ | refine Ext.setCell ?_ (by first | exact Nat.le_refl _ | (simp <;> omega)) _ | refine Ext.trans2 (by assumption) ?_))⟩
theorem payloadSize_law (p k q : Int) (t : ByteArray) (w : World) (ht : t.size ≤ maxLen) :
    Calls Try.prog 5 #[vFld p k q, .string t] w fun e w' => e = .returned (.bool true) ∧ Ext w w' := by
  unfold maxLen at ht
  by_cases h : t.size ≤ 1048576
  · have hi := Lib.hid (fun W => iPayloadSize_c p k q t W h)
    have hs := Lib.hid (fun W => sPayloadSize_c p k q t W h)
    generalize psV p k q t = V at *
    obtain ⟨n, c⟩ := V
    go_enter Try.func5, Try.ntmps5
    go_wp2_with (first
      | (go_at_call 26; (with_reducible refine (toField_c _ _ _ _).mono ?_); rintro e w1 ⟨rfl, hb⟩; (obtain ⟨hc, hf, hk, hz⟩ := ecell hb; try (have hx := Ext.trans2 hb (by assumption); obtain ⟨hcx, hfx, hkx, hzx⟩ := ecell hx)); (try simp at hz))
      | (go_at_call 25; (with_reducible refine (hs.out _).mono ?_); rintro e w1 ⟨rfl, hb⟩; (obtain ⟨hc, hf, hk, hz⟩ := ecell hb; try (have hx := Ext.trans2 hb (by assumption); obtain ⟨hcx, hfx, hkx, hzx⟩ := ecell hx)); (try simp at hz))
      | (go_at_call 27; (with_reducible refine (hi.out _).mono ?_); rintro e w1 ⟨rfl, hb⟩; (obtain ⟨hc, hf, hk, hz⟩ := ecell hb; try (have hx := Ext.trans2 hb (by assumption); obtain ⟨hcx, hfx, hkx, hzx⟩ := ecell hx)); (try simp at hz)))
    go_ret
    exact ⟨rfl, (by repeat (first | exact Ext.refl _ | assumption | refine Ext.drew ?_ | refine Ext.drewN ?_ _ | refine Ext.iter ?_ _ _ | refine Ext.alloc ?_ _ | refine Ext.setCell ?_ (by first | exact Nat.le_refl _ | (simp <;> omega)) _ | refine Ext.trans2 (by assumption) ?_))⟩
  · go_enter Try.func5, Try.ntmps5
    go_wp2
    go_ret
    exact ⟨rfl, (by repeat (first | exact Ext.refl _ | assumption | refine Ext.drew ?_ | refine Ext.drewN ?_ _ | refine Ext.iter ?_ _ _ | refine Ext.alloc ?_ _ | refine Ext.setCell ?_ (by first | exact Nat.le_refl _ | (simp <;> omega)) _ | refine Ext.trans2 (by assumption) ?_))⟩

theorem open_Field {w : World} {cs : List Value} (h : rds w [.i .i64, .i .i64, .i .i64] cs) : ∃ p k q : Int, cs = [.int .i64 p, .int .i64 k, .int .i64 q] := by
  obtain ⟨p, _, rfl, _, h⟩ := rds_int h
  obtain ⟨k, _, rfl, _, h⟩ := rds_int h
  obtain ⟨q, _, rfl, _, h⟩ := rds_int h
  exact ⟨p, k, q, by rw [rds_nil h]⟩
namespace fnExactPayloadSize
set_option maxRecDepth 100000 in
theorem lifted (os : Os) (started : os.Started) (H : Type) (enc : TypeId × Value → H) :
    ReturnsInHanded {} Try.checked os 5 .any (Rows.fnExactPayloadSizeSpec.pre6 enc Try.prog Try.f5 Rows.fnExactPayloadSizeRow.domain false) (Rows.fnExactPayloadSizeSpec.post enc Try.prog Try.f5 false true false false) := by
  refine returnsInHanded_of_change (C := Try.checked) lawOwn started (by kernel_rfl) Try.func5
    (ChangeSpec.witness6 (enc := enc) (C := Try.checked) false ⟨#[], #[.agg #[.int .i64 0, .int .i64 0, .int .i64 0], .string ByteArray.empty], []⟩ 8 (by kernel_rfl) (by kernel_rfl) (by kernel_rfl) (by kernel_rfl)) ?_
  intro W base args ds gs before hval0 hW hcnd _
  have hval : ∀ (j : Nat) t v, Try.f5.params[j]? = some t → args[j]? = some v → Value.okWide Try.prog W .any base t v := hval0
  have hW' := hW
  obtain ⟨p, q, hA0, hV, rfl, hfz, hnd⟩ := hW
  have hA : DataW.TrodAll enc Try.prog W 0 (fun _ => true) true Try.f5.params.toList args.toList ds p := hA0
  rw [Try.params5] at hA hval
  obtain ⟨v0, vs0, d0, ds0, p0, q0, hargs, rfl, rfl, h0, r0⟩ := trodAll_cons hA
  obtain ⟨v1, vs1, d1, ds1, p1, q1, rfl, rfl, rfl, h1, r1⟩ := trodAll_cons r0
  obtain ⟨rfl, rfl, rfl⟩ := trodAll_nil r1
  obtain rfl : args = #[v0, v1] := by cases args; simp_all
  obtain ⟨rfl, rfl⟩ := trodVars_none hV
  have lt0 : ∀ x ∈ p0, x.block < W.heap.size := by obtain ⟨m, hm⟩ := h0; exact DataW.trod_lt m _ _ _ hm
  obtain ⟨a0, rfl, s0⟩ := arg_st 9 [.i .i64, .i .i64, .i .i64] (by kernel_rfl) Try.underlying38 (hval 0 38 v0 rfl rfl) h0
  have lt1 : ∀ x ∈ p1, x.block < W.heap.size := by obtain ⟨m, hm⟩ := h1; exact DataW.trod_lt m _ _ _ hm
  obtain ⟨a1, rfl, s1⟩ := arg_str Try.underlying9 (hval 1 9 v1 rfl rfl) h1
  obtain ⟨p, k, q, rfl⟩ := open_Field s0
  refine (payloadSize_law p k q a1 W s1).mono fun e W' ⟨he, hg⟩ => ?_
  have bel : Below W.heap.size W W' := hg
  subst he
  exact ⟨_, rfl, _, _, _, [], _, [], hW', trodAll_mk1 (shut_bool Try.underlying4 _), (trodAll_cons_mk (Below.trod lawLaid (by kernel_rfl) (of_decide_eq_true (by kernel_rfl)) h0 bel lt0) (trodAll_cons_mk (Below.trod lawLaid (by kernel_rfl) (of_decide_eq_true (by kernel_rfl)) h1 bel lt1) trodAll_mk0)), rfl, bel.frame _, fun h => by cases h⟩
theorem over : Rows.fnExactPayloadSizeRow.holds Try.pinned (OpenSpec.ofChange Rows.fnExactPayloadSizeSpec) :=
  OpenClaim.holds_of_wide 5 Try.f5 rfl rfl rfl rfl rfl rfl rfl ⟨rfl, rfl, rfl, rfl, rfl⟩ rfl rfl rfl rfl rfl (by kernel_rfl) Try.func5 (by kernel_rfl)
    (of_decide_eq_true (by kernel_rfl)) (by unfold Func.isWrapper; first | (rw [if_pos (by decide +kernel)]; kernel_rfl) | (rw [if_neg (by decide +kernel)]; exact ⟨rfl, rfl⟩))
    (fun os started H enc _ => lifted os started H enc)
theorem proved : Rows.FnExactPayloadSizeSaid := over
end fnExactPayloadSize

end Go.Proofs.Ytnfbgjgchcgonaa
