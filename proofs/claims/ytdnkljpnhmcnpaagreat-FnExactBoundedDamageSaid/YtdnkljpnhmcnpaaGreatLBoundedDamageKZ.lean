/- FnExactBoundedDamage: for every input the program's BoundedDamage returns what the reference's returns, and leaves its arguments as they were. Conditions: none. -/
import Derived.Test.YtdnkljpnhmcnpaaGreatLBoundedDamageK46
namespace Go.Proofs.YtdnkljpnhmcnpaaGreat
set_option linter.unusedVariables false
set_option linter.unusedSimpArgs false
open Go.RowKit Go.ChangeShapes Go.WideShapes Go.ChangeAt

theorem open_PrintT {w : World} {cs : List Value} (h : rds w [.i .i64, .i .i64, .i .i64, .i .i64, .i .i64, .i .i64] cs) : ∃ p t q b d l : Int, cs = [.int .i64 p, .int .i64 t, .int .i64 q, .int .i64 b, .int .i64 d, .int .i64 l] := by
  obtain ⟨p, _, rfl, _, h⟩ := rds_int h
  obtain ⟨t, _, rfl, _, h⟩ := rds_int h
  obtain ⟨q, _, rfl, _, h⟩ := rds_int h
  obtain ⟨b, _, rfl, _, h⟩ := rds_int h
  obtain ⟨d, _, rfl, _, h⟩ := rds_int h
  obtain ⟨l, _, rfl, _, h⟩ := rds_int h
  exact ⟨p, t, q, b, d, l, by rw [rds_nil h]⟩

namespace fnExactBoundedDamage
set_option maxRecDepth 100000 in
theorem lifted (os : Os) (started : os.Started) (H : Type) (enc : TypeId × Value → H) :
    ReturnsInHanded {} Tryz.checked os 5 .any (Rows.fnExactBoundedDamageSpec.pre6 enc Tryz.prog Tryz.f5 Rows.fnExactBoundedDamageRow.domain false) (Rows.fnExactBoundedDamageSpec.post enc Tryz.prog Tryz.f5 false true false false) := by
  refine returnsInHanded_of_change (C := Tryz.checked) lawOwn started (by kernel_rfl) Tryz.func5
    (ChangeSpec.witness6 (enc := enc) (C := Tryz.checked) false ⟨#[], #[.agg #[.string ByteArray.empty, .int .i64 0, .int .i64 0, .int .i64 0, .int .i64 0, .slice none 0 0, .int .i64 0, .slice none 0 0], .int .i64 0, .int .i64 0, .agg #[.int .i64 0, .int .i64 0, .int .i64 0, .int .i64 0, .int .i64 0, .int .i64 0], .slice none 0 0], []⟩ 8 (by kernel_rfl) (by kernel_rfl) (by kernel_rfl) (by kernel_rfl)) ?_
  intro W base args ds gs before hval0 hW hcnd _
  have hval : ∀ (j : Nat) t v, Tryz.f5.params[j]? = some t → args[j]? = some v → Value.okWide Tryz.prog W .any base t v := hval0
  have hW' := hW
  obtain ⟨p, q, hA0, hV, rfl, hfz, hnd⟩ := hW
  have hA : DataW.TrodAll enc Tryz.prog W 0 (fun _ => true) true Tryz.f5.params.toList args.toList ds p := hA0
  rw [Tryz.params5] at hA hval
  obtain ⟨v0, vs0, d0, ds0, p0, q0, hargs, rfl, rfl, h0, r0⟩ := trodAll_cons hA
  obtain ⟨v1, vs1, d1, ds1, p1, q1, rfl, rfl, rfl, h1, r1⟩ := trodAll_cons r0
  obtain ⟨v2, vs2, d2, ds2, p2, q2, rfl, rfl, rfl, h2, r2⟩ := trodAll_cons r1
  obtain ⟨v3, vs3, d3, ds3, p3, q3, rfl, rfl, rfl, h3, r3⟩ := trodAll_cons r2
  obtain ⟨v4, vs4, d4, ds4, p4, q4, rfl, rfl, rfl, h4, r4⟩ := trodAll_cons r3
  obtain ⟨rfl, rfl, rfl⟩ := trodAll_nil r4
  obtain rfl : args = #[v0, v1, v2, v3, v4] := by cases args; simp_all
  obtain ⟨rfl, rfl⟩ := trodVars_none hV
  have lt0 : ∀ x ∈ p0, x.block < W.heap.size := by obtain ⟨m, hm⟩ := h0; exact DataW.trod_lt m _ _ _ hm
  obtain ⟨a0, rfl, s0⟩ := arg_st 9 [.str, .i .i64, .st [.i .i64, .i .i64, .i .i64], .sl (.i .i64), .i .i64, .sl (.i .i64)] (by kernel_rfl) Tryz.underlying45 (hval 0 45 v0 rfl rfl) h0
  have lt1 : ∀ x ∈ p1, x.block < W.heap.size := by obtain ⟨m, hm⟩ := h1; exact DataW.trod_lt m _ _ _ hm
  obtain ⟨a1, rfl, s1⟩ := arg_int Tryz.underlying2 (hval 1 2 v1 rfl rfl) h1
  have lt2 : ∀ x ∈ p2, x.block < W.heap.size := by obtain ⟨m, hm⟩ := h2; exact DataW.trod_lt m _ _ _ hm
  obtain ⟨a2, rfl, s2⟩ := arg_int Tryz.underlying2 (hval 2 2 v2 rfl rfl) h2
  have lt3 : ∀ x ∈ p3, x.block < W.heap.size := by obtain ⟨m, hm⟩ := h3; exact DataW.trod_lt m _ _ _ hm
  obtain ⟨a3, rfl, s3⟩ := arg_st 9 [.i .i64, .i .i64, .i .i64, .i .i64, .i .i64, .i .i64] (by kernel_rfl) Tryz.underlying47 (hval 3 47 v3 rfl rfl) h3
  have lt4 : ∀ x ∈ p4, x.block < W.heap.size := by obtain ⟨m, hm⟩ := h4; exact DataW.trod_lt m _ _ _ hm
  have s4 := arg_sl 9 (.st [.i .i64, .i .i64, .i .i64, .i .i64, .i .i64, .i .i64]) (by kernel_rfl) Tryz.underlying48 (hval 4 48 v4 rfl rfl) h4
  obtain ⟨nm, K, p, k, q, ps, cc, ss, co, pl, cl, ls, rfl, hnm, hl1, hl2, hs, hlv⟩ := open_FamilyO s0
  obtain ⟨xp, xt, xq, xb, xd, xl, rfl⟩ := open_PrintT s3
  obtain ⟨pd, cd, ds, rfl, hld, hx, -⟩ := open_Dams s4
  refine (lawBoundedDamage nm K p k q co ps pl cc cl ss ls a1 a2 xp xt xq xb xd xl pd cd ds W hs hlv hx hnm hl1 hl2 hld).mono fun e W' ⟨he, hg⟩ => ?_
  have bel : Below W.heap.size W W' := hg
  subst he
  exact ⟨_, rfl, _, _, _, [], _, [], hW', trodAll_mk1 (shut_bool Tryz.underlying4 _), (trodAll_cons_mk (Below.trod lawLaid (by kernel_rfl) (of_decide_eq_true (by kernel_rfl)) h0 bel lt0) (trodAll_cons_mk (Below.trod lawLaid (by kernel_rfl) (of_decide_eq_true (by kernel_rfl)) h1 bel lt1) (trodAll_cons_mk (Below.trod lawLaid (by kernel_rfl) (of_decide_eq_true (by kernel_rfl)) h2 bel lt2) (trodAll_cons_mk (Below.trod lawLaid (by kernel_rfl) (of_decide_eq_true (by kernel_rfl)) h3 bel lt3) (trodAll_cons_mk (Below.trod lawLaid (by kernel_rfl) (of_decide_eq_true (by kernel_rfl)) h4 bel lt4) trodAll_mk0))))), rfl, bel.frame _, fun h => by cases h⟩
theorem over : Rows.fnExactBoundedDamageRow.holds Tryz.pinned (OpenSpec.ofChange Rows.fnExactBoundedDamageSpec) :=
  OpenClaim.holds_of_wide_leaving 5 Tryz.f5 rfl rfl rfl rfl rfl rfl rfl ⟨rfl, rfl, rfl, rfl, rfl⟩ rfl rfl rfl rfl rfl (by kernel_rfl) Tryz.func5 (by kernel_rfl)
    (of_decide_eq_true (by kernel_rfl)) (by unfold Func.isWrapper; first | (rw [if_pos (by decide +kernel)]; kernel_rfl) | (rw [if_neg (by decide +kernel)]; exact ⟨rfl, rfl⟩))
    (fun os started H enc _ => leaving_of_handed (lifted os started H enc))
theorem proved : Rows.FnExactBoundedDamageSaid := over
end fnExactBoundedDamage

end Go.Proofs.YtdnkljpnhmcnpaaGreat
