
/- FnExactBandsOf: for every input the program's BandsOf returns what the reference's returns, in memory of its own, and leaves its argument as it was. No conditions. -/
import Derived.Test.YtbnpdpmbbppnhaaBands
import Derived.Test.YtbnpdpmbbppnhaaGridLaw
import Derived.Test.YtbnpdpmbbppnhaaRead
namespace Go.Proofs.Ytbnpdpmbbppnhaa
set_option linter.unusedVariables false
set_option linter.unusedSimpArgs false
open Go.RowKit Go.ChangeShapes Go.WideShapes Go.ChangeAt

set_option maxHeartbeats 800000 in
set_option maxRecDepth 100000 in
theorem bandsOf_law (r c : Int) (p : Option Addr) (k : Nat) (xs : List Int) (w : World) (hx : IntsAt w p xs) (hlm : xs.length ≤ maxLen) :
    Calls Try.prog 7 #[vGrid r c p xs.length k] w fun e w' => e = .returned (.bool true) ∧ Ext w w' := by
  have HX := Lib.hid hx; clear hx
  unfold maxLen at hlm
  have hbox := Blk.new w #[.int .i64 r, .int .i64 c, .slice p xs.length k] 61
  have hx0 : Ext w (w.alloc (.cells #[.int .i64 r, .int .i64 c, .slice p xs.length k] 61)) := (Ext.refl w).alloc _
  by_cases hl : xs.length ≤ 1048576
  · have hsz := Lib.hid (fun W => szGrid_c r c p k xs.length W (by omega))
    rw [if_pos hl] at hsz
    have htg := Lib.hid (fun W (h : IntsAt W p xs) => toGrid_c r c p k xs W h hl)
    have hib := Lib.hid (fun q W (h : IntsAt W q xs) => iBandsOf_c r c q xs.length xs W h hl (Nat.le_refl _))
    have hsb := Lib.hid (fun q W (h : IntsAt W q xs) => sBandsOf_c r c q xs.length xs W h hl (Nat.le_refl _))
    have hbl := boL_len r c xs
    generalize boL r c xs = L at *
    generalize jcV r c xs = K at *
    have hn0 : ¬ (1048576 : Int) - xs.length < 0 := by omega
    have hn1 : ¬ (1 : Int) + xs.length < 0 := by omega
    have heq : Hid (∀ W p q k l, IntsAt W p L → IntsAt W q L → Calls Try.prog 43 #[.slice p L.length k, .slice q L.length l] W fun e w' => e = .returned (.bool true) ∧ ∃ n, w' = W.drewN n) := Lib.hid fun W p q k l h1 h2 => (eqInt64S_c p q k l L L W h1 h2 (by omega) (by omega)).mono fun e w' h => by
      rcases h with ⟨⟨_, h⟩ | ⟨h, _⟩, n, hn⟩
      · exact ⟨h, n, hn⟩
      · exact absurd rfl h
    have FB : ∀ W, Ext (w.alloc (.cells #[.int .i64 r, .int .i64 c, .slice p xs.length k] 61)) W → Blk W w.heap.size #[.int .i64 r, .int .i64 c, .slice p xs.length k] 61 := fun W h => hbox.ext h
    have FB := Lib.hid FB
    go_enter Try.func7, Try.ntmps7
    go_wp2_with (go_at_call 39; (with_reducible refine (hsz.out _).mono ?_); rintro e w1 ⟨rfl, hx1⟩; have hb1 := FB.out _ hx1; have q0 := hb1.cell (i := 0) (v := .int .i64 r) rfl; have q1 := hb1.cell (i := 1) (v := .int .i64 c) rfl; have q2 := hb1.cell (i := 2) (v := .slice p xs.length k) rfl; have ql := hb1.lt)
    refine (htg.out _ (HX.out.ext (hx0.trans hx1))).mono ?_
    rintro e w2 ⟨⟨p2, rfl, oq2⟩, hx2⟩
    go_wp2_with fail
    refine (hsb.out _ _ oq2.ints).mono ?_
    rintro e w3 ⟨⟨p3, c3, rfl, oq3⟩, hx3⟩
    have oq3 := Lib.hid oq3.ints
    have hx03 := (hx1.trans hx2).trans hx3
    have hb3 := FB.out _ hx03
    have q0 := hb3.cell (i := 0) (v := .int .i64 r) rfl; have q1 := hb3.cell (i := 1) (v := .int .i64 c) rfl; have q2 := hb3.cell (i := 2) (v := .slice p xs.length k) rfl; have ql := hb3.lt
    clear oq2 hb1
    go_wp2_with fail
    refine (htg.out _ (HX.out.ext (hx0.trans hx03))).mono ?_
    rintro e w4 ⟨⟨p4, rfl, oq4⟩, hx4⟩
    have hG4 := Blk.new w4 #[.int .i64 r, .int .i64 c, .slice p4 xs.length xs.length] 64
    have hx5 : Ext w4 (w4.alloc (.cells #[.int .i64 r, .int .i64 c, .slice p4 xs.length xs.length] 64)) := (Ext.refl w4).alloc _
    have hlt5 : w4.heap.size < (w4.alloc (.cells #[.int .i64 r, .int .i64 c, .slice p4 xs.length xs.length] 64)).heap.size := by simp
    go_wp2_with fail
    generalize w4.alloc (.cells #[.int .i64 r, .int .i64 c, .slice p4 xs.length xs.length] 64) = w5 at *
    have hz4 := hx4.below.size
    have hp4 : ∀ b o, xs ≠ [] → p4 = some ⟨b, o, none⟩ → b < w5.heap.size := fun b o hn hp => by have := (oq4.lt0 hn hp).2; omega
    have hp4 := Lib.hid hp4
    have oq5 := Lib.hid (oq4.ext hx5)
    generalize w4.heap.size = gx at *
    refine (hib.out _ _ oq5.out.ints).mono ?_
    rintro e w6 ⟨⟨p6, c6, rfl, oq6⟩, hx6⟩
    have oq6 := Lib.hid oq6
    have hx36 := (hx4.trans hx5).trans hx6
    clear oq4
    go_wp2_with fail
    refine (heq.out _ _ _ _ _ oq6.out.ints (oq3.out.ext hx36)).mono ?_
    rintro e w7 ⟨rfl, n7, rfl⟩
    have hx7 : Ext w6 (w6.drewN n7) := (Ext.refl w6).drewN n7
    have hx37 := hx36.trans hx7
    have hb7 := FB.out _ (hx03.trans hx37)
    have hG7 := (hG4.ext hx6).ext hx7
    have q0 := hb7.cell (i := 0) (v := .int .i64 r) rfl; have q1 := hb7.cell (i := 1) (v := .int .i64 c) rfl; have q2 := hb7.cell (i := 2) (v := .slice p xs.length k) rfl; have ql := hb7.lt
    have g0 := hG7.cell (i := 0) (v := .int .i64 r) rfl; have g1 := hG7.cell (i := 1) (v := .int .i64 c) rfl; have g2 := hG7.cell (i := 2) (v := .slice p4 xs.length xs.length) rfl; have gl := hG7.lt
    generalize w6.drewN n7 = w7 at *
    go_wp2_with fail
    refine wp_region_canon (fun w' => Ext w7 w') [(0, true), (1, true), (2, false), (3, false), (4, true)] (by kernel_rfl) (by kernel_rfl) (by decide) (by kernel_rfl) ?_ ?_
    · exact (by repeat (first | exact Ext.refl _ | assumption | refine Ext.drew ?_ | refine Ext.drewN ?_ _ | refine Ext.iter ?_ _ _ | refine Ext.alloc ?_ _ | refine Ext.setCell ?_ (by first | exact Nat.le_refl _ | (simp <;> omega)) _ | refine Ext.trans2 (by assumption) ?_))
    refine canon_intro fun ops eo => ?_
    have ho0 := canon_at eo 0 rfl
    have ho1 := canon_at eo 1 rfl
    have ho2 := canon_at eo 2 rfl
    have ho3 := canon_at eo 3 rfl
    have ho4 := canon_at eo 4 rfl
    clear eo
    all_goals (apply canon_st ho0 rfl; (intro w2 hS; first | (go_simp; first | done | rfl) | rfl | (obtain ⟨hc, hf, hk', hz⟩ := ecell hS; go_simp; first | done | rfl)); simp only [Act.put, List.setIfInBounds_toArray, List.set_cons_zero, List.set_cons_succ])
    all_goals clear ho0
    all_goals (apply canon_st ho1 rfl; (intro w2 hS; first | (go_simp; first | done | rfl) | rfl | (obtain ⟨hc, hf, hk', hz⟩ := ecell hS; go_simp; first | done | rfl)); simp only [Act.put, List.setIfInBounds_toArray, List.set_cons_zero, List.set_cons_succ])
    all_goals clear ho1
    all_goals first | (refine canon_ef ho2 rfl (fun K hK => ?_); go_simp; ((go_at_call 41; (with_reducible refine (htg.out _ (HX.out.ext ((hx0.trans (hx03.trans hx37)).trans (by repeat (first | exact Ext.refl _ | assumption | refine Ext.drew ?_ | refine Ext.drewN ?_ _ | refine Ext.iter ?_ _ _ | refine Ext.alloc ?_ _ | refine Ext.setCell ?_ (by first | exact Nat.le_refl _ | (simp <;> omega)) _ | refine Ext.trans2 (by assumption) ?_))))).mono ?_); rintro e w8 ⟨⟨p8, rfl, oq8⟩, hx8⟩)); all_goals (refine hK _ _ ⟨(by repeat (first | exact Ext.refl _ | assumption | refine Ext.drew ?_ | refine Ext.drewN ?_ _ | refine Ext.iter ?_ _ _ | refine Ext.alloc ?_ _ | refine Ext.setCell ?_ (by first | exact Nat.le_refl _ | (simp <;> omega)) _ | refine Ext.trans2 (by assumption) ?_)), ?_⟩; clear hK K; go_simp)) | (refine canon_ef ho2 rfl (fun K hK => ?_); go_simp; ((go_at_call 44; (with_reducible refine (eqGrid_c r c p4 p8 xs.length xs.length xs _ (oq5.out.ints.ext ((hx6.trans hx7).trans (by repeat (first | exact Ext.refl _ | assumption | refine Ext.drew ?_ | refine Ext.drewN ?_ _ | refine Ext.iter ?_ _ _ | refine Ext.alloc ?_ _ | refine Ext.setCell ?_ (by first | exact Nat.le_refl _ | (simp <;> omega)) _ | refine Ext.trans2 (by assumption) ?_)))) oq8.ints hl).mono ?_); rintro e w9 ⟨rfl, hx9⟩)); all_goals (refine hK _ _ ⟨(by repeat (first | exact Ext.refl _ | assumption | refine Ext.drew ?_ | refine Ext.drewN ?_ _ | refine Ext.iter ?_ _ _ | refine Ext.alloc ?_ _ | refine Ext.setCell ?_ (by first | exact Nat.le_refl _ | (simp <;> omega)) _ | refine Ext.trans2 (by assumption) ?_)), ?_⟩; clear hK K; go_simp))
    all_goals clear ho2
    all_goals first | (refine canon_ef ho3 rfl (fun K hK => ?_); go_simp; ((go_at_call 41; (with_reducible refine (htg.out _ (HX.out.ext ((hx0.trans (hx03.trans hx37)).trans (by repeat (first | exact Ext.refl _ | assumption | refine Ext.drew ?_ | refine Ext.drewN ?_ _ | refine Ext.iter ?_ _ _ | refine Ext.alloc ?_ _ | refine Ext.setCell ?_ (by first | exact Nat.le_refl _ | (simp <;> omega)) _ | refine Ext.trans2 (by assumption) ?_))))).mono ?_); rintro e w8 ⟨⟨p8, rfl, oq8⟩, hx8⟩)); all_goals (refine hK _ _ ⟨(by repeat (first | exact Ext.refl _ | assumption | refine Ext.drew ?_ | refine Ext.drewN ?_ _ | refine Ext.iter ?_ _ _ | refine Ext.alloc ?_ _ | refine Ext.setCell ?_ (by first | exact Nat.le_refl _ | (simp <;> omega)) _ | refine Ext.trans2 (by assumption) ?_)), ?_⟩; clear hK K; go_simp)) | (refine canon_ef ho3 rfl (fun K hK => ?_); go_simp; ((go_at_call 44; (with_reducible refine (eqGrid_c r c p4 p8 xs.length xs.length xs _ (oq5.out.ints.ext ((hx6.trans hx7).trans (by repeat (first | exact Ext.refl _ | assumption | refine Ext.drew ?_ | refine Ext.drewN ?_ _ | refine Ext.iter ?_ _ _ | refine Ext.alloc ?_ _ | refine Ext.setCell ?_ (by first | exact Nat.le_refl _ | (simp <;> omega)) _ | refine Ext.trans2 (by assumption) ?_)))) oq8.ints hl).mono ?_); rintro e w9 ⟨rfl, hx9⟩)); all_goals (refine hK _ _ ⟨(by repeat (first | exact Ext.refl _ | assumption | refine Ext.drew ?_ | refine Ext.drewN ?_ _ | refine Ext.iter ?_ _ _ | refine Ext.alloc ?_ _ | refine Ext.setCell ?_ (by first | exact Nat.le_refl _ | (simp <;> omega)) _ | refine Ext.trans2 (by assumption) ?_)), ?_⟩; clear hK K; go_simp))
    all_goals clear ho3
    all_goals (apply canon_st ho4 rfl; (intro w2 hS; first | (go_simp; first | done | rfl) | rfl | (obtain ⟨hc, hf, hk', hz⟩ := ecell hS; go_simp; first | done | rfl)); simp only [Act.put, List.setIfInBounds_toArray, List.set_cons_zero, List.set_cons_succ])
    all_goals clear ho4
    all_goals refine canon_done (NoPanic.normal ?_)
    have hx79 : Ext w7 w9 := ((Ext.refl w7).drew.trans hx8).trans hx9
    have hx59 := (hx6.trans hx7).trans hx79
    have hx39 := hx37.trans hx79
    have hG9 := hG7.ext hx79
    have g0 := hG9.cell (i := 0) (v := .int .i64 r) rfl; have g1 := hG9.cell (i := 1) (v := .int .i64 c) rfl; have g2 := hG9.cell (i := 2) (v := .slice p4 xs.length xs.length) rfl; have gl := hG9.lt
    have oq69 := Lib.hid ((oq6.out.ext hx7).ext hx79)
    clear oq8 hx8 hx9
    go_wp2_with fail
    refine (markGrid_c w3.heap.size r c p4 xs.length xs w9 (oq5.out.ext hx59) hl hx39.below.size).mono ?_
    rintro e w10 ⟨rfl, hb10, hk10⟩
    have hx310 : Ext w3 w10 := hx39.low hb10 (Nat.le_refl _)
    have hz59 := hx59.below.size
    have oq610 : OwnInts w5.heap.size w10 p6 L := oq69.out.keep hb10.size fun b o hn hp hlt => hk10 b hlt fun b' o' hn' hp' => by
      have h1 := hp4.out b' o' hn' hp'
      have h2 := (oq69.out.lt0 hn hp).1
      omega
    have oq610 := Lib.hid oq610
    have hz310 := hx310.below.size
    have hz10 := hb10.size
    clear hk10 hb10
    go_wp2_with (go_at_call 43; (with_reducible refine (heq.out _ _ _ _ _ oq610.out.ints (oq3.out.ext hx310)).mono ?_); rintro e w11 ⟨rfl, n11, rfl⟩)
    have hx11 : Ext w10 (w10.drewN n11) := (Ext.refl w10).drewN n11
    refine (mark_c w5.heap.size p6 c6 1 L _ (oq610.out.ext hx11) (by omega) (by omega)).mono ?_
    rintro e w12 ⟨rfl, oq12, hb12, -⟩
    have hx312 : Ext w3 w12 := (hx310.trans hx11).low hb12 (Nat.le_trans hx4.below.size hx5.below.size)
    have oq12 := Lib.hid oq12.ints
    go_wp2_with (go_at_call 47; (with_reducible refine (heldInt64S_c p6 c6 1 L.length _ oq12.out (by omega) (by omega)).mono ?_); rintro e w13 ⟨rfl, rfl⟩; have hb12' := FB.out _ (hx03.trans hx312); have q0 := hb12'.cell (i := 0) (v := .int .i64 r) rfl; have q1 := hb12'.cell (i := 1) (v := .int .i64 c) rfl; have q2 := hb12'.cell (i := 2) (v := .slice p xs.length k) rfl; have ql := hb12'.lt)
    refine (htg.out _ (HX.out.ext (hx0.trans (hx03.trans hx312)))).mono ?_
    rintro e w14 ⟨⟨p14, rfl, oq14⟩, hx14⟩
    have oq14 := Lib.hid oq14.ints
    go_wp2_with fail
    refine (hib.out _ _ oq14.out).mono ?_
    rintro e w15 ⟨⟨p15, c15, rfl, oq15⟩, hx15⟩
    have oq15 := Lib.hid oq15.ints
    go_wp2_with (first
      | (go_at_call 43; (with_reducible refine (heq.out _ _ _ _ _ oq15.out (oq3.out.ext ((hx312.trans hx14).trans hx15))).mono ?_); rintro e w16 ⟨rfl, n16, rfl⟩; have hx16 : Ext w15 (w15.drewN n16) := (Ext.refl w15).drewN n16)
      | (go_at_call 47; (with_reducible refine (heldInt64S_c p6 c6 1 L.length _ (oq12.out.ext ((hx14.trans hx15).trans hx16)) (by omega) (by omega)).mono ?_); rintro e w17 ⟨rfl, rfl⟩))
    go_ret
    exact ⟨rfl, (hx0.trans hx03).trans (hx312.trans ((hx14.trans hx15).trans hx16))⟩
  · have hsz := Lib.hid (fun W => szGrid_c r c p k xs.length W (by omega))
    rw [if_neg hl] at hsz
    go_enter Try.func7, Try.ntmps7
    go_wp2_with (go_at_call 39; (with_reducible refine (hsz.out _).mono ?_); rintro e w1 ⟨rfl, hx1⟩)
    go_ret
    exact ⟨rfl, hx0.trans hx1⟩
theorem open_Grid {w : World} {cs : List Value} (h : rds w [.i .i64, .i .i64, .sl (.i .i64)] cs) : ∃ (r c : Int) (p : Option Addr) (k : Nat) (xs : List Int), cs = [.int .i64 r, .int .i64 c, .slice p xs.length k] ∧ xs.length ≤ maxLen ∧ IntsAt w p xs := by
  obtain ⟨r, _, rfl, _, h⟩ := rds_int h
  obtain ⟨c, _, rfl, _, h⟩ := rds_int h
  obtain ⟨v, _, rfl, hv, h3⟩ := rds_sl h
  obtain ⟨p, k, xs, rfl, hl, hx, _⟩ := rd_ints hv
  obtain rfl := rds_nil h3
  exact ⟨r, c, p, k, xs, rfl, hl, hx⟩
namespace fnExactBandsOf
set_option maxRecDepth 100000 in
theorem lifted (os : Os) (started : os.Started) (H : Type) (enc : TypeId × Value → H) :
    ReturnsInHanded {} Try.checked os 7 .any (Rows.fnExactBandsOfSpec.pre6 enc Try.prog Try.f7 Rows.fnExactBandsOfRow.domain false) (Rows.fnExactBandsOfSpec.post enc Try.prog Try.f7 false true false false) := by
  refine returnsInHanded_of_change (C := Try.checked) lawOwn started (by kernel_rfl) Try.func7
    (ChangeSpec.witness6 (enc := enc) (C := Try.checked) false ⟨#[], #[.agg #[.int .i64 0, .int .i64 0, .slice none 0 0]], []⟩ 8 (by kernel_rfl) (by kernel_rfl) (by kernel_rfl) (by kernel_rfl)) ?_
  intro W base args ds gs before hval0 hW hcnd _
  have hval : ∀ (j : Nat) t v, Try.f7.params[j]? = some t → args[j]? = some v → Value.okWide Try.prog W .any base t v := hval0
  have hW' := hW
  obtain ⟨p, q, hA0, hV, rfl, hfz, hnd⟩ := hW
  have hA : DataW.TrodAll enc Try.prog W 0 (fun _ => true) true Try.f7.params.toList args.toList ds p := hA0
  rw [Try.params7] at hA hval
  obtain ⟨v0, vs0, d0, ds0, p0, q0, hargs, rfl, rfl, h0, r0⟩ := trodAll_cons hA
  obtain ⟨rfl, rfl, rfl⟩ := trodAll_nil r0
  obtain rfl : args = #[v0] := by cases args; simp_all
  obtain ⟨rfl, rfl⟩ := trodVars_none hV
  have lt0 : ∀ x ∈ p0, x.block < W.heap.size := by obtain ⟨m, hm⟩ := h0; exact DataW.trod_lt m _ _ _ hm
  obtain ⟨a0, rfl, s0⟩ := arg_st 9 [.i .i64, .i .i64, .sl (.i .i64)] (by kernel_rfl) Try.underlying61 (hval 0 61 v0 rfl rfl) h0
  obtain ⟨r, c, pp, kk, xs, rfl, hxl, hxs⟩ := open_Grid s0
  refine (bandsOf_law r c pp kk xs W hxs hxl).mono fun e W' ⟨he, hg⟩ => ?_
  have bel : Below W.heap.size W W' := hg
  subst he
  exact ⟨_, rfl, _, _, _, [], _, [], hW', trodAll_mk1 (shut_bool Try.underlying4 _), (trodAll_cons_mk (Below.trod lawLaid (by kernel_rfl) (of_decide_eq_true (by kernel_rfl)) h0 bel lt0) trodAll_mk0), rfl, bel.frame _, fun h => by cases h⟩
theorem over : Rows.fnExactBandsOfRow.holds Try.pinned (OpenSpec.ofChange Rows.fnExactBandsOfSpec) :=
  OpenClaim.holds_of_wide 7 Try.f7 rfl rfl rfl rfl rfl rfl rfl ⟨rfl, rfl, rfl, rfl, rfl⟩ rfl rfl rfl rfl rfl (by kernel_rfl) Try.func7 (by kernel_rfl)
    (of_decide_eq_true (by kernel_rfl)) (by unfold Func.isWrapper; first | (rw [if_pos (by decide +kernel)]; kernel_rfl) | (rw [if_neg (by decide +kernel)]; exact ⟨rfl, rfl⟩))
    (fun os started H enc _ => lifted os started H enc)
theorem proved : Rows.FnExactBandsOfSaid := over
end fnExactBandsOf

end Go.Proofs.Ytbnpdpmbbppnhaa
