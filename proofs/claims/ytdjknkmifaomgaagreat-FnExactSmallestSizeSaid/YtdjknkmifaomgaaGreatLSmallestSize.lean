
/- FnExactSmallestSize: for every input the program's SmallestSize returns what the reference's returns, and leaves its argument as it was. No conditions. -/
import Derived.Test.YtdjknkmifaomgaaGreatSize
import Derived.Test.YtdjknkmifaomgaaGreatRead
namespace Go.Proofs.YtdjknkmifaomgaaGreat
set_option linter.unusedVariables false
set_option linter.unusedSimpArgs false
open Go.RowKit Go.ChangeShapes Go.WideShapes Go.ChangeAt

set_option maxHeartbeats 1600000 in
set_option maxRecDepth 100000 in
theorem smallest_law (nm : ByteArray) (K p k q co : Int) (ps pl : Option Addr) (cs cl : Nat) (ss ls : List Int) (lv : Int) (t : ByteArray) (w : World) (hs : IntsAt w ps ss) (hlv : IntsAt w pl ls) (hn : nm.size ≤ maxLen) (hl1 : ss.length ≤ maxLen) (hl2 : ls.length ≤ maxLen) (ht : t.size ≤ maxLen) :
    Calls Tryz.prog 3 #[vFam nm K p k q ps ss.length cs co pl ls.length cl, .int .i64 lv, .string t] w fun e w' => e = .returned (.bool true) ∧ Ext w w' := by
  have HS := Lib.hid hs; have HLV := Lib.hid hlv; clear hs hlv
  have hbx := Blk.new w #[.string nm, .int .i64 K, .int .i64 p, .int .i64 k, .int .i64 q, .slice ps ss.length cs, .int .i64 co, .slice pl ls.length cl] 26
  have hx0 : Ext w (w.alloc (.cells #[.string nm, .int .i64 K, .int .i64 p, .int .i64 k, .int .i64 q, .slice ps ss.length cs, .int .i64 co, .slice pl ls.length cl] 26)) := (Ext.refl w).alloc _
  have hsz := Lib.hid (fun W => szFamily_c nm K p k q co ps pl ss.length cs ls.length cl W hn hl1 hl2)
  have FB := Lib.hid (fun W (h : Ext (w.alloc (.cells #[.string nm, .int .i64 K, .int .i64 p, .int .i64 k, .int .i64 q, .slice ps ss.length cs, .int .i64 co, .slice pl ls.length cl] 26)) W) => hbx.ext h)
  unfold maxLen at ht
  by_cases h20 : t.size ≤ 1048576
  · have h20i : ¬ (1048576 : Int) < t.size := by omega
    go_enter Tryz.func3, Tryz.ntmps3
    go_upto_region 5 with (go_at_call 5; (with_reducible refine (hsz.out _).mono ?_); rintro e w1 ⟨⟨r, rfl, hr⟩, hx1⟩; replace hr := Lib.hid hr)
    have hb1 := FB.out _ hx1
    have hxa := hx0.trans hx1
    rcases hr.out with rfl | ⟨hr0, h1, h2, h3⟩
    · go_wp2
      go_ret
      exact ⟨rfl, hxa⟩
    · have hr1 : ¬ r < 0 := by omega
      have htf := Lib.hid (fun W (a : IntsAt W ps ss) (b : IntsAt W pl ls) => toFamily_c nm K p k q co ps pl cs cl ss ls W a b h2 h3)
      have hsp := Lib.hid (fun ps' pl' W (a : IntsAt W ps' ss) (b : IntsAt W pl' ls) => sSmallest_c nm K p k q co ps' pl' ss.length ls.length ss ls lv t W a b h1 h2 h3 h20)
      have him := Lib.hid (fun ps' pl' W (a : IntsAt W ps' ss) (b : IntsAt W pl' ls) => iSmallest_c nm K p k q co ps' pl' ss.length ls.length ss ls lv t W a b h1 h2 h3 h20)
      generalize ssV nm K p k q co ss ls lv t = V at *
      obtain ⟨V1, V2⟩ := V
      simp only at hsp him
      have heq := Lib.hid (fun a b c d W (x1 : IntsAt W a ss) (x2 : IntsAt W b ls) (x3 : IntsAt W c ss) (x4 : IntsAt W d ls) => eqFamily_c nm K p k q co a b c d ss.length ls.length ss.length ls.length ss ls W x1 x2 x3 x4 h2 h3)
      have a0 := hb1.cell (i := 0) (v := .string nm) rfl; have a1 := hb1.cell (i := 1) (v := .int .i64 K) rfl; have a2 := hb1.cell (i := 2) (v := .int .i64 p) rfl; have a3 := hb1.cell (i := 3) (v := .int .i64 k) rfl; have a4 := hb1.cell (i := 4) (v := .int .i64 q) rfl; have a5 := hb1.cell (i := 5) (v := .slice ps ss.length cs) rfl; have a6 := hb1.cell (i := 6) (v := .int .i64 co) rfl; have a7 := hb1.cell (i := 7) (v := .slice pl ls.length cl) rfl; have aL := hb1.lt
      go_upto_region 8 with (first
        | (go_at_call 7; (with_reducible refine (htf.out _ (HS.out.ext hxa) (HLV.out.ext hxa)).mono ?_); rintro e w2 ⟨⟨p2, l2, rfl, i2, j2⟩, hx2⟩; replace i2 := Lib.hid i2; replace j2 := Lib.hid j2)
        | (go_at_call 6; (with_reducible refine (hsp.out _ _ _ i2.out j2.out).mono ?_); rintro e w3 ⟨rfl, hx3⟩))
      clear a0 a1 a2 a3 a4 a5 a6 a7 aL i2 j2 hr hb1
      have hx13 := (hx1.trans hx2).trans hx3
      have hb3 := FB.out _ hx13
      have hxb := hx0.trans hx13
      clear hx1 hx2 hx3 hxa
      have a0 := hb3.cell (i := 0) (v := .string nm) rfl; have a1 := hb3.cell (i := 1) (v := .int .i64 K) rfl; have a2 := hb3.cell (i := 2) (v := .int .i64 p) rfl; have a3 := hb3.cell (i := 3) (v := .int .i64 k) rfl; have a4 := hb3.cell (i := 4) (v := .int .i64 q) rfl; have a5 := hb3.cell (i := 5) (v := .slice ps ss.length cs) rfl; have a6 := hb3.cell (i := 6) (v := .int .i64 co) rfl; have a7 := hb3.cell (i := 7) (v := .slice pl ls.length cl) rfl; have aL := hb3.lt
      go_upto_region 9 with (go_at_call 7; (with_reducible refine (htf.out _ (HS.out.ext hxb) (HLV.out.ext hxb)).mono ?_); rintro e w4 ⟨⟨p4, l4, rfl, i4, j4⟩, hx4⟩)
      have hg := Blk.new w4 #[.string nm, .int .i64 K, .int .i64 p, .int .i64 k, .int .i64 q, .slice p4 ss.length ss.length, .int .i64 co, .slice l4 ls.length ls.length] 32
      have hx5 := hx4.alloc (.cells #[.string nm, .int .i64 K, .int .i64 p, .int .i64 k, .int .i64 q, .slice p4 ss.length ss.length, .int .i64 co, .slice l4 ls.length ls.length] 32)
      have i5 := Lib.hid (i4.ext ((Ext.refl w4).alloc (.cells #[.string nm, .int .i64 K, .int .i64 p, .int .i64 k, .int .i64 q, .slice p4 ss.length ss.length, .int .i64 co, .slice l4 ls.length ls.length] 32)))
      have j5 := Lib.hid (j4.ext ((Ext.refl w4).alloc (.cells #[.string nm, .int .i64 K, .int .i64 p, .int .i64 k, .int .i64 q, .slice p4 ss.length ss.length, .int .i64 co, .slice l4 ls.length ls.length] 32)))
      generalize w4.alloc (.cells #[.string nm, .int .i64 K, .int .i64 p, .int .i64 k, .int .i64 q, .slice p4 ss.length ss.length, .int .i64 co, .slice l4 ls.length ls.length] 32) = w5 at *
      generalize w4.heap.size = g4 at *
      clear a0 a1 a2 a3 a4 a5 a6 a7 aL i4 j4 hx4
      have b0 := hg.cell (i := 0) (v := .string nm) rfl; have b1 := hg.cell (i := 1) (v := .int .i64 K) rfl; have b2 := hg.cell (i := 2) (v := .int .i64 p) rfl; have b3 := hg.cell (i := 3) (v := .int .i64 k) rfl; have b4 := hg.cell (i := 4) (v := .int .i64 q) rfl; have b5 := hg.cell (i := 5) (v := .slice p4 ss.length ss.length) rfl; have b6 := hg.cell (i := 6) (v := .int .i64 co) rfl; have b7 := hg.cell (i := 7) (v := .slice l4 ls.length ls.length) rfl; have bL := hg.lt
      go_upto_region 12 with (go_at_call 8; (with_reducible refine (him.out _ _ _ i5.out j5.out).mono ?_); rintro e w6 ⟨rfl, hx6⟩)
      clear b0 b1 b2 b3 b4 b5 b6 b7 bL
      have hb6 := (hb3.ext hx5).ext hx6
      have hg6 := hg.ext hx6
      have hxc := (hxb.trans hx5).trans hx6
      have a0 := hb6.cell (i := 0) (v := .string nm) rfl; have a1 := hb6.cell (i := 1) (v := .int .i64 K) rfl; have a2 := hb6.cell (i := 2) (v := .int .i64 p) rfl; have a3 := hb6.cell (i := 3) (v := .int .i64 k) rfl; have a4 := hb6.cell (i := 4) (v := .int .i64 q) rfl; have a5 := hb6.cell (i := 5) (v := .slice ps ss.length cs) rfl; have a6 := hb6.cell (i := 6) (v := .int .i64 co) rfl; have a7 := hb6.cell (i := 7) (v := .slice pl ls.length cl) rfl; have aL := hb6.lt
      have b0 := hg6.cell (i := 0) (v := .string nm) rfl; have b1 := hg6.cell (i := 1) (v := .int .i64 K) rfl; have b2 := hg6.cell (i := 2) (v := .int .i64 p) rfl; have b3 := hg6.cell (i := 3) (v := .int .i64 k) rfl; have b4 := hg6.cell (i := 4) (v := .int .i64 q) rfl; have b5 := hg6.cell (i := 5) (v := .slice p4 ss.length ss.length) rfl; have b6 := hg6.cell (i := 6) (v := .int .i64 co) rfl; have b7 := hg6.cell (i := 7) (v := .slice l4 ls.length ls.length) rfl; have bL := hg6.lt
      have i6 := Lib.hid (i5.out.ext hx6); have j6 := Lib.hid (j5.out.ext hx6)
      clear hx13 hb3 hxb hx5 hg i5 j5 hx6 hb6 hg6
      refine wp_region_canon (fun w' => Ext w6 w') [(0, true), (1, true), (2, false), (3, false), (4, true)] (by kernel_rfl) (by kernel_rfl) (by decide) (by kernel_rfl) ?_ ?_
      · exact (by repeat (first | exact Ext.refl _ | assumption | refine Ext.drew ?_ | refine Ext.drewN ?_ _ | refine Ext.iter ?_ _ _ | refine Ext.alloc ?_ _ | refine Ext.setCell ?_ (by first | exact Nat.le_refl _ | (simp <;> omega)) _ | refine Ext.trans2 (by assumption) ?_))
      refine canon_intro fun ops eo => ?_
      have ho0 := canon_at eo 0 rfl
      have ho1 := canon_at eo 1 rfl
      have ho2 := canon_at eo 2 rfl
      have ho3 := canon_at eo 3 rfl
      have ho4 := canon_at eo 4 rfl
      clear eo
      all_goals (apply canon_st ho0 rfl; (intro w2 hS; first | (go_simp; first | done | rfl) | rfl | (obtain ⟨hc, hf, hk', hz⟩ := ecell hS; go_simp; first | done | rfl)); simp only [Act.put, List.setIfInBounds_toArray, List.set_cons_zero, List.set_cons_succ])
      all_goals clear ho0
      all_goals (apply canon_st ho1 rfl; (intro w2 hS; first | (go_simp; first | done | rfl) | rfl | (obtain ⟨hc, hf, hk', hz⟩ := ecell hS; go_simp; first | done | rfl)); simp only [Act.put, List.setIfInBounds_toArray, List.set_cons_zero, List.set_cons_succ])
      all_goals clear ho1
      all_goals first | (refine canon_ef ho2 rfl (fun K hK => ?_); go_simp; ((go_at_call 7; (with_reducible refine (htf.out _ (HS.out.ext (hxc.trans (by repeat (first | exact Ext.refl _ | assumption | refine Ext.drew ?_ | refine Ext.drewN ?_ _ | refine Ext.iter ?_ _ _ | refine Ext.alloc ?_ _ | refine Ext.setCell ?_ (by first | exact Nat.le_refl _ | (simp <;> omega)) _ | refine Ext.trans2 (by assumption) ?_)))) (HLV.out.ext (hxc.trans (by repeat (first | exact Ext.refl _ | assumption | refine Ext.drew ?_ | refine Ext.drewN ?_ _ | refine Ext.iter ?_ _ _ | refine Ext.alloc ?_ _ | refine Ext.setCell ?_ (by first | exact Nat.le_refl _ | (simp <;> omega)) _ | refine Ext.trans2 (by assumption) ?_))))).mono ?_); rintro e w7 ⟨⟨p7, l7, rfl, i7, j7⟩, hx7⟩)); all_goals (refine hK _ _ ⟨(by repeat (first | exact Ext.refl _ | assumption | refine Ext.drew ?_ | refine Ext.drewN ?_ _ | refine Ext.iter ?_ _ _ | refine Ext.alloc ?_ _ | refine Ext.setCell ?_ (by first | exact Nat.le_refl _ | (simp <;> omega)) _ | refine Ext.trans2 (by assumption) ?_)), ?_⟩; clear hK K; go_simp)) | (refine canon_ef ho2 rfl (fun K hK => ?_); go_simp; ((go_at_call 9; (with_reducible refine (heq.out _ _ _ _ _ (i6.out.ext (by repeat (first | exact Ext.refl _ | assumption | refine Ext.drew ?_ | refine Ext.drewN ?_ _ | refine Ext.iter ?_ _ _ | refine Ext.alloc ?_ _ | refine Ext.setCell ?_ (by first | exact Nat.le_refl _ | (simp <;> omega)) _ | refine Ext.trans2 (by assumption) ?_))) (j6.out.ext (by repeat (first | exact Ext.refl _ | assumption | refine Ext.drew ?_ | refine Ext.drewN ?_ _ | refine Ext.iter ?_ _ _ | refine Ext.alloc ?_ _ | refine Ext.setCell ?_ (by first | exact Nat.le_refl _ | (simp <;> omega)) _ | refine Ext.trans2 (by assumption) ?_))) i7 j7).mono ?_); rintro e w8 ⟨rfl, hx8⟩)); all_goals (refine hK _ _ ⟨(by repeat (first | exact Ext.refl _ | assumption | refine Ext.drew ?_ | refine Ext.drewN ?_ _ | refine Ext.iter ?_ _ _ | refine Ext.alloc ?_ _ | refine Ext.setCell ?_ (by first | exact Nat.le_refl _ | (simp <;> omega)) _ | refine Ext.trans2 (by assumption) ?_)), ?_⟩; clear hK K; go_simp))
      all_goals clear ho2
      all_goals first | (refine canon_ef ho3 rfl (fun K hK => ?_); go_simp; ((go_at_call 7; (with_reducible refine (htf.out _ (HS.out.ext (hxc.trans (by repeat (first | exact Ext.refl _ | assumption | refine Ext.drew ?_ | refine Ext.drewN ?_ _ | refine Ext.iter ?_ _ _ | refine Ext.alloc ?_ _ | refine Ext.setCell ?_ (by first | exact Nat.le_refl _ | (simp <;> omega)) _ | refine Ext.trans2 (by assumption) ?_)))) (HLV.out.ext (hxc.trans (by repeat (first | exact Ext.refl _ | assumption | refine Ext.drew ?_ | refine Ext.drewN ?_ _ | refine Ext.iter ?_ _ _ | refine Ext.alloc ?_ _ | refine Ext.setCell ?_ (by first | exact Nat.le_refl _ | (simp <;> omega)) _ | refine Ext.trans2 (by assumption) ?_))))).mono ?_); rintro e w7 ⟨⟨p7, l7, rfl, i7, j7⟩, hx7⟩)); all_goals (refine hK _ _ ⟨(by repeat (first | exact Ext.refl _ | assumption | refine Ext.drew ?_ | refine Ext.drewN ?_ _ | refine Ext.iter ?_ _ _ | refine Ext.alloc ?_ _ | refine Ext.setCell ?_ (by first | exact Nat.le_refl _ | (simp <;> omega)) _ | refine Ext.trans2 (by assumption) ?_)), ?_⟩; clear hK K; go_simp)) | (refine canon_ef ho3 rfl (fun K hK => ?_); go_simp; ((go_at_call 9; (with_reducible refine (heq.out _ _ _ _ _ (i6.out.ext (by repeat (first | exact Ext.refl _ | assumption | refine Ext.drew ?_ | refine Ext.drewN ?_ _ | refine Ext.iter ?_ _ _ | refine Ext.alloc ?_ _ | refine Ext.setCell ?_ (by first | exact Nat.le_refl _ | (simp <;> omega)) _ | refine Ext.trans2 (by assumption) ?_))) (j6.out.ext (by repeat (first | exact Ext.refl _ | assumption | refine Ext.drew ?_ | refine Ext.drewN ?_ _ | refine Ext.iter ?_ _ _ | refine Ext.alloc ?_ _ | refine Ext.setCell ?_ (by first | exact Nat.le_refl _ | (simp <;> omega)) _ | refine Ext.trans2 (by assumption) ?_))) i7 j7).mono ?_); rintro e w8 ⟨rfl, hx8⟩)); all_goals (refine hK _ _ ⟨(by repeat (first | exact Ext.refl _ | assumption | refine Ext.drew ?_ | refine Ext.drewN ?_ _ | refine Ext.iter ?_ _ _ | refine Ext.alloc ?_ _ | refine Ext.setCell ?_ (by first | exact Nat.le_refl _ | (simp <;> omega)) _ | refine Ext.trans2 (by assumption) ?_)), ?_⟩; clear hK K; go_simp))
      all_goals clear ho3
      all_goals (apply canon_st ho4 rfl; (intro w2 hS; first | (go_simp; first | done | rfl) | rfl | (obtain ⟨hc, hf, hk', hz⟩ := ecell hS; go_simp; first | done | rfl)); simp only [Act.put, List.setIfInBounds_toArray, List.set_cons_zero, List.set_cons_succ])
      all_goals clear ho4
      all_goals refine canon_done (NoPanic.normal ?_)
      go_wp2
      go_ret
      exact ⟨rfl, hxc.trans (by repeat (first | exact Ext.refl _ | assumption | refine Ext.drew ?_ | refine Ext.drewN ?_ _ | refine Ext.iter ?_ _ _ | refine Ext.alloc ?_ _ | refine Ext.setCell ?_ (by first | exact Nat.le_refl _ | (simp <;> omega)) _ | refine Ext.trans2 (by assumption) ?_))⟩
  · have h20i : (1048576 : Int) < t.size := by omega
    go_enter Tryz.func3, Tryz.ntmps3
    go_wp2
    go_ret
    exact ⟨rfl, hx0⟩
theorem open_FamilyLM {w : World} {cs : List Value} (h : rds w [.str, .i .i64, .st [.i .i64, .i .i64, .i .i64], .sl (.i .i64), .i .i64, .sl (.i .i64)] cs) : ∃ (nm : ByteArray) (K p k q : Int) (ps : Option Addr) (a : Nat) (ss : List Int) (co : Int) (pl : Option Addr) (b : Nat) (ls : List Int), cs = [.string nm, .int .i64 K, .int .i64 p, .int .i64 k, .int .i64 q, .slice ps ss.length a, .int .i64 co, .slice pl ls.length b] ∧ nm.size ≤ maxLen ∧ ss.length ≤ maxLen ∧ ls.length ≤ maxLen ∧ IntsAt w ps ss ∧ IntsAt w pl ls := by
  obtain ⟨nm, _, rfl, hn, h⟩ := rds_str h
  obtain ⟨K, _, rfl, _, h⟩ := rds_int h
  obtain ⟨c1, c2, rfl, hf, h4⟩ := rds_st h
  obtain ⟨p, _, rfl, _, hf⟩ := rds_int hf
  obtain ⟨k, _, rfl, _, hf⟩ := rds_int hf
  obtain ⟨q, _, rfl, _, hf⟩ := rds_int hf
  obtain rfl := rds_nil hf
  obtain ⟨v, _, rfl, hv, h5⟩ := rds_sl h4
  obtain ⟨ps, a, ss, rfl, hl, hx, _⟩ := rd_ints hv
  obtain ⟨co, _, rfl, _, h⟩ := rds_int h5
  obtain ⟨v2, _, rfl, hv2, h6⟩ := rds_sl h
  obtain ⟨pl, b, ls, rfl, hl2, hx2, _⟩ := rd_ints hv2
  obtain rfl := rds_nil h6
  exact ⟨nm, K, p, k, q, ps, a, ss, co, pl, b, ls, rfl, hn, hl, hl2, hx, hx2⟩
namespace fnExactSmallestSize
set_option maxRecDepth 100000 in
theorem lifted (os : Os) (started : os.Started) (H : Type) (enc : TypeId × Value → H) :
    ReturnsInHanded {} Tryz.checked os 3 .any (Rows.fnExactSmallestSizeSpec.pre6 enc Tryz.prog Tryz.f3 Rows.fnExactSmallestSizeRow.domain false) (Rows.fnExactSmallestSizeSpec.post enc Tryz.prog Tryz.f3 false true false false) := by
  refine returnsInHanded_of_change (C := Tryz.checked) lawOwn started (by kernel_rfl) Tryz.func3
    (ChangeSpec.witness6 (enc := enc) (C := Tryz.checked) false ⟨#[], #[.agg #[.string ByteArray.empty, .int .i64 0, .int .i64 0, .int .i64 0, .int .i64 0, .slice none 0 0, .int .i64 0, .slice none 0 0], .int .i64 0, .string ByteArray.empty], []⟩ 8 (by kernel_rfl) (by kernel_rfl) (by kernel_rfl) (by kernel_rfl)) ?_
  intro W base args ds gs before hval0 hW hcnd _
  have hval : ∀ (j : Nat) t v, Tryz.f3.params[j]? = some t → args[j]? = some v → Value.okWide Tryz.prog W .any base t v := hval0
  have hW' := hW
  obtain ⟨p, q, hA0, hV, rfl, hfz, hnd⟩ := hW
  have hA : DataW.TrodAll enc Tryz.prog W 0 (fun _ => true) true Tryz.f3.params.toList args.toList ds p := hA0
  rw [Tryz.params3] at hA hval
  obtain ⟨v0, vs0, d0, ds0, p0, q0, hargs, rfl, rfl, h0, r0⟩ := trodAll_cons hA
  obtain ⟨v1, vs1, d1, ds1, p1, q1, rfl, rfl, rfl, h1, r1⟩ := trodAll_cons r0
  obtain ⟨v2, vs2, d2, ds2, p2, q2, rfl, rfl, rfl, h2, r2⟩ := trodAll_cons r1
  obtain ⟨rfl, rfl, rfl⟩ := trodAll_nil r2
  obtain rfl : args = #[v0, v1, v2] := by cases args; simp_all
  obtain ⟨rfl, rfl⟩ := trodVars_none hV
  have lt0 : ∀ x ∈ p0, x.block < W.heap.size := by obtain ⟨m, hm⟩ := h0; exact DataW.trod_lt m _ _ _ hm
  obtain ⟨a0, rfl, s0⟩ := arg_st 9 [.str, .i .i64, .st [.i .i64, .i .i64, .i .i64], .sl (.i .i64), .i .i64, .sl (.i .i64)] (by kernel_rfl) Tryz.underlying26 (hval 0 26 v0 rfl rfl) h0
  have lt1 : ∀ x ∈ p1, x.block < W.heap.size := by obtain ⟨m, hm⟩ := h1; exact DataW.trod_lt m _ _ _ hm
  obtain ⟨a1, rfl, s1⟩ := arg_int Tryz.underlying2 (hval 1 2 v1 rfl rfl) h1
  have lt2 : ∀ x ∈ p2, x.block < W.heap.size := by obtain ⟨m, hm⟩ := h2; exact DataW.trod_lt m _ _ _ hm
  obtain ⟨a2, rfl, s2⟩ := arg_str Tryz.underlying9 (hval 2 9 v2 rfl rfl) h2
  obtain ⟨nm, K, p, k, q, ps, cc, ss, co, pl, cl, ls, rfl, hnm, hl1, hl2, hs, hlv⟩ := open_FamilyLM s0
  refine (smallest_law nm K p k q co ps pl cc cl ss ls a1 a2 W hs hlv hnm hl1 hl2 s2).mono fun e W' ⟨he, hg⟩ => ?_
  have bel : Below W.heap.size W W' := hg
  subst he
  exact ⟨_, rfl, _, _, _, [], _, [], hW', trodAll_mk1 (shut_bool Tryz.underlying4 _), (trodAll_cons_mk (Below.trod lawLaid (by kernel_rfl) (of_decide_eq_true (by kernel_rfl)) h0 bel lt0) (trodAll_cons_mk (Below.trod lawLaid (by kernel_rfl) (of_decide_eq_true (by kernel_rfl)) h1 bel lt1) (trodAll_cons_mk (Below.trod lawLaid (by kernel_rfl) (of_decide_eq_true (by kernel_rfl)) h2 bel lt2) trodAll_mk0))), rfl, bel.frame _, fun h => by cases h⟩
theorem over : Rows.fnExactSmallestSizeRow.holds Tryz.pinned (OpenSpec.ofChange Rows.fnExactSmallestSizeSpec) :=
  OpenClaim.holds_of_wide 3 Tryz.f3 rfl rfl rfl rfl rfl rfl rfl ⟨rfl, rfl, rfl, rfl, rfl⟩ rfl rfl rfl rfl rfl (by kernel_rfl) Tryz.func3 (by kernel_rfl)
    (of_decide_eq_true (by kernel_rfl)) (by unfold Func.isWrapper; first | (rw [if_pos (by decide +kernel)]; kernel_rfl) | (rw [if_neg (by decide +kernel)]; exact ⟨rfl, rfl⟩))
    (fun os started H enc _ => lifted os started H enc)
theorem proved : Rows.FnExactSmallestSizeSaid := over
end fnExactSmallestSize

end Go.Proofs.YtdjknkmifaomgaaGreat
