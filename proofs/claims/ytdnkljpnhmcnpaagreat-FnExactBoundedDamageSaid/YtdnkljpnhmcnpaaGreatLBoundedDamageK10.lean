/- Layouts of blocks and codes: which are valid, on both sides. -/
import Derived.Test.YtdnkljpnhmcnpaaGreatLBoundedDamageK09
import Derived.Deep.DeepCutAuto
set_option linter.unusedVariables false
set_option linter.unusedSimpArgs false
namespace Go.Proofs.YtdnkljpnhmcnpaaGreat
open Go.RowKit

abbrev vLay (p k q D C N : Int) : Value := .agg #[.int .i64 p, .int .i64 k, .int .i64 q, .int .i64 D, .int .i64 C, .int .i64 N]
abbrev vCode (p k q L C : Int) : Value := .agg #[.int .i64 p, .int .i64 k, .int .i64 q, .int .i64 L, .int .i64 C]
def codeOK (p k q L C : Int) : Prop := fldOK p k q ∧ (1 ≤ C ∧ C ≤ 64) ∧ (C + 1 ≤ L ∧ L ≤ 255) ∧ L < fldSize p k
def shV (D N b : Int) : Int := if N - D % N ≤ b then D / N + 1 else D / N
def layOK (p k q D C N : Int) : Prop := (1 ≤ N ∧ N ≤ 16) ∧ (N ≤ D ∧ D ≤ 1500) ∧ (1 ≤ C ∧ C ≤ 64) ∧ D + N * C ≤ 1500 ∧ codeOK p k q (shV D N 0 + C) C ∧ codeOK p k q (shV D N (N - 1) + C) C
theorem But.setK {g i : Nat} {a b : World} (h : But g a b) (v : Value) : But g a (b.setCell ⟨g, i, none⟩ v) := h.trans (But.set b g i v)
theorem shV_bd {D N b : Int} (hD : 0 ≤ D ∧ D ≤ 1500) (hN : 1 ≤ N ∧ N ≤ 16) : 0 ≤ shV D N b ∧ shV D N b ≤ 1501 := by
 have h1 : 0 ≤ D / N := Int.ediv_nonneg hD.1 (by omega)
 have h2 : D / N ≤ D := Int.ediv_le_self _ hD.1
 unfold shV; split <;> omega
set_option maxRecDepth 100000 in
theorem iShare7_c (p k q D C N b : Int) (w : World) (hD : 0 ≤ D ∧ D ≤ 1500) (hN : 1 ≤ N ∧ N ≤ 16) (hb : -100 ≤ b ∧ b ≤ 100) :
  Calls Tryz.prog 187 #[vLay p k q D C N, .int .i64 b] w fun e w' => e = .returned (.int .i64 (shV D N b)) ∧ Ext w w' := by
 have h1 : 0 ≤ D / N := Int.ediv_nonneg hD.1 (by omega)
 have h2 : D / N ≤ D := Int.ediv_le_self _ hD.1
 have h3 : 0 ≤ D % N := Int.emod_nonneg _ (by omega)
 have h4 : D % N < N := Int.emod_lt_of_pos _ (by omega)
 have hx0 : Ext w (w.alloc (.cells #[.int .i64 p, .int .i64 k, .int .i64 q, .int .i64 D, .int .i64 C, .int .i64 N] 95)) := (Ext.refl w).alloc _
 have hbx := Blk.new w #[.int .i64 p, .int .i64 k, .int .i64 q, .int .i64 D, .int .i64 C, .int .i64 N] 95
 have c3 := hbx.cell (i := 3) (v := .int .i64 D) rfl; have c5 := hbx.cell (i := 5) (v := .int .i64 N) rfl; have cl := hbx.lt
 have hq1 : D.tdiv N = D / N := Int.tdiv_eq_ediv_of_nonneg hD.1
 have hq2 : D.tmod N = D % N := Int.tmod_eq_emod_of_nonneg hD.1
 have hv : shV D N b = if N - D % N ≤ b then D / N + 1 else D / N := rfl
 have hn0 : ¬ N = 0 := by omega
 have hn0b : (N == 0) = false := by simpa using hn0
 generalize D % N = R at *
 generalize D / N = E at *
 replace hv := Lib.hid hv
 have e1 := IntWalk.i64_in E (by omega)
 have e2 := IntWalk.i64_in (N - R) (by omega)
 have e3 := IntWalk.i64_in R (by omega)
 go_enter Tryz.func187, Tryz.ntmps187
 go_upto_region 2 with (fail)
 generalize w.alloc (.cells #[.int .i64 p, .int .i64 k, .int .i64 q, .int .i64 D, .int .i64 C, .int .i64 N] 95) = w1 at *
 refine wp_region_canon (fun w' => Ext w1 w') [(0, true), (1, true), (2, true), (3, true), (4, true), (5, true), (6, true), (7, true), (8, true), (9, true)] (by kernel_rfl) (by kernel_rfl) (by decide) (by kernel_rfl) ?_ ?_
 ·exact eX
 refine canon_intro fun ops eo => ?_
 replace eo := canon_eo eo
 iterate 10 all_goals (refine cS eo rfl rfl evE ?_; simp only [ptN])
 all_goals (clear eo; refine canon_done (NoPanic.normal ?_))
 clear e1 e2 e3 hq1 hq2 hn0b
 by_cases hc : N - R ≤ b
 ·have hv2 := hv.out
  rw [if_pos hc] at hv2
  replace hv2 := Lib.hid hv2
  go_wp2
  go_ret
  exact ⟨by rw [hv2.out]; rfl, hx0.trans eX⟩
 ·have hv2 := hv.out
  rw [if_neg hc] at hv2
  replace hv2 := Lib.hid hv2
  go_wp2
  go_ret
  exact ⟨by rw [hv2.out]; rfl, hx0.trans eX⟩
set_option maxRecDepth 100000 in
theorem sSize7_c (p k q D C N b : Int) (w : World) (hD : 0 ≤ D ∧ D ≤ 1500) (hN : 1 ≤ N ∧ N ≤ 16) (hb : -100 ≤ b ∧ b ≤ 100) :
  Calls Tryz.prog 206 #[vLay p k q D C N, .int .i64 b] w fun e w' => e = .returned (.int .i64 (shV D N b)) ∧ Ext w w' := by
 have h1 : 0 ≤ D / N := Int.ediv_nonneg hD.1 (by omega)
 have h2 : D / N ≤ D := Int.ediv_le_self _ hD.1
 have h3 : 0 ≤ D % N := Int.emod_nonneg _ (by omega)
 have h4 : D % N < N := Int.emod_lt_of_pos _ (by omega)
 have hx0 : Ext w (w.alloc (.cells #[.int .i64 p, .int .i64 k, .int .i64 q, .int .i64 D, .int .i64 C, .int .i64 N] 95)) := (Ext.refl w).alloc _
 have hbx := Blk.new w #[.int .i64 p, .int .i64 k, .int .i64 q, .int .i64 D, .int .i64 C, .int .i64 N] 95
 have c3 := hbx.cell (i := 3) (v := .int .i64 D) rfl; have c5 := hbx.cell (i := 5) (v := .int .i64 N) rfl; have cl := hbx.lt
 have hq1 : D.tdiv N = D / N := Int.tdiv_eq_ediv_of_nonneg hD.1
 have hq2 : D.tmod N = D % N := Int.tmod_eq_emod_of_nonneg hD.1
 have hv : shV D N b = if N - D % N ≤ b then D / N + 1 else D / N := rfl
 have hn0 : ¬ N = 0 := by omega
 have hn0b : (N == 0) = false := by simpa using hn0
 generalize D % N = R at *
 generalize D / N = E at *
 replace hv := Lib.hid hv
 have e1 := IntWalk.i64_in E (by omega)
 have e2 := IntWalk.i64_in (N - R) (by omega)
 have e3 := IntWalk.i64_in R (by omega)
 go_enter Tryz.func206, Tryz.ntmps206
 go_upto_region 2 with (fail)
 generalize w.alloc (.cells #[.int .i64 p, .int .i64 k, .int .i64 q, .int .i64 D, .int .i64 C, .int .i64 N] 95) = w1 at *
 refine wp_region_canon (fun w' => Ext w1 w') [(0, true), (1, true), (2, true), (3, true), (4, true), (5, true), (6, true), (7, true), (8, true), (9, true)] (by kernel_rfl) (by kernel_rfl) (by decide) (by kernel_rfl) ?_ ?_
 ·exact eX
 refine canon_intro fun ops eo => ?_
 replace eo := canon_eo eo
 iterate 10 all_goals (refine cS eo rfl rfl evE ?_; simp only [ptN])
 all_goals (clear eo; refine canon_done (NoPanic.normal ?_))
 clear e1 e2 e3 hq1 hq2 hn0b
 by_cases hc : N - R ≤ b
 ·have hv2 := hv.out
  rw [if_pos hc] at hv2
  replace hv2 := Lib.hid hv2
  go_wp2
  go_ret
  exact ⟨by rw [hv2.out]; rfl, hx0.trans eX⟩
 ·have hv2 := hv.out
  rw [if_neg hc] at hv2
  replace hv2 := Lib.hid hv2
  go_wp2
  go_ret
  exact ⟨by rw [hv2.out]; rfl, hx0.trans eX⟩
set_option maxHeartbeats 800000 in
set_option maxRecDepth 100000 in
theorem iCode7_c (p k q D C N b : Int) (w : World) (hD : 0 ≤ D ∧ D ≤ 1500) (hN : 1 ≤ N ∧ N ≤ 16) (hb : -100 ≤ b ∧ b ≤ 100) (hC : 0 ≤ C ∧ C ≤ 1000) :
  Calls Tryz.prog 178 #[vLay p k q D C N, .int .i64 b] w fun e w' => e = .returned (vCode p k q (shV D N b + C) C) ∧ Ext w w' := by
 have hsb := shV_bd (b := b) hD hN
 have hsh := Lib.hid (fun W => iShare7_c p k q D C N b W hD hN hb)
 generalize shV D N b = S at *
 have hbx := (Blk.new w #[.int .i64 p, .int .i64 k, .int .i64 q, .int .i64 D, .int .i64 C, .int .i64 N] 95).alloc (.cells #[.int .i64 0, .int .i64 0, .int .i64 0, .int .i64 0, .int .i64 0] 202)
 have h0 := Blk.new (w.alloc (.cells #[.int .i64 p, .int .i64 k, .int .i64 q, .int .i64 D, .int .i64 C, .int .i64 N] 95)) #[.int .i64 0, .int .i64 0, .int .i64 0, .int .i64 0, .int .i64 0] 202
 have hx0 : Ext w ((w.alloc (.cells #[.int .i64 p, .int .i64 k, .int .i64 q, .int .i64 D, .int .i64 C, .int .i64 N] 95)).alloc (.cells #[.int .i64 0, .int .i64 0, .int .i64 0, .int .i64 0, .int .i64 0] 202)) := ((Ext.refl w).alloc _).alloc _
 simp only [World.size_alloc] at h0
 have e1 := IntWalk.i64_in (S + C) (by omega)
 go_enter Tryz.func178, Tryz.ntmps178
 go_upto_region 1 with (fail)
 generalize (w.alloc (.cells #[.int .i64 p, .int .i64 k, .int .i64 q, .int .i64 D, .int .i64 C, .int .i64 N] 95)).alloc (.cells #[.int .i64 0, .int .i64 0, .int .i64 0, .int .i64 0, .int .i64 0] 202) = w1 at *
 obtain ⟨c0, c1, c2, c3, c4, c5⟩ := hbx.c6; have cl := hbx.lt
 refine wp_region_canon (fun w' => But (w.heap.size + 1) w1 w') [(0, true), (1, true), (2, true), (3, true), (5, true), (6, true), (8, true), (9, true), (4, false), (7, true), (10, true), (11, false)] (by kernel_rfl) (by kernel_rfl) (by decide) (by kernel_rfl) ?_ ?_
 ·exact (But.refl _ _).drew
 refine canon_intro fun ops eo => ?_
 replace eo := canon_eo eo
 iterate 8 all_goals (refine cS eo rfl rfl evB ?_; simp only [ptN])
 all_goals first | (refine canon_ef (eo.out 4 rfl) rfl (fun K hK => ?_); go_simp; ((go_at_call 187; (with_reducible refine (hsh.out _).mono ?_); rintro e w3 ⟨rfl, hx3⟩; have hx4 : Ext w1 w3 := (Ext.refl w1).drew.trans hx3; have h3 := h0.ext hx4; obtain ⟨z0, z1, z2, z3, z4⟩ := h3.c5; have zl := h3.lt; have zf := h3.free)); all_goals (refine hK _ _ ⟨(by first | exact But.of hx4 | exact (((((But.of hx4).setK _).setK _).setK _).setK _).setK _), ?_⟩; clear hK K; go_simp)) | (refine canon_ef (eo.out 4 rfl) rfl (fun K hK => ?_); go_simp; (skip); all_goals (refine hK _ _ ⟨(by first | exact But.of hx4 | exact (((((But.of hx4).setK _).setK _).setK _).setK _).setK _), ?_⟩; clear hK K; go_simp))
 iterate 2 all_goals (refine cS eo rfl rfl evB ?_; simp only [ptN])
 all_goals first | (refine canon_ef (eo.out 11 rfl) rfl (fun K hK => ?_); go_simp; ((go_at_call 187; (with_reducible refine (hsh.out _).mono ?_); rintro e w3 ⟨rfl, hx3⟩; have hx4 : Ext w1 w3 := (Ext.refl w1).drew.trans hx3; have h3 := h0.ext hx4; obtain ⟨z0, z1, z2, z3, z4⟩ := h3.c5; have zl := h3.lt; have zf := h3.free)); all_goals (refine hK _ _ ⟨(by first | exact But.of hx4 | exact (((((But.of hx4).setK _).setK _).setK _).setK _).setK _), ?_⟩; clear hK K; go_simp)) | (refine canon_ef (eo.out 11 rfl) rfl (fun K hK => ?_); go_simp; (skip); all_goals (refine hK _ _ ⟨(by first | exact But.of hx4 | exact (((((But.of hx4).setK _).setK _).setK _).setK _).setK _), ?_⟩; clear hK K; go_simp))
 all_goals (clear eo; refine canon_done (NoPanic.normal ?_))
 have hF := ((((h3.set 0 (.int .i64 p)).set 1 (.int .i64 k)).set 2 (.int .i64 q)).set 3 (.int .i64 (S + C))).set 4 (.int .i64 C)
 have hx9 := (((((hx0.trans hx4).setCell (p := ⟨w.heap.size + 1, 0, none⟩) (Nat.le_succ _) (.int .i64 p)).setCell (p := ⟨w.heap.size + 1, 1, none⟩) (Nat.le_succ _) (.int .i64 k)).setCell (p := ⟨w.heap.size + 1, 2, none⟩) (Nat.le_succ _) (.int .i64 q)).setCell (p := ⟨w.heap.size + 1, 3, none⟩) (Nat.le_succ _) (.int .i64 (S + C))).setCell (p := ⟨w.heap.size + 1, 4, none⟩) (Nat.le_succ _) (.int .i64 C)
 clear c0 c1 c2 c3 c4 c5 z0 z1 z2 z3 z4 zl zf e1
 obtain ⟨c0, c1, c2, c3, c4⟩ := hF.c5
 replace hx9 := Lib.hid hx9
 have hXX : Ext w ((((((w3.setCell ⟨w.heap.size + 1, 0, none⟩ (.int .i64 p)).setCell ⟨w.heap.size + 1, 1, none⟩ (.int .i64 k)).setCell ⟨w.heap.size + 1, 2, none⟩ (.int .i64 q)).setCell ⟨w.heap.size + 1, 3, none⟩ (.int .i64 (S + C))).setCell ⟨w.heap.size + 1, 4, none⟩ (.int .i64 C))) := hx9.out
 go_wp2_with fail
 exact bodyPost_ret (v := vCode p k q (S + C) C) (by simp [results, Tryz.results178, go_sem, c0, c1, c2, c3, c4]) rfl ⟨rfl, hXX⟩
set_option maxHeartbeats 800000 in
set_option maxRecDepth 100000 in
theorem sBlock7_c (p k q D C N b : Int) (w : World) (hD : 0 ≤ D ∧ D ≤ 1500) (hN : 1 ≤ N ∧ N ≤ 16) (hb : -100 ≤ b ∧ b ≤ 100) (hC : 0 ≤ C ∧ C ≤ 1000) :
  Calls Tryz.prog 164 #[vLay p k q D C N, .int .i64 b] w fun e w' => e = .returned (vCode p k q (shV D N b + C) C) ∧ Ext w w' := by
 have hsb := shV_bd (b := b) hD hN
 have hsh := Lib.hid (fun W => sSize7_c p k q D C N b W hD hN hb)
 generalize shV D N b = S at *
 have hbx := (Blk.new w #[.int .i64 p, .int .i64 k, .int .i64 q, .int .i64 D, .int .i64 C, .int .i64 N] 95).alloc (.cells #[.int .i64 0, .int .i64 0, .int .i64 0, .int .i64 0, .int .i64 0] 202)
 have h0 := Blk.new (w.alloc (.cells #[.int .i64 p, .int .i64 k, .int .i64 q, .int .i64 D, .int .i64 C, .int .i64 N] 95)) #[.int .i64 0, .int .i64 0, .int .i64 0, .int .i64 0, .int .i64 0] 202
 have hx0 : Ext w ((w.alloc (.cells #[.int .i64 p, .int .i64 k, .int .i64 q, .int .i64 D, .int .i64 C, .int .i64 N] 95)).alloc (.cells #[.int .i64 0, .int .i64 0, .int .i64 0, .int .i64 0, .int .i64 0] 202)) := ((Ext.refl w).alloc _).alloc _
 simp only [World.size_alloc] at h0
 have e1 := IntWalk.i64_in (S + C) (by omega)
 go_enter Tryz.func164, Tryz.ntmps164
 go_upto_region 1 with (fail)
 generalize (w.alloc (.cells #[.int .i64 p, .int .i64 k, .int .i64 q, .int .i64 D, .int .i64 C, .int .i64 N] 95)).alloc (.cells #[.int .i64 0, .int .i64 0, .int .i64 0, .int .i64 0, .int .i64 0] 202) = w1 at *
 obtain ⟨c0, c1, c2, c3, c4, c5⟩ := hbx.c6; have cl := hbx.lt
 refine wp_region_canon (fun w' => But (w.heap.size + 1) w1 w') [(0, true), (1, true), (2, true), (3, true), (5, true), (6, true), (8, true), (9, true), (4, false), (7, true), (10, true), (11, false)] (by kernel_rfl) (by kernel_rfl) (by decide) (by kernel_rfl) ?_ ?_
 ·exact (But.refl _ _).drew
 refine canon_intro fun ops eo => ?_
 replace eo := canon_eo eo
 iterate 8 all_goals (refine cS eo rfl rfl evB ?_; simp only [ptN])
 all_goals first | (refine canon_ef (eo.out 4 rfl) rfl (fun K hK => ?_); go_simp; ((go_at_call 206; (with_reducible refine (hsh.out _).mono ?_); rintro e w3 ⟨rfl, hx3⟩; have hx4 : Ext w1 w3 := (Ext.refl w1).drew.trans hx3; have h3 := h0.ext hx4; obtain ⟨z0, z1, z2, z3, z4⟩ := h3.c5; have zl := h3.lt; have zf := h3.free)); all_goals (refine hK _ _ ⟨(by first | exact But.of hx4 | exact (((((But.of hx4).setK _).setK _).setK _).setK _).setK _), ?_⟩; clear hK K; go_simp)) | (refine canon_ef (eo.out 4 rfl) rfl (fun K hK => ?_); go_simp; (skip); all_goals (refine hK _ _ ⟨(by first | exact But.of hx4 | exact (((((But.of hx4).setK _).setK _).setK _).setK _).setK _), ?_⟩; clear hK K; go_simp))
 iterate 2 all_goals (refine cS eo rfl rfl evB ?_; simp only [ptN])
 all_goals first | (refine canon_ef (eo.out 11 rfl) rfl (fun K hK => ?_); go_simp; ((go_at_call 206; (with_reducible refine (hsh.out _).mono ?_); rintro e w3 ⟨rfl, hx3⟩; have hx4 : Ext w1 w3 := (Ext.refl w1).drew.trans hx3; have h3 := h0.ext hx4; obtain ⟨z0, z1, z2, z3, z4⟩ := h3.c5; have zl := h3.lt; have zf := h3.free)); all_goals (refine hK _ _ ⟨(by first | exact But.of hx4 | exact (((((But.of hx4).setK _).setK _).setK _).setK _).setK _), ?_⟩; clear hK K; go_simp)) | (refine canon_ef (eo.out 11 rfl) rfl (fun K hK => ?_); go_simp; (skip); all_goals (refine hK _ _ ⟨(by first | exact But.of hx4 | exact (((((But.of hx4).setK _).setK _).setK _).setK _).setK _), ?_⟩; clear hK K; go_simp))
 all_goals (clear eo; refine canon_done (NoPanic.normal ?_))
 have hF := ((((h3.set 0 (.int .i64 p)).set 1 (.int .i64 k)).set 2 (.int .i64 q)).set 3 (.int .i64 (S + C))).set 4 (.int .i64 C)
 have hx9 := (((((hx0.trans hx4).setCell (p := ⟨w.heap.size + 1, 0, none⟩) (Nat.le_succ _) (.int .i64 p)).setCell (p := ⟨w.heap.size + 1, 1, none⟩) (Nat.le_succ _) (.int .i64 k)).setCell (p := ⟨w.heap.size + 1, 2, none⟩) (Nat.le_succ _) (.int .i64 q)).setCell (p := ⟨w.heap.size + 1, 3, none⟩) (Nat.le_succ _) (.int .i64 (S + C))).setCell (p := ⟨w.heap.size + 1, 4, none⟩) (Nat.le_succ _) (.int .i64 C)
 clear c0 c1 c2 c3 c4 c5 z0 z1 z2 z3 z4 zl zf e1
 obtain ⟨c0, c1, c2, c3, c4⟩ := hF.c5
 replace hx9 := Lib.hid hx9
 have hXX : Ext w ((((((w3.setCell ⟨w.heap.size + 1, 0, none⟩ (.int .i64 p)).setCell ⟨w.heap.size + 1, 1, none⟩ (.int .i64 k)).setCell ⟨w.heap.size + 1, 2, none⟩ (.int .i64 q)).setCell ⟨w.heap.size + 1, 3, none⟩ (.int .i64 (S + C))).setCell ⟨w.heap.size + 1, 4, none⟩ (.int .i64 C))) := hx9.out
 go_wp2_with fail
 exact bodyPost_ret (v := vCode p k q (S + C) C) (by simp [results, Tryz.results164, go_sem, c0, c1, c2, c3, c4]) rfl ⟨rfl, hXX⟩
theorem fldOK_szbd {p k q : Int} (h : fldOK p k q) : 3 ≤ fldSize p k ∧ fldSize p k ≤ 1021 := (fldSize_bd h).1
set_option maxHeartbeats 800000 in
set_option maxRecDepth 100000 in
theorem iIsCode_c (p k q L C : Int) (w : World) (hL : -100000 ≤ L ∧ L ≤ 100000) (hC : -100000 ≤ C ∧ C ≤ 100000) :
  Calls Tryz.prog 177 #[vCode p k q L C] w fun e w' => isB e (codeOK p k q L C) ∧ Ext w w' := by
 have hcd : Hid (∀ W, Calls Tryz.prog 213 #[vCode p k q L C] W fun e w' => (∃ (v : Value) (b : Bool), e = .returned (.tuple #[v, .bool b]) ∧ (b = true ↔ codeOK p k q L C)) ∧ Ext W w') := by
  refine Lib.hid fun W => ?_
  have hbx := Blk.new W #[.int .i64 p, .int .i64 k, .int .i64 q, .int .i64 L, .int .i64 C] 202
  have hx0 : Ext W (W.alloc (.cells #[.int .i64 p, .int .i64 k, .int .i64 q, .int .i64 L, .int .i64 C] 202)) := (Ext.refl W).alloc _
  obtain ⟨c0, c1, c2, c3, c4⟩ := hbx.c5; have cl := hbx.lt
  have hv := Lib.hid (show codeOK p k q L C ↔ fldOK p k q ∧ (1 ≤ C ∧ C ≤ 64) ∧ (C + 1 ≤ L ∧ L ≤ 255) ∧ L < fldSize p k from Iff.rfl)
  have e1 := IntWalk.i64_in (C + 1) (by omega)
  by_cases hf : fldOK p k q
  ·have hca := Lib.hid (fun W => calcOK_c p k q (fldSize p k) hf rfl W)
   have hsz := fldOK_szbd hf
   generalize fldSize p k = Z at *
   replace hf := Lib.hid hf
   by_cases h1 : 1 ≤ C ∧ C ≤ 64
   ·by_cases h2 : C + 1 ≤ L ∧ L ≤ 255
    ·by_cases h3 : Z ≤ L
     ·go_enter Tryz.func213, Tryz.ntmps213
      go_upto_region 4 with (first
       | (go_at_call 35; (with_reducible refine (inRange_c _ _ _ _).mono ?_); rintro e w1 ⟨⟨hP, rfl⟩ | ⟨hP, rfl⟩, rfl⟩ <;> first | (exfalso; omega) | skip)
       | (go_at_call 185; (with_reducible refine (hca.out _).mono ?_); rintro e w2 ⟨⟨g, bb, rfl, hcb⟩, hx2⟩))
      have hb2 := hbx.ext hx2
      have hxw := hx0.trans hx2
      have z1 := hcb.sizeCell
      have z3 := hb2.cell (i := 3) (v := .int .i64 L) rfl; have z4 := hb2.cell (i := 4) (v := .int .i64 C) rfl; have zl := hb2.lt
      have zg : g < w2.heap.size := by obtain ⟨cs, hh, -⟩ := hcb; exact hh.lt
      clear c0 c1 c2 c3 c4 cl e1
      refine wp_region_canon (fun w' => Ext w2 w') [(0, true), (1, true), (2, true), (3, true), (4, true), (5, true), (6, true), (7, true), (8, true), (9, true), (10, true)] (by kernel_rfl) (by kernel_rfl) (by decide) (by kernel_rfl) ?_ ?_
      ·exact eX
      refine canon_intro fun ops eo => ?_
      replace eo := canon_eo eo
      iterate 3 all_goals (refine cS eo rfl rfl evE ?_; simp only [ptN])
      iterate 7 all_goals ((first | refine cU eo rfl rfl rfl rfl rfl ?_ | refine cX eo rfl rfl rfl rfl rfl ?_ | refine cW eo rfl rfl rfl rfl rfl evE ?_); simp only [ptN])
      all_goals (refine cS eo rfl rfl evE ?_; simp only [ptN])
      all_goals (clear eo; refine canon_done (NoPanic.normal ?_))
      go_wp2
      go_ret2
      exact ⟨⟨_, false, rfl, by simp; exact fun h => absurd (hv.out.1 h).2.2.2 (by omega)⟩, hxw.trans eX⟩
     ·have h3' : L < Z := by omega
      go_enter Tryz.func213, Tryz.ntmps213
      go_upto_region 4 with (first
       | (go_at_call 35; (with_reducible refine (inRange_c _ _ _ _).mono ?_); rintro e w1 ⟨⟨hP, rfl⟩ | ⟨hP, rfl⟩, rfl⟩ <;> first | (exfalso; omega) | skip)
       | (go_at_call 185; (with_reducible refine (hca.out _).mono ?_); rintro e w2 ⟨⟨g, bb, rfl, hcb⟩, hx2⟩))
      have hb2 := hbx.ext hx2
      have hxw := hx0.trans hx2
      have z1 := hcb.sizeCell
      have z3 := hb2.cell (i := 3) (v := .int .i64 L) rfl; have z4 := hb2.cell (i := 4) (v := .int .i64 C) rfl; have zl := hb2.lt
      have zg : g < w2.heap.size := by obtain ⟨cs, hh, -⟩ := hcb; exact hh.lt
      clear c0 c1 c2 c3 c4 cl e1
      refine wp_region_canon (fun w' => Ext w2 w') [(0, true), (1, true), (2, true), (3, true), (4, true), (5, true), (6, true), (7, true), (8, true), (9, true), (10, true)] (by kernel_rfl) (by kernel_rfl) (by decide) (by kernel_rfl) ?_ ?_
      ·exact eX
      refine canon_intro fun ops eo => ?_
      replace eo := canon_eo eo
      iterate 3 all_goals (refine cS eo rfl rfl evE ?_; simp only [ptN])
      iterate 7 all_goals ((first | refine cU eo rfl rfl rfl rfl rfl ?_ | refine cX eo rfl rfl rfl rfl rfl ?_ | refine cW eo rfl rfl rfl rfl rfl evE ?_); simp only [ptN])
      all_goals (refine cS eo rfl rfl evE ?_; simp only [ptN])
      all_goals (clear eo; refine canon_done (NoPanic.normal ?_))
      go_wp2
      go_ret2
      exact ⟨⟨_, true, rfl, by simp; exact hv.out.2 ⟨hf.out, h1, h2, h3'⟩⟩, hxw.trans eX⟩
    ·clear hca
     go_enter Tryz.func213, Tryz.ntmps213
     go_wp2_with (go_at_call 35; (with_reducible refine (inRange_c _ _ _ _).mono ?_); rintro e w1 ⟨⟨hP, rfl⟩ | ⟨hP, rfl⟩, rfl⟩ <;> first | (exfalso; omega) | skip)
     go_ret2
     exact ⟨⟨_, false, rfl, by simp; exact fun h => absurd (hv.out.1 h).2.2.1 h2⟩, hx0⟩
   ·clear hca
    go_enter Tryz.func213, Tryz.ntmps213
    go_wp2_with (go_at_call 35; (with_reducible refine (inRange_c _ _ _ _).mono ?_); rintro e w1 ⟨⟨hP, rfl⟩ | ⟨hP, rfl⟩, rfl⟩ <;> first | (exfalso; omega) | skip)
    go_ret2
    exact ⟨⟨_, false, rfl, by simp; exact fun h => absurd (hv.out.1 h).2.1 h1⟩, hx0⟩
  ·have hca := Lib.hid (fun W => calcNo_c p k q hf W)
   have hff := Lib.hid hf
   by_cases h1 : 1 ≤ C ∧ C ≤ 64
   ·by_cases h2 : C + 1 ≤ L ∧ L ≤ 255
    ·go_enter Tryz.func213, Tryz.ntmps213
     go_upto_region 4 with (first
      | (go_at_call 35; (with_reducible refine (inRange_c _ _ _ _).mono ?_); rintro e w1 ⟨⟨hP, rfl⟩ | ⟨hP, rfl⟩, rfl⟩ <;> first | (exfalso; omega) | skip)
      | (go_at_call 185; (with_reducible refine (hca.out _).mono ?_); rintro e w2 ⟨⟨vv, rfl⟩, hx2⟩))
     have hxw := hx0.trans hx2
     clear c0 c1 c2 c3 c4 cl e1
     refine wp_region_canon (fun w' => Ext w2 w') [(0, true), (1, true), (2, true), (3, true), (4, true), (5, true), (6, true), (7, true), (8, true), (9, true), (10, true)] (by kernel_rfl) (by kernel_rfl) (by decide) (by kernel_rfl) ?_ ?_
     ·exact eX
     refine canon_intro fun ops eo => ?_
     replace eo := canon_eo eo
     iterate 3 all_goals (refine cS eo rfl rfl evE ?_; simp only [ptN])
     iterate 7 all_goals ((first | refine cU eo rfl rfl rfl rfl rfl ?_ | refine cX eo rfl rfl rfl rfl rfl ?_ | refine cW eo rfl rfl rfl rfl rfl evE ?_); simp only [ptN])
     all_goals (refine cS eo rfl rfl evE ?_; simp only [ptN])
     all_goals (clear eo; refine canon_done (NoPanic.normal ?_))
     go_wp2
     go_ret2
     exact ⟨⟨_, false, rfl, by simp; exact fun h => absurd (hv.out.1 h).1 hff.out⟩, hxw.trans eX⟩
    ·clear hca
     go_enter Tryz.func213, Tryz.ntmps213
     go_wp2_with (go_at_call 35; (with_reducible refine (inRange_c _ _ _ _).mono ?_); rintro e w1 ⟨⟨hP, rfl⟩ | ⟨hP, rfl⟩, rfl⟩ <;> first | (exfalso; omega) | skip)
     go_ret2
     exact ⟨⟨_, false, rfl, by simp; exact fun h => absurd (hv.out.1 h).2.2.1 h2⟩, hx0⟩
   ·clear hca
    go_enter Tryz.func213, Tryz.ntmps213
    go_wp2_with (go_at_call 35; (with_reducible refine (inRange_c _ _ _ _).mono ?_); rintro e w1 ⟨⟨hP, rfl⟩ | ⟨hP, rfl⟩, rfl⟩ <;> first | (exfalso; omega) | skip)
    go_ret2
    exact ⟨⟨_, false, rfl, by simp; exact fun h => absurd (hv.out.1 h).2.1 h1⟩, hx0⟩
 have hx0 : Ext w (w.alloc (.cells #[.int .i64 p, .int .i64 k, .int .i64 q, .int .i64 L, .int .i64 C] 202)) := (Ext.refl w).alloc _
 generalize codeOK p k q L C = M at *
 go_enter Tryz.func177, Tryz.ntmps177
 go_wp2_with (go_at_call 213; (with_reducible refine (hcd.out _).mono ?_); rintro e w1 ⟨⟨vv, b, rfl, hb⟩, hx1⟩)
 go_ret
 exact ⟨isB_m hb, hx0.trans hx1⟩
set_option maxHeartbeats 800000 in
set_option maxRecDepth 100000 in
theorem sIsCode_c (p k q L C : Int) (w : World) (hL : -100000 ≤ L ∧ L ≤ 100000) (hC : -100000 ≤ C ∧ C ≤ 100000) :
  Calls Tryz.prog 163 #[vCode p k q L C] w fun e w' => isB e (codeOK p k q L C) ∧ Ext w w' := by
 have hbx := Blk.new w #[.int .i64 p, .int .i64 k, .int .i64 q, .int .i64 L, .int .i64 C] 202
 have hx0 : Ext w (w.alloc (.cells #[.int .i64 p, .int .i64 k, .int .i64 q, .int .i64 L, .int .i64 C] 202)) := (Ext.refl w).alloc _
 obtain ⟨c0, c1, c2, c3, c4⟩ := hbx.c5; have cl := hbx.lt
 have hv := Lib.hid (show codeOK p k q L C ↔ fldOK p k q ∧ (1 ≤ C ∧ C ≤ 64) ∧ (C + 1 ≤ L ∧ L ≤ 255) ∧ L < fldSize p k from Iff.rfl)
 have e1 := IntWalk.i64_in (C + 1) (by omega)
 have hif := Lib.hid (fun W => sIsField_c p k q W)
 by_cases hf : fldOK p k q
 ·have hkb := (fldSize_bd hf).2
  have hl2 := Lib.hid (fun W => l02Size_c p k q W hkb)
  have hsz := fldOK_szbd hf
  generalize codeOK p k q L C = M at *
  generalize fldOK p k q = G at *
  generalize fldSize p k = Z at *
  replace hf := Lib.hid hf
  by_cases h1 : 1 ≤ C ∧ C ≤ 64
  ·go_enter Tryz.func163, Tryz.ntmps163
   go_upto_region 3 with (first
    | (go_at_call 104; (with_reducible refine (hif.out _).mono ?_); rintro e w1 ⟨⟨hP, rfl⟩ | ⟨hP, rfl⟩, hx1⟩ <;> (first | exact absurd hf.out hP | skip); have hb1 := hbx.ext hx1; obtain ⟨d0, d1, d2, d3, d4⟩ := hb1.c5; have dl := hb1.lt)
    | (go_at_call 29; (with_reducible refine (l01In_c _ _ _ _).mono ?_); rintro e w1' ⟨⟨hP', rfl⟩ | ⟨hP', rfl⟩, rfl⟩ <;> first | (exfalso; omega) | skip))
   clear c0 c1 c2 c3 c4 cl
   have hxw := hx0.trans hx1
   by_cases h2 : C + 1 ≤ L ∧ L ≤ 255
   ·skip
    refine wp_region_canon (fun w' => Ext w1 w') [(0, true), (1, true), (2, true), (3, true), (4, true), (5, false), (6, true), (7, true), (8, true), (9, true), (10, true), (11, false), (12, true), (13, true), (14, true)] (by kernel_rfl) (by kernel_rfl) (by decide) (by kernel_rfl) ?_ ?_
    ·exact eX
    refine canon_intro fun ops eo => ?_
    replace eo := canon_eo eo
    iterate 5 all_goals (refine cS eo rfl rfl evE ?_; simp only [ptN])
    all_goals first | (refine canon_ef (eo.out 5 rfl) rfl (fun K hK => ?_); go_simp; ((go_at_call 29; (with_reducible refine (l01In_c _ _ _ _).mono ?_); rintro e w2' ⟨⟨hP2, rfl⟩ | ⟨hP2, rfl⟩, rfl⟩ <;> first | (exfalso; omega) | skip)); all_goals (refine hK _ _ ⟨eX, ?_⟩; clear hK K; go_simp)) | (refine canon_ef (eo.out 5 rfl) rfl (fun K hK => ?_); go_simp; ((go_at_call 162; (with_reducible refine (hl2.out _).mono ?_); rintro e w3 ⟨rfl, hx3⟩)); all_goals (refine hK _ _ ⟨eX, ?_⟩; clear hK K; go_simp))
    all_goals (refine cS eo rfl rfl evE ?_; simp only [ptN])
    iterate 4 all_goals ((first | refine cU eo rfl rfl rfl rfl rfl ?_ | refine cX eo rfl rfl rfl rfl rfl ?_ | refine cW eo rfl rfl rfl rfl rfl evE ?_); simp only [ptN])
    all_goals first | (refine canon_efu (eo.out 11 rfl) rfl (eo.out _ rfl) rfl rfl (by first | assumption | exact eX) ?_; simp only [ptN]) | (refine canon_efx (eo.out 11 rfl) rfl (eo.out _ rfl) rfl rfl (by first | assumption | exact eX) ?_; simp only [ptN]) | (refine canon_efw (eo.out 11 rfl) rfl (eo.out _ rfl) rfl rfl (fun K hK => ?_); go_simp; ((go_at_call 29; (with_reducible refine (l01In_c _ _ _ _).mono ?_); rintro e w2' ⟨⟨hP2, rfl⟩ | ⟨hP2, rfl⟩, rfl⟩ <;> first | (exfalso; omega) | skip)); all_goals (refine hK _ _ ⟨eX, ?_⟩; clear hK K; go_simp)) | (refine canon_efw (eo.out 11 rfl) rfl (eo.out _ rfl) rfl rfl (fun K hK => ?_); go_simp; ((go_at_call 162; (with_reducible refine (hl2.out _).mono ?_); rintro e w3 ⟨rfl, hx3⟩)); all_goals (refine hK _ _ ⟨eX, ?_⟩; clear hK K; go_simp))
    all_goals ((first | refine cU eo rfl rfl rfl rfl rfl ?_ | refine cX eo rfl rfl rfl rfl rfl ?_ | refine cW eo rfl rfl rfl rfl rfl evE ?_); simp only [ptN])
    iterate 2 all_goals (refine cS eo rfl rfl evE ?_; simp only [ptN])
    all_goals (clear eo; refine canon_done (NoPanic.normal ?_))
    go_wp2
    go_ret
    exact ⟨isB_m (by simp only [decide_eq_true_eq]; exact ⟨fun h => hv.out.2 ⟨hf.out, h1, h2, h⟩, fun h => (hv.out.1 h).2.2.2⟩), hxw.trans eX⟩
   ·skip
    refine wp_region_canon (fun w' => Ext w1 w') [(0, true), (1, true), (2, true), (3, true), (4, true), (5, false), (6, true), (7, true), (8, true), (9, true), (10, true), (11, false), (12, true), (13, true), (14, true)] (by kernel_rfl) (by kernel_rfl) (by decide) (by kernel_rfl) ?_ ?_
    ·exact eX
    refine canon_intro fun ops eo => ?_
    replace eo := canon_eo eo
    iterate 5 all_goals (refine cS eo rfl rfl evE ?_; simp only [ptN])
    all_goals first | (refine canon_ef (eo.out 5 rfl) rfl (fun K hK => ?_); go_simp; ((go_at_call 29; (with_reducible refine (l01In_c _ _ _ _).mono ?_); rintro e w2' ⟨⟨hP2, rfl⟩ | ⟨hP2, rfl⟩, rfl⟩ <;> first | (exfalso; omega) | skip)); all_goals (refine hK _ _ ⟨eX, ?_⟩; clear hK K; go_simp))
    all_goals (refine cS eo rfl rfl evE ?_; simp only [ptN])
    iterate 4 all_goals ((first | refine cU eo rfl rfl rfl rfl rfl ?_ | refine cX eo rfl rfl rfl rfl rfl ?_ | refine cW eo rfl rfl rfl rfl rfl evE ?_); simp only [ptN])
    all_goals first | (refine canon_efu (eo.out 11 rfl) rfl (eo.out _ rfl) rfl rfl (by first | assumption | exact eX) ?_; simp only [ptN]) | (refine canon_efx (eo.out 11 rfl) rfl (eo.out _ rfl) rfl rfl (by first | assumption | exact eX) ?_; simp only [ptN]) | (refine canon_efw (eo.out 11 rfl) rfl (eo.out _ rfl) rfl rfl (fun K hK => ?_); go_simp; ((go_at_call 29; (with_reducible refine (l01In_c _ _ _ _).mono ?_); rintro e w2' ⟨⟨hP2, rfl⟩ | ⟨hP2, rfl⟩, rfl⟩ <;> first | (exfalso; omega) | skip)); all_goals (refine hK _ _ ⟨eX, ?_⟩; clear hK K; go_simp))
    all_goals ((first | refine cU eo rfl rfl rfl rfl rfl ?_ | refine cX eo rfl rfl rfl rfl rfl ?_ | refine cW eo rfl rfl rfl rfl rfl evE ?_); simp only [ptN])
    iterate 2 all_goals (refine cS eo rfl rfl evE ?_; simp only [ptN])
    all_goals (clear eo; refine canon_done (NoPanic.normal ?_))
    go_wp2
    go_ret
    exact ⟨isB_f (fun h => h2 (hv.out.1 h).2.2.1), hxw.trans eX⟩
  ·go_enter Tryz.func163, Tryz.ntmps163
   go_wp2_with (first
    | (go_at_call 104; (with_reducible refine (hif.out _).mono ?_); rintro e w1 ⟨⟨hP, rfl⟩ | ⟨hP, rfl⟩, hx1⟩ <;> (first | exact absurd hf.out hP | skip); have hb1 := hbx.ext hx1; have d4 := hb1.cell (i := 4) (v := .int .i64 C) rfl; have dl := hb1.lt)
    | (go_at_call 29; (with_reducible refine (l01In_c _ _ _ _).mono ?_); rintro e w1' ⟨⟨hP', rfl⟩ | ⟨hP', rfl⟩, rfl⟩ <;> first | (exfalso; omega) | skip))
   go_ret
   exact ⟨isB_f (fun h => h1 (hv.out.1 h).2.1), hx0.trans hx1⟩
 ·generalize codeOK p k q L C = M at *
  generalize fldOK p k q = G at *
  replace hf := Lib.hid hf
  go_enter Tryz.func163, Tryz.ntmps163
  go_wp2_with (go_at_call 104; (with_reducible refine (hif.out _).mono ?_); rintro e w1 ⟨⟨hP, rfl⟩ | ⟨hP, rfl⟩, hx1⟩ <;> (first | exact absurd hP hf.out | skip))
  go_ret
  exact ⟨isB_f (fun h => hf.out (hv.out.1 h).1), hx0.trans hx1⟩
theorem total_c (p k q D C N : Int) (w : World) (hD : -100000 ≤ D ∧ D ≤ 100000) (hN : 1 ≤ N ∧ N ≤ 16) (hC : 1 ≤ C ∧ C ≤ 64) :
  Calls Tryz.prog 68 #[vLay p k q D C N] w fun e w' => e = .returned (.int .i64 (D + N * C)) ∧ Ext w w' := by
 have h1 : 0 ≤ N * C := Int.mul_nonneg (by omega) (by omega)
 have h2 : N * C ≤ 16 * 64 := Int.mul_le_mul hN.2 hC.2 (by omega) (by omega)
 have hx0 : Ext w (w.alloc (.cells #[.int .i64 p, .int .i64 k, .int .i64 q, .int .i64 D, .int .i64 C, .int .i64 N] 95)) := (Ext.refl w).alloc _
 go_enter Tryz.func68, Tryz.ntmps68
 go_wp2
 go_ret
 exact ⟨rfl, hx0⟩
set_option maxHeartbeats 1600000 in
set_option maxRecDepth 100000 in
theorem iIsLayout_c (p k q D C N : Int) (w : World) (hD : -100000 ≤ D ∧ D ≤ 100000) (hN : -100000 ≤ N ∧ N ≤ 100000) (hC : -100000 ≤ C ∧ C ≤ 100000) :
  Calls Tryz.prog 124 #[vLay p k q D C N] w fun e w' => isB e (layOK p k q D C N) ∧ Ext w w' := by
 have hbx := Blk.new w #[.int .i64 p, .int .i64 k, .int .i64 q, .int .i64 D, .int .i64 C, .int .i64 N] 95
 have hx0 : Ext w (w.alloc (.cells #[.int .i64 p, .int .i64 k, .int .i64 q, .int .i64 D, .int .i64 C, .int .i64 N] 95)) := (Ext.refl w).alloc _
 have hv := Lib.hid (show layOK p k q D C N ↔ (1 ≤ N ∧ N ≤ 16) ∧ (N ≤ D ∧ D ≤ 1500) ∧ (1 ≤ C ∧ C ≤ 64) ∧ D + N * C ≤ 1500 ∧ codeOK p k q (shV D N 0 + C) C ∧ codeOK p k q (shV D N (N - 1) + C) C from Iff.rfl)
 obtain ⟨c0, c1, c2, c3, c4, c5⟩ := hbx.c6; have cl := hbx.lt
 by_cases h1 : 1 ≤ N ∧ N ≤ 16
 ·by_cases h2 : N ≤ D ∧ D ≤ 1500
  ·by_cases h3 : 1 ≤ C ∧ C ≤ 64
   ·have p1 : 0 ≤ N * C := Int.mul_nonneg (by omega) (by omega)
    have p2 : N * C ≤ 16 * 64 := Int.mul_le_mul h1.2 h3.2 (by omega) (by omega)
    by_cases h4 : D + N * C ≤ 1500
    ·have s1 := shV_bd (D := D) (N := N) (b := 0) (by omega) h1
     have s2 := shV_bd (D := D) (N := N) (b := N - 1) (by omega) h1
     have hb0 := Lib.hid (fun W => iCode7_c p k q D C N 0 W (by omega) h1 (by omega) (by omega))
     have hb1 := Lib.hid (fun W => iCode7_c p k q D C N (N - 1) W (by omega) h1 (by omega) (by omega))
     have hk0 := Lib.hid (fun W => iIsCode_c p k q (shV D N 0 + C) C W (by omega) hC)
     have hk1 := Lib.hid (fun W => iIsCode_c p k q (shV D N (N - 1) + C) C W (by omega) hC)
     generalize codeOK p k q (shV D N 0 + C) C = A at *
     generalize codeOK p k q (shV D N (N - 1) + C) C = B at *
     generalize shV D N 0 + C = S0 at *
     generalize shV D N (N - 1) + C = S1 at *
     have h4n : ¬ 1500 < D + N * C := by omega
     go_enter Tryz.func124, Tryz.ntmps124
     go_wp2_with (first
      | (go_at_call 35; (with_reducible refine (inRange_c _ _ _ _).mono ?_); rintro e w1' ⟨⟨hP', rfl⟩ | ⟨hP', rfl⟩, rfl⟩ <;> first | (exfalso; omega) | skip)
      | (go_at_call 68; (with_reducible refine (total_c p k q D C N _ (by omega) h1 h3).mono ?_); rintro e w5 ⟨rfl, hx5⟩; have hb5 := hbx.ext hx5; obtain ⟨d0, d1, d2, d3, d4, d5⟩ := hb5.c6; have dl := hb5.lt)
      | (go_at_call 178; (with_reducible refine (hb0.out _).mono ?_); rintro e w6 ⟨rfl, hx6⟩)
      | (go_at_call 177; (with_reducible refine (hk0.out _).mono ?_); rintro e w7 ⟨⟨hA, rfl⟩ | ⟨hA, rfl⟩, hx7⟩; all_goals (have hb7 := hbx.ext (by first | exact hx6.trans hx7 | exact (hx5.trans hx6).trans hx7); obtain ⟨g0, g1, g2, g3, g4, g5⟩ := hb7.c6; have gl := hb7.lt))
      | (go_at_call 178; (with_reducible refine (hb1.out _).mono ?_); rintro e w8 ⟨rfl, hx8⟩)
      | (go_at_call 177; (with_reducible refine (hk1.out _).mono ?_); rintro e w9 ⟨⟨hB, rfl⟩ | ⟨hB, rfl⟩, hx9⟩))
     all_goals
      go_ret
      first
       | exact ⟨isB_t (hv.out.2 ⟨h1, h2, h3, h4, hA, hB⟩), by first | exact ((((hx0.trans hx6).trans hx7).trans hx8).trans hx9) | exact (((((hx0.trans hx5).trans hx6).trans hx7).trans hx8).trans hx9)⟩
       | exact ⟨isB_f (fun h => hB (hv.out.1 h).2.2.2.2.2), by first | exact ((((hx0.trans hx6).trans hx7).trans hx8).trans hx9) | exact (((((hx0.trans hx5).trans hx6).trans hx7).trans hx8).trans hx9)⟩
       | exact ⟨isB_f (fun h => hA (hv.out.1 h).2.2.2.2.1), by first | exact ((hx0.trans hx6).trans hx7) | exact (((hx0.trans hx5).trans hx6).trans hx7)⟩
    ·have h4n : 1500 < D + N * C := by omega
     go_enter Tryz.func124, Tryz.ntmps124
     go_wp2_with (first | (go_at_call 35; (with_reducible refine (inRange_c _ _ _ _).mono ?_); rintro e w1' ⟨⟨hP', rfl⟩ | ⟨hP', rfl⟩, rfl⟩ <;> first | (exfalso; omega) | skip) | (go_at_call 68; (with_reducible refine (total_c p k q D C N _ (by omega) h1 h3).mono ?_); rintro e w5 ⟨rfl, hx5⟩; have hb5 := hbx.ext hx5; obtain ⟨d0, d1, d2, d3, d4, d5⟩ := hb5.c6; have dl := hb5.lt))
     go_ret
     exact ⟨isB_f (fun h => absurd (hv.out.1 h).2.2.2.1 (by omega)), by first | exact hx0 | exact hx0.trans hx5⟩
   ·go_enter Tryz.func124, Tryz.ntmps124
    go_wp2_with (first | (go_at_call 35; (with_reducible refine (inRange_c _ _ _ _).mono ?_); rintro e w1' ⟨⟨hP', rfl⟩ | ⟨hP', rfl⟩, rfl⟩ <;> first | (exfalso; omega) | skip))
    go_ret
    exact ⟨isB_f (fun h => h3 (hv.out.1 h).2.2.1), hx0⟩
  ·go_enter Tryz.func124, Tryz.ntmps124
   go_wp2_with (first | (go_at_call 35; (with_reducible refine (inRange_c _ _ _ _).mono ?_); rintro e w1' ⟨⟨hP', rfl⟩ | ⟨hP', rfl⟩, rfl⟩ <;> first | (exfalso; omega) | skip))
   go_ret
   exact ⟨isB_f (fun h => h2 (hv.out.1 h).2.1), hx0⟩
 ·go_enter Tryz.func124, Tryz.ntmps124
  go_wp2_with (first | (go_at_call 35; (with_reducible refine (inRange_c _ _ _ _).mono ?_); rintro e w1' ⟨⟨hP', rfl⟩ | ⟨hP', rfl⟩, rfl⟩ <;> first | (exfalso; omega) | skip))
  go_ret
  exact ⟨isB_f (fun h => h1 (hv.out.1 h).1), hx0⟩
set_option maxHeartbeats 1600000 in
set_option maxRecDepth 100000 in
theorem sIsLayout_c (p k q D C N : Int) (w : World) (hD : -100000 ≤ D ∧ D ≤ 100000) (hN : -100000 ≤ N ∧ N ≤ 100000) (hC : -100000 ≤ C ∧ C ≤ 100000) :
  Calls Tryz.prog 110 #[vLay p k q D C N] w fun e w' => isB e (layOK p k q D C N) ∧ Ext w w' := by
 have hbx := Blk.new w #[.int .i64 p, .int .i64 k, .int .i64 q, .int .i64 D, .int .i64 C, .int .i64 N] 95
 have hx0 : Ext w (w.alloc (.cells #[.int .i64 p, .int .i64 k, .int .i64 q, .int .i64 D, .int .i64 C, .int .i64 N] 95)) := (Ext.refl w).alloc _
 have hv := Lib.hid (show layOK p k q D C N ↔ (1 ≤ N ∧ N ≤ 16) ∧ (N ≤ D ∧ D ≤ 1500) ∧ (1 ≤ C ∧ C ≤ 64) ∧ D + N * C ≤ 1500 ∧ codeOK p k q (shV D N 0 + C) C ∧ codeOK p k q (shV D N (N - 1) + C) C from Iff.rfl)
 obtain ⟨c0, c1, c2, c3, c4, c5⟩ := hbx.c6; have cl := hbx.lt
 by_cases h1 : 1 ≤ N ∧ N ≤ 16
 ·by_cases h2 : N ≤ D ∧ D ≤ 1500
  ·by_cases h3 : 1 ≤ C ∧ C ≤ 64
   ·have p1 : 0 ≤ N * C := Int.mul_nonneg (by omega) (by omega)
    have p2 : N * C ≤ 16 * 64 := Int.mul_le_mul h1.2 h3.2 (by omega) (by omega)
    by_cases h4 : D + N * C ≤ 1500
    ·have s1 := shV_bd (D := D) (N := N) (b := 0) (by omega) h1
     have s2 := shV_bd (D := D) (N := N) (b := N - 1) (by omega) h1
     have hb0 := Lib.hid (fun W => sBlock7_c p k q D C N 0 W (by omega) h1 (by omega) (by omega))
     have hb1 := Lib.hid (fun W => sBlock7_c p k q D C N (N - 1) W (by omega) h1 (by omega) (by omega))
     have hk0 := Lib.hid (fun W => sIsCode_c p k q (shV D N 0 + C) C W (by omega) hC)
     have hk1 := Lib.hid (fun W => sIsCode_c p k q (shV D N (N - 1) + C) C W (by omega) hC)
     generalize codeOK p k q (shV D N 0 + C) C = A at *
     generalize codeOK p k q (shV D N (N - 1) + C) C = B at *
     generalize shV D N 0 + C = S0 at *
     generalize shV D N (N - 1) + C = S1 at *
     have h4n : ¬ 1500 < D + N * C := by omega
     go_enter Tryz.func110, Tryz.ntmps110
     go_wp2_with (first
      | (go_at_call 29; (with_reducible refine (l01In_c _ _ _ _).mono ?_); rintro e w1' ⟨⟨hP', rfl⟩ | ⟨hP', rfl⟩, rfl⟩ <;> first | (exfalso; omega) | skip)
      | (fail)
      | (go_at_call 164; (with_reducible refine (hb0.out _).mono ?_); rintro e w6 ⟨rfl, hx6⟩)
      | (go_at_call 163; (with_reducible refine (hk0.out _).mono ?_); rintro e w7 ⟨⟨hA, rfl⟩ | ⟨hA, rfl⟩, hx7⟩; all_goals (have hb7 := hbx.ext (by first | exact hx6.trans hx7 | exact (hx5.trans hx6).trans hx7); obtain ⟨g0, g1, g2, g3, g4, g5⟩ := hb7.c6; have gl := hb7.lt))
      | (go_at_call 164; (with_reducible refine (hb1.out _).mono ?_); rintro e w8 ⟨rfl, hx8⟩)
      | (go_at_call 163; (with_reducible refine (hk1.out _).mono ?_); rintro e w9 ⟨⟨hB, rfl⟩ | ⟨hB, rfl⟩, hx9⟩))
     all_goals
      go_ret
      first
       | exact ⟨isB_t (hv.out.2 ⟨h1, h2, h3, h4, hA, hB⟩), by first | exact ((((hx0.trans hx6).trans hx7).trans hx8).trans hx9) | exact (((((hx0.trans hx5).trans hx6).trans hx7).trans hx8).trans hx9)⟩
       | exact ⟨isB_f (fun h => hB (hv.out.1 h).2.2.2.2.2), by first | exact ((((hx0.trans hx6).trans hx7).trans hx8).trans hx9) | exact (((((hx0.trans hx5).trans hx6).trans hx7).trans hx8).trans hx9)⟩
       | exact ⟨isB_f (fun h => hA (hv.out.1 h).2.2.2.2.1), by first | exact ((hx0.trans hx6).trans hx7) | exact (((hx0.trans hx5).trans hx6).trans hx7)⟩
    ·have h4n : 1500 < D + N * C := by omega
     go_enter Tryz.func110, Tryz.ntmps110
     go_wp2_with (first | (go_at_call 29; (with_reducible refine (l01In_c _ _ _ _).mono ?_); rintro e w1' ⟨⟨hP', rfl⟩ | ⟨hP', rfl⟩, rfl⟩ <;> first | (exfalso; omega) | skip) | (fail))
     go_ret
     exact ⟨isB_f (fun h => absurd (hv.out.1 h).2.2.2.1 (by omega)), by first | exact hx0 | exact hx0.trans hx5⟩
   ·go_enter Tryz.func110, Tryz.ntmps110
    go_wp2_with (first | (go_at_call 29; (with_reducible refine (l01In_c _ _ _ _).mono ?_); rintro e w1' ⟨⟨hP', rfl⟩ | ⟨hP', rfl⟩, rfl⟩ <;> first | (exfalso; omega) | skip))
    go_ret
    exact ⟨isB_f (fun h => h3 (hv.out.1 h).2.2.1), hx0⟩
  ·go_enter Tryz.func110, Tryz.ntmps110
   go_wp2_with (first | (go_at_call 29; (with_reducible refine (l01In_c _ _ _ _).mono ?_); rintro e w1' ⟨⟨hP', rfl⟩ | ⟨hP', rfl⟩, rfl⟩ <;> first | (exfalso; omega) | skip))
   go_ret
   exact ⟨isB_f (fun h => h2 (hv.out.1 h).2.1), hx0⟩
 ·go_enter Tryz.func110, Tryz.ntmps110
  go_wp2_with (first | (go_at_call 29; (with_reducible refine (l01In_c _ _ _ _).mono ?_); rintro e w1' ⟨⟨hP', rfl⟩ | ⟨hP', rfl⟩, rfl⟩ <;> first | (exfalso; omega) | skip))
  go_ret
  exact ⟨isB_f (fun h => h1 (hv.out.1 h).1), hx0⟩
end Go.Proofs.YtdnkljpnhmcnpaaGreat
