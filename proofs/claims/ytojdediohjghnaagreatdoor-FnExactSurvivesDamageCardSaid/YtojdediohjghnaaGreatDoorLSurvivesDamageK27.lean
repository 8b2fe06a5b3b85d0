/- Stacked symbols, the reference's side: the level that most rows tell. -/
import Derived.Test.YtojdediohjghnaaGreatDoorLSurvivesDamageK26
import Derived.Test.YtojdediohjghnaaGreatDoorLSurvivesDamageK13
set_option linter.unusedVariables false
set_option linter.unusedSimpArgs false
namespace Go.Proofs.YtojdediohjghnaaGreatDoor
open Go.RowKit

def vL (n : Nat) (f : Nat → Nat) : List Int := (List.range n).map fun k => ((f k : Nat) : Int)
theorem vL_len (n : Nat) (f : Nat → Nat) : (vL n f).length = n := by simp [vL]
theorem vL_at {n : Nat} {f : Nat → Nat} {k : Nat} (h : k < n) : (vL n f).getD k 0 = f k := by simp [vL, h]
theorem vL_ext {n : Nat} {f g : Nat → Nat} (h : ∀ k, k < n → f k = g k) : vL n f = vL n g := by
 unfold vL
 exact List.map_congr_left fun k hk => by rw [h k (List.mem_range.1 hk)]
theorem vL_set {n : Nat} {f g : Nat → Nat} {k : Nat} (hk : k < n) (h1 : g k = f k + 1) (h2 : ∀ i, i < n → i ≠ k → g i = f i) : (vL n f).set k ((f k : Int) + 1) = vL n g := by
 apply List.ext_getElem?
 intro i
 rw [List.getElem?_set]
 by_cases hi : i < n
 ·by_cases e : k = i
  ·subst e
   simp [vL, hk, h1]
  ·rw [if_neg e]
   simp [vL, hi, h2 i hi (fun h => e h.symm)]
 ·have h3 : (vL n f).length ≤ i := by rw [vL_len]; omega
  have h4 : (vL n g).length ≤ i := by rw [vL_len]; omega
  rw [if_neg (by omega), List.getElem?_eq_none h3, List.getElem?_eq_none h4]
theorem vL_zero (n : Nat) (f : Nat → Nat) (h : ∀ k, f k = 0) : vL n f = List.replicate n 0 := by
 apply List.ext_getElem?
 intro i
 by_cases hi : i < n
 ·simp [vL, hi, h i, List.getElem?_replicate]
 ·rw [List.getElem?_eq_none (by rw [vL_len]; omega), List.getElem?_eq_none (by simp; omega)]
theorem vtR_two (xs : List Int) (C m n k : Nat) : vtR xs C m n 2 k = 0 := by
 rw [vtR_skip (r := 1) (by decide), vtR_skip (r := 0) (by decide), vtR_zero]
theorem vtR_three {xs : List Int} {C m n r k : Nat} (h : r % 3 = 2) : vtR xs C m n (r + 3) k = vtR xs C m n (r + 1) k := by
 rw [vtR_skip (r := r + 2) (by omega), vtR_skip (r := r + 1) (by omega)]
theorem vtR_end {xs : List Int} {C m n r R k : Nat} (h : r % 3 = 2) (h1 : R ≤ r) (h2 : r ≤ R + 2) : vtR xs C m n r k = vtR xs C m n R k := by
 rcases (by omega : r = R ∨ r = R + 1 ∨ r = R + 1 + 1) with rfl | rfl | rfl
 ·rfl
 ·rw [vtR_skip (r := R) (by omega)]
 ·rw [vtR_skip (r := R + 1) (by omega), vtR_skip (r := R) (by omega)]
set_option maxHeartbeats 3200000 in
set_option maxRecDepth 100000 in
theorem l17Level_c (nm : ByteArray) (K p k q : Int) (ps pl : Option Addr) (ns cs nl cl : Nat) (R C co b o cap : Nat) (xs : List Int) (w : World) (hn : nl ≤ 4) (hx : IntsAt w (some ⟨b, o, none⟩) xs) (hl : xs.length = R * C) (hC : rowN C = co + 2) (hC26 : 26 ≤ C) (hcap : xs.length ≤ cap) (h4 : R * C ≤ 40000) :
  Calls Tryz.prog 35 #[vFam nm K p k q ps ns cs co pl nl cl, vGrid R C (some ⟨b, o, none⟩) xs.length cap] w fun e w' => e = .returned (.int .i64 (topS (vtR xs C (rowN C) nl R) nl)) ∧ Ext w w' := by
 have HX := Lib.hid hx; clear hx
 have hR4 : R ≤ 40000 := by
  have : R * 1 ≤ R * C := Nat.mul_le_mul_left _ (by omega)
  omega
 have hmb : R = 0 ∨ co ≤ 40000 := by
  rcases Nat.eq_zero_or_pos R with h | h
  ·exact .inl h
  ·have : 1 * C ≤ R * C := Nat.mul_le_mul_right _ h
   unfold rowN at hC
   exact .inr (by omega)
 have hI1 := @Tryz.underlying24
 have hI2 := infoInt
 have hsv := Lib.hid (fun r W (h : IntsAt W (some ⟨b, o, none⟩) xs) (hr : r < R) => l17Values_c R C b o cap r xs W h hl (by omega) hcap h4 hr)
 rw [hC] at hsv ⊢
 obtain ⟨f, hf⟩ : ∃ f, vtR xs C (co + 2) nl R = f := ⟨_, rfl⟩
 rw [hf]
 replace hf := Lib.hid hf
 have hvb := Lib.hid (fun r j => vtR_bd xs C (co + 2) nl r j)
 clear hl h4 hC
 have hb0 := ((Blk.new w #[.string nm, .int .i64 K, .int .i64 p, .int .i64 k, .int .i64 q, .slice ps ns cs, .int .i64 co, .slice pl nl cl] 35).alloc (.cells #[.int .i64 R, .int .i64 C, .slice (some ⟨b, o, none⟩) xs.length cap] 37))
 have hb1 := (Blk.new1 w (.cells #[.string nm, .int .i64 K, .int .i64 p, .int .i64 k, .int .i64 q, .slice ps ns cs, .int .i64 co, .slice pl nl cl] 35) #[.int .i64 R, .int .i64 C, .slice (some ⟨b, o, none⟩) xs.length cap] 37)
 have hx0 : Ext w ((w.alloc (.cells #[.string nm, .int .i64 K, .int .i64 p, .int .i64 k, .int .i64 q, .slice ps ns cs, .int .i64 co, .slice pl nl cl] 35)).alloc (.cells #[.int .i64 R, .int .i64 C, .slice (some ⟨b, o, none⟩) xs.length cap] 37)) := ((Ext.refl w).alloc _).alloc _
 go_enter Tryz.func35, Tryz.ntmps35
 go_upto_region 1 with (fail)
 have a7 := hb0.cell (i := 7) (v := .slice pl nl cl) rfl
 have hfl := hb0.lt
 obtain ⟨gF, hgF⟩ : ∃ g, w.heap.size = g := ⟨_, rfl⟩
 obtain ⟨gG, hgG⟩ : ∃ g, w.heap.size + 1 = g := ⟨_, rfl⟩
 have hne : w.heap.size ≤ gG ∧ gF < gG ∧ w.heap.size ≤ gF := by omega
 rw [hgG] at hb1 ⊢
 rw [hgF] at hb0 hfl a7 ⊢
 replace hgG := Lib.hid hgG; replace hgF := Lib.hid hgF
 generalize ((w.alloc (.cells #[.string nm, .int .i64 K, .int .i64 p, .int .i64 k, .int .i64 q, .slice ps ns cs, .int .i64 co, .slice pl nl cl] 35)).alloc (.cells #[.int .i64 R, .int .i64 C, .slice (some ⟨b, o, none⟩) xs.length cap] 37)) = w0 at *
 have hgl := hb1.lt
 go_upto_region 3 with (at_make; go_loud (refine make_blk hI1 hI2 nl rfl rfl (by omega) (by omega) ?_))
 have hb2 := OwnInts_zeros (Blk.new w0 (madeCells #[.int .i64 0] nl) 2) hx0.size
 rw [← vL_zero nl (vtR xs C (co + 2) nl 2) (vtR_two xs C (co + 2) nl)] at hb2
 have hx2 := hx0.alloc (.cells (madeCells #[.int .i64 0] nl) 2)
 replace hb0 := hb0.alloc (.cells (madeCells #[.int .i64 0] nl) 2)
 replace hb1 := hb1.alloc (.cells (madeCells #[.int .i64 0] nl) 2)
 have hwV : w.heap.size ≤ w0.heap.size := hx0.size
 clear a7 hx0
 obtain ⟨w2, hw2⟩ : ∃ w2, w0.alloc (.cells (madeCells #[.int .i64 0] nl) 2) = w2 := ⟨_, rfl⟩
 rw [hw2] at hb0 hb1 hb2 hx2 ⊢
 obtain ⟨gV, hgV⟩ : ∃ g, w0.heap.size = g := ⟨_, rfl⟩
 rw [hgV] at hb2 hwV hfl hgl ⊢
 clear hw2 hgV
 go_loopw [6] (fun i wr => ∃ r : Nat, r % 3 = 2 ∧ r ≤ R + 2 ∧ i = .int .i64 r ∧ OwnInts w.heap.size wr (some ⟨gV, 0, none⟩) (vL nl (vtR xs C (co + 2) nl r)) ∧ But gV w2 wr) (fun i _ => R + 3 - (intOf i).toNat)
 case atStart => exact ⟨2, rfl, by omega, rfl, hb2, But.refl _ _⟩
 case round =>
  clear hb2
  obtain ⟨r, hr3, hr, rfl, hV, hB⟩ := hrel
  have HB := hb0.but hB (by omega)
  have HG := hb1.but hB (by omega)
  obtain ⟨c0, c1, c2⟩ := HG.c3; have cL := HG.lt
  have hxr := hx2.but hB hwV
  by_cases hlt : r < R
  ·have a6 := HB.cell (i := 6) (v := .int .i64 co) rfl
   have aL := HB.lt
   have hmb2 : co ≤ 40000 := by omega
   have hlen := rowsV_len xs C (co + 2) r
   have hcall := Lib.hid (hsv.out r _ (HX.out.ext hxr) hlt)
   obtain ⟨v, hv⟩ : ∃ v, (rowsV xs C (co + 2) r).getD (co + 2 - 1) 0 = v := ⟨_, rfl⟩
   have hcv : Hid (∀ W, IntsAt W (some ⟨b, o, none⟩) xs → Calls Tryz.prog 65 #[vGrid R C (some ⟨b, o, none⟩) xs.length cap, .int .i64 r] W fun e w' => (∃ b4 o4 c4, e = .returned (.slice (some ⟨b4, o4, none⟩) (co + 2) c4) ∧ w'.cell? ⟨b4, o4 + (co + 1), none⟩ = some (.int .i64 v) ∧ b4 < w'.heap.size) ∧ Ext W w') := Lib.hid (fun W h => (hsv.out r W h hlt).mono (fun e w' ⟨⟨v4, he, hR⟩, hx⟩ => by
    obtain ⟨p4, c4, hv4, ho4, -⟩ := hR.ownC
    obtain ⟨b4, o4, he4, hl4, hc4⟩ := ho4.ints (co + 1) (by rw [hlen]; omega)
    subst he4
    rw [hlen] at hv4
    subst hv4
    exact ⟨⟨b4, o4, c4, he, by rw [← hv]; exact hc4, hl4⟩, hx⟩))
   have hst3 : ∀ k, vtR xs C (co + 2) nl (r + 3) k = vtR xs C (co + 2) nl (r + 1) k := fun k => vtR_three hr3
   have hr3' : (r + 3) % 3 = 2 := by omega
   by_cases hin : 0 ≤ v ∧ v ≤ (nl : Int) - 1
   ·obtain ⟨j, rfl⟩ : ∃ j : Nat, v = j := ⟨v.toNat, by omega⟩
    have hjn : j < nl := by omega
    have hset := vL_set (f := vtR xs C (co + 2) nl r) (g := vtR xs C (co + 2) nl (r + 3)) hjn (by rw [hst3]; exact vtR_hit hr3 hv hjn) (fun i _ hne => by rw [hst3]; exact vtR_far hv (.inl (by omega)))
    have hjl : j < (vL nl (vtR xs C (co + 2) nl r)).length := by rw [vL_len]; exact hjn
    have hja := vL_at (f := vtR xs C (co + 2) nl r) hjn
    have hbj := hvb.out r j
    generalize vtR xs C (co + 2) nl r j = y at *
    generalize vL nl (vtR xs C (co + 2) nl r) = A at *
    replace hset := Lib.hid hset
    clear hst3 hvb hcall
    go_upto_region 5 with (fail)
    have ew := IntWalk.i64_in ((co : Int) + 1) (by omega)
    have et : ((co : Int) + 1).toNat = co + 1 := by omega
    refine wp_region_c3 (fun w' => Ext wr w') (.st 0 (.st 1 (.st 3 (.two 2 (.one 4 (.st 5 (.st 6 (.one 7 (.st 8 .done))))) 4 (.st 5 (.one 2 (.st 6 (.one 7 (.st 8 .done))))))))) (by kernel_rfl) (by kernel_rfl) (by decide) (by kernel_rfl) ?_ ?_
    ·exact eX
    refine c3_intro fun ops eo => ?_
    replace eo := canon_eo eo
    all_goals (apply c3_st (eo.out 0 rfl) rfl; exact evE; simp only [ptN])
    all_goals (apply c3_st (eo.out 1 rfl) rfl; exact evE; simp only [ptN])
    all_goals (apply c3_st (eo.out 3 rfl) rfl; exact evE; simp only [ptN])
    all_goals
     refine c3_two ?_ ?_
     rotate_right 1
     focus
      all_goals first | (refine c3_op (eo.out 4 rfl) rfl (fun K hK => ?_); go_simp; ((go_at_call 65; (with_reducible refine (hcv.out _ (HX.out.ext eX)).mono ?_); rintro e w4 ⟨⟨b4, o4, c4, rfl, hc4, hl4⟩, hx4⟩; have hx4b : Ext wr w4 := (by first | exact hx4 | exact (Ext.refl wr).drew.trans hx4); have z6 := (hx4b.below.cell (p := ⟨gF, 6, none⟩) aL).trans a6; have zL := Nat.lt_of_lt_of_le aL hx4b.below.size)); all_goals ((with_reducible refine hK _ _ ?_); refine ⟨(by first | assumption | exact eX), ?_⟩; clear hK K; go_simp)) | (refine c3_op (eo.out 4 rfl) rfl (fun K hK => ?_); go_simp; (skip); all_goals ((with_reducible refine hK _ _ ?_); refine ⟨(by first | assumption | exact eX), ?_⟩; clear hK K; go_simp))
      all_goals (apply c3_st (eo.out 5 rfl) rfl; exact evE; simp only [ptN])
      all_goals refine c3_one ?_
      all_goals first | (refine c3_op (eo.out 2 rfl) rfl (fun K hK => ?_); go_simp; ((go_at_call 65; (with_reducible refine (hcv.out _ (HX.out.ext eX)).mono ?_); rintro e w4 ⟨⟨b4, o4, c4, rfl, hc4, hl4⟩, hx4⟩; have hx4b : Ext wr w4 := (by first | exact hx4 | exact (Ext.refl wr).drew.trans hx4); have z6 := (hx4b.below.cell (p := ⟨gF, 6, none⟩) aL).trans a6; have zL := Nat.lt_of_lt_of_le aL hx4b.below.size)); all_goals ((with_reducible refine hK _ _ ?_); refine ⟨(by first | assumption | exact eX), ?_⟩; clear hK K; go_simp)) | (refine c3_op (eo.out 2 rfl) rfl (fun K hK => ?_); go_simp; (skip); all_goals ((with_reducible refine hK _ _ ?_); refine ⟨(by first | assumption | exact eX), ?_⟩; clear hK K; go_simp))
      all_goals (apply c3_st (eo.out 6 rfl) rfl; exact evE; simp only [ptN])
      all_goals refine c3_one ?_
      all_goals first | (refine c3_op (eo.out 7 rfl) rfl (fun K hK => ?_); go_simp; ((go_at_call 65; (with_reducible refine (hcv.out _ (HX.out.ext eX)).mono ?_); rintro e w4 ⟨⟨b4, o4, c4, rfl, hc4, hl4⟩, hx4⟩; have hx4b : Ext wr w4 := (by first | exact hx4 | exact (Ext.refl wr).drew.trans hx4); have z6 := (hx4b.below.cell (p := ⟨gF, 6, none⟩) aL).trans a6; have zL := Nat.lt_of_lt_of_le aL hx4b.below.size)); all_goals ((with_reducible refine hK _ _ ?_); refine ⟨(by first | assumption | exact eX), ?_⟩; clear hK K; go_simp)) | (refine c3_op (eo.out 7 rfl) rfl (fun K hK => ?_); go_simp; (skip); all_goals ((with_reducible refine hK _ _ ?_); refine ⟨(by first | assumption | exact eX), ?_⟩; clear hK K; go_simp))
      all_goals (apply c3_st (eo.out 8 rfl) rfl; exact evE; simp only [ptN])
      all_goals (clear eo; refine c3_done (NoPanic.normal ?_))
     rotate_right 1
     focus
      all_goals first | (refine c3_op (eo.out 2 rfl) rfl (fun K hK => ?_); go_simp; ((go_at_call 65; (with_reducible refine (hcv.out _ (HX.out.ext eX)).mono ?_); rintro e w4 ⟨⟨b4, o4, c4, rfl, hc4, hl4⟩, hx4⟩; have hx4b : Ext wr w4 := (by first | exact hx4 | exact (Ext.refl wr).drew.trans hx4); have z6 := (hx4b.below.cell (p := ⟨gF, 6, none⟩) aL).trans a6; have zL := Nat.lt_of_lt_of_le aL hx4b.below.size)); all_goals ((with_reducible refine hK _ _ ?_); refine ⟨(by first | assumption | exact eX), ?_⟩; clear hK K; go_simp)) | (refine c3_op (eo.out 2 rfl) rfl (fun K hK => ?_); go_simp; (skip); all_goals ((with_reducible refine hK _ _ ?_); refine ⟨(by first | assumption | exact eX), ?_⟩; clear hK K; go_simp))
      all_goals refine c3_one ?_
      all_goals first | (refine c3_op (eo.out 4 rfl) rfl (fun K hK => ?_); go_simp; ((go_at_call 65; (with_reducible refine (hcv.out _ (HX.out.ext eX)).mono ?_); rintro e w4 ⟨⟨b4, o4, c4, rfl, hc4, hl4⟩, hx4⟩; have hx4b : Ext wr w4 := (by first | exact hx4 | exact (Ext.refl wr).drew.trans hx4); have z6 := (hx4b.below.cell (p := ⟨gF, 6, none⟩) aL).trans a6; have zL := Nat.lt_of_lt_of_le aL hx4b.below.size)); all_goals ((with_reducible refine hK _ _ ?_); refine ⟨(by first | assumption | exact eX), ?_⟩; clear hK K; go_simp)) | (refine c3_op (eo.out 4 rfl) rfl (fun K hK => ?_); go_simp; (skip); all_goals ((with_reducible refine hK _ _ ?_); refine ⟨(by first | assumption | exact eX), ?_⟩; clear hK K; go_simp))
      all_goals (apply c3_st (eo.out 5 rfl) rfl; exact evE; simp only [ptN])
      all_goals (apply c3_st (eo.out 6 rfl) rfl; exact evE; simp only [ptN])
      all_goals refine c3_one ?_
      all_goals first | (refine c3_op (eo.out 7 rfl) rfl (fun K hK => ?_); go_simp; ((go_at_call 65; (with_reducible refine (hcv.out _ (HX.out.ext eX)).mono ?_); rintro e w4 ⟨⟨b4, o4, c4, rfl, hc4, hl4⟩, hx4⟩; have hx4b : Ext wr w4 := (by first | exact hx4 | exact (Ext.refl wr).drew.trans hx4); have z6 := (hx4b.below.cell (p := ⟨gF, 6, none⟩) aL).trans a6; have zL := Nat.lt_of_lt_of_le aL hx4b.below.size)); all_goals ((with_reducible refine hK _ _ ?_); refine ⟨(by first | assumption | exact eX), ?_⟩; clear hK K; go_simp)) | (refine c3_op (eo.out 7 rfl) rfl (fun K hK => ?_); go_simp; (skip); all_goals ((with_reducible refine hK _ _ ?_); refine ⟨(by first | assumption | exact eX), ?_⟩; clear hK K; go_simp))
      all_goals (apply c3_st (eo.out 8 rfl) rfl; exact evE; simp only [ptN])
      all_goals (clear eo; refine c3_done (NoPanic.normal ?_))
    all_goals
     have hV4 := hV.ext hx4b
     obtain ⟨b', o', e', hB', hl', hc5, hf5⟩ := hV4 j hjl
     obtain ⟨rfl, rfl⟩ : gV = b' ∧ 0 = o' := by simpa using e'
     have hs := hV4.set rfl hjl ((y : Int) + 1)
     rw [Nat.zero_add] at hs hc5 hf5
     rw [hja] at hc5
     rw [hset.out] at hs
     have hB5 := hB.trans ((But.of hx4b).trans (But.set w4 gV j (.int .i64 ((y : Int) + 1))))
     clear hset e' hV4 z6 hx4
     go_wp2_with (go_at_call 37; (with_reducible refine (l01In_c _ _ _ _).mono ?_); rintro e w5 ⟨⟨hP, rfl⟩ | ⟨hP, rfl⟩, rfl⟩ <;> (first | exact absurd hin hP | skip))
     exact ⟨⟨r + 3, hr3', by omega, by go_num, hs, hB5⟩, by simp [intOf]; omega⟩
   ·have hset := vL_ext (n := nl) (f := vtR xs C (co + 2) nl r) (g := vtR xs C (co + 2) nl (r + 3)) (fun i _ => by rw [hst3]; exact (vtR_far hv (by omega)).symm)
    rw [hset] at hV
    clear hset hst3 hvb hcall
    go_upto_region 5 with (fail)
    have ew := IntWalk.i64_in ((co : Int) + 1) (by omega)
    have et : ((co : Int) + 1).toNat = co + 1 := by omega
    refine wp_region_c3 (fun w' => Ext wr w') (.st 0 (.st 1 (.st 3 (.two 2 (.one 4 (.st 5 (.st 6 (.one 7 (.st 8 .done))))) 4 (.st 5 (.one 2 (.st 6 (.one 7 (.st 8 .done))))))))) (by kernel_rfl) (by kernel_rfl) (by decide) (by kernel_rfl) ?_ ?_
    ·exact eX
    refine c3_intro fun ops eo => ?_
    replace eo := canon_eo eo
    all_goals (apply c3_st (eo.out 0 rfl) rfl; exact evE; simp only [ptN])
    all_goals (apply c3_st (eo.out 1 rfl) rfl; exact evE; simp only [ptN])
    all_goals (apply c3_st (eo.out 3 rfl) rfl; exact evE; simp only [ptN])
    all_goals
     refine c3_two ?_ ?_
     rotate_right 1
     focus
      all_goals first | (refine c3_op (eo.out 4 rfl) rfl (fun K hK => ?_); go_simp; ((go_at_call 65; (with_reducible refine (hcv.out _ (HX.out.ext eX)).mono ?_); rintro e w4 ⟨⟨b4, o4, c4, rfl, hc4, hl4⟩, hx4⟩; have hx4b : Ext wr w4 := (by first | exact hx4 | exact (Ext.refl wr).drew.trans hx4); have z6 := (hx4b.below.cell (p := ⟨gF, 6, none⟩) aL).trans a6; have zL := Nat.lt_of_lt_of_le aL hx4b.below.size)); all_goals ((with_reducible refine hK _ _ ?_); refine ⟨(by first | assumption | exact eX), ?_⟩; clear hK K; go_simp)) | (refine c3_op (eo.out 4 rfl) rfl (fun K hK => ?_); go_simp; (skip); all_goals ((with_reducible refine hK _ _ ?_); refine ⟨(by first | assumption | exact eX), ?_⟩; clear hK K; go_simp))
      all_goals (apply c3_st (eo.out 5 rfl) rfl; exact evE; simp only [ptN])
      all_goals refine c3_one ?_
      all_goals first | (refine c3_op (eo.out 2 rfl) rfl (fun K hK => ?_); go_simp; ((go_at_call 65; (with_reducible refine (hcv.out _ (HX.out.ext eX)).mono ?_); rintro e w4 ⟨⟨b4, o4, c4, rfl, hc4, hl4⟩, hx4⟩; have hx4b : Ext wr w4 := (by first | exact hx4 | exact (Ext.refl wr).drew.trans hx4); have z6 := (hx4b.below.cell (p := ⟨gF, 6, none⟩) aL).trans a6; have zL := Nat.lt_of_lt_of_le aL hx4b.below.size)); all_goals ((with_reducible refine hK _ _ ?_); refine ⟨(by first | assumption | exact eX), ?_⟩; clear hK K; go_simp)) | (refine c3_op (eo.out 2 rfl) rfl (fun K hK => ?_); go_simp; (skip); all_goals ((with_reducible refine hK _ _ ?_); refine ⟨(by first | assumption | exact eX), ?_⟩; clear hK K; go_simp))
      all_goals (apply c3_st (eo.out 6 rfl) rfl; exact evE; simp only [ptN])
      all_goals refine c3_one ?_
      all_goals first | (refine c3_op (eo.out 7 rfl) rfl (fun K hK => ?_); go_simp; ((go_at_call 65; (with_reducible refine (hcv.out _ (HX.out.ext eX)).mono ?_); rintro e w4 ⟨⟨b4, o4, c4, rfl, hc4, hl4⟩, hx4⟩; have hx4b : Ext wr w4 := (by first | exact hx4 | exact (Ext.refl wr).drew.trans hx4); have z6 := (hx4b.below.cell (p := ⟨gF, 6, none⟩) aL).trans a6; have zL := Nat.lt_of_lt_of_le aL hx4b.below.size)); all_goals ((with_reducible refine hK _ _ ?_); refine ⟨(by first | assumption | exact eX), ?_⟩; clear hK K; go_simp)) | (refine c3_op (eo.out 7 rfl) rfl (fun K hK => ?_); go_simp; (skip); all_goals ((with_reducible refine hK _ _ ?_); refine ⟨(by first | assumption | exact eX), ?_⟩; clear hK K; go_simp))
      all_goals (apply c3_st (eo.out 8 rfl) rfl; exact evE; simp only [ptN])
      all_goals (clear eo; refine c3_done (NoPanic.normal ?_))
     rotate_right 1
     focus
      all_goals first | (refine c3_op (eo.out 2 rfl) rfl (fun K hK => ?_); go_simp; ((go_at_call 65; (with_reducible refine (hcv.out _ (HX.out.ext eX)).mono ?_); rintro e w4 ⟨⟨b4, o4, c4, rfl, hc4, hl4⟩, hx4⟩; have hx4b : Ext wr w4 := (by first | exact hx4 | exact (Ext.refl wr).drew.trans hx4); have z6 := (hx4b.below.cell (p := ⟨gF, 6, none⟩) aL).trans a6; have zL := Nat.lt_of_lt_of_le aL hx4b.below.size)); all_goals ((with_reducible refine hK _ _ ?_); refine ⟨(by first | assumption | exact eX), ?_⟩; clear hK K; go_simp)) | (refine c3_op (eo.out 2 rfl) rfl (fun K hK => ?_); go_simp; (skip); all_goals ((with_reducible refine hK _ _ ?_); refine ⟨(by first | assumption | exact eX), ?_⟩; clear hK K; go_simp))
      all_goals refine c3_one ?_
      all_goals first | (refine c3_op (eo.out 4 rfl) rfl (fun K hK => ?_); go_simp; ((go_at_call 65; (with_reducible refine (hcv.out _ (HX.out.ext eX)).mono ?_); rintro e w4 ⟨⟨b4, o4, c4, rfl, hc4, hl4⟩, hx4⟩; have hx4b : Ext wr w4 := (by first | exact hx4 | exact (Ext.refl wr).drew.trans hx4); have z6 := (hx4b.below.cell (p := ⟨gF, 6, none⟩) aL).trans a6; have zL := Nat.lt_of_lt_of_le aL hx4b.below.size)); all_goals ((with_reducible refine hK _ _ ?_); refine ⟨(by first | assumption | exact eX), ?_⟩; clear hK K; go_simp)) | (refine c3_op (eo.out 4 rfl) rfl (fun K hK => ?_); go_simp; (skip); all_goals ((with_reducible refine hK _ _ ?_); refine ⟨(by first | assumption | exact eX), ?_⟩; clear hK K; go_simp))
      all_goals (apply c3_st (eo.out 5 rfl) rfl; exact evE; simp only [ptN])
      all_goals (apply c3_st (eo.out 6 rfl) rfl; exact evE; simp only [ptN])
      all_goals refine c3_one ?_
      all_goals first | (refine c3_op (eo.out 7 rfl) rfl (fun K hK => ?_); go_simp; ((go_at_call 65; (with_reducible refine (hcv.out _ (HX.out.ext eX)).mono ?_); rintro e w4 ⟨⟨b4, o4, c4, rfl, hc4, hl4⟩, hx4⟩; have hx4b : Ext wr w4 := (by first | exact hx4 | exact (Ext.refl wr).drew.trans hx4); have z6 := (hx4b.below.cell (p := ⟨gF, 6, none⟩) aL).trans a6; have zL := Nat.lt_of_lt_of_le aL hx4b.below.size)); all_goals ((with_reducible refine hK _ _ ?_); refine ⟨(by first | assumption | exact eX), ?_⟩; clear hK K; go_simp)) | (refine c3_op (eo.out 7 rfl) rfl (fun K hK => ?_); go_simp; (skip); all_goals ((with_reducible refine hK _ _ ?_); refine ⟨(by first | assumption | exact eX), ?_⟩; clear hK K; go_simp))
      all_goals (apply c3_st (eo.out 8 rfl) rfl; exact evE; simp only [ptN])
      all_goals (clear eo; refine c3_done (NoPanic.normal ?_))
    all_goals
     have hV4 := hV.ext hx4b
     have hB5 := hB.trans (But.of hx4b)
     clear z6 hx4
     go_wp2_with (go_at_call 37; (with_reducible refine (l01In_c _ _ _ _).mono ?_); rintro e w5 ⟨⟨hP, rfl⟩ | ⟨hP, rfl⟩, rfl⟩ <;> (first | exact absurd hP hin | skip))
     exact ⟨⟨r + 3, hr3', by omega, by go_num, hV4, hB5⟩, by simp [intOf]; omega⟩
  ·have hset := vL_ext (n := nl) (f := vtR xs C (co + 2) nl r) (g := f) (fun i _ => by rw [← hf.out]; exact vtR_end hr3 (by omega) hr)
   rw [hset] at hV
   have hfb : ∀ i, f i ≤ 40000 := fun i => by rw [← hf.out]; exact Nat.le_trans (vtR_bd _ _ _ _ _ _) hR4
   clear hset hvb hb0 hb1 hB HB HG hx2 hsv hI1 hI2
   go_upto_region 10 with (fail)
   obtain ⟨wo, rfl⟩ : ∃ wo : World, wo = wr := ⟨_, rfl⟩
   replace hV := Lib.hid hV
   go_loopw [8, 9] (fun bb i w9 => ∃ k : Nat, k ≤ nl ∧ i = .int .i64 k ∧ bb = .int .i64 (topS f k) ∧ Ext wo w9) (fun _ i _ => nl - (intOf i).toNat)
   case atStart => exact ⟨0, Nat.zero_le _, rfl, rfl, Ext.refl _⟩
   case round =>
    obtain ⟨kk, hk, rfl, rfl, hext⟩ := hrel
    have htb := topS_bd f kk
    have hVw := hV.out.ext hext
    have hcellV : ∀ i, i < nl → wr.cell? ⟨gV, i, none⟩ = some (.int .i64 (f i)) ∧ gV < wr.heap.size := fun i hi => by
     obtain ⟨b', o', e', hB', hl', hc5, hf5⟩ := hVw i (by rw [vL_len]; exact hi)
     obtain ⟨rfl, rfl⟩ : gV = b' ∧ 0 = o' := by simpa using e'
     rw [Nat.zero_add, vL_at hi] at hc5
     exact ⟨hc5, hl'⟩
    replace hcellV := Lib.hid hcellV
    clear hVw c0 c1 c2 cL
    by_cases hltk : kk < nl
    ·obtain ⟨zk, zl⟩ := hcellV.out kk hltk
     have hfk := hfb kk
     by_cases h0 : f kk = 0
     ·have hst := Lib.hid (topS_no (V := f) (k := kk) (fun h => by omega))
      rw [h0, show ((0 : Nat) : Int) = 0 from rfl] at zk
      generalize topS f kk = t at *
      go_wp2
      go_quiet (fail)
      go_wp2
      exact ⟨⟨kk + 1, hltk, by go_num, by rw [hst.out], hext.drewN _⟩, by simp [intOf]; omega⟩
     ·by_cases hneg : topS f kk < 0
      ·have hst := Lib.hid (topS_up (V := f) (k := kk) ⟨by omega, .inl hneg⟩)
       have hpos : (0 : Int) < ((f kk : Nat) : Int) := by omega
       have hposN : 0 < f kk := by omega
       have hposD : decide (0 < f kk) = true := by simpa using hposN
       generalize topS f kk = t at *
       generalize f kk = y at *
       go_wp2
       go_quiet (fail)
       go_wp2
       exact ⟨⟨kk + 1, hltk, by go_num, by rw [hst.out], hext.drewN _⟩, by simp [intOf]; omega⟩
      ·obtain ⟨t, ht⟩ : ∃ t : Nat, topS f kk = t := ⟨(topS f kk).toNat, by omega⟩
       have htk : t < kk := by omega
       obtain ⟨zt, -⟩ := hcellV.out t (by omega)
       have hpos : (0 : Int) < ((f kk : Nat) : Int) := by omega
       have hposN : 0 < f kk := by omega
       have hposD : decide (0 < f kk) = true := by simpa using hposN
       have htl : t < nl := by omega
       by_cases hgt : f t < f kk
       ·have hst := Lib.hid (topS_up (V := f) (k := kk) ⟨by omega, .inr (by rw [ht]; exact hgt)⟩)
        have hgi : ((f t : Nat) : Int) < ((f kk : Nat) : Int) := by omega
        have hgD : decide (f t < f kk) = true := by simpa using hgt
        rw [ht]
        generalize f kk = y at *
        generalize f t = y2 at *
        clear ht htb hneg h0
        go_wp2
        go_quiet (fail)
        go_wp2
        exact ⟨⟨kk + 1, hltk, by go_num, by rw [hst.out], hext.drewN _⟩, by simp [intOf]; omega⟩
       ·have hst := Lib.hid (show topS f (kk + 1) = (t : Int) from (topS_no (V := f) (k := kk) (fun h => by
         rcases h.2 with h2 | h2
         ·exact hneg h2
         ·rw [ht] at h2; exact hgt h2)).trans ht)
        have hgi : ((f kk : Nat) : Int) ≤ ((f t : Nat) : Int) := by omega
        have hgD : decide (f t < f kk) = false := by simpa using hgt
        rw [ht]
        generalize f kk = y at *
        generalize f t = y2 at *
        clear ht htb hneg h0
        go_wp2
        go_quiet (fail)
        go_wp2
        exact ⟨⟨kk + 1, hltk, by go_num, by rw [hst.out], hext.drewN _⟩, by simp [intOf]; omega⟩
    ·obtain rfl : kk = nl := by omega
     obtain ⟨t, ht⟩ : ∃ t, topS f kk = t := ⟨_, rfl⟩
     rw [ht] at htb ⊢
     replace ht := Lib.hid ht
     go_wp2
     go_ret
     exact ⟨by rw [ht.out]; rfl, hxr.trans hext⟩
end Go.Proofs.YtojdediohjghnaaGreatDoor
