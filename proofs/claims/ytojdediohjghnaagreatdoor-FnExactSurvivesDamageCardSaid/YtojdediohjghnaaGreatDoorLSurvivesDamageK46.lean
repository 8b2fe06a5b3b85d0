/- SurvivesDamage: the walk of the law. -/
import Derived.Test.YtojdediohjghnaaGreatDoorLSurvivesDamageK45
import Derived.Test.YtojdediohjghnaaGreatDoorLSurvivesDamageK42
import Derived.Test.YtojdediohjghnaaGreatDoorLSurvivesDamageK01
import Derived.Test.YtojdediohjghnaaGreatDoorLSurvivesDamageK00
set_option linter.unusedVariables false
set_option linter.unusedSimpArgs false
namespace Go.Proofs.YtojdediohjghnaaGreatDoor
open Go.RowKit

set_option maxHeartbeats 12800000 in
set_option maxRecDepth 100000 in
theorem lawSurvivesDamage (nm : ByteArray) (K p k q co : Int) (ps pl : Option Addr) (cs cl : Nat) (ss ls : List Int) (r1 c1 : Int) (pg1 : Option Addr) (cg1 : Nat) (xs1 : List Int) (r2 c2 : Int) (pg2 : Option Addr) (cg2 : Nat) (xs2 : List Int) (w : World) (hs : IntsAt w ps ss) (hlv : IntsAt w pl ls) (hx1 : IntsAt w pg1 xs1) (hx2 : IntsAt w pg2 xs2) (hg1 : xs1.length ≤ maxLen) (hg2 : xs2.length ≤ maxLen) (hn : nm.size ≤ maxLen) (hl1 : ss.length ≤ maxLen) (hl2 : ls.length ≤ maxLen) (hL : LaidE w) :
  Calls Tryz.prog 3 #[vFam nm K p k q ps ss.length cs co pl ls.length cl, vGrid r1 c1 pg1 xs1.length cg1, vGrid r2 c2 pg2 xs2.length cg2] w fun e w' => e = .returned (.bool true) ∧ Ext w w' := by
 have HS := Lib.hid hs; have HV := Lib.hid hlv; have HX1 := Lib.hid hx1; have HX2 := Lib.hid hx2; clear hs hlv hx1 hx2
 have hxA : Ext w (((w.alloc (.cells #[.string nm, .int .i64 K, .int .i64 p, .int .i64 k, .int .i64 q, .slice ps ss.length cs, .int .i64 co, .slice pl ls.length cl] 26)).alloc (.cells #[.int .i64 r1, .int .i64 c1, .slice pg1 xs1.length cg1] 28)).alloc (.cells #[.int .i64 r2, .int .i64 c2, .slice pg2 xs2.length cg2] 28)) := (((Ext.refl w).alloc _).alloc _).alloc _
 have PF := ((Blk.new w #[.string nm, .int .i64 K, .int .i64 p, .int .i64 k, .int .i64 q, .slice ps ss.length cs, .int .i64 co, .slice pl ls.length cl] 26).alloc (.cells #[.int .i64 r1, .int .i64 c1, .slice pg1 xs1.length cg1] 28)).alloc (.cells #[.int .i64 r2, .int .i64 c2, .slice pg2 xs2.length cg2] 28)
 have PG1 := (Blk.new (w.alloc (.cells #[.string nm, .int .i64 K, .int .i64 p, .int .i64 k, .int .i64 q, .slice ps ss.length cs, .int .i64 co, .slice pl ls.length cl] 26)) #[.int .i64 r1, .int .i64 c1, .slice pg1 xs1.length cg1] 28).alloc (.cells #[.int .i64 r2, .int .i64 c2, .slice pg2 xs2.length cg2] 28)
 have PG2 := Blk.new ((w.alloc (.cells #[.string nm, .int .i64 K, .int .i64 p, .int .i64 k, .int .i64 q, .slice ps ss.length cs, .int .i64 co, .slice pl ls.length cl] 26)).alloc (.cells #[.int .i64 r1, .int .i64 c1, .slice pg1 xs1.length cg1] 28)) #[.int .i64 r2, .int .i64 c2, .slice pg2 xs2.length cg2] 28
 simp only [World.size_alloc] at PG1 PG2
 replace hL := Lib.hid hL
 have hsz := Lib.hid (fun W => szFamilyB_c nm K p k q co ps pl ss.length cs ls.length cl W hn hl1 hl2)
 unfold maxLen at hg1 hg2
 go_enter Tryz.func3, Tryz.ntmps3
 go_upto_region 1 with (fail)
 obtain ⟨g2, hg2E⟩ : ∃ g, w.heap.size + 1 + 1 = g := ⟨_, rfl⟩
 rw [hg2E] at PG2 ⊢
 clear hg2E
 obtain ⟨g1, hg1E⟩ : ∃ g, w.heap.size + 1 = g := ⟨_, rfl⟩
 rw [hg1E] at PG1 ⊢
 clear hg1E
 obtain ⟨g0, hg0E⟩ : ∃ g, w.heap.size = g := ⟨_, rfl⟩
 rw [hg0E] at PF ⊢
 clear hg0E
 generalize (((w.alloc (.cells #[.string nm, .int .i64 K, .int .i64 p, .int .i64 k, .int .i64 q, .slice ps ss.length cs, .int .i64 co, .slice pl ls.length cl] 26)).alloc (.cells #[.int .i64 r1, .int .i64 c1, .slice pg1 xs1.length cg1] 28)).alloc (.cells #[.int .i64 r2, .int .i64 c2, .slice pg2 xs2.length cg2] 28)) = w0 at *
 obtain ⟨a0, a1, a2, a3, a4, a5, a6, a7⟩ := PF.c8; have aL := PF.lt; obtain ⟨b10, b11, b12⟩ := PG1.c3; have b1L := PG1.lt; obtain ⟨b20, b21, b22⟩ := PG2.c3; have b2L := PG2.lt
 go_upto_region 3 with (go_at_call 5; go_loud ((with_reducible refine (hsz.out _).mono ?_); rintro e w1 ⟨⟨rr, rfl, hr⟩, hx1⟩; replace hr := Lib.hid hr; replace PF := PF.ext hx1; replace PG1 := PG1.ext hx1; replace PG2 := PG2.ext hx1; replace hxA := hxA.trans hx1; clear a0 a1 a2 a3 a4 a5 a6 a7 aL b10 b11 b12 b1L b20 b21 b22 b2L; obtain ⟨a0, a1, a2, a3, a4, a5, a6, a7⟩ := PF.c8; have aL := PF.lt; obtain ⟨b10, b11, b12⟩ := PG1.c3; have b1L := PG1.lt; obtain ⟨b20, b21, b22⟩ := PG2.c3; have b2L := PG2.lt))
 rcases hr.out with rfl | ⟨hr0, h1, h2, h3⟩
 ·go_wp2
  go_ret
  exact ⟨rfl, hxA⟩
 clear hr
 have hr1 : ¬ rr < 0 := by omega
 have hsg1 := Lib.hid (fun W => szGridL_c r1 c1 pg1 cg1 xs1.length (rr) W (by omega) (by omega))
 by_cases h41 : ¬ (xs1.length : Int) ≤ rr
 ·rw [if_neg h41] at hsg1
  go_wp2_with (go_at_call 6; go_loud ((with_reducible refine (hsg1.out _).mono ?_); rintro e w11 ⟨rfl, hx11⟩))
  go_ret
  exact ⟨rfl, hxA.trans hx11⟩
 replace h41 := Classical.not_not.1 h41
 rw [if_pos h41] at hsg1
 have h51 : xs1.length ≤ 1048576 := by omega
 have h61 : ¬ rr - (xs1.length : Int) < 0 := by omega
 go_upto_region 6 with (go_at_call 6; go_loud ((with_reducible refine (hsg1.out _).mono ?_); rintro e w11 ⟨rfl, hx11⟩; replace PF := PF.ext hx11; replace PG1 := PG1.ext hx11; replace PG2 := PG2.ext hx11; replace hxA := hxA.trans hx11; clear a0 a1 a2 a3 a4 a5 a6 a7 aL b10 b11 b12 b1L b20 b21 b22 b2L; obtain ⟨a0, a1, a2, a3, a4, a5, a6, a7⟩ := PF.c8; have aL := PF.lt; obtain ⟨b10, b11, b12⟩ := PG1.c3; have b1L := PG1.lt; obtain ⟨b20, b21, b22⟩ := PG2.c3; have b2L := PG2.lt))
 have hsg2 := Lib.hid (fun W => szGridL_c r2 c2 pg2 cg2 xs2.length (rr - (xs1.length : Int)) W (by omega) (by omega))
 by_cases h42 : ¬ (xs2.length : Int) ≤ rr - (xs1.length : Int)
 ·rw [if_neg h42] at hsg2
  go_wp2_with (go_at_call 6; go_loud ((with_reducible refine (hsg2.out _).mono ?_); rintro e w12 ⟨rfl, hx12⟩))
  go_ret
  exact ⟨rfl, hxA.trans hx12⟩
 replace h42 := Classical.not_not.1 h42
 rw [if_pos h42] at hsg2
 have h52 : xs2.length ≤ 1048576 := by omega
 have h62 : ¬ rr - (xs1.length : Int) - (xs2.length : Int) < 0 := by omega
 go_upto_region 9 with (go_at_call 6; go_loud ((with_reducible refine (hsg2.out _).mono ?_); rintro e w12 ⟨rfl, hx12⟩; replace PF := PF.ext hx12; replace PG1 := PG1.ext hx12; replace PG2 := PG2.ext hx12; replace hxA := hxA.trans hx12; clear a0 a1 a2 a3 a4 a5 a6 a7 aL b10 b11 b12 b1L b20 b21 b22 b2L; obtain ⟨a0, a1, a2, a3, a4, a5, a6, a7⟩ := PF.c8; have aL := PF.lt; obtain ⟨b10, b11, b12⟩ := PG1.c3; have b1L := PG1.lt; obtain ⟨b20, b21, b22⟩ := PG2.c3; have b2L := PG2.lt))
 have htf := Lib.hid (fun W (a : IntsAt W ps ss) (b : IntsAt W pl ls) => toFamilyO_c nm K p k q co ps pl cs cl ss ls W a b h2 h3)
 have htg1 := Lib.hid (fun W (a : IntsAt W pg1 xs1) => toGrid_c r1 c1 pg1 cg1 xs1 W a h51)
 have htg2 := Lib.hid (fun W (a : IntsAt W pg2 xs2) => toGrid_c r2 c2 pg2 cg2 xs2 W a h52)
 have hsp := Lib.hid (fun a b d1 d2 W (x1 : IntsAt W a ss) (x2 : IntsAt W b ls) (y1 : IntsAt W d1 xs1) (y2 : IntsAt W d2 xs2) => sSurvives_c nm K p k q co r1 c1 r2 c2 a b d1 d2 ss.length ls.length xs1.length xs2.length ss ls xs1 xs2 W x1 x2 y1 y2 h1 h2 h3 h51 h52 (Nat.le_refl _) (Nat.le_refl _))
 have him := Lib.hid (fun a b d1 d2 W (x1 : IntsAt W a ss) (x2 : IntsAt W b ls) (y1 : IntsAt W d1 xs1) (y2 : IntsAt W d2 xs2) (x4 : LaidE W) => iSurvives_c nm K p k q co r1 c1 r2 c2 a b d1 d2 ss.length ls.length xs1.length xs2.length ss ls xs1 xs2 W x1 x2 y1 y2 h1 h2 h3 h51 h52 (Nat.le_refl _) (Nat.le_refl _) x4)
 generalize svB nm K p k q ss co ls r1 c1 xs1 r2 c2 xs2 = B at *
 generalize svC nm K p k q ss co ls r1 c1 xs1 r2 c2 xs2 = cd at *
 have hef := Lib.hid (fun a b d e W (x1 : IntsAt W a ss) (x2 : IntsAt W b ls) (x3 : IntsAt W d ss) (x4 : IntsAt W e ls) => eqFamily_c nm K p k q co a b d e ss.length ls.length ss.length ls.length ss ls W x1 x2 x3 x4 h2 h3)
 have heg1 := Lib.hid (fun a b W (x1 : IntsAt W a xs1) (x2 : IntsAt W b xs1) => eqGrid_c r1 c1 a b xs1.length xs1.length xs1 W x1 x2 h51)
 have heg2 := Lib.hid (fun a b W (x1 : IntsAt W a xs2) (x2 : IntsAt W b xs2) => eqGrid_c r2 c2 a b xs2.length xs2.length xs2 W x1 x2 h52)
 go_upto_region 11 with (fail)
 refine wp_region_canon (fun w' => Ext w12 w') [(0, true), (2, true), (4, true), (1, false), (3, false), (5, false), (6, false), (7, true), (8, true), (9, true), (10, true), (11, true)] (by kernel_rfl) (by kernel_rfl) (by decide) (by kernel_rfl) ?_ ?_
 ·exact eX
 refine canon_intro fun ops eo => ?_
 replace eo := canon_eo eo
 iterate 3 all_goals (refine cS eo rfl rfl evE ?_; simp only [ptN])
 all_goals first | (refine canon_ef (eo.out 1 rfl) rfl (fun K hK => ?_); go_simp; ((go_at_call 8; (with_reducible refine (htf.out _ (HS.out.ext (hxA.trans eX)) (HV.out.ext (hxA.trans eX))).mono ?_); rintro e w2 ⟨⟨p2, l2, rfl, i2, j2, -⟩, hx2⟩; replace i2 := Lib.hid i2.ints; replace j2 := Lib.hid j2.ints)); all_goals (refine hK _ _ ⟨(by first | assumption | exact eX), ?_⟩; clear hK K; go_simp))
 all_goals first | (refine canon_ef (eo.out 3 rfl) rfl (fun K hK => ?_); go_simp; ((go_at_call 9; (with_reducible refine (htg1.out _ (HX1.out.ext (hxA.trans eX))).mono ?_); rintro e w31 ⟨⟨q31, rfl, o31⟩, hx31⟩; replace o31 := Lib.hid o31.ints)); all_goals (refine hK _ _ ⟨(by first | assumption | exact eX), ?_⟩; clear hK K; go_simp))
 all_goals first | (refine canon_ef (eo.out 5 rfl) rfl (fun K hK => ?_); go_simp; ((go_at_call 9; (with_reducible refine (htg2.out _ (HX2.out.ext (hxA.trans eX))).mono ?_); rintro e w32 ⟨⟨q32, rfl, o32⟩, hx32⟩; replace o32 := Lib.hid o32.ints)); all_goals (refine hK _ _ ⟨(by first | assumption | exact eX), ?_⟩; clear hK K; go_simp))
 all_goals first | (refine canon_ef (eo.out 6 rfl) rfl (fun K hK => ?_); go_simp; ((go_at_call 7; (with_reducible refine (hsp.out _ _ _ _ _ (i2.out.ext eX) (j2.out.ext eX) (o31.out.ext eX) (o32.out.ext eX)).mono ?_); rintro e w4 ⟨rfl, hx4⟩)); all_goals (refine hK _ _ ⟨(by first | assumption | exact eX), ?_⟩; clear hK K; go_simp))
 iterate 5 all_goals (refine cS eo rfl rfl evE ?_; simp only [ptN])
 all_goals (clear eo; refine canon_done (NoPanic.normal ?_))
 have hxe : Ext w12 w4 := eX
 replace PF := PF.ext hxe; replace PG1 := PG1.ext hxe; replace PG2 := PG2.ext hxe; replace hxA := hxA.trans hxe; clear a0 a1 a2 a3 a4 a5 a6 a7 aL b10 b11 b12 b1L b20 b21 b22 b2L; obtain ⟨a0, a1, a2, a3, a4, a5, a6, a7⟩ := PF.c8; have aL := PF.lt; obtain ⟨b10, b11, b12⟩ := PG1.c3; have b1L := PG1.lt; obtain ⟨b20, b21, b22⟩ := PG2.c3; have b2L := PG2.lt
 clear i2 j2 o31 o32 hsp
 go_upto_region 13 with (go_at_call 8; go_loud ((with_reducible refine (htf.out _ (HS.out.ext hxA) (HV.out.ext hxA)).mono ?_); rintro e w6 ⟨⟨p6, l6, rfl, i6, j6, hap6⟩, hx6⟩))
 have hgX := Blk.new w6 #[.string nm, .int .i64 K, .int .i64 p, .int .i64 k, .int .i64 q, .slice p6 ss.length ss.length, .int .i64 co, .slice l6 ls.length ls.length] 35
 have HB7 := hx6.alloc (.cells #[.string nm, .int .i64 K, .int .i64 p, .int .i64 k, .int .i64 q, .slice p6 ss.length ss.length, .int .i64 co, .slice l6 ls.length ls.length] 35)
 have i7 := i6.ext ((Ext.refl w6).alloc (.cells #[.string nm, .int .i64 K, .int .i64 p, .int .i64 k, .int .i64 q, .slice p6 ss.length ss.length, .int .i64 co, .slice l6 ls.length ls.length] 35))
 have j7 := j6.ext ((Ext.refl w6).alloc (.cells #[.string nm, .int .i64 K, .int .i64 p, .int .i64 k, .int .i64 q, .slice p6 ss.length ss.length, .int .i64 co, .slice l6 ls.length ls.length] 35))
 have hfS : ∀ j, w6.heap.size ≤ j → Far p6 ss j := fun j hj b o hn e => by have := (i6.lt0 hn e).2; omega
 have hfL : ∀ j, w6.heap.size ≤ j → Far l6 ls j := fun j hj b o hn e => by have := (j6.lt0 hn e).2; omega
 have hz7 : (w6.alloc (.cells #[.string nm, .int .i64 K, .int .i64 p, .int .i64 k, .int .i64 q, .slice p6 ss.length ss.length, .int .i64 co, .slice l6 ls.length ls.length] 35)).heap.size = w6.heap.size + 1 := by rw [World.size_alloc]
 generalize w6.alloc (.cells #[.string nm, .int .i64 K, .int .i64 p, .int .i64 k, .int .i64 q, .slice p6 ss.length ss.length, .int .i64 co, .slice l6 ls.length ls.length] 35) = w7 at *
 generalize w6.heap.size = gX at *
 replace hfS := Lib.hid hfS; replace hfL := Lib.hid hfL; replace hap6 := Lib.hid hap6; replace i7 := Lib.hid i7; replace j7 := Lib.hid j7
 clear i6 j6 hx6
 have hxC := hxA
 replace PF := PF.ext HB7; replace PG1 := PG1.ext HB7; replace PG2 := PG2.ext HB7; replace hxA := hxA.trans HB7; clear a0 a1 a2 a3 a4 a5 a6 a7 aL b10 b11 b12 b1L b20 b21 b22 b2L; obtain ⟨a0, a1, a2, a3, a4, a5, a6, a7⟩ := PF.c8; have aL := PF.lt; obtain ⟨b10, b11, b12⟩ := PG1.c3; have b1L := PG1.lt; obtain ⟨b20, b21, b22⟩ := PG2.c3; have b2L := PG2.lt
 go_upto_region 14 with (go_at_call 9; go_loud ((with_reducible refine (htg1.out _ (HX1.out.ext hxA)).mono ?_); rintro e w81 ⟨⟨q81, rfl, o81⟩, hx81⟩))
 have hgY1 := Blk.new w81 #[.int .i64 r1, .int .i64 c1, .slice q81 xs1.length xs1.length] 37
 have hx91 := hx81.alloc (.cells #[.int .i64 r1, .int .i64 c1, .slice q81 xs1.length xs1.length] 37)
 have o91 := o81.ext ((Ext.refl w81).alloc (.cells #[.int .i64 r1, .int .i64 c1, .slice q81 xs1.length xs1.length] 37))
 have hfG1 : ∀ j, (j < w7.heap.size ∨ w81.heap.size ≤ j) → Far q81 xs1 j := fun j hj b o hn e => by have := o81.lt0 hn e; omega
 have hz91 : (w81.alloc (.cells #[.int .i64 r1, .int .i64 c1, .slice q81 xs1.length xs1.length] 37)).heap.size = w81.heap.size + 1 := by rw [World.size_alloc]
 have hy91 := hx81.below.size
 generalize w81.alloc (.cells #[.int .i64 r1, .int .i64 c1, .slice q81 xs1.length xs1.length] 37) = w91 at *
 generalize w81.heap.size = gY1 at *
 replace hfG1 := Lib.hid hfG1; replace o91 := Lib.hid o91
 clear o81 hx81
 have HB91 := HB7.trans hx91
 replace hgX := hgX.ext hx91; replace i7 := Lib.hid (i7.out.ext hx91); replace j7 := Lib.hid (j7.out.ext hx91)
 replace PF := PF.ext hx91; replace PG1 := PG1.ext hx91; replace PG2 := PG2.ext hx91; replace hxA := hxA.trans hx91; clear a0 a1 a2 a3 a4 a5 a6 a7 aL b10 b11 b12 b1L b20 b21 b22 b2L; obtain ⟨a0, a1, a2, a3, a4, a5, a6, a7⟩ := PF.c8; have aL := PF.lt; obtain ⟨b10, b11, b12⟩ := PG1.c3; have b1L := PG1.lt; obtain ⟨b20, b21, b22⟩ := PG2.c3; have b2L := PG2.lt
 go_upto_region 15 with (go_at_call 9; go_loud ((with_reducible refine (htg2.out _ (HX2.out.ext hxA)).mono ?_); rintro e w82 ⟨⟨q82, rfl, o82⟩, hx82⟩))
 have hgY2 := Blk.new w82 #[.int .i64 r2, .int .i64 c2, .slice q82 xs2.length xs2.length] 37
 have hx92 := hx82.alloc (.cells #[.int .i64 r2, .int .i64 c2, .slice q82 xs2.length xs2.length] 37)
 have o92 := o82.ext ((Ext.refl w82).alloc (.cells #[.int .i64 r2, .int .i64 c2, .slice q82 xs2.length xs2.length] 37))
 have hfG2 : ∀ j, (j < w91.heap.size ∨ w82.heap.size ≤ j) → Far q82 xs2 j := fun j hj b o hn e => by have := o82.lt0 hn e; omega
 have hz92 : (w82.alloc (.cells #[.int .i64 r2, .int .i64 c2, .slice q82 xs2.length xs2.length] 37)).heap.size = w82.heap.size + 1 := by rw [World.size_alloc]
 have hy92 := hx82.below.size
 generalize w82.alloc (.cells #[.int .i64 r2, .int .i64 c2, .slice q82 xs2.length xs2.length] 37) = w92 at *
 generalize w82.heap.size = gY2 at *
 replace hfG2 := Lib.hid hfG2; replace o92 := Lib.hid o92
 clear o82 hx82
 have HB92 := HB91.trans hx92
 replace hgX := hgX.ext hx92; replace i7 := Lib.hid (i7.out.ext hx92); replace j7 := Lib.hid (j7.out.ext hx92)
 replace hgY1 := hgY1.ext hx92; replace o91 := Lib.hid (o91.out.ext hx92)
 replace PF := PF.ext hx92; replace PG1 := PG1.ext hx92; replace PG2 := PG2.ext hx92; replace hxA := hxA.trans hx92; clear a0 a1 a2 a3 a4 a5 a6 a7 aL b10 b11 b12 b1L b20 b21 b22 b2L; obtain ⟨a0, a1, a2, a3, a4, a5, a6, a7⟩ := PF.c8; have aL := PF.lt; obtain ⟨b10, b11, b12⟩ := PG1.c3; have b1L := PG1.lt; obtain ⟨b20, b21, b22⟩ := PG2.c3; have b2L := PG2.lt
 obtain ⟨x0, x1, x2, x3, x4, x5, x6, x7⟩ := hgX.c8; have xL := hgX.lt; obtain ⟨y10, y11, y12⟩ := hgY1.c3; have y1L := hgY1.lt; obtain ⟨y20, y21, y22⟩ := hgY2.c3; have y2L := hgY2.lt
 go_upto_region 16 with (go_at_call 10; go_loud ((with_reducible refine (him.out _ _ _ _ _ i7.out.ints j7.out.ints o91.out.ints o92.out.ints (hL.out.ext hxA)).mono ?_); rintro e w10 ⟨rfl, hx10⟩))
 replace hgX := hgX.ext hx10; replace i7 := Lib.hid (i7.out.ext hx10); replace j7 := Lib.hid (j7.out.ext hx10); replace hgY1 := hgY1.ext hx10; replace o91 := Lib.hid (o91.out.ext hx10); replace hgY2 := hgY2.ext hx10; replace o92 := Lib.hid (o92.out.ext hx10); clear x0 x1 x2 x3 x4 x5 x6 x7 xL y10 y11 y12 y1L y20 y21 y22 y2L; obtain ⟨x0, x1, x2, x3, x4, x5, x6, x7⟩ := hgX.c8; have xL := hgX.lt; obtain ⟨y10, y11, y12⟩ := hgY1.c3; have y1L := hgY1.lt; obtain ⟨y20, y21, y22⟩ := hgY2.c3; have y2L := hgY2.lt; replace PF := PF.ext hx10; replace PG1 := PG1.ext hx10; replace PG2 := PG2.ext hx10; replace hxA := hxA.trans hx10; clear a0 a1 a2 a3 a4 a5 a6 a7 aL b10 b11 b12 b1L b20 b21 b22 b2L; obtain ⟨a0, a1, a2, a3, a4, a5, a6, a7⟩ := PF.c8; have aL := PF.lt; obtain ⟨b10, b11, b12⟩ := PG1.c3; have b1L := PG1.lt; obtain ⟨b20, b21, b22⟩ := PG2.c3; have b2L := PG2.lt
 go_upto_region 18 with (fail)
 refine wp_region_canon (fun w' => Ext w10 w') [(0, true), (1, true), (2, false), (3, false), (4, true)] (by kernel_rfl) (by kernel_rfl) (by decide) (by kernel_rfl) ?_ ?_
 ·exact eX
 refine canon_intro fun ops eo => ?_
 replace eo := canon_eo eo
 iterate 2 all_goals (refine cS eo rfl rfl evE ?_; simp only [ptN])
 all_goals first | (refine canon_ef (eo.out 2 rfl) rfl (fun K hK => ?_); go_simp; ((go_at_call 8; (with_reducible refine (htf.out _ (HS.out.ext (hxA.trans eX)) (HV.out.ext (hxA.trans eX))).mono ?_); rintro e w12 ⟨⟨p12, l12, rfl, i12, j12, -⟩, hx12⟩)); all_goals (refine hK _ _ ⟨(by first | assumption | exact eX), ?_⟩; clear hK K; go_simp)) | (refine canon_ef (eo.out 2 rfl) rfl (fun K hK => ?_); go_simp; ((go_at_call 11; (with_reducible refine (hef.out _ _ _ _ _ (i7.out.ints.ext eX) (j7.out.ints.ext eX) i12.ints j12.ints).mono ?_); rintro e w13 ⟨rfl, hx13⟩)); all_goals (refine hK _ _ ⟨(by first | assumption | exact eX), ?_⟩; clear hK K; go_simp))
 all_goals first | (refine canon_ef (eo.out 3 rfl) rfl (fun K hK => ?_); go_simp; ((go_at_call 8; (with_reducible refine (htf.out _ (HS.out.ext (hxA.trans eX)) (HV.out.ext (hxA.trans eX))).mono ?_); rintro e w12 ⟨⟨p12, l12, rfl, i12, j12, -⟩, hx12⟩)); all_goals (refine hK _ _ ⟨(by first | assumption | exact eX), ?_⟩; clear hK K; go_simp)) | (refine canon_ef (eo.out 3 rfl) rfl (fun K hK => ?_); go_simp; ((go_at_call 11; (with_reducible refine (hef.out _ _ _ _ _ (i7.out.ints.ext eX) (j7.out.ints.ext eX) i12.ints j12.ints).mono ?_); rintro e w13 ⟨rfl, hx13⟩)); all_goals (refine hK _ _ ⟨(by first | assumption | exact eX), ?_⟩; clear hK K; go_simp))
 all_goals (refine cS eo rfl rfl evE ?_; simp only [ptN])
 all_goals (clear eo; refine canon_done (NoPanic.normal ?_))
 have hx14 : Ext w10 w13 := eX
 clear i12 j12 hx12 hx13
 replace hgX := hgX.ext hx14; replace i7 := Lib.hid (i7.out.ext hx14); replace j7 := Lib.hid (j7.out.ext hx14); replace hgY1 := hgY1.ext hx14; replace o91 := Lib.hid (o91.out.ext hx14); replace hgY2 := hgY2.ext hx14; replace o92 := Lib.hid (o92.out.ext hx14); clear x0 x1 x2 x3 x4 x5 x6 x7 xL y10 y11 y12 y1L y20 y21 y22 y2L; obtain ⟨x0, x1, x2, x3, x4, x5, x6, x7⟩ := hgX.c8; have xL := hgX.lt; obtain ⟨y10, y11, y12⟩ := hgY1.c3; have y1L := hgY1.lt; obtain ⟨y20, y21, y22⟩ := hgY2.c3; have y2L := hgY2.lt; replace PF := PF.ext hx14; replace PG1 := PG1.ext hx14; replace PG2 := PG2.ext hx14; replace hxA := hxA.trans hx14; clear a0 a1 a2 a3 a4 a5 a6 a7 aL b10 b11 b12 b1L b20 b21 b22 b2L; obtain ⟨a0, a1, a2, a3, a4, a5, a6, a7⟩ := PF.c8; have aL := PF.lt; obtain ⟨b10, b11, b12⟩ := PG1.c3; have b1L := PG1.lt; obtain ⟨b20, b21, b22⟩ := PG2.c3; have b2L := PG2.lt
 go_upto_region 20 with (fail)
 refine wp_region_canon (fun w' => Ext w13 w') [(0, true), (1, true), (2, false), (3, false), (4, true)] (by kernel_rfl) (by kernel_rfl) (by decide) (by kernel_rfl) ?_ ?_
 ·exact eX
 refine canon_intro fun ops eo => ?_
 replace eo := canon_eo eo
 iterate 2 all_goals (refine cS eo rfl rfl evE ?_; simp only [ptN])
 all_goals first | (refine canon_ef (eo.out 2 rfl) rfl (fun K hK => ?_); go_simp; ((go_at_call 9; (with_reducible refine (htg1.out _ (HX1.out.ext (hxA.trans eX))).mono ?_); rintro e w151 ⟨⟨q151, rfl, o151⟩, hx151⟩)); all_goals (refine hK _ _ ⟨(by first | assumption | exact eX), ?_⟩; clear hK K; go_simp)) | (refine canon_ef (eo.out 2 rfl) rfl (fun K hK => ?_); go_simp; ((go_at_call 12; (with_reducible refine (heg1.out _ _ _ (o91.out.ints.ext eX) o151.ints).mono ?_); rintro e w161 ⟨rfl, hx161⟩)); all_goals (refine hK _ _ ⟨(by first | assumption | exact eX), ?_⟩; clear hK K; go_simp))
 all_goals first | (refine canon_ef (eo.out 3 rfl) rfl (fun K hK => ?_); go_simp; ((go_at_call 9; (with_reducible refine (htg1.out _ (HX1.out.ext (hxA.trans eX))).mono ?_); rintro e w151 ⟨⟨q151, rfl, o151⟩, hx151⟩)); all_goals (refine hK _ _ ⟨(by first | assumption | exact eX), ?_⟩; clear hK K; go_simp)) | (refine canon_ef (eo.out 3 rfl) rfl (fun K hK => ?_); go_simp; ((go_at_call 12; (with_reducible refine (heg1.out _ _ _ (o91.out.ints.ext eX) o151.ints).mono ?_); rintro e w161 ⟨rfl, hx161⟩)); all_goals (refine hK _ _ ⟨(by first | assumption | exact eX), ?_⟩; clear hK K; go_simp))
 all_goals (refine cS eo rfl rfl evE ?_; simp only [ptN])
 all_goals (clear eo; refine canon_done (NoPanic.normal ?_))
 have hx171 : Ext w13 w161 := eX
 clear o151 hx151 hx161
 replace hgX := hgX.ext hx171; replace i7 := Lib.hid (i7.out.ext hx171); replace j7 := Lib.hid (j7.out.ext hx171); replace hgY1 := hgY1.ext hx171; replace o91 := Lib.hid (o91.out.ext hx171); replace hgY2 := hgY2.ext hx171; replace o92 := Lib.hid (o92.out.ext hx171); clear x0 x1 x2 x3 x4 x5 x6 x7 xL y10 y11 y12 y1L y20 y21 y22 y2L; obtain ⟨x0, x1, x2, x3, x4, x5, x6, x7⟩ := hgX.c8; have xL := hgX.lt; obtain ⟨y10, y11, y12⟩ := hgY1.c3; have y1L := hgY1.lt; obtain ⟨y20, y21, y22⟩ := hgY2.c3; have y2L := hgY2.lt; replace PF := PF.ext hx171; replace PG1 := PG1.ext hx171; replace PG2 := PG2.ext hx171; replace hxA := hxA.trans hx171; clear a0 a1 a2 a3 a4 a5 a6 a7 aL b10 b11 b12 b1L b20 b21 b22 b2L; obtain ⟨a0, a1, a2, a3, a4, a5, a6, a7⟩ := PF.c8; have aL := PF.lt; obtain ⟨b10, b11, b12⟩ := PG1.c3; have b1L := PG1.lt; obtain ⟨b20, b21, b22⟩ := PG2.c3; have b2L := PG2.lt
 go_upto_region 22 with (fail)
 refine wp_region_canon (fun w' => Ext w161 w') [(0, true), (1, true), (2, false), (3, false), (4, true)] (by kernel_rfl) (by kernel_rfl) (by decide) (by kernel_rfl) ?_ ?_
 ·exact eX
 refine canon_intro fun ops eo => ?_
 replace eo := canon_eo eo
 iterate 2 all_goals (refine cS eo rfl rfl evE ?_; simp only [ptN])
 all_goals first | (refine canon_ef (eo.out 2 rfl) rfl (fun K hK => ?_); go_simp; ((go_at_call 9; (with_reducible refine (htg2.out _ (HX2.out.ext (hxA.trans eX))).mono ?_); rintro e w152 ⟨⟨q152, rfl, o152⟩, hx152⟩)); all_goals (refine hK _ _ ⟨(by first | assumption | exact eX), ?_⟩; clear hK K; go_simp)) | (refine canon_ef (eo.out 2 rfl) rfl (fun K hK => ?_); go_simp; ((go_at_call 12; (with_reducible refine (heg2.out _ _ _ (o92.out.ints.ext eX) o152.ints).mono ?_); rintro e w162 ⟨rfl, hx162⟩)); all_goals (refine hK _ _ ⟨(by first | assumption | exact eX), ?_⟩; clear hK K; go_simp))
 all_goals first | (refine canon_ef (eo.out 3 rfl) rfl (fun K hK => ?_); go_simp; ((go_at_call 9; (with_reducible refine (htg2.out _ (HX2.out.ext (hxA.trans eX))).mono ?_); rintro e w152 ⟨⟨q152, rfl, o152⟩, hx152⟩)); all_goals (refine hK _ _ ⟨(by first | assumption | exact eX), ?_⟩; clear hK K; go_simp)) | (refine canon_ef (eo.out 3 rfl) rfl (fun K hK => ?_); go_simp; ((go_at_call 12; (with_reducible refine (heg2.out _ _ _ (o92.out.ints.ext eX) o152.ints).mono ?_); rintro e w162 ⟨rfl, hx162⟩)); all_goals (refine hK _ _ ⟨(by first | assumption | exact eX), ?_⟩; clear hK K; go_simp))
 all_goals (refine cS eo rfl rfl evE ?_; simp only [ptN])
 all_goals (clear eo; refine canon_done (NoPanic.normal ?_))
 have hx172 : Ext w161 w162 := eX
 clear o152 hx152 hx162
 replace hgX := hgX.ext hx172; replace i7 := Lib.hid (i7.out.ext hx172); replace j7 := Lib.hid (j7.out.ext hx172); replace hgY1 := hgY1.ext hx172; replace o91 := Lib.hid (o91.out.ext hx172); replace hgY2 := hgY2.ext hx172; replace o92 := Lib.hid (o92.out.ext hx172); clear x0 x1 x2 x3 x4 x5 x6 x7 xL y10 y11 y12 y1L y20 y21 y22 y2L; obtain ⟨x0, x1, x2, x3, x4, x5, x6, x7⟩ := hgX.c8; have xL := hgX.lt; obtain ⟨y10, y11, y12⟩ := hgY1.c3; have y1L := hgY1.lt; obtain ⟨y20, y21, y22⟩ := hgY2.c3; have y2L := hgY2.lt; replace PF := PF.ext hx172; replace PG1 := PG1.ext hx172; replace PG2 := PG2.ext hx172; replace hxA := hxA.trans hx172; clear a0 a1 a2 a3 a4 a5 a6 a7 aL b10 b11 b12 b1L b20 b21 b22 b2L; obtain ⟨a0, a1, a2, a3, a4, a5, a6, a7⟩ := PF.c8; have aL := PF.lt; obtain ⟨b10, b11, b12⟩ := PG1.c3; have b1L := PG1.lt; obtain ⟨b20, b21, b22⟩ := PG2.c3; have b2L := PG2.lt
 go_wp2
 go_ret
 exact ⟨rfl, hxA⟩
end Go.Proofs.YtojdediohjghnaaGreatDoor
/- How the laws' families and grids are read from memory. -/
namespace Go.Proofs.YtojdediohjghnaaGreatDoor
open Go.RowKit

theorem open_FamilyO {w : World} {cs : List Value} (h : rds w [.str, .i .i64, .st [.i .i64, .i .i64, .i .i64], .sl (.i .i64), .i .i64, .sl (.i .i64)] cs) : ∃ (nm : ByteArray) (K p k q : Int) (ps : Option Addr) (a : Nat) (ss : List Int) (co : Int) (pl : Option Addr) (b : Nat) (ls : List Int), cs = [.string nm, .int .i64 K, .int .i64 p, .int .i64 k, .int .i64 q, .slice ps ss.length a, .int .i64 co, .slice pl ls.length b] ∧ nm.size ≤ maxLen ∧ ss.length ≤ maxLen ∧ ls.length ≤ maxLen ∧ IntsAt w ps ss ∧ IntsAt w pl ls := by
 obtain ⟨nm, _, rfl, hn, h⟩ := rds_str h
 obtain ⟨K, _, rfl, _, h⟩ := rds_int h
 obtain ⟨c1, c2, rfl, hf, h4⟩ := rds_st h
 obtain ⟨p, _, rfl, _, hf⟩ := rds_int hf
 obtain ⟨k, _, rfl, _, hf⟩ := rds_int hf
 obtain ⟨q, _, rfl, _, hf⟩ := rds_int hf
 obtain rfl := rds_nil hf
 obtain ⟨v, _, rfl, hv, h5⟩ := rds_sl h4
 obtain ⟨ps, a, ss, rfl, hl, hx, _⟩ := rd_ints hv
 obtain ⟨co, _, rfl, _, h⟩ := rds_int h5
 obtain ⟨v2, _, rfl, hv2, h6⟩ := rds_sl h
 obtain ⟨pl, b, ls, rfl, hl2, hx2, _⟩ := rd_ints hv2
 obtain rfl := rds_nil h6
 exact ⟨nm, K, p, k, q, ps, a, ss, co, pl, b, ls, rfl, hn, hl, hl2, hx, hx2⟩
theorem open_GridO {w : World} {cs : List Value} (h : rds w [.i .i64, .i .i64, .sl (.i .i64)] cs) : ∃ (r c : Int) (p : Option Addr) (k : Nat) (xs : List Int), cs = [.int .i64 r, .int .i64 c, .slice p xs.length k] ∧ xs.length ≤ maxLen ∧ IntsAt w p xs := by
 obtain ⟨r, _, rfl, _, h⟩ := rds_int h
 obtain ⟨c, _, rfl, _, h⟩ := rds_int h
 obtain ⟨v, _, rfl, hv, h3⟩ := rds_sl h
 obtain ⟨p, k, xs, rfl, hl, hx, _⟩ := rd_ints hv
 obtain rfl := rds_nil h3
 exact ⟨r, c, p, k, xs, rfl, hl, hx⟩
end Go.Proofs.YtojdediohjghnaaGreatDoor
