/- DamagedElements: the walk of the law. -/
import Derived.Test.YtekignklnakkaaaGreatDoorLDamagedElementsK44
set_option linter.unusedVariables false
set_option linter.unusedSimpArgs false
namespace Go.Proofs.YtekignklnakkaaaGreatDoor
open Go.RowKit

set_option maxHeartbeats 12800000 in
set_option maxRecDepth 100000 in
theorem lawDamagedElements (nm : ByteArray) (K p k q co : Int) (ps pl : Option Addr) (cs cl : Nat) (ss ls : List Int) (r1 c1 : Int) (pg1 : Option Addr) (cg1 : Nat) (xs1 : List Int) (r2 c2 : Int) (pg2 : Option Addr) (cg2 : Nat) (xs2 : List Int) (w : World) (hs : IntsAt w ps ss) (hlv : IntsAt w pl ls) (hx1 : IntsAt w pg1 xs1) (hx2 : IntsAt w pg2 xs2) (hg1 : xs1.length ≤ maxLen) (hg2 : xs2.length ≤ maxLen) (hn : nm.size ≤ maxLen) (hl1 : ss.length ≤ maxLen) (hl2 : ls.length ≤ maxLen) (hL : LaidE w) :
    Calls Tryz.prog 6 #[vFam nm K p k q ps ss.length cs co pl ls.length cl, vGrid r1 c1 pg1 xs1.length cg1, vGrid r2 c2 pg2 xs2.length cg2] w fun e w' => e = .returned (.bool true) ∧ Ext w w' := by
  have HS := Lib.hid hs; have HV := Lib.hid hlv; have HX1 := Lib.hid hx1; have HX2 := Lib.hid hx2; clear hs hlv hx1 hx2
  have hxA : Ext w (((w.alloc (.cells #[.string nm, .int .i64 K, .int .i64 p, .int .i64 k, .int .i64 q, .slice ps ss.length cs, .int .i64 co, .slice pl ls.length cl] 26)).alloc (.cells #[.int .i64 r1, .int .i64 c1, .slice pg1 xs1.length cg1] 28)).alloc (.cells #[.int .i64 r2, .int .i64 c2, .slice pg2 xs2.length cg2] 28)) := (((Ext.refl w).alloc _).alloc _).alloc _
  have PF := ((Blk.new w #[.string nm, .int .i64 K, .int .i64 p, .int .i64 k, .int .i64 q, .slice ps ss.length cs, .int .i64 co, .slice pl ls.length cl] 26).alloc (.cells #[.int .i64 r1, .int .i64 c1, .slice pg1 xs1.length cg1] 28)).alloc (.cells #[.int .i64 r2, .int .i64 c2, .slice pg2 xs2.length cg2] 28)
  have PG1 := (Blk.new (w.alloc (.cells #[.string nm, .int .i64 K, .int .i64 p, .int .i64 k, .int .i64 q, .slice ps ss.length cs, .int .i64 co, .slice pl ls.length cl] 26)) #[.int .i64 r1, .int .i64 c1, .slice pg1 xs1.length cg1] 28).alloc (.cells #[.int .i64 r2, .int .i64 c2, .slice pg2 xs2.length cg2] 28)
  have PG2 := Blk.new ((w.alloc (.cells #[.string nm, .int .i64 K, .int .i64 p, .int .i64 k, .int .i64 q, .slice ps ss.length cs, .int .i64 co, .slice pl ls.length cl] 26)).alloc (.cells #[.int .i64 r1, .int .i64 c1, .slice pg1 xs1.length cg1] 28)) #[.int .i64 r2, .int .i64 c2, .slice pg2 xs2.length cg2] 28
  simp only [World.size_alloc] at PG1 PG2
  replace hL := Lib.hid hL
  have hsz := Lib.hid (fun W => szFamilyB_c nm K p k q co ps pl ss.length cs ls.length cl W hn hl1 hl2)
  unfold maxLen at hg1 hg2
  go_enter Tryz.func6, Tryz.ntmps6
  go_upto_region 1 with (fail)
  obtain ⟨g2, hg2E⟩ : ∃ g, w.heap.size + 1 + 1 = g := ⟨_, rfl⟩
  rw [hg2E] at PG2 ⊢
  clear hg2E
  obtain ⟨g1, hg1E⟩ : ∃ g, w.heap.size + 1 = g := ⟨_, rfl⟩
  rw [hg1E] at PG1 ⊢
  clear hg1E
  obtain ⟨g0, hg0E⟩ : ∃ g, w.heap.size = g := ⟨_, rfl⟩
  rw [hg0E] at PF ⊢
  clear hg0E
  generalize (((w.alloc (.cells #[.string nm, .int .i64 K, .int .i64 p, .int .i64 k, .int .i64 q, .slice ps ss.length cs, .int .i64 co, .slice pl ls.length cl] 26)).alloc (.cells #[.int .i64 r1, .int .i64 c1, .slice pg1 xs1.length cg1] 28)).alloc (.cells #[.int .i64 r2, .int .i64 c2, .slice pg2 xs2.length cg2] 28)) = w0 at *
  obtain ⟨a0, a1, a2, a3, a4, a5, a6, a7⟩ := PF.c8; have aL := PF.lt; obtain ⟨b10, b11, b12⟩ := PG1.c3; have b1L := PG1.lt; obtain ⟨b20, b21, b22⟩ := PG2.c3; have b2L := PG2.lt
  go_upto_region 3 with (go_at_call 7; go_loud ((with_reducible refine (hsz.out _).mono ?_); rintro e w1 ⟨⟨rr, rfl, hr⟩, hx1⟩; replace hr := Lib.hid hr; replace PF := PF.ext hx1; replace PG1 := PG1.ext hx1; replace PG2 := PG2.ext hx1; replace hxA := hxA.trans hx1; clear a0 a1 a2 a3 a4 a5 a6 a7 aL b10 b11 b12 b1L b20 b21 b22 b2L; obtain ⟨a0, a1, a2, a3, a4, a5, a6, a7⟩ := PF.c8; have aL := PF.lt; obtain ⟨b10, b11, b12⟩ := PG1.c3; have b1L := PG1.lt; obtain ⟨b20, b21, b22⟩ := PG2.c3; have b2L := PG2.lt))
  rcases hr.out with rfl | ⟨hr0, h1, h2, h3⟩
  · go_wp2
    go_ret
    exact ⟨rfl, hxA⟩
  clear hr
  have hr1 : ¬ rr < 0 := by omega
  have hsg1 := Lib.hid (fun W => szGridL_c r1 c1 pg1 cg1 xs1.length (rr) W (by omega) (by omega))
  by_cases h41 : ¬ (xs1.length : Int) ≤ rr
  · rw [if_neg h41] at hsg1
    go_wp2_with (go_at_call 8; go_loud ((with_reducible refine (hsg1.out _).mono ?_); rintro e w11 ⟨rfl, hx11⟩))
    go_ret
    exact ⟨rfl, hxA.trans hx11⟩
  replace h41 := Classical.not_not.1 h41
  rw [if_pos h41] at hsg1
  have h51 : xs1.length ≤ 1048576 := by omega
  have h61 : ¬ rr - (xs1.length : Int) < 0 := by omega
  go_upto_region 6 with (go_at_call 8; go_loud ((with_reducible refine (hsg1.out _).mono ?_); rintro e w11 ⟨rfl, hx11⟩; replace PF := PF.ext hx11; replace PG1 := PG1.ext hx11; replace PG2 := PG2.ext hx11; replace hxA := hxA.trans hx11; clear a0 a1 a2 a3 a4 a5 a6 a7 aL b10 b11 b12 b1L b20 b21 b22 b2L; obtain ⟨a0, a1, a2, a3, a4, a5, a6, a7⟩ := PF.c8; have aL := PF.lt; obtain ⟨b10, b11, b12⟩ := PG1.c3; have b1L := PG1.lt; obtain ⟨b20, b21, b22⟩ := PG2.c3; have b2L := PG2.lt))
  have hsg2 := Lib.hid (fun W => szGridL_c r2 c2 pg2 cg2 xs2.length (rr - (xs1.length : Int)) W (by omega) (by omega))
  by_cases h42 : ¬ (xs2.length : Int) ≤ rr - (xs1.length : Int)
  · rw [if_neg h42] at hsg2
    go_wp2_with (go_at_call 8; go_loud ((with_reducible refine (hsg2.out _).mono ?_); rintro e w12 ⟨rfl, hx12⟩))
    go_ret
    exact ⟨rfl, hxA.trans hx12⟩
  replace h42 := Classical.not_not.1 h42
  rw [if_pos h42] at hsg2
  have h52 : xs2.length ≤ 1048576 := by omega
  have h62 : ¬ rr - (xs1.length : Int) - (xs2.length : Int) < 0 := by omega
  go_upto_region 9 with (go_at_call 8; go_loud ((with_reducible refine (hsg2.out _).mono ?_); rintro e w12 ⟨rfl, hx12⟩; replace PF := PF.ext hx12; replace PG1 := PG1.ext hx12; replace PG2 := PG2.ext hx12; replace hxA := hxA.trans hx12; clear a0 a1 a2 a3 a4 a5 a6 a7 aL b10 b11 b12 b1L b20 b21 b22 b2L; obtain ⟨a0, a1, a2, a3, a4, a5, a6, a7⟩ := PF.c8; have aL := PF.lt; obtain ⟨b10, b11, b12⟩ := PG1.c3; have b1L := PG1.lt; obtain ⟨b20, b21, b22⟩ := PG2.c3; have b2L := PG2.lt))
  have htf := Lib.hid (fun W (a : IntsAt W ps ss) (b : IntsAt W pl ls) => toFamilyO_c nm K p k q co ps pl cs cl ss ls W a b h2 h3)
  have htg1 := Lib.hid (fun W (a : IntsAt W pg1 xs1) => toGrid_c r1 c1 pg1 cg1 xs1 W a h51)
  have htg2 := Lib.hid (fun W (a : IntsAt W pg2 xs2) => toGrid_c r2 c2 pg2 cg2 xs2 W a h52)
  have hsp := Lib.hid (fun a b d1 d2 W (x1 : IntsAt W a ss) (x2 : IntsAt W b ls) (y1 : IntsAt W d1 xs1) (y2 : IntsAt W d2 xs2) => sDamaged_c nm K p k q co r1 c1 r2 c2 a b d1 d2 ss.length ls.length xs1.length xs2.length ss ls xs1 xs2 W x1 x2 y1 y2 h1 h2 h3 h51 h52 (Nat.le_refl _) (Nat.le_refl _))
  have him := Lib.hid (fun a b d1 d2 W (x1 : IntsAt W a ss) (x2 : IntsAt W b ls) (y1 : IntsAt W d1 xs1) (y2 : IntsAt W d2 xs2) (x4 : LaidE W) => iDamaged_c nm K p k q co r1 c1 r2 c2 a b d1 d2 ss.length ls.length xs1.length xs2.length ss ls xs1 xs2 W x1 x2 y1 y2 h1 h2 h3 h51 h52 (Nat.le_refl _) (Nat.le_refl _) x4)
  have hlX : (dmX nm K p k q ss co ls r1 c1 xs1 r2 c2 xs2).length ≤ 1681 := dmX_len
  have hlY : (dmY nm K p k q ss co ls r1 c1 xs1 r2 c2 xs2).length ≤ 1681 := dmY_len
  have hef := Lib.hid (fun a b d e W (x1 : IntsAt W a ss) (x2 : IntsAt W b ls) (x3 : IntsAt W d ss) (x4 : IntsAt W e ls) => eqFamily_c nm K p k q co a b d e ss.length ls.length ss.length ls.length ss ls W x1 x2 x3 x4 h2 h3)
  have heg1 := Lib.hid (fun a b W (x1 : IntsAt W a xs1) (x2 : IntsAt W b xs1) => eqGrid_c r1 c1 a b xs1.length xs1.length xs1 W x1 x2 h51)
  have heg2 := Lib.hid (fun a b W (x1 : IntsAt W a xs2) (x2 : IntsAt W b xs2) => eqGrid_c r2 c2 a b xs2.length xs2.length xs2 W x1 x2 h52)
  generalize dmX nm K p k q ss co ls r1 c1 xs1 r2 c2 xs2 = X at *
  generalize dmY nm K p k q ss co ls r1 c1 xs1 r2 c2 xs2 = Y at *
  generalize dmC nm K p k q ss co ls r1 c1 xs1 r2 c2 xs2 = cd at *
  have heX := Lib.hid (eqInts_x (L := X) (by omega)); have heY := Lib.hid (eqInts_x (L := Y) (by omega))
  have hmX := Lib.hid (fun B W p c k0 (h : OwnInts B W p X) (hk : 0 ≤ k0 ∧ k0 ≤ 4611686018427387904) => mark_c B p c k0 X W h (by omega) hk)
  have hmY := Lib.hid (fun B W p c k0 (h : OwnInts B W p Y) (hk : 0 ≤ k0 ∧ k0 ≤ 4611686018427387904) => mark_c B p c k0 Y W h (by omega) hk)
  obtain ⟨nX, hnX⟩ : ∃ n, X.length = n := ⟨_, rfl⟩
  unfold StR at hsp him
  rw [hnX] at hlX heX hmX hsp him
  replace hnX := Lib.hid hnX
  have hhX := Lib.hid (fun W p c k0 (h : IntsAt W p (marksL k0 nX)) (hk : 0 ≤ k0 ∧ k0 ≤ 4611686018427387904) => heldInt64S_c p c k0 nX W h (by omega) hk)
  obtain ⟨nY, hnY⟩ : ∃ n, Y.length = n := ⟨_, rfl⟩
  skip
  rw [hnY] at hlY heY hmY hsp him
  replace hnY := Lib.hid hnY
  have hhY := Lib.hid (fun W p c k0 (h : IntsAt W p (marksL k0 nY)) (hk : 0 ≤ k0 ∧ k0 ≤ 4611686018427387904) => heldInt64S_c p c k0 nY W h (by omega) hk)
  go_upto_region 11 with (fail)
  refine wp_region_canon (fun w' => Ext w12 w') [(0, true), (2, true), (4, true), (1, false), (3, false), (5, false), (6, false), (7, true), (8, true), (9, true), (10, true), (11, true), (12, true), (13, true)] (by kernel_rfl) (by kernel_rfl) (by decide) (by kernel_rfl) ?_ ?_
  · exact eX
  refine canon_intro fun ops eo => ?_
  have ho0 := canon_at eo 0 rfl
  have ho1 := canon_at eo 1 rfl
  have ho2 := canon_at eo 2 rfl
  have ho3 := canon_at eo 3 rfl
  have ho4 := canon_at eo 4 rfl
  have ho5 := canon_at eo 5 rfl
  have ho6 := canon_at eo 6 rfl
  have ho7 := canon_at eo 7 rfl
  have ho8 := canon_at eo 8 rfl
  have ho9 := canon_at eo 9 rfl
  have ho10 := canon_at eo 10 rfl
  have ho11 := canon_at eo 11 rfl
  have ho12 := canon_at eo 12 rfl
  have ho13 := canon_at eo 13 rfl
  clear eo
  all_goals (apply canon_st ho0 rfl; exact evE; simp only [ptN])
  all_goals clear ho0
  all_goals (apply canon_st ho2 rfl; exact evE; simp only [ptN])
  all_goals clear ho2
  all_goals (apply canon_st ho4 rfl; exact evE; simp only [ptN])
  all_goals clear ho4
  all_goals first | (refine canon_ef ho1 rfl (fun K hK => ?_); go_simp; ((go_at_call 10; (with_reducible refine (htf.out _ (HS.out.ext (hxA.trans eX)) (HV.out.ext (hxA.trans eX))).mono ?_); rintro e w2 ⟨⟨p2, l2, rfl, i2, j2, -⟩, hx2⟩; replace i2 := Lib.hid i2.ints; replace j2 := Lib.hid j2.ints)); all_goals (refine hK _ _ ⟨(by first | assumption | exact eX), ?_⟩; clear hK K; go_simp))
  all_goals clear ho1
  all_goals first | (refine canon_ef ho3 rfl (fun K hK => ?_); go_simp; ((go_at_call 11; (with_reducible refine (htg1.out _ (HX1.out.ext (hxA.trans eX))).mono ?_); rintro e w31 ⟨⟨q31, rfl, o31⟩, hx31⟩; replace o31 := Lib.hid o31.ints)); all_goals (refine hK _ _ ⟨(by first | assumption | exact eX), ?_⟩; clear hK K; go_simp))
  all_goals clear ho3
  all_goals first | (refine canon_ef ho5 rfl (fun K hK => ?_); go_simp; ((go_at_call 11; (with_reducible refine (htg2.out _ (HX2.out.ext (hxA.trans eX))).mono ?_); rintro e w32 ⟨⟨q32, rfl, o32⟩, hx32⟩; replace o32 := Lib.hid o32.ints)); all_goals (refine hK _ _ ⟨(by first | assumption | exact eX), ?_⟩; clear hK K; go_simp))
  all_goals clear ho5
  all_goals first | (refine canon_ef ho6 rfl (fun K hK => ?_); go_simp; ((go_at_call 18; (with_reducible refine (hsp.out _ _ _ _ _ (i2.out.ext eX) (j2.out.ext eX) (o31.out.ext eX) (o32.out.ext eX)).mono ?_); rintro e w4 ⟨⟨pA, cA, pB, cB, rfl, SA, SB, -⟩, hx4⟩; replace SA := Lib.hid SA.ints; replace SB := Lib.hid SB.ints)); all_goals (refine hK _ _ ⟨(by first | assumption | exact eX), ?_⟩; clear hK K; go_simp))
  all_goals clear ho6
  all_goals (apply canon_st ho7 rfl; exact evE; simp only [ptN])
  all_goals clear ho7
  all_goals (apply canon_st ho8 rfl; exact evE; simp only [ptN])
  all_goals clear ho8
  all_goals (apply canon_st ho9 rfl; exact evE; simp only [ptN])
  all_goals clear ho9
  all_goals (apply canon_st ho10 rfl; exact evE; simp only [ptN])
  all_goals clear ho10
  all_goals (apply canon_st ho11 rfl; exact evE; simp only [ptN])
  all_goals clear ho11
  all_goals (apply canon_st ho12 rfl; exact evE; simp only [ptN])
  all_goals clear ho12
  all_goals (apply canon_st ho13 rfl; exact evE; simp only [ptN])
  all_goals clear ho13
  all_goals refine canon_done (NoPanic.normal ?_)
  have hxe : Ext w12 w4 := eX
  replace PF := PF.ext hxe; replace PG1 := PG1.ext hxe; replace PG2 := PG2.ext hxe; replace hxA := hxA.trans hxe; clear a0 a1 a2 a3 a4 a5 a6 a7 aL b10 b11 b12 b1L b20 b21 b22 b2L; obtain ⟨a0, a1, a2, a3, a4, a5, a6, a7⟩ := PF.c8; have aL := PF.lt; obtain ⟨b10, b11, b12⟩ := PG1.c3; have b1L := PG1.lt; obtain ⟨b20, b21, b22⟩ := PG2.c3; have b2L := PG2.lt
  clear i2 j2 o31 o32 hsp
  go_upto_region 13 with (go_at_call 10; go_loud ((with_reducible refine (htf.out _ (HS.out.ext hxA) (HV.out.ext hxA)).mono ?_); rintro e w6 ⟨⟨p6, l6, rfl, i6, j6, hap6⟩, hx6⟩))
  have hgX := Blk.new w6 #[.string nm, .int .i64 K, .int .i64 p, .int .i64 k, .int .i64 q, .slice p6 ss.length ss.length, .int .i64 co, .slice l6 ls.length ls.length] 35
  have HB7 := hx6.alloc (.cells #[.string nm, .int .i64 K, .int .i64 p, .int .i64 k, .int .i64 q, .slice p6 ss.length ss.length, .int .i64 co, .slice l6 ls.length ls.length] 35)
  have i7 := i6.ext ((Ext.refl w6).alloc (.cells #[.string nm, .int .i64 K, .int .i64 p, .int .i64 k, .int .i64 q, .slice p6 ss.length ss.length, .int .i64 co, .slice l6 ls.length ls.length] 35))
  have j7 := j6.ext ((Ext.refl w6).alloc (.cells #[.string nm, .int .i64 K, .int .i64 p, .int .i64 k, .int .i64 q, .slice p6 ss.length ss.length, .int .i64 co, .slice l6 ls.length ls.length] 35))
  have hfS : ∀ j, w6.heap.size ≤ j → Far p6 ss j := fun j hj b o hn e => by have := (i6.lt0 hn e).2; omega
  have hfL : ∀ j, w6.heap.size ≤ j → Far l6 ls j := fun j hj b o hn e => by have := (j6.lt0 hn e).2; omega
  have hz7 : (w6.alloc (.cells #[.string nm, .int .i64 K, .int .i64 p, .int .i64 k, .int .i64 q, .slice p6 ss.length ss.length, .int .i64 co, .slice l6 ls.length ls.length] 35)).heap.size = w6.heap.size + 1 := by rw [World.size_alloc]
  generalize w6.alloc (.cells #[.string nm, .int .i64 K, .int .i64 p, .int .i64 k, .int .i64 q, .slice p6 ss.length ss.length, .int .i64 co, .slice l6 ls.length ls.length] 35) = w7 at *
  generalize w6.heap.size = gX at *
  replace hfS := Lib.hid hfS; replace hfL := Lib.hid hfL; replace hap6 := Lib.hid hap6; replace i7 := Lib.hid i7; replace j7 := Lib.hid j7
  clear i6 j6 hx6
  have hxC := hxA; have PFC := PF; have PG1C := PG1; have PG2C := PG2
  replace PF := PF.ext HB7; replace PG1 := PG1.ext HB7; replace PG2 := PG2.ext HB7; replace hxA := hxA.trans HB7; clear a0 a1 a2 a3 a4 a5 a6 a7 aL b10 b11 b12 b1L b20 b21 b22 b2L; obtain ⟨a0, a1, a2, a3, a4, a5, a6, a7⟩ := PF.c8; have aL := PF.lt; obtain ⟨b10, b11, b12⟩ := PG1.c3; have b1L := PG1.lt; obtain ⟨b20, b21, b22⟩ := PG2.c3; have b2L := PG2.lt
  go_upto_region 14 with (go_at_call 11; go_loud ((with_reducible refine (htg1.out _ (HX1.out.ext hxA)).mono ?_); rintro e w81 ⟨⟨q81, rfl, o81⟩, hx81⟩))
  have hgY1 := Blk.new w81 #[.int .i64 r1, .int .i64 c1, .slice q81 xs1.length xs1.length] 37
  have hx91 := hx81.alloc (.cells #[.int .i64 r1, .int .i64 c1, .slice q81 xs1.length xs1.length] 37)
  have o91 := o81.ext ((Ext.refl w81).alloc (.cells #[.int .i64 r1, .int .i64 c1, .slice q81 xs1.length xs1.length] 37))
  have hfG1 : ∀ j, (j < w7.heap.size ∨ w81.heap.size ≤ j) → Far q81 xs1 j := fun j hj b o hn e => by have := o81.lt0 hn e; omega
  have hz91 : (w81.alloc (.cells #[.int .i64 r1, .int .i64 c1, .slice q81 xs1.length xs1.length] 37)).heap.size = w81.heap.size + 1 := by rw [World.size_alloc]
  have hy91 := hx81.below.size
  generalize w81.alloc (.cells #[.int .i64 r1, .int .i64 c1, .slice q81 xs1.length xs1.length] 37) = w91 at *
  generalize w81.heap.size = gY1 at *
  replace hfG1 := Lib.hid hfG1; replace o91 := Lib.hid o91
  clear o81 hx81
  have HB91 := HB7.trans hx91
  replace hgX := hgX.ext hx91; replace i7 := Lib.hid (i7.out.ext hx91); replace j7 := Lib.hid (j7.out.ext hx91)
  replace PF := PF.ext hx91; replace PG1 := PG1.ext hx91; replace PG2 := PG2.ext hx91; replace hxA := hxA.trans hx91; clear a0 a1 a2 a3 a4 a5 a6 a7 aL b10 b11 b12 b1L b20 b21 b22 b2L; obtain ⟨a0, a1, a2, a3, a4, a5, a6, a7⟩ := PF.c8; have aL := PF.lt; obtain ⟨b10, b11, b12⟩ := PG1.c3; have b1L := PG1.lt; obtain ⟨b20, b21, b22⟩ := PG2.c3; have b2L := PG2.lt
  go_upto_region 15 with (go_at_call 11; go_loud ((with_reducible refine (htg2.out _ (HX2.out.ext hxA)).mono ?_); rintro e w82 ⟨⟨q82, rfl, o82⟩, hx82⟩))
  have hgY2 := Blk.new w82 #[.int .i64 r2, .int .i64 c2, .slice q82 xs2.length xs2.length] 37
  have hx92 := hx82.alloc (.cells #[.int .i64 r2, .int .i64 c2, .slice q82 xs2.length xs2.length] 37)
  have o92 := o82.ext ((Ext.refl w82).alloc (.cells #[.int .i64 r2, .int .i64 c2, .slice q82 xs2.length xs2.length] 37))
  have hfG2 : ∀ j, (j < w91.heap.size ∨ w82.heap.size ≤ j) → Far q82 xs2 j := fun j hj b o hn e => by have := o82.lt0 hn e; omega
  have hz92 : (w82.alloc (.cells #[.int .i64 r2, .int .i64 c2, .slice q82 xs2.length xs2.length] 37)).heap.size = w82.heap.size + 1 := by rw [World.size_alloc]
  have hy92 := hx82.below.size
  generalize w82.alloc (.cells #[.int .i64 r2, .int .i64 c2, .slice q82 xs2.length xs2.length] 37) = w92 at *
  generalize w82.heap.size = gY2 at *
  replace hfG2 := Lib.hid hfG2; replace o92 := Lib.hid o92
  clear o82 hx82
  have HB92 := HB91.trans hx92
  replace hgX := hgX.ext hx92; replace i7 := Lib.hid (i7.out.ext hx92); replace j7 := Lib.hid (j7.out.ext hx92)
  replace hgY1 := hgY1.ext hx92; replace o91 := Lib.hid (o91.out.ext hx92)
  replace PF := PF.ext hx92; replace PG1 := PG1.ext hx92; replace PG2 := PG2.ext hx92; replace hxA := hxA.trans hx92; clear a0 a1 a2 a3 a4 a5 a6 a7 aL b10 b11 b12 b1L b20 b21 b22 b2L; obtain ⟨a0, a1, a2, a3, a4, a5, a6, a7⟩ := PF.c8; have aL := PF.lt; obtain ⟨b10, b11, b12⟩ := PG1.c3; have b1L := PG1.lt; obtain ⟨b20, b21, b22⟩ := PG2.c3; have b2L := PG2.lt
  obtain ⟨x0, x1, x2, x3, x4, x5, x6, x7⟩ := hgX.c8; have xL := hgX.lt; obtain ⟨y10, y11, y12⟩ := hgY1.c3; have y1L := hgY1.lt; obtain ⟨y20, y21, y22⟩ := hgY2.c3; have y2L := hgY2.lt
  go_upto_region 16 with (go_at_call 17; go_loud ((with_reducible refine (him.out _ _ _ _ _ i7.out.ints j7.out.ints o91.out.ints o92.out.ints (hL.out.ext hxA)).mono ?_); rintro e w10 ⟨⟨p4, c4, p5, c5, rfl, o4, o5, hap4⟩, hx10⟩))
  have hfX : ∀ b o, X ≠ [] → p4 = some ⟨b, o, none⟩ → w92.heap.size ≤ b ∧ b < w10.heap.size := fun b o hn e => o4.lt0 hn e
  have hfY : ∀ b o, Y ≠ [] → p5 = some ⟨b, o, none⟩ → w92.heap.size ≤ b ∧ b < w10.heap.size := fun b o hn e => o5.lt0 hn e
  replace hfX := Lib.hid hfX; replace hfY := Lib.hid hfY; replace hap4 := Lib.hid hap4; replace o4 := Lib.hid o4; replace o5 := Lib.hid o5
  have HB10 := HB92.trans hx10
  replace hgX := hgX.ext hx10; replace i7 := Lib.hid (i7.out.ext hx10); replace j7 := Lib.hid (j7.out.ext hx10); replace hgY1 := hgY1.ext hx10; replace o91 := Lib.hid (o91.out.ext hx10); replace hgY2 := hgY2.ext hx10; replace o92 := Lib.hid (o92.out.ext hx10); clear x0 x1 x2 x3 x4 x5 x6 x7 xL y10 y11 y12 y1L y20 y21 y22 y2L; obtain ⟨x0, x1, x2, x3, x4, x5, x6, x7⟩ := hgX.c8; have xL := hgX.lt; obtain ⟨y10, y11, y12⟩ := hgY1.c3; have y1L := hgY1.lt; obtain ⟨y20, y21, y22⟩ := hgY2.c3; have y2L := hgY2.lt; replace PF := PF.ext hx10; replace PG1 := PG1.ext hx10; replace PG2 := PG2.ext hx10; replace hxA := hxA.trans hx10; clear a0 a1 a2 a3 a4 a5 a6 a7 aL b10 b11 b12 b1L b20 b21 b22 b2L; obtain ⟨a0, a1, a2, a3, a4, a5, a6, a7⟩ := PF.c8; have aL := PF.lt; obtain ⟨b10, b11, b12⟩ := PG1.c3; have b1L := PG1.lt; obtain ⟨b20, b21, b22⟩ := PG2.c3; have b2L := PG2.lt
  go_upto_region 18 with (first | (go_at_call 23; go_loud ((with_reducible refine (heX.out _ _ _ _ _ o4.out.ints (SA.out.ext HB10)).mono ?_); rintro e w11a ⟨rfl, hx11a⟩)) | (go_at_call 23; go_loud ((with_reducible refine (heY.out _ _ _ _ _ (o5.out.ints.ext hx11a) (SB.out.ext (HB10.trans hx11a))).mono ?_); rintro e w11b ⟨rfl, hx11b⟩)))
  have hx11 := hx11a.trans hx11b
  have HB11 := HB10.trans hx11
  replace hgX := hgX.ext hx11; replace i7 := Lib.hid (i7.out.ext hx11); replace j7 := Lib.hid (j7.out.ext hx11); replace hgY1 := hgY1.ext hx11; replace o91 := Lib.hid (o91.out.ext hx11); replace hgY2 := hgY2.ext hx11; replace o92 := Lib.hid (o92.out.ext hx11); replace o4 := Lib.hid (o4.out.ext hx11); replace o5 := Lib.hid (o5.out.ext hx11); clear x0 x1 x2 x3 x4 x5 x6 x7 xL y10 y11 y12 y1L y20 y21 y22 y2L; obtain ⟨x0, x1, x2, x3, x4, x5, x6, x7⟩ := hgX.c8; have xL := hgX.lt; obtain ⟨y10, y11, y12⟩ := hgY1.c3; have y1L := hgY1.lt; obtain ⟨y20, y21, y22⟩ := hgY2.c3; have y2L := hgY2.lt; replace PF := PF.ext hx11; replace PG1 := PG1.ext hx11; replace PG2 := PG2.ext hx11; replace hxA := hxA.trans hx11; clear a0 a1 a2 a3 a4 a5 a6 a7 aL b10 b11 b12 b1L b20 b21 b22 b2L; obtain ⟨a0, a1, a2, a3, a4, a5, a6, a7⟩ := PF.c8; have aL := PF.lt; obtain ⟨b10, b11, b12⟩ := PG1.c3; have b1L := PG1.lt; obtain ⟨b20, b21, b22⟩ := PG2.c3; have b2L := PG2.lt
  clear hx11a hx11b hx11
  refine wp_region_canon (fun w' => Ext w11b w') [(0, true), (1, true), (2, false), (3, false), (4, true)] (by kernel_rfl) (by kernel_rfl) (by decide) (by kernel_rfl) ?_ ?_
  · exact eX
  refine canon_intro fun ops eo => ?_
  have ho0 := canon_at eo 0 rfl
  have ho1 := canon_at eo 1 rfl
  have ho2 := canon_at eo 2 rfl
  have ho3 := canon_at eo 3 rfl
  have ho4 := canon_at eo 4 rfl
  clear eo
  all_goals (apply canon_st ho0 rfl; exact evE; simp only [ptN])
  all_goals clear ho0
  all_goals (apply canon_st ho1 rfl; exact evE; simp only [ptN])
  all_goals clear ho1
  all_goals first | (refine canon_ef ho2 rfl (fun K hK => ?_); go_simp; ((go_at_call 10; (with_reducible refine (htf.out _ (HS.out.ext (hxA.trans eX)) (HV.out.ext (hxA.trans eX))).mono ?_); rintro e w12 ⟨⟨p12, l12, rfl, i12, j12, -⟩, hx12⟩)); all_goals (refine hK _ _ ⟨(by first | assumption | exact eX), ?_⟩; clear hK K; go_simp)) | (refine canon_ef ho2 rfl (fun K hK => ?_); go_simp; ((go_at_call 13; (with_reducible refine (hef.out _ _ _ _ _ (i7.out.ints.ext eX) (j7.out.ints.ext eX) i12.ints j12.ints).mono ?_); rintro e w13 ⟨rfl, hx13⟩)); all_goals (refine hK _ _ ⟨(by first | assumption | exact eX), ?_⟩; clear hK K; go_simp))
  all_goals clear ho2
  all_goals first | (refine canon_ef ho3 rfl (fun K hK => ?_); go_simp; ((go_at_call 10; (with_reducible refine (htf.out _ (HS.out.ext (hxA.trans eX)) (HV.out.ext (hxA.trans eX))).mono ?_); rintro e w12 ⟨⟨p12, l12, rfl, i12, j12, -⟩, hx12⟩)); all_goals (refine hK _ _ ⟨(by first | assumption | exact eX), ?_⟩; clear hK K; go_simp)) | (refine canon_ef ho3 rfl (fun K hK => ?_); go_simp; ((go_at_call 13; (with_reducible refine (hef.out _ _ _ _ _ (i7.out.ints.ext eX) (j7.out.ints.ext eX) i12.ints j12.ints).mono ?_); rintro e w13 ⟨rfl, hx13⟩)); all_goals (refine hK _ _ ⟨(by first | assumption | exact eX), ?_⟩; clear hK K; go_simp))
  all_goals clear ho3
  all_goals (apply canon_st ho4 rfl; exact evE; simp only [ptN])
  all_goals clear ho4
  all_goals refine canon_done (NoPanic.normal ?_)
  have hx14 : Ext w11b w13 := eX
  clear i12 j12 hx12 hx13
  have HB14 := HB11.trans hx14
  replace hgX := hgX.ext hx14; replace i7 := Lib.hid (i7.out.ext hx14); replace j7 := Lib.hid (j7.out.ext hx14); replace hgY1 := hgY1.ext hx14; replace o91 := Lib.hid (o91.out.ext hx14); replace hgY2 := hgY2.ext hx14; replace o92 := Lib.hid (o92.out.ext hx14); replace o4 := Lib.hid (o4.out.ext hx14); replace o5 := Lib.hid (o5.out.ext hx14); clear x0 x1 x2 x3 x4 x5 x6 x7 xL y10 y11 y12 y1L y20 y21 y22 y2L; obtain ⟨x0, x1, x2, x3, x4, x5, x6, x7⟩ := hgX.c8; have xL := hgX.lt; obtain ⟨y10, y11, y12⟩ := hgY1.c3; have y1L := hgY1.lt; obtain ⟨y20, y21, y22⟩ := hgY2.c3; have y2L := hgY2.lt; replace PF := PF.ext hx14; replace PG1 := PG1.ext hx14; replace PG2 := PG2.ext hx14; replace hxA := hxA.trans hx14; clear a0 a1 a2 a3 a4 a5 a6 a7 aL b10 b11 b12 b1L b20 b21 b22 b2L; obtain ⟨a0, a1, a2, a3, a4, a5, a6, a7⟩ := PF.c8; have aL := PF.lt; obtain ⟨b10, b11, b12⟩ := PG1.c3; have b1L := PG1.lt; obtain ⟨b20, b21, b22⟩ := PG2.c3; have b2L := PG2.lt
  go_upto_region 20 with (fail)
  refine wp_region_canon (fun w' => Ext w13 w') [(0, true), (1, true), (2, false), (3, false), (4, true)] (by kernel_rfl) (by kernel_rfl) (by decide) (by kernel_rfl) ?_ ?_
  · exact eX
  refine canon_intro fun ops eo => ?_
  have ho0 := canon_at eo 0 rfl
  have ho1 := canon_at eo 1 rfl
  have ho2 := canon_at eo 2 rfl
  have ho3 := canon_at eo 3 rfl
  have ho4 := canon_at eo 4 rfl
  clear eo
  all_goals (apply canon_st ho0 rfl; exact evE; simp only [ptN])
  all_goals clear ho0
  all_goals (apply canon_st ho1 rfl; exact evE; simp only [ptN])
  all_goals clear ho1
  all_goals first | (refine canon_ef ho2 rfl (fun K hK => ?_); go_simp; ((go_at_call 11; (with_reducible refine (htg1.out _ (HX1.out.ext (hxA.trans eX))).mono ?_); rintro e w151 ⟨⟨q151, rfl, o151⟩, hx151⟩)); all_goals (refine hK _ _ ⟨(by first | assumption | exact eX), ?_⟩; clear hK K; go_simp)) | (refine canon_ef ho2 rfl (fun K hK => ?_); go_simp; ((go_at_call 14; (with_reducible refine (heg1.out _ _ _ (o91.out.ints.ext eX) o151.ints).mono ?_); rintro e w161 ⟨rfl, hx161⟩)); all_goals (refine hK _ _ ⟨(by first | assumption | exact eX), ?_⟩; clear hK K; go_simp))
  all_goals clear ho2
  all_goals first | (refine canon_ef ho3 rfl (fun K hK => ?_); go_simp; ((go_at_call 11; (with_reducible refine (htg1.out _ (HX1.out.ext (hxA.trans eX))).mono ?_); rintro e w151 ⟨⟨q151, rfl, o151⟩, hx151⟩)); all_goals (refine hK _ _ ⟨(by first | assumption | exact eX), ?_⟩; clear hK K; go_simp)) | (refine canon_ef ho3 rfl (fun K hK => ?_); go_simp; ((go_at_call 14; (with_reducible refine (heg1.out _ _ _ (o91.out.ints.ext eX) o151.ints).mono ?_); rintro e w161 ⟨rfl, hx161⟩)); all_goals (refine hK _ _ ⟨(by first | assumption | exact eX), ?_⟩; clear hK K; go_simp))
  all_goals clear ho3
  all_goals (apply canon_st ho4 rfl; exact evE; simp only [ptN])
  all_goals clear ho4
  all_goals refine canon_done (NoPanic.normal ?_)
  have hx171 : Ext w13 w161 := eX
  clear o151 hx151 hx161
  have HB171 := HB14.trans hx171
  replace hgX := hgX.ext hx171; replace i7 := Lib.hid (i7.out.ext hx171); replace j7 := Lib.hid (j7.out.ext hx171); replace hgY1 := hgY1.ext hx171; replace o91 := Lib.hid (o91.out.ext hx171); replace hgY2 := hgY2.ext hx171; replace o92 := Lib.hid (o92.out.ext hx171); replace o4 := Lib.hid (o4.out.ext hx171); replace o5 := Lib.hid (o5.out.ext hx171); clear x0 x1 x2 x3 x4 x5 x6 x7 xL y10 y11 y12 y1L y20 y21 y22 y2L; obtain ⟨x0, x1, x2, x3, x4, x5, x6, x7⟩ := hgX.c8; have xL := hgX.lt; obtain ⟨y10, y11, y12⟩ := hgY1.c3; have y1L := hgY1.lt; obtain ⟨y20, y21, y22⟩ := hgY2.c3; have y2L := hgY2.lt; replace PF := PF.ext hx171; replace PG1 := PG1.ext hx171; replace PG2 := PG2.ext hx171; replace hxA := hxA.trans hx171; clear a0 a1 a2 a3 a4 a5 a6 a7 aL b10 b11 b12 b1L b20 b21 b22 b2L; obtain ⟨a0, a1, a2, a3, a4, a5, a6, a7⟩ := PF.c8; have aL := PF.lt; obtain ⟨b10, b11, b12⟩ := PG1.c3; have b1L := PG1.lt; obtain ⟨b20, b21, b22⟩ := PG2.c3; have b2L := PG2.lt
  go_upto_region 22 with (fail)
  refine wp_region_canon (fun w' => Ext w161 w') [(0, true), (1, true), (2, false), (3, false), (4, true)] (by kernel_rfl) (by kernel_rfl) (by decide) (by kernel_rfl) ?_ ?_
  · exact eX
  refine canon_intro fun ops eo => ?_
  have ho0 := canon_at eo 0 rfl
  have ho1 := canon_at eo 1 rfl
  have ho2 := canon_at eo 2 rfl
  have ho3 := canon_at eo 3 rfl
  have ho4 := canon_at eo 4 rfl
  clear eo
  all_goals (apply canon_st ho0 rfl; exact evE; simp only [ptN])
  all_goals clear ho0
  all_goals (apply canon_st ho1 rfl; exact evE; simp only [ptN])
  all_goals clear ho1
  all_goals first | (refine canon_ef ho2 rfl (fun K hK => ?_); go_simp; ((go_at_call 11; (with_reducible refine (htg2.out _ (HX2.out.ext (hxA.trans eX))).mono ?_); rintro e w152 ⟨⟨q152, rfl, o152⟩, hx152⟩)); all_goals (refine hK _ _ ⟨(by first | assumption | exact eX), ?_⟩; clear hK K; go_simp)) | (refine canon_ef ho2 rfl (fun K hK => ?_); go_simp; ((go_at_call 14; (with_reducible refine (heg2.out _ _ _ (o92.out.ints.ext eX) o152.ints).mono ?_); rintro e w162 ⟨rfl, hx162⟩)); all_goals (refine hK _ _ ⟨(by first | assumption | exact eX), ?_⟩; clear hK K; go_simp))
  all_goals clear ho2
  all_goals first | (refine canon_ef ho3 rfl (fun K hK => ?_); go_simp; ((go_at_call 11; (with_reducible refine (htg2.out _ (HX2.out.ext (hxA.trans eX))).mono ?_); rintro e w152 ⟨⟨q152, rfl, o152⟩, hx152⟩)); all_goals (refine hK _ _ ⟨(by first | assumption | exact eX), ?_⟩; clear hK K; go_simp)) | (refine canon_ef ho3 rfl (fun K hK => ?_); go_simp; ((go_at_call 14; (with_reducible refine (heg2.out _ _ _ (o92.out.ints.ext eX) o152.ints).mono ?_); rintro e w162 ⟨rfl, hx162⟩)); all_goals (refine hK _ _ ⟨(by first | assumption | exact eX), ?_⟩; clear hK K; go_simp))
  all_goals clear ho3
  all_goals (apply canon_st ho4 rfl; exact evE; simp only [ptN])
  all_goals clear ho4
  all_goals refine canon_done (NoPanic.normal ?_)
  have hx172 : Ext w161 w162 := eX
  clear o152 hx152 hx162
  have HB172 := HB171.trans hx172
  replace hgX := hgX.ext hx172; replace i7 := Lib.hid (i7.out.ext hx172); replace j7 := Lib.hid (j7.out.ext hx172); replace hgY1 := hgY1.ext hx172; replace o91 := Lib.hid (o91.out.ext hx172); replace hgY2 := hgY2.ext hx172; replace o92 := Lib.hid (o92.out.ext hx172); replace o4 := Lib.hid (o4.out.ext hx172); replace o5 := Lib.hid (o5.out.ext hx172); clear x0 x1 x2 x3 x4 x5 x6 x7 xL y10 y11 y12 y1L y20 y21 y22 y2L; obtain ⟨x0, x1, x2, x3, x4, x5, x6, x7⟩ := hgX.c8; have xL := hgX.lt; obtain ⟨y10, y11, y12⟩ := hgY1.c3; have y1L := hgY1.lt; obtain ⟨y20, y21, y22⟩ := hgY2.c3; have y2L := hgY2.lt; replace PF := PF.ext hx172; replace PG1 := PG1.ext hx172; replace PG2 := PG2.ext hx172; replace hxA := hxA.trans hx172; clear a0 a1 a2 a3 a4 a5 a6 a7 aL b10 b11 b12 b1L b20 b21 b22 b2L; obtain ⟨a0, a1, a2, a3, a4, a5, a6, a7⟩ := PF.c8; have aL := PF.lt; obtain ⟨b10, b11, b12⟩ := PG1.c3; have b1L := PG1.lt; obtain ⟨b20, b21, b22⟩ := PG2.c3; have b2L := PG2.lt
  have hzc := HB172.below.size
  have hzT := HB7.below.size
  go_upto_region 26 with (go_at_call 24; go_loud ((with_reducible refine (markFamily_c w4.heap.size nm K p k q co p6 l6 ss.length ls.length ss ls _ i7.out j7.out hap6.out h2 h3 hzc).mono ?_); rintro e w20 ⟨rfl, hb20, hk20⟩))
  have HB20 : Ext w4 w20 := HB172.low hb20 (Nat.le_refl _)
  have HA20 : Ext w w20 := hxC.trans HB20
  have hgY120 : Blk w20 gY1 #[.int .i64 r1, .int .i64 c1, .slice q81 xs1.length xs1.length] 37 := (hk20 gY1 hgY1.lt (hfS.out _ (by omega)) (hfL.out _ (by omega))).trans hgY1
  have o9120 := Lib.hid (o91.out.far hb20 (fun b o hn e => by have h := (o91.out.lt0 hn e).2; have h8 : w7.heap.size ≤ b := Nat.le_of_not_lt (fun hlt => hfG1.out b (.inl hlt) b o hn e rfl); exact hk20 b h (hfS.out _ (by omega)) (hfL.out _ (by omega))))
  have hgY220 : Blk w20 gY2 #[.int .i64 r2, .int .i64 c2, .slice q82 xs2.length xs2.length] 37 := (hk20 gY2 hgY2.lt (hfS.out _ (by omega)) (hfL.out _ (by omega))).trans hgY2
  have o9220 := Lib.hid (o92.out.far hb20 (fun b o hn e => by have h := (o92.out.lt0 hn e).2; have h8 : w91.heap.size ≤ b := Nat.le_of_not_lt (fun hlt => hfG2.out b (.inl hlt) b o hn e rfl); exact hk20 b h (hfS.out _ (by omega)) (hfL.out _ (by omega))))
  have o420 := Lib.hid (o4.out.far hb20 (fun b o hn e => by have h := (o4.out.lt0 hn e).2; have h8 := (hfX.out b o hn e).1; exact hk20 b h (hfS.out _ (by omega)) (hfL.out _ (by omega))))
  have o520 := Lib.hid (o5.out.far hb20 (fun b o hn e => by have h := (o5.out.lt0 hn e).2; have h8 := (hfY.out b o hn e).1; exact hk20 b h (hfS.out _ (by omega)) (hfL.out _ (by omega))))
  replace hk20 := trivial
  clear x0 x1 x2 x3 x4 x5 x6 x7 xL y10 y11 y12 y1L y20 y21 y22 y2L
  clear a0 a1 a2 a3 a4 a5 a6 a7 aL b10 b11 b12 b1L b20 b21 b22 b2L
  clear hgX i7 j7 hgY1 o91 hgY2 o92 o4 o5
  obtain ⟨y10, y11, y12⟩ := hgY120.c3; have y1L := hgY120.lt
  have hz21 := HB20.below.size
  go_upto_region 27 with (go_at_call 25; go_loud ((with_reducible refine (markGrid_ck w4.heap.size r1 c1 (1 + (ss.length : Int) + (ls.length : Int)) q81 xs1.length xs1 _ (o9120.out.mono hzT) h51 hz21 (by omega)).mono ?_); rintro e w21 ⟨rfl, hb21, hk21⟩))
  have HB21 : Ext w4 w21 := HB20.low hb21 (Nat.le_refl _)
  clear y10 y11 y12 y1L
  have hgY221 : Blk w21 gY2 #[.int .i64 r2, .int .i64 c2, .slice q82 xs2.length xs2.length] 37 := (hk21 gY2 hgY220.lt (hfG1.out _ (.inr (by omega)))).trans hgY220
  have o9221 := Lib.hid (o9220.out.far hb21 (fun b o hn e => by have h := (o9220.out.lt0 hn e).2; have h8 : w91.heap.size ≤ b := Nat.le_of_not_lt (fun hlt => hfG2.out b (.inl hlt) b o hn e rfl); exact hk21 b h (hfG1.out _ (.inr (by omega)))))
  have o421 := Lib.hid (o420.out.far hb21 (fun b o hn e => by have h := (o420.out.lt0 hn e).2; have h8 := (hfX.out b o hn e).1; exact hk21 b h (hfG1.out _ (.inr (by omega)))))
  have o521 := Lib.hid (o520.out.far hb21 (fun b o hn e => by have h := (o520.out.lt0 hn e).2; have h8 := (hfY.out b o hn e).1; exact hk21 b h (hfG1.out _ (.inr (by omega)))))
  obtain ⟨y20, y21, y22⟩ := hgY221.c3; have y2L := hgY221.lt
  have hz22 := HB21.below.size
  go_upto_region 28 with (go_at_call 25; go_loud ((with_reducible refine (markGrid_ck w4.heap.size r2 c2 (1 + (ss.length : Int) + (ls.length : Int) + (xs1.length : Int)) q82 xs2.length xs2 _ (o9221.out.mono HB91.below.size) h52 hz22 (by omega)).mono ?_); rintro e w22 ⟨rfl, hb22, hk22⟩))
  have HB22 : Ext w4 w22 := HB21.low hb22 (Nat.le_refl _)
  clear y20 y21 y22 y2L
  have o422 := Lib.hid (o421.out.far hb22 (fun b o hn e => by have h := (o421.out.lt0 hn e).2; have h8 := (hfX.out b o hn e).1; exact hk22 b h (hfG2.out _ (.inr (by omega)))))
  have o522 := Lib.hid (o521.out.far hb22 (fun b o hn e => by have h := (o521.out.lt0 hn e).2; have h8 := (hfY.out b o hn e).1; exact hk22 b h (hfG2.out _ (.inr (by omega)))))
  have hkn : ¬ 1 + (ss.length : Int) + (ls.length : Int) + (xs1.length : Int) + (xs2.length : Int) < 0 := by omega
  go_upto_region 31 with (first | (go_at_call 23; go_loud ((with_reducible refine (heX.out _ _ _ _ _ o422.out.ints (SA.out.ext HB22)).mono ?_); rintro e w30a ⟨rfl, hx30a⟩)) | (go_at_call 23; go_loud ((with_reducible refine (heY.out _ _ _ _ _ (o522.out.ints.ext hx30a) (SB.out.ext (HB22.trans hx30a))).mono ?_); rintro e w30b ⟨rfl, hx30b⟩)))
  have HB30 := HB22.trans (hx30a.trans hx30b)
  have o430 := Lib.hid (o422.out.ext (hx30a.trans hx30b)); have o530 := Lib.hid (o522.out.ext (hx30a.trans hx30b))
  go_upto_region 32 with (go_at_call 26; go_loud ((with_reducible refine (hmX.out w92.heap.size _ p4 c4 1 o430.out (by omega)).mono ?_); rintro e w31 ⟨rfl, o431, hb31, hk31⟩))
  have hzP : w4.heap.size ≤ w92.heap.size := HB92.below.size
  have HB31 : Ext w4 w31 := HB30.low hb31 hzP
  have o531 := Lib.hid (o530.out.far hb31 (fun b o hn e => hk31 b (o530.out.lt0 hn e).2 (fun b' o' hn' e' => hap4.out b' o' b o hn' hn e' e)))
  go_upto_region 33 with (go_at_call 26; go_loud ((with_reducible refine (hmY.out w92.heap.size _ p5 c5 (1 + (nX : Int)) o531.out (by omega)).mono ?_); rintro e w32 ⟨rfl, o532, hb32, hk32⟩))
  have HB32 : Ext w4 w32 := HB31.low hb32 hzP
  have hYX : ∀ b o, marksL 1 nX ≠ [] → p4 = some ⟨b, o, none⟩ → b < w31.heap.size → w32.heap[b]? = w31.heap[b]? := fun b o hn e hlt => hk32 b hlt (fun b' o' hn' e' e2 => hap4.out b o b' o' (fun h => by apply hn; have := hnX.out; rw [h] at this; subst this; rfl) hn' e e' e2.symm)
  have o432 := Lib.hid (o431.keep hb32.size hYX)
  have m4 := Lib.hid o432.out.ints; have m5 := Lib.hid o532.ints
  clear o432 o532 hYX hk32 hk31 o431 o531 o430 o530
  have hh1 : ¬ (1 : Int) + nX < 0 := by omega
  have hh2 : ¬ (1 : Int) + nX + nY < 0 := by omega
  have hxA2 := hxC.trans HB32
  replace PF := PFC.ext HB32
  replace PG1 := PG1C.ext HB32
  replace PG2 := PG2C.ext HB32
  obtain ⟨a0, a1, a2, a3, a4, a5, a6, a7⟩ := PF.c8; have aL := PF.lt; obtain ⟨b10, b11, b12⟩ := PG1.c3; have b1L := PG1.lt; obtain ⟨b20, b21, b22⟩ := PG2.c3; have b2L := PG2.lt
  go_upto_region 42 with (first | (go_at_call 27; go_loud ((with_reducible refine (hhX.out _ p4 c4 1 (m4.out.ext (Ext.refl _)) (by omega)).mono ?_); rintro e wh ⟨rfl, rfl⟩)) | (go_at_call 27; go_loud ((with_reducible refine (hhY.out _ p5 c5 (1 + (nX : Int)) (m5.out.ext (Ext.refl _)) (by omega)).mono ?_); rintro e wh ⟨rfl, rfl⟩)))
  refine wp_region_canon (fun w' => Ext w32 w') [(0, true), (2, true), (4, true), (1, false), (3, false), (5, false), (6, false), (7, true), (8, true), (9, true), (10, true), (11, true), (12, true), (13, true)] (by kernel_rfl) (by kernel_rfl) (by decide) (by kernel_rfl) ?_ ?_
  · exact eX
  refine canon_intro fun ops eo => ?_
  have ho0 := canon_at eo 0 rfl
  have ho1 := canon_at eo 1 rfl
  have ho2 := canon_at eo 2 rfl
  have ho3 := canon_at eo 3 rfl
  have ho4 := canon_at eo 4 rfl
  have ho5 := canon_at eo 5 rfl
  have ho6 := canon_at eo 6 rfl
  have ho7 := canon_at eo 7 rfl
  have ho8 := canon_at eo 8 rfl
  have ho9 := canon_at eo 9 rfl
  have ho10 := canon_at eo 10 rfl
  have ho11 := canon_at eo 11 rfl
  have ho12 := canon_at eo 12 rfl
  have ho13 := canon_at eo 13 rfl
  clear eo
  all_goals (apply canon_st ho0 rfl; exact evE; simp only [ptN])
  all_goals clear ho0
  all_goals (apply canon_st ho2 rfl; exact evE; simp only [ptN])
  all_goals clear ho2
  all_goals (apply canon_st ho4 rfl; exact evE; simp only [ptN])
  all_goals clear ho4
  all_goals first | (refine canon_ef ho1 rfl (fun K hK => ?_); go_simp; ((go_at_call 10; (with_reducible refine (htf.out _ (HS.out.ext (hxA2.trans eX)) (HV.out.ext (hxA2.trans eX))).mono ?_); rintro e w33 ⟨⟨p33, l33, rfl, i33, j33, -⟩, hx33⟩; replace i33 := Lib.hid i33.ints; replace j33 := Lib.hid j33.ints)); all_goals (refine hK _ _ ⟨(by first | assumption | exact eX), ?_⟩; clear hK K; go_simp))
  all_goals clear ho1
  all_goals first | (refine canon_ef ho3 rfl (fun K hK => ?_); go_simp; ((go_at_call 11; (with_reducible refine (htg1.out _ (HX1.out.ext (hxA2.trans eX))).mono ?_); rintro e w341 ⟨⟨q341, rfl, o341⟩, hx341⟩; replace o341 := Lib.hid o341.ints)); all_goals (refine hK _ _ ⟨(by first | assumption | exact eX), ?_⟩; clear hK K; go_simp))
  all_goals clear ho3
  all_goals first | (refine canon_ef ho5 rfl (fun K hK => ?_); go_simp; ((go_at_call 11; (with_reducible refine (htg2.out _ (HX2.out.ext (hxA2.trans eX))).mono ?_); rintro e w342 ⟨⟨q342, rfl, o342⟩, hx342⟩; replace o342 := Lib.hid o342.ints)); all_goals (refine hK _ _ ⟨(by first | assumption | exact eX), ?_⟩; clear hK K; go_simp))
  all_goals clear ho5
  all_goals first | (refine canon_ef ho6 rfl (fun K hK => ?_); go_simp; ((go_at_call 17; (with_reducible refine (him.out _ _ _ _ _ (i33.out.ext eX) (j33.out.ext eX) (o341.out.ext eX) (o342.out.ext eX) (hL.out.ext (hxA2.trans eX))).mono ?_); rintro e w35 ⟨⟨pC, cC, pD, cD, rfl, oC, oD, -⟩, hx35⟩; replace oC := Lib.hid oC.ints; replace oD := Lib.hid oD.ints)); all_goals (refine hK _ _ ⟨(by first | assumption | exact eX), ?_⟩; clear hK K; go_simp))
  all_goals clear ho6
  all_goals (apply canon_st ho7 rfl; exact evE; simp only [ptN])
  all_goals clear ho7
  all_goals (apply canon_st ho8 rfl; exact evE; simp only [ptN])
  all_goals clear ho8
  all_goals (apply canon_st ho9 rfl; exact evE; simp only [ptN])
  all_goals clear ho9
  all_goals (apply canon_st ho10 rfl; exact evE; simp only [ptN])
  all_goals clear ho10
  all_goals (apply canon_st ho11 rfl; exact evE; simp only [ptN])
  all_goals clear ho11
  all_goals (apply canon_st ho12 rfl; exact evE; simp only [ptN])
  all_goals clear ho12
  all_goals (apply canon_st ho13 rfl; exact evE; simp only [ptN])
  all_goals clear ho13
  all_goals refine canon_done (NoPanic.normal ?_)
  have hx36 : Ext w32 w35 := eX
  clear i33 j33 o341 o342
  have HB36 := HB32.trans hx36
  clear a0 a1 a2 a3 a4 a5 a6 a7 aL b10 b11 b12 b1L b20 b21 b22 b2L
  go_upto_region 45 with (first | (go_at_call 23; go_loud ((with_reducible refine (heX.out _ _ _ _ _ oC.out (SA.out.ext HB36)).mono ?_); rintro e w37a ⟨rfl, hx37a⟩)) | (go_at_call 23; go_loud ((with_reducible refine (heY.out _ _ _ _ _ (oD.out.ext hx37a) (SB.out.ext (HB36.trans hx37a))).mono ?_); rintro e w37b ⟨rfl, hx37b⟩)))
  have hx38 := hx36.trans (hx37a.trans hx37b)
  go_wp2_with (first | (go_at_call 27; go_loud ((with_reducible refine (hhX.out _ p4 c4 1 (m4.out.ext hx38) (by omega)).mono ?_); rintro e wh ⟨rfl, rfl⟩)) | (go_at_call 27; go_loud ((with_reducible refine (hhY.out _ p5 c5 (1 + (nX : Int)) (m5.out.ext hx38) (by omega)).mono ?_); rintro e wh ⟨rfl, rfl⟩)))
  go_ret
  exact ⟨rfl, hxA2.trans hx38⟩
end Go.Proofs.YtekignklnakkaaaGreatDoor
