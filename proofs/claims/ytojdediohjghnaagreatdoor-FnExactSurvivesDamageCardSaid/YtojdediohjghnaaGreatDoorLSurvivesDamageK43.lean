/- SurvivesDamage, the program's side. -/
import Derived.Test.YtojdediohjghnaaGreatDoorLSurvivesDamageK33
import Derived.Test.YtojdediohjghnaaGreatDoorLSurvivesDamageK40
import Derived.Test.YtojdediohjghnaaGreatDoorLSurvivesDamageK41
import Derived.Test.YtojdediohjghnaaGreatDoorLSurvivesDamageK42
set_option linter.unusedVariables false
set_option linter.unusedSimpArgs false
namespace Go.Proofs.YtojdediohjghnaaGreatDoor
open Go.RowKit

set_option maxHeartbeats 3200000 in
set_option maxRecDepth 100000 in
theorem iSurvives_c (nm : ByteArray) (K p k q co : Int) (r1 c1 r2 c2 : Int) (ps pl pg1 pg2 : Option Addr) (cs cl cg1 cg2 : Nat) (ss ls xs1 xs2 : List Int) (w : World) (hs : IntsAt w ps ss) (hlv : IntsAt w pl ls) (hx1 : IntsAt w pg1 xs1) (hx2 : IntsAt w pg2 xs2) (hn : nm.size ≤ 1048576) (hl1 : ss.length ≤ 1048576) (hl2 : ls.length ≤ 1048576) (hl3 : xs1.length ≤ 1048576) (hl4 : xs2.length ≤ 1048576) (hcap1 : xs1.length ≤ cg1) (hcap2 : xs2.length ≤ cg2) (hL : LaidE w) :
  Calls Tryz.prog 10 #[vFam nm K p k q ps ss.length cs co pl ls.length cl, vGrid r1 c1 pg1 xs1.length cg1, vGrid r2 c2 pg2 xs2.length cg2] w fun e w' => e = .returned (.tuple #[.bool (svB nm K p k q ss co ls r1 c1 xs1 r2 c2 xs2), .int .i64 (svC nm K p k q ss co ls r1 c1 xs1 r2 c2 xs2)]) ∧ Ext w w' := by
 have HS := Lib.hid hs; have HV := Lib.hid hlv; have HX1 := Lib.hid hx1; have HX2 := Lib.hid hx2; clear hs hlv hx1 hx2
 have hst := Lib.hid (fun W (h1 : IntsAt W ps ss) (h2 : IntsAt W pl ls) (h3 : IntsAt W pg1 xs1) (h4 : IntsAt W pg2 xs2) => damaged_c nm K p k q co r1 c1 r2 c2 ps pl pg1 pg2 cs cl cg1 cg2 ss ls xs1 xs2 W h1 h2 h3 h4 hn hl1 hl2 hl3 hl4 hcap1 hcap2)
 replace hL := Lib.hid hL
 by_cases h0 : ¬ dmC nm K p k q ss co ls r1 c1 xs1 r2 c2 xs2 = 0
 ·obtain ⟨eC, eB⟩ := sv_1 h0
  rw [eC, eB]
  clear eC eB
  generalize dmL (dmC nm K p k q ss co ls r1 c1 xs1 r2 c2 xs2) (lvR nm K p k q ss co ls r1 c1 xs1).1 = L1 at *
  generalize dmL (dmC nm K p k q ss co ls r1 c1 xs1 r2 c2 xs2) (lvR nm K p k q ss co ls r2 c2 xs2).1 = L2 at *
  generalize dmC nm K p k q ss co ls r1 c1 xs1 r2 c2 xs2 = cd at *
  generalize dmX nm K p k q ss co ls r1 c1 xs1 r2 c2 xs2 = X at *
  generalize dmY nm K p k q ss co ls r1 c1 xs1 r2 c2 xs2 = Y at *
  have hxA : Ext w (((w.alloc (.cells #[.string nm, .int .i64 K, .int .i64 p, .int .i64 k, .int .i64 q, .slice ps ss.length cs, .int .i64 co, .slice pl ls.length cl] 35)).alloc (.cells #[.int .i64 r1, .int .i64 c1, .slice pg1 xs1.length cg1] 37)).alloc (.cells #[.int .i64 r2, .int .i64 c2, .slice pg2 xs2.length cg2] 37)) := (((Ext.refl w).alloc _).alloc _).alloc _
  have PF := ((Blk.new w #[.string nm, .int .i64 K, .int .i64 p, .int .i64 k, .int .i64 q, .slice ps ss.length cs, .int .i64 co, .slice pl ls.length cl] 35).alloc (.cells #[.int .i64 r1, .int .i64 c1, .slice pg1 xs1.length cg1] 37)).alloc (.cells #[.int .i64 r2, .int .i64 c2, .slice pg2 xs2.length cg2] 37)
  have PG1 := (Blk.new (w.alloc (.cells #[.string nm, .int .i64 K, .int .i64 p, .int .i64 k, .int .i64 q, .slice ps ss.length cs, .int .i64 co, .slice pl ls.length cl] 35)) #[.int .i64 r1, .int .i64 c1, .slice pg1 xs1.length cg1] 37).alloc (.cells #[.int .i64 r2, .int .i64 c2, .slice pg2 xs2.length cg2] 37)
  have PG2 := Blk.new ((w.alloc (.cells #[.string nm, .int .i64 K, .int .i64 p, .int .i64 k, .int .i64 q, .slice ps ss.length cs, .int .i64 co, .slice pl ls.length cl] 35)).alloc (.cells #[.int .i64 r1, .int .i64 c1, .slice pg1 xs1.length cg1] 37)) #[.int .i64 r2, .int .i64 c2, .slice pg2 xs2.length cg2] 37
  simp only [World.size_alloc] at PG1 PG2
  go_enter Tryz.func10, Tryz.ntmps10
  go_upto_region 1 with (fail)
  obtain ⟨gPG2, hgPG2E⟩ : ∃ g, w.heap.size + 1 + 1 = g := ⟨_, rfl⟩
  rw [hgPG2E] at PG2 ⊢
  clear hgPG2E
  obtain ⟨gPG1, hgPG1E⟩ : ∃ g, w.heap.size + 1 = g := ⟨_, rfl⟩
  rw [hgPG1E] at PG1 ⊢
  clear hgPG1E
  obtain ⟨gPF, hgPFE⟩ : ∃ g, w.heap.size = g := ⟨_, rfl⟩
  rw [hgPFE] at PF ⊢
  clear hgPFE
  generalize (((w.alloc (.cells #[.string nm, .int .i64 K, .int .i64 p, .int .i64 k, .int .i64 q, .slice ps ss.length cs, .int .i64 co, .slice pl ls.length cl] 35)).alloc (.cells #[.int .i64 r1, .int .i64 c1, .slice pg1 xs1.length cg1] 37)).alloc (.cells #[.int .i64 r2, .int .i64 c2, .slice pg2 xs2.length cg2] 37)) = w0 at *
  obtain ⟨a0, a1, a2, a3, a4, a5, a6, a7⟩ := PF.c8; have aL := PF.lt; obtain ⟨b10, b11, b12⟩ := PG1.c3; have b1L := PG1.lt; obtain ⟨b20, b21, b22⟩ := PG2.c3; have b2L := PG2.lt
  go_upto_region 2 with (go_at_call 25; go_loud ((with_reducible refine (hst.out _ (HS.out.ext hxA) (HV.out.ext hxA) (HX1.out.ext hxA) (HX2.out.ext hxA)).mono ?_); rintro e w4 ⟨⟨v4, v5, er, rfl, h4, h5, -, hE⟩, hx4⟩))
  obtain ⟨p4, c4, rfl, o4, -⟩ := h4.ownC
  obtain ⟨p5, c5, rfl, o5, -⟩ := h5.ownC
  have hx5 : Ext w4 (w4.alloc (.cells #[.int .i64 L1, .int .i64 L2] 59)) := (Ext.refl _).alloc _
  have PV := Blk.new w4 #[.int .i64 L1, .int .i64 L2] 59
  have k4 := (o4.ext hx5).ints
  have k5 := (o5.ext hx5).ints
  clear a0 a1 a2 a3 a4 a5 a6 a7 aL b10 b11 b12 b1L b20 b21 b22 b2L
  replace PF := (PF.ext hx4).ext hx5; replace PG1 := (PG1.ext hx4).ext hx5
  replace hxA := (hxA.trans hx4).trans hx5
  clear h4 h5 hx5 hx4 o4 o5
  generalize w4.heap.size = gV at *
  generalize w4.alloc (.cells #[.int .i64 L1, .int .i64 L2] 59) = w5 at *
  obtain ⟨a0, a1, a2, a3, a4, a5, a6, a7⟩ := PF.c8; have aL := PF.lt; obtain ⟨b10, b11, b12⟩ := PG1.c3; have b1L := PG1.lt; have d0 := PV.cell (i := 0) (v := .int .i64 L1) rfl; have d1 := PV.cell (i := 1) (v := .int .i64 L2) rfl; have dL := PV.lt
  rcases hE with ⟨rfl, rfl⟩ | ⟨-, n, rfl⟩
  ·exact absurd rfl h0
  go_wp2_with (go_at_call 26; (with_reducible refine (codeOf_c n cd _ (hL.out.ext hxA)).mono ?_); rintro e w6 ⟨rfl, hx6⟩)
  exact bodyPost_ret (v := .tuple #[.bool false, .int .i64 cd]) (by simp [results, Tryz.results10, go_sem]) rfl ⟨rfl, hxA.trans hx6⟩
 replace h0 := Classical.not_not.1 h0
 obtain ⟨h1, h2, h3⟩ := sv_ok h0
 obtain ⟨⟨hF, hG1, hin1, hc1⟩, hg1, hL1, l, hll', hll, hsx, hx80⟩ := lv_facts h1
 obtain ⟨⟨-, hG2, hin2, hc2⟩, hg2, hL2, m, hlm', -, -, -⟩ := lv_facts h2
 obtain ⟨D, C, N, eD, eC, eN, hlay, hrX, hrY⟩ := sv_lay h0
 have hlX := dmX_len (nm := nm) (K := K) (p := p) (k := k) (q := q) (co := co) (r1 := r1) (c1 := c1) (r2 := r2) (c2 := c2) (ss := ss) (ls := ls) (xs1 := xs1) (xs2 := xs2)
 have hlY := dmY_len (nm := nm) (K := K) (p := p) (k := k) (q := q) (co := co) (r1 := r1) (c1 := c1) (r2 := r2) (c2 := c2) (ss := ss) (ls := ls) (xs1 := xs1) (xs2 := xs2)
 have hly := Lib.hid (fun W (h : IntsAt W pl ls) => by
  have := iLay_c nm K p k q co ps pl ss.length cs cl l ls r1 W h hll hl2 hx80 (fam_fld hF) (famS hF hin1)
  rwa [← hsx, eD, eC, eN] at this)
 have hsd := Lib.hid (fun W pX cX pY cY (h1 : IntsAt W pX (dmX nm K p k q ss co ls r1 c1 xs1 r2 c2 xs2)) (h2 : IntsAt W pY (dmY nm K p k q ss co ls r1 c1 xs1 r2 c2 xs2)) => iStreamDamage_c p k q D C N pX pY cX cY (dmX nm K p k q ss co ls r1 c1 xs1 r2 c2 xs2) (dmY nm K p k q ss co ls r1 c1 xs1 r2 c2 xs2) W h1 h2 (by omega) (by omega) hlay hrX hrY)
 rw [h0, dmL_ok, dmL_ok, hL1, hL2, hll', hlm'] at hst
 by_cases hle : lvL K r1 c1 xs1 ls.length = lvL K r2 c2 xs2 ls.length
 ·obtain ⟨eC0, eT, eF⟩ := sv_3 h0 hle eD eC eN
  rw [eC0]
  obtain rfl : l = m := by omega
  clear h1 h2 h3 hF hG1 hin1 hc1 hg1 hL1 hsx hx80 hG2 hin2 hc2 hg2 hL2 eD eC eN hlay hrX hrY hlX hlY eC0 hle hll' hlm' h0 hn hl1 hl3 hl4 hcap1 hcap2
  generalize svB nm K p k q ss co ls r1 c1 xs1 r2 c2 xs2 = B at *
  generalize sdOK D C N (dmX nm K p k q ss co ls r1 c1 xs1 r2 c2 xs2) (dmY nm K p k q ss co ls r1 c1 xs1 r2 c2 xs2) = PP at *
  generalize dmX nm K p k q ss co ls r1 c1 xs1 r2 c2 xs2 = X at *
  generalize dmY nm K p k q ss co ls r1 c1 xs1 r2 c2 xs2 = Y at *
  have hxA : Ext w (((w.alloc (.cells #[.string nm, .int .i64 K, .int .i64 p, .int .i64 k, .int .i64 q, .slice ps ss.length cs, .int .i64 co, .slice pl ls.length cl] 35)).alloc (.cells #[.int .i64 r1, .int .i64 c1, .slice pg1 xs1.length cg1] 37)).alloc (.cells #[.int .i64 r2, .int .i64 c2, .slice pg2 xs2.length cg2] 37)) := (((Ext.refl w).alloc _).alloc _).alloc _
  have PF := ((Blk.new w #[.string nm, .int .i64 K, .int .i64 p, .int .i64 k, .int .i64 q, .slice ps ss.length cs, .int .i64 co, .slice pl ls.length cl] 35).alloc (.cells #[.int .i64 r1, .int .i64 c1, .slice pg1 xs1.length cg1] 37)).alloc (.cells #[.int .i64 r2, .int .i64 c2, .slice pg2 xs2.length cg2] 37)
  have PG1 := (Blk.new (w.alloc (.cells #[.string nm, .int .i64 K, .int .i64 p, .int .i64 k, .int .i64 q, .slice ps ss.length cs, .int .i64 co, .slice pl ls.length cl] 35)) #[.int .i64 r1, .int .i64 c1, .slice pg1 xs1.length cg1] 37).alloc (.cells #[.int .i64 r2, .int .i64 c2, .slice pg2 xs2.length cg2] 37)
  have PG2 := Blk.new ((w.alloc (.cells #[.string nm, .int .i64 K, .int .i64 p, .int .i64 k, .int .i64 q, .slice ps ss.length cs, .int .i64 co, .slice pl ls.length cl] 35)).alloc (.cells #[.int .i64 r1, .int .i64 c1, .slice pg1 xs1.length cg1] 37)) #[.int .i64 r2, .int .i64 c2, .slice pg2 xs2.length cg2] 37
  simp only [World.size_alloc] at PG1 PG2
  go_enter Tryz.func10, Tryz.ntmps10
  go_upto_region 1 with (fail)
  obtain ⟨gPG2, hgPG2E⟩ : ∃ g, w.heap.size + 1 + 1 = g := ⟨_, rfl⟩
  rw [hgPG2E] at PG2 ⊢
  clear hgPG2E
  obtain ⟨gPG1, hgPG1E⟩ : ∃ g, w.heap.size + 1 = g := ⟨_, rfl⟩
  rw [hgPG1E] at PG1 ⊢
  clear hgPG1E
  obtain ⟨gPF, hgPFE⟩ : ∃ g, w.heap.size = g := ⟨_, rfl⟩
  rw [hgPFE] at PF ⊢
  clear hgPFE
  generalize (((w.alloc (.cells #[.string nm, .int .i64 K, .int .i64 p, .int .i64 k, .int .i64 q, .slice ps ss.length cs, .int .i64 co, .slice pl ls.length cl] 35)).alloc (.cells #[.int .i64 r1, .int .i64 c1, .slice pg1 xs1.length cg1] 37)).alloc (.cells #[.int .i64 r2, .int .i64 c2, .slice pg2 xs2.length cg2] 37)) = w0 at *
  obtain ⟨a0, a1, a2, a3, a4, a5, a6, a7⟩ := PF.c8; have aL := PF.lt; obtain ⟨b10, b11, b12⟩ := PG1.c3; have b1L := PG1.lt; obtain ⟨b20, b21, b22⟩ := PG2.c3; have b2L := PG2.lt
  go_upto_region 2 with (go_at_call 25; go_loud ((with_reducible refine (hst.out _ (HS.out.ext hxA) (HV.out.ext hxA) (HX1.out.ext hxA) (HX2.out.ext hxA)).mono ?_); rintro e w4 ⟨⟨v4, v5, er, rfl, h4, h5, -, hE⟩, hx4⟩))
  obtain ⟨p4, c4, rfl, o4, -⟩ := h4.ownC
  obtain ⟨p5, c5, rfl, o5, -⟩ := h5.ownC
  have hx5 : Ext w4 (w4.alloc (.cells #[.int .i64 l, .int .i64 l] 59)) := (Ext.refl _).alloc _
  have PV := Blk.new w4 #[.int .i64 l, .int .i64 l] 59
  have k4 := (o4.ext hx5).ints
  have k5 := (o5.ext hx5).ints
  clear a0 a1 a2 a3 a4 a5 a6 a7 aL b10 b11 b12 b1L b20 b21 b22 b2L
  replace PF := (PF.ext hx4).ext hx5; replace PG1 := (PG1.ext hx4).ext hx5
  replace hxA := (hxA.trans hx4).trans hx5
  clear h4 h5 hx5 hx4 o4 o5
  generalize w4.heap.size = gV at *
  generalize w4.alloc (.cells #[.int .i64 l, .int .i64 l] 59) = w5 at *
  obtain ⟨a0, a1, a2, a3, a4, a5, a6, a7⟩ := PF.c8; have aL := PF.lt; obtain ⟨b10, b11, b12⟩ := PG1.c3; have b1L := PG1.lt; have d0 := PV.cell (i := 0) (v := .int .i64 l) rfl; have d1 := PV.cell (i := 1) (v := .int .i64 l) rfl; have dL := PV.lt
  rcases hE with ⟨-, rfl⟩ | ⟨h9, -⟩
  rotate_left 1
  ·exact absurd rfl h9
  go_wp2_with (first
   | (go_at_call 28; go_loud ((with_reducible refine (hly.out _ (HV.out.ext hxA)).mono ?_); rintro e w6 ⟨rfl, hx6⟩; replace k4 := k4.ext hx6; replace k5 := k5.ext hx6; replace hxA := hxA.trans hx6))
   | (go_at_call 27; ((with_reducible refine (hsd.out _ _ _ _ _ k4 k5).mono ?_); rintro e w7 ⟨⟨hP, rfl⟩ | ⟨hP, rfl⟩, hx7⟩)))
  ·rw [eT hP]
   exact bodyPost_ret (v := .tuple #[.bool true, .int .i64 0]) (by simp [results, Tryz.results10, go_sem]) rfl ⟨rfl, hxA.trans hx7⟩
  ·rw [eF hP]
   exact bodyPost_ret (v := .tuple #[.bool false, .int .i64 0]) (by simp [results, Tryz.results10, go_sem]) rfl ⟨rfl, hxA.trans hx7⟩
 ·obtain ⟨eC0, eB⟩ := sv_2 h0 hle
  rw [eC0, eB]
  have hlmi : ¬ (l : Int) = (m : Int) := by omega
  clear h1 h2 h3 hF hG1 hin1 hc1 hg1 hL1 hsx hx80 hG2 hin2 hc2 hg2 hL2 eD eC eN hlay hrX hrY hlX hlY eC0 eB hle hll' hlm' h0 hly hsd
  generalize dmX nm K p k q ss co ls r1 c1 xs1 r2 c2 xs2 = X at *
  generalize dmY nm K p k q ss co ls r1 c1 xs1 r2 c2 xs2 = Y at *
  have hxA : Ext w (((w.alloc (.cells #[.string nm, .int .i64 K, .int .i64 p, .int .i64 k, .int .i64 q, .slice ps ss.length cs, .int .i64 co, .slice pl ls.length cl] 35)).alloc (.cells #[.int .i64 r1, .int .i64 c1, .slice pg1 xs1.length cg1] 37)).alloc (.cells #[.int .i64 r2, .int .i64 c2, .slice pg2 xs2.length cg2] 37)) := (((Ext.refl w).alloc _).alloc _).alloc _
  have PF := ((Blk.new w #[.string nm, .int .i64 K, .int .i64 p, .int .i64 k, .int .i64 q, .slice ps ss.length cs, .int .i64 co, .slice pl ls.length cl] 35).alloc (.cells #[.int .i64 r1, .int .i64 c1, .slice pg1 xs1.length cg1] 37)).alloc (.cells #[.int .i64 r2, .int .i64 c2, .slice pg2 xs2.length cg2] 37)
  have PG1 := (Blk.new (w.alloc (.cells #[.string nm, .int .i64 K, .int .i64 p, .int .i64 k, .int .i64 q, .slice ps ss.length cs, .int .i64 co, .slice pl ls.length cl] 35)) #[.int .i64 r1, .int .i64 c1, .slice pg1 xs1.length cg1] 37).alloc (.cells #[.int .i64 r2, .int .i64 c2, .slice pg2 xs2.length cg2] 37)
  have PG2 := Blk.new ((w.alloc (.cells #[.string nm, .int .i64 K, .int .i64 p, .int .i64 k, .int .i64 q, .slice ps ss.length cs, .int .i64 co, .slice pl ls.length cl] 35)).alloc (.cells #[.int .i64 r1, .int .i64 c1, .slice pg1 xs1.length cg1] 37)) #[.int .i64 r2, .int .i64 c2, .slice pg2 xs2.length cg2] 37
  simp only [World.size_alloc] at PG1 PG2
  go_enter Tryz.func10, Tryz.ntmps10
  go_upto_region 1 with (fail)
  obtain ⟨gPG2, hgPG2E⟩ : ∃ g, w.heap.size + 1 + 1 = g := ⟨_, rfl⟩
  rw [hgPG2E] at PG2 ⊢
  clear hgPG2E
  obtain ⟨gPG1, hgPG1E⟩ : ∃ g, w.heap.size + 1 = g := ⟨_, rfl⟩
  rw [hgPG1E] at PG1 ⊢
  clear hgPG1E
  obtain ⟨gPF, hgPFE⟩ : ∃ g, w.heap.size = g := ⟨_, rfl⟩
  rw [hgPFE] at PF ⊢
  clear hgPFE
  generalize (((w.alloc (.cells #[.string nm, .int .i64 K, .int .i64 p, .int .i64 k, .int .i64 q, .slice ps ss.length cs, .int .i64 co, .slice pl ls.length cl] 35)).alloc (.cells #[.int .i64 r1, .int .i64 c1, .slice pg1 xs1.length cg1] 37)).alloc (.cells #[.int .i64 r2, .int .i64 c2, .slice pg2 xs2.length cg2] 37)) = w0 at *
  obtain ⟨a0, a1, a2, a3, a4, a5, a6, a7⟩ := PF.c8; have aL := PF.lt; obtain ⟨b10, b11, b12⟩ := PG1.c3; have b1L := PG1.lt; obtain ⟨b20, b21, b22⟩ := PG2.c3; have b2L := PG2.lt
  go_upto_region 2 with (go_at_call 25; go_loud ((with_reducible refine (hst.out _ (HS.out.ext hxA) (HV.out.ext hxA) (HX1.out.ext hxA) (HX2.out.ext hxA)).mono ?_); rintro e w4 ⟨⟨v4, v5, er, rfl, h4, h5, -, hE⟩, hx4⟩))
  obtain ⟨p4, c4, rfl, o4, -⟩ := h4.ownC
  obtain ⟨p5, c5, rfl, o5, -⟩ := h5.ownC
  have hx5 : Ext w4 (w4.alloc (.cells #[.int .i64 l, .int .i64 m] 59)) := (Ext.refl _).alloc _
  have PV := Blk.new w4 #[.int .i64 l, .int .i64 m] 59
  have k4 := (o4.ext hx5).ints
  have k5 := (o5.ext hx5).ints
  clear a0 a1 a2 a3 a4 a5 a6 a7 aL b10 b11 b12 b1L b20 b21 b22 b2L
  replace PF := (PF.ext hx4).ext hx5; replace PG1 := (PG1.ext hx4).ext hx5
  replace hxA := (hxA.trans hx4).trans hx5
  clear h4 h5 hx5 hx4 o4 o5
  generalize w4.heap.size = gV at *
  generalize w4.alloc (.cells #[.int .i64 l, .int .i64 m] 59) = w5 at *
  obtain ⟨a0, a1, a2, a3, a4, a5, a6, a7⟩ := PF.c8; have aL := PF.lt; obtain ⟨b10, b11, b12⟩ := PG1.c3; have b1L := PG1.lt; have d0 := PV.cell (i := 0) (v := .int .i64 l) rfl; have d1 := PV.cell (i := 1) (v := .int .i64 m) rfl; have dL := PV.lt
  rcases hE with ⟨-, rfl⟩ | ⟨h9, -⟩
  rotate_left 1
  ·exact absurd rfl h9
  go_wp2
  exact bodyPost_ret (v := .tuple #[.bool false, .int .i64 5]) (by simp [results, Tryz.results10, go_sem]) rfl ⟨rfl, hxA⟩
end Go.Proofs.YtojdediohjghnaaGreatDoor
