/- Damaged elements, the reference's side. -/
import Derived.Test.YtojdediohjghnaaGreatDoorLSurvivesDamageK41
import Derived.Test.YtojdediohjghnaaGreatDoorLSurvivesDamageK42
set_option linter.unusedVariables false
set_option linter.unusedSimpArgs false
namespace Go.Proofs.YtojdediohjghnaaGreatDoor
open Go.RowKit

def DmS (B : Nat) (w' : World) (X Y : List Int) (cd : Int) (e : Ending) : Prop := ∃ v4 v5, e = .returned (.tuple #[v4, v5, .int .i64 cd]) ∧ RowI B w' v4 X ∧ RowI B w' v5 Y ∧ (∀ k, v5.ownBlock = some k → v4.ownBlock ≠ some k)
set_option maxHeartbeats 3200000 in
set_option maxRecDepth 100000 in
theorem sDamagedE_c (nm : ByteArray) (K p k q co : Int) (r1 c1 r2 c2 : Int) (ps pl pg1 pg2 : Option Addr) (cs cl cg1 cg2 : Nat) (ss ls xs1 xs2 : List Int) (w : World) (hs : IntsAt w ps ss) (hlv : IntsAt w pl ls) (hx1 : IntsAt w pg1 xs1) (hx2 : IntsAt w pg2 xs2) (hn : nm.size ≤ 1048576) (hl1 : ss.length ≤ 1048576) (hl2 : ls.length ≤ 1048576) (hl3 : xs1.length ≤ 1048576) (hl4 : xs2.length ≤ 1048576) (hcap1 : xs1.length ≤ cg1) (hcap2 : xs2.length ≤ cg2) :
  Calls Tryz.prog 16 #[vFam nm K p k q ps ss.length cs co pl ls.length cl, vGrid r1 c1 pg1 xs1.length cg1, vGrid r2 c2 pg2 xs2.length cg2] w fun e w' => DmS w.heap.size w' (dmX nm K p k q ss co ls r1 c1 xs1 r2 c2 xs2) (dmY nm K p k q ss co ls r1 c1 xs1 r2 c2 xs2) (dmC nm K p k q ss co ls r1 c1 xs1 r2 c2 xs2) e ∧ Ext w w' := by
 have HS := Lib.hid hs; have HV := Lib.hid hlv; have HX1 := Lib.hid hx1; have HX2 := Lib.hid hx2; clear hs hlv hx1 hx2
 have hst1 := Lib.hid (fun W (h1 : IntsAt W ps ss) (h2 : IntsAt W pl ls) (h3 : IntsAt W pg1 xs1) => sStreamOf_c nm K p k q co r1 c1 ps pl pg1 cs cl cg1 ss ls xs1 W h1 h2 h3 hn hl1 hl2 hl3 hcap1)
 have hst2 := Lib.hid (fun W (h1 : IntsAt W ps ss) (h2 : IntsAt W pl ls) (h3 : IntsAt W pg2 xs2) => sStreamOf_c nm K p k q co r2 c2 ps pl pg2 cs cl cg2 ss ls xs2 W h1 h2 h3 hn hl1 hl2 hl4 hcap2)
 by_cases h1 : ¬ (lvR nm K p k q ss co ls r1 c1 xs1).2 = 0
 ·obtain ⟨eC, eX, eY⟩ := dm_1 (r2 := r2) (c2 := c2) (xs2 := xs2) h1
  rw [eX, eY, eC]
  have h1b : ((lvR nm K p k q ss co ls r1 c1 xs1).2 != 0) = true := by simpa using h1
  clear eC eX eY hst2
  generalize (lvR nm K p k q ss co ls r1 c1 xs1).2 = cd at *
  have hxA : Ext w (((w.alloc (.cells #[.string nm, .int .i64 K, .int .i64 p, .int .i64 k, .int .i64 q, .slice ps ss.length cs, .int .i64 co, .slice pl ls.length cl] 35)).alloc (.cells #[.int .i64 r1, .int .i64 c1, .slice pg1 xs1.length cg1] 37)).alloc (.cells #[.int .i64 r2, .int .i64 c2, .slice pg2 xs2.length cg2] 37)) := (((Ext.refl w).alloc _).alloc _).alloc _
  have PF := ((Blk.new w #[.string nm, .int .i64 K, .int .i64 p, .int .i64 k, .int .i64 q, .slice ps ss.length cs, .int .i64 co, .slice pl ls.length cl] 35).alloc (.cells #[.int .i64 r1, .int .i64 c1, .slice pg1 xs1.length cg1] 37)).alloc (.cells #[.int .i64 r2, .int .i64 c2, .slice pg2 xs2.length cg2] 37)
  have PG1 := (Blk.new (w.alloc (.cells #[.string nm, .int .i64 K, .int .i64 p, .int .i64 k, .int .i64 q, .slice ps ss.length cs, .int .i64 co, .slice pl ls.length cl] 35)) #[.int .i64 r1, .int .i64 c1, .slice pg1 xs1.length cg1] 37).alloc (.cells #[.int .i64 r2, .int .i64 c2, .slice pg2 xs2.length cg2] 37)
  have PG2 := Blk.new ((w.alloc (.cells #[.string nm, .int .i64 K, .int .i64 p, .int .i64 k, .int .i64 q, .slice ps ss.length cs, .int .i64 co, .slice pl ls.length cl] 35)).alloc (.cells #[.int .i64 r1, .int .i64 c1, .slice pg1 xs1.length cg1] 37)) #[.int .i64 r2, .int .i64 c2, .slice pg2 xs2.length cg2] 37
  simp only [World.size_alloc] at PG1 PG2
  go_enter Tryz.func16, Tryz.ntmps16
  go_upto_region 1 with (fail)
  obtain ⟨gPG2, hgPG2E⟩ : ∃ g, w.heap.size + 1 + 1 = g := ⟨_, rfl⟩
  rw [hgPG2E] at PG2 ⊢
  clear hgPG2E
  obtain ⟨gPG1, hgPG1E⟩ : ∃ g, w.heap.size + 1 = g := ⟨_, rfl⟩
  rw [hgPG1E] at PG1 ⊢
  clear hgPG1E
  obtain ⟨gPF, hgPFE⟩ : ∃ g, w.heap.size = g := ⟨_, rfl⟩
  rw [hgPFE] at PF ⊢
  clear hgPFE
  generalize (((w.alloc (.cells #[.string nm, .int .i64 K, .int .i64 p, .int .i64 k, .int .i64 q, .slice ps ss.length cs, .int .i64 co, .slice pl ls.length cl] 35)).alloc (.cells #[.int .i64 r1, .int .i64 c1, .slice pg1 xs1.length cg1] 37)).alloc (.cells #[.int .i64 r2, .int .i64 c2, .slice pg2 xs2.length cg2] 37)) = w0 at *
  obtain ⟨a0, a1, a2, a3, a4, a5, a6, a7⟩ := PF.c8; have aL := PF.lt; obtain ⟨b10, b11, b12⟩ := PG1.c3; have b1L := PG1.lt; obtain ⟨b20, b21, b22⟩ := PG2.c3; have b2L := PG2.lt
  go_upto_region 2 with (go_at_call 33; go_loud ((with_reducible refine (hst1.out _ (HS.out.ext hxA) (HV.out.ext hxA) (HX1.out.ext hxA)).mono ?_); rintro e w4 ⟨⟨v4, v5, rfl, -⟩, hxw4⟩; replace PF := PF.ext hxw4; replace PG1 := PG1.ext hxw4; replace PG2 := PG2.ext hxw4; replace hxA := hxA.trans hxw4; clear a0 a1 a2 a3 a4 a5 a6 a7 aL b10 b11 b12 b1L b20 b21 b22 b2L; obtain ⟨a0, a1, a2, a3, a4, a5, a6, a7⟩ := PF.c8; have aL := PF.lt; obtain ⟨b10, b11, b12⟩ := PG1.c3; have b1L := PG1.lt; obtain ⟨b20, b21, b22⟩ := PG2.c3; have b2L := PG2.lt))
  go_wp2
  exact bodyPost_ret (v := .tuple #[.slice none 0 0, .slice none 0 0, .int .i64 cd]) (by simp [results, Tryz.results16, go_sem]) rfl ⟨⟨_, _, rfl, RowI.nil _ _, RowI.nil _ _, (fun k h => by cases h)⟩, hxA⟩
 replace h1 := Classical.not_not.1 h1
 rw [h1] at hst1
 by_cases h2 : ¬ (lvR nm K p k q ss co ls r2 c2 xs2).2 = 0
 ·obtain ⟨eC, eX, eY⟩ := dm_2 h1 h2
  rw [eX, eY, eC]
  have h2b : ((lvR nm K p k q ss co ls r2 c2 xs2).2 != 0) = true := by simpa using h2
  clear eC eX eY h1
  generalize (lvR nm K p k q ss co ls r2 c2 xs2).2 = cd at *
  have hxA : Ext w (((w.alloc (.cells #[.string nm, .int .i64 K, .int .i64 p, .int .i64 k, .int .i64 q, .slice ps ss.length cs, .int .i64 co, .slice pl ls.length cl] 35)).alloc (.cells #[.int .i64 r1, .int .i64 c1, .slice pg1 xs1.length cg1] 37)).alloc (.cells #[.int .i64 r2, .int .i64 c2, .slice pg2 xs2.length cg2] 37)) := (((Ext.refl w).alloc _).alloc _).alloc _
  have PF := ((Blk.new w #[.string nm, .int .i64 K, .int .i64 p, .int .i64 k, .int .i64 q, .slice ps ss.length cs, .int .i64 co, .slice pl ls.length cl] 35).alloc (.cells #[.int .i64 r1, .int .i64 c1, .slice pg1 xs1.length cg1] 37)).alloc (.cells #[.int .i64 r2, .int .i64 c2, .slice pg2 xs2.length cg2] 37)
  have PG1 := (Blk.new (w.alloc (.cells #[.string nm, .int .i64 K, .int .i64 p, .int .i64 k, .int .i64 q, .slice ps ss.length cs, .int .i64 co, .slice pl ls.length cl] 35)) #[.int .i64 r1, .int .i64 c1, .slice pg1 xs1.length cg1] 37).alloc (.cells #[.int .i64 r2, .int .i64 c2, .slice pg2 xs2.length cg2] 37)
  have PG2 := Blk.new ((w.alloc (.cells #[.string nm, .int .i64 K, .int .i64 p, .int .i64 k, .int .i64 q, .slice ps ss.length cs, .int .i64 co, .slice pl ls.length cl] 35)).alloc (.cells #[.int .i64 r1, .int .i64 c1, .slice pg1 xs1.length cg1] 37)) #[.int .i64 r2, .int .i64 c2, .slice pg2 xs2.length cg2] 37
  simp only [World.size_alloc] at PG1 PG2
  go_enter Tryz.func16, Tryz.ntmps16
  go_upto_region 1 with (fail)
  obtain ⟨gPG2, hgPG2E⟩ : ∃ g, w.heap.size + 1 + 1 = g := ⟨_, rfl⟩
  rw [hgPG2E] at PG2 ⊢
  clear hgPG2E
  obtain ⟨gPG1, hgPG1E⟩ : ∃ g, w.heap.size + 1 = g := ⟨_, rfl⟩
  rw [hgPG1E] at PG1 ⊢
  clear hgPG1E
  obtain ⟨gPF, hgPFE⟩ : ∃ g, w.heap.size = g := ⟨_, rfl⟩
  rw [hgPFE] at PF ⊢
  clear hgPFE
  generalize (((w.alloc (.cells #[.string nm, .int .i64 K, .int .i64 p, .int .i64 k, .int .i64 q, .slice ps ss.length cs, .int .i64 co, .slice pl ls.length cl] 35)).alloc (.cells #[.int .i64 r1, .int .i64 c1, .slice pg1 xs1.length cg1] 37)).alloc (.cells #[.int .i64 r2, .int .i64 c2, .slice pg2 xs2.length cg2] 37)) = w0 at *
  obtain ⟨a0, a1, a2, a3, a4, a5, a6, a7⟩ := PF.c8; have aL := PF.lt; obtain ⟨b10, b11, b12⟩ := PG1.c3; have b1L := PG1.lt; obtain ⟨b20, b21, b22⟩ := PG2.c3; have b2L := PG2.lt
  go_upto_region 4 with (go_at_call 33; go_loud ((with_reducible refine (hst1.out _ (HS.out.ext hxA) (HV.out.ext hxA) (HX1.out.ext hxA)).mono ?_); rintro e w4 ⟨⟨v4, v5, rfl, -⟩, hxw4⟩; replace PF := PF.ext hxw4; replace PG1 := PG1.ext hxw4; replace PG2 := PG2.ext hxw4; replace hxA := hxA.trans hxw4; clear a0 a1 a2 a3 a4 a5 a6 a7 aL b10 b11 b12 b1L b20 b21 b22 b2L; obtain ⟨a0, a1, a2, a3, a4, a5, a6, a7⟩ := PF.c8; have aL := PF.lt; obtain ⟨b10, b11, b12⟩ := PG1.c3; have b1L := PG1.lt; obtain ⟨b20, b21, b22⟩ := PG2.c3; have b2L := PG2.lt))
  go_upto_region 5 with (go_at_call 33; go_loud ((with_reducible refine (hst2.out _ (HS.out.ext hxA) (HV.out.ext hxA) (HX2.out.ext hxA)).mono ?_); rintro e w6 ⟨⟨v6, v7, rfl, -⟩, hxw6⟩; replace PF := PF.ext hxw6; replace PG1 := PG1.ext hxw6; replace PG2 := PG2.ext hxw6; replace hxA := hxA.trans hxw6; clear a0 a1 a2 a3 a4 a5 a6 a7 aL b10 b11 b12 b1L b20 b21 b22 b2L; obtain ⟨a0, a1, a2, a3, a4, a5, a6, a7⟩ := PF.c8; have aL := PF.lt; obtain ⟨b10, b11, b12⟩ := PG1.c3; have b1L := PG1.lt; obtain ⟨b20, b21, b22⟩ := PG2.c3; have b2L := PG2.lt))
  go_wp2
  exact bodyPost_ret (v := .tuple #[.slice none 0 0, .slice none 0 0, .int .i64 cd]) (by simp [results, Tryz.results16, go_sem]) rfl ⟨⟨_, _, rfl, RowI.nil _ _, RowI.nil _ _, (fun k h => by cases h)⟩, hxA⟩
 replace h2 := Classical.not_not.1 h2
 rw [h2] at hst2
 have hlA := stF_len (nm := nm) (K := K) (p := p) (k := k) (q := q) (co := co) (r := r1) (c := c1) (ss := ss) (ls := ls) (xs := xs1)
 have hlB := stF_len (nm := nm) (K := K) (p := p) (k := k) (q := q) (co := co) (r := r2) (c := c2) (ss := ss) (ls := ls) (xs := xs2)
 by_cases h3 : ¬ (stF nm K p k q ss co ls r1 c1 xs1).length = (stF nm K p k q ss co ls r2 c2 xs2).length
 ·obtain ⟨eC, eX, eY⟩ := dm_3 h1 h2 h3
  rw [eX, eY, eC]
  clear eC eX eY h1 h2
  generalize stF nm K p k q ss co ls r1 c1 xs1 = F1 at *
  generalize stF nm K p k q ss co ls r2 c2 xs2 = F2 at *
  have hxA : Ext w (((w.alloc (.cells #[.string nm, .int .i64 K, .int .i64 p, .int .i64 k, .int .i64 q, .slice ps ss.length cs, .int .i64 co, .slice pl ls.length cl] 35)).alloc (.cells #[.int .i64 r1, .int .i64 c1, .slice pg1 xs1.length cg1] 37)).alloc (.cells #[.int .i64 r2, .int .i64 c2, .slice pg2 xs2.length cg2] 37)) := (((Ext.refl w).alloc _).alloc _).alloc _
  have PF := ((Blk.new w #[.string nm, .int .i64 K, .int .i64 p, .int .i64 k, .int .i64 q, .slice ps ss.length cs, .int .i64 co, .slice pl ls.length cl] 35).alloc (.cells #[.int .i64 r1, .int .i64 c1, .slice pg1 xs1.length cg1] 37)).alloc (.cells #[.int .i64 r2, .int .i64 c2, .slice pg2 xs2.length cg2] 37)
  have PG1 := (Blk.new (w.alloc (.cells #[.string nm, .int .i64 K, .int .i64 p, .int .i64 k, .int .i64 q, .slice ps ss.length cs, .int .i64 co, .slice pl ls.length cl] 35)) #[.int .i64 r1, .int .i64 c1, .slice pg1 xs1.length cg1] 37).alloc (.cells #[.int .i64 r2, .int .i64 c2, .slice pg2 xs2.length cg2] 37)
  have PG2 := Blk.new ((w.alloc (.cells #[.string nm, .int .i64 K, .int .i64 p, .int .i64 k, .int .i64 q, .slice ps ss.length cs, .int .i64 co, .slice pl ls.length cl] 35)).alloc (.cells #[.int .i64 r1, .int .i64 c1, .slice pg1 xs1.length cg1] 37)) #[.int .i64 r2, .int .i64 c2, .slice pg2 xs2.length cg2] 37
  simp only [World.size_alloc] at PG1 PG2
  go_enter Tryz.func16, Tryz.ntmps16
  go_upto_region 1 with (fail)
  obtain ⟨gPG2, hgPG2E⟩ : ∃ g, w.heap.size + 1 + 1 = g := ⟨_, rfl⟩
  rw [hgPG2E] at PG2 ⊢
  clear hgPG2E
  obtain ⟨gPG1, hgPG1E⟩ : ∃ g, w.heap.size + 1 = g := ⟨_, rfl⟩
  rw [hgPG1E] at PG1 ⊢
  clear hgPG1E
  obtain ⟨gPF, hgPFE⟩ : ∃ g, w.heap.size = g := ⟨_, rfl⟩
  rw [hgPFE] at PF ⊢
  clear hgPFE
  generalize (((w.alloc (.cells #[.string nm, .int .i64 K, .int .i64 p, .int .i64 k, .int .i64 q, .slice ps ss.length cs, .int .i64 co, .slice pl ls.length cl] 35)).alloc (.cells #[.int .i64 r1, .int .i64 c1, .slice pg1 xs1.length cg1] 37)).alloc (.cells #[.int .i64 r2, .int .i64 c2, .slice pg2 xs2.length cg2] 37)) = w0 at *
  obtain ⟨a0, a1, a2, a3, a4, a5, a6, a7⟩ := PF.c8; have aL := PF.lt; obtain ⟨b10, b11, b12⟩ := PG1.c3; have b1L := PG1.lt; obtain ⟨b20, b21, b22⟩ := PG2.c3; have b2L := PG2.lt
  go_upto_region 4 with (go_at_call 33; go_loud ((with_reducible refine (hst1.out _ (HS.out.ext hxA) (HV.out.ext hxA) (HX1.out.ext hxA)).mono ?_); rintro e w4 ⟨⟨v4, v5, rfl, hTA⟩, hxw4⟩; replace PF := PF.ext hxw4; replace PG1 := PG1.ext hxw4; replace PG2 := PG2.ext hxw4; replace hxA := hxA.trans hxw4; clear a0 a1 a2 a3 a4 a5 a6 a7 aL b10 b11 b12 b1L b20 b21 b22 b2L; obtain ⟨a0, a1, a2, a3, a4, a5, a6, a7⟩ := PF.c8; have aL := PF.lt; obtain ⟨b10, b11, b12⟩ := PG1.c3; have b1L := PG1.lt; obtain ⟨b20, b21, b22⟩ := PG2.c3; have b2L := PG2.lt))
  go_upto_region 7 with (go_at_call 33; go_loud ((with_reducible refine (hst2.out _ (HS.out.ext hxA) (HV.out.ext hxA) (HX2.out.ext hxA)).mono ?_); rintro e w6 ⟨⟨v6, v7, rfl, hTB⟩, hxw6⟩; replace PF := PF.ext hxw6; replace PG1 := PG1.ext hxw6; replace PG2 := PG2.ext hxw6; replace hxA := hxA.trans hxw6; clear a0 a1 a2 a3 a4 a5 a6 a7 aL b10 b11 b12 b1L b20 b21 b22 b2L; obtain ⟨a0, a1, a2, a3, a4, a5, a6, a7⟩ := PF.c8; have aL := PF.lt; obtain ⟨b10, b11, b12⟩ := PG1.c3; have b1L := PG1.lt; obtain ⟨b20, b21, b22⟩ := PG2.c3; have b2L := PG2.lt))
  obtain ⟨p4, c4, p5, c5, rfl, rfl, -, -, -, -⟩ := hTA.ends
  obtain ⟨p6, c6, p7, c7, rfl, rfl, -, -, -, -⟩ := hTB.ends
  rw [pos0_len F1, pos0_len F2]
  have h3i : ¬ (F1.length : Int) = (F2.length : Int) := by omega
  have h3b : ((F1.length : Int) != (F2.length : Int)) = true := by simpa using h3i
  clear hTA hTB
  go_wp2
  exact bodyPost_ret (v := .tuple #[.slice none 0 0, .slice none 0 0, .int .i64 5]) (by simp [results, Tryz.results16, go_sem]) rfl ⟨⟨_, _, rfl, RowI.nil _ _, RowI.nil _ _, (fun k h => by cases h)⟩, hxA⟩
 replace h3 := Classical.not_not.1 h3
 obtain ⟨eC, eX, eY⟩ := dm_4 h1 h2 h3
 rw [eX, eY, eC]
 clear eC eX eY h1 h2
 generalize stF nm K p k q ss co ls r1 c1 xs1 = F1 at *
 generalize stF nm K p k q ss co ls r2 c2 xs2 = F2 at *
 rw [h3] at hlA ⊢
 obtain ⟨XX, hXX⟩ : ∃ XX, dmgTo (pos0 F1) (pos0 F2) F2 F2.length = XX := ⟨_, rfl⟩
 obtain ⟨YY, hYY⟩ : ∃ YY, negs F2 = YY := ⟨_, rfl⟩
 rw [hXX, hYY]
 replace hXX := Lib.hid hXX; replace hYY := Lib.hid hYY
 have hxA : Ext w (((w.alloc (.cells #[.string nm, .int .i64 K, .int .i64 p, .int .i64 k, .int .i64 q, .slice ps ss.length cs, .int .i64 co, .slice pl ls.length cl] 35)).alloc (.cells #[.int .i64 r1, .int .i64 c1, .slice pg1 xs1.length cg1] 37)).alloc (.cells #[.int .i64 r2, .int .i64 c2, .slice pg2 xs2.length cg2] 37)) := (((Ext.refl w).alloc _).alloc _).alloc _
 have PF := ((Blk.new w #[.string nm, .int .i64 K, .int .i64 p, .int .i64 k, .int .i64 q, .slice ps ss.length cs, .int .i64 co, .slice pl ls.length cl] 35).alloc (.cells #[.int .i64 r1, .int .i64 c1, .slice pg1 xs1.length cg1] 37)).alloc (.cells #[.int .i64 r2, .int .i64 c2, .slice pg2 xs2.length cg2] 37)
 have PG1 := (Blk.new (w.alloc (.cells #[.string nm, .int .i64 K, .int .i64 p, .int .i64 k, .int .i64 q, .slice ps ss.length cs, .int .i64 co, .slice pl ls.length cl] 35)) #[.int .i64 r1, .int .i64 c1, .slice pg1 xs1.length cg1] 37).alloc (.cells #[.int .i64 r2, .int .i64 c2, .slice pg2 xs2.length cg2] 37)
 have PG2 := Blk.new ((w.alloc (.cells #[.string nm, .int .i64 K, .int .i64 p, .int .i64 k, .int .i64 q, .slice ps ss.length cs, .int .i64 co, .slice pl ls.length cl] 35)).alloc (.cells #[.int .i64 r1, .int .i64 c1, .slice pg1 xs1.length cg1] 37)) #[.int .i64 r2, .int .i64 c2, .slice pg2 xs2.length cg2] 37
 simp only [World.size_alloc] at PG1 PG2
 go_enter Tryz.func16, Tryz.ntmps16
 go_upto_region 1 with (fail)
 obtain ⟨gPG2, hgPG2E⟩ : ∃ g, w.heap.size + 1 + 1 = g := ⟨_, rfl⟩
 rw [hgPG2E] at PG2 ⊢
 clear hgPG2E
 obtain ⟨gPG1, hgPG1E⟩ : ∃ g, w.heap.size + 1 = g := ⟨_, rfl⟩
 rw [hgPG1E] at PG1 ⊢
 clear hgPG1E
 obtain ⟨gPF, hgPFE⟩ : ∃ g, w.heap.size = g := ⟨_, rfl⟩
 rw [hgPFE] at PF ⊢
 clear hgPFE
 generalize (((w.alloc (.cells #[.string nm, .int .i64 K, .int .i64 p, .int .i64 k, .int .i64 q, .slice ps ss.length cs, .int .i64 co, .slice pl ls.length cl] 35)).alloc (.cells #[.int .i64 r1, .int .i64 c1, .slice pg1 xs1.length cg1] 37)).alloc (.cells #[.int .i64 r2, .int .i64 c2, .slice pg2 xs2.length cg2] 37)) = w0 at *
 obtain ⟨a0, a1, a2, a3, a4, a5, a6, a7⟩ := PF.c8; have aL := PF.lt; obtain ⟨b10, b11, b12⟩ := PG1.c3; have b1L := PG1.lt; obtain ⟨b20, b21, b22⟩ := PG2.c3; have b2L := PG2.lt
 go_upto_region 4 with (go_at_call 33; go_loud ((with_reducible refine (hst1.out _ (HS.out.ext hxA) (HV.out.ext hxA) (HX1.out.ext hxA)).mono ?_); rintro e w4 ⟨⟨v4, v5, rfl, hTA⟩, hxw4⟩; replace PF := PF.ext hxw4; replace PG1 := PG1.ext hxw4; replace PG2 := PG2.ext hxw4; replace hxA := hxA.trans hxw4; clear a0 a1 a2 a3 a4 a5 a6 a7 aL b10 b11 b12 b1L b20 b21 b22 b2L; obtain ⟨a0, a1, a2, a3, a4, a5, a6, a7⟩ := PF.c8; have aL := PF.lt; obtain ⟨b10, b11, b12⟩ := PG1.c3; have b1L := PG1.lt; obtain ⟨b20, b21, b22⟩ := PG2.c3; have b2L := PG2.lt))
 have hBz4 := Lib.hid hxA.below.size
 go_upto_region 7 with (go_at_call 33; go_loud ((with_reducible refine (hst2.out _ (HS.out.ext hxA) (HV.out.ext hxA) (HX2.out.ext hxA)).mono ?_); rintro e w6 ⟨⟨v6, v7, rfl, hTB⟩, hxw6⟩; replace PF := PF.ext hxw6; replace PG1 := PG1.ext hxw6; replace PG2 := PG2.ext hxw6; replace hxA := hxA.trans hxw6; clear a0 a1 a2 a3 a4 a5 a6 a7 aL b10 b11 b12 b1L b20 b21 b22 b2L; obtain ⟨a0, a1, a2, a3, a4, a5, a6, a7⟩ := PF.c8; have aL := PF.lt; obtain ⟨b10, b11, b12⟩ := PG1.c3; have b1L := PG1.lt; obtain ⟨b20, b21, b22⟩ := PG2.c3; have b2L := PG2.lt))
 obtain ⟨p4, c4, p5, c5, rfl, rfl, oA, -, -, -⟩ := hTA.ends
 have hU := hTB.un
 obtain ⟨p6, c6, p7, c7, rfl, rfl, oB, oE, -, -⟩ := hTB.ends
 have hAl := pos0_len F1; have hBl := pos0_len F2
 have hmn := negs_len F2
 have hdn := Lib.hid (fun k h => dmg_no (A := pos0 F1) (B := pos0 F2) (F := F2) (k := k) h)
 have hdu := Lib.hid (fun k h => dmg_up (A := pos0 F1) (B := pos0 F2) (F := F2) (k := k) h)
 have hdl := Lib.hid (dmg_len (pos0 F1) (pos0 F2) F2)
 have hd0 : dmgTo (pos0 F1) (pos0 F2) F2 0 = [] := rfl
 have hIA := Lib.hid (oA.ints.ext hxw6); have hIB := Lib.hid oB.ints; have hIE := Lib.hid oE.ints
 have hBz := Lib.hid hxA.below.size
 have hht := Lib.hid (fun j (h1 : j < F2.length) (h2 : F2.getD j 0 < 0) W (h : IntsAt W p7 (negs F2)) => (l05Has_c p7 c7 (j : Int) (negs F2) W h (by omega)).mono (R' := fun e w' => e = .returned (.bool true) ∧ Ext W w') (fun e w' ⟨h3, h4⟩ => ⟨h3.elim (fun h => h.2) (fun h => absurd (negs_in.2 ⟨j, h1, rfl, h2⟩) h.1), h4⟩))
 have hhf := Lib.hid (fun j (h2 : ¬ F2.getD j 0 < 0) W (h : IntsAt W p7 (negs F2)) => (l05Has_c p7 c7 (j : Int) (negs F2) W h (by omega)).mono (R' := fun e w' => e = .returned (.bool false) ∧ Ext W w') (fun e w' ⟨h3, h4⟩ => ⟨h3.elim (fun h => absurd h.1 (fun hm => by obtain ⟨i, _, h5, h6⟩ := negs_in.1 hm; obtain rfl : j = i := (by omega); exact h2 h6)) (fun h => h.2), h4⟩))
 rw [hAl, hBl, h3]
 rw [h3] at hAl
 generalize pos0 F1 = A at *
 generalize pos0 F2 = B at *
 generalize dmgTo A B F2 = DM at *
 generalize negs F2 = E at *
 obtain ⟨n, hn⟩ : ∃ n, F2.length = n := ⟨_, rfl⟩
 obtain ⟨m, hm⟩ : ∃ m, E.length = m := ⟨_, rfl⟩
 rw [hn] at hAl hBl hlA hlB hmn hht hXX ⊢
 rw [hm] at hmn hht hhf hU ⊢
 replace hAl := Lib.hid hAl; replace hBl := Lib.hid hBl; replace hn := Lib.hid hn; replace hm := Lib.hid hm
 have hr0 : RowI w6.heap.size (w6.alloc (.cells #[] 2)) (.slice (some ⟨w6.heap.size, 0, none⟩) 0 0) (DM 0) := by rw [hd0]; exact RowI.made (Nat.le_refl _)
 have hxl : Ext w6 (w6.alloc (.cells #[] 2)) := (Ext.refl _).alloc _
 clear hTA hTB oA oB oE hd0
 go_upto_region 11 with (fail)
 clear a0 a1 a2 a3 a4 a5 a6 a7 aL b10 b11 b12 b1L b20 b21 b22 b2L
 generalize w6.alloc (.cells #[] 2) = w8 at *
 generalize Value.slice (some ⟨w6.heap.size, 0, none⟩) 0 0 = v8 at *
 go_loopw [15, 16] (fun x i wr => ∃ j : Nat, j ≤ n ∧ i = .int .i64 j ∧ RowI w6.heap.size wr x (DM j) ∧ Ext w6 wr) (fun _ i _ => n - (intOf i).toNat)
 case atStart => exact ⟨0, Nat.zero_le _, rfl, hr0, hxl⟩
 case round =>
  clear hr0 hxl
  obtain ⟨j, hj, rfl, hr, hxr⟩ := hrel
  by_cases hlt : j < n
  ·have hjl := hdl.out j
   have hDM : (DM j).length ≤ 1681 := by omega
   obtain ⟨ba, oa, rfl, hba, ya⟩ := (hIA.out.ext hxr) j (by rw [hAl.out]; exact hlt)
   obtain ⟨bb, ob, rfl, hbb, yb⟩ := (hIB.out.ext hxr) j (by rw [hBl.out]; exact hlt)
   have hji : (j : Int) < (n : Int) := by omega
   have hno := hdn.out j; have hup := hdu.out j
   generalize A.getD j 0 = x at *
   generalize B.getD j 0 = y at *
   by_cases hxy : x = y
   ·have hno2 := Lib.hid (hno (.inr hxy))
    have hxb : (x != y) = false := by simpa using hxy
    clear hno hup
    have hrd : RowI w6.heap.size wr.drew u15 (DM j) := hr.drewN 1
    have hxd := hxr.drew
    go_upto_region 13 with (fail)
    refine wp_region_canon (fun w' => Ext wr w') [(0, true), (1, true), (2, true), (3, true), (4, true), (5, true), (6, true), (7, true), (8, true), (9, true), (10, true), (11, true), (12, false), (13, true), (14, true)] (by kernel_rfl) (by kernel_rfl) (by decide) (by kernel_rfl) ?_ ?_
    ·exact eX
    refine canon_intro fun ops eo => ?_
    replace eo := canon_eo eo
    iterate 10 all_goals (refine cS eo rfl rfl evE ?_; simp only [ptN])
    iterate 2 all_goals ((first | refine cU eo rfl rfl rfl rfl rfl ?_ | refine cX eo rfl rfl rfl rfl rfl ?_ | refine cW eo rfl rfl rfl rfl rfl evE ?_); simp only [ptN])
    all_goals first | (refine canon_efu (eo.out 12 rfl) rfl (eo.out _ rfl) rfl rfl (by first | assumption | exact eX) ?_; simp only [ptN]) | (refine canon_efx (eo.out 12 rfl) rfl (eo.out _ rfl) rfl rfl (by first | assumption | exact eX) ?_; simp only [ptN]) | (refine canon_efw (eo.out 12 rfl) rfl (eo.out _ rfl) rfl rfl (fun K hK => ?_); go_simp; (skip); all_goals (refine hK _ _ ⟨eX, ?_⟩; clear hK K; go_simp))
    all_goals ((first | refine cU eo rfl rfl rfl rfl rfl ?_ | refine cX eo rfl rfl rfl rfl rfl ?_ | refine cW eo rfl rfl rfl rfl rfl evE ?_); simp only [ptN])
    all_goals (refine cS eo rfl rfl evE ?_; simp only [ptN])
    all_goals (clear eo; refine canon_done (NoPanic.normal ?_))
    go_wp2
    go_roundw
    case rel => exact ⟨j + 1, hlt, by go_num, by rw [hno2.out]; exact hrd, hxd⟩
    case measure => simp [intOf]; omega
   ·have hxb : (x != y) = true := by simpa using hxy
    by_cases hf : F2.getD j 0 < 0
    ·have hno2 := Lib.hid (hno (.inl hf))
     have hcall := Lib.hid (hht.out j hlt hf)
     clear hno hup
     go_upto_region 13 with (fail)
     refine wp_region_canon (fun w' => Ext wr w') [(0, true), (1, true), (2, true), (3, true), (4, true), (5, true), (6, true), (7, true), (8, true), (9, true), (10, true), (11, true), (12, false), (13, true), (14, true)] (by kernel_rfl) (by kernel_rfl) (by decide) (by kernel_rfl) ?_ ?_
     ·exact eX
     refine canon_intro fun ops eo => ?_
     replace eo := canon_eo eo
     iterate 10 all_goals (refine cS eo rfl rfl evE ?_; simp only [ptN])
     iterate 2 all_goals ((first | refine cU eo rfl rfl rfl rfl rfl ?_ | refine cX eo rfl rfl rfl rfl rfl ?_ | refine cW eo rfl rfl rfl rfl rfl evE ?_); simp only [ptN])
     all_goals first | (refine canon_efu (eo.out 12 rfl) rfl (eo.out _ rfl) rfl rfl (by first | assumption | exact eX) ?_; simp only [ptN]) | (refine canon_efx (eo.out 12 rfl) rfl (eo.out _ rfl) rfl rfl (by first | assumption | exact eX) ?_; simp only [ptN]) | (refine canon_efw (eo.out 12 rfl) rfl (eo.out _ rfl) rfl rfl (fun K hK => ?_); go_simp; ((go_at_call 34; (with_reducible refine (hcall.out _ (hIE.out.ext (hxr.trans eX))).mono ?_); rintro e w7 ⟨rfl, hx7⟩)); all_goals (refine hK _ _ ⟨eX, ?_⟩; clear hK K; go_simp))
     all_goals ((first | refine cU eo rfl rfl rfl rfl rfl ?_ | refine cX eo rfl rfl rfl rfl rfl ?_ | refine cW eo rfl rfl rfl rfl rfl evE ?_); simp only [ptN])
     all_goals (refine cS eo rfl rfl evE ?_; simp only [ptN])
     all_goals (clear eo; refine canon_done (NoPanic.normal ?_))
     have hx9 : Ext wr w7 := eX
     go_wp2
     go_roundw
     case rel => exact ⟨j + 1, hlt, by go_num, by rw [hno2.out]; exact hr.ext hx9, hxr.trans hx9⟩
     case measure => simp [intOf]; omega
    ·have hup2 := Lib.hid (hup (fun h => h.elim hf hxy))
     have hcall := Lib.hid (hhf.out j (by first | exact hf | exact Int.not_lt.1 hf))
     clear hno hup
     go_upto_region 13 with (fail)
     refine wp_region_canon (fun w' => Ext wr w') [(0, true), (1, true), (2, true), (3, true), (4, true), (5, true), (6, true), (7, true), (8, true), (9, true), (10, true), (11, true), (12, false), (13, true), (14, true)] (by kernel_rfl) (by kernel_rfl) (by decide) (by kernel_rfl) ?_ ?_
     ·exact eX
     refine canon_intro fun ops eo => ?_
     replace eo := canon_eo eo
     iterate 10 all_goals (refine cS eo rfl rfl evE ?_; simp only [ptN])
     iterate 2 all_goals ((first | refine cU eo rfl rfl rfl rfl rfl ?_ | refine cX eo rfl rfl rfl rfl rfl ?_ | refine cW eo rfl rfl rfl rfl rfl evE ?_); simp only [ptN])
     all_goals first | (refine canon_efu (eo.out 12 rfl) rfl (eo.out _ rfl) rfl rfl (by first | assumption | exact eX) ?_; simp only [ptN]) | (refine canon_efx (eo.out 12 rfl) rfl (eo.out _ rfl) rfl rfl (by first | assumption | exact eX) ?_; simp only [ptN]) | (refine canon_efw (eo.out 12 rfl) rfl (eo.out _ rfl) rfl rfl (fun K hK => ?_); go_simp; ((go_at_call 34; (with_reducible refine (hcall.out _ (hIE.out.ext (hxr.trans eX))).mono ?_); rintro e w7 ⟨rfl, hx7⟩)); all_goals (refine hK _ _ ⟨eX, ?_⟩; clear hK K; go_simp))
     all_goals ((first | refine cU eo rfl rfl rfl rfl rfl ?_ | refine cX eo rfl rfl rfl rfl rfl ?_ | refine cW eo rfl rfl rfl rfl rfl evE ?_); simp only [ptN])
     all_goals (refine cS eo rfl rfl evE ?_; simp only [ptN])
     all_goals (clear eo; refine canon_done (NoPanic.normal ?_))
     have hx9 : Ext wr w7 := eX
     have hr7 := hr.ext hx9
     have hxd := hxr.trans hx9
     have hwd := hxd.below.size
     go_wp2_with (at_builtin; go_loud (refine append1I hr7 (by omega) hwd ?_ rfl rfl); intro v9 w9 hr9 hb9)
     go_roundw
     case rel => exact ⟨j + 1, hlt, by go_num, by rw [hup2.out]; exact hr9, Below.trans hxd hb9⟩
     case measure => simp [intOf]; omega
  ·obtain rfl : j = n := by omega
   have hxz := hxA.trans hxr
   go_wp2
   have k1 : ∀ k, u15.ownBlock = some k → w6.heap.size ≤ k := fun k h => (hr.lt k h).1
   exact bodyPost_ret (v := .tuple #[u15, .slice p7 m c7, .int .i64 0]) (by simp [results, Tryz.results16, go_sem]) rfl ⟨⟨u15, .slice p7 m c7, rfl, by rw [← hXX.out]; exact hr.mono hBz.out, by rw [← hYY.out]; exact (hU.ext hxr).mono hBz4.out, fun k h1 h2 => by have := k1 k h2; have := (hU.lt k h1).2; omega⟩, hxz⟩
end Go.Proofs.YtojdediohjghnaaGreatDoor
