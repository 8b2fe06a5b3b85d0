/- Damaged elements, the program's side. -/
import Derived.Test.YtojdediohjghnaaGreatDoorLSurvivesDamageK32
import Derived.Test.YtojdediohjghnaaGreatDoorLSurvivesDamageK40
set_option linter.unusedVariables false
set_option linter.unusedSimpArgs false
namespace Go.Proofs.YtojdediohjghnaaGreatDoor
open Go.RowKit

def DmI (B : Nat) (w' : World) (X Y : List Int) (L1 L2 cd : Int) (e : Ending) : Prop := ∃ v4 v5 er, e = .returned (.tuple #[v4, v5, .agg #[.int .i64 L1, .int .i64 L2], er]) ∧ RowI B w' v4 X ∧ RowI B w' v5 Y ∧ (∀ k, v5.ownBlock = some k → v4.ownBlock ≠ some k) ∧ ErrV er cd
open Classical in
noncomputable def dmL (cd L : Int) : Int := if cd = 0 then L else 0
theorem dmL_no {cd : Int} (L : Int) (h : ¬ cd = 0) : dmL cd L = 0 := if_neg h
theorem dmL_ok (L : Int) : dmL 0 L = L := if_pos rfl
def LostV (b o c m l : Nat) (v : Value) : Prop := ∃ p c', v = .slice p (m - l) c' ∧ m - l ≤ c' ∧ (l < m → p = some ⟨b, o + l, none⟩)
theorem slice_one {b o n c : Nat} (h : 0 < n) (hc : n ≤ c) (W : World) : ∃ p, (Instr.slice 24 (.slice (some ⟨b, o, none⟩) n c) (some (.int .i64 1)) none none).run Tryz.prog W = .ok (.slice p (n - 1) (c - 1)) W ∧ (1 < n → p = some ⟨b, o + 1, none⟩) := by
 have hz : ∀ w, (Go.sizeOf 2).run Tryz.prog w = .ok 1 w := fun w => by kernel_rfl
 have he : Tryz.prog.elem 24 = 2 := by kernel_rfl
 rw [run_slice_l W 24 _ _ _ (by rw [he]; exact Tryz.underlying24) .i64 1 (by omega) (by omega), he, hz]
 by_cases h1 : c = 1
 ·exact ⟨_, by simp [Result.andThen, sliced, h1]; rfl, fun h => by omega⟩
 ·exact ⟨some ⟨b, o + 1, none⟩, by simp [Result.andThen, sliced, Addr.add, h1], fun _ => rfl⟩
set_option maxHeartbeats 3200000 in
set_option maxRecDepth 100000 in
theorem damaged_c (nm : ByteArray) (K p k q co : Int) (r1 c1 r2 c2 : Int) (ps pl pg1 pg2 : Option Addr) (cs cl cg1 cg2 : Nat) (ss ls xs1 xs2 : List Int) (w : World) (hs : IntsAt w ps ss) (hlv : IntsAt w pl ls) (hx1 : IntsAt w pg1 xs1) (hx2 : IntsAt w pg2 xs2) (hn : nm.size ≤ 1048576) (hl1 : ss.length ≤ 1048576) (hl2 : ls.length ≤ 1048576) (hl3 : xs1.length ≤ 1048576) (hl4 : xs2.length ≤ 1048576) (hcap1 : xs1.length ≤ cg1) (hcap2 : xs2.length ≤ cg2) :
  Calls Tryz.prog 25 #[vFam nm K p k q ps ss.length cs co pl ls.length cl, vGrid r1 c1 pg1 xs1.length cg1, vGrid r2 c2 pg2 xs2.length cg2] w fun e w' => DmI w.heap.size w' (dmX nm K p k q ss co ls r1 c1 xs1 r2 c2 xs2) (dmY nm K p k q ss co ls r1 c1 xs1 r2 c2 xs2) (dmL (dmC nm K p k q ss co ls r1 c1 xs1 r2 c2 xs2) (lvR nm K p k q ss co ls r1 c1 xs1).1) (dmL (dmC nm K p k q ss co ls r1 c1 xs1 r2 c2 xs2) (lvR nm K p k q ss co ls r2 c2 xs2).1) (dmC nm K p k q ss co ls r1 c1 xs1 r2 c2 xs2) e ∧ Ext w w' := by
 have HS := Lib.hid hs; have HV := Lib.hid hlv; have HX1 := Lib.hid hx1; have HX2 := Lib.hid hx2; clear hs hlv hx1 hx2
 have hst1 := Lib.hid (fun W (h1 : IntsAt W ps ss) (h2 : IntsAt W pl ls) (h3 : IntsAt W pg1 xs1) => streamOf_c nm K p k q co r1 c1 ps pl pg1 cs cl cg1 ss ls xs1 W h1 h2 h3 hn hl1 hl2 hl3 hcap1)
 have hst2 := Lib.hid (fun W (h1 : IntsAt W ps ss) (h2 : IntsAt W pl ls) (h3 : IntsAt W pg2 xs2) => streamOf_c nm K p k q co r2 c2 ps pl pg2 cs cl cg2 ss ls xs2 W h1 h2 h3 hn hl1 hl2 hl4 hcap2)
 by_cases h1 : ¬ (lvR nm K p k q ss co ls r1 c1 xs1).2 = 0
 ·obtain ⟨eC, eX, eY⟩ := dm_1 (r2 := r2) (c2 := c2) (xs2 := xs2) h1
  rw [eX, eY, eC, dmL_no _ h1, dmL_no _ h1]
  clear eC eX eY hst2
  generalize (lvR nm K p k q ss co ls r1 c1 xs1).2 = cd at *
  replace h1 := Lib.hid h1
  have hxA : Ext w (((((w.alloc (.cells #[.string nm, .int .i64 K, .int .i64 p, .int .i64 k, .int .i64 q, .slice ps ss.length cs, .int .i64 co, .slice pl ls.length cl] 35)).alloc (.cells #[.int .i64 r1, .int .i64 c1, .slice pg1 xs1.length cg1] 37)).alloc (.cells #[.int .i64 r2, .int .i64 c2, .slice pg2 xs2.length cg2] 37)).alloc (.cells #[.int .i64 0, .int .i64 0] 59)).alloc (.cells #[.int .i64 0, .int .i64 0] 59)) := (((((Ext.refl w).alloc _).alloc _).alloc _).alloc _).alloc _
  have PF := ((((Blk.new w #[.string nm, .int .i64 K, .int .i64 p, .int .i64 k, .int .i64 q, .slice ps ss.length cs, .int .i64 co, .slice pl ls.length cl] 35).alloc (.cells #[.int .i64 r1, .int .i64 c1, .slice pg1 xs1.length cg1] 37)).alloc (.cells #[.int .i64 r2, .int .i64 c2, .slice pg2 xs2.length cg2] 37)).alloc (.cells #[.int .i64 0, .int .i64 0] 59)).alloc (.cells #[.int .i64 0, .int .i64 0] 59)
  have PG1 := (((Blk.new (w.alloc (.cells #[.string nm, .int .i64 K, .int .i64 p, .int .i64 k, .int .i64 q, .slice ps ss.length cs, .int .i64 co, .slice pl ls.length cl] 35)) #[.int .i64 r1, .int .i64 c1, .slice pg1 xs1.length cg1] 37).alloc (.cells #[.int .i64 r2, .int .i64 c2, .slice pg2 xs2.length cg2] 37)).alloc (.cells #[.int .i64 0, .int .i64 0] 59)).alloc (.cells #[.int .i64 0, .int .i64 0] 59)
  have PG2 := ((Blk.new ((w.alloc (.cells #[.string nm, .int .i64 K, .int .i64 p, .int .i64 k, .int .i64 q, .slice ps ss.length cs, .int .i64 co, .slice pl ls.length cl] 35)).alloc (.cells #[.int .i64 r1, .int .i64 c1, .slice pg1 xs1.length cg1] 37)) #[.int .i64 r2, .int .i64 c2, .slice pg2 xs2.length cg2] 37).alloc (.cells #[.int .i64 0, .int .i64 0] 59)).alloc (.cells #[.int .i64 0, .int .i64 0] 59)
  have P8 := (Blk.new (((w.alloc (.cells #[.string nm, .int .i64 K, .int .i64 p, .int .i64 k, .int .i64 q, .slice ps ss.length cs, .int .i64 co, .slice pl ls.length cl] 35)).alloc (.cells #[.int .i64 r1, .int .i64 c1, .slice pg1 xs1.length cg1] 37)).alloc (.cells #[.int .i64 r2, .int .i64 c2, .slice pg2 xs2.length cg2] 37)) #[.int .i64 0, .int .i64 0] 59).alloc (.cells #[.int .i64 0, .int .i64 0] 59)
  have P10 := Blk.new ((((w.alloc (.cells #[.string nm, .int .i64 K, .int .i64 p, .int .i64 k, .int .i64 q, .slice ps ss.length cs, .int .i64 co, .slice pl ls.length cl] 35)).alloc (.cells #[.int .i64 r1, .int .i64 c1, .slice pg1 xs1.length cg1] 37)).alloc (.cells #[.int .i64 r2, .int .i64 c2, .slice pg2 xs2.length cg2] 37)).alloc (.cells #[.int .i64 0, .int .i64 0] 59)) #[.int .i64 0, .int .i64 0] 59
  simp only [World.size_alloc] at PG1 PG2 P8 P10
  go_enter Tryz.func25, Tryz.ntmps25
  go_upto_region 2 with (fail)
  have hB8 : w.heap.size ≤ w.heap.size + 1 + 1 + 1 := by omega
  have hne8 : w.heap.size + 1 + 1 + 1 + 1 ≠ w.heap.size + 1 + 1 + 1 := by omega
  obtain ⟨gP10, hgP10E⟩ : ∃ g, w.heap.size + 1 + 1 + 1 + 1 = g := ⟨_, rfl⟩
  rw [hgP10E] at P10 ⊢
  rw [hgP10E] at hne8
  clear hgP10E
  obtain ⟨gP8, hgP8E⟩ : ∃ g, w.heap.size + 1 + 1 + 1 = g := ⟨_, rfl⟩
  rw [hgP8E] at P8 ⊢
  rw [hgP8E] at hB8 hne8
  clear hgP8E
  obtain ⟨gPG2, hgPG2E⟩ : ∃ g, w.heap.size + 1 + 1 = g := ⟨_, rfl⟩
  rw [hgPG2E] at PG2 ⊢
  clear hgPG2E
  obtain ⟨gPG1, hgPG1E⟩ : ∃ g, w.heap.size + 1 = g := ⟨_, rfl⟩
  rw [hgPG1E] at PG1 ⊢
  clear hgPG1E
  obtain ⟨gPF, hgPFE⟩ : ∃ g, w.heap.size = g := ⟨_, rfl⟩
  rw [hgPFE] at PF ⊢
  clear hgPFE
  generalize (((((w.alloc (.cells #[.string nm, .int .i64 K, .int .i64 p, .int .i64 k, .int .i64 q, .slice ps ss.length cs, .int .i64 co, .slice pl ls.length cl] 35)).alloc (.cells #[.int .i64 r1, .int .i64 c1, .slice pg1 xs1.length cg1] 37)).alloc (.cells #[.int .i64 r2, .int .i64 c2, .slice pg2 xs2.length cg2] 37)).alloc (.cells #[.int .i64 0, .int .i64 0] 59)).alloc (.cells #[.int .i64 0, .int .i64 0] 59)) = w0 at *
  obtain ⟨a0, a1, a2, a3, a4, a5, a6, a7⟩ := PF.c8; have aL := PF.lt; obtain ⟨b10, b11, b12⟩ := PG1.c3; have b1L := PG1.lt; obtain ⟨b20, b21, b22⟩ := PG2.c3; have b2L := PG2.lt; have d0 := P8.cell (i := 0) (v := .int .i64 0) rfl; have d1 := P8.cell (i := 1) (v := .int .i64 0) rfl; have dL := P8.lt; have dF := P8.free; have e0 := P10.cell (i := 0) (v := .int .i64 0) rfl; have e1 := P10.cell (i := 1) (v := .int .i64 0) rfl; have eL := P10.lt
  go_upto_region 4 with (go_at_call 44; go_loud ((with_reducible refine (hst1.out _ (HS.out.ext hxA) (HV.out.ext hxA) (HX1.out.ext hxA)).mono ?_); rintro e w4 ⟨⟨v4, v5, er, rfl, -, hE⟩, hxw4⟩; replace PF := PF.ext hxw4; replace PG1 := PG1.ext hxw4; replace PG2 := PG2.ext hxw4; replace P8 := P8.ext hxw4; replace P10 := P10.ext hxw4; replace hxA := hxA.trans hxw4; clear a0 a1 a2 a3 a4 a5 a6 a7 aL b10 b11 b12 b1L b20 b21 b22 b2L d0 d1 dL dF e0 e1 eL; obtain ⟨a0, a1, a2, a3, a4, a5, a6, a7⟩ := PF.c8; have aL := PF.lt; obtain ⟨b10, b11, b12⟩ := PG1.c3; have b1L := PG1.lt; obtain ⟨b20, b21, b22⟩ := PG2.c3; have b2L := PG2.lt; have d0 := P8.cell (i := 0) (v := .int .i64 0) rfl; have d1 := P8.cell (i := 1) (v := .int .i64 0) rfl; have dL := P8.lt; have dF := P8.free; have e0 := P10.cell (i := 0) (v := .int .i64 0) rfl; have e1 := P10.cell (i := 1) (v := .int .i64 0) rfl; have eL := P10.lt; rcases hE with ⟨h0, -⟩ | ⟨-, n9, rfl⟩; exact absurd h0 h1.out))
  refine wp_region_canon (fun w' => But gP8 w4 w') [(0, true), (1, true), (2, true), (3, true), (4, false), (5, true)] (by kernel_rfl) (by kernel_rfl) (by decide) (by kernel_rfl) ?_ ?_
  ·exact (But.refl _ _).drew
  refine canon_intro fun ops eo => ?_
  replace eo := canon_eo eo
  iterate 4 all_goals (refine cS eo rfl rfl evB ?_; simp only [ptN])
  all_goals first | (refine canon_ef (eo.out 4 rfl) rfl (fun K hK => ?_); go_simp; (skip); all_goals (refine hK _ _ ⟨(by first | exact (((But.refl _ _).drew).setK _).setK _ | exact (But.refl _ _).drew | exact ((((But.of ((Ext.refl _).drew.trans hx7))).setK _).setK _) | exact But.of ((Ext.refl _).drew.trans hx7)), ?_⟩; clear hK K; go_simp))
  all_goals (refine cS eo rfl rfl evB ?_; simp only [ptN])
  all_goals (clear eo; refine canon_done (NoPanic.normal ?_))
  have h5 := (P8).set 0 (.int .i64 0)
  have h6 := (P8.set 0 (.int .i64 0)).set 1 (.int .i64 0)
  have y0 := h5.cell (i := 0) (v := .int .i64 0) rfl; have y1 := h6.cell (i := 1) (v := .int .i64 0) rfl; have y2 := h6.cell (i := 0) (v := .int .i64 0) rfl
  have hxE := ((hxA.trans (Ext.refl w4).drew).setCell (p := ⟨gP8, 0, none⟩) hB8 (.int .i64 0)).setCell (p := ⟨gP8, 1, none⟩) hB8 (.int .i64 0)
  go_wp2
  exact bodyPost_ret (v := .tuple #[.slice none 0 0, .slice none 0 0, .agg #[.int .i64 0, .int .i64 0], vErr n9 cd]) (by simp [results, Tryz.results25, go_sem, y0, y1, y2]) rfl ⟨⟨_, _, _, rfl, RowI.nil _ _, RowI.nil _ _, (fun k h => by cases h), .inr ⟨h1.out, n9, rfl⟩⟩, hxE⟩
 replace h1 := Classical.not_not.1 h1
 rw [h1] at hst1
 by_cases h2 : ¬ (lvR nm K p k q ss co ls r2 c2 xs2).2 = 0
 ·obtain ⟨eC, eX, eY⟩ := dm_2 h1 h2
  rw [eX, eY, eC, dmL_no _ h2, dmL_no _ h2]
  clear eC eX eY h1
  generalize (lvR nm K p k q ss co ls r2 c2 xs2).2 = cd at *
  replace h2 := Lib.hid h2
  have hxA : Ext w (((((w.alloc (.cells #[.string nm, .int .i64 K, .int .i64 p, .int .i64 k, .int .i64 q, .slice ps ss.length cs, .int .i64 co, .slice pl ls.length cl] 35)).alloc (.cells #[.int .i64 r1, .int .i64 c1, .slice pg1 xs1.length cg1] 37)).alloc (.cells #[.int .i64 r2, .int .i64 c2, .slice pg2 xs2.length cg2] 37)).alloc (.cells #[.int .i64 0, .int .i64 0] 59)).alloc (.cells #[.int .i64 0, .int .i64 0] 59)) := (((((Ext.refl w).alloc _).alloc _).alloc _).alloc _).alloc _
  have PF := ((((Blk.new w #[.string nm, .int .i64 K, .int .i64 p, .int .i64 k, .int .i64 q, .slice ps ss.length cs, .int .i64 co, .slice pl ls.length cl] 35).alloc (.cells #[.int .i64 r1, .int .i64 c1, .slice pg1 xs1.length cg1] 37)).alloc (.cells #[.int .i64 r2, .int .i64 c2, .slice pg2 xs2.length cg2] 37)).alloc (.cells #[.int .i64 0, .int .i64 0] 59)).alloc (.cells #[.int .i64 0, .int .i64 0] 59)
  have PG1 := (((Blk.new (w.alloc (.cells #[.string nm, .int .i64 K, .int .i64 p, .int .i64 k, .int .i64 q, .slice ps ss.length cs, .int .i64 co, .slice pl ls.length cl] 35)) #[.int .i64 r1, .int .i64 c1, .slice pg1 xs1.length cg1] 37).alloc (.cells #[.int .i64 r2, .int .i64 c2, .slice pg2 xs2.length cg2] 37)).alloc (.cells #[.int .i64 0, .int .i64 0] 59)).alloc (.cells #[.int .i64 0, .int .i64 0] 59)
  have PG2 := ((Blk.new ((w.alloc (.cells #[.string nm, .int .i64 K, .int .i64 p, .int .i64 k, .int .i64 q, .slice ps ss.length cs, .int .i64 co, .slice pl ls.length cl] 35)).alloc (.cells #[.int .i64 r1, .int .i64 c1, .slice pg1 xs1.length cg1] 37)) #[.int .i64 r2, .int .i64 c2, .slice pg2 xs2.length cg2] 37).alloc (.cells #[.int .i64 0, .int .i64 0] 59)).alloc (.cells #[.int .i64 0, .int .i64 0] 59)
  have P8 := (Blk.new (((w.alloc (.cells #[.string nm, .int .i64 K, .int .i64 p, .int .i64 k, .int .i64 q, .slice ps ss.length cs, .int .i64 co, .slice pl ls.length cl] 35)).alloc (.cells #[.int .i64 r1, .int .i64 c1, .slice pg1 xs1.length cg1] 37)).alloc (.cells #[.int .i64 r2, .int .i64 c2, .slice pg2 xs2.length cg2] 37)) #[.int .i64 0, .int .i64 0] 59).alloc (.cells #[.int .i64 0, .int .i64 0] 59)
  have P10 := Blk.new ((((w.alloc (.cells #[.string nm, .int .i64 K, .int .i64 p, .int .i64 k, .int .i64 q, .slice ps ss.length cs, .int .i64 co, .slice pl ls.length cl] 35)).alloc (.cells #[.int .i64 r1, .int .i64 c1, .slice pg1 xs1.length cg1] 37)).alloc (.cells #[.int .i64 r2, .int .i64 c2, .slice pg2 xs2.length cg2] 37)).alloc (.cells #[.int .i64 0, .int .i64 0] 59)) #[.int .i64 0, .int .i64 0] 59
  simp only [World.size_alloc] at PG1 PG2 P8 P10
  go_enter Tryz.func25, Tryz.ntmps25
  go_upto_region 2 with (fail)
  have hB8 : w.heap.size ≤ w.heap.size + 1 + 1 + 1 := by omega
  have hne8 : w.heap.size + 1 + 1 + 1 + 1 ≠ w.heap.size + 1 + 1 + 1 := by omega
  obtain ⟨gP10, hgP10E⟩ : ∃ g, w.heap.size + 1 + 1 + 1 + 1 = g := ⟨_, rfl⟩
  rw [hgP10E] at P10 ⊢
  rw [hgP10E] at hne8
  clear hgP10E
  obtain ⟨gP8, hgP8E⟩ : ∃ g, w.heap.size + 1 + 1 + 1 = g := ⟨_, rfl⟩
  rw [hgP8E] at P8 ⊢
  rw [hgP8E] at hB8 hne8
  clear hgP8E
  obtain ⟨gPG2, hgPG2E⟩ : ∃ g, w.heap.size + 1 + 1 = g := ⟨_, rfl⟩
  rw [hgPG2E] at PG2 ⊢
  clear hgPG2E
  obtain ⟨gPG1, hgPG1E⟩ : ∃ g, w.heap.size + 1 = g := ⟨_, rfl⟩
  rw [hgPG1E] at PG1 ⊢
  clear hgPG1E
  obtain ⟨gPF, hgPFE⟩ : ∃ g, w.heap.size = g := ⟨_, rfl⟩
  rw [hgPFE] at PF ⊢
  clear hgPFE
  generalize (((((w.alloc (.cells #[.string nm, .int .i64 K, .int .i64 p, .int .i64 k, .int .i64 q, .slice ps ss.length cs, .int .i64 co, .slice pl ls.length cl] 35)).alloc (.cells #[.int .i64 r1, .int .i64 c1, .slice pg1 xs1.length cg1] 37)).alloc (.cells #[.int .i64 r2, .int .i64 c2, .slice pg2 xs2.length cg2] 37)).alloc (.cells #[.int .i64 0, .int .i64 0] 59)).alloc (.cells #[.int .i64 0, .int .i64 0] 59)) = w0 at *
  obtain ⟨a0, a1, a2, a3, a4, a5, a6, a7⟩ := PF.c8; have aL := PF.lt; obtain ⟨b10, b11, b12⟩ := PG1.c3; have b1L := PG1.lt; obtain ⟨b20, b21, b22⟩ := PG2.c3; have b2L := PG2.lt; have d0 := P8.cell (i := 0) (v := .int .i64 0) rfl; have d1 := P8.cell (i := 1) (v := .int .i64 0) rfl; have dL := P8.lt; have dF := P8.free; have e0 := P10.cell (i := 0) (v := .int .i64 0) rfl; have e1 := P10.cell (i := 1) (v := .int .i64 0) rfl; have eL := P10.lt
  go_upto_region 5 with (go_at_call 44; go_loud ((with_reducible refine (hst1.out _ (HS.out.ext hxA) (HV.out.ext hxA) (HX1.out.ext hxA)).mono ?_); rintro e w4 ⟨⟨v4, v5, er, rfl, -, hE⟩, hxw4⟩; replace PF := PF.ext hxw4; replace PG1 := PG1.ext hxw4; replace PG2 := PG2.ext hxw4; replace P8 := P8.ext hxw4; replace P10 := P10.ext hxw4; replace hxA := hxA.trans hxw4; clear a0 a1 a2 a3 a4 a5 a6 a7 aL b10 b11 b12 b1L b20 b21 b22 b2L d0 d1 dL dF e0 e1 eL; obtain ⟨a0, a1, a2, a3, a4, a5, a6, a7⟩ := PF.c8; have aL := PF.lt; obtain ⟨b10, b11, b12⟩ := PG1.c3; have b1L := PG1.lt; obtain ⟨b20, b21, b22⟩ := PG2.c3; have b2L := PG2.lt; have d0 := P8.cell (i := 0) (v := .int .i64 0) rfl; have d1 := P8.cell (i := 1) (v := .int .i64 0) rfl; have dL := P8.lt; have dF := P8.free; have e0 := P10.cell (i := 0) (v := .int .i64 0) rfl; have e1 := P10.cell (i := 1) (v := .int .i64 0) rfl; have eL := P10.lt; rcases hE with ⟨-, rfl⟩ | ⟨h0, -⟩; rotate_left 1; exact absurd rfl h0))
  go_upto_region 7 with (go_at_call 44; go_loud ((with_reducible refine (hst2.out _ (HS.out.ext hxA) (HV.out.ext hxA) (HX2.out.ext hxA)).mono ?_); rintro e w6 ⟨⟨v6, v7, er2, rfl, -, hE⟩, hxw6⟩; replace PF := PF.ext hxw6; replace PG1 := PG1.ext hxw6; replace PG2 := PG2.ext hxw6; replace P8 := P8.ext hxw6; replace P10 := P10.ext hxw6; replace hxA := hxA.trans hxw6; clear a0 a1 a2 a3 a4 a5 a6 a7 aL b10 b11 b12 b1L b20 b21 b22 b2L d0 d1 dL dF e0 e1 eL; obtain ⟨a0, a1, a2, a3, a4, a5, a6, a7⟩ := PF.c8; have aL := PF.lt; obtain ⟨b10, b11, b12⟩ := PG1.c3; have b1L := PG1.lt; obtain ⟨b20, b21, b22⟩ := PG2.c3; have b2L := PG2.lt; have d0 := P8.cell (i := 0) (v := .int .i64 0) rfl; have d1 := P8.cell (i := 1) (v := .int .i64 0) rfl; have dL := P8.lt; have dF := P8.free; have e0 := P10.cell (i := 0) (v := .int .i64 0) rfl; have e1 := P10.cell (i := 1) (v := .int .i64 0) rfl; have eL := P10.lt; rcases hE with ⟨h0, -⟩ | ⟨-, n9, rfl⟩; exact absurd h0 h2.out))
  refine wp_region_canon (fun w' => But gP8 w6 w') [(0, true), (1, true), (2, true), (3, true), (4, false), (5, true)] (by kernel_rfl) (by kernel_rfl) (by decide) (by kernel_rfl) ?_ ?_
  ·exact (But.refl _ _).drew
  refine canon_intro fun ops eo => ?_
  replace eo := canon_eo eo
  iterate 4 all_goals (refine cS eo rfl rfl evB ?_; simp only [ptN])
  all_goals first | (refine canon_ef (eo.out 4 rfl) rfl (fun K hK => ?_); go_simp; (skip); all_goals (refine hK _ _ ⟨(by first | exact (((But.refl _ _).drew).setK _).setK _ | exact (But.refl _ _).drew | exact ((((But.of ((Ext.refl _).drew.trans hx7))).setK _).setK _) | exact But.of ((Ext.refl _).drew.trans hx7)), ?_⟩; clear hK K; go_simp))
  all_goals (refine cS eo rfl rfl evB ?_; simp only [ptN])
  all_goals (clear eo; refine canon_done (NoPanic.normal ?_))
  have h5 := (P8).set 0 (.int .i64 0)
  have h6 := (P8.set 0 (.int .i64 0)).set 1 (.int .i64 0)
  have y0 := h5.cell (i := 0) (v := .int .i64 0) rfl; have y1 := h6.cell (i := 1) (v := .int .i64 0) rfl; have y2 := h6.cell (i := 0) (v := .int .i64 0) rfl
  have hxE := ((hxA.trans (Ext.refl w6).drew).setCell (p := ⟨gP8, 0, none⟩) hB8 (.int .i64 0)).setCell (p := ⟨gP8, 1, none⟩) hB8 (.int .i64 0)
  go_wp2
  exact bodyPost_ret (v := .tuple #[.slice none 0 0, .slice none 0 0, .agg #[.int .i64 0, .int .i64 0], vErr n9 cd]) (by simp [results, Tryz.results25, go_sem, y0, y1, y2]) rfl ⟨⟨_, _, _, rfl, RowI.nil _ _, RowI.nil _ _, (fun k h => by cases h), .inr ⟨h2.out, n9, rfl⟩⟩, hxE⟩
 replace h2 := Classical.not_not.1 h2
 rw [h2] at hst2
 have hlA := stF_len (nm := nm) (K := K) (p := p) (k := k) (q := q) (co := co) (r := r1) (c := c1) (ss := ss) (ls := ls) (xs := xs1)
 have hlB := stF_len (nm := nm) (K := K) (p := p) (k := k) (q := q) (co := co) (r := r2) (c := c2) (ss := ss) (ls := ls) (xs := xs2)
 by_cases h3 : ¬ (stF nm K p k q ss co ls r1 c1 xs1).length = (stF nm K p k q ss co ls r2 c2 xs2).length
 ·obtain ⟨eC, eX, eY⟩ := dm_3 h1 h2 h3
  rw [eX, eY, eC, dmL_no _ (by decide), dmL_no _ (by decide)]
  clear eC eX eY h1 h2
  generalize stF nm K p k q ss co ls r1 c1 xs1 = F1 at *
  generalize stF nm K p k q ss co ls r2 c2 xs2 = F2 at *
  generalize (lvR nm K p k q ss co ls r1 c1 xs1).1 = L1 at *
  generalize (lvR nm K p k q ss co ls r2 c2 xs2).1 = L2 at *
  have hxA : Ext w (((((w.alloc (.cells #[.string nm, .int .i64 K, .int .i64 p, .int .i64 k, .int .i64 q, .slice ps ss.length cs, .int .i64 co, .slice pl ls.length cl] 35)).alloc (.cells #[.int .i64 r1, .int .i64 c1, .slice pg1 xs1.length cg1] 37)).alloc (.cells #[.int .i64 r2, .int .i64 c2, .slice pg2 xs2.length cg2] 37)).alloc (.cells #[.int .i64 0, .int .i64 0] 59)).alloc (.cells #[.int .i64 0, .int .i64 0] 59)) := (((((Ext.refl w).alloc _).alloc _).alloc _).alloc _).alloc _
  have PF := ((((Blk.new w #[.string nm, .int .i64 K, .int .i64 p, .int .i64 k, .int .i64 q, .slice ps ss.length cs, .int .i64 co, .slice pl ls.length cl] 35).alloc (.cells #[.int .i64 r1, .int .i64 c1, .slice pg1 xs1.length cg1] 37)).alloc (.cells #[.int .i64 r2, .int .i64 c2, .slice pg2 xs2.length cg2] 37)).alloc (.cells #[.int .i64 0, .int .i64 0] 59)).alloc (.cells #[.int .i64 0, .int .i64 0] 59)
  have PG1 := (((Blk.new (w.alloc (.cells #[.string nm, .int .i64 K, .int .i64 p, .int .i64 k, .int .i64 q, .slice ps ss.length cs, .int .i64 co, .slice pl ls.length cl] 35)) #[.int .i64 r1, .int .i64 c1, .slice pg1 xs1.length cg1] 37).alloc (.cells #[.int .i64 r2, .int .i64 c2, .slice pg2 xs2.length cg2] 37)).alloc (.cells #[.int .i64 0, .int .i64 0] 59)).alloc (.cells #[.int .i64 0, .int .i64 0] 59)
  have PG2 := ((Blk.new ((w.alloc (.cells #[.string nm, .int .i64 K, .int .i64 p, .int .i64 k, .int .i64 q, .slice ps ss.length cs, .int .i64 co, .slice pl ls.length cl] 35)).alloc (.cells #[.int .i64 r1, .int .i64 c1, .slice pg1 xs1.length cg1] 37)) #[.int .i64 r2, .int .i64 c2, .slice pg2 xs2.length cg2] 37).alloc (.cells #[.int .i64 0, .int .i64 0] 59)).alloc (.cells #[.int .i64 0, .int .i64 0] 59)
  have P8 := (Blk.new (((w.alloc (.cells #[.string nm, .int .i64 K, .int .i64 p, .int .i64 k, .int .i64 q, .slice ps ss.length cs, .int .i64 co, .slice pl ls.length cl] 35)).alloc (.cells #[.int .i64 r1, .int .i64 c1, .slice pg1 xs1.length cg1] 37)).alloc (.cells #[.int .i64 r2, .int .i64 c2, .slice pg2 xs2.length cg2] 37)) #[.int .i64 0, .int .i64 0] 59).alloc (.cells #[.int .i64 0, .int .i64 0] 59)
  have P10 := Blk.new ((((w.alloc (.cells #[.string nm, .int .i64 K, .int .i64 p, .int .i64 k, .int .i64 q, .slice ps ss.length cs, .int .i64 co, .slice pl ls.length cl] 35)).alloc (.cells #[.int .i64 r1, .int .i64 c1, .slice pg1 xs1.length cg1] 37)).alloc (.cells #[.int .i64 r2, .int .i64 c2, .slice pg2 xs2.length cg2] 37)).alloc (.cells #[.int .i64 0, .int .i64 0] 59)) #[.int .i64 0, .int .i64 0] 59
  simp only [World.size_alloc] at PG1 PG2 P8 P10
  go_enter Tryz.func25, Tryz.ntmps25
  go_upto_region 2 with (fail)
  have hB8 : w.heap.size ≤ w.heap.size + 1 + 1 + 1 := by omega
  have hne8 : w.heap.size + 1 + 1 + 1 + 1 ≠ w.heap.size + 1 + 1 + 1 := by omega
  obtain ⟨gP10, hgP10E⟩ : ∃ g, w.heap.size + 1 + 1 + 1 + 1 = g := ⟨_, rfl⟩
  rw [hgP10E] at P10 ⊢
  rw [hgP10E] at hne8
  clear hgP10E
  obtain ⟨gP8, hgP8E⟩ : ∃ g, w.heap.size + 1 + 1 + 1 = g := ⟨_, rfl⟩
  rw [hgP8E] at P8 ⊢
  rw [hgP8E] at hB8 hne8
  clear hgP8E
  obtain ⟨gPG2, hgPG2E⟩ : ∃ g, w.heap.size + 1 + 1 = g := ⟨_, rfl⟩
  rw [hgPG2E] at PG2 ⊢
  clear hgPG2E
  obtain ⟨gPG1, hgPG1E⟩ : ∃ g, w.heap.size + 1 = g := ⟨_, rfl⟩
  rw [hgPG1E] at PG1 ⊢
  clear hgPG1E
  obtain ⟨gPF, hgPFE⟩ : ∃ g, w.heap.size = g := ⟨_, rfl⟩
  rw [hgPFE] at PF ⊢
  clear hgPFE
  generalize (((((w.alloc (.cells #[.string nm, .int .i64 K, .int .i64 p, .int .i64 k, .int .i64 q, .slice ps ss.length cs, .int .i64 co, .slice pl ls.length cl] 35)).alloc (.cells #[.int .i64 r1, .int .i64 c1, .slice pg1 xs1.length cg1] 37)).alloc (.cells #[.int .i64 r2, .int .i64 c2, .slice pg2 xs2.length cg2] 37)).alloc (.cells #[.int .i64 0, .int .i64 0] 59)).alloc (.cells #[.int .i64 0, .int .i64 0] 59)) = w0 at *
  obtain ⟨a0, a1, a2, a3, a4, a5, a6, a7⟩ := PF.c8; have aL := PF.lt; obtain ⟨b10, b11, b12⟩ := PG1.c3; have b1L := PG1.lt; obtain ⟨b20, b21, b22⟩ := PG2.c3; have b2L := PG2.lt; have d0 := P8.cell (i := 0) (v := .int .i64 0) rfl; have d1 := P8.cell (i := 1) (v := .int .i64 0) rfl; have dL := P8.lt; have dF := P8.free; have e0 := P10.cell (i := 0) (v := .int .i64 0) rfl; have e1 := P10.cell (i := 1) (v := .int .i64 0) rfl; have eL := P10.lt
  go_upto_region 5 with (go_at_call 44; go_loud ((with_reducible refine (hst1.out _ (HS.out.ext hxA) (HV.out.ext hxA) (HX1.out.ext hxA)).mono ?_); rintro e w4 ⟨⟨v4, v5, er, rfl, hTA, hE⟩, hxw4⟩; replace PF := PF.ext hxw4; replace PG1 := PG1.ext hxw4; replace PG2 := PG2.ext hxw4; replace P8 := P8.ext hxw4; replace P10 := P10.ext hxw4; replace hxA := hxA.trans hxw4; clear a0 a1 a2 a3 a4 a5 a6 a7 aL b10 b11 b12 b1L b20 b21 b22 b2L d0 d1 dL dF e0 e1 eL; obtain ⟨a0, a1, a2, a3, a4, a5, a6, a7⟩ := PF.c8; have aL := PF.lt; obtain ⟨b10, b11, b12⟩ := PG1.c3; have b1L := PG1.lt; obtain ⟨b20, b21, b22⟩ := PG2.c3; have b2L := PG2.lt; have d0 := P8.cell (i := 0) (v := .int .i64 0) rfl; have d1 := P8.cell (i := 1) (v := .int .i64 0) rfl; have dL := P8.lt; have dF := P8.free; have e0 := P10.cell (i := 0) (v := .int .i64 0) rfl; have e1 := P10.cell (i := 1) (v := .int .i64 0) rfl; have eL := P10.lt; rcases hE with ⟨-, rfl⟩ | ⟨h0, -⟩; rotate_left 1; exact absurd rfl h0))
  go_upto_region 8 with (go_at_call 44; go_loud ((with_reducible refine (hst2.out _ (HS.out.ext hxA) (HV.out.ext hxA) (HX2.out.ext hxA)).mono ?_); rintro e w6 ⟨⟨v6, v7, er2, rfl, hTB, hE⟩, hxw6⟩; replace PF := PF.ext hxw6; replace PG1 := PG1.ext hxw6; replace PG2 := PG2.ext hxw6; replace P8 := P8.ext hxw6; replace P10 := P10.ext hxw6; replace hxA := hxA.trans hxw6; clear a0 a1 a2 a3 a4 a5 a6 a7 aL b10 b11 b12 b1L b20 b21 b22 b2L d0 d1 dL dF e0 e1 eL; obtain ⟨a0, a1, a2, a3, a4, a5, a6, a7⟩ := PF.c8; have aL := PF.lt; obtain ⟨b10, b11, b12⟩ := PG1.c3; have b1L := PG1.lt; obtain ⟨b20, b21, b22⟩ := PG2.c3; have b2L := PG2.lt; have d0 := P8.cell (i := 0) (v := .int .i64 0) rfl; have d1 := P8.cell (i := 1) (v := .int .i64 0) rfl; have dL := P8.lt; have dF := P8.free; have e0 := P10.cell (i := 0) (v := .int .i64 0) rfl; have e1 := P10.cell (i := 1) (v := .int .i64 0) rfl; have eL := P10.lt; rcases hE with ⟨-, rfl⟩ | ⟨h0, -⟩; rotate_left 1; exact absurd rfl h0))
  obtain ⟨p4, c4, p5, c5, rfl, rfl, -, -, -, -⟩ := hTA.ends
  obtain ⟨p6, c6, p7, c7, rfl, rfl, -, -, -, -⟩ := hTB.ends
  rw [pos0_len F1, pos0_len F2]
  have h3i : ¬ (F1.length : Int) = (F2.length : Int) := by omega
  have h3b : ((F1.length : Int) != (F2.length : Int)) = true := by simpa using h3i
  clear hTA hTB
  go_upto_region 9 with (fail)
  refine wp_region_canon (fun w' => But gP8 w6 w') [(0, true), (1, false), (2, true), (3, true), (4, false), (5, true)] (by kernel_rfl) (by kernel_rfl) (by decide) (by kernel_rfl) ?_ ?_
  ·exact (But.refl _ _).drew
  refine canon_intro fun ops eo => ?_
  replace eo := canon_eo eo
  all_goals (refine cS eo rfl rfl evB ?_; simp only [ptN])
  all_goals first | (refine canon_ef (eo.out 1 rfl) rfl (fun K hK => ?_); go_simp; ((go_at_call 45; (with_reducible refine (fail_c _ _ _).mono ?_); rintro e w7 ⟨rfl, hx7⟩; have P8' := P8.ext ((Ext.refl _).drew.trans hx7); have z0 := P8'.cell (i := 0) (v := .int .i64 0) rfl; have z1 := P8'.cell (i := 1) (v := .int .i64 0) rfl; have zl := P8'.lt; have zf := P8'.free)); all_goals (refine hK _ _ ⟨(by first | exact (((But.refl _ _).drew).setK _).setK _ | exact (But.refl _ _).drew | exact ((((But.of ((Ext.refl _).drew.trans hx7))).setK _).setK _) | exact But.of ((Ext.refl _).drew.trans hx7)), ?_⟩; clear hK K; go_simp))
  iterate 2 all_goals (refine cS eo rfl rfl evB ?_; simp only [ptN])
  all_goals first | (refine canon_ef (eo.out 4 rfl) rfl (fun K hK => ?_); go_simp; (skip); all_goals (refine hK _ _ ⟨(by first | exact (((But.refl _ _).drew).setK _).setK _ | exact (But.refl _ _).drew | exact ((((But.of ((Ext.refl _).drew.trans hx7))).setK _).setK _) | exact But.of ((Ext.refl _).drew.trans hx7)), ?_⟩; clear hK K; go_simp))
  all_goals (refine cS eo rfl rfl evB ?_; simp only [ptN])
  all_goals (clear eo; refine canon_done (NoPanic.normal ?_))
  have h5 := ((P8.ext ((Ext.refl w6).drew.trans hx7))).set 0 (.int .i64 0)
  have h6 := ((P8.ext ((Ext.refl w6).drew.trans hx7)).set 0 (.int .i64 0)).set 1 (.int .i64 0)
  have y0 := h5.cell (i := 0) (v := .int .i64 0) rfl; have y1 := h6.cell (i := 1) (v := .int .i64 0) rfl; have y2 := h6.cell (i := 0) (v := .int .i64 0) rfl
  have hxE := ((hxA.trans ((Ext.refl w6).drew.trans hx7)).setCell (p := ⟨gP8, 0, none⟩) hB8 (.int .i64 0)).setCell (p := ⟨gP8, 1, none⟩) hB8 (.int .i64 0)
  go_wp2
  exact bodyPost_ret (v := .tuple #[.slice none 0 0, .slice none 0 0, .agg #[.int .i64 0, .int .i64 0], vErr 3 5]) (by simp [results, Tryz.results25, go_sem, y0, y1, y2]) rfl ⟨⟨_, _, _, rfl, RowI.nil _ _, RowI.nil _ _, (fun k h => by cases h), .inr ⟨(by decide), 3, rfl⟩⟩, hxE⟩
 replace h3 := Classical.not_not.1 h3
 obtain ⟨eC, eX, eY⟩ := dm_4 h1 h2 h3
 rw [eX, eY, eC, dmL_ok, dmL_ok]
 clear eC eX eY h1 h2
 generalize stF nm K p k q ss co ls r1 c1 xs1 = F1 at *
 generalize stF nm K p k q ss co ls r2 c2 xs2 = F2 at *
 generalize (lvR nm K p k q ss co ls r1 c1 xs1).1 = L1 at *
 generalize (lvR nm K p k q ss co ls r2 c2 xs2).1 = L2 at *
 rw [h3] at hlA ⊢
 obtain ⟨XX, hXX⟩ : ∃ XX, dmgTo (pos0 F1) (pos0 F2) F2 F2.length = XX := ⟨_, rfl⟩
 obtain ⟨YY, hYY⟩ : ∃ YY, negs F2 = YY := ⟨_, rfl⟩
 rw [hXX, hYY]
 replace hXX := Lib.hid hXX; replace hYY := Lib.hid hYY
 have hxA : Ext w (((((w.alloc (.cells #[.string nm, .int .i64 K, .int .i64 p, .int .i64 k, .int .i64 q, .slice ps ss.length cs, .int .i64 co, .slice pl ls.length cl] 35)).alloc (.cells #[.int .i64 r1, .int .i64 c1, .slice pg1 xs1.length cg1] 37)).alloc (.cells #[.int .i64 r2, .int .i64 c2, .slice pg2 xs2.length cg2] 37)).alloc (.cells #[.int .i64 0, .int .i64 0] 59)).alloc (.cells #[.int .i64 0, .int .i64 0] 59)) := (((((Ext.refl w).alloc _).alloc _).alloc _).alloc _).alloc _
 have PF := ((((Blk.new w #[.string nm, .int .i64 K, .int .i64 p, .int .i64 k, .int .i64 q, .slice ps ss.length cs, .int .i64 co, .slice pl ls.length cl] 35).alloc (.cells #[.int .i64 r1, .int .i64 c1, .slice pg1 xs1.length cg1] 37)).alloc (.cells #[.int .i64 r2, .int .i64 c2, .slice pg2 xs2.length cg2] 37)).alloc (.cells #[.int .i64 0, .int .i64 0] 59)).alloc (.cells #[.int .i64 0, .int .i64 0] 59)
 have PG1 := (((Blk.new (w.alloc (.cells #[.string nm, .int .i64 K, .int .i64 p, .int .i64 k, .int .i64 q, .slice ps ss.length cs, .int .i64 co, .slice pl ls.length cl] 35)) #[.int .i64 r1, .int .i64 c1, .slice pg1 xs1.length cg1] 37).alloc (.cells #[.int .i64 r2, .int .i64 c2, .slice pg2 xs2.length cg2] 37)).alloc (.cells #[.int .i64 0, .int .i64 0] 59)).alloc (.cells #[.int .i64 0, .int .i64 0] 59)
 have PG2 := ((Blk.new ((w.alloc (.cells #[.string nm, .int .i64 K, .int .i64 p, .int .i64 k, .int .i64 q, .slice ps ss.length cs, .int .i64 co, .slice pl ls.length cl] 35)).alloc (.cells #[.int .i64 r1, .int .i64 c1, .slice pg1 xs1.length cg1] 37)) #[.int .i64 r2, .int .i64 c2, .slice pg2 xs2.length cg2] 37).alloc (.cells #[.int .i64 0, .int .i64 0] 59)).alloc (.cells #[.int .i64 0, .int .i64 0] 59)
 have P8 := (Blk.new (((w.alloc (.cells #[.string nm, .int .i64 K, .int .i64 p, .int .i64 k, .int .i64 q, .slice ps ss.length cs, .int .i64 co, .slice pl ls.length cl] 35)).alloc (.cells #[.int .i64 r1, .int .i64 c1, .slice pg1 xs1.length cg1] 37)).alloc (.cells #[.int .i64 r2, .int .i64 c2, .slice pg2 xs2.length cg2] 37)) #[.int .i64 0, .int .i64 0] 59).alloc (.cells #[.int .i64 0, .int .i64 0] 59)
 have P10 := Blk.new ((((w.alloc (.cells #[.string nm, .int .i64 K, .int .i64 p, .int .i64 k, .int .i64 q, .slice ps ss.length cs, .int .i64 co, .slice pl ls.length cl] 35)).alloc (.cells #[.int .i64 r1, .int .i64 c1, .slice pg1 xs1.length cg1] 37)).alloc (.cells #[.int .i64 r2, .int .i64 c2, .slice pg2 xs2.length cg2] 37)).alloc (.cells #[.int .i64 0, .int .i64 0] 59)) #[.int .i64 0, .int .i64 0] 59
 simp only [World.size_alloc] at PG1 PG2 P8 P10
 go_enter Tryz.func25, Tryz.ntmps25
 go_upto_region 2 with (fail)
 have hB8 : w.heap.size ≤ w.heap.size + 1 + 1 + 1 := by omega
 have hne8 : w.heap.size + 1 + 1 + 1 + 1 ≠ w.heap.size + 1 + 1 + 1 := by omega
 obtain ⟨gP10, hgP10E⟩ : ∃ g, w.heap.size + 1 + 1 + 1 + 1 = g := ⟨_, rfl⟩
 rw [hgP10E] at P10 ⊢
 rw [hgP10E] at hne8
 clear hgP10E
 obtain ⟨gP8, hgP8E⟩ : ∃ g, w.heap.size + 1 + 1 + 1 = g := ⟨_, rfl⟩
 rw [hgP8E] at P8 ⊢
 rw [hgP8E] at hB8 hne8
 clear hgP8E
 obtain ⟨gPG2, hgPG2E⟩ : ∃ g, w.heap.size + 1 + 1 = g := ⟨_, rfl⟩
 rw [hgPG2E] at PG2 ⊢
 clear hgPG2E
 obtain ⟨gPG1, hgPG1E⟩ : ∃ g, w.heap.size + 1 = g := ⟨_, rfl⟩
 rw [hgPG1E] at PG1 ⊢
 clear hgPG1E
 obtain ⟨gPF, hgPFE⟩ : ∃ g, w.heap.size = g := ⟨_, rfl⟩
 rw [hgPFE] at PF ⊢
 clear hgPFE
 generalize (((((w.alloc (.cells #[.string nm, .int .i64 K, .int .i64 p, .int .i64 k, .int .i64 q, .slice ps ss.length cs, .int .i64 co, .slice pl ls.length cl] 35)).alloc (.cells #[.int .i64 r1, .int .i64 c1, .slice pg1 xs1.length cg1] 37)).alloc (.cells #[.int .i64 r2, .int .i64 c2, .slice pg2 xs2.length cg2] 37)).alloc (.cells #[.int .i64 0, .int .i64 0] 59)).alloc (.cells #[.int .i64 0, .int .i64 0] 59)) = w0 at *
 obtain ⟨a0, a1, a2, a3, a4, a5, a6, a7⟩ := PF.c8; have aL := PF.lt; obtain ⟨b10, b11, b12⟩ := PG1.c3; have b1L := PG1.lt; obtain ⟨b20, b21, b22⟩ := PG2.c3; have b2L := PG2.lt; have d0 := P8.cell (i := 0) (v := .int .i64 0) rfl; have d1 := P8.cell (i := 1) (v := .int .i64 0) rfl; have dL := P8.lt; have dF := P8.free; have e0 := P10.cell (i := 0) (v := .int .i64 0) rfl; have e1 := P10.cell (i := 1) (v := .int .i64 0) rfl; have eL := P10.lt
 go_upto_region 5 with (go_at_call 44; go_loud ((with_reducible refine (hst1.out _ (HS.out.ext hxA) (HV.out.ext hxA) (HX1.out.ext hxA)).mono ?_); rintro e w4 ⟨⟨v4, v5, er, rfl, hTA, hE⟩, hxw4⟩; replace PF := PF.ext hxw4; replace PG1 := PG1.ext hxw4; replace PG2 := PG2.ext hxw4; replace P8 := P8.ext hxw4; replace P10 := P10.ext hxw4; replace hxA := hxA.trans hxw4; clear a0 a1 a2 a3 a4 a5 a6 a7 aL b10 b11 b12 b1L b20 b21 b22 b2L d0 d1 dL dF e0 e1 eL; obtain ⟨a0, a1, a2, a3, a4, a5, a6, a7⟩ := PF.c8; have aL := PF.lt; obtain ⟨b10, b11, b12⟩ := PG1.c3; have b1L := PG1.lt; obtain ⟨b20, b21, b22⟩ := PG2.c3; have b2L := PG2.lt; have d0 := P8.cell (i := 0) (v := .int .i64 0) rfl; have d1 := P8.cell (i := 1) (v := .int .i64 0) rfl; have dL := P8.lt; have dF := P8.free; have e0 := P10.cell (i := 0) (v := .int .i64 0) rfl; have e1 := P10.cell (i := 1) (v := .int .i64 0) rfl; have eL := P10.lt; rcases hE with ⟨-, rfl⟩ | ⟨h0, -⟩; rotate_left 1; exact absurd rfl h0))
 have hBz4 := Lib.hid hxA.below.size; have hg4 := Lib.hid dL
 go_upto_region 8 with (go_at_call 44; go_loud ((with_reducible refine (hst2.out _ (HS.out.ext hxA) (HV.out.ext hxA) (HX2.out.ext hxA)).mono ?_); rintro e w6 ⟨⟨v6, v7, er2, rfl, hTB, hE⟩, hxw6⟩; replace PF := PF.ext hxw6; replace PG1 := PG1.ext hxw6; replace PG2 := PG2.ext hxw6; replace P8 := P8.ext hxw6; replace P10 := P10.ext hxw6; replace hxA := hxA.trans hxw6; clear a0 a1 a2 a3 a4 a5 a6 a7 aL b10 b11 b12 b1L b20 b21 b22 b2L d0 d1 dL dF e0 e1 eL; obtain ⟨a0, a1, a2, a3, a4, a5, a6, a7⟩ := PF.c8; have aL := PF.lt; obtain ⟨b10, b11, b12⟩ := PG1.c3; have b1L := PG1.lt; obtain ⟨b20, b21, b22⟩ := PG2.c3; have b2L := PG2.lt; have d0 := P8.cell (i := 0) (v := .int .i64 0) rfl; have d1 := P8.cell (i := 1) (v := .int .i64 0) rfl; have dL := P8.lt; have dF := P8.free; have e0 := P10.cell (i := 0) (v := .int .i64 0) rfl; have e1 := P10.cell (i := 1) (v := .int .i64 0) rfl; have eL := P10.lt; rcases hE with ⟨-, rfl⟩ | ⟨h0, -⟩; rotate_left 1; exact absurd rfl h0))
 obtain ⟨p4, c4, p5, c5, rfl, rfl, oA, -, -, -⟩ := hTA.ends
 have hU := hTB.un
 obtain ⟨p6, c6, p7, c7, rfl, rfl, oB, oE, -, l7⟩ := hTB.ends
 have hAl := pos0_len F1; have hBl := pos0_len F2
 have hmn := negs_len F2
 have hhit := Lib.hid (fun k h1 h2 => neg_hit (l := F2) (k := k) h1 h2)
 have hmiss := Lib.hid (fun k h1 h2 => neg_miss (l := F2) (k := k) h1 h2)
 have hdn := Lib.hid (fun k h => dmg_no (A := pos0 F1) (B := pos0 F2) (F := F2) (k := k) h)
 have hdu := Lib.hid (fun k h => dmg_up (A := pos0 F1) (B := pos0 F2) (F := F2) (k := k) h)
 have hdl := Lib.hid (dmg_len (pos0 F1) (pos0 F2) F2)
 have hd0 : dmgTo (pos0 F1) (pos0 F2) F2 0 = [] := rfl
 have hn0 : (negTo F2 0).length = 0 := rfl
 have hIA := Lib.hid (oA.ints.ext hxw6); have hIB := Lib.hid oB.ints; have hIE := Lib.hid oE.ints
 have hBz := Lib.hid hxA.below.size
 rw [hAl, hBl, h3]
 rw [h3] at hAl
 generalize pos0 F1 = A at *
 generalize pos0 F2 = B at *
 generalize dmgTo A B F2 = DM at *
 generalize hNT : (fun k => (negTo F2 k).length) = NT at *
 have hNk : ∀ k, (negTo F2 k).length = NT k := fun k => by rw [← hNT]
 simp only [hNk] at hhit hmiss hn0
 clear hNT hNk
 generalize negs F2 = E at *
 obtain ⟨n, hn⟩ : ∃ n, F2.length = n := ⟨_, rfl⟩
 obtain ⟨m, hm⟩ : ∃ m, E.length = m := ⟨_, rfl⟩
 rw [hn] at hAl hBl hlA hlB hmn hhit hmiss hXX ⊢
 rw [hm] at hmn l7 hhit hmiss hU ⊢
 replace hAl := Lib.hid hAl; replace hBl := Lib.hid hBl; replace hn := Lib.hid hn; replace hm := Lib.hid hm
 have hpe : ∃ b5 q5, (0 < m → p7 = some ⟨b5, q5, none⟩) := by
  by_cases h : 0 < m
  ·obtain ⟨b5, q5, e5, -⟩ := hIE.out 0 (by rw [hm.out]; exact h)
   exact ⟨b5, q5, fun _ => e5⟩
  ·exact ⟨0, 0, fun h2 => absurd h2 h⟩
 obtain ⟨b5, q5, hp7⟩ := hpe
 have hcE := Lib.hid (fun W (hx : Ext w6 W) l (hl : l < m) => by
  have := (hIE.out.ext hx) l (by rw [hm.out]; exact hl)
  obtain ⟨b', o', e', hl', y'⟩ := this
  rw [hp7 (by omega)] at e'
  obtain ⟨rfl, rfl⟩ : b5 = b' ∧ q5 = o' := by simpa using e'
  exact (And.intro hl' y' : b5 < W.heap.size ∧ W.cell? ⟨b5, q5 + l, none⟩ = some (.int .i64 (E.getD l 0))))
 have hL0 : LostV b5 q5 c7 m 0 (.slice p7 m c7) := ⟨p7, c7, rfl, by omega, fun h => hp7 h⟩
 have hr0 : RowI w6.heap.size (w6.alloc (.cells #[] 2)) (.slice (some ⟨w6.heap.size, 0, none⟩) 0 0) (DM 0) := by rw [hd0]; exact RowI.made (Nat.le_refl _)
 have hxl : Ext w6 (w6.alloc (.cells #[] 2)) := (Ext.refl _).alloc _
 rw [← hn0] at hL0
 have hnn : ¬ ((n : Int) != (n : Int)) = true := by simp
 clear hTA hTB oA oB oE hd0 hn0 hp7
 go_upto_region 13 with (fail)
 clear a0 a1 a2 a3 a4 a5 a6 a7 aL b10 b11 b12 b1L b20 b21 b22 b2L d0 d1 dL dF e0 e1 eL
 generalize w6.alloc (.cells #[] 2) = w8 at *
 generalize Value.slice (some ⟨w6.heap.size, 0, none⟩) 0 0 = v8 at *
 generalize hv7 : Value.slice p7 m c7 = v7 at *
 clear hv7
 go_loopw [18, 19, 57] (fun x y i wr => ∃ j : Nat, j ≤ n ∧ i = .int .i64 j ∧ RowI w6.heap.size wr x (DM j) ∧ LostV b5 q5 c7 m (NT j) y ∧ Ext w6 wr) (fun _ _ i _ => n - (intOf i).toNat)
 case atStart => exact ⟨0, Nat.zero_le _, rfl, hr0, hL0, hxl⟩
 case round =>
  clear hr0 hL0 hxl
  obtain ⟨j, hj, rfl, hr, hL, hxr⟩ := hrel
  by_cases hlt : j < n
  ·have hwB := hxr.below.size
   have hjl := hdl.out j
   have hDM : (DM j).length ≤ 1681 := by omega
   by_cases hf : F2.getD j 0 < 0
   ·obtain ⟨h4, h5, h6⟩ := hhit.out j hlt hf
    have hno := hdn.out j (.inl hf)
    obtain ⟨pq, cq, rfl, hcq, hpq⟩ := hL
    obtain rfl := hpq h4
    obtain ⟨hb5, y5⟩ := hcE.out wr hxr (NT j) h4
    rw [h5] at y5
    have hr4 : 0 < m - NT j := by omega
    have hr4i : (0 : Int) < ((m - NT j : Nat) : Int) := by omega
    have hsl1 := fun W => slice_one (b := b5) (o := q5 + NT j) (n := m - NT j) (c := cq) hr4 hcq W
    obtain ⟨pn, hsl, hpn⟩ := hsl1 wr
    have h6' : NT (j + 1) = NT j + 1 := h6
    generalize NT j = l at *
    obtain ⟨z, hz⟩ : ∃ z, m - l = z := ⟨_, rfl⟩
    rw [hz] at hr4 hr4i hsl hpn hcq ⊢
    replace hno := Lib.hid hno; replace h6' := Lib.hid h6'; replace h6 := Lib.hid h6; replace h5 := Lib.hid h5; replace hz := Lib.hid hz
    clear hsl1
    go_wp2
    exact ⟨⟨j + 1, hlt, by go_num, by rw [hno.out]; exact hr, ⟨pn, cq - 1, by rw [h6'.out, show m - (l + 1) = z - 1 by have := hz.out; omega], by rw [h6'.out]; have := hz.out; omega, fun h => by rw [hpn (by have := hz.out; rw [h6'.out] at h; omega), h6'.out]; rfl⟩, hxr⟩, by simp [intOf]; omega⟩
   ·obtain ⟨h4, h5, h6⟩ := hmiss.out j hlt (Int.not_lt.1 hf)
    have h6' : NT (j + 1) = NT j := h6
    rw [← h6'] at hL
    have hL2 := Lib.hid hL
    rw [h6'] at hL
    obtain ⟨pq, cq, rfl, hcq, hpq⟩ := hL
    obtain ⟨ba, oa, rfl, hba, ya⟩ := (hIA.out.ext hxr) j (by rw [hAl.out]; exact hlt)
    obtain ⟨bb, ob, rfl, hbb, yb⟩ := (hIB.out.ext hxr) j (by rw [hBl.out]; exact hlt)
    have hji : (j : Int) < (n : Int) := by omega
    have hno := hdn.out j; have hup := hdu.out j
    generalize A.getD j 0 = x at *
    generalize B.getD j 0 = y at *
    have hguard : (NT j < m ∧ ∃ v : Int, ¬ v = (j : Int) ∧ pq = some ⟨b5, q5 + NT j, none⟩ ∧ b5 < wr.heap.size ∧ wr.cell? ⟨b5, q5 + NT j, none⟩ = some (.int .i64 v)) ∨ m - NT j = 0 := by
     by_cases h7 : NT j < m
     ·obtain ⟨h8, h9⟩ := hcE.out wr hxr (NT j) h7
      exact .inl ⟨h7, _, h5 h7, hpq h7, h8, h9⟩
     ·exact .inr (by omega)
    clear h4 h5 h6 hpq hcq
    have hxd : Ext w6 wr.drew := hxr.drew
    have hrd : RowI w6.heap.size wr.drew u18 (DM j) := hr.drewN 1
    rcases hguard with ⟨h7, v, hv, rfl, hb5, y5⟩ | h7
    ·have hr4i : (0 : Int) < ((m - NT j : Nat) : Int) := by omega
     replace h6' := Lib.hid h6'
     generalize NT j = l at *
     generalize m - l = z at *
     go_upto_region 17 with (fail)
     refine wp_region_canon (fun w' => Ext wr w') [(0, true), (1, true), (2, true), (3, true), (4, true), (5, true), (6, true), (7, true), (8, true)] (by kernel_rfl) (by kernel_rfl) (by decide) (by kernel_rfl) ?_ ?_
     ·exact eX
     refine canon_intro fun ops eo => ?_
     replace eo := canon_eo eo
     iterate 9 all_goals (refine cS eo rfl rfl evE ?_; simp only [ptN])
     all_goals (clear eo; refine canon_done (NoPanic.normal ?_))
     by_cases hxy : x = y
     ·have hno2 := Lib.hid (hno (.inr hxy))
      have hxb : (x != y) = false := by simpa using hxy
      clear hno hup
      go_wp2
      go_roundw
      case rel => exact ⟨j + 1, hlt, by go_num, by rw [hno2.out]; exact hrd, hL2.out, hxd⟩
      case measure => simp [intOf]; omega
     ·have hup2 := Lib.hid (hup (fun h => h.elim hf hxy))
      have hxb : (x != y) = true := by simpa using hxy
      have hwd := hxd.below.size
      clear hno hup
      generalize wr.drew = wd at *
      go_wp2_with (at_builtin; go_loud (refine append1I hrd (by omega) hwd ?_ rfl rfl); intro v9 w9 hr9 hb9)
      go_roundw
      case rel => exact ⟨j + 1, hlt, by go_num, by rw [hup2.out]; exact hr9, hL2.out, Below.trans hxd hb9⟩
      case measure => simp [intOf]; omega
    ·rw [h7] at hL2 ⊢
     replace h6' := Lib.hid h6'
     go_upto_region 17 with (fail)
     refine wp_region_canon (fun w' => Ext wr w') [(0, true), (1, true), (2, true), (3, true), (4, true), (5, true), (6, true), (7, true), (8, true)] (by kernel_rfl) (by kernel_rfl) (by decide) (by kernel_rfl) ?_ ?_
     ·exact eX
     refine canon_intro fun ops eo => ?_
     replace eo := canon_eo eo
     iterate 9 all_goals (refine cS eo rfl rfl evE ?_; simp only [ptN])
     all_goals (clear eo; refine canon_done (NoPanic.normal ?_))
     by_cases hxy : x = y
     ·have hno2 := Lib.hid (hno (.inr hxy))
      have hxb : (x != y) = false := by simpa using hxy
      clear hno hup
      go_wp2
      go_roundw
      case rel => exact ⟨j + 1, hlt, by go_num, by rw [hno2.out]; exact hrd, hL2.out, hxd⟩
      case measure => simp [intOf]; omega
     ·have hup2 := Lib.hid (hup (fun h => h.elim hf hxy))
      have hxb : (x != y) = true := by simpa using hxy
      have hwd := hxd.below.size
      clear hno hup
      generalize wr.drew = wd at *
      go_wp2_with (at_builtin; go_loud (refine append1I hrd (by omega) hwd ?_ rfl rfl); intro v9 w9 hr9 hb9)
      go_roundw
      case rel => exact ⟨j + 1, hlt, by go_num, by rw [hup2.out]; exact hr9, hL2.out, Below.trans hxd hb9⟩
      case measure => simp [intOf]; omega
  ·obtain rfl : j = n := by omega
   have P8r := P8.ext hxr
   have hxz := hxA.trans hxr
   have d0 := P8r.cell (i := 0) (v := .int .i64 0) rfl; have d1 := P8r.cell (i := 1) (v := .int .i64 0) rfl; have dL := P8r.lt; have dF := P8r.free
   have h5 := P8r.set 0 (.int .i64 L1)
   have h6 := (P8r.set 0 (.int .i64 L1)).set 1 (.int .i64 L2)
   have y0 := h5.cell (i := 0) (v := .int .i64 L1) rfl; have y1 := h6.cell (i := 1) (v := .int .i64 L2) rfl; have y2 := h6.cell (i := 0) (v := .int .i64 L1) rfl
   have hxE := (hxz.setCell (p := ⟨gP8, 0, none⟩) hB8 (.int .i64 L1)).setCell (p := ⟨gP8, 1, none⟩) hB8 (.int .i64 L2)
   go_wp2
   have k1 : ∀ k, u18.ownBlock = some k → w6.heap.size ≤ k := fun k h => (hr.lt k h).1
   have k2 : ∀ k, v7.ownBlock = some k → _ ∧ k < w6.heap.size := fun k h => hU.lt k h
   have k3 : u18.ownBlock ≠ some gP8 := fun h => by have := k1 _ h; have := P8.lt; omega
   have k4 : v7.ownBlock ≠ some gP8 := fun h => by have := (k2 _ h).1; have := hg4.out; omega
   exact bodyPost_ret (v := .tuple #[u18, v7, .agg #[.int .i64 L1, .int .i64 L2], .nilIface]) (by simp [results, Tryz.results25, go_sem, y0, y1, y2]) rfl ⟨⟨u18, v7, _, rfl, by rw [← hXX.out]; exact ((hr.setOther k3).setOther k3).mono hBz.out, by rw [← hYY.out]; exact (((hU.ext hxr).setOther k4).setOther k4).mono hBz4.out, fun k h1 h2 => by have := k1 k h2; have := (k2 k h1).2; omega, .inl ⟨rfl, rfl⟩⟩, hxE⟩
end Go.Proofs.YtojdediohjghnaaGreatDoor
