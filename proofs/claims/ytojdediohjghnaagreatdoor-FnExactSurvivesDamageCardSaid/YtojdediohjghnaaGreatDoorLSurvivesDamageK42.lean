/- StreamOf, on both sides. -/
import Derived.Test.YtojdediohjghnaaGreatDoorLSurvivesDamageK40
import Derived.Test.YtojdediohjghnaaGreatDoorLSurvivesDamageK38
import Derived.Test.YtojdediohjghnaaGreatDoorLSurvivesDamageK37
import Derived.Test.YtojdediohjghnaaGreatDoorLSurvivesDamageK22
import Derived.Test.YtojdediohjghnaaGreatDoorLSurvivesDamageK10
import Derived.Test.YtojdediohjghnaaGreatDoorLSurvivesDamageK01
import Derived.Test.YtojdediohjghnaaGreatDoorTie
import Derived.LaidMore
import Derived.SevenTiedAt
import Derived.Handed
import Derived.Test.YtojdediohjghnaaGreatDoorLSurvivesDamageK30
import Derived.Test.YtojdediohjghnaaGreatDoorCards
import Derived.Lay
set_option linter.unusedVariables false
set_option linter.unusedSimpArgs false
namespace Go.Proofs.YtojdediohjghnaaGreatDoor
open Go.RowKit

def StC (B : Nat) (w' : World) (F : List Int) (cd : Int) (e : Ending) : Prop := ∃ v4 v5, e = .returned (.tuple #[v4, v5, .int .i64 cd]) ∧ TwoE B w' v4 v5 F
set_option maxHeartbeats 1600000 in
set_option maxRecDepth 100000 in
theorem sStreamOf_c (nm : ByteArray) (K p k q co r c : Int) (ps pl pg : Option Addr) (cs cl cg : Nat) (ss ls xs : List Int) (w : World) (hs : IntsAt w ps ss) (hlv : IntsAt w pl ls) (hx : IntsAt w pg xs) (hn : nm.size ≤ 1048576) (hl1 : ss.length ≤ 1048576) (hl2 : ls.length ≤ 1048576) (hl3 : xs.length ≤ 1048576) (hcap : xs.length ≤ cg) :
  Calls Tryz.prog 33 #[vFam nm K p k q ps ss.length cs co pl ls.length cl, vGrid r c pg xs.length cg] w fun e w' => StC w.heap.size w' (stF nm K p k q ss co ls r c xs) (lvR nm K p k q ss co ls r c xs).2 e ∧ Ext w w' := by
 have HS := Lib.hid hs; have HV := Lib.hid hlv; have HX := Lib.hid hx; clear hs hlv hx
 have hsz := Lib.hid (fun W (h1 : IntsAt W ps ss) (h2 : IntsAt W pl ls) (h3 : IntsAt W pg xs) => l19Size_c nm K p k q co r c ps pl pg cs cl cg ss ls xs W h1 h2 h3 hn hl1 hl2 hl3)
 have hxA : Ext w ((w.alloc (.cells #[.string nm, .int .i64 K, .int .i64 p, .int .i64 k, .int .i64 q, .slice ps ss.length cs, .int .i64 co, .slice pl ls.length cl] 35)).alloc (.cells #[.int .i64 r, .int .i64 c, .slice pg xs.length cg] 37)) := ((Ext.refl w).alloc _).alloc _
 have hbA := (Blk.new w #[.string nm, .int .i64 K, .int .i64 p, .int .i64 k, .int .i64 q, .slice ps ss.length cs, .int .i64 co, .slice pl ls.length cl] 35).alloc (.cells #[.int .i64 r, .int .i64 c, .slice pg xs.length cg] 37)
 have hbB := Blk.new1 w (.cells #[.string nm, .int .i64 K, .int .i64 p, .int .i64 k, .int .i64 q, .slice ps ss.length cs, .int .i64 co, .slice pl ls.length cl] 35) #[.int .i64 r, .int .i64 c, .slice pg xs.length cg] 37
 by_cases hz : szC nm K p k q ss co ls r c xs = 0
 ·obtain ⟨⟨hF, hG⟩, hin, hcc⟩ := szC_zero hz
  have hlv := Lib.hid (fun W (h1 : IntsAt W ps ss) (h2 : IntsAt W pl ls) (h3 : IntsAt W pg xs) => l19Level_c nm K p k q co r c ps pl pg cs cl cg ss ls xs W h1 h2 h3 hn hl1 hl2 hl3 hcap hF hG hin hcc)
  by_cases hg : lvG K p k q co ls r c xs
  ·have h0 : (lvR nm K p k q ss co ls r c xs).2 = 0 := lvR_iff.2 ⟨hz, hg⟩
   obtain ⟨L, hL⟩ : ∃ L : Nat, lvL K r c xs ls.length = L := ⟨(lvL K r c xs ls.length).toNat, by have := hg.1; omega⟩
   obtain ⟨M, hM⟩ : ∃ M, lvM K r c xs = M := ⟨_, rfl⟩
   have hst := Lib.hid (fun W (h1 : IntsAt W ps ss) (h2 : IntsAt W pl ls) (h3 : IntsAt W pg xs) => l19Stream_c nm K p k q co r c M L ps pl pg cs cl cg ss ls xs W h1 h2 h3 hn hl1 hl2 hl3 hcap hz hg hL hM)
   rw [h0, stF_ok h0]
   rw [hz] at hsz
   rw [hL, hM] at hlv
   replace hg := Lib.hid hg
   generalize strF K p k co r c xs = F at *
   clear hF hG hin hcc hz h0 hL hM
   go_enter Tryz.func33, Tryz.ntmps33
   go_upto_region 1 with (fail)
   obtain ⟨gF, hgF⟩ : ∃ g, w.heap.size = g := ⟨_, rfl⟩
   obtain ⟨gG, hgG⟩ : ∃ g, w.heap.size + 1 = g := ⟨_, rfl⟩
   have hBx := Lib.hid (fun W (h : Ext w W) => h.below.size)
   rw [hgG] at hbB ⊢
   rw [hgF] at hbA ⊢
   clear hgF hgG
   generalize ((w.alloc (.cells #[.string nm, .int .i64 K, .int .i64 p, .int .i64 k, .int .i64 q, .slice ps ss.length cs, .int .i64 co, .slice pl ls.length cl] 35)).alloc (.cells #[.int .i64 r, .int .i64 c, .slice pg xs.length cg] 37)) = w0 at *
   obtain ⟨a0, a1, a2, a3, a4, a5, a6, a7⟩ := hbA.c8; have aL := hbA.lt; obtain ⟨c0, c1, c2⟩ := hbB.c3; have cL := hbB.lt
   go_upto_region 2 with (go_at_call 63; go_loud ((with_reducible refine (hsz.out _ (HS.out.ext hxA) (HV.out.ext hxA) (HX.out.ext hxA)).mono ?_); rintro e w3 ⟨rfl, hx3⟩; replace hbA := hbA.ext hx3; replace hbB := hbB.ext hx3; replace hxA := hxA.trans hx3; clear a0 a1 a2 a3 a4 a5 a6 a7 aL c0 c1 c2 cL; obtain ⟨a0, a1, a2, a3, a4, a5, a6, a7⟩ := hbA.c8; have aL := hbA.lt; obtain ⟨c0, c1, c2⟩ := hbB.c3; have cL := hbB.lt))
   go_upto_region 5 with (go_at_call 20; go_loud ((with_reducible refine (hlv.out _ (HS.out.ext hxA) (HV.out.ext hxA) (HX.out.ext hxA)).mono ?_); rintro e w4 ⟨⟨hg4, rfl⟩ | ⟨hg4, rfl⟩, hx4⟩ <;> (first | exact absurd hg.out hg4 | skip); replace hbA := hbA.ext hx4; replace hbB := hbB.ext hx4; replace hxA := hxA.trans hx4; clear a0 a1 a2 a3 a4 a5 a6 a7 aL c0 c1 c2 cL; obtain ⟨a0, a1, a2, a3, a4, a5, a6, a7⟩ := hbA.c8; have aL := hbA.lt; obtain ⟨c0, c1, c2⟩ := hbB.c3; have cL := hbB.lt))
   go_wp2_with (go_at_call 64; go_loud ((with_reducible refine (hst.out _ (HS.out.ext hxA) (HV.out.ext hxA) (HX.out.ext hxA)).mono ?_); rintro e w5 ⟨⟨v4, v5, rfl, hT⟩, hx5⟩; replace hT := hT.low (hBx.out _ hxA)))
   exact bodyPost_ret (v := .tuple #[v4, v5, .int .i64 0]) (by simp [results, Tryz.results33, go_sem]) rfl ⟨⟨v4, v5, rfl, hT⟩, hxA.trans hx5⟩
  ·have hcd : lvR nm K p k q ss co ls r c xs = (0, 7) := lvR_dm hz hg
   have h0 : ¬ (lvR nm K p k q ss co ls r c xs).2 = 0 := by rw [hcd]; decide
   rw [stF_no h0, hcd]
   rw [hz] at hsz
   replace hg := Lib.hid hg
   generalize lvL K r c xs ls.length = L at *
   generalize lvM K r c xs = M at *
   clear hF hG hin hcc hz h0 hcd
   go_enter Tryz.func33, Tryz.ntmps33
   go_upto_region 1 with (fail)
   obtain ⟨gF, hgF⟩ : ∃ g, w.heap.size = g := ⟨_, rfl⟩
   obtain ⟨gG, hgG⟩ : ∃ g, w.heap.size + 1 = g := ⟨_, rfl⟩
   have hBx := Lib.hid (fun W (h : Ext w W) => h.below.size)
   rw [hgG] at hbB ⊢
   rw [hgF] at hbA ⊢
   clear hgF hgG
   generalize ((w.alloc (.cells #[.string nm, .int .i64 K, .int .i64 p, .int .i64 k, .int .i64 q, .slice ps ss.length cs, .int .i64 co, .slice pl ls.length cl] 35)).alloc (.cells #[.int .i64 r, .int .i64 c, .slice pg xs.length cg] 37)) = w0 at *
   obtain ⟨a0, a1, a2, a3, a4, a5, a6, a7⟩ := hbA.c8; have aL := hbA.lt; obtain ⟨c0, c1, c2⟩ := hbB.c3; have cL := hbB.lt
   go_upto_region 2 with (go_at_call 63; go_loud ((with_reducible refine (hsz.out _ (HS.out.ext hxA) (HV.out.ext hxA) (HX.out.ext hxA)).mono ?_); rintro e w3 ⟨rfl, hx3⟩; replace hbA := hbA.ext hx3; replace hbB := hbB.ext hx3; replace hxA := hxA.trans hx3; clear a0 a1 a2 a3 a4 a5 a6 a7 aL c0 c1 c2 cL; obtain ⟨a0, a1, a2, a3, a4, a5, a6, a7⟩ := hbA.c8; have aL := hbA.lt; obtain ⟨c0, c1, c2⟩ := hbB.c3; have cL := hbB.lt))
   go_wp2_with (go_at_call 20; go_loud ((with_reducible refine (hlv.out _ (HS.out.ext hxA) (HV.out.ext hxA) (HX.out.ext hxA)).mono ?_); rintro e w4 ⟨⟨hg4, rfl⟩ | ⟨hg4, rfl⟩, hx4⟩ <;> (first | exact absurd hg4 hg.out | skip)))
   exact bodyPost_ret (v := .tuple #[.slice none 0 0, .slice none 0 0, .int .i64 7]) (by simp [results, Tryz.results33, go_sem]) rfl ⟨⟨_, _, rfl, TwoE.nil _ _⟩, hxA.trans hx4⟩
 ·have hcd : lvR nm K p k q ss co ls r c xs = (0, szC nm K p k q ss co ls r c xs) := lvR_no hz
  have h0 : ¬ (lvR nm K p k q ss co ls r c xs).2 = 0 := by rw [hcd]; exact hz
  rw [stF_no h0, hcd]
  have hzb : (szC nm K p k q ss co ls r c xs != 0) = true := by simpa using hz
  simp only
  generalize szC nm K p k q ss co ls r c xs = z at *
  clear hz h0 hcd
  go_enter Tryz.func33, Tryz.ntmps33
  go_upto_region 1 with (fail)
  obtain ⟨gF, hgF⟩ : ∃ g, w.heap.size = g := ⟨_, rfl⟩
  obtain ⟨gG, hgG⟩ : ∃ g, w.heap.size + 1 = g := ⟨_, rfl⟩
  have hBx := Lib.hid (fun W (h : Ext w W) => h.below.size)
  rw [hgG] at hbB ⊢
  rw [hgF] at hbA ⊢
  clear hgF hgG
  generalize ((w.alloc (.cells #[.string nm, .int .i64 K, .int .i64 p, .int .i64 k, .int .i64 q, .slice ps ss.length cs, .int .i64 co, .slice pl ls.length cl] 35)).alloc (.cells #[.int .i64 r, .int .i64 c, .slice pg xs.length cg] 37)) = w0 at *
  obtain ⟨a0, a1, a2, a3, a4, a5, a6, a7⟩ := hbA.c8; have aL := hbA.lt; obtain ⟨c0, c1, c2⟩ := hbB.c3; have cL := hbB.lt
  go_wp2_with (go_at_call 63; go_loud ((with_reducible refine (hsz.out _ (HS.out.ext hxA) (HV.out.ext hxA) (HX.out.ext hxA)).mono ?_); rintro e w3 ⟨rfl, hx3⟩))
  exact bodyPost_ret (v := .tuple #[.slice none 0 0, .slice none 0 0, .int .i64 z]) (by simp [results, Tryz.results33, go_sem]) rfl ⟨⟨_, _, rfl, TwoE.nil _ _⟩, hxA.trans hx3⟩
end Go.Proofs.YtojdediohjghnaaGreatDoor
/- Finished grids, on both sides. -/
namespace Go.Proofs.YtojdediohjghnaaGreatDoor
open Go.RowKit

end Go.Proofs.YtojdediohjghnaaGreatDoor
/- Families and grids of the laws: own copies, marks. -/
namespace Go.Proofs.YtojdediohjghnaaGreatDoor
open Go.RowKit

theorem OwnInts.farO {B g : Nat} {w w' : World} {q : Option Addr} {xs : List Int} (h : OwnInts B w q xs) (hb : But g w w') (hp : ∀ b o, 0 < xs.length → q = some ⟨b, o, none⟩ → b ≠ g) : OwnInts B w' q xs := fun i hi => by
 obtain ⟨b, o, h1, hB, h2, h3, h4⟩ := h i hi
 obtain ⟨hc, hf, hk, _⟩ := bucell hb
 have hn := hp b o (by omega) h1
 exact ⟨b, o, h1, hB, hk _ h2, by rw [hc _ _ h2 hn]; exact h3, by rw [hf _ _ h2 hn]; exact h4⟩
set_option maxHeartbeats 3200000 in
set_option maxRecDepth 100000 in
theorem toFamilyO_c (nm : ByteArray) (K p k q co : Int) (ps pl : Option Addr) (cs cl : Nat) (ss ls : List Int) (w : World) (h1 : IntsAt w ps ss) (h2 : IntsAt w pl ls) (hl1 : ss.length ≤ 1048576) (hl2 : ls.length ≤ 1048576) :
  Calls Tryz.prog 8 #[vFam nm K p k q ps ss.length cs co pl ls.length cl] w fun e w' => (∃ ps' pl', e = .returned (vFam nm K p k q ps' ss.length ss.length co pl' ls.length ls.length) ∧ OwnInts w.heap.size w' ps' ss ∧ OwnInts w.heap.size w' pl' ls ∧ (∀ b o b' o', ss ≠ [] → ls ≠ [] → ps' = some ⟨b, o, none⟩ → pl' = some ⟨b', o', none⟩ → b ≠ b')) ∧ Ext w w' := by
 have H1 := Lib.hid h1; have H2 := Lib.hid h2; clear h1 h2
 have t1 := Lib.hid (fun W (h : IntsAt W ps ss) => toInt64S_c ps cs ss W h hl1)
 have t2 := Lib.hid (fun W (h : IntsAt W pl ls) => toInt64S_c pl cl ls W h hl2)
 have hA := ((Blk.new w #[.string nm, .int .i64 K, .int .i64 p, .int .i64 k, .int .i64 q, .slice ps ss.length cs, .int .i64 co, .slice pl ls.length cl] 26).alloc (.cells #[.string ⟨#[]⟩, .int .i64 0, .int .i64 0, .int .i64 0, .int .i64 0, .slice none 0 0, .int .i64 0, .slice none 0 0] 35)).alloc (.cells #[.string nm, .int .i64 K, .int .i64 0, .int .i64 0, .int .i64 0, .slice none 0 0, .int .i64 0, .slice none 0 0] 35)
 have hR := (Blk.new (w.alloc (.cells #[.string nm, .int .i64 K, .int .i64 p, .int .i64 k, .int .i64 q, .slice ps ss.length cs, .int .i64 co, .slice pl ls.length cl] 26)) #[.string ⟨#[]⟩, .int .i64 0, .int .i64 0, .int .i64 0, .int .i64 0, .slice none 0 0, .int .i64 0, .slice none 0 0] 35).alloc (.cells #[.string nm, .int .i64 K, .int .i64 0, .int .i64 0, .int .i64 0, .slice none 0 0, .int .i64 0, .slice none 0 0] 35)
 have hO := Blk.new ((w.alloc (.cells #[.string nm, .int .i64 K, .int .i64 p, .int .i64 k, .int .i64 q, .slice ps ss.length cs, .int .i64 co, .slice pl ls.length cl] 26)).alloc (.cells #[.string ⟨#[]⟩, .int .i64 0, .int .i64 0, .int .i64 0, .int .i64 0, .slice none 0 0, .int .i64 0, .slice none 0 0] 35)) #[.string nm, .int .i64 K, .int .i64 0, .int .i64 0, .int .i64 0, .slice none 0 0, .int .i64 0, .slice none 0 0] 35
 have hx0 := (((Ext.refl w).alloc (.cells #[.string nm, .int .i64 K, .int .i64 p, .int .i64 k, .int .i64 q, .slice ps ss.length cs, .int .i64 co, .slice pl ls.length cl] 26)).alloc (.cells #[.string ⟨#[]⟩, .int .i64 0, .int .i64 0, .int .i64 0, .int .i64 0, .slice none 0 0, .int .i64 0, .slice none 0 0] 35)).alloc (.cells #[.string nm, .int .i64 K, .int .i64 0, .int .i64 0, .int .i64 0, .slice none 0 0, .int .i64 0, .slice none 0 0] 35)
 simp only [World.size_alloc] at hR hO
 go_enter Tryz.func8, Tryz.ntmps8
 go_upto_region 4 with (fail)
 generalize ((w.alloc (.cells #[.string nm, .int .i64 K, .int .i64 p, .int .i64 k, .int .i64 q, .slice ps ss.length cs, .int .i64 co, .slice pl ls.length cl] 26)).alloc (.cells #[.string ⟨#[]⟩, .int .i64 0, .int .i64 0, .int .i64 0, .int .i64 0, .slice none 0 0, .int .i64 0, .slice none 0 0] 35)).alloc (.cells #[.string nm, .int .i64 K, .int .i64 0, .int .i64 0, .int .i64 0, .slice none 0 0, .int .i64 0, .slice none 0 0] 35) = w0 at *
 have hz0 := hO.lt
 have nAO : w.heap.size ≠ w.heap.size + 1 + 1 := by omega
 have nRO : w.heap.size + 1 ≠ w.heap.size + 1 + 1 := by omega
 have bA : w.heap.size ≤ w.heap.size := by omega
 have bR : w.heap.size ≤ w.heap.size + 1 := by omega
 have bO : w.heap.size ≤ w.heap.size + 1 + 1 := by omega
 have a2 := hA.cell (i := 2) (v := .int .i64 p) rfl; have a3 := hA.cell (i := 3) (v := .int .i64 k) rfl; have a4 := hA.cell (i := 4) (v := .int .i64 q) rfl; have aL := hA.lt
 go_upto_region 5 with (go_at_call 23; (with_reducible refine (toFieldF_c _ _ _ _).mono ?_); rintro e w1 ⟨rfl, hx1⟩; have hO1 := hO.ext hx1; have o2 := hO1.cell (i := 2) (v := .int .i64 0) rfl; have o3 := hO1.cell (i := 3) (v := .int .i64 0) rfl; have o4 := hO1.cell (i := 4) (v := .int .i64 0) rfl; have ol := hO1.lt; have of := hO1.free)
 clear a2 a3 a4 aL
 have hB1 : But (w.heap.size + 1 + 1) w1 (((w1.setCell ⟨w.heap.size + 1 + 1, 2, none⟩ (.int .i64 p)).setCell ⟨w.heap.size + 1 + 1, 3, none⟩ (.int .i64 k)).setCell ⟨w.heap.size + 1 + 1, 4, none⟩ (.int .i64 q)) := ((But.set w1 (w.heap.size + 1 + 1) 2 _).setG _).setG _
 have hx2 := (((hx0.trans hx1).setCell (p := ⟨w.heap.size + 1 + 1, 2, none⟩) bO (.int .i64 p)).setCell (p := ⟨w.heap.size + 1 + 1, 3, none⟩) bO (.int .i64 k)).setCell (p := ⟨w.heap.size + 1 + 1, 4, none⟩) bO (.int .i64 q)
 have hO2 : Blk (((w1.setCell ⟨w.heap.size + 1 + 1, 2, none⟩ (.int .i64 p)).setCell ⟨w.heap.size + 1 + 1, 3, none⟩ (.int .i64 k)).setCell ⟨w.heap.size + 1 + 1, 4, none⟩ (.int .i64 q)) (w.heap.size + 1 + 1) #[.string nm, .int .i64 K, .int .i64 p, .int .i64 k, .int .i64 q, .slice none 0 0, .int .i64 0, .slice none 0 0] 35 := ((hO1.set 2 (.int .i64 p)).set 3 (.int .i64 k)).set 4 (.int .i64 q)
 have hA2 := (hA.ext hx1).but hB1 nAO
 have hR2 := (hR.ext hx1).but hB1 nRO
 clear hO hO1 hA hR o2 o3 o4 ol of hB1 hx0 hx1
 generalize ((w1.setCell ⟨w.heap.size + 1 + 1, 2, none⟩ (.int .i64 p)).setCell ⟨w.heap.size + 1 + 1, 3, none⟩ (.int .i64 k)).setCell ⟨w.heap.size + 1 + 1, 4, none⟩ (.int .i64 q) = w2 at *
 have a5 := hA2.cell (i := 5) (v := .slice ps ss.length cs) rfl; have aL := hA2.lt
 go_upto_region 6 with (go_at_call 24; (with_reducible refine (t1.out _ (H1.out.ext hx2)).mono ?_); rintro e w3 ⟨⟨qs, rfl, oqs⟩, hx3⟩; have hO3 := hO2.ext hx3; have o5 := hO3.cell (i := 5) (v := .slice none 0 0) rfl; have ol := hO3.lt; have of := hO3.free)
 clear a5 aL
 have hB3 : But (w.heap.size + 1 + 1) w3 (w3.setCell ⟨w.heap.size + 1 + 1, 5, none⟩ (.slice qs ss.length ss.length)) := But.set w3 (w.heap.size + 1 + 1) 5 _
 have hx4 := (hx2.trans hx3).setCell (p := ⟨w.heap.size + 1 + 1, 5, none⟩) bO (.slice qs ss.length ss.length)
 have hz2 := hO2.lt
 have hzw := hx2.below.size
 have hns : ∀ b o, 0 < ss.length → qs = some ⟨b, o, none⟩ → b ≠ w.heap.size + 1 ∧ b ≠ w.heap.size + 1 + 1 := fun b o hn e => by have := oqs.lt0 (fun h => by rw [h] at hn; exact absurd hn (by simp)) e; omega
 have oqs := Lib.hid ((oqs.setFar (g := w.heap.size + 1 + 1) (i := 5) (v := .slice qs ss.length ss.length) hz2).mono hzw)
 have hO4 : Blk _ (w.heap.size + 1 + 1) #[.string nm, .int .i64 K, .int .i64 p, .int .i64 k, .int .i64 q, .slice qs ss.length ss.length, .int .i64 0, .slice none 0 0] 35 := hO3.set 5 (.slice qs ss.length ss.length)
 have hA4 := (hA2.ext hx3).but hB3 nAO
 have hR4 := (hR2.ext hx3).but hB3 nRO
 clear hO2 hO3 hA2 hR2 o5 ol of hB3 hx2 hx3
 generalize w3.setCell ⟨w.heap.size + 1 + 1, 5, none⟩ (.slice qs ss.length ss.length) = w4 at *
 have a4 := hA4.cell (i := 6) (v := .int .i64 co) rfl; have aL := hA4.lt; have a7 := hA4.cell (i := 7) (v := .slice pl ls.length cl) rfl
 have o6 := hO4.cell (i := 6) (v := .int .i64 0) rfl; have ol := hO4.lt; have of := hO4.free
 go_upto_region 7 with (fail)
 have hB5 : But (w.heap.size + 1 + 1) w4 (w4.setCell ⟨w.heap.size + 1 + 1, 6, none⟩ (.int .i64 co)) := But.set w4 (w.heap.size + 1 + 1) 6 _
 have hx5 := hx4.setCell (p := ⟨w.heap.size + 1 + 1, 6, none⟩) bO (.int .i64 co)
 have hO5 : Blk _ (w.heap.size + 1 + 1) #[.string nm, .int .i64 K, .int .i64 p, .int .i64 k, .int .i64 q, .slice qs ss.length ss.length, .int .i64 co, .slice none 0 0] 35 := hO4.set 6 (.int .i64 co)
 have hA5 := hA4.but hB5 nAO
 have hR5 := hR4.but hB5 nRO
 have oqs := Lib.hid (oqs.out.farO hB5 (fun b o hn e => (hns b o hn e).2))
 clear hO4 hA4 hR4 a4 aL a7 o6 ol of hB5 hx4
 generalize w4.setCell ⟨w.heap.size + 1 + 1, 6, none⟩ (.int .i64 co) = w5 at *
 have hqb := Lib.hid (fun b o (hn : ss ≠ []) (e : qs = some ⟨b, o, none⟩) => (oqs.out.lt0 hn e).2)
 have a7 := hA5.cell (i := 7) (v := .slice pl ls.length cl) rfl; have aL := hA5.lt
 go_upto_region 8 with (go_at_call 24; (with_reducible refine (t2.out _ (H2.out.ext hx5)).mono ?_); rintro e w6 ⟨⟨ql, rfl, oql⟩, hx6⟩; have hO6 := hO5.ext hx6; have o7 := hO6.cell (i := 7) (v := .slice none 0 0) rfl; have ol := hO6.lt; have of := hO6.free)
 clear a7 aL
 have hB6 : But (w.heap.size + 1 + 1) w6 (w6.setCell ⟨w.heap.size + 1 + 1, 7, none⟩ (.slice ql ls.length ls.length)) := But.set w6 (w.heap.size + 1 + 1) 7 _
 have hx7 := (hx5.trans hx6).setCell (p := ⟨w.heap.size + 1 + 1, 7, none⟩) bO (.slice ql ls.length ls.length)
 have hz5 := hO5.lt
 have hz5w := hx5.below.size
 have hap : ∀ b o b' o', ss ≠ [] → ls ≠ [] → qs = some ⟨b, o, none⟩ → ql = some ⟨b', o', none⟩ → b ≠ b' := fun b o b' o' h1 h2 e1 e2 => by have := hqb.out b o h1 e1; have := (oql.lt0 h2 e2).1; omega
 replace hap := Lib.hid hap
 have oqs := Lib.hid ((oqs.out.ext hx6).farO hB6 (fun b o hn e => (hns b o hn e).2))
 have hnl : ∀ b o, 0 < ls.length → ql = some ⟨b, o, none⟩ → b ≠ w.heap.size + 1 ∧ b ≠ w.heap.size + 1 + 1 := fun b o hn e => by have := oql.lt0 (fun h => by rw [h] at hn; exact absurd hn (by simp)) e; omega
 have oql := Lib.hid ((oql.setFar (g := w.heap.size + 1 + 1) (i := 7) (v := .slice ql ls.length ls.length) hz5).mono hz5w)
 have hO7 : Blk _ (w.heap.size + 1 + 1) #[.string nm, .int .i64 K, .int .i64 p, .int .i64 k, .int .i64 q, .slice qs ss.length ss.length, .int .i64 co, .slice ql ls.length ls.length] 35 := hO6.set 7 (.slice ql ls.length ls.length)
 have hR7 := (hR5.ext hx6).but hB6 nRO
 clear hO5 hO6 hA5 hR5 o7 ol of hB6 hx5 hx6
 generalize w6.setCell ⟨w.heap.size + 1 + 1, 7, none⟩ (.slice ql ls.length ls.length) = w7 at *
 obtain ⟨o0, o1, o2, o3, o4, o5, o6, o7⟩ := hO7.c8; have ol := hO7.lt
 obtain ⟨r0, r1, r2, r3, r4, r5, r6, r7⟩ := hR7.c8; have rl := hR7.lt; have rf := hR7.free
 go_wp2_with fail
 have hF := hR7.fam (.string nm) (.int .i64 K) (.int .i64 p) (.int .i64 k) (.int .i64 q) (.slice qs ss.length ss.length) (.int .i64 co) (.slice ql ls.length ls.length)
 have hB9 := But.fam w7 (w.heap.size + 1) (.string nm) (.int .i64 K) (.int .i64 p) (.int .i64 k) (.int .i64 q) (.slice qs ss.length ss.length) (.int .i64 co) (.slice ql ls.length ls.length)
 have hx9 := hx7.fam bR (.string nm) (.int .i64 K) (.int .i64 p) (.int .i64 k) (.int .i64 q) (.slice qs ss.length ss.length) (.int .i64 co) (.slice ql ls.length ls.length)
 have oqs9 := oqs.out.farO hB9 (fun b o hn e => (hns b o hn e).1)
 have oql9 := oql.out.farO hB9 (fun b o hn e => (hnl b o hn e).1)
 obtain ⟨c0, c1, c2, c3, c4, c5, c6, c7⟩ := hF.c8
 unfold setFam at c0 c1 c2 c3 c4 c5 c6 c7 hx9 oqs9 oql9
 clear o0 o1 o2 o3 o4 o5 o6 o7 ol r0 r1 r2 r3 r4 r5 r6 r7 rl rf
 exact bodyPost_ret (v := vFam nm K p k q qs ss.length ss.length co ql ls.length ls.length) (by simp [results, Tryz.results8, go_sem, c0, c1, c2, c3, c4, c5, c6, c7]) rfl ⟨⟨qs, ql, rfl, oqs9, oql9, hap.out⟩, hx9⟩
def Far (p : Option Addr) (xs : List Int) (k : Nat) : Prop := ∀ b o, xs ≠ [] → p = some ⟨b, o, none⟩ → b ≠ k
end Go.Proofs.YtojdediohjghnaaGreatDoor
/- The wrap of a law that lists variables, the world's shape kept. -/
namespace Go.Proofs.YtojdediohjghnaaGreatDoor
open Go
theorem returns_and_shaped {H : Type} {enc : TypeId × Value → H} {a : Assume} {C : Checked} {os : Os} {f : FuncId} {fn : Func} {s : ChangeSpec} {conds : List PathCond} {apart fresh handsOn again : Bool} {X : World → Array Value → Prop}
  (hX : ∀ (w w' : World) (args : Array Value), w.heap = w'.heap → X w args → X w' args)
  (own : ownKnob C.prog.godebug = none) (started : os.Started) (noInit : C.prog.inits.idxOf? f = none) (hfn : C.prog.funcs[f]? = some fn)
  (witness : ∃ (w : World) (tape : Tape) (i : Input), w.os = os ∧ (w.forCall tape i).Shaped C.prog ∧ i.vars = [] ∧ Input.okWide C.prog (w.forCall tape i) .any w.heap.size f i ∧
   ((s.pre enc C.prog fn conds apart (w.forCall tape i).memory i.args ∧ X (w.forCall tape i).memory i.args) ∧ sizedMet enc C.prog fn (OpenSpec.ofChange s) apart (w.forCall tape i).memory i.args) ∧ a.holds C.prog (lone (Frame.enter C.prog f i.args .normal) [] (w.forCall tape i)))
  (contract : ∀ (W : World) (base : Nat) (args : Array Value) (ds gs : List (DataW H)) (before : List MemPlace),
   (∀ (j : Nat) t v, fn.params[j]? = some t → args[j]? = some v → Value.okWide C.prog W .any base t v) →
   DataW.Whole enc C.prog fn.params.toList s.vars apart W args.toList ds gs before → X W args → W.ShapedOpen C.prog →
   Calls C.prog f args W fun e W' => ∃ v, e = .returned v ∧ s.post enc C.prog fn apart fresh handsOn again W args v W') :
  ReturnsInHanded a C os f .any (fun w args => (s.pre enc C.prog fn conds apart w args ∧ X w args) ∧ sizedMet enc C.prog fn (OpenSpec.ofChange s) apart w args) (s.post enc C.prog fn apart fresh handsOn again) := by
 refine returnsInHanded_of_calls own started noInit witness ?_
 intro w tape i _ hsh _ hok hpre hholds
 obtain ⟨_, _, _, fn', hfn', _, _, _, _, hval⟩ := hok
 have e : fn' = fn := Option.some.inj (hfn'.symm.trans hfn)
 subst e
 obtain ⟨⟨⟨ds, gs, before, hw, hc⟩, hx⟩, hz⟩ := hpre
 have hw' := DataW.Whole.of_heap (w' := w.forCall tape i) (by rfl) hw
 refine (contract (w.forCall tape i) w.heap.size i.args ds gs before hval hw' (hX _ _ _ (by rfl) hx) hsh).mono fun e W' ⟨v, he, hp⟩ => ?_
 subst he
 exact ChangeSpec.post_blind hp
end Go.Proofs.YtojdediohjghnaaGreatDoor
/- LevelOf: the program's side, and the walk of the law. -/
namespace Go.Proofs.YtojdediohjghnaaGreatDoor
open Go.RowKit

set_option maxRecDepth 100000 in
theorem szFamilyB_c (nm : ByteArray) (K p k q co : Int) (ps pl : Option Addr) (ns cs nl cl : Nat) (w : World) (hn : nm.size ≤ maxLen) (h1 : ns ≤ maxLen) (h2 : nl ≤ maxLen) :
  Calls Tryz.prog 5 #[vFam nm K p k q ps ns cs co pl nl cl, .int .i64 1048576] w fun e w' => (∃ r : Int, e = .returned (.int .i64 r) ∧ (r = -1 ∨ ((0 ≤ r ∧ r ≤ 1048576) ∧ nm.size ≤ 1048576 ∧ ns ≤ 1048576 ∧ nl ≤ 1048576))) ∧ Ext w w' := by
 have hx0 : Ext w (w.alloc (.cells #[.string nm, .int .i64 K, .int .i64 p, .int .i64 k, .int .i64 q, .slice ps ns cs, .int .i64 co, .slice pl nl cl] 26)) := (Ext.refl w).alloc _
 unfold maxLen at hn h1 h2
 by_cases a1 : nm.size ≤ 1048576
 ·have d1 : ¬ (1048576 : Int) - nm.size < 0 := by omega
  have s1 := Lib.hid (fun W => sz_c ps cs ns (1048576 - nm.size) W (by omega) (by omega))
  by_cases a2 : (ns : Int) ≤ 1048576 - nm.size
  ·have d2 : ¬ (1048576 : Int) - nm.size - ns < 0 := by omega
   rw [if_pos a2] at s1
   have s2 := Lib.hid (fun W => sz_c pl cl nl (1048576 - nm.size - ns) W (by omega) (by omega))
   by_cases a3 : (nl : Int) ≤ 1048576 - nm.size - ns
   ·have d3 : ¬ (1048576 : Int) - nm.size - ns - nl < 0 := by omega
    rw [if_pos a3] at s2
    go_enter Tryz.func5, Tryz.ntmps5
    go_wp2_with (first
     | (go_at_call 19; (with_reducible refine (s1.out _).mono ?_); rintro e w1 ⟨rfl, rfl⟩)
     | (go_at_call 19; (with_reducible refine (s2.out _).mono ?_); rintro e w1 ⟨rfl, rfl⟩))
    go_ret
    exact ⟨⟨_, rfl, .inr ⟨⟨by omega, by omega⟩, by omega, by omega, by omega⟩⟩, hx0⟩
   ·rw [if_neg a3] at s2
    go_enter Tryz.func5, Tryz.ntmps5
    go_wp2_with (first
     | (go_at_call 19; (with_reducible refine (s1.out _).mono ?_); rintro e w1 ⟨rfl, rfl⟩)
     | (go_at_call 19; (with_reducible refine (s2.out _).mono ?_); rintro e w1 ⟨rfl, rfl⟩))
    go_ret
    exact ⟨⟨_, rfl, .inl rfl⟩, hx0⟩
  ·rw [if_neg a2] at s1
   go_enter Tryz.func5, Tryz.ntmps5
   go_wp2_with (go_at_call 19; (with_reducible refine (s1.out _).mono ?_); rintro e w1 ⟨rfl, rfl⟩)
   go_ret
   exact ⟨⟨_, rfl, .inl rfl⟩, hx0⟩
 ·have d1 : (1048576 : Int) - nm.size < 0 := by omega
  go_enter Tryz.func5, Tryz.ntmps5
  go_wp2
  go_ret
  exact ⟨⟨_, rfl, .inl rfl⟩, hx0⟩
set_option maxRecDepth 100000 in
theorem szGridL_c (r c : Int) (p : Option Addr) (k n : Nat) (L : Int) (w : World) (hn : n ≤ 9223372036854775807) (hL : 0 ≤ L ∧ L ≤ 1048576) :
  Calls Tryz.prog 6 #[vGrid r c p n k, .int .i64 L] w fun e w' => e = .returned (.int .i64 (if (n : Int) ≤ L then L - n else -1)) ∧ Ext w w' := by
 have hsz := Lib.hid (fun W => sz_c p k n L W hL hn)
 by_cases h : (n : Int) ≤ L
 ·rw [if_pos h] at hsz ⊢
  have h2 : ¬ L - (n : Int) < 0 := by omega
  go_enter Tryz.func6, Tryz.ntmps6
  go_wp2_with (go_at_call 19; (with_reducible refine (hsz.out _).mono ?_); rintro e w1 ⟨rfl, rfl⟩)
  go_ret
  exact ⟨rfl, eX⟩
 ·rw [if_neg h] at hsz ⊢
  go_enter Tryz.func6, Tryz.ntmps6
  go_wp2_with (go_at_call 19; (with_reducible refine (hsz.out _).mono ?_); rintro e w1 ⟨rfl, rfl⟩)
  go_ret
  exact ⟨rfl, eX⟩
theorem laidE_of {W : World} (h : laidMetH Tryz.prog [("errors.errorType", Rows.laid_errors_errorType)] W) : LaidE W := by
 have hsize : Tryz.prog.types.size = 422 - 100 := by kernel_rfl
 have honly : ((List.range (422 - 100)).filter fun t => Tryz.prog.rowNamed t [101, 114, 114, 111, 114]) = [61] := by kernel_rfl
 have hrt : (Tryz.prog.cutTypes.find? (·.1 == "internal/reflectlite.rtype")).map (·.2) = some 186 := by kernel_rfl
 have het : Tryz.prog.globalNamed "errors.errorType" = some 0 := by kernel_rfl
 have h' : laidMet Tryz.prog [] W ∧ handlesMet Tryz.prog [("errors.errorType", Rows.laid_errors_errorType)] W := h
 obtain ⟨name, u, ty, e1, e2, e3, e4, e5⟩ := h'.2 _ (List.mem_singleton.2 rfl)
 have en : name = [101, 114, 114, 111, 114] := (Option.some.inj e1).symm
 subst en
 obtain rfl := Option.some.inj (hrt.symm.trans e2)
 have hm : ty ∈ (List.range (422 - 100)).filter fun t => Tryz.prog.rowNamed t [101, 114, 114, 111, 114] := List.mem_filter.2 ⟨List.mem_range.2 (by rw [← hsize]; exact e3), e4⟩
 rw [honly] at hm
 obtain rfl := List.mem_singleton.1 hm
 have hh : typeHandle Tryz.prog 61 = .pointer (some ⟨1, 61, none⟩) := by kernel_rfl
 rw [hh] at e5
 unfold LaidE
 simpa using World.var?_cell het e5 0
end Go.Proofs.YtojdediohjghnaaGreatDoor
/- StreamOf: the walk of the law. -/
namespace Go.Proofs.YtojdediohjghnaaGreatDoor
open Go.RowKit

def StR (B : Nat) (w' : World) (X Y : List Int) (cd : Int) (e : Ending) : Prop := ∃ p4 c4 p5 c5, e = .returned (.tuple #[.slice p4 X.length c4, .slice p5 Y.length c5, .int .i64 cd]) ∧ OwnInts B w' p4 X ∧ OwnInts B w' p5 Y ∧ (∀ b o b' o', X ≠ [] → Y ≠ [] → p4 = some ⟨b, o, none⟩ → p5 = some ⟨b', o', none⟩ → b ≠ b')
theorem StC.two {B : Nat} {w' : World} {F : List Int} {cd : Int} {e : Ending} (h : StC B w' F cd e) : StR B w' (pos0 F) (negs F) cd e := by
 obtain ⟨v4, v5, rfl, hT⟩ := h
 have hap := hT.ap
 obtain ⟨p4, c4, p5, c5, rfl, rfl, o4, o5, -, -⟩ := hT.ends
 refine ⟨p4, c4, p5, c5, rfl, o4, o5, fun b o b' o' _ _ e1 e2 => ?_⟩
 subst e1
 subst e2
 intro e
 subst e
 exact hap b rfl rfl
theorem OwnInts.far {B B2 : Nat} {w w' : World} {q : Option Addr} {ys : List Int} (h : OwnInts B w q ys) (hb : Below B2 w w') (hk : ∀ b o, ys ≠ [] → q = some ⟨b, o, none⟩ → w'.heap[b]? = w.heap[b]?) : OwnInts B w' q ys :=
 h.keep hb.size fun b o hn e _ => hk b o hn e

end Go.Proofs.YtojdediohjghnaaGreatDoor
