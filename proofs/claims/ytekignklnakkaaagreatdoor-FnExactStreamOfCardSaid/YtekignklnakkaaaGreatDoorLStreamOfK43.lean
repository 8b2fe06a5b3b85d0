/- StreamOf, on both sides. -/
import Derived.Test.YtekignklnakkaaaGreatDoorLStreamOfK39
import Derived.Test.YtekignklnakkaaaGreatDoorLStreamOfK42
import Derived.Test.YtekignklnakkaaaGreatDoorLStreamOfK41
set_option linter.unusedVariables false
set_option linter.unusedSimpArgs false
namespace Go.Proofs.YtekignklnakkaaaGreatDoor
open Go.RowKit

def StC (B : Nat) (w' : World) (F : List Int) (cd : Int) (e : Ending) : Prop := ∃ v4 v5, e = .returned (.tuple #[v4, v5, .int .i64 cd]) ∧ TwoE B w' v4 v5 F
set_option maxHeartbeats 1600000 in
set_option maxRecDepth 100000 in
theorem sStreamOf_c (nm : ByteArray) (K p k q co r c : Int) (ps pl pg : Option Addr) (cs cl cg : Nat) (ss ls xs : List Int) (w : World) (hs : IntsAt w ps ss) (hlv : IntsAt w pl ls) (hx : IntsAt w pg xs) (hn : nm.size ≤ 1048576) (hl1 : ss.length ≤ 1048576) (hl2 : ls.length ≤ 1048576) (hl3 : xs.length ≤ 1048576) (hcap : xs.length ≤ cg) :
    Calls Tryz.prog 21 #[vFam nm K p k q ps ss.length cs co pl ls.length cl, vGrid r c pg xs.length cg] w fun e w' => StC w.heap.size w' (stF nm K p k q ss co ls r c xs) (lvR nm K p k q ss co ls r c xs).2 e ∧ Ext w w' := by
  have HS := Lib.hid hs; have HV := Lib.hid hlv; have HX := Lib.hid hx; clear hs hlv hx
  have hsz := Lib.hid (fun W (h1 : IntsAt W ps ss) (h2 : IntsAt W pl ls) (h3 : IntsAt W pg xs) => l19Size_c nm K p k q co r c ps pl pg cs cl cg ss ls xs W h1 h2 h3 hn hl1 hl2 hl3)
  have hxA : Ext w ((w.alloc (.cells #[.string nm, .int .i64 K, .int .i64 p, .int .i64 k, .int .i64 q, .slice ps ss.length cs, .int .i64 co, .slice pl ls.length cl] 35)).alloc (.cells #[.int .i64 r, .int .i64 c, .slice pg xs.length cg] 37)) := ((Ext.refl w).alloc _).alloc _
  have hbA := (Blk.new w #[.string nm, .int .i64 K, .int .i64 p, .int .i64 k, .int .i64 q, .slice ps ss.length cs, .int .i64 co, .slice pl ls.length cl] 35).alloc (.cells #[.int .i64 r, .int .i64 c, .slice pg xs.length cg] 37)
  have hbB := Blk.new1 w (.cells #[.string nm, .int .i64 K, .int .i64 p, .int .i64 k, .int .i64 q, .slice ps ss.length cs, .int .i64 co, .slice pl ls.length cl] 35) #[.int .i64 r, .int .i64 c, .slice pg xs.length cg] 37
  by_cases hz : szC nm K p k q ss co ls r c xs = 0
  · obtain ⟨⟨hF, hG⟩, hin, hcc⟩ := szC_zero hz
    have hlv := Lib.hid (fun W (h1 : IntsAt W ps ss) (h2 : IntsAt W pl ls) (h3 : IntsAt W pg xs) => l19Level_c nm K p k q co r c ps pl pg cs cl cg ss ls xs W h1 h2 h3 hn hl1 hl2 hl3 hcap hF hG hin hcc)
    by_cases hg : lvG K p k q co ls r c xs
    · have h0 : (lvR nm K p k q ss co ls r c xs).2 = 0 := lvR_iff.2 ⟨hz, hg⟩
      obtain ⟨L, hL⟩ : ∃ L : Nat, lvL K r c xs ls.length = L := ⟨(lvL K r c xs ls.length).toNat, by have := hg.1; omega⟩
      obtain ⟨M, hM⟩ : ∃ M, lvM K r c xs = M := ⟨_, rfl⟩
      have hst := Lib.hid (fun W (h1 : IntsAt W ps ss) (h2 : IntsAt W pl ls) (h3 : IntsAt W pg xs) => l19Stream_c nm K p k q co r c M L ps pl pg cs cl cg ss ls xs W h1 h2 h3 hn hl1 hl2 hl3 hcap hz hg hL hM)
      rw [h0, stF_ok h0]
      rw [hz] at hsz
      rw [hL, hM] at hlv
      replace hg := Lib.hid hg
      generalize strF K p k co r c xs = F at *
      clear hF hG hin hcc hz h0 hL hM
      go_enter Tryz.func21, Tryz.ntmps21
      go_upto_region 1 with (fail)
      obtain ⟨gF, hgF⟩ : ∃ g, w.heap.size = g := ⟨_, rfl⟩
      obtain ⟨gG, hgG⟩ : ∃ g, w.heap.size + 1 = g := ⟨_, rfl⟩
      have hBx := Lib.hid (fun W (h : Ext w W) => h.below.size)
      rw [hgG] at hbB ⊢
      rw [hgF] at hbA ⊢
      clear hgF hgG
      generalize ((w.alloc (.cells #[.string nm, .int .i64 K, .int .i64 p, .int .i64 k, .int .i64 q, .slice ps ss.length cs, .int .i64 co, .slice pl ls.length cl] 35)).alloc (.cells #[.int .i64 r, .int .i64 c, .slice pg xs.length cg] 37)) = w0 at *
      obtain ⟨a0, a1, a2, a3, a4, a5, a6, a7⟩ := hbA.c8; have aL := hbA.lt; obtain ⟨c0, c1, c2⟩ := hbB.c3; have cL := hbB.lt
      go_upto_region 2 with (go_at_call 42; go_loud ((with_reducible refine (hsz.out _ (HS.out.ext hxA) (HV.out.ext hxA) (HX.out.ext hxA)).mono ?_); rintro e w3 ⟨rfl, hx3⟩; replace hbA := hbA.ext hx3; replace hbB := hbB.ext hx3; replace hxA := hxA.trans hx3; clear a0 a1 a2 a3 a4 a5 a6 a7 aL c0 c1 c2 cL; obtain ⟨a0, a1, a2, a3, a4, a5, a6, a7⟩ := hbA.c8; have aL := hbA.lt; obtain ⟨c0, c1, c2⟩ := hbB.c3; have cL := hbB.lt))
      go_upto_region 5 with (go_at_call 29; go_loud ((with_reducible refine (hlv.out _ (HS.out.ext hxA) (HV.out.ext hxA) (HX.out.ext hxA)).mono ?_); rintro e w4 ⟨⟨hg4, rfl⟩ | ⟨hg4, rfl⟩, hx4⟩ <;> (first | exact absurd hg.out hg4 | skip); replace hbA := hbA.ext hx4; replace hbB := hbB.ext hx4; replace hxA := hxA.trans hx4; clear a0 a1 a2 a3 a4 a5 a6 a7 aL c0 c1 c2 cL; obtain ⟨a0, a1, a2, a3, a4, a5, a6, a7⟩ := hbA.c8; have aL := hbA.lt; obtain ⟨c0, c1, c2⟩ := hbB.c3; have cL := hbB.lt))
      go_wp2_with (go_at_call 43; go_loud ((with_reducible refine (hst.out _ (HS.out.ext hxA) (HV.out.ext hxA) (HX.out.ext hxA)).mono ?_); rintro e w5 ⟨⟨v4, v5, rfl, hT⟩, hx5⟩; replace hT := hT.low (hBx.out _ hxA)))
      exact bodyPost_ret (v := .tuple #[v4, v5, .int .i64 0]) (by simp [results, Tryz.results21, go_sem]) rfl ⟨⟨v4, v5, rfl, hT⟩, hxA.trans hx5⟩
    · have hcd : lvR nm K p k q ss co ls r c xs = (0, 7) := lvR_dm hz hg
      have h0 : ¬ (lvR nm K p k q ss co ls r c xs).2 = 0 := by rw [hcd]; decide
      rw [stF_no h0, hcd]
      rw [hz] at hsz
      replace hg := Lib.hid hg
      generalize lvL K r c xs ls.length = L at *
      generalize lvM K r c xs = M at *
      clear hF hG hin hcc hz h0 hcd
      go_enter Tryz.func21, Tryz.ntmps21
      go_upto_region 1 with (fail)
      obtain ⟨gF, hgF⟩ : ∃ g, w.heap.size = g := ⟨_, rfl⟩
      obtain ⟨gG, hgG⟩ : ∃ g, w.heap.size + 1 = g := ⟨_, rfl⟩
      have hBx := Lib.hid (fun W (h : Ext w W) => h.below.size)
      rw [hgG] at hbB ⊢
      rw [hgF] at hbA ⊢
      clear hgF hgG
      generalize ((w.alloc (.cells #[.string nm, .int .i64 K, .int .i64 p, .int .i64 k, .int .i64 q, .slice ps ss.length cs, .int .i64 co, .slice pl ls.length cl] 35)).alloc (.cells #[.int .i64 r, .int .i64 c, .slice pg xs.length cg] 37)) = w0 at *
      obtain ⟨a0, a1, a2, a3, a4, a5, a6, a7⟩ := hbA.c8; have aL := hbA.lt; obtain ⟨c0, c1, c2⟩ := hbB.c3; have cL := hbB.lt
      go_upto_region 2 with (go_at_call 42; go_loud ((with_reducible refine (hsz.out _ (HS.out.ext hxA) (HV.out.ext hxA) (HX.out.ext hxA)).mono ?_); rintro e w3 ⟨rfl, hx3⟩; replace hbA := hbA.ext hx3; replace hbB := hbB.ext hx3; replace hxA := hxA.trans hx3; clear a0 a1 a2 a3 a4 a5 a6 a7 aL c0 c1 c2 cL; obtain ⟨a0, a1, a2, a3, a4, a5, a6, a7⟩ := hbA.c8; have aL := hbA.lt; obtain ⟨c0, c1, c2⟩ := hbB.c3; have cL := hbB.lt))
      go_wp2_with (go_at_call 29; go_loud ((with_reducible refine (hlv.out _ (HS.out.ext hxA) (HV.out.ext hxA) (HX.out.ext hxA)).mono ?_); rintro e w4 ⟨⟨hg4, rfl⟩ | ⟨hg4, rfl⟩, hx4⟩ <;> (first | exact absurd hg4 hg.out | skip)))
      exact bodyPost_ret (v := .tuple #[.slice none 0 0, .slice none 0 0, .int .i64 7]) (by simp [results, Tryz.results21, go_sem]) rfl ⟨⟨_, _, rfl, TwoE.nil _ _⟩, hxA.trans hx4⟩
  · have hcd : lvR nm K p k q ss co ls r c xs = (0, szC nm K p k q ss co ls r c xs) := lvR_no hz
    have h0 : ¬ (lvR nm K p k q ss co ls r c xs).2 = 0 := by rw [hcd]; exact hz
    rw [stF_no h0, hcd]
    have hzb : (szC nm K p k q ss co ls r c xs != 0) = true := by simpa using hz
    simp only
    generalize szC nm K p k q ss co ls r c xs = z at *
    clear hz h0 hcd
    go_enter Tryz.func21, Tryz.ntmps21
    go_upto_region 1 with (fail)
    obtain ⟨gF, hgF⟩ : ∃ g, w.heap.size = g := ⟨_, rfl⟩
    obtain ⟨gG, hgG⟩ : ∃ g, w.heap.size + 1 = g := ⟨_, rfl⟩
    have hBx := Lib.hid (fun W (h : Ext w W) => h.below.size)
    rw [hgG] at hbB ⊢
    rw [hgF] at hbA ⊢
    clear hgF hgG
    generalize ((w.alloc (.cells #[.string nm, .int .i64 K, .int .i64 p, .int .i64 k, .int .i64 q, .slice ps ss.length cs, .int .i64 co, .slice pl ls.length cl] 35)).alloc (.cells #[.int .i64 r, .int .i64 c, .slice pg xs.length cg] 37)) = w0 at *
    obtain ⟨a0, a1, a2, a3, a4, a5, a6, a7⟩ := hbA.c8; have aL := hbA.lt; obtain ⟨c0, c1, c2⟩ := hbB.c3; have cL := hbB.lt
    go_wp2_with (go_at_call 42; go_loud ((with_reducible refine (hsz.out _ (HS.out.ext hxA) (HV.out.ext hxA) (HX.out.ext hxA)).mono ?_); rintro e w3 ⟨rfl, hx3⟩))
    exact bodyPost_ret (v := .tuple #[.slice none 0 0, .slice none 0 0, .int .i64 z]) (by simp [results, Tryz.results21, go_sem]) rfl ⟨⟨_, _, rfl, TwoE.nil _ _⟩, hxA.trans hx3⟩
set_option maxHeartbeats 1600000 in
set_option maxRecDepth 100000 in
theorem iStreamOf_c (nm : ByteArray) (K p k q co r c : Int) (ps pl pg : Option Addr) (cs cl cg : Nat) (ss ls xs : List Int) (w : World) (hs : IntsAt w ps ss) (hlv : IntsAt w pl ls) (hx : IntsAt w pg xs) (hn : nm.size ≤ 1048576) (hl1 : ss.length ≤ 1048576) (hl2 : ls.length ≤ 1048576) (hl3 : xs.length ≤ 1048576) (hcap : xs.length ≤ cg) (hL : LaidE w) :
    Calls Tryz.prog 22 #[vFam nm K p k q ps ss.length cs co pl ls.length cl, vGrid r c pg xs.length cg] w fun e w' => StC w.heap.size w' (stF nm K p k q ss co ls r c xs) (lvR nm K p k q ss co ls r c xs).2 e ∧ Ext w w' := by
  have HS := Lib.hid hs; have HV := Lib.hid hlv; have HX := Lib.hid hx; clear hs hlv hx
  have hst := Lib.hid (fun W (h1 : IntsAt W ps ss) (h2 : IntsAt W pl ls) (h3 : IntsAt W pg xs) => streamOf_c nm K p k q co r c ps pl pg cs cl cg ss ls xs W h1 h2 h3 hn hl1 hl2 hl3 hcap)
  replace hL := Lib.hid hL
  generalize stF nm K p k q ss co ls r c xs = F at *
  generalize (lvR nm K p k q ss co ls r c xs).2 = cd at *
  generalize (lvR nm K p k q ss co ls r c xs).1 = L at *
  have hxA : Ext w ((w.alloc (.cells #[.string nm, .int .i64 K, .int .i64 p, .int .i64 k, .int .i64 q, .slice ps ss.length cs, .int .i64 co, .slice pl ls.length cl] 35)).alloc (.cells #[.int .i64 r, .int .i64 c, .slice pg xs.length cg] 37)) := ((Ext.refl w).alloc _).alloc _
  have hbA := (Blk.new w #[.string nm, .int .i64 K, .int .i64 p, .int .i64 k, .int .i64 q, .slice ps ss.length cs, .int .i64 co, .slice pl ls.length cl] 35).alloc (.cells #[.int .i64 r, .int .i64 c, .slice pg xs.length cg] 37)
  have hbB := Blk.new1 w (.cells #[.string nm, .int .i64 K, .int .i64 p, .int .i64 k, .int .i64 q, .slice ps ss.length cs, .int .i64 co, .slice pl ls.length cl] 35) #[.int .i64 r, .int .i64 c, .slice pg xs.length cg] 37
  go_enter Tryz.func22, Tryz.ntmps22
  go_upto_region 1 with (fail)
  obtain ⟨gF, hgF⟩ : ∃ g, w.heap.size = g := ⟨_, rfl⟩
  obtain ⟨gG, hgG⟩ : ∃ g, w.heap.size + 1 = g := ⟨_, rfl⟩
  have hBx := Lib.hid (fun W (h : Ext w W) => h.below.size)
  rw [hgG] at hbB ⊢
  rw [hgF] at hbA ⊢
  clear hgF hgG
  generalize ((w.alloc (.cells #[.string nm, .int .i64 K, .int .i64 p, .int .i64 k, .int .i64 q, .slice ps ss.length cs, .int .i64 co, .slice pl ls.length cl] 35)).alloc (.cells #[.int .i64 r, .int .i64 c, .slice pg xs.length cg] 37)) = w0 at *
  obtain ⟨a0, a1, a2, a3, a4, a5, a6, a7⟩ := hbA.c8; have aL := hbA.lt; obtain ⟨c0, c1, c2⟩ := hbB.c3; have cL := hbB.lt
  go_upto_region 2 with (go_at_call 44; go_loud ((with_reducible refine (hst.out _ (HS.out.ext hxA) (HV.out.ext hxA) (HX.out.ext hxA)).mono ?_); rintro e w4 ⟨⟨v4, v5, er, rfl, hT, hE⟩, hx4⟩; replace hT := hT.low (hBx.out _ hxA)))
  rcases hE with ⟨rfl, rfl⟩ | ⟨h0, n, rfl⟩
  · go_wp2_with (go_at_call 35; (with_reducible refine (codeNil_c _).mono ?_); rintro e w5 ⟨rfl, hx5⟩)
    exact bodyPost_ret (v := .tuple #[v4, v5, .int .i64 0]) (by simp [results, Tryz.results22, go_sem]) rfl ⟨⟨v4, v5, rfl, hT.ext hx5⟩, (hxA.trans hx4).trans hx5⟩
  · clear h0
    go_wp2_with (go_at_call 35; (with_reducible refine (codeOf_c n cd _ (hL.out.ext (hxA.trans hx4))).mono ?_); rintro e w5 ⟨rfl, hx5⟩)
    exact bodyPost_ret (v := .tuple #[v4, v5, .int .i64 cd]) (by simp [results, Tryz.results22, go_sem]) rfl ⟨⟨v4, v5, rfl, hT.ext hx5⟩, (hxA.trans hx4).trans hx5⟩
end Go.Proofs.YtekignklnakkaaaGreatDoor
/- Finished grids, on both sides. -/
namespace Go.Proofs.YtekignklnakkaaaGreatDoor
open Go.RowKit

end Go.Proofs.YtekignklnakkaaaGreatDoor
