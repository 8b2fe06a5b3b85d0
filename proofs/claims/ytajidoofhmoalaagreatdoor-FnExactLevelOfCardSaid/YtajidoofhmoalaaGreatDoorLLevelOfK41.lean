/- The level of a symbol, on the reference's side. -/
import Derived.Test.YtajidoofhmoalaaGreatDoorLLevelOfK40
set_option linter.unusedVariables false
set_option linter.unusedSimpArgs false
namespace Go.Proofs.YtajidoofhmoalaaGreatDoor
open Go.RowKit

theorem szC_zero {nm : ByteArray} {K p k q co r c : Int} {ss ls xs : List Int} (h : szC nm K p k q ss co ls r c xs = 0) : (famOK nm K p k q ss co ls ∧ gridOK r c xs) ∧ r ∈ ss ∧ c = colsV K co r := by
  unfold szC at h
  by_cases h1 : famOK nm K p k q ss co ls ∧ gridOK r c xs
  · rw [if_pos h1] at h
    by_cases h2 : r ∈ ss ∧ c = colsV K co r
    · exact ⟨h1, h2⟩
    · rw [if_neg h2] at h
      exact absurd h (by decide)
  · rw [if_neg h1] at h
    exact absurd h (by decide)
open Classical in
noncomputable def lvR (nm : ByteArray) (K p k q : Int) (ss : List Int) (co : Int) (ls : List Int) (r c : Int) (xs : List Int) : Int × Int :=
  if szC nm K p k q ss co ls r c xs = 0 then (if lvG K p k q co ls r c xs then (lvL K r c xs ls.length, 0) else (0, 7)) else (0, szC nm K p k q ss co ls r c xs)
theorem lvR_ok {nm : ByteArray} {K p k q co r c : Int} {ss ls xs : List Int} (h : szC nm K p k q ss co ls r c xs = 0) (hg : lvG K p k q co ls r c xs) : lvR nm K p k q ss co ls r c xs = (lvL K r c xs ls.length, 0) := by
  unfold lvR
  rw [if_pos h, if_pos hg]
theorem lvR_dm {nm : ByteArray} {K p k q co r c : Int} {ss ls xs : List Int} (h : szC nm K p k q ss co ls r c xs = 0) (hg : ¬ lvG K p k q co ls r c xs) : lvR nm K p k q ss co ls r c xs = (0, 7) := by
  unfold lvR
  rw [if_pos h, if_neg hg]
theorem lvR_no {nm : ByteArray} {K p k q co r c : Int} {ss ls xs : List Int} (h : ¬ szC nm K p k q ss co ls r c xs = 0) : lvR nm K p k q ss co ls r c xs = (0, szC nm K p k q ss co ls r c xs) := if_neg h
set_option maxHeartbeats 800000 in
set_option maxRecDepth 100000 in
theorem sLevelOf_c (nm : ByteArray) (K p k q co r c : Int) (ps pl pg : Option Addr) (cs cl cg : Nat) (ss ls xs : List Int) (w : World) (hs : IntsAt w ps ss) (hlv : IntsAt w pl ls) (hx : IntsAt w pg xs) (hn : nm.size ≤ 1048576) (hl1 : ss.length ≤ 1048576) (hl2 : ls.length ≤ 1048576) (hl3 : xs.length ≤ 1048576) (hcap : xs.length ≤ cg) :
    Calls Tryz.prog 22 #[vFam nm K p k q ps ss.length cs co pl ls.length cl, vGrid r c pg xs.length cg] w fun e w' => e = .returned (.tuple #[.int .i64 (lvR nm K p k q ss co ls r c xs).1, .int .i64 (lvR nm K p k q ss co ls r c xs).2]) ∧ Ext w w' := by
  have hx' := hx; have HS := Lib.hid hs; have HV := Lib.hid hlv; have HX := Lib.hid hx; clear hs hlv hx
  have hxA : Ext w ((w.alloc (.cells #[.string nm, .int .i64 K, .int .i64 p, .int .i64 k, .int .i64 q, .slice ps ss.length cs, .int .i64 co, .slice pl ls.length cl] 35)).alloc (.cells #[.int .i64 r, .int .i64 c, .slice pg xs.length cg] 37)) := ((Ext.refl w).alloc _).alloc _
  have hbA := (Blk.new w #[.string nm, .int .i64 K, .int .i64 p, .int .i64 k, .int .i64 q, .slice ps ss.length cs, .int .i64 co, .slice pl ls.length cl] 35).alloc (.cells #[.int .i64 r, .int .i64 c, .slice pg xs.length cg] 37)
  have hbB := Blk.new1 w (.cells #[.string nm, .int .i64 K, .int .i64 p, .int .i64 k, .int .i64 q, .slice ps ss.length cs, .int .i64 co, .slice pl ls.length cl] 35) #[.int .i64 r, .int .i64 c, .slice pg xs.length cg] 37
  have hsz := Lib.hid (fun W (h1 : IntsAt W ps ss) (h2 : IntsAt W pl ls) (h3 : IntsAt W pg xs) => l19Size_c nm K p k q co r c ps pl pg cs cl cg ss ls xs W h1 h2 h3 hn hl1 hl2 hl3)
  by_cases hz : szC nm K p k q ss co ls r c xs = 0
  · obtain ⟨⟨hF, hG⟩, hin, hcc⟩ := szC_zero hz
    have hlv := Lib.hid (fun W (h1 : IntsAt W ps ss) (h2 : IntsAt W pl ls) (h3 : IntsAt W pg xs) => l19Level_c nm K p k q co r c ps pl pg cs cl cg ss ls xs W h1 h2 h3 hn hl1 hl2 hl3 hcap hF hG hin hcc)
    have hR1 := Lib.hid (fun h => lvR_ok hz h)
    have hR2 := Lib.hid (fun h => lvR_dm hz h)
    rw [hz] at hsz
    generalize lvR nm K p k q ss co ls r c xs = V at *
    generalize lvG K p k q co ls r c xs = G at *
    generalize lvL K r c xs ls.length = L at *
    generalize lvM K r c xs = M at *
    clear hF hG hin hcc hz hx'
    go_enter Tryz.func22, Tryz.ntmps22
    go_upto_region 1 with (fail)
    obtain ⟨gF, hgF⟩ : ∃ g, w.heap.size = g := ⟨_, rfl⟩
    obtain ⟨gG, hgG⟩ : ∃ g, w.heap.size + 1 = g := ⟨_, rfl⟩
    rw [hgG] at hbB ⊢
    rw [hgF] at hbA ⊢
    clear hgF hgG
    generalize ((w.alloc (.cells #[.string nm, .int .i64 K, .int .i64 p, .int .i64 k, .int .i64 q, .slice ps ss.length cs, .int .i64 co, .slice pl ls.length cl] 35)).alloc (.cells #[.int .i64 r, .int .i64 c, .slice pg xs.length cg] 37)) = w0 at *
    have a0 := hbA.cell (i := 0) (v := .string nm) rfl; have a1 := hbA.cell (i := 1) (v := .int .i64 K) rfl; have a2 := hbA.cell (i := 2) (v := .int .i64 p) rfl; have a3 := hbA.cell (i := 3) (v := .int .i64 k) rfl; have a4 := hbA.cell (i := 4) (v := .int .i64 q) rfl; have a5 := hbA.cell (i := 5) (v := .slice ps ss.length cs) rfl; have a6 := hbA.cell (i := 6) (v := .int .i64 co) rfl; have a7 := hbA.cell (i := 7) (v := .slice pl ls.length cl) rfl; have aL := hbA.lt; have c0 := hbB.cell (i := 0) (v := .int .i64 r) rfl; have c1 := hbB.cell (i := 1) (v := .int .i64 c) rfl; have c2 := hbB.cell (i := 2) (v := .slice pg xs.length cg) rfl; have cL := hbB.lt
    go_upto_region 4 with (go_at_call 45; go_loud ((with_reducible refine (hsz.out _ (HS.out.ext hxA) (HV.out.ext hxA) (HX.out.ext hxA)).mono ?_); rintro e w3 ⟨rfl, hx3⟩; replace hbA := hbA.ext hx3; replace hbB := hbB.ext hx3; replace hxA := hxA.trans hx3; clear a0 a1 a2 a3 a4 a5 a6 a7 aL c0 c1 c2 cL; have a0 := hbA.cell (i := 0) (v := .string nm) rfl; have a1 := hbA.cell (i := 1) (v := .int .i64 K) rfl; have a2 := hbA.cell (i := 2) (v := .int .i64 p) rfl; have a3 := hbA.cell (i := 3) (v := .int .i64 k) rfl; have a4 := hbA.cell (i := 4) (v := .int .i64 q) rfl; have a5 := hbA.cell (i := 5) (v := .slice ps ss.length cs) rfl; have a6 := hbA.cell (i := 6) (v := .int .i64 co) rfl; have a7 := hbA.cell (i := 7) (v := .slice pl ls.length cl) rfl; have aL := hbA.lt; have c0 := hbB.cell (i := 0) (v := .int .i64 r) rfl; have c1 := hbB.cell (i := 1) (v := .int .i64 c) rfl; have c2 := hbB.cell (i := 2) (v := .slice pg xs.length cg) rfl; have cL := hbB.lt))
    go_upto_region 5 with (go_at_call 32; go_loud ((with_reducible refine (hlv.out _ (HS.out.ext hxA) (HV.out.ext hxA) (HX.out.ext hxA)).mono ?_); rintro e w4 ⟨⟨hg, rfl⟩ | ⟨hg, rfl⟩, hx4⟩))
    · have hv := Lib.hid (hR1.out hg)
      go_wp2
      go_ret2
      exact ⟨by rw [hv.out]; rfl, hxA.trans hx4⟩
    · have hv := Lib.hid (hR2.out hg)
      go_wp2
      go_ret2
      exact ⟨by rw [hv.out]; rfl, hxA.trans hx4⟩
  · have hv := Lib.hid (lvR_no hz)
    have hzb : (szC nm K p k q ss co ls r c xs != 0) = true := by simpa using hz
    generalize lvR nm K p k q ss co ls r c xs = V at *
    generalize szC nm K p k q ss co ls r c xs = z at *
    clear hz hx'
    go_enter Tryz.func22, Tryz.ntmps22
    go_upto_region 1 with (fail)
    obtain ⟨gF, hgF⟩ : ∃ g, w.heap.size = g := ⟨_, rfl⟩
    obtain ⟨gG, hgG⟩ : ∃ g, w.heap.size + 1 = g := ⟨_, rfl⟩
    rw [hgG] at hbB ⊢
    rw [hgF] at hbA ⊢
    clear hgF hgG
    generalize ((w.alloc (.cells #[.string nm, .int .i64 K, .int .i64 p, .int .i64 k, .int .i64 q, .slice ps ss.length cs, .int .i64 co, .slice pl ls.length cl] 35)).alloc (.cells #[.int .i64 r, .int .i64 c, .slice pg xs.length cg] 37)) = w0 at *
    have a0 := hbA.cell (i := 0) (v := .string nm) rfl; have a1 := hbA.cell (i := 1) (v := .int .i64 K) rfl; have a2 := hbA.cell (i := 2) (v := .int .i64 p) rfl; have a3 := hbA.cell (i := 3) (v := .int .i64 k) rfl; have a4 := hbA.cell (i := 4) (v := .int .i64 q) rfl; have a5 := hbA.cell (i := 5) (v := .slice ps ss.length cs) rfl; have a6 := hbA.cell (i := 6) (v := .int .i64 co) rfl; have a7 := hbA.cell (i := 7) (v := .slice pl ls.length cl) rfl; have aL := hbA.lt; have c0 := hbB.cell (i := 0) (v := .int .i64 r) rfl; have c1 := hbB.cell (i := 1) (v := .int .i64 c) rfl; have c2 := hbB.cell (i := 2) (v := .slice pg xs.length cg) rfl; have cL := hbB.lt
    go_wp2_with (go_at_call 45; go_loud ((with_reducible refine (hsz.out _ (HS.out.ext hxA) (HV.out.ext hxA) (HX.out.ext hxA)).mono ?_); rintro e w3 ⟨rfl, hx3⟩))
    go_ret2
    exact ⟨by rw [hv.out]; rfl, hxA.trans hx3⟩
end Go.Proofs.YtajidoofhmoalaaGreatDoor
