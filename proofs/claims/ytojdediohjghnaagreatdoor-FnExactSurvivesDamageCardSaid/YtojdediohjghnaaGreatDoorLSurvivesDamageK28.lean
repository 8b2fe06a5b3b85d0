/- The size of a symbol, on both sides. -/
import Derived.Test.YtojdediohjghnaaGreatDoorLSurvivesDamageK22
set_option linter.unusedVariables false
set_option linter.unusedSimpArgs false
namespace Go.Proofs.YtojdediohjghnaaGreatDoor
open Go.RowKit

def colsV (K co n : Int) : Int := if K = 2 then 15 + 11 * (co + 2) else n
theorem colsV_st {K co n : Int} (h : K = 2) : colsV K co n = 15 + 11 * (co + 2) := if_pos h
theorem colsV_mx {K co n : Int} (h : ¬ K = 2) : colsV K co n = n := if_neg h
theorem rowWidth_c (n : Int) (w : World) (hn : -1000 ≤ n ∧ n ≤ 1000) : Calls Tryz.prog 284 #[.int .i64 n] w fun e w' => e = .returned (.int .i64 (15 + 11 * n)) ∧ Ext w w' := by
 go_enter Tryz.func284, Tryz.ntmps284
 go_wp2
 go_ret
 exact ⟨ret_int (by omega), eX⟩
abbrev fam8 (nm : ByteArray) (K p k q : Int) (ps : Option Addr) (ns cs : Nat) (co : Int) (pl : Option Addr) (nl cl : Nat) : Array Value := #[.string nm, .int .i64 K, .int .i64 p, .int .i64 k, .int .i64 q, .slice ps ns cs, .int .i64 co, .slice pl nl cl]
set_option maxRecDepth 100000 in
theorem kind_c (nm : ByteArray) (K p k q co : Int) (ps pl : Option Addr) (ns cs nl cl : Nat) (w : World) :
  Calls Tryz.prog 162 #[vFam nm K p k q ps ns cs co pl nl cl] w fun e w' => e = .returned (if K = 2 then .iface 246 (vFam nm K p k q ps ns cs co pl nl cl) else .iface 247 (vFam nm K p k q ps ns cs co pl nl cl)) ∧ Ext w w' := by
 have hx0 : Ext w (w.alloc (.cells (fam8 nm K p k q ps ns cs co pl nl cl) 35)) := (Ext.refl w).alloc _
 by_cases hK : K = 2
 ·rw [if_pos hK]
  subst hK
  go_enter Tryz.func162, Tryz.ntmps162
  go_wp2
  go_ret
  exact ⟨rfl, hx0⟩
 ·rw [if_neg hK]
  have hKb : (K == 2) = false := by simpa using hK
  go_enter Tryz.func162, Tryz.ntmps162
  go_wp2
  go_ret
  exact ⟨rfl, hx0⟩
set_option maxRecDepth 100000 in
theorem stackedCols_c (nm : ByteArray) (K p k q co n : Int) (ps pl : Option Addr) (ns cs nl cl : Nat) (w : World) (hco : 0 ≤ co ∧ co ≤ 100) :
  Calls Tryz.prog 283 #[vFam nm K p k q ps ns cs co pl nl cl, .int .i64 n] w fun e w' => e = .returned (.int .i64 (15 + 11 * (co + 2))) ∧ Ext w w' := by
 have hx0 : Ext w (w.alloc (.cells (fam8 nm K p k q ps ns cs co pl nl cl) 246)) := (Ext.refl w).alloc _
 go_enter Tryz.func283, Tryz.ntmps283
 go_wp2_with (go_at_call 284; (with_reducible refine (rowWidth_c _ _ (by omega)).mono ?_); rintro e w1 ⟨rfl, hx1⟩)
 go_ret
 exact ⟨rfl, hx0.trans hx1⟩
set_option maxRecDepth 100000 in
theorem matrixCols_c (nm : ByteArray) (K p k q co n : Int) (ps pl : Option Addr) (ns cs nl cl : Nat) (w : World) :
  Calls Tryz.prog 285 #[vFam nm K p k q ps ns cs co pl nl cl, .int .i64 n] w fun e w' => e = .returned (.int .i64 n) ∧ Ext w w' := by
 have hx0 : Ext w (w.alloc (.cells (fam8 nm K p k q ps ns cs co pl nl cl) 247)) := (Ext.refl w).alloc _
 go_enter Tryz.func285, Tryz.ntmps285
 go_wp2
 go_ret
 exact ⟨rfl, hx0⟩
set_option maxRecDepth 100000 in
theorem l18Cols_c (nm : ByteArray) (K p k q co n : Int) (ps pl : Option Addr) (ns cs nl cl : Nat) (w : World) (hco : 0 ≤ co ∧ co ≤ 100) (hK : K = 1 ∨ K = 2) :
  Calls Tryz.prog 149 #[vFam nm K p k q ps ns cs co pl nl cl, .int .i64 n] w fun e w' => e = .returned (.int .i64 (colsV K co n)) ∧ Ext w w' := by
 have hx0 : Ext w (w.alloc (.cells (fam8 nm K p k q ps ns cs co pl nl cl) 35)) := (Ext.refl w).alloc _
 rcases hK with rfl | rfl
 ·rw [colsV_mx (by decide)]
  go_enter Tryz.func149, Tryz.ntmps149
  go_wp2
  go_ret
  exact ⟨rfl, hx0⟩
 ·rw [colsV_st rfl]
  go_enter Tryz.func149, Tryz.ntmps149
  go_wp2
  go_ret
  exact ⟨rfl, hx0⟩
theorem mCols_m (v : Array Value) (w : World) : (Go.method 422 247 (.agg v) "loop.example/g00879/impl.cols").run Tryz.prog w = .ok (285, .agg v) w := by kernel_rfl
theorem sCols_m (v : Array Value) (w : World) : (Go.method 422 246 (.agg v) "loop.example/g00879/impl.cols").run Tryz.prog w = .ok (283, .agg v) w := by kernel_rfl
set_option maxHeartbeats 800000 in
set_option maxRecDepth 100000 in
theorem isSymbolSize_c (nm : ByteArray) (K p k q co r c : Int) (ps pl pg : Option Addr) (cs nl cl ng cg : Nat) (ss : List Int) (w : World) (hs : IntsAt w ps ss) (hl1 : ss.length ≤ 1048576) (hco : 0 ≤ co ∧ co ≤ 100) (hK : K = 1 ∨ K = 2) :
  Calls Tryz.prog 115 #[vFam nm K p k q ps ss.length cs co pl nl cl, vGrid r c pg ng cg] w fun e w' => isB e (r ∈ ss ∧ c = colsV K co r) ∧ Ext w w' := by
 have HS := Lib.hid hs; clear hs
 have hx0 : Ext w ((w.alloc (.cells #[.string nm, .int .i64 K, .int .i64 p, .int .i64 k, .int .i64 q, .slice ps ss.length cs, .int .i64 co, .slice pl nl cl] 35)).alloc (.cells #[.int .i64 r, .int .i64 c, .slice pg ng cg] 37)) := ((Ext.refl w).alloc _).alloc _
 have hb0 := (Blk.new w #[.string nm, .int .i64 K, .int .i64 p, .int .i64 k, .int .i64 q, .slice ps ss.length cs, .int .i64 co, .slice pl nl cl] 35).alloc (.cells #[.int .i64 r, .int .i64 c, .slice pg ng cg] 37)
 have hb1 := Blk.new1 w (.cells #[.string nm, .int .i64 K, .int .i64 p, .int .i64 k, .int .i64 q, .slice ps ss.length cs, .int .i64 co, .slice pl nl cl] 35) #[.int .i64 r, .int .i64 c, .slice pg ng cg] 37
 obtain ⟨a0, a1, a2, a3, a4, a5, a6, a7⟩ := hb0.c8; have aL := hb0.lt
 have c0 := hb1.cell (i := 0) (v := .int .i64 r) rfl; have c1 := hb1.cell (i := 1) (v := .int .i64 c) rfl; have cL := hb1.lt
 have hhs := Lib.hid (fun W (h : IntsAt W ps ss) => hasSize_c nm K p k q co ps pl cs nl cl ss r W h hl1)
 have hkd := Lib.hid (fun W => kind_c nm K p k q co ps pl ss.length cs nl cl W)
 go_enter Tryz.func115, Tryz.ntmps115
 go_upto_region 1 with (fail)
 obtain ⟨gF, hgF⟩ : ∃ g, w.heap.size = g := ⟨_, rfl⟩
 obtain ⟨gG, hgG⟩ : ∃ g, w.heap.size + 1 = g := ⟨_, rfl⟩
 rw [hgG] at c0 c1 cL ⊢
 rw [hgF] at a0 a1 a2 a3 a4 a5 a6 a7 aL ⊢
 clear hb0 hb1 hgF hgG
 generalize ((w.alloc (.cells #[.string nm, .int .i64 K, .int .i64 p, .int .i64 k, .int .i64 q, .slice ps ss.length cs, .int .i64 co, .slice pl nl cl] 35)).alloc (.cells #[.int .i64 r, .int .i64 c, .slice pg ng cg] 37)) = w0 at *
 by_cases hin : r ∈ ss
 ·rcases hK with rfl | rfl
  ·rw [if_neg (by decide : ¬ (1 : Int) = 2)] at hkd
   have hmm := mCols_m
   have hmc := Lib.hid (fun W => matrixCols_c nm 1 p k q co r ps pl ss.length cs nl cl W)
   have hfin := Lib.hid (show (c == r) = true ↔ r ∈ ss ∧ c = colsV 1 co r from by rw [colsV_mx (by decide)]; simp [hin])
   refine wp_region_canon (fun w' => Ext w0 w') [(0, true), (1, true), (2, true), (3, false), (4, true), (5, true), (6, true), (7, true), (9, true), (10, true), (8, false), (11, false), (12, true), (13, true), (14, true)] (by kernel_rfl) (by kernel_rfl) (by decide) (by kernel_rfl) ?_ ?_
   ·exact eX
   refine canon_intro fun ops eo => ?_
   replace eo := canon_eo eo
   iterate 3 all_goals (refine cS eo rfl rfl evE ?_; simp only [ptN])
   all_goals first | (refine canon_ef (eo.out 3 rfl) rfl (fun K hK => ?_); go_simp; ((go_at_call 161; (with_reducible refine (hhs.out _ (HS.out.ext (hx0.trans eX))).mono ?_); rintro e w1 ⟨⟨hP, rfl⟩ | ⟨hP, rfl⟩, hb⟩ <;> (first | exact absurd hin hP | skip))); all_goals (refine hK _ _ ⟨(by first | assumption | exact eX), ?_⟩; clear hK K; go_simp))
   all_goals (refine cS eo rfl rfl evE ?_; simp only [ptN])
   iterate 5 all_goals ((first | refine cU eo rfl rfl rfl rfl rfl ?_ | refine cX eo rfl rfl rfl rfl rfl ?_ | refine cW eo rfl rfl rfl rfl rfl evE ?_); simp only [ptN])
   all_goals first | (refine canon_efu (eo.out 8 rfl) rfl (eo.out _ rfl) rfl rfl (by first | assumption | exact (by first | assumption | exact eX)) ?_; simp only [ptN]) | (refine canon_efx (eo.out 8 rfl) rfl (eo.out _ rfl) rfl rfl (by first | assumption | exact (by first | assumption | exact eX)) ?_; simp only [ptN]) | (refine canon_efw (eo.out 8 rfl) rfl (eo.out _ rfl) rfl rfl (fun K hK => ?_); go_simp; ((go_at_call 162; (with_reducible refine (hkd.out _).mono ?_); rintro e w2 ⟨rfl, hb2⟩)); all_goals (refine hK _ _ ⟨(by first | assumption | exact eX), ?_⟩; clear hK K; go_simp))
   all_goals first | (refine canon_efu (eo.out 11 rfl) rfl (eo.out _ rfl) rfl rfl (by first | assumption | exact (by first | assumption | exact eX)) ?_; simp only [ptN]) | (refine canon_efx (eo.out 11 rfl) rfl (eo.out _ rfl) rfl rfl (by first | assumption | exact (by first | assumption | exact eX)) ?_; simp only [ptN]) | (refine canon_efw (eo.out 11 rfl) rfl (eo.out _ rfl) rfl rfl (fun K hK => ?_); go_simp; ((go_at_call 285; (with_reducible refine (hmc.out _).mono ?_); rintro e w3 ⟨rfl, hb3⟩)); all_goals (refine hK _ _ ⟨(by first | assumption | exact eX), ?_⟩; clear hK K; go_simp))
   all_goals ((first | refine cU eo rfl rfl rfl rfl rfl ?_ | refine cX eo rfl rfl rfl rfl rfl ?_ | refine cW eo rfl rfl rfl rfl rfl evE ?_); simp only [ptN])
   iterate 2 all_goals (refine cS eo rfl rfl evE ?_; simp only [ptN])
   all_goals (clear eo; refine canon_done (NoPanic.normal ?_))
   go_wp2
   go_ret
   exact ⟨isB_m hfin.out, hx0.trans eX⟩
  ·rw [if_pos rfl] at hkd
   have hmm := sCols_m
   have hmc := Lib.hid (fun W => stackedCols_c nm 2 p k q co r ps pl ss.length cs nl cl W hco)
   have hfin := Lib.hid (show (c == 15 + 11 * (co + 2)) = true ↔ r ∈ ss ∧ c = colsV 2 co r from by rw [colsV_st rfl]; simp [hin])
   refine wp_region_canon (fun w' => Ext w0 w') [(0, true), (1, true), (2, true), (3, false), (4, true), (5, true), (6, true), (7, true), (9, true), (10, true), (8, false), (11, false), (12, true), (13, true), (14, true)] (by kernel_rfl) (by kernel_rfl) (by decide) (by kernel_rfl) ?_ ?_
   ·exact eX
   refine canon_intro fun ops eo => ?_
   replace eo := canon_eo eo
   iterate 3 all_goals (refine cS eo rfl rfl evE ?_; simp only [ptN])
   all_goals first | (refine canon_ef (eo.out 3 rfl) rfl (fun K hK => ?_); go_simp; ((go_at_call 161; (with_reducible refine (hhs.out _ (HS.out.ext (hx0.trans eX))).mono ?_); rintro e w1 ⟨⟨hP, rfl⟩ | ⟨hP, rfl⟩, hb⟩ <;> (first | exact absurd hin hP | skip))); all_goals (refine hK _ _ ⟨(by first | assumption | exact eX), ?_⟩; clear hK K; go_simp))
   all_goals (refine cS eo rfl rfl evE ?_; simp only [ptN])
   iterate 5 all_goals ((first | refine cU eo rfl rfl rfl rfl rfl ?_ | refine cX eo rfl rfl rfl rfl rfl ?_ | refine cW eo rfl rfl rfl rfl rfl evE ?_); simp only [ptN])
   all_goals first | (refine canon_efu (eo.out 8 rfl) rfl (eo.out _ rfl) rfl rfl (by first | assumption | exact (by first | assumption | exact eX)) ?_; simp only [ptN]) | (refine canon_efx (eo.out 8 rfl) rfl (eo.out _ rfl) rfl rfl (by first | assumption | exact (by first | assumption | exact eX)) ?_; simp only [ptN]) | (refine canon_efw (eo.out 8 rfl) rfl (eo.out _ rfl) rfl rfl (fun K hK => ?_); go_simp; ((go_at_call 162; (with_reducible refine (hkd.out _).mono ?_); rintro e w2 ⟨rfl, hb2⟩)); all_goals (refine hK _ _ ⟨(by first | assumption | exact eX), ?_⟩; clear hK K; go_simp))
   all_goals first | (refine canon_efu (eo.out 11 rfl) rfl (eo.out _ rfl) rfl rfl (by first | assumption | exact (by first | assumption | exact eX)) ?_; simp only [ptN]) | (refine canon_efx (eo.out 11 rfl) rfl (eo.out _ rfl) rfl rfl (by first | assumption | exact (by first | assumption | exact eX)) ?_; simp only [ptN]) | (refine canon_efw (eo.out 11 rfl) rfl (eo.out _ rfl) rfl rfl (fun K hK => ?_); go_simp; ((go_at_call 283; (with_reducible refine (hmc.out _).mono ?_); rintro e w3 ⟨rfl, hb3⟩)); all_goals (refine hK _ _ ⟨(by first | assumption | exact eX), ?_⟩; clear hK K; go_simp))
   all_goals ((first | refine cU eo rfl rfl rfl rfl rfl ?_ | refine cX eo rfl rfl rfl rfl rfl ?_ | refine cW eo rfl rfl rfl rfl rfl evE ?_); simp only [ptN])
   iterate 2 all_goals (refine cS eo rfl rfl evE ?_; simp only [ptN])
   all_goals (clear eo; refine canon_done (NoPanic.normal ?_))
   go_wp2
   go_ret
   exact ⟨isB_m hfin.out, hx0.trans eX⟩
 ·skip
  refine wp_region_canon (fun w' => Ext w0 w') [(0, true), (1, true), (2, true), (3, false), (4, true), (5, true), (6, true), (7, true), (9, true), (10, true), (8, false), (11, false), (12, true), (13, true), (14, true)] (by kernel_rfl) (by kernel_rfl) (by decide) (by kernel_rfl) ?_ ?_
  ·exact eX
  refine canon_intro fun ops eo => ?_
  replace eo := canon_eo eo
  iterate 3 all_goals (refine cS eo rfl rfl evE ?_; simp only [ptN])
  all_goals first | (refine canon_ef (eo.out 3 rfl) rfl (fun K hK => ?_); go_simp; ((go_at_call 161; (with_reducible refine (hhs.out _ (HS.out.ext (hx0.trans eX))).mono ?_); rintro e w1 ⟨⟨hP, rfl⟩ | ⟨hP, rfl⟩, hb⟩ <;> (first | exact absurd hP hin | skip))); all_goals (refine hK _ _ ⟨(by first | assumption | exact eX), ?_⟩; clear hK K; go_simp))
  all_goals (refine cS eo rfl rfl evE ?_; simp only [ptN])
  iterate 5 all_goals ((first | refine cU eo rfl rfl rfl rfl rfl ?_ | refine cX eo rfl rfl rfl rfl rfl ?_ | refine cW eo rfl rfl rfl rfl rfl evE ?_); simp only [ptN])
  all_goals first | (refine canon_efu (eo.out 8 rfl) rfl (eo.out _ rfl) rfl rfl (by first | assumption | exact (by first | assumption | exact eX)) ?_; simp only [ptN]) | (refine canon_efx (eo.out 8 rfl) rfl (eo.out _ rfl) rfl rfl (by first | assumption | exact (by first | assumption | exact eX)) ?_; simp only [ptN])
  all_goals first | (refine canon_efu (eo.out 11 rfl) rfl (eo.out _ rfl) rfl rfl (by first | assumption | exact (by first | assumption | exact eX)) ?_; simp only [ptN]) | (refine canon_efx (eo.out 11 rfl) rfl (eo.out _ rfl) rfl rfl (by first | assumption | exact (by first | assumption | exact eX)) ?_; simp only [ptN])
  all_goals ((first | refine cU eo rfl rfl rfl rfl rfl ?_ | refine cX eo rfl rfl rfl rfl rfl ?_ | refine cW eo rfl rfl rfl rfl rfl evE ?_); simp only [ptN])
  iterate 2 all_goals (refine cS eo rfl rfl evE ?_; simp only [ptN])
  all_goals (clear eo; refine canon_done (NoPanic.normal ?_))
  go_wp2
  go_ret
  exact ⟨isB_f (fun h => hin h.1), hx0.trans eX⟩
end Go.Proofs.YtojdediohjghnaaGreatDoor
/- The size of a symbol, on the reference's side. -/
namespace Go.Proofs.YtojdediohjghnaaGreatDoor
open Go.RowKit

open Classical in
noncomputable def szC (nm : ByteArray) (K p k q : Int) (ss : List Int) (co : Int) (ls : List Int) (r c : Int) (xs : List Int) : Int :=
 if famOK nm K p k q ss co ls ∧ gridOK r c xs then (if r ∈ ss ∧ c = colsV K co r then 0 else 4) else 1
theorem szC_in {nm : ByteArray} {K p k q co r c : Int} {ss ls xs : List Int} (h : famOK nm K p k q ss co ls) (hg : gridOK r c xs) (hs : r ∈ ss ∧ c = colsV K co r) : szC nm K p k q ss co ls r c xs = 0 := by
 unfold szC
 rw [if_pos ⟨h, hg⟩, if_pos hs]
theorem szC_far {nm : ByteArray} {K p k q co r c : Int} {ss ls xs : List Int} (h : famOK nm K p k q ss co ls) (hg : gridOK r c xs) (hs : ¬ (r ∈ ss ∧ c = colsV K co r)) : szC nm K p k q ss co ls r c xs = 4 := by
 unfold szC
 rw [if_pos ⟨h, hg⟩, if_neg hs]
theorem szC_out {nm : ByteArray} {K p k q co r c : Int} {ss ls xs : List Int} (h : ¬ (famOK nm K p k q ss co ls ∧ gridOK r c xs)) : szC nm K p k q ss co ls r c xs = 1 := if_neg h
theorem famK {nm : ByteArray} {K p k q co : Int} {ss ls : List Int} (h : famOK nm K p k q ss co ls) : (K = 1 ∨ K = 2) ∧ (0 ≤ co ∧ co ≤ 100) := by
 rcases h.2.2.2.2 with h1 | h1
 ·exact ⟨.inl h1.1, by omega⟩
 ·exact ⟨.inr h1.1, by omega⟩
set_option maxHeartbeats 1600000 in
set_option maxRecDepth 100000 in
theorem sSymbolSize_c (nm : ByteArray) (K p k q co r c : Int) (ps pl pg : Option Addr) (cs cl cg : Nat) (ss ls xs : List Int) (w : World) (hs : IntsAt w ps ss) (hlv : IntsAt w pl ls) (hx : IntsAt w pg xs) (hn : nm.size ≤ 1048576) (hl1 : ss.length ≤ 1048576) (hl2 : ls.length ≤ 1048576) (hl3 : xs.length ≤ 1048576) :
  Calls Tryz.prog 101 #[vFam nm K p k q ps ss.length cs co pl ls.length cl, vGrid r c pg xs.length cg] w fun e w' => (∃ n : Int, e = .returned (.tuple #[.int .i64 n, .int .i64 (szC nm K p k q ss co ls r c xs)])) ∧ Ext w w' := by
 have HS := Lib.hid hs; have HV := Lib.hid hlv; have HX := Lib.hid hx; clear hs hlv hx
 have hx0 : Ext w ((w.alloc (.cells #[.string nm, .int .i64 K, .int .i64 p, .int .i64 k, .int .i64 q, .slice ps ss.length cs, .int .i64 co, .slice pl ls.length cl] 35)).alloc (.cells #[.int .i64 r, .int .i64 c, .slice pg xs.length cg] 37)) := ((Ext.refl w).alloc _).alloc _
 have hb0 := (Blk.new w #[.string nm, .int .i64 K, .int .i64 p, .int .i64 k, .int .i64 q, .slice ps ss.length cs, .int .i64 co, .slice pl ls.length cl] 35).alloc (.cells #[.int .i64 r, .int .i64 c, .slice pg xs.length cg] 37)
 have hb1 := Blk.new1 w (.cells #[.string nm, .int .i64 K, .int .i64 p, .int .i64 k, .int .i64 q, .slice ps ss.length cs, .int .i64 co, .slice pl ls.length cl] 35) #[.int .i64 r, .int .i64 c, .slice pg xs.length cg] 37
 have hif := Lib.hid (fun W (h1 : IntsAt W ps ss) (h2 : IntsAt W pl ls) => sIsFamily_c nm K p k q co ps pl cs cl ss ls W h1 h2 hn hl1 hl2)
 have hig := Lib.hid (fun W (h : IntsAt W pg xs) => sIsGrid_c r c pg cg xs W h hl3)
 have hhs := Lib.hid (fun W (h : IntsAt W ps ss) => l05Has_c ps cs r ss W h hl1)
 obtain ⟨z, hz⟩ : ∃ z, szC nm K p k q ss co ls r c xs = z := ⟨_, rfl⟩
 rw [hz]
 replace hz := Lib.hid hz
 go_enter Tryz.func101, Tryz.ntmps101
 go_upto_region 1 with (fail)
 obtain ⟨gF, hgF⟩ : ∃ g, w.heap.size = g := ⟨_, rfl⟩
 obtain ⟨gG, hgG⟩ : ∃ g, w.heap.size + 1 = g := ⟨_, rfl⟩
 rw [hgG] at hb1 ⊢
 rw [hgF] at hb0 ⊢
 clear hgF hgG
 generalize ((w.alloc (.cells #[.string nm, .int .i64 K, .int .i64 p, .int .i64 k, .int .i64 q, .slice ps ss.length cs, .int .i64 co, .slice pl ls.length cl] 35)).alloc (.cells #[.int .i64 r, .int .i64 c, .slice pg xs.length cg] 37)) = w0 at *
 obtain ⟨a0, a1, a2, a3, a4, a5, a6, a7⟩ := hb0.c8; have aL := hb0.lt
 obtain ⟨c0, c1, c2⟩ := hb1.c3; have cL := hb1.lt
 by_cases hF : famOK nm K p k q ss co ls
 ·obtain ⟨hK, hco⟩ := famK hF
  by_cases hG : gridOK r c xs
  ·have hlc := Lib.hid (fun W => l18Cols_c nm K p k q co r ps pl ss.length cs ls.length cl W hco hK)
   have hz1 := Lib.hid (fun h => (szC_in hF hG h).symm.trans hz.out)
   have hz4 := Lib.hid (fun h => (szC_far hF hG h).symm.trans hz.out)
   replace hF := Lib.hid hF; replace hG := Lib.hid hG
   go_upto_region 3 with (first
    | (go_at_call 147; go_loud ((with_reducible refine (hif.out _ (HS.out.ext hx0) (HV.out.ext hx0)).mono ?_); rintro e w1 ⟨⟨hP, rfl⟩ | ⟨hP, rfl⟩, hx1⟩ <;> (first | exact absurd hF.out hP | skip); have hbA := hb0.ext hx1; have hbB := hb1.ext hx1; obtain ⟨a0, a1, a2, a3, a4, a5, a6, a7⟩ := hbA.c8; have aL := hbA.lt; obtain ⟨c0, c1, c2⟩ := hbB.c3; have cL := hbB.lt))
    | (go_at_call 106; go_loud ((with_reducible refine (hig.out _ (HX.out.ext (hx0.trans hx1))).mono ?_); rintro e w2 ⟨⟨hP2, rfl⟩ | ⟨hP2, rfl⟩, hx2⟩ <;> (first | exact absurd hG.out hP2 | skip); have hbC := hbA.ext hx2; have hbD := hbB.ext hx2)))
   have hx02 := (hx0.trans hx1).trans hx2
   obtain ⟨e0, e1, e2, e3, e4, e5, e6, e7⟩ := hbC.c8; have eL := hbC.lt; obtain ⟨d0, d1, d2⟩ := hbD.c3; have dL := hbD.lt
   clear a0 a1 a2 a3 a4 a5 a6 a7 aL c0 c1 c2 cL hbA hbB hb0 hb1 hif hig
   by_cases hin : r ∈ ss
   ·by_cases hcc : c = colsV K co r
    ·have hzz := hz1.out ⟨hin, hcc⟩
     subst hzz
     have hccb : (c != colsV K co r) = false := by simpa using hcc
     replace hcc := Lib.hid hcc
     clear hz hz1 hz4
     generalize colsV K co r = cv at *
     refine wp_region_canon (fun w' => Ext w2 w') [(0, true), (1, true), (2, true), (3, true), (4, false), (5, true), (6, true), (7, true), (8, true), (9, true), (10, true), (11, true), (12, false), (13, true), (14, true)] (by kernel_rfl) (by kernel_rfl) (by decide) (by kernel_rfl) ?_ ?_
     ·exact eX
     refine canon_intro fun ops eo => ?_
     replace eo := canon_eo eo
     iterate 4 all_goals (refine cS eo rfl rfl evE ?_; simp only [ptN])
     all_goals first | (refine canon_ef (eo.out 4 rfl) rfl (fun K hK => ?_); go_simp; ((go_at_call 34; (with_reducible refine (hhs.out _ (HS.out.ext (hx02.trans eX))).mono ?_); rintro e w3 ⟨⟨hQ, rfl⟩ | ⟨hQ, rfl⟩, hb⟩ <;> (first | exact absurd hin hQ | skip))); all_goals (refine hK _ _ ⟨(by first | assumption | exact eX), ?_⟩; clear hK K; go_simp))
     iterate 2 all_goals (refine cS eo rfl rfl evE ?_; simp only [ptN])
     iterate 5 all_goals ((first | refine cU eo rfl rfl rfl rfl rfl ?_ | refine cX eo rfl rfl rfl rfl rfl ?_ | refine cW eo rfl rfl rfl rfl rfl evE ?_); simp only [ptN])
     all_goals first | (refine canon_efu (eo.out 12 rfl) rfl (eo.out _ rfl) rfl rfl (by first | assumption | exact (by first | assumption | exact eX)) ?_; simp only [ptN]) | (refine canon_efx (eo.out 12 rfl) rfl (eo.out _ rfl) rfl rfl (by first | assumption | exact (by first | assumption | exact eX)) ?_; simp only [ptN]) | (refine canon_efw (eo.out 12 rfl) rfl (eo.out _ rfl) rfl rfl (fun K hK => ?_); go_simp; ((go_at_call 149; (with_reducible refine (hlc.out _).mono ?_); rintro e w4 ⟨rfl, hb2⟩)); all_goals (refine hK _ _ ⟨(by first | assumption | exact eX), ?_⟩; clear hK K; go_simp))
     all_goals ((first | refine cU eo rfl rfl rfl rfl rfl ?_ | refine cX eo rfl rfl rfl rfl rfl ?_ | refine cW eo rfl rfl rfl rfl rfl evE ?_); simp only [ptN])
     all_goals (refine cS eo rfl rfl evE ?_; simp only [ptN])
     all_goals (clear eo; refine canon_done (NoPanic.normal ?_))
     have hxe : Ext w2 w4 := eX
     have f0 := (hbD.ext hxe).cell (i := 0) (v := .int .i64 r) rfl
     have fL := (hbD.ext hxe).lt
     go_wp2
     go_ret2
     exact ⟨⟨_, rfl⟩, hx02.trans hxe⟩
    ·have hzz := hz4.out (fun h => hcc h.2)
     subst hzz
     have hccb : (c != colsV K co r) = true := by simpa using hcc
     replace hcc := Lib.hid hcc
     clear hz hz1 hz4
     generalize colsV K co r = cv at *
     refine wp_region_canon (fun w' => Ext w2 w') [(0, true), (1, true), (2, true), (3, true), (4, false), (5, true), (6, true), (7, true), (8, true), (9, true), (10, true), (11, true), (12, false), (13, true), (14, true)] (by kernel_rfl) (by kernel_rfl) (by decide) (by kernel_rfl) ?_ ?_
     ·exact eX
     refine canon_intro fun ops eo => ?_
     replace eo := canon_eo eo
     iterate 4 all_goals (refine cS eo rfl rfl evE ?_; simp only [ptN])
     all_goals first | (refine canon_ef (eo.out 4 rfl) rfl (fun K hK => ?_); go_simp; ((go_at_call 34; (with_reducible refine (hhs.out _ (HS.out.ext (hx02.trans eX))).mono ?_); rintro e w3 ⟨⟨hQ, rfl⟩ | ⟨hQ, rfl⟩, hb⟩ <;> (first | exact absurd hin hQ | skip))); all_goals (refine hK _ _ ⟨(by first | assumption | exact eX), ?_⟩; clear hK K; go_simp))
     iterate 2 all_goals (refine cS eo rfl rfl evE ?_; simp only [ptN])
     iterate 5 all_goals ((first | refine cU eo rfl rfl rfl rfl rfl ?_ | refine cX eo rfl rfl rfl rfl rfl ?_ | refine cW eo rfl rfl rfl rfl rfl evE ?_); simp only [ptN])
     all_goals first | (refine canon_efu (eo.out 12 rfl) rfl (eo.out _ rfl) rfl rfl (by first | assumption | exact (by first | assumption | exact eX)) ?_; simp only [ptN]) | (refine canon_efx (eo.out 12 rfl) rfl (eo.out _ rfl) rfl rfl (by first | assumption | exact (by first | assumption | exact eX)) ?_; simp only [ptN]) | (refine canon_efw (eo.out 12 rfl) rfl (eo.out _ rfl) rfl rfl (fun K hK => ?_); go_simp; ((go_at_call 149; (with_reducible refine (hlc.out _).mono ?_); rintro e w4 ⟨rfl, hb2⟩)); all_goals (refine hK _ _ ⟨(by first | assumption | exact eX), ?_⟩; clear hK K; go_simp))
     all_goals ((first | refine cU eo rfl rfl rfl rfl rfl ?_ | refine cX eo rfl rfl rfl rfl rfl ?_ | refine cW eo rfl rfl rfl rfl rfl evE ?_); simp only [ptN])
     all_goals (refine cS eo rfl rfl evE ?_; simp only [ptN])
     all_goals (clear eo; refine canon_done (NoPanic.normal ?_))
     have hxe : Ext w2 w4 := eX
     have f0 := (hbD.ext hxe).cell (i := 0) (v := .int .i64 r) rfl
     have fL := (hbD.ext hxe).lt
     go_wp2
     go_ret2
     exact ⟨⟨_, rfl⟩, hx02.trans hxe⟩
   ·have hzz := hz4.out (fun h => hin h.1)
    subst hzz
    clear hz hz1 hz4
    refine wp_region_canon (fun w' => Ext w2 w') [(0, true), (1, true), (2, true), (3, true), (4, false), (5, true), (6, true), (7, true), (8, true), (9, true), (10, true), (11, true), (12, false), (13, true), (14, true)] (by kernel_rfl) (by kernel_rfl) (by decide) (by kernel_rfl) ?_ ?_
    ·exact eX
    refine canon_intro fun ops eo => ?_
    replace eo := canon_eo eo
    iterate 4 all_goals (refine cS eo rfl rfl evE ?_; simp only [ptN])
    all_goals first | (refine canon_ef (eo.out 4 rfl) rfl (fun K hK => ?_); go_simp; ((go_at_call 34; (with_reducible refine (hhs.out _ (HS.out.ext (hx02.trans eX))).mono ?_); rintro e w3 ⟨⟨hQ, rfl⟩ | ⟨hQ, rfl⟩, hb⟩ <;> (first | exact absurd hQ hin | skip))); all_goals (refine hK _ _ ⟨(by first | assumption | exact eX), ?_⟩; clear hK K; go_simp))
    iterate 2 all_goals (refine cS eo rfl rfl evE ?_; simp only [ptN])
    iterate 5 all_goals ((first | refine cU eo rfl rfl rfl rfl rfl ?_ | refine cX eo rfl rfl rfl rfl rfl ?_ | refine cW eo rfl rfl rfl rfl rfl evE ?_); simp only [ptN])
    all_goals first | (refine canon_efu (eo.out 12 rfl) rfl (eo.out _ rfl) rfl rfl (by first | assumption | exact (by first | assumption | exact eX)) ?_; simp only [ptN]) | (refine canon_efx (eo.out 12 rfl) rfl (eo.out _ rfl) rfl rfl (by first | assumption | exact (by first | assumption | exact eX)) ?_; simp only [ptN]) | (refine canon_efw (eo.out 12 rfl) rfl (eo.out _ rfl) rfl rfl (fun K hK => ?_); go_simp; ((go_at_call 149; (with_reducible refine (hlc.out _).mono ?_); rintro e w4 ⟨rfl, hb2⟩)); all_goals (refine hK _ _ ⟨(by first | assumption | exact eX), ?_⟩; clear hK K; go_simp))
    all_goals ((first | refine cU eo rfl rfl rfl rfl rfl ?_ | refine cX eo rfl rfl rfl rfl rfl ?_ | refine cW eo rfl rfl rfl rfl rfl evE ?_); simp only [ptN])
    all_goals (refine cS eo rfl rfl evE ?_; simp only [ptN])
    all_goals (clear eo; refine canon_done (NoPanic.normal ?_))
    have hxe : Ext w2 w3 := eX
    have f0 := (hbD.ext hxe).cell (i := 0) (v := .int .i64 r) rfl
    have fL := (hbD.ext hxe).lt
    go_wp2
    go_ret2
    exact ⟨⟨_, rfl⟩, hx02.trans hxe⟩
  ·have hzz := (szC_out (K := K) (p := p) (k := k) (q := q) (co := co) (nm := nm) (ss := ss) (ls := ls) (fun h => hG h.2)).symm.trans hz.out
   subst hzz
   clear hz
   replace hF := Lib.hid hF; replace hG := Lib.hid hG
   go_wp2_with (first
    | (go_at_call 147; go_loud ((with_reducible refine (hif.out _ (HS.out.ext hx0) (HV.out.ext hx0)).mono ?_); rintro e w1 ⟨⟨hP, rfl⟩ | ⟨hP, rfl⟩, hx1⟩ <;> (first | exact absurd hF.out hP | skip); have hbB := hb1.ext hx1; obtain ⟨c0, c1, c2⟩ := hbB.c3; have cL := hbB.lt))
    | (go_at_call 106; go_loud ((with_reducible refine (hig.out _ (HX.out.ext (hx0.trans hx1))).mono ?_); rintro e w2 ⟨⟨hP2, rfl⟩ | ⟨hP2, rfl⟩, hx2⟩ <;> (first | exact absurd hP2 hG.out | skip))))
   go_ret2
   exact ⟨⟨_, rfl⟩, (hx0.trans hx1).trans hx2⟩
 ·have hzz := (szC_out (K := K) (p := p) (k := k) (q := q) (co := co) (nm := nm) (ss := ss) (ls := ls) (r := r) (c := c) (xs := xs) (fun h => hF h.1)).symm.trans hz.out
  subst hzz
  clear hz
  replace hF := Lib.hid hF
  go_wp2_with (go_at_call 147; go_loud ((with_reducible refine (hif.out _ (HS.out.ext hx0) (HV.out.ext hx0)).mono ?_); rintro e w1 ⟨⟨hP, rfl⟩ | ⟨hP, rfl⟩, hx1⟩ <;> (first | exact absurd hP hF.out | skip)))
  go_ret2
  exact ⟨⟨_, rfl⟩, hx0.trans hx1⟩
set_option maxRecDepth 100000 in
theorem l19Size_c (nm : ByteArray) (K p k q co r c : Int) (ps pl pg : Option Addr) (cs cl cg : Nat) (ss ls xs : List Int) (w : World) (hs : IntsAt w ps ss) (hlv : IntsAt w pl ls) (hx : IntsAt w pg xs) (hn : nm.size ≤ 1048576) (hl1 : ss.length ≤ 1048576) (hl2 : ls.length ≤ 1048576) (hl3 : xs.length ≤ 1048576) :
  Calls Tryz.prog 63 #[vFam nm K p k q ps ss.length cs co pl ls.length cl, vGrid r c pg xs.length cg] w fun e w' => e = .returned (.int .i64 (szC nm K p k q ss co ls r c xs)) ∧ Ext w w' := by
 have HS := Lib.hid hs; have HV := Lib.hid hlv; have HX := Lib.hid hx; clear hs hlv hx
 have hsy := Lib.hid (fun W (h1 : IntsAt W ps ss) (h2 : IntsAt W pl ls) (h3 : IntsAt W pg xs) => sSymbolSize_c nm K p k q co r c ps pl pg cs cl cg ss ls xs W h1 h2 h3 hn hl1 hl2 hl3)
 have hx0 : Ext w ((w.alloc (.cells #[.string nm, .int .i64 K, .int .i64 p, .int .i64 k, .int .i64 q, .slice ps ss.length cs, .int .i64 co, .slice pl ls.length cl] 35)).alloc (.cells #[.int .i64 r, .int .i64 c, .slice pg xs.length cg] 37)) := ((Ext.refl w).alloc _).alloc _
 have hb0 := (Blk.new w #[.string nm, .int .i64 K, .int .i64 p, .int .i64 k, .int .i64 q, .slice ps ss.length cs, .int .i64 co, .slice pl ls.length cl] 35).alloc (.cells #[.int .i64 r, .int .i64 c, .slice pg xs.length cg] 37)
 have hb1 := Blk.new1 w (.cells #[.string nm, .int .i64 K, .int .i64 p, .int .i64 k, .int .i64 q, .slice ps ss.length cs, .int .i64 co, .slice pl ls.length cl] 35) #[.int .i64 r, .int .i64 c, .slice pg xs.length cg] 37
 generalize szC nm K p k q ss co ls r c xs = z at *
 go_enter Tryz.func63, Tryz.ntmps63
 go_upto_region 1 with (fail)
 obtain ⟨gF, hgF⟩ : ∃ g, w.heap.size = g := ⟨_, rfl⟩
 obtain ⟨gG, hgG⟩ : ∃ g, w.heap.size + 1 = g := ⟨_, rfl⟩
 rw [hgG] at hb1 ⊢
 rw [hgF] at hb0 ⊢
 clear hgF hgG
 generalize ((w.alloc (.cells #[.string nm, .int .i64 K, .int .i64 p, .int .i64 k, .int .i64 q, .slice ps ss.length cs, .int .i64 co, .slice pl ls.length cl] 35)).alloc (.cells #[.int .i64 r, .int .i64 c, .slice pg xs.length cg] 37)) = w0 at *
 obtain ⟨a0, a1, a2, a3, a4, a5, a6, a7⟩ := hb0.c8; have aL := hb0.lt
 obtain ⟨c0, c1, c2⟩ := hb1.c3; have cL := hb1.lt
 go_wp2_with (go_at_call 101; go_loud ((with_reducible refine (hsy.out _ (HS.out.ext hx0) (HV.out.ext hx0) (HX.out.ext hx0)).mono ?_); rintro e w1 ⟨⟨n, rfl⟩, hx1⟩))
 go_ret
 exact ⟨rfl, hx0.trans hx1⟩
end Go.Proofs.YtojdediohjghnaaGreatDoor
