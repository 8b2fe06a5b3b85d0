/- The stream of a symbol, the reference's side. -/
import Derived.Test.YtojdediohjghnaaGreatDoorLSurvivesDamageK32
import Derived.Test.YtojdediohjghnaaGreatDoorLSurvivesDamageK37
import Derived.Test.YtojdediohjghnaaGreatDoorLSurvivesDamageK36
set_option linter.unusedVariables false
set_option linter.unusedSimpArgs false
namespace Go.Proofs.YtojdediohjghnaaGreatDoor
open Go.RowKit

theorem l07Total_c (p k q D C N : Int) (w : World) (hD : -100000 ≤ D ∧ D ≤ 100000) (hN : 1 ≤ N ∧ N ≤ 16) (hC : 1 ≤ C ∧ C ≤ 64) :
  Calls Tryz.prog 40 #[vLay p k q D C N] w fun e w' => e = .returned (.int .i64 (D + N * C)) ∧ Ext w w' := by
 have h1 : 0 ≤ N * C := Int.mul_nonneg (by omega) (by omega)
 have h2 : N * C ≤ 16 * 64 := Int.mul_le_mul hN.2 hC.2 (by omega) (by omega)
 have hx0 : Ext w (w.alloc (.cells #[.int .i64 p, .int .i64 k, .int .i64 q, .int .i64 D, .int .i64 C, .int .i64 N] 55)) := (Ext.refl w).alloc _
 go_enter Tryz.func40, Tryz.ntmps40
 go_wp2
 go_ret
 exact ⟨rfl, hx0⟩
theorem slice_pre {b o N c k : Nat} (h0 : 0 < c) (h : k ≤ c) (W : World) : (Instr.slice 24 (.slice (some ⟨b, o, none⟩) N c) none (some (.int .i64 (k : Int))) none).run Tryz.prog W = .ok (.slice (some ⟨b, o, none⟩) k c) W := by
 have hz : ∀ w, (Go.sizeOf 2).run Tryz.prog w = .ok 1 w := fun w => by kernel_rfl
 have he : Tryz.prog.elem 24 = 2 := by kernel_rfl
 rw [run_slice_h W 24 _ _ _ (by rw [he]; exact Tryz.underlying24) .i64 _ (by omega) (by omega), he, hz]
 have hne : ¬ c = 0 := by omega
 simp [Result.andThen, sliced, Addr.add, hne]
theorem negs_lt {F : List Int} {j : Nat} (h : j < (negs F).length) : (negs F).getD j 0 < (F.length : Int) := by
 obtain ⟨i, h1, h2, _⟩ := negs_in.1 (getD_mem (d := (0 : Int)) h)
 omega
set_option maxHeartbeats 3200000 in
set_option maxRecDepth 100000 in
theorem l19Stream_c (nm : ByteArray) (K p k q co r c M : Int) (L : Nat) (ps pl pg : Option Addr) (cs cl cg : Nat) (ss ls xs : List Int) (w : World) (hs : IntsAt w ps ss) (hlv : IntsAt w pl ls) (hx : IntsAt w pg xs) (hn : nm.size ≤ 1048576) (hl1 : ss.length ≤ 1048576) (hl2 : ls.length ≤ 1048576) (hl3 : xs.length ≤ 1048576) (hcap : xs.length ≤ cg) (hz : szC nm K p k q ss co ls r c xs = 0) (hg : lvG K p k q co ls r c xs) (hL : lvL K r c xs ls.length = L) (hM : lvM K r c xs = M) :
  Calls Tryz.prog 64 #[vFam nm K p k q ps ss.length cs co pl ls.length cl, vGrid r c pg xs.length cg, .int .i64 L, .int .i64 M] w fun e w' => StE w.heap.size w' (strF K p k co r c xs) e ∧ Ext w w' := by
 have hx' := hx; have HS := Lib.hid hs; have HV := Lib.hid hlv; have HX := Lib.hid hx; clear hs hlv hx
 obtain ⟨⟨hF, hG⟩, hin, hcc⟩ := szC_zero hz
 have hll : L < ls.length := by have := hg.1; omega
 have hlx := (hF.2.2.2.1 L hll).1
 have hsz := famS hF hin
 have hly := Lib.hid (fun W (h : IntsAt W pl ls) => sLay_c nm K p k q co ps pl ss.length cs cl L ls r W h hll hl2 hlx (fam_fld hF) hsz)
 have hbd := ly_bd (K := K) (co := co) (n := r) (x := ls.getD L 0) (fam_fld hF) hsz
 have hFl : ((strF K p k co r c xs).length : Int) = lyD K p k co r (ls.getD L 0) + lyN K p k co r * lyC K p k co r (ls.getD L 0) := by
  rw [strF_len c xs hsz]; unfold lyD; omega
 have hlok : layOK p k q (lyD K p k co r (ls.getD L 0)) (lyC K p k co r (ls.getD L 0)) (lyN K p k co r) := by
  have := hg.2
  rw [hL, Int.toNat_natCast] at this
  exact this
 have hto := Lib.hid (fun W => l07Total_c p k q (lyD K p k co r (ls.getD L 0)) (lyC K p k co r (ls.getD L 0)) (lyN K p k co r) W (by have := hlok.2.1; omega) hlok.1 hlok.2.2.1)
 rw [← hFl] at hto
 have hF1 : 1 ≤ (strF K p k co r c xs).length := by
  have h1 := strF_len (p := p) (k := k) c xs hsz
  have h2 := elV_bd (co := co) (fam_fld hF) hsz
  omega
 have hF2 : (strF K p k co r c xs).length ≤ 1681 := by
  have h1 := strF_len (p := p) (k := k) c xs hsz
  have h2 := elV_bd (co := co) (fam_fld hF) hsz
  omega
 clear hFl hlok hbd hlx hg
 generalize lyD K p k co r (ls.getD L 0) = D at *
 generalize lyC K p k co r (ls.getD L 0) = C9 at *
 generalize lyN K p k co r = N9 at *
 rcases hsz with ⟨rfl, hsz⟩ | ⟨rfl, hsz, hco8⟩
 ·obtain ⟨n0, rfl⟩ : ∃ n : Nat, r = n := ⟨r.toNat, by have := hsz.1; omega⟩
  have hn2 : 17 ≤ n0 ∧ n0 ≤ 41 := by have := hsz.1; omega
  have h4 : n0 % 4 = 1 := by have := hsz.2; omega
  rw [colsV_mx (by decide)] at hcc
  subst hcc
  have hK2 : ¬ (1 : Int) = 2 := by decide
  obtain ⟨R, C, hR, hC, _, _, _, hlen⟩ := grid_nat hG
  obtain rfl : n0 = R := by omega
  obtain rfl : n0 = C := by omega
  have hbd := hG.2.2.2.2
  have hMb := lvM_bd 1 n0 n0 xs
  obtain ⟨M, rfl⟩ : ∃ M0 : Nat, M = M0 := ⟨M.toNat, by omega⟩
  rw [strF_mx p k co n0 M xs hK2 hM] at hF1 hF2 hto ⊢
  rw [hM] at hMb
  have hwb := fam_w hF
  have hfw := Lib.hid (fun W => l11Width_c p k q W (fam_fld hF))
  have hml : (mskL M n0 xs).length = n0 * n0 := by rw [mskL_lenS]; exact hlen
  have hmk := Lib.hid (fun W (h : IntsAt W pg xs) => sApply_c M n0 cg (by omega) pg xs W hn2 h4 h hlen hbd)
  have htk := Lib.hid (fun pp kk W (h : IntsAt W pp (mskL M n0 xs)) => l15Take_c n0 (fW (fldSize p k)) kk pp (mskL M n0 xs) W hn2 h4 h hml hwb.1 hwb.2 (mskTo_bd hbd _))
  generalize elemsV (fW (fldSize p k)) (cellsL n0 (mskL M n0 xs) (dpL n0)) ((dpL n0).length / fW (fldSize p k)) = F at *
  generalize fW (fldSize p k) = wd at *
  generalize mskL M n0 xs = ms at *
  rw [hlen] at hmk
  replace hml := Lib.hid hml
  replace hlen := Lib.hid hlen
  clear hF hG hin hsz hx' hK2 hR hC hbd hM hL hz
  clear hl1 hl2 hn
  have hxA : Ext w ((w.alloc (.cells #[.string nm, .int .i64 1, .int .i64 p, .int .i64 k, .int .i64 q, .slice ps ss.length cs, .int .i64 co, .slice pl ls.length cl] 35)).alloc (.cells #[.int .i64 n0, .int .i64 n0, .slice pg xs.length cg] 37)) := ((Ext.refl w).alloc _).alloc _
  have hbA := (Blk.new w #[.string nm, .int .i64 1, .int .i64 p, .int .i64 k, .int .i64 q, .slice ps ss.length cs, .int .i64 co, .slice pl ls.length cl] 35).alloc (.cells #[.int .i64 n0, .int .i64 n0, .slice pg xs.length cg] 37)
  have hbB := Blk.new1 w (.cells #[.string nm, .int .i64 1, .int .i64 p, .int .i64 k, .int .i64 q, .slice ps ss.length cs, .int .i64 co, .slice pl ls.length cl] 35) #[.int .i64 n0, .int .i64 n0, .slice pg xs.length cg] 37
  go_enter Tryz.func64, Tryz.ntmps64
  go_upto_region 1 with (fail)
  obtain ⟨gF, hgF⟩ : ∃ g, w.heap.size = g := ⟨_, rfl⟩
  obtain ⟨gG, hgG⟩ : ∃ g, w.heap.size + 1 = g := ⟨_, rfl⟩
  have hBx := Lib.hid (fun W (h : Ext w W) => h.below.size)
  rw [hgG] at hbB ⊢
  rw [hgF] at hbA ⊢
  clear hgF hgG
  generalize ((w.alloc (.cells #[.string nm, .int .i64 1, .int .i64 p, .int .i64 k, .int .i64 q, .slice ps ss.length cs, .int .i64 co, .slice pl ls.length cl] 35)).alloc (.cells #[.int .i64 n0, .int .i64 n0, .slice pg xs.length cg] 37)) = w0 at *
  obtain ⟨a0, a1, a2, a3, a4, a5, a6, a7⟩ := hbA.c8; have aL := hbA.lt; obtain ⟨c0, c1, c2⟩ := hbB.c3; have cL := hbB.lt
  have hxe : Ext w0 ((w0.alloc (.cells #[] 2)).alloc (.cells #[] 2)) := ((Ext.refl _).alloc _).alloc _
  go_upto_region 2 with (fail)
  generalize (w0.alloc (.cells #[] 2)).alloc (.cells #[] 2) = w1 at *
  replace hbA := hbA.ext hxe; replace hbB := hbB.ext hxe; replace hxA := hxA.trans hxe; clear a0 a1 a2 a3 a4 a5 a6 a7 aL c0 c1 c2 cL; obtain ⟨a0, a1, a2, a3, a4, a5, a6, a7⟩ := hbA.c8; have aL := hbA.lt; obtain ⟨c0, c1, c2⟩ := hbB.c3; have cL := hbB.lt
  go_upto_region 4 with (fail)
  rw [hlen.out] at *
  refine wp_region_canon (fun w' => Ext w1 w') [(0, true), (1, true), (3, true), (4, true), (2, false), (5, false), (6, false), (7, true), (8, true), (9, true), (10, true), (11, true)] (by kernel_rfl) (by kernel_rfl) (by decide) (by kernel_rfl) ?_ ?_
  ·exact eX
  refine canon_intro fun ops eo => ?_
  replace eo := canon_eo eo
  iterate 4 all_goals (refine cS eo rfl rfl evE ?_; simp only [ptN])
  all_goals first | (refine canon_ef (eo.out 2 rfl) rfl (fun K hK => ?_); go_simp; ((go_at_call 104; (with_reducible refine (hmk.out _ (HX.out.ext (hxA.trans eX))).mono ?_); rintro e w2 ⟨⟨pm, km, hvm, om, -⟩, hx2⟩; rw [hml.out] at hvm; subst hvm; replace om := Lib.hid om.ints)); all_goals (refine hK _ _ ⟨eX, ?_⟩; clear hK K; go_simp))
  all_goals first | (refine canon_ef (eo.out 5 rfl) rfl (fun K hK => ?_); go_simp; ((go_at_call 75; (with_reducible refine (hfw.out _).mono ?_); rintro e w3 ⟨rfl, hx3⟩)); all_goals (refine hK _ _ ⟨eX, ?_⟩; clear hK K; go_simp))
  all_goals first | (refine canon_ef (eo.out 6 rfl) rfl (fun K hK => ?_); go_simp; ((go_at_call 103; (with_reducible refine (htk.out _ _ _ (om.out.ext eX)).mono ?_); rintro e w4 ⟨⟨v4, v5, rfl, hT⟩, hx4⟩; replace hT := hT.low (hBx.out _ (hxA.trans eX)))); all_goals (refine hK _ _ ⟨eX, ?_⟩; clear hK K; go_simp))
  iterate 5 all_goals (refine cS eo rfl rfl evE ?_; simp only [ptN])
  all_goals (clear eo; refine canon_done (NoPanic.normal ?_))
  have hxq : Ext w1 w4 := eX
  clear om
  replace hbA := hbA.ext hxq; replace hbB := hbB.ext hxq; replace hxA := hxA.trans hxq; clear a0 a1 a2 a3 a4 a5 a6 a7 aL c0 c1 c2 cL; obtain ⟨a0, a1, a2, a3, a4, a5, a6, a7⟩ := hbA.c8; have aL := hbA.lt; obtain ⟨c0, c1, c2⟩ := hbB.c3; have cL := hbB.lt
  have hnl := fun j (h : j < (negs F).length) => negs_lt (F := F) h
  have hnn := negs_len F
  have hpl := pos0_len F
  obtain ⟨p4, c4, p5, c5, rfl, rfl, o4, o5, l4, l5⟩ := hT.ends
  obtain ⟨b4, q4, rfl, -, -, -⟩ := o4 0 (by omega)
  rw [hpl] at l4 ⊢
  replace hpl := Lib.hid hpl
  have hnl := Lib.hid hnl
  obtain ⟨n, hnN⟩ : ∃ n, F.length = n := ⟨_, rfl⟩
  rw [hnN] at hnl hnn hF1 hF2 l4 hto ⊢
  obtain ⟨m, hm⟩ : ∃ m, (negs F).length = m := ⟨_, rfl⟩
  rw [hm] at hnl hnn ⊢
  replace hnN := Lib.hid hnN; replace hm := Lib.hid hm
  clear hT l5
  go_upto_region 6 with (first
   | (go_at_call 22; go_loud ((with_reducible refine (hly.out _ (HV.out.ext hxA)).mono ?_); rintro e w6 ⟨rfl, hx6⟩; replace hbA := hbA.ext hx6; replace hbB := hbB.ext hx6; replace hxA := hxA.trans hx6; clear a0 a1 a2 a3 a4 a5 a6 a7 aL c0 c1 c2 cL; obtain ⟨a0, a1, a2, a3, a4, a5, a6, a7⟩ := hbA.c8; have aL := hbA.lt; obtain ⟨c0, c1, c2⟩ := hbB.c3; have cL := hbB.lt))
   | (go_at_call 40; go_loud ((with_reducible refine (hto.out _).mono ?_); rintro e w7 ⟨rfl, hx7⟩; replace hbA := hbA.ext hx7; replace hbB := hbB.ext hx7; replace hxA := hxA.trans hx7; clear a0 a1 a2 a3 a4 a5 a6 a7 aL c0 c1 c2 cL; obtain ⟨a0, a1, a2, a3, a4, a5, a6, a7⟩ := hbA.c8; have aL := hbA.lt; obtain ⟨c0, c1, c2⟩ := hbB.c3; have cL := hbB.lt)))
  replace o4 := o4.ext (hx6.trans hx7); replace o5 := o5.ext (hx6.trans hx7)
  have hr0 : RowI w7.heap.size (w7.alloc (.cells #[] 2)) (.slice (some ⟨w7.heap.size, 0, none⟩) 0 0) ((negs F).take 0) := RowI.made (Nat.le_refl _)
  have hx8 : Ext w7 (w7.alloc (.cells #[] 2)) := (Ext.refl _).alloc _
  have i4 := Lib.hid o4.ints; have i5 := Lib.hid o5.ints
  have hBq := Lib.hid (hBx.out _ hxA)
  go_upto_region 8 with (fail)
  clear a0 a1 a2 a3 a4 a5 a6 a7 aL c0 c1 c2 cL o4 o5
  generalize w7.alloc (.cells #[] 2) = w8 at *
  generalize Value.slice (some ⟨w7.heap.size, 0, none⟩) 0 0 = v8 at *
  go_loopw [13, 14] (fun x i wr => ∃ j : Nat, j ≤ m ∧ i = .int .i64 j ∧ RowI w7.heap.size wr x ((negs F).take j) ∧ Ext w7 wr) (fun _ i _ => m - (intOf i).toNat)
  case atStart => exact ⟨0, Nat.zero_le _, rfl, hr0, hx8⟩
  case round =>
   clear hr0 hx8
   obtain ⟨j, hj, rfl, hr, hxr⟩ := hrel
   by_cases hlt : j < m
   ·have hup : (negs F).take (j + 1) = (negs F).take j ++ [(negs F).getD j 0] := by
     have := take_up (l := negs F) (j := j) (by rw [hm.out]; exact hlt) []
     simpa using this
    have hlv := hnl.out j hlt
    have hlen2 : ((negs F).take j).length ≤ 1681 := by rw [List.length_take]; have := hm.out; omega
    obtain ⟨b5, q5, rfl, hb5, y5⟩ := (i5.out.ext hxr) j (by rw [hm.out]; exact hlt)
    have hwB := hxr.below.size
    generalize (negs F).getD j 0 = v at *
    generalize (negs F).take j = T0 at *
    replace hup := Lib.hid hup
    go_wp2_with (at_builtin; go_loud (refine append1I hr (by omega) hwB ?_ rfl rfl); intro v9 w9 hr9 hb9)
    exact ⟨⟨j + 1, hlt, by go_num, by rw [hup.out]; exact hr9, Below.trans hxr hb9⟩, by simp [intOf]; omega⟩
   ·obtain rfl : j = m := by omega
    rw [List.take_of_length_le (Nat.le_of_eq hm.out)] at hr
    have hsl := slice_pre (b := b4) (o := q4) (N := n) (c := c4) (k := n) (by omega) l4
    have how := Lib.hid (fun W (h : IntsAt W (some ⟨b4, q4, none⟩) (pos0 F)) => sOwn_c (some ⟨b4, q4, none⟩) c4 (pos0 F) W h (by rw [hpl.out, hnN.out]; omega))
    rw [hpl.out, hnN.out] at how
    have hxw := hxA.trans hxr
    go_wp2_with (go_at_call 61; go_loud ((with_reducible refine (how.out _ (i4.out.ext hxr)).mono ?_); rintro e w9 ⟨⟨v9, rfl, hr9⟩, hx9⟩))
    refine bodyPost_ret (v := .tuple #[v9, u13]) (by simp [results, Tryz.results64, go_sem]) rfl ⟨⟨v9, u13, rfl, ⟨hr9.mono ?_, (hr.ext hx9).mono ?_, fun a h1 h2 => ?_⟩⟩, hxw.trans hx9⟩
    ·have := hxr.below.size; have := hBq.out; omega
    ·have := hBq.out; omega
    ·have := (hr.lt a h1).2
     have := (hr9.lt a h2).1
     omega
 ·obtain ⟨R, C, cO, rfl, rfl, rfl, hlen, hR1, hR2, hC1, hC2, hRC, hrN⟩ := stk_nat hF hG hin hcc
  obtain ⟨b, o, rfl⟩ := hx'.where_ (by rw [hlen]; exact Nat.mul_pos hR1 (by omega))
  have hse := Lib.hid (fun W (h : IntsAt W (some ⟨b, o, none⟩) xs) => l17Elements_c nm 2 p k q ps pl ss.length cs ls.length cl R C cO b o cg xs W h hlen hrN hC1 hcap hRC)
  rw [strF_st] at hF1 hF2 hto ⊢
  generalize flatV xs C cO R = F at *
  clear hF hG hin hcc hsz hx' hlen hRC hrN hn hl1 hl2 hM hL hz
  have hxA : Ext w ((w.alloc (.cells #[.string nm, .int .i64 2, .int .i64 p, .int .i64 k, .int .i64 q, .slice ps ss.length cs, .int .i64 cO, .slice pl ls.length cl] 35)).alloc (.cells #[.int .i64 R, .int .i64 C, .slice (some ⟨b, o, none⟩) xs.length cg] 37)) := ((Ext.refl w).alloc _).alloc _
  have hbA := (Blk.new w #[.string nm, .int .i64 2, .int .i64 p, .int .i64 k, .int .i64 q, .slice ps ss.length cs, .int .i64 cO, .slice pl ls.length cl] 35).alloc (.cells #[.int .i64 R, .int .i64 C, .slice (some ⟨b, o, none⟩) xs.length cg] 37)
  have hbB := Blk.new1 w (.cells #[.string nm, .int .i64 2, .int .i64 p, .int .i64 k, .int .i64 q, .slice ps ss.length cs, .int .i64 cO, .slice pl ls.length cl] 35) #[.int .i64 R, .int .i64 C, .slice (some ⟨b, o, none⟩) xs.length cg] 37
  go_enter Tryz.func64, Tryz.ntmps64
  go_upto_region 1 with (fail)
  obtain ⟨gF, hgF⟩ : ∃ g, w.heap.size = g := ⟨_, rfl⟩
  obtain ⟨gG, hgG⟩ : ∃ g, w.heap.size + 1 = g := ⟨_, rfl⟩
  have hBx := Lib.hid (fun W (h : Ext w W) => h.below.size)
  rw [hgG] at hbB ⊢
  rw [hgF] at hbA ⊢
  clear hgF hgG
  generalize ((w.alloc (.cells #[.string nm, .int .i64 2, .int .i64 p, .int .i64 k, .int .i64 q, .slice ps ss.length cs, .int .i64 cO, .slice pl ls.length cl] 35)).alloc (.cells #[.int .i64 R, .int .i64 C, .slice (some ⟨b, o, none⟩) xs.length cg] 37)) = w0 at *
  obtain ⟨a0, a1, a2, a3, a4, a5, a6, a7⟩ := hbA.c8; have aL := hbA.lt; obtain ⟨c0, c1, c2⟩ := hbB.c3; have cL := hbB.lt
  have hxe : Ext w0 ((w0.alloc (.cells #[] 2)).alloc (.cells #[] 2)) := ((Ext.refl _).alloc _).alloc _
  go_upto_region 2 with (fail)
  generalize (w0.alloc (.cells #[] 2)).alloc (.cells #[] 2) = w1 at *
  replace hbA := hbA.ext hxe; replace hbB := hbB.ext hxe; replace hxA := hxA.trans hxe; clear a0 a1 a2 a3 a4 a5 a6 a7 aL c0 c1 c2 cL; obtain ⟨a0, a1, a2, a3, a4, a5, a6, a7⟩ := hbA.c8; have aL := hbA.lt; obtain ⟨c0, c1, c2⟩ := hbB.c3; have cL := hbB.lt
  go_upto_region 5 with (go_at_call 102; go_loud ((with_reducible refine (hse.out _ (HX.out.ext hxA)).mono ?_); rintro e w4 ⟨⟨v4, v5, rfl, hT⟩, hxq⟩; replace hT := hT.low (hBx.out _ hxA)))
  replace hbA := hbA.ext hxq; replace hbB := hbB.ext hxq; replace hxA := hxA.trans hxq; clear a0 a1 a2 a3 a4 a5 a6 a7 aL c0 c1 c2 cL; obtain ⟨a0, a1, a2, a3, a4, a5, a6, a7⟩ := hbA.c8; have aL := hbA.lt; obtain ⟨c0, c1, c2⟩ := hbB.c3; have cL := hbB.lt
  have hnl := fun j (h : j < (negs F).length) => negs_lt (F := F) h
  have hnn := negs_len F
  have hpl := pos0_len F
  obtain ⟨p4, c4, p5, c5, rfl, rfl, o4, o5, l4, l5⟩ := hT.ends
  obtain ⟨b4, q4, rfl, -, -, -⟩ := o4 0 (by omega)
  rw [hpl] at l4 ⊢
  replace hpl := Lib.hid hpl
  have hnl := Lib.hid hnl
  obtain ⟨n, hnN⟩ : ∃ n, F.length = n := ⟨_, rfl⟩
  rw [hnN] at hnl hnn hF1 hF2 l4 hto ⊢
  obtain ⟨m, hm⟩ : ∃ m, (negs F).length = m := ⟨_, rfl⟩
  rw [hm] at hnl hnn ⊢
  replace hnN := Lib.hid hnN; replace hm := Lib.hid hm
  clear hT l5
  go_upto_region 6 with (first
   | (go_at_call 22; go_loud ((with_reducible refine (hly.out _ (HV.out.ext hxA)).mono ?_); rintro e w6 ⟨rfl, hx6⟩; replace hbA := hbA.ext hx6; replace hbB := hbB.ext hx6; replace hxA := hxA.trans hx6; clear a0 a1 a2 a3 a4 a5 a6 a7 aL c0 c1 c2 cL; obtain ⟨a0, a1, a2, a3, a4, a5, a6, a7⟩ := hbA.c8; have aL := hbA.lt; obtain ⟨c0, c1, c2⟩ := hbB.c3; have cL := hbB.lt))
   | (go_at_call 40; go_loud ((with_reducible refine (hto.out _).mono ?_); rintro e w7 ⟨rfl, hx7⟩; replace hbA := hbA.ext hx7; replace hbB := hbB.ext hx7; replace hxA := hxA.trans hx7; clear a0 a1 a2 a3 a4 a5 a6 a7 aL c0 c1 c2 cL; obtain ⟨a0, a1, a2, a3, a4, a5, a6, a7⟩ := hbA.c8; have aL := hbA.lt; obtain ⟨c0, c1, c2⟩ := hbB.c3; have cL := hbB.lt)))
  replace o4 := o4.ext (hx6.trans hx7); replace o5 := o5.ext (hx6.trans hx7)
  have hr0 : RowI w7.heap.size (w7.alloc (.cells #[] 2)) (.slice (some ⟨w7.heap.size, 0, none⟩) 0 0) ((negs F).take 0) := RowI.made (Nat.le_refl _)
  have hx8 : Ext w7 (w7.alloc (.cells #[] 2)) := (Ext.refl _).alloc _
  have i4 := Lib.hid o4.ints; have i5 := Lib.hid o5.ints
  have hBq := Lib.hid (hBx.out _ hxA)
  go_upto_region 8 with (fail)
  clear a0 a1 a2 a3 a4 a5 a6 a7 aL c0 c1 c2 cL o4 o5
  generalize w7.alloc (.cells #[] 2) = w8 at *
  generalize Value.slice (some ⟨w7.heap.size, 0, none⟩) 0 0 = v8 at *
  go_loopw [13, 14] (fun x i wr => ∃ j : Nat, j ≤ m ∧ i = .int .i64 j ∧ RowI w7.heap.size wr x ((negs F).take j) ∧ Ext w7 wr) (fun _ i _ => m - (intOf i).toNat)
  case atStart => exact ⟨0, Nat.zero_le _, rfl, hr0, hx8⟩
  case round =>
   clear hr0 hx8
   obtain ⟨j, hj, rfl, hr, hxr⟩ := hrel
   by_cases hlt : j < m
   ·have hup : (negs F).take (j + 1) = (negs F).take j ++ [(negs F).getD j 0] := by
     have := take_up (l := negs F) (j := j) (by rw [hm.out]; exact hlt) []
     simpa using this
    have hlv := hnl.out j hlt
    have hlen2 : ((negs F).take j).length ≤ 1681 := by rw [List.length_take]; have := hm.out; omega
    obtain ⟨b5, q5, rfl, hb5, y5⟩ := (i5.out.ext hxr) j (by rw [hm.out]; exact hlt)
    have hwB := hxr.below.size
    generalize (negs F).getD j 0 = v at *
    generalize (negs F).take j = T0 at *
    replace hup := Lib.hid hup
    go_wp2_with (at_builtin; go_loud (refine append1I hr (by omega) hwB ?_ rfl rfl); intro v9 w9 hr9 hb9)
    exact ⟨⟨j + 1, hlt, by go_num, by rw [hup.out]; exact hr9, Below.trans hxr hb9⟩, by simp [intOf]; omega⟩
   ·obtain rfl : j = m := by omega
    rw [List.take_of_length_le (Nat.le_of_eq hm.out)] at hr
    have hsl := slice_pre (b := b4) (o := q4) (N := n) (c := c4) (k := n) (by omega) l4
    have how := Lib.hid (fun W (h : IntsAt W (some ⟨b4, q4, none⟩) (pos0 F)) => sOwn_c (some ⟨b4, q4, none⟩) c4 (pos0 F) W h (by rw [hpl.out, hnN.out]; omega))
    rw [hpl.out, hnN.out] at how
    have hxw := hxA.trans hxr
    go_wp2_with (go_at_call 61; go_loud ((with_reducible refine (how.out _ (i4.out.ext hxr)).mono ?_); rintro e w9 ⟨⟨v9, rfl, hr9⟩, hx9⟩))
    refine bodyPost_ret (v := .tuple #[v9, u13]) (by simp [results, Tryz.results64, go_sem]) rfl ⟨⟨v9, u13, rfl, ⟨hr9.mono ?_, (hr.ext hx9).mono ?_, fun a h1 h2 => ?_⟩⟩, hxw.trans hx9⟩
    ·have := hxr.below.size; have := hBq.out; omega
    ·have := hBq.out; omega
    ·have := (hr.lt a h1).2
     have := (hr9.lt a h2).1
     omega
end Go.Proofs.YtojdediohjghnaaGreatDoor
