/- The stream of a symbol, the program's side. -/
import Derived.Test.YtekignklnakkaaaGreatDoorLDamagedElementsK36
import Derived.Test.YtekignklnakkaaaGreatDoorLDamagedElementsK37
set_option linter.unusedVariables false
set_option linter.unusedSimpArgs false
namespace Go.Proofs.YtekignklnakkaaaGreatDoor
open Go.RowKit

def StI (B : Nat) (w' : World) (F : List Int) (L cd : Int) (e : Ending) : Prop := ∃ v4 v5 er, e = .returned (.tuple #[v4, v5, .int .i64 L, er]) ∧ TwoE B w' v4 v5 F ∧ ErrV er cd
set_option maxHeartbeats 3200000 in
set_option maxRecDepth 100000 in
theorem streamOf_c (nm : ByteArray) (K p k q co r c : Int) (ps pl pg : Option Addr) (cs cl cg : Nat) (ss ls xs : List Int) (w : World) (hs : IntsAt w ps ss) (hlv : IntsAt w pl ls) (hx : IntsAt w pg xs) (hn : nm.size ≤ 1048576) (hl1 : ss.length ≤ 1048576) (hl2 : ls.length ≤ 1048576) (hl3 : xs.length ≤ 1048576) (hcap : xs.length ≤ cg) :
    Calls Tryz.prog 44 #[vFam nm K p k q ps ss.length cs co pl ls.length cl, vGrid r c pg xs.length cg] w fun e w' => StI w.heap.size w' (stF nm K p k q ss co ls r c xs) (lvR nm K p k q ss co ls r c xs).1 (lvR nm K p k q ss co ls r c xs).2 e ∧ Ext w w' := by
  have hx' := hx; have HS := Lib.hid hs; have HV := Lib.hid hlv; have HX := Lib.hid hx; clear hs hlv hx
  by_cases h0 : (lvR nm K p k q ss co ls r c xs).2 = 0
  · obtain ⟨hz, hg⟩ := lvR_iff.1 h0
    obtain ⟨⟨hF, hG⟩, hin, hcc⟩ := szC_zero hz
    have hL1 : (lvR nm K p k q ss co ls r c xs).1 = lvL K r c xs ls.length := by rw [lvR_ok hz hg]
    rw [h0, stF_ok h0, hL1]
    have hMb := lvM_bd K r c xs
    have hlv := Lib.hid (fun W (h1 : IntsAt W ps ss) (h2 : IntsAt W pl ls) (h3 : IntsAt W pg xs) => (levelOf_c nm K p k q co r c ps pl pg cs cl cg ss ls xs W h1 h2 h3 hn hl1 hl2 hl3 hcap).mono (R' := fun e w' => e = .returned (.tuple #[.int .i64 (lvL K r c xs ls.length), .int .i64 (lvM K r c xs), .nilIface]) ∧ Ext W w') (fun e w' ⟨h, hx⟩ => ⟨h.elim (fun h => h.2.2) (fun h => absurd ⟨hz, hg⟩ h.1), hx⟩))
    clear hL1 h0 hz hg
    rcases famS hF hin with ⟨rfl, hsz⟩ | ⟨rfl, hsz, hco8⟩
    · obtain ⟨n, rfl⟩ : ∃ n : Nat, r = n := ⟨r.toNat, by have := hsz.1; omega⟩
      have hn2 : 17 ≤ n ∧ n ≤ 41 := by have := hsz.1; omega
      have h4 : n % 4 = 1 := by have := hsz.2; omega
      rw [colsV_mx (by decide)] at hcc
      subst hcc
      have hK2 : ¬ (1 : Int) = 2 := by decide
      obtain ⟨R, C, hR, hC, _, _, _, hlen⟩ := grid_nat hG
      obtain rfl : n = R := by omega
      obtain rfl : n = C := by omega
      have hbd := hG.2.2.2.2
      obtain ⟨M, hM⟩ : ∃ M : Nat, lvM 1 n n xs = M := ⟨(lvM 1 n n xs).toNat, by omega⟩
      rw [strF_mx p k co n M xs hK2 hM]
      rw [hM] at hlv hMb
      have hwb := fam_w hF
      have hfw := Lib.hid (fun W => iFieldWidth_c p k q (fam_fld hF) W)
      have hml : (mskL M n xs).length = n * n := by rw [mskL_lenS]; exact hlen
      have hmk := Lib.hid (fun W (h : IntsAt W pg xs) => masked_c M n cg (by omega) pg xs W hn2 h4 h hlen hbd)
      have htk := Lib.hid (fun pp kk W (h : IntsAt W pp (mskL M n xs)) => takeElements_c n (fW (fldSize p k)) kk pp (mskL M n xs) W hn2 h4 h hml hwb.1 hwb.2 (mskTo_bd hbd _))
      generalize elemsV (fW (fldSize p k)) (cellsL n (mskL M n xs) (dpL n)) ((dpL n).length / fW (fldSize p k)) = F at *
      generalize fW (fldSize p k) = wd at *
      generalize mskL M n xs = ms at *
      generalize lvL 1 n n xs ls.length = L at *
      rw [hlen] at hmk
      replace hml := Lib.hid hml
      replace hlen := Lib.hid hlen
      clear hF hG hin hsz hx' hK2 hR hC hbd hM
      clear hl1 hl2 hn
      have hxA : Ext w ((w.alloc (.cells #[.string nm, .int .i64 1, .int .i64 p, .int .i64 k, .int .i64 q, .slice ps ss.length cs, .int .i64 co, .slice pl ls.length cl] 35)).alloc (.cells #[.int .i64 n, .int .i64 n, .slice pg xs.length cg] 37)) := ((Ext.refl w).alloc _).alloc _
      have hbA := (Blk.new w #[.string nm, .int .i64 1, .int .i64 p, .int .i64 k, .int .i64 q, .slice ps ss.length cs, .int .i64 co, .slice pl ls.length cl] 35).alloc (.cells #[.int .i64 n, .int .i64 n, .slice pg xs.length cg] 37)
      have hbB := Blk.new1 w (.cells #[.string nm, .int .i64 1, .int .i64 p, .int .i64 k, .int .i64 q, .slice ps ss.length cs, .int .i64 co, .slice pl ls.length cl] 35) #[.int .i64 n, .int .i64 n, .slice pg xs.length cg] 37
      go_enter Tryz.func44, Tryz.ntmps44
      go_upto_region 1 with (fail)
      obtain ⟨gF, hgF⟩ : ∃ g, w.heap.size = g := ⟨_, rfl⟩
      obtain ⟨gG, hgG⟩ : ∃ g, w.heap.size + 1 = g := ⟨_, rfl⟩
      have hBx := Lib.hid (fun W (h : Ext w W) => h.below.size)
      rw [hgG] at hbB ⊢
      rw [hgF] at hbA ⊢
      clear hgF hgG
      generalize ((w.alloc (.cells #[.string nm, .int .i64 1, .int .i64 p, .int .i64 k, .int .i64 q, .slice ps ss.length cs, .int .i64 co, .slice pl ls.length cl] 35)).alloc (.cells #[.int .i64 n, .int .i64 n, .slice pg xs.length cg] 37)) = w0 at *
      obtain ⟨a0, a1, a2, a3, a4, a5, a6, a7⟩ := hbA.c8; have aL := hbA.lt; obtain ⟨c0, c1, c2⟩ := hbB.c3; have cL := hbB.lt
      go_upto_region 4 with (go_at_call 77; go_loud ((with_reducible refine (hlv.out _ (HS.out.ext hxA) (HV.out.ext hxA) (HX.out.ext hxA)).mono ?_); rintro e w4 ⟨rfl, hx4⟩; replace hbA := hbA.ext hx4; replace hbB := hbB.ext hx4; replace hxA := hxA.trans hx4; clear a0 a1 a2 a3 a4 a5 a6 a7 aL c0 c1 c2 cL; obtain ⟨a0, a1, a2, a3, a4, a5, a6, a7⟩ := hbA.c8; have aL := hbA.lt; obtain ⟨c0, c1, c2⟩ := hbB.c3; have cL := hbB.lt))
      go_upto_region 7 with (fail)
      rw [hlen.out] at *
      refine wp_region_canon (fun w' => Ext w4 w') [(0, true), (1, true), (3, true), (4, true), (2, false), (5, false), (6, false), (7, true), (8, true), (9, true), (10, true), (11, true)] (by kernel_rfl) (by kernel_rfl) (by decide) (by kernel_rfl) ?_ ?_
      · exact eX
      refine canon_intro fun ops eo => ?_
      have ho0 := canon_at eo 0 rfl
      have ho1 := canon_at eo 1 rfl
      have ho2 := canon_at eo 2 rfl
      have ho3 := canon_at eo 3 rfl
      have ho4 := canon_at eo 4 rfl
      have ho5 := canon_at eo 5 rfl
      have ho6 := canon_at eo 6 rfl
      have ho7 := canon_at eo 7 rfl
      have ho8 := canon_at eo 8 rfl
      have ho9 := canon_at eo 9 rfl
      have ho10 := canon_at eo 10 rfl
      have ho11 := canon_at eo 11 rfl
      clear eo
      all_goals (apply canon_st ho0 rfl; exact evE; simp only [ptN])
      all_goals clear ho0
      all_goals (apply canon_st ho1 rfl; exact evE; simp only [ptN])
      all_goals clear ho1
      all_goals (apply canon_st ho3 rfl; exact evE; simp only [ptN])
      all_goals clear ho3
      all_goals (apply canon_st ho4 rfl; exact evE; simp only [ptN])
      all_goals clear ho4
      all_goals first | (refine canon_ef ho2 rfl (fun K hK => ?_); go_simp; ((go_at_call 80; (with_reducible refine (hmk.out _ (HX.out.ext (hxA.trans eX))).mono ?_); rintro e w5 ⟨⟨pm, km, hvm, om, -⟩, hx5⟩; rw [hml.out] at hvm; subst hvm; replace om := Lib.hid om.ints)); all_goals (refine hK _ _ ⟨eX, ?_⟩; clear hK K; go_simp))
      all_goals clear ho2
      all_goals first | (refine canon_ef ho5 rfl (fun K hK => ?_); go_simp; ((go_at_call 81; (with_reducible refine (hfw.out _).mono ?_); rintro e w6 ⟨rfl, hx6⟩)); all_goals (refine hK _ _ ⟨eX, ?_⟩; clear hK K; go_simp))
      all_goals clear ho5
      all_goals first | (refine canon_ef ho6 rfl (fun K hK => ?_); go_simp; ((go_at_call 79; (with_reducible refine (htk.out _ _ _ (om.out.ext eX)).mono ?_); rintro e w7 ⟨⟨v4, v5, rfl, hT⟩, hx7⟩; replace hT := hT.low (hBx.out _ (hxA.trans eX)))); all_goals (refine hK _ _ ⟨eX, ?_⟩; clear hK K; go_simp))
      all_goals clear ho6
      all_goals (apply canon_st ho7 rfl; exact evE; simp only [ptN])
      all_goals clear ho7
      all_goals (apply canon_st ho8 rfl; exact evE; simp only [ptN])
      all_goals clear ho8
      all_goals (apply canon_st ho9 rfl; exact evE; simp only [ptN])
      all_goals clear ho9
      all_goals (apply canon_st ho10 rfl; exact evE; simp only [ptN])
      all_goals clear ho10
      all_goals (apply canon_st ho11 rfl; exact evE; simp only [ptN])
      all_goals clear ho11
      all_goals refine canon_done (NoPanic.normal ?_)
      go_wp2
      exact bodyPost_ret (v := .tuple #[v4, v5, .int .i64 L, .nilIface]) (by simp [results, Tryz.results44, go_sem]) rfl ⟨⟨v4, v5, _, rfl, hT, .inl ⟨rfl, rfl⟩⟩, hxA.trans eX⟩
    · obtain ⟨R, C, cO, rfl, rfl, rfl, hlen, hR1, hR2, hC1, hC2, hRC, hrN⟩ := stk_nat hF hG hin hcc
      obtain ⟨b, o, rfl⟩ := hx'.where_ (by rw [hlen]; exact Nat.mul_pos hR1 (by omega))
      have hse := Lib.hid (fun W (h : IntsAt W (some ⟨b, o, none⟩) xs) => stackElements_c R C cO b o cg xs W h hlen hC1 hrN (by omega) hcap hRC hG.2.2.2.2)
      rw [strF_st]
      generalize flatV xs C cO R = F at *
      generalize lvL 2 R C xs ls.length = L at *
      generalize lvM 2 R C xs = M at *
      clear hF hG hin hcc hsz hx' hlen hRC hrN hn hl1 hl2
      have hxA : Ext w ((w.alloc (.cells #[.string nm, .int .i64 2, .int .i64 p, .int .i64 k, .int .i64 q, .slice ps ss.length cs, .int .i64 cO, .slice pl ls.length cl] 35)).alloc (.cells #[.int .i64 R, .int .i64 C, .slice (some ⟨b, o, none⟩) xs.length cg] 37)) := ((Ext.refl w).alloc _).alloc _
      have hbA := (Blk.new w #[.string nm, .int .i64 2, .int .i64 p, .int .i64 k, .int .i64 q, .slice ps ss.length cs, .int .i64 cO, .slice pl ls.length cl] 35).alloc (.cells #[.int .i64 R, .int .i64 C, .slice (some ⟨b, o, none⟩) xs.length cg] 37)
      have hbB := Blk.new1 w (.cells #[.string nm, .int .i64 2, .int .i64 p, .int .i64 k, .int .i64 q, .slice ps ss.length cs, .int .i64 cO, .slice pl ls.length cl] 35) #[.int .i64 R, .int .i64 C, .slice (some ⟨b, o, none⟩) xs.length cg] 37
      go_enter Tryz.func44, Tryz.ntmps44
      go_upto_region 1 with (fail)
      obtain ⟨gF, hgF⟩ : ∃ g, w.heap.size = g := ⟨_, rfl⟩
      obtain ⟨gG, hgG⟩ : ∃ g, w.heap.size + 1 = g := ⟨_, rfl⟩
      have hBx := Lib.hid (fun W (h : Ext w W) => h.below.size)
      rw [hgG] at hbB ⊢
      rw [hgF] at hbA ⊢
      clear hgF hgG
      generalize ((w.alloc (.cells #[.string nm, .int .i64 2, .int .i64 p, .int .i64 k, .int .i64 q, .slice ps ss.length cs, .int .i64 cO, .slice pl ls.length cl] 35)).alloc (.cells #[.int .i64 R, .int .i64 C, .slice (some ⟨b, o, none⟩) xs.length cg] 37)) = w0 at *
      obtain ⟨a0, a1, a2, a3, a4, a5, a6, a7⟩ := hbA.c8; have aL := hbA.lt; obtain ⟨c0, c1, c2⟩ := hbB.c3; have cL := hbB.lt
      go_upto_region 4 with (go_at_call 77; go_loud ((with_reducible refine (hlv.out _ (HS.out.ext hxA) (HV.out.ext hxA) (HX.out.ext hxA)).mono ?_); rintro e w4 ⟨rfl, hx4⟩; replace hbA := hbA.ext hx4; replace hbB := hbB.ext hx4; replace hxA := hxA.trans hx4; clear a0 a1 a2 a3 a4 a5 a6 a7 aL c0 c1 c2 cL; obtain ⟨a0, a1, a2, a3, a4, a5, a6, a7⟩ := hbA.c8; have aL := hbA.lt; obtain ⟨c0, c1, c2⟩ := hbB.c3; have cL := hbB.lt))
      go_wp2_with (go_at_call 78; go_loud ((with_reducible refine (hse.out _ (HX.out.ext hxA)).mono ?_); rintro e w5 ⟨⟨v4, v5, rfl, hT⟩, hx5⟩; replace hT := hT.low (hBx.out _ hxA)))
      exact bodyPost_ret (v := .tuple #[v4, v5, .int .i64 L, .nilIface]) (by simp [results, Tryz.results44, go_sem]) rfl ⟨⟨v4, v5, _, rfl, hT, .inl ⟨rfl, rfl⟩⟩, hxA.trans hx5⟩
  · obtain ⟨hL1, hcd⟩ := lvR_cd h0
    rw [hL1, stF_no h0]
    have hlv := Lib.hid (fun W (h1 : IntsAt W ps ss) (h2 : IntsAt W pl ls) (h3 : IntsAt W pg xs) => (levelOf_c nm K p k q co r c ps pl pg cs cl cg ss ls xs W h1 h2 h3 hn hl1 hl2 hl3 hcap).mono (R' := fun e w' => (∃ n9 : Int, e = .returned (.tuple #[.int .i64 0, .int .i64 0, vErr n9 (lvR nm K p k q ss co ls r c xs).2])) ∧ Ext W w') (fun e w' ⟨h, hx⟩ => ⟨h.elim (fun h => absurd (lvR_iff.2 ⟨h.1, h.2.1⟩) h0) (fun h => by rw [hcd]; exact h.2), hx⟩))
    clear hcd hL1
    generalize (lvR nm K p k q ss co ls r c xs).2 = cd at *
    replace h0 := Lib.hid h0
    clear hx' hn hl1 hl2
    have hxA : Ext w ((w.alloc (.cells #[.string nm, .int .i64 K, .int .i64 p, .int .i64 k, .int .i64 q, .slice ps ss.length cs, .int .i64 co, .slice pl ls.length cl] 35)).alloc (.cells #[.int .i64 r, .int .i64 c, .slice pg xs.length cg] 37)) := ((Ext.refl w).alloc _).alloc _
    have hbA := (Blk.new w #[.string nm, .int .i64 K, .int .i64 p, .int .i64 k, .int .i64 q, .slice ps ss.length cs, .int .i64 co, .slice pl ls.length cl] 35).alloc (.cells #[.int .i64 r, .int .i64 c, .slice pg xs.length cg] 37)
    have hbB := Blk.new1 w (.cells #[.string nm, .int .i64 K, .int .i64 p, .int .i64 k, .int .i64 q, .slice ps ss.length cs, .int .i64 co, .slice pl ls.length cl] 35) #[.int .i64 r, .int .i64 c, .slice pg xs.length cg] 37
    go_enter Tryz.func44, Tryz.ntmps44
    go_upto_region 1 with (fail)
    obtain ⟨gF, hgF⟩ : ∃ g, w.heap.size = g := ⟨_, rfl⟩
    obtain ⟨gG, hgG⟩ : ∃ g, w.heap.size + 1 = g := ⟨_, rfl⟩
    have hBx := Lib.hid (fun W (h : Ext w W) => h.below.size)
    rw [hgG] at hbB ⊢
    rw [hgF] at hbA ⊢
    clear hgF hgG
    generalize ((w.alloc (.cells #[.string nm, .int .i64 K, .int .i64 p, .int .i64 k, .int .i64 q, .slice ps ss.length cs, .int .i64 co, .slice pl ls.length cl] 35)).alloc (.cells #[.int .i64 r, .int .i64 c, .slice pg xs.length cg] 37)) = w0 at *
    obtain ⟨a0, a1, a2, a3, a4, a5, a6, a7⟩ := hbA.c8; have aL := hbA.lt; obtain ⟨c0, c1, c2⟩ := hbB.c3; have cL := hbB.lt
    go_wp2_with (go_at_call 77; go_loud ((with_reducible refine (hlv.out _ (HS.out.ext hxA) (HV.out.ext hxA) (HX.out.ext hxA)).mono ?_); rintro e w4 ⟨⟨n9, rfl⟩, hx4⟩))
    exact bodyPost_ret (v := .tuple #[.slice none 0 0, .slice none 0 0, .int .i64 0, vErr n9 cd]) (by simp [results, Tryz.results44, go_sem]) rfl ⟨⟨_, _, _, rfl, TwoE.nil _ _, .inr ⟨h0.out, n9, rfl⟩⟩, hxA.trans hx4⟩
end Go.Proofs.YtekignklnakkaaaGreatDoor
