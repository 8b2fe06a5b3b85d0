/- BoundedDamage, the program's side. -/
import Derived.Test.YtdnkljpnhmcnpaaGreatLBoundedDamageK30
import Derived.Test.YtdnkljpnhmcnpaaGreatLBoundedDamageK31
import Derived.Test.YtdnkljpnhmcnpaaGreatLBoundedDamageK37
set_option linter.unusedVariables false
set_option linter.unusedSimpArgs false
namespace Go.Proofs.YtdnkljpnhmcnpaaGreat
open Go.RowKit
set_option maxHeartbeats 6400000 in
set_option maxRecDepth 100000 in
theorem iBounded_c (f : Fm) (ps pl : Option Addr) (cs cl : Nat) (n l : Int) (x : Pr) (pd : Option Addr) (cd : Nat) (ds : List Dam) (w : World) (hs : IntsAt w ps f.ss) (hlv : IntsAt w pl f.ls) (hn : f.nm.size ≤ 1048576) (hl1 : f.ss.length ≤ 1048576) (hl2 : f.ls.length ≤ 1048576) (hx : SAt fD 6 w pd ds) (hld : ds.length ≤ 1048576) :
  Calls Tryz.prog 24 #[vFam f.nm f.K f.p f.k f.q ps f.ss.length cs f.co pl f.ls.length cl, .int .i64 n, .int .i64 l, vPrint x.p x.t x.q x.b x.d x.l, .slice pd ds.length cd] w fun e w' => BdE f n l x ds e ∧ Ext w w' := by
 have HS := Lib.hid hs; have HV := Lib.hid hlv; have HX := Lib.hid hx; clear hs hlv hx
 unfold BdE
 by_cases h0 : ¬ prOK x
 ·obtain ⟨eC, eB⟩ := bd_1 (f := f) (n := n) (l := l) (ds := ds) h0
  rw [eC, eB]
  clear eC eB
  obtain ⟨nm, K, p, k, q, co, ss, ls⟩ := f
  obtain ⟨xp, xt, xq, xb, xd, xl⟩ := x
  simp only at HS HV hn hl1 hl2 ⊢
  replace h0 := Lib.hid (show ¬ IsPrint xp xt xq xb xd xl from h0)
  have hxA : Ext w ((w.alloc (.cells #[.string nm, .int .i64 K, .int .i64 p, .int .i64 k, .int .i64 q, .slice ps ss.length cs, .int .i64 co, .slice pl ls.length cl] 55)).alloc (.cells #[.int .i64 xp, .int .i64 xt, .int .i64 xq, .int .i64 xb, .int .i64 xd, .int .i64 xl] 57)) := ((Ext.refl w).alloc _).alloc _
  have PF := (Blk.new w #[.string nm, .int .i64 K, .int .i64 p, .int .i64 k, .int .i64 q, .slice ps ss.length cs, .int .i64 co, .slice pl ls.length cl] 55).alloc (.cells #[.int .i64 xp, .int .i64 xt, .int .i64 xq, .int .i64 xb, .int .i64 xd, .int .i64 xl] 57)
  have PP := Blk.new (w.alloc (.cells #[.string nm, .int .i64 K, .int .i64 p, .int .i64 k, .int .i64 q, .slice ps ss.length cs, .int .i64 co, .slice pl ls.length cl] 55)) #[.int .i64 xp, .int .i64 xt, .int .i64 xq, .int .i64 xb, .int .i64 xd, .int .i64 xl] 57
  simp only [World.size_alloc] at PP
  go_enter Tryz.func24, Tryz.ntmps24
  go_upto_region 1 with (fail)
  obtain ⟨gP, hgP⟩ : ∃ g, w.heap.size + 1 = g := ⟨_, rfl⟩
  rw [hgP] at PP ⊢
  clear hgP
  obtain ⟨gF, hgF⟩ : ∃ g, w.heap.size = g := ⟨_, rfl⟩
  rw [hgF] at PF ⊢
  clear hgF
  generalize ((w.alloc (.cells #[.string nm, .int .i64 K, .int .i64 p, .int .i64 k, .int .i64 q, .slice ps ss.length cs, .int .i64 co, .slice pl ls.length cl] 55)).alloc (.cells #[.int .i64 xp, .int .i64 xt, .int .i64 xq, .int .i64 xb, .int .i64 xd, .int .i64 xl] 57)) = w0 at *
  obtain ⟨a0, a1, a2, a3, a4, a5, a6, a7⟩ := PF.c8; have aL := PF.lt; obtain ⟨b0, b1, b2, b3, b4, b5⟩ := PP.c6; have bL := PP.lt
  go_wp2_with (go_at_call 62; go_loud ((with_reducible refine (iIsPrint_c xp xt xq xb xd xl _).mono ?_); rintro e w1 ⟨⟨hP, rfl⟩ | ⟨hP, rfl⟩, hx1⟩ <;> (first | exact absurd hP h0.out | exact absurd h0.out hP | skip); replace PF := PF.ext hx1; replace PP := PP.ext hx1; replace hxA := hxA.trans hx1; clear a0 a1 a2 a3 a4 a5 a6 a7 aL b0 b1 b2 b3 b4 b5 bL; obtain ⟨a0, a1, a2, a3, a4, a5, a6, a7⟩ := PF.c8; have aL := PF.lt; obtain ⟨b0, b1, b2, b3, b4, b5⟩ := PP.c6; have bL := PP.lt))
  go_ret2
  exact ⟨rfl, hxA⟩
 replace h0 := Classical.not_not.1 h0
 by_cases h1 : ¬ bdLo f n l = 0
 ·obtain ⟨eC, eB⟩ := bd_2 (ds := ds) h0 h1
  rw [eC, eB]
  clear eC eB
  obtain ⟨nm, K, p, k, q, co, ss, ls⟩ := f
  obtain ⟨xp, xt, xq, xb, xd, xl⟩ := x
  simp only at HS HV hn hl1 hl2 ⊢
  replace h0 := Lib.hid (show IsPrint xp xt xq xb xd xl from h0)
  have hlo := Lib.hid (fun W (h1 : IntsAt W ps ss) (h2 : IntsAt W pl ls) => iLayoutOf_g nm K p k q co ps pl cs cl ss ls n l W h1 h2 hn hl1 hl2)
  unfold LoE bdLo at *
  simp only at h1 hlo ⊢
  generalize loC nm K p k q ss co ls n l = cc at *
  replace hlo : Hid (∀ W, IntsAt W ps ss → IntsAt W pl ls → Calls Tryz.prog 63 #[vFam nm K p k q ps ss.length cs co pl ls.length cl, .int .i64 n, .int .i64 l] W fun e w' => e = .returned (.tuple #[vLay 0 0 0 0 0 0, .int .i64 cc]) ∧ Ext W w') := Lib.hid fun W a b => (hlo.out W a b).mono fun e w' ⟨h, hx⟩ => ⟨h.elim (fun h => absurd h.1 h1) (fun h => h.2), hx⟩
  have hxA : Ext w ((w.alloc (.cells #[.string nm, .int .i64 K, .int .i64 p, .int .i64 k, .int .i64 q, .slice ps ss.length cs, .int .i64 co, .slice pl ls.length cl] 55)).alloc (.cells #[.int .i64 xp, .int .i64 xt, .int .i64 xq, .int .i64 xb, .int .i64 xd, .int .i64 xl] 57)) := ((Ext.refl w).alloc _).alloc _
  have PF := (Blk.new w #[.string nm, .int .i64 K, .int .i64 p, .int .i64 k, .int .i64 q, .slice ps ss.length cs, .int .i64 co, .slice pl ls.length cl] 55).alloc (.cells #[.int .i64 xp, .int .i64 xt, .int .i64 xq, .int .i64 xb, .int .i64 xd, .int .i64 xl] 57)
  have PP := Blk.new (w.alloc (.cells #[.string nm, .int .i64 K, .int .i64 p, .int .i64 k, .int .i64 q, .slice ps ss.length cs, .int .i64 co, .slice pl ls.length cl] 55)) #[.int .i64 xp, .int .i64 xt, .int .i64 xq, .int .i64 xb, .int .i64 xd, .int .i64 xl] 57
  simp only [World.size_alloc] at PP
  go_enter Tryz.func24, Tryz.ntmps24
  go_upto_region 1 with (fail)
  obtain ⟨gP, hgP⟩ : ∃ g, w.heap.size + 1 = g := ⟨_, rfl⟩
  rw [hgP] at PP ⊢
  clear hgP
  obtain ⟨gF, hgF⟩ : ∃ g, w.heap.size = g := ⟨_, rfl⟩
  rw [hgF] at PF ⊢
  clear hgF
  generalize ((w.alloc (.cells #[.string nm, .int .i64 K, .int .i64 p, .int .i64 k, .int .i64 q, .slice ps ss.length cs, .int .i64 co, .slice pl ls.length cl] 55)).alloc (.cells #[.int .i64 xp, .int .i64 xt, .int .i64 xq, .int .i64 xb, .int .i64 xd, .int .i64 xl] 57)) = w0 at *
  obtain ⟨a0, a1, a2, a3, a4, a5, a6, a7⟩ := PF.c8; have aL := PF.lt; obtain ⟨b0, b1, b2, b3, b4, b5⟩ := PP.c6; have bL := PP.lt
  go_wp2_with (first
   | (go_at_call 62; go_loud ((with_reducible refine (iIsPrint_c xp xt xq xb xd xl _).mono ?_); rintro e w1 ⟨⟨hP, rfl⟩ | ⟨hP, rfl⟩, hx1⟩ <;> (first | exact absurd hP h0.out | exact absurd h0.out hP | skip); replace PF := PF.ext hx1; replace PP := PP.ext hx1; replace hxA := hxA.trans hx1; clear a0 a1 a2 a3 a4 a5 a6 a7 aL b0 b1 b2 b3 b4 b5 bL; obtain ⟨a0, a1, a2, a3, a4, a5, a6, a7⟩ := PF.c8; have aL := PF.lt; obtain ⟨b0, b1, b2, b3, b4, b5⟩ := PP.c6; have bL := PP.lt))
   | (go_at_call 63; go_loud ((with_reducible refine (hlo.out _ (HS.out.ext hxA) (HV.out.ext hxA)).mono ?_); rintro e w2 ⟨rfl, hx2⟩; replace PF := PF.ext hx2; replace PP := PP.ext hx2; replace hxA := hxA.trans hx2; clear a0 a1 a2 a3 a4 a5 a6 a7 aL b0 b1 b2 b3 b4 b5 bL; obtain ⟨a0, a1, a2, a3, a4, a5, a6, a7⟩ := PF.c8; have aL := PF.lt; obtain ⟨b0, b1, b2, b3, b4, b5⟩ := PP.c6; have bL := PP.lt)))
  go_ret2
  exact ⟨rfl, by first | exact hxA | exact hxA.alloc _ | exact eX⟩
 replace h1 := Classical.not_not.1 h1
 obtain ⟨D, C, N, R, cO, Cc, eD, eC1, eN, eR, eO, eCc, hlay, hR41, hC400, hK⟩ := bd_lay h1
 have eR2 : bdR n = R := by unfold bdR; rw [eR]; rfl
 have eC2 : bdCols f n = Cc := by unfold bdCols; rw [eCc]; rfl
 obtain ⟨nm, K, p, k, q, co, ss, ls⟩ := f
 obtain ⟨xp, xt, xq, xb, xd, xl⟩ := x
 simp only at HS HV hn hl1 hl2 eD eC1 eN eO eCc hlay hK
 have htm := Lib.hid (fun W (h : SAt fD 6 W pd ds) => iTouched_c xp xt xq xb xd xl R Cc pd cd ds W h hld)
 have hlo := Lib.hid (fun W (h1 : IntsAt W ps ss) (h2 : IntsAt W pl ls) => iLayoutOf_g nm K p k q co ps pl cs cl ss ls n l W h1 h2 hn hl1 hl2)
 rw [eD, eC1, eN] at hlo
 have h1' : loC nm K p k q ss co ls n l = 0 := h1
 rw [h1', eR] at hlo
 replace hlo : Hid (∀ W, IntsAt W ps ss → IntsAt W pl ls → Calls Tryz.prog 63 #[vFam nm K p k q ps ss.length cs co pl ls.length cl, .int .i64 R, .int .i64 l] W fun e w' => e = .returned (.tuple #[vLay p k q D C N, .int .i64 0]) ∧ Ext W w') := Lib.hid fun W a b => (hlo.out W a b).mono fun e w' ⟨h, hx⟩ => ⟨h.elim (fun h => h.2) (fun h => absurd rfl h.1), hx⟩
 clear h1'
 replace eD := Lib.hid eD; replace eC1 := Lib.hid eC1; replace eN := Lib.hid eN
 subst eR
 have eR3 : bdR (R : Int) = R := rfl
 have hT : bdTm ⟨nm, K, p, k, q, co, ss, ls⟩ R ⟨xp, xt, xq, xb, xd, xl⟩ ds = tmC xp xt xq xb xd xl R Cc ds := by unfold bdTm; rw [eR2, eC2]
 by_cases h2 : ¬ bdTm ⟨nm, K, p, k, q, co, ss, ls⟩ R ⟨xp, xt, xq, xb, xd, xl⟩ ds = 0
 ·obtain ⟨eC, eB⟩ := bd_3 h0 h1 h2
  rw [eC, eB]
  clear eC eB
  rw [hT] at h2 ⊢
  clear hT eR2 eC2 eR3
  replace h1 := Lib.hid h1; replace h2 := Lib.hid h2
  rcases hK with hK | hK
  ·obtain ⟨rfl, rfl, hfl, hcO, hRb, hR4, hDC⟩ := hK; replace hDC := Lib.hid hDC; have hcO2 : cO ≤ 100 := (by rw [hcO]; decide); have hcob : 0 ≤ co ∧ co ≤ 100 := (by rw [eO, hcO]; decide); replace hcO := Lib.hid hcO; replace eO := Lib.hid eO
   have hkd := Lib.hid (fun W => kind_c nm 1 2 k q co ps pl ss.length cs ls.length cl W)
   rw [colsV_mx (by decide)] at eCc
   obtain rfl : R = Cc := Int.ofNat_inj.1 eCc
   have hmm := mCols_m
   have hmc := Lib.hid (fun W => matrixCols_c nm 1 2 k q co (R : Int) ps pl ss.length cs ls.length cl W)
   rw [if_neg (by decide : ¬ (1 : Int) = 2)] at hkd
   have hT3 : Hid (∀ W, SAt fD 6 W pd ds → Calls Tryz.prog 64 #[.slice pd ds.length cd, vPrint xp xt xq xb xd xl, .int .i64 R, .int .i64 R] W fun e w' => e = .returned (.tuple #[.slice none 0 0, .int .i64 (tmC xp xt xq xb xd xl R R ds)]) ∧ Ext W w') := Lib.hid fun W h => (htm.out W h).mono fun e w' ⟨h5, hx⟩ => ⟨h5.elim (fun h6 => absurd h6.1 h2.out) (fun h6 => h6.2), hx⟩
   replace htm := hT3
   clear hT3
   generalize tmC xp xt xq xb xd xl R R ds = cc at *
   replace h0 := Lib.hid (show IsPrint xp xt xq xb xd xl from h0)
   have hxA : Ext w ((w.alloc (.cells #[.string nm, .int .i64 1, .int .i64 2, .int .i64 k, .int .i64 q, .slice ps ss.length cs, .int .i64 co, .slice pl ls.length cl] 55)).alloc (.cells #[.int .i64 xp, .int .i64 xt, .int .i64 xq, .int .i64 xb, .int .i64 xd, .int .i64 xl] 57)) := ((Ext.refl w).alloc _).alloc _
   have PF := (Blk.new w #[.string nm, .int .i64 1, .int .i64 2, .int .i64 k, .int .i64 q, .slice ps ss.length cs, .int .i64 co, .slice pl ls.length cl] 55).alloc (.cells #[.int .i64 xp, .int .i64 xt, .int .i64 xq, .int .i64 xb, .int .i64 xd, .int .i64 xl] 57)
   have PP := Blk.new (w.alloc (.cells #[.string nm, .int .i64 1, .int .i64 2, .int .i64 k, .int .i64 q, .slice ps ss.length cs, .int .i64 co, .slice pl ls.length cl] 55)) #[.int .i64 xp, .int .i64 xt, .int .i64 xq, .int .i64 xb, .int .i64 xd, .int .i64 xl] 57
   simp only [World.size_alloc] at PP
   go_enter Tryz.func24, Tryz.ntmps24
   go_upto_region 1 with (fail)
   obtain ⟨gP, hgP⟩ : ∃ g, w.heap.size + 1 = g := ⟨_, rfl⟩
   rw [hgP] at PP ⊢
   clear hgP
   obtain ⟨gF, hgF⟩ : ∃ g, w.heap.size = g := ⟨_, rfl⟩
   rw [hgF] at PF ⊢
   clear hgF
   generalize ((w.alloc (.cells #[.string nm, .int .i64 1, .int .i64 2, .int .i64 k, .int .i64 q, .slice ps ss.length cs, .int .i64 co, .slice pl ls.length cl] 55)).alloc (.cells #[.int .i64 xp, .int .i64 xt, .int .i64 xq, .int .i64 xb, .int .i64 xd, .int .i64 xl] 57)) = w0 at *
   obtain ⟨a0, a1, a2, a3, a4, a5, a6, a7⟩ := PF.c8; have aL := PF.lt; obtain ⟨b0, b1, b2, b3, b4, b5⟩ := PP.c6; have bL := PP.lt
   go_upto_region 6 with (first
    | (go_at_call 62; go_loud ((with_reducible refine (iIsPrint_c xp xt xq xb xd xl _).mono ?_); rintro e w1 ⟨⟨hP, rfl⟩ | ⟨hP, rfl⟩, hx1⟩ <;> (first | exact absurd hP h0.out | exact absurd h0.out hP | skip); replace PF := PF.ext hx1; replace PP := PP.ext hx1; replace hxA := hxA.trans hx1; clear a0 a1 a2 a3 a4 a5 a6 a7 aL b0 b1 b2 b3 b4 b5 bL; obtain ⟨a0, a1, a2, a3, a4, a5, a6, a7⟩ := PF.c8; have aL := PF.lt; obtain ⟨b0, b1, b2, b3, b4, b5⟩ := PP.c6; have bL := PP.lt))
    | (go_at_call 63; go_loud ((with_reducible refine (hlo.out _ (HS.out.ext hxA) (HV.out.ext hxA)).mono ?_); rintro e w2 ⟨rfl, hx2⟩; replace PF := PF.ext hx2; replace PP := PP.ext hx2; replace hxA := hxA.trans hx2; clear a0 a1 a2 a3 a4 a5 a6 a7 aL b0 b1 b2 b3 b4 b5 bL; obtain ⟨a0, a1, a2, a3, a4, a5, a6, a7⟩ := PF.c8; have aL := PF.lt; obtain ⟨b0, b1, b2, b3, b4, b5⟩ := PP.c6; have bL := PP.lt)))
   have hx3 : Ext w2 (w2.alloc (.cells #[.int .i64 2, .int .i64 k, .int .i64 q, .int .i64 D, .int .i64 C, .int .i64 N] 95)) := (Ext.refl _).alloc _
   have PL := Blk.new w2 #[.int .i64 2, .int .i64 k, .int .i64 q, .int .i64 D, .int .i64 C, .int .i64 N] 95
   replace PF := PF.ext hx3; replace PP := PP.ext hx3; replace hxA := hxA.trans hx3; clear a0 a1 a2 a3 a4 a5 a6 a7 aL b0 b1 b2 b3 b4 b5 bL; obtain ⟨a0, a1, a2, a3, a4, a5, a6, a7⟩ := PF.c8; have aL := PF.lt; obtain ⟨b0, b1, b2, b3, b4, b5⟩ := PP.c6; have bL := PP.lt
   generalize w2.alloc (.cells #[.int .i64 2, .int .i64 k, .int .i64 q, .int .i64 D, .int .i64 C, .int .i64 N] 95) = w3 at *
   generalize w2.heap.size = gL at *
   refine wp_region_canon (fun w' => Ext w3 w') [(0, true), (1, true), (2, true), (3, true), (5, true), (4, false), (6, false), (7, false), (8, true), (9, true), (10, true), (11, true), (12, true)] (by kernel_rfl) (by kernel_rfl) (by decide) (by kernel_rfl) ?_ ?_
   ·exact eX
   refine canon_intro fun ops eo => ?_
   replace eo := canon_eo eo
   iterate 5 all_goals (refine cS eo rfl rfl evE ?_; simp only [ptN])
   all_goals first | (refine canon_ef (eo.out 4 rfl) rfl (fun K hK => ?_); go_simp; ((go_at_call 65; (with_reducible refine (hkd.out _).mono ?_); rintro e w4 ⟨rfl, hb4⟩)); all_goals (refine hK _ _ ⟨(by first | assumption | exact eX), ?_⟩; clear hK K; go_simp))
   all_goals first | (refine canon_ef (eo.out 6 rfl) rfl (fun K hK => ?_); go_simp; ((go_at_call 250; (with_reducible refine (hmc.out _).mono ?_); rintro e w5 ⟨rfl, hb5⟩)); all_goals (refine hK _ _ ⟨(by first | assumption | exact eX), ?_⟩; clear hK K; go_simp))
   all_goals first | (refine canon_ef (eo.out 7 rfl) rfl (fun K hK => ?_); go_simp; ((go_at_call 64; (with_reducible refine (htm.out _ (HX.out.ext (hxA.trans eX))).mono ?_); rintro e w9 ⟨rfl, hb9⟩)); all_goals (refine hK _ _ ⟨(by first | assumption | exact eX), ?_⟩; clear hK K; go_simp))
   iterate 5 all_goals (refine cS eo rfl rfl evE ?_; simp only [ptN])
   all_goals (clear eo; refine canon_done (NoPanic.normal ?_))
   have hcb : (cc != 0) = true := by simpa using h2.out
   go_wp2
   go_ret2
   exact ⟨rfl, hxA.trans eX⟩
  ·obtain ⟨rfl, hcO, hDC⟩ := hK; replace hDC := Lib.hid hDC; have hcob : 0 ≤ co ∧ co ≤ 100 := (by rw [eO]; omega); replace eO := Lib.hid eO
   have hkd := Lib.hid (fun W => kind_c nm 2 p k q co ps pl ss.length cs ls.length cl W)
   rw [colsV_st rfl] at eCc
   have hmm := sCols_m
   have hmc := Lib.hid (fun W => stackedCols_c nm 2 p k q co (R : Int) ps pl ss.length cs ls.length cl W hcob)
   rw [if_pos rfl] at hkd
   rw [eCc] at hmc
   have hT3 : Hid (∀ W, SAt fD 6 W pd ds → Calls Tryz.prog 64 #[.slice pd ds.length cd, vPrint xp xt xq xb xd xl, .int .i64 R, .int .i64 Cc] W fun e w' => e = .returned (.tuple #[.slice none 0 0, .int .i64 (tmC xp xt xq xb xd xl R Cc ds)]) ∧ Ext W w') := Lib.hid fun W h => (htm.out W h).mono fun e w' ⟨h5, hx⟩ => ⟨h5.elim (fun h6 => absurd h6.1 h2.out) (fun h6 => h6.2), hx⟩
   replace htm := hT3
   clear hT3
   generalize tmC xp xt xq xb xd xl R Cc ds = cc at *
   replace h0 := Lib.hid (show IsPrint xp xt xq xb xd xl from h0)
   have hxA : Ext w ((w.alloc (.cells #[.string nm, .int .i64 2, .int .i64 p, .int .i64 k, .int .i64 q, .slice ps ss.length cs, .int .i64 co, .slice pl ls.length cl] 55)).alloc (.cells #[.int .i64 xp, .int .i64 xt, .int .i64 xq, .int .i64 xb, .int .i64 xd, .int .i64 xl] 57)) := ((Ext.refl w).alloc _).alloc _
   have PF := (Blk.new w #[.string nm, .int .i64 2, .int .i64 p, .int .i64 k, .int .i64 q, .slice ps ss.length cs, .int .i64 co, .slice pl ls.length cl] 55).alloc (.cells #[.int .i64 xp, .int .i64 xt, .int .i64 xq, .int .i64 xb, .int .i64 xd, .int .i64 xl] 57)
   have PP := Blk.new (w.alloc (.cells #[.string nm, .int .i64 2, .int .i64 p, .int .i64 k, .int .i64 q, .slice ps ss.length cs, .int .i64 co, .slice pl ls.length cl] 55)) #[.int .i64 xp, .int .i64 xt, .int .i64 xq, .int .i64 xb, .int .i64 xd, .int .i64 xl] 57
   simp only [World.size_alloc] at PP
   go_enter Tryz.func24, Tryz.ntmps24
   go_upto_region 1 with (fail)
   obtain ⟨gP, hgP⟩ : ∃ g, w.heap.size + 1 = g := ⟨_, rfl⟩
   rw [hgP] at PP ⊢
   clear hgP
   obtain ⟨gF, hgF⟩ : ∃ g, w.heap.size = g := ⟨_, rfl⟩
   rw [hgF] at PF ⊢
   clear hgF
   generalize ((w.alloc (.cells #[.string nm, .int .i64 2, .int .i64 p, .int .i64 k, .int .i64 q, .slice ps ss.length cs, .int .i64 co, .slice pl ls.length cl] 55)).alloc (.cells #[.int .i64 xp, .int .i64 xt, .int .i64 xq, .int .i64 xb, .int .i64 xd, .int .i64 xl] 57)) = w0 at *
   obtain ⟨a0, a1, a2, a3, a4, a5, a6, a7⟩ := PF.c8; have aL := PF.lt; obtain ⟨b0, b1, b2, b3, b4, b5⟩ := PP.c6; have bL := PP.lt
   go_upto_region 6 with (first
    | (go_at_call 62; go_loud ((with_reducible refine (iIsPrint_c xp xt xq xb xd xl _).mono ?_); rintro e w1 ⟨⟨hP, rfl⟩ | ⟨hP, rfl⟩, hx1⟩ <;> (first | exact absurd hP h0.out | exact absurd h0.out hP | skip); replace PF := PF.ext hx1; replace PP := PP.ext hx1; replace hxA := hxA.trans hx1; clear a0 a1 a2 a3 a4 a5 a6 a7 aL b0 b1 b2 b3 b4 b5 bL; obtain ⟨a0, a1, a2, a3, a4, a5, a6, a7⟩ := PF.c8; have aL := PF.lt; obtain ⟨b0, b1, b2, b3, b4, b5⟩ := PP.c6; have bL := PP.lt))
    | (go_at_call 63; go_loud ((with_reducible refine (hlo.out _ (HS.out.ext hxA) (HV.out.ext hxA)).mono ?_); rintro e w2 ⟨rfl, hx2⟩; replace PF := PF.ext hx2; replace PP := PP.ext hx2; replace hxA := hxA.trans hx2; clear a0 a1 a2 a3 a4 a5 a6 a7 aL b0 b1 b2 b3 b4 b5 bL; obtain ⟨a0, a1, a2, a3, a4, a5, a6, a7⟩ := PF.c8; have aL := PF.lt; obtain ⟨b0, b1, b2, b3, b4, b5⟩ := PP.c6; have bL := PP.lt)))
   have hx3 : Ext w2 (w2.alloc (.cells #[.int .i64 p, .int .i64 k, .int .i64 q, .int .i64 D, .int .i64 C, .int .i64 N] 95)) := (Ext.refl _).alloc _
   have PL := Blk.new w2 #[.int .i64 p, .int .i64 k, .int .i64 q, .int .i64 D, .int .i64 C, .int .i64 N] 95
   replace PF := PF.ext hx3; replace PP := PP.ext hx3; replace hxA := hxA.trans hx3; clear a0 a1 a2 a3 a4 a5 a6 a7 aL b0 b1 b2 b3 b4 b5 bL; obtain ⟨a0, a1, a2, a3, a4, a5, a6, a7⟩ := PF.c8; have aL := PF.lt; obtain ⟨b0, b1, b2, b3, b4, b5⟩ := PP.c6; have bL := PP.lt
   generalize w2.alloc (.cells #[.int .i64 p, .int .i64 k, .int .i64 q, .int .i64 D, .int .i64 C, .int .i64 N] 95) = w3 at *
   generalize w2.heap.size = gL at *
   refine wp_region_canon (fun w' => Ext w3 w') [(0, true), (1, true), (2, true), (3, true), (5, true), (4, false), (6, false), (7, false), (8, true), (9, true), (10, true), (11, true), (12, true)] (by kernel_rfl) (by kernel_rfl) (by decide) (by kernel_rfl) ?_ ?_
   ·exact eX
   refine canon_intro fun ops eo => ?_
   replace eo := canon_eo eo
   iterate 5 all_goals (refine cS eo rfl rfl evE ?_; simp only [ptN])
   all_goals first | (refine canon_ef (eo.out 4 rfl) rfl (fun K hK => ?_); go_simp; ((go_at_call 65; (with_reducible refine (hkd.out _).mono ?_); rintro e w4 ⟨rfl, hb4⟩)); all_goals (refine hK _ _ ⟨(by first | assumption | exact eX), ?_⟩; clear hK K; go_simp))
   all_goals first | (refine canon_ef (eo.out 6 rfl) rfl (fun K hK => ?_); go_simp; ((go_at_call 248; (with_reducible refine (hmc.out _).mono ?_); rintro e w5 ⟨rfl, hb5⟩)); all_goals (refine hK _ _ ⟨(by first | assumption | exact eX), ?_⟩; clear hK K; go_simp))
   all_goals first | (refine canon_ef (eo.out 7 rfl) rfl (fun K hK => ?_); go_simp; ((go_at_call 64; (with_reducible refine (htm.out _ (HX.out.ext (hxA.trans eX))).mono ?_); rintro e w9 ⟨rfl, hb9⟩)); all_goals (refine hK _ _ ⟨(by first | assumption | exact eX), ?_⟩; clear hK K; go_simp))
   iterate 5 all_goals (refine cS eo rfl rfl evE ?_; simp only [ptN])
   all_goals (clear eo; refine canon_done (NoPanic.normal ?_))
   have hcb : (cc != 0) = true := by simpa using h2.out
   go_wp2
   go_ret2
   exact ⟨rfl, hxA.trans eX⟩
 replace h2 := Classical.not_not.1 h2
 obtain ⟨eC, eT, eFf⟩ := bd_4 h0 h1 h2
 rw [eC]
 clear eC
 rw [hT] at h2
 clear hT eR3
 replace h1 := Lib.hid h1; replace h2 := Lib.hid h2; replace eR2 := Lib.hid eR2; replace eC2 := Lib.hid eC2
 rcases hK with hK | hK
 ·obtain ⟨rfl, rfl, hfl, hcO, hRb, hR4, hDC⟩ := hK; replace hDC := Lib.hid hDC; have hcO2 : cO ≤ 100 := (by rw [hcO]; decide); have hcob : 0 ≤ co ∧ co ≤ 100 := (by rw [eO, hcO]; decide); replace hcO := Lib.hid hcO; replace eO := Lib.hid eO
  have hkd := Lib.hid (fun W => kind_c nm 1 2 k q co ps pl ss.length cs ls.length cl W)
  rw [colsV_mx (by decide)] at eCc
  obtain rfl : R = Cc := Int.ofNat_inj.1 eCc
  have hmm := mCols_m
  have hmc := Lib.hid (fun W => matrixCols_c nm 1 2 k q co (R : Int) ps pl ss.length cs ls.length cl W)
  rw [if_neg (by decide : ¬ (1 : Int) = 2)] at hkd
  have hBP : bdP ⟨nm, 1, 2, k, q, co, ss, ls⟩ R l ⟨xp, xt, xq, xb, xd, xl⟩ ds ↔ okM (tmTo xp xt xq ds R (R * R)) R ∧ sdOK D C N (teE (tmTo xp xt xq ds R (R * R)) (dpL R) (fW (fldSize 2 k)) ((dpL R).length / fW (fldSize 2 k))) [] := by
   unfold bdP bdSd bdL bdW
   simp only
   rw [eD.out, eC1.out, eN.out, eR2.out, eC2.out]
   simp only [Int.toNat_natCast]
   constructor
   ·rintro (⟨h5, -⟩ | ⟨-, h5, h6⟩)
    ·exact absurd h5 (by decide)
    ·exact ⟨h5, h6⟩
   ·rintro ⟨h5, h6⟩
    exact .inr ⟨by decide, h5, h6⟩
  have hT4 : Hid (∀ W, SAt fD 6 W pd ds → Calls Tryz.prog 64 #[.slice pd ds.length cd, vPrint xp xt xq xb xd xl, .int .i64 R, .int .i64 R] W fun e w' => (∃ v, e = .returned (.tuple #[v, .int .i64 0]) ∧ RowP W.heap.size w' v (tmTo xp xt xq ds R (R * R))) ∧ Ext W w') := Lib.hid fun W h => (htm.out W h).mono fun e w' ⟨h5, hx⟩ => ⟨h5.elim (fun h6 => h6.2) (fun h6 => absurd h2.out h6.1), hx⟩
  replace htm := hT4
  clear hT4
  have hLb : ∀ z ∈ tmTo xp xt xq ds R (R * R), (0 ≤ z.1 ∧ z.1 ≤ 1000) ∧ (0 ≤ z.2 ∧ z.2 ≤ 1000) := fun z hz => by have := tm_bd hz; omega
  have hLl : (tmTo xp xt xq ds R (R * R)).length ≤ 40000 := by have := tm_len xp xt xq ds R (R * R); have := Nat.mul_le_mul hR41 hC400; omega
  replace h0 := Lib.hid (show IsPrint xp xt xq xb xd xl from h0)
  obtain ⟨L, hL⟩ : ∃ L, tmTo xp xt xq ds R (R * R) = L := ⟨_, rfl⟩
  rw [hL] at htm hLb hLl hBP
  clear hL
  have hdl := dpL_len (n := R) (by omega)
  have hdd : (dpL R).length / fW (fldSize 2 k) ≤ (dpL R).length := Nat.div_le_self _ _
  have hbs := Lib.hid (fun W pt ct (h : PlAt W pt L) => boundedStack_c nm 1 2 k q cO R ps pl ss.length cs ls.length cl pt ct L W (by omega) (by omega) h hLl hLb)
  rw [← eO.out] at hbs
  have hri : risOK 0 (((D + C * N : Nat) : Int) - 1) (teE L (dpL R) (fW (fldSize 2 k)) ((dpL R).length / fW (fldSize 2 k))) := by rw [hDC.out]; exact (ris_sel (teHit L (dpL R) (fW (fldSize 2 k))) ((dpL R).length / fW (fldSize 2 k)))
  have hle : (teE L (dpL R) (fW (fldSize 2 k)) ((dpL R).length / fW (fldSize 2 k))).length ≤ 1048576 := by have := (sel_len (teHit L (dpL R) (fW (fldSize 2 k))) ((dpL R).length / fW (fldSize 2 k))); have h9 : (teE L (dpL R) (fW (fldSize 2 k)) ((dpL R).length / fW (fldSize 2 k))).length ≤ _ := this; omega
  have hsd := Lib.hid (show ∀ W p2 c2, IntsAt W p2 (teE L (dpL R) (fW (fldSize 2 k)) ((dpL R).length / fW (fldSize 2 k))) → Calls Tryz.prog 69 #[vLay 2 k q D C N, .slice p2 (teE L (dpL R) (fW (fldSize 2 k)) ((dpL R).length / fW (fldSize 2 k))).length c2, .slice none 0 0] W fun e w' => SdR (sdOK D C N (teE L (dpL R) (fW (fldSize 2 k)) ((dpL R).length / fW (fldSize 2 k))) []) e ∧ Ext W w' from fun W p2 c2 h => iStreamDamage_c 2 k q D C N p2 none c2 0 (teE L (dpL R) (fW (fldSize 2 k)) ((dpL R).length / fW (fldSize 2 k))) [] W h (IntsAt_nil _ _) hle (by simp) hlay hri (fun i hi => absurd hi (Nat.not_lt_zero i)))
  have hbm := Lib.hid (fun W pt ct (h : PlAt W pt L) => boundedMatrix_c nm 1 k q co R ps pl ss.length cs ls.length cl pt ct L ((D : Int) + (N : Int) * (C : Int)) W hRb hR4 hfl h hLl (fun z hz => by have := hLb z hz; omega) (by rw [← hDC.out, Int.natCast_add, Int.natCast_mul, Int.mul_comm (C : Int)]; exact Int.le_refl _))
  have hto := Lib.hid (fun W => total_c 2 k q D C N W (by have := hlay.2.1; omega) (by have := hlay.1; omega) (by have := hlay.2.2.1; omega))
  generalize teE L (dpL R) (fW (fldSize 2 k)) ((dpL R).length / fW (fldSize 2 k)) = TE at *
  generalize sdOK D C N TE [] = SD at *
  generalize decide (2 * (stB L cO R : Int) < ((R / 3 : Nat) : Int)) = BB at *
  by_cases hA : okM L R
  ·replace hbm : Hid (∀ W pt ct, PlAt W pt L → Calls Tryz.prog 67 #[vFam nm 1 2 k q ps ss.length cs co pl ls.length cl, .int .i64 R, .slice pt L.length ct, .int .i64 ((D : Int) + (N : Int) * (C : Int))] W fun e w' => (∃ v, e = .returned (.tuple #[v, .bool true]) ∧ RowI W.heap.size w' v TE) ∧ Ext W w') := Lib.hid fun W pt ct h => (hbm.out W pt ct h).mono fun e w' ⟨h5, hx⟩ => ⟨h5.elim (fun h6 => h6.2) (fun h6 => absurd hA h6.1), hx⟩
   have hB2 : bdP ⟨nm, 1, 2, k, q, co, ss, ls⟩ R l ⟨xp, xt, xq, xb, xd, xl⟩ ds ↔ SD := hBP.trans ⟨fun h => h.2, fun h => ⟨hA, h⟩⟩
   have e1 : SD → bdB ⟨nm, 1, 2, k, q, co, ss, ls⟩ R l ⟨xp, xt, xq, xb, xd, xl⟩ ds = true := fun h => eT (hB2.2 h)
   have e2 : ¬ SD → bdB ⟨nm, 1, 2, k, q, co, ss, ls⟩ R l ⟨xp, xt, xq, xb, xd, xl⟩ ds = false := fun h => eFf (fun h5 => h (hB2.1 h5))
   have hxA : Ext w ((w.alloc (.cells #[.string nm, .int .i64 1, .int .i64 2, .int .i64 k, .int .i64 q, .slice ps ss.length cs, .int .i64 co, .slice pl ls.length cl] 55)).alloc (.cells #[.int .i64 xp, .int .i64 xt, .int .i64 xq, .int .i64 xb, .int .i64 xd, .int .i64 xl] 57)) := ((Ext.refl w).alloc _).alloc _
   have PF := (Blk.new w #[.string nm, .int .i64 1, .int .i64 2, .int .i64 k, .int .i64 q, .slice ps ss.length cs, .int .i64 co, .slice pl ls.length cl] 55).alloc (.cells #[.int .i64 xp, .int .i64 xt, .int .i64 xq, .int .i64 xb, .int .i64 xd, .int .i64 xl] 57)
   have PP := Blk.new (w.alloc (.cells #[.string nm, .int .i64 1, .int .i64 2, .int .i64 k, .int .i64 q, .slice ps ss.length cs, .int .i64 co, .slice pl ls.length cl] 55)) #[.int .i64 xp, .int .i64 xt, .int .i64 xq, .int .i64 xb, .int .i64 xd, .int .i64 xl] 57
   simp only [World.size_alloc] at PP
   go_enter Tryz.func24, Tryz.ntmps24
   go_upto_region 1 with (fail)
   obtain ⟨gP, hgP⟩ : ∃ g, w.heap.size + 1 = g := ⟨_, rfl⟩
   rw [hgP] at PP ⊢
   clear hgP
   obtain ⟨gF, hgF⟩ : ∃ g, w.heap.size = g := ⟨_, rfl⟩
   rw [hgF] at PF ⊢
   clear hgF
   generalize ((w.alloc (.cells #[.string nm, .int .i64 1, .int .i64 2, .int .i64 k, .int .i64 q, .slice ps ss.length cs, .int .i64 co, .slice pl ls.length cl] 55)).alloc (.cells #[.int .i64 xp, .int .i64 xt, .int .i64 xq, .int .i64 xb, .int .i64 xd, .int .i64 xl] 57)) = w0 at *
   obtain ⟨a0, a1, a2, a3, a4, a5, a6, a7⟩ := PF.c8; have aL := PF.lt; obtain ⟨b0, b1, b2, b3, b4, b5⟩ := PP.c6; have bL := PP.lt
   go_upto_region 6 with (first
   | (go_at_call 62; go_loud ((with_reducible refine (iIsPrint_c xp xt xq xb xd xl _).mono ?_); rintro e w1 ⟨⟨hP, rfl⟩ | ⟨hP, rfl⟩, hx1⟩ <;> (first | exact absurd hP h0.out | exact absurd h0.out hP | skip); replace PF := PF.ext hx1; replace PP := PP.ext hx1; replace hxA := hxA.trans hx1; clear a0 a1 a2 a3 a4 a5 a6 a7 aL b0 b1 b2 b3 b4 b5 bL; obtain ⟨a0, a1, a2, a3, a4, a5, a6, a7⟩ := PF.c8; have aL := PF.lt; obtain ⟨b0, b1, b2, b3, b4, b5⟩ := PP.c6; have bL := PP.lt))
   | (go_at_call 63; go_loud ((with_reducible refine (hlo.out _ (HS.out.ext hxA) (HV.out.ext hxA)).mono ?_); rintro e w2 ⟨rfl, hx2⟩; replace PF := PF.ext hx2; replace PP := PP.ext hx2; replace hxA := hxA.trans hx2; clear a0 a1 a2 a3 a4 a5 a6 a7 aL b0 b1 b2 b3 b4 b5 bL; obtain ⟨a0, a1, a2, a3, a4, a5, a6, a7⟩ := PF.c8; have aL := PF.lt; obtain ⟨b0, b1, b2, b3, b4, b5⟩ := PP.c6; have bL := PP.lt)))
   have hx3 : Ext w2 (w2.alloc (.cells #[.int .i64 2, .int .i64 k, .int .i64 q, .int .i64 D, .int .i64 C, .int .i64 N] 95)) := (Ext.refl _).alloc _
   have PL := Blk.new w2 #[.int .i64 2, .int .i64 k, .int .i64 q, .int .i64 D, .int .i64 C, .int .i64 N] 95
   replace PF := PF.ext hx3; replace PP := PP.ext hx3; replace hxA := hxA.trans hx3; clear a0 a1 a2 a3 a4 a5 a6 a7 aL b0 b1 b2 b3 b4 b5 bL; obtain ⟨a0, a1, a2, a3, a4, a5, a6, a7⟩ := PF.c8; have aL := PF.lt; obtain ⟨b0, b1, b2, b3, b4, b5⟩ := PP.c6; have bL := PP.lt
   generalize w2.alloc (.cells #[.int .i64 2, .int .i64 k, .int .i64 q, .int .i64 D, .int .i64 C, .int .i64 N] 95) = w3 at *
   generalize w2.heap.size = gL at *
   refine wp_region_canon (fun w' => Ext w3 w') [(0, true), (1, true), (2, true), (3, true), (5, true), (4, false), (6, false), (7, false), (8, true), (9, true), (10, true), (11, true), (12, true)] (by kernel_rfl) (by kernel_rfl) (by decide) (by kernel_rfl) ?_ ?_
   ·exact eX
   refine canon_intro fun ops eo => ?_
   replace eo := canon_eo eo
   iterate 5 all_goals (refine cS eo rfl rfl evE ?_; simp only [ptN])
   all_goals first | (refine canon_ef (eo.out 4 rfl) rfl (fun K hK => ?_); go_simp; ((go_at_call 65; (with_reducible refine (hkd.out _).mono ?_); rintro e w4 ⟨rfl, hb4⟩)); all_goals (refine hK _ _ ⟨(by first | assumption | exact eX), ?_⟩; clear hK K; go_simp))
   all_goals first | (refine canon_ef (eo.out 6 rfl) rfl (fun K hK => ?_); go_simp; ((go_at_call 250; (with_reducible refine (hmc.out _).mono ?_); rintro e w5 ⟨rfl, hb5⟩)); all_goals (refine hK _ _ ⟨(by first | assumption | exact eX), ?_⟩; clear hK K; go_simp))
   all_goals first | (refine canon_ef (eo.out 7 rfl) rfl (fun K hK => ?_); go_simp; ((go_at_call 64; (with_reducible refine (htm.out _ (HX.out.ext (hxA.trans eX))).mono ?_); rintro e w9 ⟨⟨v9, rfl, hr9⟩, hb9⟩)); all_goals (refine hK _ _ ⟨(by first | assumption | exact eX), ?_⟩; clear hK K; go_simp))
   iterate 5 all_goals (refine cS eo rfl rfl evE ?_; simp only [ptN])
   all_goals (clear eo; refine canon_done (NoPanic.normal ?_))
   obtain ⟨pt, ct, rfl, hpl, -⟩ := hr9.nfree plF_len
   have hxB : Ext w3 w9 := eX
   replace PL := PL.ext hxB
   replace PF := PF.ext hxB; replace PP := PP.ext hxB; replace hxA := hxA.trans hxB; clear a0 a1 a2 a3 a4 a5 a6 a7 aL b0 b1 b2 b3 b4 b5 bL; obtain ⟨a0, a1, a2, a3, a4, a5, a6, a7⟩ := PF.c8; have aL := PF.lt; obtain ⟨b0, b1, b2, b3, b4, b5⟩ := PP.c6; have bL := PP.lt
   go_upto_region 11 with (go_at_call 66; go_loud ((with_reducible refine (hbs.out _ _ _ hpl).mono ?_); rintro e w10 ⟨⟨v10, rfl, hr10⟩, hx10⟩; replace PF := PF.ext hx10; replace PP := PP.ext hx10; replace hxA := hxA.trans hx10; clear a0 a1 a2 a3 a4 a5 a6 a7 aL b0 b1 b2 b3 b4 b5 bL; obtain ⟨a0, a1, a2, a3, a4, a5, a6, a7⟩ := PF.c8; have aL := PF.lt; obtain ⟨b0, b1, b2, b3, b4, b5⟩ := PP.c6; have bL := PP.lt; replace PL := PL.ext hx10))
   have hpl2 := Lib.hid (hpl.ext hx10)
   clear hr10 hpl
   obtain ⟨c0, c1, c2, c3, c4, c5⟩ := PL.c6; have cL := PL.lt
   refine wp_region_canon (fun w' => Ext w10 w') [(0, true), (1, true), (2, true), (3, true), (4, false), (5, false), (6, true), (7, true), (8, true), (9, true), (10, true)] (by kernel_rfl) (by kernel_rfl) (by decide) (by kernel_rfl) ?_ ?_
   ·exact eX
   refine canon_intro fun ops eo => ?_
   replace eo := canon_eo eo
   iterate 4 all_goals (refine cS eo rfl rfl evE ?_; simp only [ptN])
   all_goals first | (refine canon_ef (eo.out 4 rfl) rfl (fun K hK => ?_); go_simp; ((go_at_call 68; (with_reducible refine (hto.out _).mono ?_); rintro e w11 ⟨rfl, hb11⟩)); all_goals (refine hK _ _ ⟨(by first | assumption | exact eX), ?_⟩; clear hK K; go_simp))
   all_goals first | (refine canon_ef (eo.out 5 rfl) rfl (fun K hK => ?_); go_simp; ((go_at_call 67; (with_reducible refine (hbm.out _ _ _ (hpl2.out.ext eX)).mono ?_); rintro e w12 ⟨⟨v12, rfl, hr12⟩, hb12⟩)); all_goals (refine hK _ _ ⟨(by first | assumption | exact eX), ?_⟩; clear hK K; go_simp))
   iterate 5 all_goals (refine cS eo rfl rfl evE ?_; simp only [ptN])
   all_goals (clear eo; refine canon_done (NoPanic.normal ?_))
   obtain ⟨p12, c12, rfl, hoo12, -⟩ := hr12.ownC
   replace hoo12 := Lib.hid hoo12.ints
   clear hr12
   have hxC : Ext w10 w12 := eX
   replace PL := PL.ext hxC
   replace PF := PF.ext hxC; replace PP := PP.ext hxC; replace hxA := hxA.trans hxC; clear a0 a1 a2 a3 a4 a5 a6 a7 aL b0 b1 b2 b3 b4 b5 bL; obtain ⟨a0, a1, a2, a3, a4, a5, a6, a7⟩ := PF.c8; have aL := PF.lt; obtain ⟨b0, b1, b2, b3, b4, b5⟩ := PP.c6; have bL := PP.lt
   clear c0 c1 c2 c3 c4 c5 cL
   obtain ⟨c0, c1, c2, c3, c4, c5⟩ := PL.c6; have cL := PL.lt
   go_wp2_with (go_at_call 69; (with_reducible refine (hsd.out _ _ _ hoo12.out).mono ?_); rintro e w13 ⟨⟨hP, rfl⟩ | ⟨hP, rfl⟩, hx13⟩)
   ·go_ret2
    exact ⟨by rw [e1 hP]; rfl, hxA.trans hx13⟩
   ·go_ret2
    exact ⟨by rw [e2 hP]; rfl, hxA.trans hx13⟩
  ·replace hbm : Hid (∀ W pt ct, PlAt W pt L → Calls Tryz.prog 67 #[vFam nm 1 2 k q ps ss.length cs co pl ls.length cl, .int .i64 R, .slice pt L.length ct, .int .i64 ((D : Int) + (N : Int) * (C : Int))] W fun e w' => e = .returned (.tuple #[.slice none 0 0, .bool false]) ∧ Ext W w') := Lib.hid fun W pt ct h => (hbm.out W pt ct h).mono fun e w' ⟨h5, hx⟩ => ⟨h5.elim (fun h6 => absurd h6.1 hA) (fun h6 => h6.2), hx⟩
   have e2 : bdB ⟨nm, 1, 2, k, q, co, ss, ls⟩ R l ⟨xp, xt, xq, xb, xd, xl⟩ ds = false := eFf (fun h5 => hA (hBP.1 h5).1)
   rw [e2]
   have hxA : Ext w ((w.alloc (.cells #[.string nm, .int .i64 1, .int .i64 2, .int .i64 k, .int .i64 q, .slice ps ss.length cs, .int .i64 co, .slice pl ls.length cl] 55)).alloc (.cells #[.int .i64 xp, .int .i64 xt, .int .i64 xq, .int .i64 xb, .int .i64 xd, .int .i64 xl] 57)) := ((Ext.refl w).alloc _).alloc _
   have PF := (Blk.new w #[.string nm, .int .i64 1, .int .i64 2, .int .i64 k, .int .i64 q, .slice ps ss.length cs, .int .i64 co, .slice pl ls.length cl] 55).alloc (.cells #[.int .i64 xp, .int .i64 xt, .int .i64 xq, .int .i64 xb, .int .i64 xd, .int .i64 xl] 57)
   have PP := Blk.new (w.alloc (.cells #[.string nm, .int .i64 1, .int .i64 2, .int .i64 k, .int .i64 q, .slice ps ss.length cs, .int .i64 co, .slice pl ls.length cl] 55)) #[.int .i64 xp, .int .i64 xt, .int .i64 xq, .int .i64 xb, .int .i64 xd, .int .i64 xl] 57
   simp only [World.size_alloc] at PP
   go_enter Tryz.func24, Tryz.ntmps24
   go_upto_region 1 with (fail)
   obtain ⟨gP, hgP⟩ : ∃ g, w.heap.size + 1 = g := ⟨_, rfl⟩
   rw [hgP] at PP ⊢
   clear hgP
   obtain ⟨gF, hgF⟩ : ∃ g, w.heap.size = g := ⟨_, rfl⟩
   rw [hgF] at PF ⊢
   clear hgF
   generalize ((w.alloc (.cells #[.string nm, .int .i64 1, .int .i64 2, .int .i64 k, .int .i64 q, .slice ps ss.length cs, .int .i64 co, .slice pl ls.length cl] 55)).alloc (.cells #[.int .i64 xp, .int .i64 xt, .int .i64 xq, .int .i64 xb, .int .i64 xd, .int .i64 xl] 57)) = w0 at *
   obtain ⟨a0, a1, a2, a3, a4, a5, a6, a7⟩ := PF.c8; have aL := PF.lt; obtain ⟨b0, b1, b2, b3, b4, b5⟩ := PP.c6; have bL := PP.lt
   go_upto_region 6 with (first
   | (go_at_call 62; go_loud ((with_reducible refine (iIsPrint_c xp xt xq xb xd xl _).mono ?_); rintro e w1 ⟨⟨hP, rfl⟩ | ⟨hP, rfl⟩, hx1⟩ <;> (first | exact absurd hP h0.out | exact absurd h0.out hP | skip); replace PF := PF.ext hx1; replace PP := PP.ext hx1; replace hxA := hxA.trans hx1; clear a0 a1 a2 a3 a4 a5 a6 a7 aL b0 b1 b2 b3 b4 b5 bL; obtain ⟨a0, a1, a2, a3, a4, a5, a6, a7⟩ := PF.c8; have aL := PF.lt; obtain ⟨b0, b1, b2, b3, b4, b5⟩ := PP.c6; have bL := PP.lt))
   | (go_at_call 63; go_loud ((with_reducible refine (hlo.out _ (HS.out.ext hxA) (HV.out.ext hxA)).mono ?_); rintro e w2 ⟨rfl, hx2⟩; replace PF := PF.ext hx2; replace PP := PP.ext hx2; replace hxA := hxA.trans hx2; clear a0 a1 a2 a3 a4 a5 a6 a7 aL b0 b1 b2 b3 b4 b5 bL; obtain ⟨a0, a1, a2, a3, a4, a5, a6, a7⟩ := PF.c8; have aL := PF.lt; obtain ⟨b0, b1, b2, b3, b4, b5⟩ := PP.c6; have bL := PP.lt)))
   have hx3 : Ext w2 (w2.alloc (.cells #[.int .i64 2, .int .i64 k, .int .i64 q, .int .i64 D, .int .i64 C, .int .i64 N] 95)) := (Ext.refl _).alloc _
   have PL := Blk.new w2 #[.int .i64 2, .int .i64 k, .int .i64 q, .int .i64 D, .int .i64 C, .int .i64 N] 95
   replace PF := PF.ext hx3; replace PP := PP.ext hx3; replace hxA := hxA.trans hx3; clear a0 a1 a2 a3 a4 a5 a6 a7 aL b0 b1 b2 b3 b4 b5 bL; obtain ⟨a0, a1, a2, a3, a4, a5, a6, a7⟩ := PF.c8; have aL := PF.lt; obtain ⟨b0, b1, b2, b3, b4, b5⟩ := PP.c6; have bL := PP.lt
   generalize w2.alloc (.cells #[.int .i64 2, .int .i64 k, .int .i64 q, .int .i64 D, .int .i64 C, .int .i64 N] 95) = w3 at *
   generalize w2.heap.size = gL at *
   refine wp_region_canon (fun w' => Ext w3 w') [(0, true), (1, true), (2, true), (3, true), (5, true), (4, false), (6, false), (7, false), (8, true), (9, true), (10, true), (11, true), (12, true)] (by kernel_rfl) (by kernel_rfl) (by decide) (by kernel_rfl) ?_ ?_
   ·exact eX
   refine canon_intro fun ops eo => ?_
   replace eo := canon_eo eo
   iterate 5 all_goals (refine cS eo rfl rfl evE ?_; simp only [ptN])
   all_goals first | (refine canon_ef (eo.out 4 rfl) rfl (fun K hK => ?_); go_simp; ((go_at_call 65; (with_reducible refine (hkd.out _).mono ?_); rintro e w4 ⟨rfl, hb4⟩)); all_goals (refine hK _ _ ⟨(by first | assumption | exact eX), ?_⟩; clear hK K; go_simp))
   all_goals first | (refine canon_ef (eo.out 6 rfl) rfl (fun K hK => ?_); go_simp; ((go_at_call 250; (with_reducible refine (hmc.out _).mono ?_); rintro e w5 ⟨rfl, hb5⟩)); all_goals (refine hK _ _ ⟨(by first | assumption | exact eX), ?_⟩; clear hK K; go_simp))
   all_goals first | (refine canon_ef (eo.out 7 rfl) rfl (fun K hK => ?_); go_simp; ((go_at_call 64; (with_reducible refine (htm.out _ (HX.out.ext (hxA.trans eX))).mono ?_); rintro e w9 ⟨⟨v9, rfl, hr9⟩, hb9⟩)); all_goals (refine hK _ _ ⟨(by first | assumption | exact eX), ?_⟩; clear hK K; go_simp))
   iterate 5 all_goals (refine cS eo rfl rfl evE ?_; simp only [ptN])
   all_goals (clear eo; refine canon_done (NoPanic.normal ?_))
   obtain ⟨pt, ct, rfl, hpl, -⟩ := hr9.nfree plF_len
   have hxB : Ext w3 w9 := eX
   replace PL := PL.ext hxB
   replace PF := PF.ext hxB; replace PP := PP.ext hxB; replace hxA := hxA.trans hxB; clear a0 a1 a2 a3 a4 a5 a6 a7 aL b0 b1 b2 b3 b4 b5 bL; obtain ⟨a0, a1, a2, a3, a4, a5, a6, a7⟩ := PF.c8; have aL := PF.lt; obtain ⟨b0, b1, b2, b3, b4, b5⟩ := PP.c6; have bL := PP.lt
   go_upto_region 11 with (go_at_call 66; go_loud ((with_reducible refine (hbs.out _ _ _ hpl).mono ?_); rintro e w10 ⟨⟨v10, rfl, hr10⟩, hx10⟩; replace PF := PF.ext hx10; replace PP := PP.ext hx10; replace hxA := hxA.trans hx10; clear a0 a1 a2 a3 a4 a5 a6 a7 aL b0 b1 b2 b3 b4 b5 bL; obtain ⟨a0, a1, a2, a3, a4, a5, a6, a7⟩ := PF.c8; have aL := PF.lt; obtain ⟨b0, b1, b2, b3, b4, b5⟩ := PP.c6; have bL := PP.lt; replace PL := PL.ext hx10))
   have hpl2 := Lib.hid (hpl.ext hx10)
   clear hr10 hpl
   obtain ⟨c0, c1, c2, c3, c4, c5⟩ := PL.c6; have cL := PL.lt
   refine wp_region_canon (fun w' => Ext w10 w') [(0, true), (1, true), (2, true), (3, true), (4, false), (5, false), (6, true), (7, true), (8, true), (9, true), (10, true)] (by kernel_rfl) (by kernel_rfl) (by decide) (by kernel_rfl) ?_ ?_
   ·exact eX
   refine canon_intro fun ops eo => ?_
   replace eo := canon_eo eo
   iterate 4 all_goals (refine cS eo rfl rfl evE ?_; simp only [ptN])
   all_goals first | (refine canon_ef (eo.out 4 rfl) rfl (fun K hK => ?_); go_simp; ((go_at_call 68; (with_reducible refine (hto.out _).mono ?_); rintro e w11 ⟨rfl, hb11⟩)); all_goals (refine hK _ _ ⟨(by first | assumption | exact eX), ?_⟩; clear hK K; go_simp))
   all_goals first | (refine canon_ef (eo.out 5 rfl) rfl (fun K hK => ?_); go_simp; ((go_at_call 67; (with_reducible refine (hbm.out _ _ _ (hpl2.out.ext eX)).mono ?_); rintro e w12 ⟨rfl, hb12⟩)); all_goals (refine hK _ _ ⟨(by first | assumption | exact eX), ?_⟩; clear hK K; go_simp))
   iterate 5 all_goals (refine cS eo rfl rfl evE ?_; simp only [ptN])
   all_goals (clear eo; refine canon_done (NoPanic.normal ?_))
   go_wp2
   go_ret2
   exact ⟨rfl, hxA.trans eX⟩
 ·obtain ⟨rfl, hcO, hDC⟩ := hK; replace hDC := Lib.hid hDC; have hcob : 0 ≤ co ∧ co ≤ 100 := (by rw [eO]; omega); replace eO := Lib.hid eO
  have hkd := Lib.hid (fun W => kind_c nm 2 p k q co ps pl ss.length cs ls.length cl W)
  rw [colsV_st rfl] at eCc
  have hmm := sCols_m
  have hmc := Lib.hid (fun W => stackedCols_c nm 2 p k q co (R : Int) ps pl ss.length cs ls.length cl W hcob)
  rw [if_pos rfl] at hkd
  rw [eCc] at hmc
  have hBP : bdP ⟨nm, 2, p, k, q, co, ss, ls⟩ R l ⟨xp, xt, xq, xb, xd, xl⟩ ds ↔ 2 * (stB (tmTo xp xt xq ds Cc (R * Cc)) cO R : Int) < ((R / 3 : Nat) : Int) ∧ sdOK D C N (stE (tmTo xp xt xq ds Cc (R * Cc)) cO (R * cO)) [] := by
   unfold bdP bdSd bdL
   simp only
   rw [eD.out, eC1.out, eN.out, eR2.out, eC2.out, eO.out]
   simp only [Int.toNat_natCast]
   constructor
   ·rintro (⟨-, h5, h6⟩ | ⟨h5, -⟩)
    ·exact ⟨h5, h6⟩
    ·exact absurd rfl h5
   ·rintro ⟨h5, h6⟩
    exact .inl ⟨by simp, h5, h6⟩
  have hT4 : Hid (∀ W, SAt fD 6 W pd ds → Calls Tryz.prog 64 #[.slice pd ds.length cd, vPrint xp xt xq xb xd xl, .int .i64 R, .int .i64 Cc] W fun e w' => (∃ v, e = .returned (.tuple #[v, .int .i64 0]) ∧ RowP W.heap.size w' v (tmTo xp xt xq ds Cc (R * Cc))) ∧ Ext W w') := Lib.hid fun W h => (htm.out W h).mono fun e w' ⟨h5, hx⟩ => ⟨h5.elim (fun h6 => h6.2) (fun h6 => absurd h2.out h6.1), hx⟩
  replace htm := hT4
  clear hT4
  have hLb : ∀ z ∈ tmTo xp xt xq ds Cc (R * Cc), (0 ≤ z.1 ∧ z.1 ≤ 1000) ∧ (0 ≤ z.2 ∧ z.2 ≤ 1000) := fun z hz => by have := tm_bd hz; omega
  have hLl : (tmTo xp xt xq ds Cc (R * Cc)).length ≤ 40000 := by have := tm_len xp xt xq ds Cc (R * Cc); have := Nat.mul_le_mul hR41 hC400; omega
  replace h0 := Lib.hid (show IsPrint xp xt xq xb xd xl from h0)
  obtain ⟨L, hL⟩ : ∃ L, tmTo xp xt xq ds Cc (R * Cc) = L := ⟨_, rfl⟩
  rw [hL] at htm hLb hLl hBP
  clear hL
  have hnc : R * cO ≤ 1000 := by have := Nat.mul_le_mul hR41 (show cO ≤ 8 by omega); omega
  have hbs := Lib.hid (fun W pt ct (h : PlAt W pt L) => boundedStack_c nm 2 p k q cO R ps pl ss.length cs ls.length cl pt ct L W (by omega) (by omega) h hLl hLb)
  rw [← eO.out] at hbs
  have hri : risOK 0 (((D + C * N : Nat) : Int) - 1) (stE L cO (R * cO)) := by rw [hDC.out]; exact (ris_sel (fun i => stHit L (i / cO) (i % cO + 1)) (R * cO))
  have hle : (stE L cO (R * cO)).length ≤ 1048576 := by have := (sel_len (fun i => stHit L (i / cO) (i % cO + 1)) (R * cO)); have h9 : (stE L cO (R * cO)).length ≤ _ := this; omega
  have hsd := Lib.hid (show ∀ W p2 c2, IntsAt W p2 (stE L cO (R * cO)) → Calls Tryz.prog 69 #[vLay p k q D C N, .slice p2 (stE L cO (R * cO)).length c2, .slice none 0 0] W fun e w' => SdR (sdOK D C N (stE L cO (R * cO)) []) e ∧ Ext W w' from fun W p2 c2 h => iStreamDamage_c p k q D C N p2 none c2 0 (stE L cO (R * cO)) [] W h (IntsAt_nil _ _) hle (by simp) hlay hri (fun i hi => absurd hi (Nat.not_lt_zero i)))
  generalize stE L cO (R * cO) = TE at *
  generalize sdOK D C N TE [] = SD at *
  by_cases hA : 2 * (stB L cO R : Int) < ((R / 3 : Nat) : Int)
  ·rw [decide_eq_true hA] at hbs
   have hB2 : bdP ⟨nm, 2, p, k, q, co, ss, ls⟩ R l ⟨xp, xt, xq, xb, xd, xl⟩ ds ↔ SD := hBP.trans ⟨fun h => h.2, fun h => ⟨hA, h⟩⟩
   have e1 : SD → bdB ⟨nm, 2, p, k, q, co, ss, ls⟩ R l ⟨xp, xt, xq, xb, xd, xl⟩ ds = true := fun h => eT (hB2.2 h)
   have e2 : ¬ SD → bdB ⟨nm, 2, p, k, q, co, ss, ls⟩ R l ⟨xp, xt, xq, xb, xd, xl⟩ ds = false := fun h => eFf (fun h5 => h (hB2.1 h5))
   have hxA : Ext w ((w.alloc (.cells #[.string nm, .int .i64 2, .int .i64 p, .int .i64 k, .int .i64 q, .slice ps ss.length cs, .int .i64 co, .slice pl ls.length cl] 55)).alloc (.cells #[.int .i64 xp, .int .i64 xt, .int .i64 xq, .int .i64 xb, .int .i64 xd, .int .i64 xl] 57)) := ((Ext.refl w).alloc _).alloc _
   have PF := (Blk.new w #[.string nm, .int .i64 2, .int .i64 p, .int .i64 k, .int .i64 q, .slice ps ss.length cs, .int .i64 co, .slice pl ls.length cl] 55).alloc (.cells #[.int .i64 xp, .int .i64 xt, .int .i64 xq, .int .i64 xb, .int .i64 xd, .int .i64 xl] 57)
   have PP := Blk.new (w.alloc (.cells #[.string nm, .int .i64 2, .int .i64 p, .int .i64 k, .int .i64 q, .slice ps ss.length cs, .int .i64 co, .slice pl ls.length cl] 55)) #[.int .i64 xp, .int .i64 xt, .int .i64 xq, .int .i64 xb, .int .i64 xd, .int .i64 xl] 57
   simp only [World.size_alloc] at PP
   go_enter Tryz.func24, Tryz.ntmps24
   go_upto_region 1 with (fail)
   obtain ⟨gP, hgP⟩ : ∃ g, w.heap.size + 1 = g := ⟨_, rfl⟩
   rw [hgP] at PP ⊢
   clear hgP
   obtain ⟨gF, hgF⟩ : ∃ g, w.heap.size = g := ⟨_, rfl⟩
   rw [hgF] at PF ⊢
   clear hgF
   generalize ((w.alloc (.cells #[.string nm, .int .i64 2, .int .i64 p, .int .i64 k, .int .i64 q, .slice ps ss.length cs, .int .i64 co, .slice pl ls.length cl] 55)).alloc (.cells #[.int .i64 xp, .int .i64 xt, .int .i64 xq, .int .i64 xb, .int .i64 xd, .int .i64 xl] 57)) = w0 at *
   obtain ⟨a0, a1, a2, a3, a4, a5, a6, a7⟩ := PF.c8; have aL := PF.lt; obtain ⟨b0, b1, b2, b3, b4, b5⟩ := PP.c6; have bL := PP.lt
   go_upto_region 6 with (first
   | (go_at_call 62; go_loud ((with_reducible refine (iIsPrint_c xp xt xq xb xd xl _).mono ?_); rintro e w1 ⟨⟨hP, rfl⟩ | ⟨hP, rfl⟩, hx1⟩ <;> (first | exact absurd hP h0.out | exact absurd h0.out hP | skip); replace PF := PF.ext hx1; replace PP := PP.ext hx1; replace hxA := hxA.trans hx1; clear a0 a1 a2 a3 a4 a5 a6 a7 aL b0 b1 b2 b3 b4 b5 bL; obtain ⟨a0, a1, a2, a3, a4, a5, a6, a7⟩ := PF.c8; have aL := PF.lt; obtain ⟨b0, b1, b2, b3, b4, b5⟩ := PP.c6; have bL := PP.lt))
   | (go_at_call 63; go_loud ((with_reducible refine (hlo.out _ (HS.out.ext hxA) (HV.out.ext hxA)).mono ?_); rintro e w2 ⟨rfl, hx2⟩; replace PF := PF.ext hx2; replace PP := PP.ext hx2; replace hxA := hxA.trans hx2; clear a0 a1 a2 a3 a4 a5 a6 a7 aL b0 b1 b2 b3 b4 b5 bL; obtain ⟨a0, a1, a2, a3, a4, a5, a6, a7⟩ := PF.c8; have aL := PF.lt; obtain ⟨b0, b1, b2, b3, b4, b5⟩ := PP.c6; have bL := PP.lt)))
   have hx3 : Ext w2 (w2.alloc (.cells #[.int .i64 p, .int .i64 k, .int .i64 q, .int .i64 D, .int .i64 C, .int .i64 N] 95)) := (Ext.refl _).alloc _
   have PL := Blk.new w2 #[.int .i64 p, .int .i64 k, .int .i64 q, .int .i64 D, .int .i64 C, .int .i64 N] 95
   replace PF := PF.ext hx3; replace PP := PP.ext hx3; replace hxA := hxA.trans hx3; clear a0 a1 a2 a3 a4 a5 a6 a7 aL b0 b1 b2 b3 b4 b5 bL; obtain ⟨a0, a1, a2, a3, a4, a5, a6, a7⟩ := PF.c8; have aL := PF.lt; obtain ⟨b0, b1, b2, b3, b4, b5⟩ := PP.c6; have bL := PP.lt
   generalize w2.alloc (.cells #[.int .i64 p, .int .i64 k, .int .i64 q, .int .i64 D, .int .i64 C, .int .i64 N] 95) = w3 at *
   generalize w2.heap.size = gL at *
   refine wp_region_canon (fun w' => Ext w3 w') [(0, true), (1, true), (2, true), (3, true), (5, true), (4, false), (6, false), (7, false), (8, true), (9, true), (10, true), (11, true), (12, true)] (by kernel_rfl) (by kernel_rfl) (by decide) (by kernel_rfl) ?_ ?_
   ·exact eX
   refine canon_intro fun ops eo => ?_
   replace eo := canon_eo eo
   iterate 5 all_goals (refine cS eo rfl rfl evE ?_; simp only [ptN])
   all_goals first | (refine canon_ef (eo.out 4 rfl) rfl (fun K hK => ?_); go_simp; ((go_at_call 65; (with_reducible refine (hkd.out _).mono ?_); rintro e w4 ⟨rfl, hb4⟩)); all_goals (refine hK _ _ ⟨(by first | assumption | exact eX), ?_⟩; clear hK K; go_simp))
   all_goals first | (refine canon_ef (eo.out 6 rfl) rfl (fun K hK => ?_); go_simp; ((go_at_call 248; (with_reducible refine (hmc.out _).mono ?_); rintro e w5 ⟨rfl, hb5⟩)); all_goals (refine hK _ _ ⟨(by first | assumption | exact eX), ?_⟩; clear hK K; go_simp))
   all_goals first | (refine canon_ef (eo.out 7 rfl) rfl (fun K hK => ?_); go_simp; ((go_at_call 64; (with_reducible refine (htm.out _ (HX.out.ext (hxA.trans eX))).mono ?_); rintro e w9 ⟨⟨v9, rfl, hr9⟩, hb9⟩)); all_goals (refine hK _ _ ⟨(by first | assumption | exact eX), ?_⟩; clear hK K; go_simp))
   iterate 5 all_goals (refine cS eo rfl rfl evE ?_; simp only [ptN])
   all_goals (clear eo; refine canon_done (NoPanic.normal ?_))
   obtain ⟨pt, ct, rfl, hpl, -⟩ := hr9.nfree plF_len
   have hxB : Ext w3 w9 := eX
   replace PL := PL.ext hxB
   replace PF := PF.ext hxB; replace PP := PP.ext hxB; replace hxA := hxA.trans hxB; clear a0 a1 a2 a3 a4 a5 a6 a7 aL b0 b1 b2 b3 b4 b5 bL; obtain ⟨a0, a1, a2, a3, a4, a5, a6, a7⟩ := PF.c8; have aL := PF.lt; obtain ⟨b0, b1, b2, b3, b4, b5⟩ := PP.c6; have bL := PP.lt
   go_upto_region 10 with (go_at_call 66; go_loud ((with_reducible refine (hbs.out _ _ _ hpl).mono ?_); rintro e w10 ⟨⟨v10, rfl, hr10⟩, hx10⟩; replace PF := PF.ext hx10; replace PP := PP.ext hx10; replace hxA := hxA.trans hx10; clear a0 a1 a2 a3 a4 a5 a6 a7 aL b0 b1 b2 b3 b4 b5 bL; obtain ⟨a0, a1, a2, a3, a4, a5, a6, a7⟩ := PF.c8; have aL := PF.lt; obtain ⟨b0, b1, b2, b3, b4, b5⟩ := PP.c6; have bL := PP.lt; replace PL := PL.ext hx10))
   obtain ⟨p10, c10, rfl, hoo10, -⟩ := hr10.ownC
   replace hoo10 := Lib.hid hoo10.ints
   clear hr10 hpl
   obtain ⟨c0, c1, c2, c3, c4, c5⟩ := PL.c6; have cL := PL.lt
   go_wp2_with (go_at_call 69; (with_reducible refine (hsd.out _ _ _ hoo10.out).mono ?_); rintro e w13 ⟨⟨hP, rfl⟩ | ⟨hP, rfl⟩, hx13⟩)
   ·go_ret2
    exact ⟨by rw [e1 hP]; rfl, hxA.trans hx13⟩
   ·go_ret2
    exact ⟨by rw [e2 hP]; rfl, hxA.trans hx13⟩
  ·rw [decide_eq_false hA] at hbs
   have e2 : bdB ⟨nm, 2, p, k, q, co, ss, ls⟩ R l ⟨xp, xt, xq, xb, xd, xl⟩ ds = false := eFf (fun h5 => hA (hBP.1 h5).1)
   rw [e2]
   have hxA : Ext w ((w.alloc (.cells #[.string nm, .int .i64 2, .int .i64 p, .int .i64 k, .int .i64 q, .slice ps ss.length cs, .int .i64 co, .slice pl ls.length cl] 55)).alloc (.cells #[.int .i64 xp, .int .i64 xt, .int .i64 xq, .int .i64 xb, .int .i64 xd, .int .i64 xl] 57)) := ((Ext.refl w).alloc _).alloc _
   have PF := (Blk.new w #[.string nm, .int .i64 2, .int .i64 p, .int .i64 k, .int .i64 q, .slice ps ss.length cs, .int .i64 co, .slice pl ls.length cl] 55).alloc (.cells #[.int .i64 xp, .int .i64 xt, .int .i64 xq, .int .i64 xb, .int .i64 xd, .int .i64 xl] 57)
   have PP := Blk.new (w.alloc (.cells #[.string nm, .int .i64 2, .int .i64 p, .int .i64 k, .int .i64 q, .slice ps ss.length cs, .int .i64 co, .slice pl ls.length cl] 55)) #[.int .i64 xp, .int .i64 xt, .int .i64 xq, .int .i64 xb, .int .i64 xd, .int .i64 xl] 57
   simp only [World.size_alloc] at PP
   go_enter Tryz.func24, Tryz.ntmps24
   go_upto_region 1 with (fail)
   obtain ⟨gP, hgP⟩ : ∃ g, w.heap.size + 1 = g := ⟨_, rfl⟩
   rw [hgP] at PP ⊢
   clear hgP
   obtain ⟨gF, hgF⟩ : ∃ g, w.heap.size = g := ⟨_, rfl⟩
   rw [hgF] at PF ⊢
   clear hgF
   generalize ((w.alloc (.cells #[.string nm, .int .i64 2, .int .i64 p, .int .i64 k, .int .i64 q, .slice ps ss.length cs, .int .i64 co, .slice pl ls.length cl] 55)).alloc (.cells #[.int .i64 xp, .int .i64 xt, .int .i64 xq, .int .i64 xb, .int .i64 xd, .int .i64 xl] 57)) = w0 at *
   obtain ⟨a0, a1, a2, a3, a4, a5, a6, a7⟩ := PF.c8; have aL := PF.lt; obtain ⟨b0, b1, b2, b3, b4, b5⟩ := PP.c6; have bL := PP.lt
   go_upto_region 6 with (first
   | (go_at_call 62; go_loud ((with_reducible refine (iIsPrint_c xp xt xq xb xd xl _).mono ?_); rintro e w1 ⟨⟨hP, rfl⟩ | ⟨hP, rfl⟩, hx1⟩ <;> (first | exact absurd hP h0.out | exact absurd h0.out hP | skip); replace PF := PF.ext hx1; replace PP := PP.ext hx1; replace hxA := hxA.trans hx1; clear a0 a1 a2 a3 a4 a5 a6 a7 aL b0 b1 b2 b3 b4 b5 bL; obtain ⟨a0, a1, a2, a3, a4, a5, a6, a7⟩ := PF.c8; have aL := PF.lt; obtain ⟨b0, b1, b2, b3, b4, b5⟩ := PP.c6; have bL := PP.lt))
   | (go_at_call 63; go_loud ((with_reducible refine (hlo.out _ (HS.out.ext hxA) (HV.out.ext hxA)).mono ?_); rintro e w2 ⟨rfl, hx2⟩; replace PF := PF.ext hx2; replace PP := PP.ext hx2; replace hxA := hxA.trans hx2; clear a0 a1 a2 a3 a4 a5 a6 a7 aL b0 b1 b2 b3 b4 b5 bL; obtain ⟨a0, a1, a2, a3, a4, a5, a6, a7⟩ := PF.c8; have aL := PF.lt; obtain ⟨b0, b1, b2, b3, b4, b5⟩ := PP.c6; have bL := PP.lt)))
   have hx3 : Ext w2 (w2.alloc (.cells #[.int .i64 p, .int .i64 k, .int .i64 q, .int .i64 D, .int .i64 C, .int .i64 N] 95)) := (Ext.refl _).alloc _
   have PL := Blk.new w2 #[.int .i64 p, .int .i64 k, .int .i64 q, .int .i64 D, .int .i64 C, .int .i64 N] 95
   replace PF := PF.ext hx3; replace PP := PP.ext hx3; replace hxA := hxA.trans hx3; clear a0 a1 a2 a3 a4 a5 a6 a7 aL b0 b1 b2 b3 b4 b5 bL; obtain ⟨a0, a1, a2, a3, a4, a5, a6, a7⟩ := PF.c8; have aL := PF.lt; obtain ⟨b0, b1, b2, b3, b4, b5⟩ := PP.c6; have bL := PP.lt
   generalize w2.alloc (.cells #[.int .i64 p, .int .i64 k, .int .i64 q, .int .i64 D, .int .i64 C, .int .i64 N] 95) = w3 at *
   generalize w2.heap.size = gL at *
   refine wp_region_canon (fun w' => Ext w3 w') [(0, true), (1, true), (2, true), (3, true), (5, true), (4, false), (6, false), (7, false), (8, true), (9, true), (10, true), (11, true), (12, true)] (by kernel_rfl) (by kernel_rfl) (by decide) (by kernel_rfl) ?_ ?_
   ·exact eX
   refine canon_intro fun ops eo => ?_
   replace eo := canon_eo eo
   iterate 5 all_goals (refine cS eo rfl rfl evE ?_; simp only [ptN])
   all_goals first | (refine canon_ef (eo.out 4 rfl) rfl (fun K hK => ?_); go_simp; ((go_at_call 65; (with_reducible refine (hkd.out _).mono ?_); rintro e w4 ⟨rfl, hb4⟩)); all_goals (refine hK _ _ ⟨(by first | assumption | exact eX), ?_⟩; clear hK K; go_simp))
   all_goals first | (refine canon_ef (eo.out 6 rfl) rfl (fun K hK => ?_); go_simp; ((go_at_call 248; (with_reducible refine (hmc.out _).mono ?_); rintro e w5 ⟨rfl, hb5⟩)); all_goals (refine hK _ _ ⟨(by first | assumption | exact eX), ?_⟩; clear hK K; go_simp))
   all_goals first | (refine canon_ef (eo.out 7 rfl) rfl (fun K hK => ?_); go_simp; ((go_at_call 64; (with_reducible refine (htm.out _ (HX.out.ext (hxA.trans eX))).mono ?_); rintro e w9 ⟨⟨v9, rfl, hr9⟩, hb9⟩)); all_goals (refine hK _ _ ⟨(by first | assumption | exact eX), ?_⟩; clear hK K; go_simp))
   iterate 5 all_goals (refine cS eo rfl rfl evE ?_; simp only [ptN])
   all_goals (clear eo; refine canon_done (NoPanic.normal ?_))
   obtain ⟨pt, ct, rfl, hpl, -⟩ := hr9.nfree plF_len
   have hxB : Ext w3 w9 := eX
   replace PL := PL.ext hxB
   replace PF := PF.ext hxB; replace PP := PP.ext hxB; replace hxA := hxA.trans hxB; clear a0 a1 a2 a3 a4 a5 a6 a7 aL b0 b1 b2 b3 b4 b5 bL; obtain ⟨a0, a1, a2, a3, a4, a5, a6, a7⟩ := PF.c8; have aL := PF.lt; obtain ⟨b0, b1, b2, b3, b4, b5⟩ := PP.c6; have bL := PP.lt
   go_upto_region 10 with (go_at_call 66; go_loud ((with_reducible refine (hbs.out _ _ _ hpl).mono ?_); rintro e w10 ⟨⟨v10, rfl, hr10⟩, hx10⟩; replace PF := PF.ext hx10; replace PP := PP.ext hx10; replace hxA := hxA.trans hx10; clear a0 a1 a2 a3 a4 a5 a6 a7 aL b0 b1 b2 b3 b4 b5 bL; obtain ⟨a0, a1, a2, a3, a4, a5, a6, a7⟩ := PF.c8; have aL := PF.lt; obtain ⟨b0, b1, b2, b3, b4, b5⟩ := PP.c6; have bL := PP.lt; replace PL := PL.ext hx10))
   obtain ⟨p10, c10, rfl, hoo10, -⟩ := hr10.ownC
   replace hoo10 := Lib.hid hoo10.ints
   clear hr10 hpl
   obtain ⟨c0, c1, c2, c3, c4, c5⟩ := PL.c6; have cL := PL.lt
   go_wp2
   go_ret2
   exact ⟨rfl, hxA⟩
end Go.Proofs.YtdnkljpnhmcnpaaGreat
