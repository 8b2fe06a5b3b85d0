/- BoundedDamage, the reference's side. -/
import Derived.Test.YtdnkljpnhmcnpaaGreatLBoundedDamageK30
import Derived.Test.YtdnkljpnhmcnpaaGreatLBoundedDamageK40
import Derived.Test.YtdnkljpnhmcnpaaGreatLBoundedDamageK41
import Derived.Test.YtdnkljpnhmcnpaaGreatLBoundedDamageK43
set_option linter.unusedVariables false
set_option linter.unusedSimpArgs false
namespace Go.Proofs.YtdnkljpnhmcnpaaGreat
open Go.RowKit
set_option maxHeartbeats 6400000 in
set_option maxRecDepth 100000 in
theorem sBounded_c (f : Fm) (ps pl : Option Addr) (cs cl : Nat) (n l : Int) (x : Pr) (pd : Option Addr) (cd : Nat) (ds : List Dam) (w : World) (hs : IntsAt w ps f.ss) (hlv : IntsAt w pl f.ls) (hn : f.nm.size ≤ 1048576) (hl1 : f.ss.length ≤ 1048576) (hl2 : f.ls.length ≤ 1048576) (hx : SAt fD 6 w pd ds) (hld : ds.length ≤ 1048576) :
  Calls Tryz.prog 20 #[vFam f.nm f.K f.p f.k f.q ps f.ss.length cs f.co pl f.ls.length cl, .int .i64 n, .int .i64 l, vPrint x.p x.t x.q x.b x.d x.l, .slice pd ds.length cd] w fun e w' => BdE f n l x ds e ∧ Ext w w' := by
 have HS := Lib.hid hs; have HV := Lib.hid hlv; have HX := Lib.hid hx; clear hs hlv hx
 unfold BdE
 by_cases hF : ¬ famOK f.nm f.K f.p f.k f.q f.ss f.co f.ls
 ·have hE : bdC f n l x ds = 1 ∧ bdB f n l x ds = false := by
   by_cases h0 : prOK x
   ·have h2 : bdLo f n l = 1 := loC_1 hF
    have := bd_2 (n := n) (l := l) (ds := ds) h0 (by rw [h2]; decide)
    rw [h2] at this
    exact this
   ·exact bd_1 h0
  rw [hE.1, hE.2]
  clear hE
  obtain ⟨nm, K, p, k, q, co, ss, ls⟩ := f
  obtain ⟨xp, xt, xq, xb, xd, xl⟩ := x
  simp only at HS HV hn hl1 hl2 hF ⊢
  have hif := Lib.hid (fun W (h1 : IntsAt W ps ss) (h2 : IntsAt W pl ls) => sIsFamily_c nm K p k q co ps pl cs cl ss ls W h1 h2 hn hl1 hl2)
  replace hF := Lib.hid hF
  have hxA : Ext w ((w.alloc (.cells #[.string nm, .int .i64 K, .int .i64 p, .int .i64 k, .int .i64 q, .slice ps ss.length cs, .int .i64 co, .slice pl ls.length cl] 55)).alloc (.cells #[.int .i64 xp, .int .i64 xt, .int .i64 xq, .int .i64 xb, .int .i64 xd, .int .i64 xl] 57)) := ((Ext.refl w).alloc _).alloc _
  have PF := (Blk.new w #[.string nm, .int .i64 K, .int .i64 p, .int .i64 k, .int .i64 q, .slice ps ss.length cs, .int .i64 co, .slice pl ls.length cl] 55).alloc (.cells #[.int .i64 xp, .int .i64 xt, .int .i64 xq, .int .i64 xb, .int .i64 xd, .int .i64 xl] 57)
  have PP := Blk.new (w.alloc (.cells #[.string nm, .int .i64 K, .int .i64 p, .int .i64 k, .int .i64 q, .slice ps ss.length cs, .int .i64 co, .slice pl ls.length cl] 55)) #[.int .i64 xp, .int .i64 xt, .int .i64 xq, .int .i64 xb, .int .i64 xd, .int .i64 xl] 57
  simp only [World.size_alloc] at PP
  go_enter Tryz.func20, Tryz.ntmps20
  go_upto_region 1 with (fail)
  obtain ⟨gP, hgP⟩ : ∃ g, w.heap.size + 1 = g := ⟨_, rfl⟩
  rw [hgP] at PP ⊢
  clear hgP
  obtain ⟨gF, hgF⟩ : ∃ g, w.heap.size = g := ⟨_, rfl⟩
  rw [hgF] at PF ⊢
  clear hgF
  generalize ((w.alloc (.cells #[.string nm, .int .i64 K, .int .i64 p, .int .i64 k, .int .i64 q, .slice ps ss.length cs, .int .i64 co, .slice pl ls.length cl] 55)).alloc (.cells #[.int .i64 xp, .int .i64 xt, .int .i64 xq, .int .i64 xb, .int .i64 xd, .int .i64 xl] 57)) = w0 at *
  obtain ⟨a0, a1, a2, a3, a4, a5, a6, a7⟩ := PF.c8; have aL := PF.lt; obtain ⟨b0, b1, b2, b3, b4, b5⟩ := PP.c6; have bL := PP.lt
  go_wp2_with (go_at_call 53; go_loud ((with_reducible refine (hif.out _ (HS.out.ext hxA) (HV.out.ext hxA)).mono ?_); rintro e w7 ⟨⟨hQ, rfl⟩ | ⟨hQ, rfl⟩, hx7⟩ <;> (first | exact absurd hQ hF.out | exact absurd hF.out hQ | skip); replace PF := PF.ext hx7; replace PP := PP.ext hx7; replace hxA := hxA.trans hx7; clear a0 a1 a2 a3 a4 a5 a6 a7 aL b0 b1 b2 b3 b4 b5 bL; obtain ⟨a0, a1, a2, a3, a4, a5, a6, a7⟩ := PF.c8; have aL := PF.lt; obtain ⟨b0, b1, b2, b3, b4, b5⟩ := PP.c6; have bL := PP.lt))
  go_ret2
  exact ⟨rfl, hxA⟩
 replace hF := Classical.not_not.1 hF
 by_cases h0 : ¬ prOK x
 ·obtain ⟨eC, eB⟩ := bd_1 (f := f) (n := n) (l := l) (ds := ds) h0
  rw [eC, eB]
  clear eC eB
  obtain ⟨nm, K, p, k, q, co, ss, ls⟩ := f
  obtain ⟨xp, xt, xq, xb, xd, xl⟩ := x
  simp only at HS HV hn hl1 hl2 hF ⊢
  have hif := Lib.hid (fun W (h1 : IntsAt W ps ss) (h2 : IntsAt W pl ls) => sIsFamily_c nm K p k q co ps pl cs cl ss ls W h1 h2 hn hl1 hl2)
  replace hF := Lib.hid hF
  replace h0 := Lib.hid (show ¬ IsPrint xp xt xq xb xd xl from h0)
  have hxA : Ext w ((w.alloc (.cells #[.string nm, .int .i64 K, .int .i64 p, .int .i64 k, .int .i64 q, .slice ps ss.length cs, .int .i64 co, .slice pl ls.length cl] 55)).alloc (.cells #[.int .i64 xp, .int .i64 xt, .int .i64 xq, .int .i64 xb, .int .i64 xd, .int .i64 xl] 57)) := ((Ext.refl w).alloc _).alloc _
  have PF := (Blk.new w #[.string nm, .int .i64 K, .int .i64 p, .int .i64 k, .int .i64 q, .slice ps ss.length cs, .int .i64 co, .slice pl ls.length cl] 55).alloc (.cells #[.int .i64 xp, .int .i64 xt, .int .i64 xq, .int .i64 xb, .int .i64 xd, .int .i64 xl] 57)
  have PP := Blk.new (w.alloc (.cells #[.string nm, .int .i64 K, .int .i64 p, .int .i64 k, .int .i64 q, .slice ps ss.length cs, .int .i64 co, .slice pl ls.length cl] 55)) #[.int .i64 xp, .int .i64 xt, .int .i64 xq, .int .i64 xb, .int .i64 xd, .int .i64 xl] 57
  simp only [World.size_alloc] at PP
  go_enter Tryz.func20, Tryz.ntmps20
  go_upto_region 1 with (fail)
  obtain ⟨gP, hgP⟩ : ∃ g, w.heap.size + 1 = g := ⟨_, rfl⟩
  rw [hgP] at PP ⊢
  clear hgP
  obtain ⟨gF, hgF⟩ : ∃ g, w.heap.size = g := ⟨_, rfl⟩
  rw [hgF] at PF ⊢
  clear hgF
  generalize ((w.alloc (.cells #[.string nm, .int .i64 K, .int .i64 p, .int .i64 k, .int .i64 q, .slice ps ss.length cs, .int .i64 co, .slice pl ls.length cl] 55)).alloc (.cells #[.int .i64 xp, .int .i64 xt, .int .i64 xq, .int .i64 xb, .int .i64 xd, .int .i64 xl] 57)) = w0 at *
  obtain ⟨a0, a1, a2, a3, a4, a5, a6, a7⟩ := PF.c8; have aL := PF.lt; obtain ⟨b0, b1, b2, b3, b4, b5⟩ := PP.c6; have bL := PP.lt
  go_wp2_with (first | (go_at_call 53; go_loud ((with_reducible refine (hif.out _ (HS.out.ext hxA) (HV.out.ext hxA)).mono ?_); rintro e w7 ⟨⟨hQ, rfl⟩ | ⟨hQ, rfl⟩, hx7⟩ <;> (first | exact absurd hQ hF.out | exact absurd hF.out hQ | skip); replace PF := PF.ext hx7; replace PP := PP.ext hx7; replace hxA := hxA.trans hx7; clear a0 a1 a2 a3 a4 a5 a6 a7 aL b0 b1 b2 b3 b4 b5 bL; obtain ⟨a0, a1, a2, a3, a4, a5, a6, a7⟩ := PF.c8; have aL := PF.lt; obtain ⟨b0, b1, b2, b3, b4, b5⟩ := PP.c6; have bL := PP.lt)) | (go_at_call 54; go_loud ((with_reducible refine (sIsPrint_c xp xt xq xb xd xl _).mono ?_); rintro e w1 ⟨⟨hP, rfl⟩ | ⟨hP, rfl⟩, hx1⟩ <;> (first | exact absurd hP h0.out | exact absurd h0.out hP | skip); replace PF := PF.ext hx1; replace PP := PP.ext hx1; replace hxA := hxA.trans hx1; clear a0 a1 a2 a3 a4 a5 a6 a7 aL b0 b1 b2 b3 b4 b5 bL; obtain ⟨a0, a1, a2, a3, a4, a5, a6, a7⟩ := PF.c8; have aL := PF.lt; obtain ⟨b0, b1, b2, b3, b4, b5⟩ := PP.c6; have bL := PP.lt)))
  go_ret2
  exact ⟨rfl, hxA⟩
 replace h0 := Classical.not_not.1 h0
 by_cases h1 : ¬ bdLo f n l = 0
 ·obtain ⟨eC, eB⟩ := bd_2 (ds := ds) h0 h1
  rw [eC, eB]
  clear eC eB
  obtain ⟨nm, K, p, k, q, co, ss, ls⟩ := f
  obtain ⟨xp, xt, xq, xb, xd, xl⟩ := x
  simp only at HS HV hn hl1 hl2 hF ⊢
  replace h0 := Lib.hid (show IsPrint xp xt xq xb xd xl from h0)
  have hif := Lib.hid (fun W (h1 : IntsAt W ps ss) (h2 : IntsAt W pl ls) => sIsFamily_c nm K p k q co ps pl cs cl ss ls W h1 h2 hn hl1 hl2)
  replace hF := Lib.hid hF
  have hlo := Lib.hid (fun W (h1 : IntsAt W ps ss) (h2 : IntsAt W pl ls) => sLayoutOf_g nm K p k q co ps pl cs cl ss ls n l W h1 h2 hn hl1 hl2)
  unfold LoE bdLo at *
  simp only at h1 hlo ⊢
  generalize loC nm K p k q ss co ls n l = cc at *
  replace hlo : Hid (∀ W, IntsAt W ps ss → IntsAt W pl ls → Calls Tryz.prog 55 #[vFam nm K p k q ps ss.length cs co pl ls.length cl, .int .i64 n, .int .i64 l] W fun e w' => e = .returned (.tuple #[vLay 0 0 0 0 0 0, .int .i64 cc]) ∧ Ext W w') := Lib.hid fun W a b => (hlo.out W a b).mono fun e w' ⟨h, hx⟩ => ⟨h.elim (fun h => absurd h.1 h1) (fun h => h.2), hx⟩
  have hxA : Ext w ((w.alloc (.cells #[.string nm, .int .i64 K, .int .i64 p, .int .i64 k, .int .i64 q, .slice ps ss.length cs, .int .i64 co, .slice pl ls.length cl] 55)).alloc (.cells #[.int .i64 xp, .int .i64 xt, .int .i64 xq, .int .i64 xb, .int .i64 xd, .int .i64 xl] 57)) := ((Ext.refl w).alloc _).alloc _
  have PF := (Blk.new w #[.string nm, .int .i64 K, .int .i64 p, .int .i64 k, .int .i64 q, .slice ps ss.length cs, .int .i64 co, .slice pl ls.length cl] 55).alloc (.cells #[.int .i64 xp, .int .i64 xt, .int .i64 xq, .int .i64 xb, .int .i64 xd, .int .i64 xl] 57)
  have PP := Blk.new (w.alloc (.cells #[.string nm, .int .i64 K, .int .i64 p, .int .i64 k, .int .i64 q, .slice ps ss.length cs, .int .i64 co, .slice pl ls.length cl] 55)) #[.int .i64 xp, .int .i64 xt, .int .i64 xq, .int .i64 xb, .int .i64 xd, .int .i64 xl] 57
  simp only [World.size_alloc] at PP
  go_enter Tryz.func20, Tryz.ntmps20
  go_upto_region 1 with (fail)
  obtain ⟨gP, hgP⟩ : ∃ g, w.heap.size + 1 = g := ⟨_, rfl⟩
  rw [hgP] at PP ⊢
  clear hgP
  obtain ⟨gF, hgF⟩ : ∃ g, w.heap.size = g := ⟨_, rfl⟩
  rw [hgF] at PF ⊢
  clear hgF
  generalize ((w.alloc (.cells #[.string nm, .int .i64 K, .int .i64 p, .int .i64 k, .int .i64 q, .slice ps ss.length cs, .int .i64 co, .slice pl ls.length cl] 55)).alloc (.cells #[.int .i64 xp, .int .i64 xt, .int .i64 xq, .int .i64 xb, .int .i64 xd, .int .i64 xl] 57)) = w0 at *
  obtain ⟨a0, a1, a2, a3, a4, a5, a6, a7⟩ := PF.c8; have aL := PF.lt; obtain ⟨b0, b1, b2, b3, b4, b5⟩ := PP.c6; have bL := PP.lt
  go_wp2_with (first
   | (go_at_call 53; go_loud ((with_reducible refine (hif.out _ (HS.out.ext hxA) (HV.out.ext hxA)).mono ?_); rintro e w7 ⟨⟨hQ, rfl⟩ | ⟨hQ, rfl⟩, hx7⟩ <;> (first | exact absurd hQ hF.out | exact absurd hF.out hQ | skip); replace PF := PF.ext hx7; replace PP := PP.ext hx7; replace hxA := hxA.trans hx7; clear a0 a1 a2 a3 a4 a5 a6 a7 aL b0 b1 b2 b3 b4 b5 bL; obtain ⟨a0, a1, a2, a3, a4, a5, a6, a7⟩ := PF.c8; have aL := PF.lt; obtain ⟨b0, b1, b2, b3, b4, b5⟩ := PP.c6; have bL := PP.lt))
   | (go_at_call 54; go_loud ((with_reducible refine (sIsPrint_c xp xt xq xb xd xl _).mono ?_); rintro e w1 ⟨⟨hP, rfl⟩ | ⟨hP, rfl⟩, hx1⟩ <;> (first | exact absurd hP h0.out | exact absurd h0.out hP | skip); replace PF := PF.ext hx1; replace PP := PP.ext hx1; replace hxA := hxA.trans hx1; clear a0 a1 a2 a3 a4 a5 a6 a7 aL b0 b1 b2 b3 b4 b5 bL; obtain ⟨a0, a1, a2, a3, a4, a5, a6, a7⟩ := PF.c8; have aL := PF.lt; obtain ⟨b0, b1, b2, b3, b4, b5⟩ := PP.c6; have bL := PP.lt))
   | (go_at_call 55; go_loud ((with_reducible refine (hlo.out _ (HS.out.ext hxA) (HV.out.ext hxA)).mono ?_); rintro e w2 ⟨rfl, hx2⟩; replace PF := PF.ext hx2; replace PP := PP.ext hx2; replace hxA := hxA.trans hx2; clear a0 a1 a2 a3 a4 a5 a6 a7 aL b0 b1 b2 b3 b4 b5 bL; obtain ⟨a0, a1, a2, a3, a4, a5, a6, a7⟩ := PF.c8; have aL := PF.lt; obtain ⟨b0, b1, b2, b3, b4, b5⟩ := PP.c6; have bL := PP.lt)))
  go_ret2
  exact ⟨rfl, by first | exact hxA | exact hxA.alloc _ | exact eX⟩
 replace h1 := Classical.not_not.1 h1
 obtain ⟨D, C, N, R, cO, Cc, eD, eC1, eN, eR, eO, eCc, hlay, hR41, hC400, hK⟩ := bd_lay h1
 have eR2 : bdR n = R := by unfold bdR; rw [eR]; rfl
 have eC2 : bdCols f n = Cc := by unfold bdCols; rw [eCc]; rfl
 obtain ⟨nm, K, p, k, q, co, ss, ls⟩ := f
 obtain ⟨xp, xt, xq, xb, xd, xl⟩ := x
 simp only at HS HV hn hl1 hl2 eD eC1 eN eO eCc hlay hK hF
 have htm := Lib.hid (fun W (h : SAt fD 6 W pd ds) => sTouched_c xp xt xq xb xd xl R Cc pd cd ds W h hld)
 have hlo := Lib.hid (fun W (h1 : IntsAt W ps ss) (h2 : IntsAt W pl ls) => sLayoutOf_g nm K p k q co ps pl cs cl ss ls n l W h1 h2 hn hl1 hl2)
 rw [eD, eC1, eN] at hlo
 have h1' : loC nm K p k q ss co ls n l = 0 := h1
 rw [h1', eR] at hlo
 replace hlo : Hid (∀ W, IntsAt W ps ss → IntsAt W pl ls → Calls Tryz.prog 55 #[vFam nm K p k q ps ss.length cs co pl ls.length cl, .int .i64 R, .int .i64 l] W fun e w' => e = .returned (.tuple #[vLay p k q D C N, .int .i64 0]) ∧ Ext W w') := Lib.hid fun W a b => (hlo.out W a b).mono fun e w' ⟨h, hx⟩ => ⟨h.elim (fun h => h.2) (fun h => absurd rfl h.1), hx⟩
 clear h1'
 replace eD := Lib.hid eD; replace eC1 := Lib.hid eC1; replace eN := Lib.hid eN
 subst eR
 have eR3 : bdR (R : Int) = R := rfl
 have hT : bdTm ⟨nm, K, p, k, q, co, ss, ls⟩ R ⟨xp, xt, xq, xb, xd, xl⟩ ds = tmC xp xt xq xb xd xl R Cc ds := by unfold bdTm; rw [eR2, eC2]
 by_cases h2 : ¬ bdTm ⟨nm, K, p, k, q, co, ss, ls⟩ R ⟨xp, xt, xq, xb, xd, xl⟩ ds = 0
 ·obtain ⟨eC, eB⟩ := bd_3 h0 h1 h2
  rw [eC, eB]
  clear eC eB
  rw [hT] at h2 ⊢
  clear hT eR2 eC2 eR3
  replace h1 := Lib.hid h1; replace h2 := Lib.hid h2
  rcases hK with hK | hK
  ·obtain ⟨rfl, rfl, hfl, hcO, hRb, hR4, hDC⟩ := hK; replace hDC := Lib.hid hDC; have hcO2 : cO ≤ 100 := (by rw [hcO]; decide); have hcob : 0 ≤ co ∧ co ≤ 100 := (by rw [eO, hcO]; decide); replace hcO := Lib.hid hcO; replace eO := Lib.hid eO
   rw [colsV_mx (by decide)] at eCc
   obtain rfl : R = Cc := Int.ofNat_inj.1 eCc
   have hmc := Lib.hid (fun W => l18Cols_c nm 1 2 k q co (R : Int) ps pl ss.length cs ls.length cl W hcob (by decide))
   rw [colsV_mx (K := 1) (co := co) (n := (R : Int)) (by decide)] at hmc
   have hT3 : Hid (∀ W, SAt fD 6 W pd ds → Calls Tryz.prog 56 #[.slice pd ds.length cd, vPrint xp xt xq xb xd xl, .int .i64 R, .int .i64 R] W fun e w' => e = .returned (.tuple #[.slice none 0 0, .int .i64 (tmC xp xt xq xb xd xl R R ds)]) ∧ Ext W w') := Lib.hid fun W h => (htm.out W h).mono fun e w' ⟨h5, hx⟩ => ⟨h5.elim (fun h6 => absurd h6.1 h2.out) (fun h6 => h6.2), hx⟩
   replace htm := hT3
   clear hT3
   generalize tmC xp xt xq xb xd xl R R ds = cc at *
   replace h0 := Lib.hid (show IsPrint xp xt xq xb xd xl from h0)
   have hif := Lib.hid (fun W (h1 : IntsAt W ps ss) (h2 : IntsAt W pl ls) => sIsFamily_c nm 1 2 k q co ps pl cs cl ss ls W h1 h2 hn hl1 hl2)
   replace hF := Lib.hid hF
   have hxA : Ext w ((w.alloc (.cells #[.string nm, .int .i64 1, .int .i64 2, .int .i64 k, .int .i64 q, .slice ps ss.length cs, .int .i64 co, .slice pl ls.length cl] 55)).alloc (.cells #[.int .i64 xp, .int .i64 xt, .int .i64 xq, .int .i64 xb, .int .i64 xd, .int .i64 xl] 57)) := ((Ext.refl w).alloc _).alloc _
   have PF := (Blk.new w #[.string nm, .int .i64 1, .int .i64 2, .int .i64 k, .int .i64 q, .slice ps ss.length cs, .int .i64 co, .slice pl ls.length cl] 55).alloc (.cells #[.int .i64 xp, .int .i64 xt, .int .i64 xq, .int .i64 xb, .int .i64 xd, .int .i64 xl] 57)
   have PP := Blk.new (w.alloc (.cells #[.string nm, .int .i64 1, .int .i64 2, .int .i64 k, .int .i64 q, .slice ps ss.length cs, .int .i64 co, .slice pl ls.length cl] 55)) #[.int .i64 xp, .int .i64 xt, .int .i64 xq, .int .i64 xb, .int .i64 xd, .int .i64 xl] 57
   simp only [World.size_alloc] at PP
   go_enter Tryz.func20, Tryz.ntmps20
   go_upto_region 1 with (fail)
   obtain ⟨gP, hgP⟩ : ∃ g, w.heap.size + 1 = g := ⟨_, rfl⟩
   rw [hgP] at PP ⊢
   clear hgP
   obtain ⟨gF, hgF⟩ : ∃ g, w.heap.size = g := ⟨_, rfl⟩
   rw [hgF] at PF ⊢
   clear hgF
   generalize ((w.alloc (.cells #[.string nm, .int .i64 1, .int .i64 2, .int .i64 k, .int .i64 q, .slice ps ss.length cs, .int .i64 co, .slice pl ls.length cl] 55)).alloc (.cells #[.int .i64 xp, .int .i64 xt, .int .i64 xq, .int .i64 xb, .int .i64 xd, .int .i64 xl] 57)) = w0 at *
   obtain ⟨a0, a1, a2, a3, a4, a5, a6, a7⟩ := PF.c8; have aL := PF.lt; obtain ⟨b0, b1, b2, b3, b4, b5⟩ := PP.c6; have bL := PP.lt
   go_upto_region 6 with (first
    | (go_at_call 53; go_loud ((with_reducible refine (hif.out _ (HS.out.ext hxA) (HV.out.ext hxA)).mono ?_); rintro e w7 ⟨⟨hQ, rfl⟩ | ⟨hQ, rfl⟩, hx7⟩ <;> (first | exact absurd hQ hF.out | exact absurd hF.out hQ | skip); replace PF := PF.ext hx7; replace PP := PP.ext hx7; replace hxA := hxA.trans hx7; clear a0 a1 a2 a3 a4 a5 a6 a7 aL b0 b1 b2 b3 b4 b5 bL; obtain ⟨a0, a1, a2, a3, a4, a5, a6, a7⟩ := PF.c8; have aL := PF.lt; obtain ⟨b0, b1, b2, b3, b4, b5⟩ := PP.c6; have bL := PP.lt))
    | (go_at_call 54; go_loud ((with_reducible refine (sIsPrint_c xp xt xq xb xd xl _).mono ?_); rintro e w1 ⟨⟨hP, rfl⟩ | ⟨hP, rfl⟩, hx1⟩ <;> (first | exact absurd hP h0.out | exact absurd h0.out hP | skip); replace PF := PF.ext hx1; replace PP := PP.ext hx1; replace hxA := hxA.trans hx1; clear a0 a1 a2 a3 a4 a5 a6 a7 aL b0 b1 b2 b3 b4 b5 bL; obtain ⟨a0, a1, a2, a3, a4, a5, a6, a7⟩ := PF.c8; have aL := PF.lt; obtain ⟨b0, b1, b2, b3, b4, b5⟩ := PP.c6; have bL := PP.lt))
    | (go_at_call 55; go_loud ((with_reducible refine (hlo.out _ (HS.out.ext hxA) (HV.out.ext hxA)).mono ?_); rintro e w2 ⟨rfl, hx2⟩; replace PF := PF.ext hx2; replace PP := PP.ext hx2; replace hxA := hxA.trans hx2; clear a0 a1 a2 a3 a4 a5 a6 a7 aL b0 b1 b2 b3 b4 b5 bL; obtain ⟨a0, a1, a2, a3, a4, a5, a6, a7⟩ := PF.c8; have aL := PF.lt; obtain ⟨b0, b1, b2, b3, b4, b5⟩ := PP.c6; have bL := PP.lt)))
   have hx3 : Ext w2 (w2.alloc (.cells #[.int .i64 2, .int .i64 k, .int .i64 q, .int .i64 D, .int .i64 C, .int .i64 N] 95)) := (Ext.refl _).alloc _
   have PL := Blk.new w2 #[.int .i64 2, .int .i64 k, .int .i64 q, .int .i64 D, .int .i64 C, .int .i64 N] 95
   replace PF := PF.ext hx3; replace PP := PP.ext hx3; replace hxA := hxA.trans hx3; clear a0 a1 a2 a3 a4 a5 a6 a7 aL b0 b1 b2 b3 b4 b5 bL; obtain ⟨a0, a1, a2, a3, a4, a5, a6, a7⟩ := PF.c8; have aL := PF.lt; obtain ⟨b0, b1, b2, b3, b4, b5⟩ := PP.c6; have bL := PP.lt
   generalize w2.alloc (.cells #[.int .i64 2, .int .i64 k, .int .i64 q, .int .i64 D, .int .i64 C, .int .i64 N] 95) = w3 at *
   generalize w2.heap.size = gL at *
   refine wp_region_canon (fun w' => Ext w3 w') [(0, true), (1, true), (2, true), (3, true), (4, true), (5, false), (6, false), (7, true), (8, true), (9, true), (10, true), (11, true)] (by kernel_rfl) (by kernel_rfl) (by decide) (by kernel_rfl) ?_ ?_
   ·exact eX
   refine canon_intro fun ops eo => ?_
   replace eo := canon_eo eo
   iterate 5 all_goals (refine cS eo rfl rfl evE ?_; simp only [ptN])
   all_goals first | (refine canon_ef (eo.out 5 rfl) rfl (fun K hK => ?_); go_simp; ((go_at_call 57; (with_reducible refine (hmc.out _).mono ?_); rintro e w5 ⟨rfl, hb5⟩)); all_goals (refine hK _ _ ⟨(by first | assumption | exact eX), ?_⟩; clear hK K; go_simp))
   all_goals first | (refine canon_ef (eo.out 6 rfl) rfl (fun K hK => ?_); go_simp; ((go_at_call 56; (with_reducible refine (htm.out _ (HX.out.ext (hxA.trans eX))).mono ?_); rintro e w9 ⟨rfl, hb9⟩)); all_goals (refine hK _ _ ⟨(by first | assumption | exact eX), ?_⟩; clear hK K; go_simp))
   iterate 5 all_goals (refine cS eo rfl rfl evE ?_; simp only [ptN])
   all_goals (clear eo; refine canon_done (NoPanic.normal ?_))
   have hcb : (cc != 0) = true := by simpa using h2.out
   go_wp2
   go_ret2
   exact ⟨rfl, hxA.trans eX⟩
  ·obtain ⟨rfl, hcO, hDC⟩ := hK; replace hDC := Lib.hid hDC; have hcob : 0 ≤ co ∧ co ≤ 100 := (by rw [eO]; omega); replace eO := Lib.hid eO
   rw [colsV_st rfl] at eCc
   have hmc := Lib.hid (fun W => l18Cols_c nm 2 p k q co (R : Int) ps pl ss.length cs ls.length cl W hcob (by decide))
   rw [colsV_st rfl, eCc] at hmc
   have hT3 : Hid (∀ W, SAt fD 6 W pd ds → Calls Tryz.prog 56 #[.slice pd ds.length cd, vPrint xp xt xq xb xd xl, .int .i64 R, .int .i64 Cc] W fun e w' => e = .returned (.tuple #[.slice none 0 0, .int .i64 (tmC xp xt xq xb xd xl R Cc ds)]) ∧ Ext W w') := Lib.hid fun W h => (htm.out W h).mono fun e w' ⟨h5, hx⟩ => ⟨h5.elim (fun h6 => absurd h6.1 h2.out) (fun h6 => h6.2), hx⟩
   replace htm := hT3
   clear hT3
   generalize tmC xp xt xq xb xd xl R Cc ds = cc at *
   replace h0 := Lib.hid (show IsPrint xp xt xq xb xd xl from h0)
   have hif := Lib.hid (fun W (h1 : IntsAt W ps ss) (h2 : IntsAt W pl ls) => sIsFamily_c nm 2 p k q co ps pl cs cl ss ls W h1 h2 hn hl1 hl2)
   replace hF := Lib.hid hF
   have hxA : Ext w ((w.alloc (.cells #[.string nm, .int .i64 2, .int .i64 p, .int .i64 k, .int .i64 q, .slice ps ss.length cs, .int .i64 co, .slice pl ls.length cl] 55)).alloc (.cells #[.int .i64 xp, .int .i64 xt, .int .i64 xq, .int .i64 xb, .int .i64 xd, .int .i64 xl] 57)) := ((Ext.refl w).alloc _).alloc _
   have PF := (Blk.new w #[.string nm, .int .i64 2, .int .i64 p, .int .i64 k, .int .i64 q, .slice ps ss.length cs, .int .i64 co, .slice pl ls.length cl] 55).alloc (.cells #[.int .i64 xp, .int .i64 xt, .int .i64 xq, .int .i64 xb, .int .i64 xd, .int .i64 xl] 57)
   have PP := Blk.new (w.alloc (.cells #[.string nm, .int .i64 2, .int .i64 p, .int .i64 k, .int .i64 q, .slice ps ss.length cs, .int .i64 co, .slice pl ls.length cl] 55)) #[.int .i64 xp, .int .i64 xt, .int .i64 xq, .int .i64 xb, .int .i64 xd, .int .i64 xl] 57
   simp only [World.size_alloc] at PP
   go_enter Tryz.func20, Tryz.ntmps20
   go_upto_region 1 with (fail)
   obtain ⟨gP, hgP⟩ : ∃ g, w.heap.size + 1 = g := ⟨_, rfl⟩
   rw [hgP] at PP ⊢
   clear hgP
   obtain ⟨gF, hgF⟩ : ∃ g, w.heap.size = g := ⟨_, rfl⟩
   rw [hgF] at PF ⊢
   clear hgF
   generalize ((w.alloc (.cells #[.string nm, .int .i64 2, .int .i64 p, .int .i64 k, .int .i64 q, .slice ps ss.length cs, .int .i64 co, .slice pl ls.length cl] 55)).alloc (.cells #[.int .i64 xp, .int .i64 xt, .int .i64 xq, .int .i64 xb, .int .i64 xd, .int .i64 xl] 57)) = w0 at *
   obtain ⟨a0, a1, a2, a3, a4, a5, a6, a7⟩ := PF.c8; have aL := PF.lt; obtain ⟨b0, b1, b2, b3, b4, b5⟩ := PP.c6; have bL := PP.lt
   go_upto_region 6 with (first
    | (go_at_call 53; go_loud ((with_reducible refine (hif.out _ (HS.out.ext hxA) (HV.out.ext hxA)).mono ?_); rintro e w7 ⟨⟨hQ, rfl⟩ | ⟨hQ, rfl⟩, hx7⟩ <;> (first | exact absurd hQ hF.out | exact absurd hF.out hQ | skip); replace PF := PF.ext hx7; replace PP := PP.ext hx7; replace hxA := hxA.trans hx7; clear a0 a1 a2 a3 a4 a5 a6 a7 aL b0 b1 b2 b3 b4 b5 bL; obtain ⟨a0, a1, a2, a3, a4, a5, a6, a7⟩ := PF.c8; have aL := PF.lt; obtain ⟨b0, b1, b2, b3, b4, b5⟩ := PP.c6; have bL := PP.lt))
    | (go_at_call 54; go_loud ((with_reducible refine (sIsPrint_c xp xt xq xb xd xl _).mono ?_); rintro e w1 ⟨⟨hP, rfl⟩ | ⟨hP, rfl⟩, hx1⟩ <;> (first | exact absurd hP h0.out | exact absurd h0.out hP | skip); replace PF := PF.ext hx1; replace PP := PP.ext hx1; replace hxA := hxA.trans hx1; clear a0 a1 a2 a3 a4 a5 a6 a7 aL b0 b1 b2 b3 b4 b5 bL; obtain ⟨a0, a1, a2, a3, a4, a5, a6, a7⟩ := PF.c8; have aL := PF.lt; obtain ⟨b0, b1, b2, b3, b4, b5⟩ := PP.c6; have bL := PP.lt))
    | (go_at_call 55; go_loud ((with_reducible refine (hlo.out _ (HS.out.ext hxA) (HV.out.ext hxA)).mono ?_); rintro e w2 ⟨rfl, hx2⟩; replace PF := PF.ext hx2; replace PP := PP.ext hx2; replace hxA := hxA.trans hx2; clear a0 a1 a2 a3 a4 a5 a6 a7 aL b0 b1 b2 b3 b4 b5 bL; obtain ⟨a0, a1, a2, a3, a4, a5, a6, a7⟩ := PF.c8; have aL := PF.lt; obtain ⟨b0, b1, b2, b3, b4, b5⟩ := PP.c6; have bL := PP.lt)))
   have hx3 : Ext w2 (w2.alloc (.cells #[.int .i64 p, .int .i64 k, .int .i64 q, .int .i64 D, .int .i64 C, .int .i64 N] 95)) := (Ext.refl _).alloc _
   have PL := Blk.new w2 #[.int .i64 p, .int .i64 k, .int .i64 q, .int .i64 D, .int .i64 C, .int .i64 N] 95
   replace PF := PF.ext hx3; replace PP := PP.ext hx3; replace hxA := hxA.trans hx3; clear a0 a1 a2 a3 a4 a5 a6 a7 aL b0 b1 b2 b3 b4 b5 bL; obtain ⟨a0, a1, a2, a3, a4, a5, a6, a7⟩ := PF.c8; have aL := PF.lt; obtain ⟨b0, b1, b2, b3, b4, b5⟩ := PP.c6; have bL := PP.lt
   generalize w2.alloc (.cells #[.int .i64 p, .int .i64 k, .int .i64 q, .int .i64 D, .int .i64 C, .int .i64 N] 95) = w3 at *
   generalize w2.heap.size = gL at *
   refine wp_region_canon (fun w' => Ext w3 w') [(0, true), (1, true), (2, true), (3, true), (4, true), (5, false), (6, false), (7, true), (8, true), (9, true), (10, true), (11, true)] (by kernel_rfl) (by kernel_rfl) (by decide) (by kernel_rfl) ?_ ?_
   ·exact eX
   refine canon_intro fun ops eo => ?_
   replace eo := canon_eo eo
   iterate 5 all_goals (refine cS eo rfl rfl evE ?_; simp only [ptN])
   all_goals first | (refine canon_ef (eo.out 5 rfl) rfl (fun K hK => ?_); go_simp; ((go_at_call 57; (with_reducible refine (hmc.out _).mono ?_); rintro e w5 ⟨rfl, hb5⟩)); all_goals (refine hK _ _ ⟨(by first | assumption | exact eX), ?_⟩; clear hK K; go_simp))
   all_goals first | (refine canon_ef (eo.out 6 rfl) rfl (fun K hK => ?_); go_simp; ((go_at_call 56; (with_reducible refine (htm.out _ (HX.out.ext (hxA.trans eX))).mono ?_); rintro e w9 ⟨rfl, hb9⟩)); all_goals (refine hK _ _ ⟨(by first | assumption | exact eX), ?_⟩; clear hK K; go_simp))
   iterate 5 all_goals (refine cS eo rfl rfl evE ?_; simp only [ptN])
   all_goals (clear eo; refine canon_done (NoPanic.normal ?_))
   have hcb : (cc != 0) = true := by simpa using h2.out
   go_wp2
   go_ret2
   exact ⟨rfl, hxA.trans eX⟩
 replace h2 := Classical.not_not.1 h2
 obtain ⟨eC, eT, eFf⟩ := bd_4 h0 h1 h2
 rw [eC]
 clear eC
 rw [hT] at h2
 clear hT eR3
 replace h1 := Lib.hid h1; replace h2 := Lib.hid h2; replace eR2 := Lib.hid eR2; replace eC2 := Lib.hid eC2
 rcases hK with hK | hK
 ·obtain ⟨rfl, rfl, hfl, hcO, hRb, hR4, hDC⟩ := hK; replace hDC := Lib.hid hDC; have hcO2 : cO ≤ 100 := (by rw [hcO]; decide); have hcob : 0 ≤ co ∧ co ≤ 100 := (by rw [eO, hcO]; decide); replace hcO := Lib.hid hcO; replace eO := Lib.hid eO
  rw [colsV_mx (by decide)] at eCc
  obtain rfl : R = Cc := Int.ofNat_inj.1 eCc
  have hmc := Lib.hid (fun W => l18Cols_c nm 1 2 k q co (R : Int) ps pl ss.length cs ls.length cl W hcob (by decide))
  rw [colsV_mx (K := 1) (co := co) (n := (R : Int)) (by decide)] at hmc
  have hBP : bdP ⟨nm, 1, 2, k, q, co, ss, ls⟩ R l ⟨xp, xt, xq, xb, xd, xl⟩ ds ↔ okM (tmTo xp xt xq ds R (R * R)) R ∧ sdOK D C N (teE (tmTo xp xt xq ds R (R * R)) (dpL R) (fW (fldSize 2 k)) ((dpL R).length / fW (fldSize 2 k))) [] := by
   unfold bdP bdSd bdL bdW
   simp only
   rw [eD.out, eC1.out, eN.out, eR2.out, eC2.out]
   simp only [Int.toNat_natCast]
   constructor
   ·rintro (⟨h5, -⟩ | ⟨-, h5, h6⟩)
    ·exact absurd h5 (by decide)
    ·exact ⟨h5, h6⟩
   ·rintro ⟨h5, h6⟩
    exact .inr ⟨by decide, h5, h6⟩
  have hT4 : Hid (∀ W, SAt fD 6 W pd ds → Calls Tryz.prog 56 #[.slice pd ds.length cd, vPrint xp xt xq xb xd xl, .int .i64 R, .int .i64 R] W fun e w' => (∃ v, e = .returned (.tuple #[v, .int .i64 0]) ∧ RowP W.heap.size w' v (tmTo xp xt xq ds R (R * R))) ∧ Ext W w') := Lib.hid fun W h => (htm.out W h).mono fun e w' ⟨h5, hx⟩ => ⟨h5.elim (fun h6 => h6.2) (fun h6 => absurd h2.out h6.1), hx⟩
  replace htm := hT4
  clear hT4
  have hLb : ∀ z ∈ tmTo xp xt xq ds R (R * R), (0 ≤ z.1 ∧ z.1 ≤ 1000) ∧ (0 ≤ z.2 ∧ z.2 ≤ 1000) := fun z hz => by have := tm_bd hz; omega
  have hLl : (tmTo xp xt xq ds R (R * R)).length ≤ 40000 := by have := tm_len xp xt xq ds R (R * R); have := Nat.mul_le_mul hR41 hC400; omega
  replace h0 := Lib.hid (show IsPrint xp xt xq xb xd xl from h0)
  have hif := Lib.hid (fun W (h1 : IntsAt W ps ss) (h2 : IntsAt W pl ls) => sIsFamily_c nm 1 2 k q co ps pl cs cl ss ls W h1 h2 hn hl1 hl2)
  replace hF := Lib.hid hF
  obtain ⟨L, hL⟩ : ∃ L, tmTo xp xt xq ds R (R * R) = L := ⟨_, rfl⟩
  rw [hL] at htm hLb hLl hBP
  clear hL
  have hbd := Lib.hid (fun W pt ct (h : PlAt W pt L) => l28MatrixBound_c nm 1 k q co R D C N ps pl ss.length cs ls.length cl pt ct L W hRb hR4 hfl hlay hDC.out h hLl)
  have e1 : bdP ⟨nm, 1, 2, k, q, co, ss, ls⟩ R l ⟨xp, xt, xq, xb, xd, xl⟩ ds → bdB ⟨nm, 1, 2, k, q, co, ss, ls⟩ R l ⟨xp, xt, xq, xb, xd, xl⟩ ds = true := eT
  have e2 := eFf
  have hBP2 := hBP
  generalize bdP ⟨nm, 1, 2, k, q, co, ss, ls⟩ R l ⟨xp, xt, xq, xb, xd, xl⟩ ds = BP at *
  replace hBP2 := Lib.hid hBP2
  clear hBP eT eFf
  have hxA : Ext w ((w.alloc (.cells #[.string nm, .int .i64 1, .int .i64 2, .int .i64 k, .int .i64 q, .slice ps ss.length cs, .int .i64 co, .slice pl ls.length cl] 55)).alloc (.cells #[.int .i64 xp, .int .i64 xt, .int .i64 xq, .int .i64 xb, .int .i64 xd, .int .i64 xl] 57)) := ((Ext.refl w).alloc _).alloc _
  have PF := (Blk.new w #[.string nm, .int .i64 1, .int .i64 2, .int .i64 k, .int .i64 q, .slice ps ss.length cs, .int .i64 co, .slice pl ls.length cl] 55).alloc (.cells #[.int .i64 xp, .int .i64 xt, .int .i64 xq, .int .i64 xb, .int .i64 xd, .int .i64 xl] 57)
  have PP := Blk.new (w.alloc (.cells #[.string nm, .int .i64 1, .int .i64 2, .int .i64 k, .int .i64 q, .slice ps ss.length cs, .int .i64 co, .slice pl ls.length cl] 55)) #[.int .i64 xp, .int .i64 xt, .int .i64 xq, .int .i64 xb, .int .i64 xd, .int .i64 xl] 57
  simp only [World.size_alloc] at PP
  go_enter Tryz.func20, Tryz.ntmps20
  go_upto_region 1 with (fail)
  obtain ⟨gP, hgP⟩ : ∃ g, w.heap.size + 1 = g := ⟨_, rfl⟩
  rw [hgP] at PP ⊢
  clear hgP
  obtain ⟨gF, hgF⟩ : ∃ g, w.heap.size = g := ⟨_, rfl⟩
  rw [hgF] at PF ⊢
  clear hgF
  generalize ((w.alloc (.cells #[.string nm, .int .i64 1, .int .i64 2, .int .i64 k, .int .i64 q, .slice ps ss.length cs, .int .i64 co, .slice pl ls.length cl] 55)).alloc (.cells #[.int .i64 xp, .int .i64 xt, .int .i64 xq, .int .i64 xb, .int .i64 xd, .int .i64 xl] 57)) = w0 at *
  obtain ⟨a0, a1, a2, a3, a4, a5, a6, a7⟩ := PF.c8; have aL := PF.lt; obtain ⟨b0, b1, b2, b3, b4, b5⟩ := PP.c6; have bL := PP.lt
  go_upto_region 6 with (first
   | (go_at_call 53; go_loud ((with_reducible refine (hif.out _ (HS.out.ext hxA) (HV.out.ext hxA)).mono ?_); rintro e w7 ⟨⟨hQ, rfl⟩ | ⟨hQ, rfl⟩, hx7⟩ <;> (first | exact absurd hQ hF.out | exact absurd hF.out hQ | skip); replace PF := PF.ext hx7; replace PP := PP.ext hx7; replace hxA := hxA.trans hx7; clear a0 a1 a2 a3 a4 a5 a6 a7 aL b0 b1 b2 b3 b4 b5 bL; obtain ⟨a0, a1, a2, a3, a4, a5, a6, a7⟩ := PF.c8; have aL := PF.lt; obtain ⟨b0, b1, b2, b3, b4, b5⟩ := PP.c6; have bL := PP.lt))
   | (go_at_call 54; go_loud ((with_reducible refine (sIsPrint_c xp xt xq xb xd xl _).mono ?_); rintro e w1 ⟨⟨hP, rfl⟩ | ⟨hP, rfl⟩, hx1⟩ <;> (first | exact absurd hP h0.out | exact absurd h0.out hP | skip); replace PF := PF.ext hx1; replace PP := PP.ext hx1; replace hxA := hxA.trans hx1; clear a0 a1 a2 a3 a4 a5 a6 a7 aL b0 b1 b2 b3 b4 b5 bL; obtain ⟨a0, a1, a2, a3, a4, a5, a6, a7⟩ := PF.c8; have aL := PF.lt; obtain ⟨b0, b1, b2, b3, b4, b5⟩ := PP.c6; have bL := PP.lt))
   | (go_at_call 55; go_loud ((with_reducible refine (hlo.out _ (HS.out.ext hxA) (HV.out.ext hxA)).mono ?_); rintro e w2 ⟨rfl, hx2⟩; replace PF := PF.ext hx2; replace PP := PP.ext hx2; replace hxA := hxA.trans hx2; clear a0 a1 a2 a3 a4 a5 a6 a7 aL b0 b1 b2 b3 b4 b5 bL; obtain ⟨a0, a1, a2, a3, a4, a5, a6, a7⟩ := PF.c8; have aL := PF.lt; obtain ⟨b0, b1, b2, b3, b4, b5⟩ := PP.c6; have bL := PP.lt)))
  have hx3 : Ext w2 (w2.alloc (.cells #[.int .i64 2, .int .i64 k, .int .i64 q, .int .i64 D, .int .i64 C, .int .i64 N] 95)) := (Ext.refl _).alloc _
  have PL := Blk.new w2 #[.int .i64 2, .int .i64 k, .int .i64 q, .int .i64 D, .int .i64 C, .int .i64 N] 95
  replace PF := PF.ext hx3; replace PP := PP.ext hx3; replace hxA := hxA.trans hx3; clear a0 a1 a2 a3 a4 a5 a6 a7 aL b0 b1 b2 b3 b4 b5 bL; obtain ⟨a0, a1, a2, a3, a4, a5, a6, a7⟩ := PF.c8; have aL := PF.lt; obtain ⟨b0, b1, b2, b3, b4, b5⟩ := PP.c6; have bL := PP.lt
  generalize w2.alloc (.cells #[.int .i64 2, .int .i64 k, .int .i64 q, .int .i64 D, .int .i64 C, .int .i64 N] 95) = w3 at *
  generalize w2.heap.size = gL at *
  refine wp_region_canon (fun w' => Ext w3 w') [(0, true), (1, true), (2, true), (3, true), (4, true), (5, false), (6, false), (7, true), (8, true), (9, true), (10, true), (11, true)] (by kernel_rfl) (by kernel_rfl) (by decide) (by kernel_rfl) ?_ ?_
  ·exact eX
  refine canon_intro fun ops eo => ?_
  replace eo := canon_eo eo
  iterate 5 all_goals (refine cS eo rfl rfl evE ?_; simp only [ptN])
  all_goals first | (refine canon_ef (eo.out 5 rfl) rfl (fun K hK => ?_); go_simp; ((go_at_call 57; (with_reducible refine (hmc.out _).mono ?_); rintro e w5 ⟨rfl, hb5⟩)); all_goals (refine hK _ _ ⟨(by first | assumption | exact eX), ?_⟩; clear hK K; go_simp))
  all_goals first | (refine canon_ef (eo.out 6 rfl) rfl (fun K hK => ?_); go_simp; ((go_at_call 56; (with_reducible refine (htm.out _ (HX.out.ext (hxA.trans eX))).mono ?_); rintro e w9 ⟨⟨v9, rfl, hr9⟩, hb9⟩)); all_goals (refine hK _ _ ⟨(by first | assumption | exact eX), ?_⟩; clear hK K; go_simp))
  iterate 5 all_goals (refine cS eo rfl rfl evE ?_; simp only [ptN])
  all_goals (clear eo; refine canon_done (NoPanic.normal ?_))
  obtain ⟨pt, ct, rfl, hpl, -⟩ := hr9.nfree plF_len
  have hxB : Ext w3 w9 := eX
  replace PL := PL.ext hxB
  replace PF := PF.ext hxB; replace PP := PP.ext hxB; replace hxA := hxA.trans hxB; clear a0 a1 a2 a3 a4 a5 a6 a7 aL b0 b1 b2 b3 b4 b5 bL; obtain ⟨a0, a1, a2, a3, a4, a5, a6, a7⟩ := PF.c8; have aL := PF.lt; obtain ⟨b0, b1, b2, b3, b4, b5⟩ := PP.c6; have bL := PP.lt
  obtain ⟨c0, c1, c2, c3, c4, c5⟩ := PL.c6; have cL := PL.lt
  go_wp2_with (go_at_call 59; (with_reducible refine (hbd.out _ _ _ hpl).mono ?_); rintro e w13 ⟨⟨hP, rfl⟩ | ⟨hP, rfl⟩, hx13⟩)
  ·go_ret2
   exact ⟨by rw [e1 (hBP2.out.2 hP)]; rfl, hxA.trans hx13⟩
  ·go_ret2
   exact ⟨by rw [e2 (fun h => hP (hBP2.out.1 h))]; rfl, hxA.trans hx13⟩
 ·obtain ⟨rfl, hcO, hDC⟩ := hK; replace hDC := Lib.hid hDC; have hcob : 0 ≤ co ∧ co ≤ 100 := (by rw [eO]; omega); replace eO := Lib.hid eO
  rw [colsV_st rfl] at eCc
  have hmc := Lib.hid (fun W => l18Cols_c nm 2 p k q co (R : Int) ps pl ss.length cs ls.length cl W hcob (by decide))
  rw [colsV_st rfl, eCc] at hmc
  have hBP : bdP ⟨nm, 2, p, k, q, co, ss, ls⟩ R l ⟨xp, xt, xq, xb, xd, xl⟩ ds ↔ 2 * (stB (tmTo xp xt xq ds Cc (R * Cc)) cO R : Int) < ((R / 3 : Nat) : Int) ∧ sdOK D C N (stE (tmTo xp xt xq ds Cc (R * Cc)) cO (R * cO)) [] := by
   unfold bdP bdSd bdL
   simp only
   rw [eD.out, eC1.out, eN.out, eR2.out, eC2.out, eO.out]
   simp only [Int.toNat_natCast]
   constructor
   ·rintro (⟨-, h5, h6⟩ | ⟨h5, -⟩)
    ·exact ⟨h5, h6⟩
    ·exact absurd rfl h5
   ·rintro ⟨h5, h6⟩
    exact .inl ⟨by simp, h5, h6⟩
  have hT4 : Hid (∀ W, SAt fD 6 W pd ds → Calls Tryz.prog 56 #[.slice pd ds.length cd, vPrint xp xt xq xb xd xl, .int .i64 R, .int .i64 Cc] W fun e w' => (∃ v, e = .returned (.tuple #[v, .int .i64 0]) ∧ RowP W.heap.size w' v (tmTo xp xt xq ds Cc (R * Cc))) ∧ Ext W w') := Lib.hid fun W h => (htm.out W h).mono fun e w' ⟨h5, hx⟩ => ⟨h5.elim (fun h6 => h6.2) (fun h6 => absurd h2.out h6.1), hx⟩
  replace htm := hT4
  clear hT4
  have hLb : ∀ z ∈ tmTo xp xt xq ds Cc (R * Cc), (0 ≤ z.1 ∧ z.1 ≤ 1000) ∧ (0 ≤ z.2 ∧ z.2 ≤ 1000) := fun z hz => by have := tm_bd hz; omega
  have hLl : (tmTo xp xt xq ds Cc (R * Cc)).length ≤ 40000 := by have := tm_len xp xt xq ds Cc (R * Cc); have := Nat.mul_le_mul hR41 hC400; omega
  replace h0 := Lib.hid (show IsPrint xp xt xq xb xd xl from h0)
  have hif := Lib.hid (fun W (h1 : IntsAt W ps ss) (h2 : IntsAt W pl ls) => sIsFamily_c nm 2 p k q co ps pl cs cl ss ls W h1 h2 hn hl1 hl2)
  replace hF := Lib.hid hF
  obtain ⟨L, hL⟩ : ∃ L, tmTo xp xt xq ds Cc (R * Cc) = L := ⟨_, rfl⟩
  rw [hL] at htm hLb hLl hBP
  clear hL
  have hbd := Lib.hid (fun W pt ct (h : PlAt W pt L) => l28StackBound_c nm 2 p k q cO R D C N ps pl ss.length cs ls.length cl pt ct L W (by omega) (by omega) hlay hDC.out h hLl hLb)
  rw [← eO.out] at hbd
  have e1 : bdP ⟨nm, 2, p, k, q, co, ss, ls⟩ R l ⟨xp, xt, xq, xb, xd, xl⟩ ds → bdB ⟨nm, 2, p, k, q, co, ss, ls⟩ R l ⟨xp, xt, xq, xb, xd, xl⟩ ds = true := eT
  have e2 := eFf
  have hBP2 := hBP.trans And.comm
  generalize bdP ⟨nm, 2, p, k, q, co, ss, ls⟩ R l ⟨xp, xt, xq, xb, xd, xl⟩ ds = BP at *
  replace hBP2 := Lib.hid hBP2
  clear hBP eT eFf
  have hxA : Ext w ((w.alloc (.cells #[.string nm, .int .i64 2, .int .i64 p, .int .i64 k, .int .i64 q, .slice ps ss.length cs, .int .i64 co, .slice pl ls.length cl] 55)).alloc (.cells #[.int .i64 xp, .int .i64 xt, .int .i64 xq, .int .i64 xb, .int .i64 xd, .int .i64 xl] 57)) := ((Ext.refl w).alloc _).alloc _
  have PF := (Blk.new w #[.string nm, .int .i64 2, .int .i64 p, .int .i64 k, .int .i64 q, .slice ps ss.length cs, .int .i64 co, .slice pl ls.length cl] 55).alloc (.cells #[.int .i64 xp, .int .i64 xt, .int .i64 xq, .int .i64 xb, .int .i64 xd, .int .i64 xl] 57)
  have PP := Blk.new (w.alloc (.cells #[.string nm, .int .i64 2, .int .i64 p, .int .i64 k, .int .i64 q, .slice ps ss.length cs, .int .i64 co, .slice pl ls.length cl] 55)) #[.int .i64 xp, .int .i64 xt, .int .i64 xq, .int .i64 xb, .int .i64 xd, .int .i64 xl] 57
  simp only [World.size_alloc] at PP
  go_enter Tryz.func20, Tryz.ntmps20
  go_upto_region 1 with (fail)
  obtain ⟨gP, hgP⟩ : ∃ g, w.heap.size + 1 = g := ⟨_, rfl⟩
  rw [hgP] at PP ⊢
  clear hgP
  obtain ⟨gF, hgF⟩ : ∃ g, w.heap.size = g := ⟨_, rfl⟩
  rw [hgF] at PF ⊢
  clear hgF
  generalize ((w.alloc (.cells #[.string nm, .int .i64 2, .int .i64 p, .int .i64 k, .int .i64 q, .slice ps ss.length cs, .int .i64 co, .slice pl ls.length cl] 55)).alloc (.cells #[.int .i64 xp, .int .i64 xt, .int .i64 xq, .int .i64 xb, .int .i64 xd, .int .i64 xl] 57)) = w0 at *
  obtain ⟨a0, a1, a2, a3, a4, a5, a6, a7⟩ := PF.c8; have aL := PF.lt; obtain ⟨b0, b1, b2, b3, b4, b5⟩ := PP.c6; have bL := PP.lt
  go_upto_region 6 with (first
   | (go_at_call 53; go_loud ((with_reducible refine (hif.out _ (HS.out.ext hxA) (HV.out.ext hxA)).mono ?_); rintro e w7 ⟨⟨hQ, rfl⟩ | ⟨hQ, rfl⟩, hx7⟩ <;> (first | exact absurd hQ hF.out | exact absurd hF.out hQ | skip); replace PF := PF.ext hx7; replace PP := PP.ext hx7; replace hxA := hxA.trans hx7; clear a0 a1 a2 a3 a4 a5 a6 a7 aL b0 b1 b2 b3 b4 b5 bL; obtain ⟨a0, a1, a2, a3, a4, a5, a6, a7⟩ := PF.c8; have aL := PF.lt; obtain ⟨b0, b1, b2, b3, b4, b5⟩ := PP.c6; have bL := PP.lt))
   | (go_at_call 54; go_loud ((with_reducible refine (sIsPrint_c xp xt xq xb xd xl _).mono ?_); rintro e w1 ⟨⟨hP, rfl⟩ | ⟨hP, rfl⟩, hx1⟩ <;> (first | exact absurd hP h0.out | exact absurd h0.out hP | skip); replace PF := PF.ext hx1; replace PP := PP.ext hx1; replace hxA := hxA.trans hx1; clear a0 a1 a2 a3 a4 a5 a6 a7 aL b0 b1 b2 b3 b4 b5 bL; obtain ⟨a0, a1, a2, a3, a4, a5, a6, a7⟩ := PF.c8; have aL := PF.lt; obtain ⟨b0, b1, b2, b3, b4, b5⟩ := PP.c6; have bL := PP.lt))
   | (go_at_call 55; go_loud ((with_reducible refine (hlo.out _ (HS.out.ext hxA) (HV.out.ext hxA)).mono ?_); rintro e w2 ⟨rfl, hx2⟩; replace PF := PF.ext hx2; replace PP := PP.ext hx2; replace hxA := hxA.trans hx2; clear a0 a1 a2 a3 a4 a5 a6 a7 aL b0 b1 b2 b3 b4 b5 bL; obtain ⟨a0, a1, a2, a3, a4, a5, a6, a7⟩ := PF.c8; have aL := PF.lt; obtain ⟨b0, b1, b2, b3, b4, b5⟩ := PP.c6; have bL := PP.lt)))
  have hx3 : Ext w2 (w2.alloc (.cells #[.int .i64 p, .int .i64 k, .int .i64 q, .int .i64 D, .int .i64 C, .int .i64 N] 95)) := (Ext.refl _).alloc _
  have PL := Blk.new w2 #[.int .i64 p, .int .i64 k, .int .i64 q, .int .i64 D, .int .i64 C, .int .i64 N] 95
  replace PF := PF.ext hx3; replace PP := PP.ext hx3; replace hxA := hxA.trans hx3; clear a0 a1 a2 a3 a4 a5 a6 a7 aL b0 b1 b2 b3 b4 b5 bL; obtain ⟨a0, a1, a2, a3, a4, a5, a6, a7⟩ := PF.c8; have aL := PF.lt; obtain ⟨b0, b1, b2, b3, b4, b5⟩ := PP.c6; have bL := PP.lt
  generalize w2.alloc (.cells #[.int .i64 p, .int .i64 k, .int .i64 q, .int .i64 D, .int .i64 C, .int .i64 N] 95) = w3 at *
  generalize w2.heap.size = gL at *
  refine wp_region_canon (fun w' => Ext w3 w') [(0, true), (1, true), (2, true), (3, true), (4, true), (5, false), (6, false), (7, true), (8, true), (9, true), (10, true), (11, true)] (by kernel_rfl) (by kernel_rfl) (by decide) (by kernel_rfl) ?_ ?_
  ·exact eX
  refine canon_intro fun ops eo => ?_
  replace eo := canon_eo eo
  iterate 5 all_goals (refine cS eo rfl rfl evE ?_; simp only [ptN])
  all_goals first | (refine canon_ef (eo.out 5 rfl) rfl (fun K hK => ?_); go_simp; ((go_at_call 57; (with_reducible refine (hmc.out _).mono ?_); rintro e w5 ⟨rfl, hb5⟩)); all_goals (refine hK _ _ ⟨(by first | assumption | exact eX), ?_⟩; clear hK K; go_simp))
  all_goals first | (refine canon_ef (eo.out 6 rfl) rfl (fun K hK => ?_); go_simp; ((go_at_call 56; (with_reducible refine (htm.out _ (HX.out.ext (hxA.trans eX))).mono ?_); rintro e w9 ⟨⟨v9, rfl, hr9⟩, hb9⟩)); all_goals (refine hK _ _ ⟨(by first | assumption | exact eX), ?_⟩; clear hK K; go_simp))
  iterate 5 all_goals (refine cS eo rfl rfl evE ?_; simp only [ptN])
  all_goals (clear eo; refine canon_done (NoPanic.normal ?_))
  obtain ⟨pt, ct, rfl, hpl, -⟩ := hr9.nfree plF_len
  have hxB : Ext w3 w9 := eX
  replace PL := PL.ext hxB
  replace PF := PF.ext hxB; replace PP := PP.ext hxB; replace hxA := hxA.trans hxB; clear a0 a1 a2 a3 a4 a5 a6 a7 aL b0 b1 b2 b3 b4 b5 bL; obtain ⟨a0, a1, a2, a3, a4, a5, a6, a7⟩ := PF.c8; have aL := PF.lt; obtain ⟨b0, b1, b2, b3, b4, b5⟩ := PP.c6; have bL := PP.lt
  obtain ⟨c0, c1, c2, c3, c4, c5⟩ := PL.c6; have cL := PL.lt
  go_wp2_with (go_at_call 58; (with_reducible refine (hbd.out _ _ _ hpl).mono ?_); rintro e w13 ⟨⟨hP, rfl⟩ | ⟨hP, rfl⟩, hx13⟩)
  ·go_ret2
   exact ⟨by rw [e1 (hBP2.out.2 hP)]; rfl, hxA.trans hx13⟩
  ·go_ret2
   exact ⟨by rw [e2 (fun h => hP (hBP2.out.1 h))]; rfl, hxA.trans hx13⟩
end Go.Proofs.YtdnkljpnhmcnpaaGreat
