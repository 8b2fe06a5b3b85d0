/- FnExactBoundedDamage: the walk of the law. -/
import Derived.Test.YtdnkljpnhmcnpaaGreatLBoundedDamageK38
import Derived.Test.YtdnkljpnhmcnpaaGreatLBoundedDamageK44
import Derived.Test.YtdnkljpnhmcnpaaGreatLBoundedDamageK45
import Derived.Test.YtdnkljpnhmcnpaaGreatLBoundedDamageK02
import Derived.Test.YtdnkljpnhmcnpaaGreatLBoundedDamageK00
import Derived.Test.YtdnkljpnhmcnpaaGreatLBoundedDamageK42
import Derived.Test.YtdnkljpnhmcnpaaGreatRows
import Derived.Conc.Holds
import Derived.Handed
set_option linter.unusedVariables false
set_option linter.unusedSimpArgs false
namespace Go.Proofs.YtdnkljpnhmcnpaaGreat
open Go.RowKit

set_option maxRecDepth 100000 in
theorem szFamilyT_c (nm : ByteArray) (K p k q co : Int) (ps pl : Option Addr) (ns cs nl cl : Nat) (w : World) (hn : nm.size ≤ maxLen) (h1 : ns ≤ maxLen) (h2 : nl ≤ maxLen) :
  Calls Tryz.prog 18 #[vFam nm K p k q ps ns cs co pl nl cl, .int .i64 1048576] w fun e w' => (∃ r : Int, e = .returned (.int .i64 r) ∧ (r = -1 ∨ ((0 ≤ r ∧ r ≤ 1048576) ∧ nm.size ≤ 1048576 ∧ ns ≤ 1048576 ∧ nl ≤ 1048576))) ∧ Ext w w' := by
 have hx0 : Ext w (w.alloc (.cells #[.string nm, .int .i64 K, .int .i64 p, .int .i64 k, .int .i64 q, .slice ps ns cs, .int .i64 co, .slice pl nl cl] 45)) := (Ext.refl w).alloc _
 unfold maxLen at hn h1 h2
 by_cases a1 : nm.size ≤ 1048576
 ·have d1 : ¬ (1048576 : Int) - nm.size < 0 := by omega
  have s1 := Lib.hid (fun W => sz_c ps cs ns (1048576 - nm.size) W (by omega) (by omega))
  by_cases a2 : (ns : Int) ≤ 1048576 - nm.size
  ·have d2 : ¬ (1048576 : Int) - nm.size - ns < 0 := by omega
   rw [if_pos a2] at s1
   have s2 := Lib.hid (fun W => sz_c pl cl nl (1048576 - nm.size - ns) W (by omega) (by omega))
   by_cases a3 : (nl : Int) ≤ 1048576 - nm.size - ns
   ·have d3 : ¬ (1048576 : Int) - nm.size - ns - nl < 0 := by omega
    rw [if_pos a3] at s2
    go_enter Tryz.func18, Tryz.ntmps18
    go_wp2_with (first
     | (go_at_call 27; (with_reducible refine (s1.out _).mono ?_); rintro e w1 ⟨rfl, rfl⟩)
     | (go_at_call 27; (with_reducible refine (s2.out _).mono ?_); rintro e w1 ⟨rfl, rfl⟩))
    go_ret
    exact ⟨⟨_, rfl, .inr ⟨⟨by omega, by omega⟩, by omega, by omega, by omega⟩⟩, hx0⟩
   ·rw [if_neg a3] at s2
    go_enter Tryz.func18, Tryz.ntmps18
    go_wp2_with (first
     | (go_at_call 27; (with_reducible refine (s1.out _).mono ?_); rintro e w1 ⟨rfl, rfl⟩)
     | (go_at_call 27; (with_reducible refine (s2.out _).mono ?_); rintro e w1 ⟨rfl, rfl⟩))
    go_ret
    exact ⟨⟨_, rfl, .inl rfl⟩, hx0⟩
  ·rw [if_neg a2] at s1
   go_enter Tryz.func18, Tryz.ntmps18
   go_wp2_with (go_at_call 27; (with_reducible refine (s1.out _).mono ?_); rintro e w1 ⟨rfl, rfl⟩)
   go_ret
   exact ⟨⟨_, rfl, .inl rfl⟩, hx0⟩
 ·have d1 : (1048576 : Int) - nm.size < 0 := by omega
  go_enter Tryz.func18, Tryz.ntmps18
  go_wp2
  go_ret
  exact ⟨⟨_, rfl, .inl rfl⟩, hx0⟩
set_option maxRecDepth 100000 in
theorem szDamageG_c (p : Option Addr) (c n : Nat) (r : Int) (W : World) (hn : n ≤ 9223372036854775807) (hr : 0 ≤ r ∧ r ≤ 1048576) :
  Calls Tryz.prog 19 #[.slice p n c, .int .i64 r] W fun e w' => e = .returned (.int .i64 (if r < n then -1 else r - n)) ∧ Ext W w' := by
 have e1 := IntWalk.i64_in (r - n) (by omega)
 by_cases h : r < n
 ·have hi : r - n < 0 := by omega
  rw [if_pos h]
  go_enter Tryz.func19, Tryz.ntmps19
  go_wp2
  go_ret
  exact ⟨rfl, eX⟩
 ·have hi : ¬ r - n < 0 := by omega
  rw [if_neg h]
  go_enter Tryz.func19, Tryz.ntmps19
  go_wp2
  go_ret
  exact ⟨rfl, eX⟩
set_option maxHeartbeats 12800000 in
set_option maxRecDepth 100000 in
theorem lawBoundedDamage (nm : ByteArray) (K p k q co : Int) (ps pl : Option Addr) (cs cl : Nat) (ss ls : List Int) (n l : Int) (xp xt xq xb xd xl : Int) (pd : Option Addr) (cd : Nat) (ds : List Dam) (w : World) (hs : IntsAt w ps ss) (hlv : IntsAt w pl ls) (hx : SAt fD 6 w pd ds) (hn : nm.size ≤ maxLen) (hl1 : ss.length ≤ maxLen) (hl2 : ls.length ≤ maxLen) (hld : ds.length ≤ maxLen) :
  Calls Tryz.prog 5 #[vFam nm K p k q ps ss.length cs co pl ls.length cl, .int .i64 n, .int .i64 l, vPrint xp xt xq xb xd xl, .slice pd ds.length cd] w fun e w' => e = .returned (.bool true) ∧ Ext w w' := by
 have HS := Lib.hid hs; have HV := Lib.hid hlv; have HX := Lib.hid hx; clear hs hlv hx
 have hxA : Ext w ((w.alloc (.cells #[.string nm, .int .i64 K, .int .i64 p, .int .i64 k, .int .i64 q, .slice ps ss.length cs, .int .i64 co, .slice pl ls.length cl] 45)).alloc (.cells #[.int .i64 xp, .int .i64 xt, .int .i64 xq, .int .i64 xb, .int .i64 xd, .int .i64 xl] 47)) := ((Ext.refl w).alloc _).alloc _
 have PF := (Blk.new w #[.string nm, .int .i64 K, .int .i64 p, .int .i64 k, .int .i64 q, .slice ps ss.length cs, .int .i64 co, .slice pl ls.length cl] 45).alloc (.cells #[.int .i64 xp, .int .i64 xt, .int .i64 xq, .int .i64 xb, .int .i64 xd, .int .i64 xl] 47)
 have PP := Blk.new (w.alloc (.cells #[.string nm, .int .i64 K, .int .i64 p, .int .i64 k, .int .i64 q, .slice ps ss.length cs, .int .i64 co, .slice pl ls.length cl] 45)) #[.int .i64 xp, .int .i64 xt, .int .i64 xq, .int .i64 xb, .int .i64 xd, .int .i64 xl] 47
 simp only [World.size_alloc] at PP
 have hsz := Lib.hid (fun W => szFamilyT_c nm K p k q co ps pl ss.length cs ls.length cl W hn hl1 hl2)
 unfold maxLen at hld
 go_enter Tryz.func5, Tryz.ntmps5
 go_upto_region 1 with (fail)
 obtain ⟨gP, hgP⟩ : ∃ g, w.heap.size + 1 = g := ⟨_, rfl⟩
 rw [hgP] at PP ⊢
 clear hgP
 obtain ⟨gF, hgF⟩ : ∃ g, w.heap.size = g := ⟨_, rfl⟩
 rw [hgF] at PF ⊢
 clear hgF
 generalize ((w.alloc (.cells #[.string nm, .int .i64 K, .int .i64 p, .int .i64 k, .int .i64 q, .slice ps ss.length cs, .int .i64 co, .slice pl ls.length cl] 45)).alloc (.cells #[.int .i64 xp, .int .i64 xt, .int .i64 xq, .int .i64 xb, .int .i64 xd, .int .i64 xl] 47)) = w0 at *
 obtain ⟨a0, a1, a2, a3, a4, a5, a6, a7⟩ := PF.c8; have aL := PF.lt; obtain ⟨b0, b1, b2, b3, b4, b5⟩ := PP.c6; have bL := PP.lt
 go_upto_region 3 with (go_at_call 18; go_loud ((with_reducible refine (hsz.out _).mono ?_); rintro e w1 ⟨⟨rr, rfl, hr⟩, hx1⟩; replace hr := Lib.hid hr; replace PF := PF.ext hx1; replace PP := PP.ext hx1; replace hxA := hxA.trans hx1; clear a0 a1 a2 a3 a4 a5 a6 a7 aL b0 b1 b2 b3 b4 b5 bL; obtain ⟨a0, a1, a2, a3, a4, a5, a6, a7⟩ := PF.c8; have aL := PF.lt; obtain ⟨b0, b1, b2, b3, b4, b5⟩ := PP.c6; have bL := PP.lt))
 rcases hr.out with rfl | ⟨hr0, h1, h2, h3⟩
 ·go_wp2
  go_ret
  exact ⟨rfl, hxA⟩
 clear hr
 have hr1 : ¬ rr < 0 := by omega
 have hsd := Lib.hid (fun W => szDamageG_c pd cd ds.length rr W (by omega) hr0)
 by_cases h41 : rr < (ds.length : Int)
 ·rw [if_pos h41] at hsd
  go_wp2_with (go_at_call 19; go_loud ((with_reducible refine (hsd.out _).mono ?_); rintro e w11 ⟨rfl, hx11⟩))
  go_ret
  exact ⟨rfl, hxA.trans hx11⟩
 rw [if_neg h41] at hsd
 have h51 : ds.length ≤ 1048576 := by omega
 have h61 : ¬ rr - (ds.length : Int) < 0 := by omega
 go_upto_region 6 with (go_at_call 19; go_loud ((with_reducible refine (hsd.out _).mono ?_); rintro e w11 ⟨rfl, hx11⟩; replace PF := PF.ext hx11; replace PP := PP.ext hx11; replace hxA := hxA.trans hx11; clear a0 a1 a2 a3 a4 a5 a6 a7 aL b0 b1 b2 b3 b4 b5 bL; obtain ⟨a0, a1, a2, a3, a4, a5, a6, a7⟩ := PF.c8; have aL := PF.lt; obtain ⟨b0, b1, b2, b3, b4, b5⟩ := PP.c6; have bL := PP.lt))
 have htf := Lib.hid (fun W (a : IntsAt W ps ss) (b : IntsAt W pl ls) => toFamilyO_c nm K p k q co ps pl cs cl ss ls W a b h2 h3)
 have htd := Lib.hid (fun W (a : SAt fD 6 W pd ds) => toDamageS_c pd cd ds W a h51)
 have hsp := Lib.hid (fun a b d W (x1 : IntsAt W a ss) (x2 : IntsAt W b ls) (y1 : SAt fD 6 W d ds) => sBounded_c ⟨nm, K, p, k, q, co, ss, ls⟩ a b ss.length ls.length n l ⟨xp, xt, xq, xb, xd, xl⟩ d ds.length ds W x1 x2 h1 h2 h3 y1 h51)
 have him := Lib.hid (fun a b d W (x1 : IntsAt W a ss) (x2 : IntsAt W b ls) (y1 : SAt fD 6 W d ds) => iBounded_c ⟨nm, K, p, k, q, co, ss, ls⟩ a b ss.length ls.length n l ⟨xp, xt, xq, xb, xd, xl⟩ d ds.length ds W x1 x2 h1 h2 h3 y1 h51)
 unfold BdE at hsp him
 simp only at hsp him
 generalize bdB ⟨nm, K, p, k, q, co, ss, ls⟩ n l ⟨xp, xt, xq, xb, xd, xl⟩ ds = BB at *
 generalize bdC ⟨nm, K, p, k, q, co, ss, ls⟩ n l ⟨xp, xt, xq, xb, xd, xl⟩ ds = cc at *
 have hef := Lib.hid (fun a b d e W (x1 : IntsAt W a ss) (x2 : IntsAt W b ls) (x3 : IntsAt W d ss) (x4 : IntsAt W e ls) => eqFamily_c nm K p k q co a b d e ss.length ls.length ss.length ls.length ss ls W x1 x2 x3 x4 h2 h3)
 have hed := Lib.hid (fun a b W (x1 : SAt fD 6 W a ds) (x2 : SAt fD 6 W b ds) => eqDamageS_c a b ds.length ds.length ds W x1 x2 h51)
 go_upto_region 8 with (fail)
 refine wp_region_canon (fun w' => Ext w11 w') [(0, true), (2, true), (3, true), (4, true), (6, true), (1, false), (5, false), (7, false), (8, false), (9, true), (10, true), (11, true), (12, true), (13, true)] (by kernel_rfl) (by kernel_rfl) (by decide) (by kernel_rfl) ?_ ?_
 ·exact eX
 refine canon_intro fun ops eo => ?_
 replace eo := canon_eo eo
 iterate 5 all_goals (refine cS eo rfl rfl evE ?_; simp only [ptN])
 all_goals first | (refine canon_ef (eo.out 1 rfl) rfl (fun K hK => ?_); go_simp; ((go_at_call 21; (with_reducible refine (htf.out _ (HS.out.ext (hxA.trans eX)) (HV.out.ext (hxA.trans eX))).mono ?_); rintro e w21 ⟨⟨p2, l2, rfl, i2, j2, -⟩, hx21⟩; replace i2 := Lib.hid i2.ints; replace j2 := Lib.hid j2.ints)); all_goals (refine hK _ _ ⟨(by first | assumption | exact eX), ?_⟩; clear hK K; go_simp))
 all_goals first | (refine canon_ef (eo.out 5 rfl) rfl (fun K hK => ?_); go_simp; ((go_at_call 22; (with_reducible refine (toPrint_c xp xt xq xb xd xl _).mono ?_); rintro e w22 ⟨rfl, hx22⟩)); all_goals (refine hK _ _ ⟨(by first | assumption | exact eX), ?_⟩; clear hK K; go_simp))
 all_goals first | (refine canon_ef (eo.out 7 rfl) rfl (fun K hK => ?_); go_simp; ((go_at_call 23; (with_reducible refine (htd.out _ (HX.out.ext (hxA.trans eX))).mono ?_); rintro e w23 ⟨⟨q31, rfl, o31⟩, hx23⟩; replace o31 := Lib.hid o31.sat)); all_goals (refine hK _ _ ⟨(by first | assumption | exact eX), ?_⟩; clear hK K; go_simp))
 all_goals first | (refine canon_ef (eo.out 8 rfl) rfl (fun K hK => ?_); go_simp; ((go_at_call 20; (with_reducible refine (hsp.out _ _ _ _ (i2.out.ext eX) (j2.out.ext eX) (o31.out.ext eX)).mono ?_); rintro e w4 ⟨rfl, hx4⟩)); all_goals (refine hK _ _ ⟨(by first | assumption | exact eX), ?_⟩; clear hK K; go_simp))
 iterate 5 all_goals (refine cS eo rfl rfl evE ?_; simp only [ptN])
 all_goals (clear eo; refine canon_done (NoPanic.normal ?_))
 have hxe : Ext w11 w4 := eX
 replace PF := PF.ext hxe; replace PP := PP.ext hxe; replace hxA := hxA.trans hxe; clear a0 a1 a2 a3 a4 a5 a6 a7 aL b0 b1 b2 b3 b4 b5 bL; obtain ⟨a0, a1, a2, a3, a4, a5, a6, a7⟩ := PF.c8; have aL := PF.lt; obtain ⟨b0, b1, b2, b3, b4, b5⟩ := PP.c6; have bL := PP.lt
 clear i2 j2 o31
 go_upto_region 10 with (go_at_call 21; go_loud ((with_reducible refine (htf.out _ (HS.out.ext hxA) (HV.out.ext hxA)).mono ?_); rintro e w5 ⟨⟨p6, l6, rfl, i6, j6, -⟩, hx5⟩; replace PF := PF.ext hx5; replace PP := PP.ext hx5; replace hxA := hxA.trans hx5; clear a0 a1 a2 a3 a4 a5 a6 a7 aL b0 b1 b2 b3 b4 b5 bL; obtain ⟨a0, a1, a2, a3, a4, a5, a6, a7⟩ := PF.c8; have aL := PF.lt; obtain ⟨b0, b1, b2, b3, b4, b5⟩ := PP.c6; have bL := PP.lt))
 have hx6 : Ext w5 (w5.alloc (.cells #[.string nm, .int .i64 K, .int .i64 p, .int .i64 k, .int .i64 q, .slice p6 ss.length ss.length, .int .i64 co, .slice l6 ls.length ls.length] 55)) := (Ext.refl w5).alloc _
 have hgX := Blk.new w5 #[.string nm, .int .i64 K, .int .i64 p, .int .i64 k, .int .i64 q, .slice p6 ss.length ss.length, .int .i64 co, .slice l6 ls.length ls.length] 55
 replace i6 := Lib.hid (i6.ints.ext hx6); replace j6 := Lib.hid (j6.ints.ext hx6)
 replace PF := PF.ext hx6; replace PP := PP.ext hx6; replace hxA := hxA.trans hx6; clear a0 a1 a2 a3 a4 a5 a6 a7 aL b0 b1 b2 b3 b4 b5 bL; obtain ⟨a0, a1, a2, a3, a4, a5, a6, a7⟩ := PF.c8; have aL := PF.lt; obtain ⟨b0, b1, b2, b3, b4, b5⟩ := PP.c6; have bL := PP.lt
 generalize w5.alloc (.cells #[.string nm, .int .i64 K, .int .i64 p, .int .i64 k, .int .i64 q, .slice p6 ss.length ss.length, .int .i64 co, .slice l6 ls.length ls.length] 55) = w6 at *
 generalize w5.heap.size = gX at *
 obtain ⟨x0, x1, x2, x3, x4, x5, x6, x7⟩ := hgX.c8; have xL := hgX.lt
 go_upto_region 11 with (go_at_call 23; go_loud ((with_reducible refine (htd.out _ (HX.out.ext hxA)).mono ?_); rintro e w7 ⟨⟨q7, rfl, o7⟩, hx7⟩; replace o7 := Lib.hid o7.sat; replace PF := PF.ext hx7; replace PP := PP.ext hx7; replace hxA := hxA.trans hx7; clear a0 a1 a2 a3 a4 a5 a6 a7 aL b0 b1 b2 b3 b4 b5 bL; obtain ⟨a0, a1, a2, a3, a4, a5, a6, a7⟩ := PF.c8; have aL := PF.lt; obtain ⟨b0, b1, b2, b3, b4, b5⟩ := PP.c6; have bL := PP.lt; replace hgX := hgX.ext hx7; replace i6 := Lib.hid (i6.out.ext hx7); replace j6 := Lib.hid (j6.out.ext hx7); clear x0 x1 x2 x3 x4 x5 x6 x7 xL; obtain ⟨x0, x1, x2, x3, x4, x5, x6, x7⟩ := hgX.c8; have xL := hgX.lt))
 refine wp_region_canon (fun w' => Ext w7 w') [(0, true), (1, true), (2, true), (3, true), (5, true), (4, false), (6, false), (7, true), (8, true), (9, true), (10, true), (11, true)] (by kernel_rfl) (by kernel_rfl) (by decide) (by kernel_rfl) ?_ ?_
 ·exact eX
 refine canon_intro fun ops eo => ?_
 replace eo := canon_eo eo
 iterate 5 all_goals (refine cS eo rfl rfl evE ?_; simp only [ptN])
 all_goals first | (refine canon_ef (eo.out 4 rfl) rfl (fun K hK => ?_); go_simp; ((go_at_call 22; (with_reducible refine (toPrint_c xp xt xq xb xd xl _).mono ?_); rintro e w8 ⟨rfl, hx8⟩)); all_goals (refine hK _ _ ⟨(by first | assumption | exact eX), ?_⟩; clear hK K; go_simp))
 all_goals first | (refine canon_ef (eo.out 6 rfl) rfl (fun K hK => ?_); go_simp; ((go_at_call 24; (with_reducible refine (him.out _ _ _ _ (i6.out.ext eX) (j6.out.ext eX) (o7.out.ext eX)).mono ?_); rintro e w9 ⟨rfl, hx9⟩)); all_goals (refine hK _ _ ⟨(by first | assumption | exact eX), ?_⟩; clear hK K; go_simp))
 iterate 5 all_goals (refine cS eo rfl rfl evE ?_; simp only [ptN])
 all_goals (clear eo; refine canon_done (NoPanic.normal ?_))
 have hxf : Ext w7 w9 := eX
 replace PF := PF.ext hxf; replace PP := PP.ext hxf; replace hxA := hxA.trans hxf; clear a0 a1 a2 a3 a4 a5 a6 a7 aL b0 b1 b2 b3 b4 b5 bL; obtain ⟨a0, a1, a2, a3, a4, a5, a6, a7⟩ := PF.c8; have aL := PF.lt; obtain ⟨b0, b1, b2, b3, b4, b5⟩ := PP.c6; have bL := PP.lt; replace hgX := hgX.ext hxf; replace i6 := Lib.hid (i6.out.ext hxf); replace j6 := Lib.hid (j6.out.ext hxf); clear x0 x1 x2 x3 x4 x5 x6 x7 xL; obtain ⟨x0, x1, x2, x3, x4, x5, x6, x7⟩ := hgX.c8; have xL := hgX.lt; replace o7 := Lib.hid (o7.out.ext hxf)
 go_upto_region 14 with (fail)
 refine wp_region_canon (fun w' => Ext w9 w') [(0, true), (1, true), (2, false), (3, false), (4, true)] (by kernel_rfl) (by kernel_rfl) (by decide) (by kernel_rfl) ?_ ?_
 ·exact eX
 refine canon_intro fun ops eo => ?_
 replace eo := canon_eo eo
 iterate 2 all_goals (refine cS eo rfl rfl evE ?_; simp only [ptN])
 all_goals first | (refine canon_ef (eo.out 2 rfl) rfl (fun K hK => ?_); go_simp; ((go_at_call 21; (with_reducible refine (htf.out _ (HS.out.ext (hxA.trans eX)) (HV.out.ext (hxA.trans eX))).mono ?_); rintro e w12 ⟨⟨p12, l12, rfl, i12, j12, -⟩, hx12⟩; replace i12 := Lib.hid i12.ints; replace j12 := Lib.hid j12.ints)); all_goals (refine hK _ _ ⟨(by first | assumption | exact eX), ?_⟩; clear hK K; go_simp))
 all_goals first | (refine canon_ef (eo.out 3 rfl) rfl (fun K hK => ?_); go_simp; ((go_at_call 25; (with_reducible refine (hef.out _ _ _ _ _ (i6.out.ext eX) (j6.out.ext eX) (i12.out.ext eX) (j12.out.ext eX)).mono ?_); rintro e w13 ⟨rfl, hx13⟩)); all_goals (refine hK _ _ ⟨(by first | assumption | exact eX), ?_⟩; clear hK K; go_simp))
 all_goals (refine cS eo rfl rfl evE ?_; simp only [ptN])
 all_goals (clear eo; refine canon_done (NoPanic.normal ?_))
 have hxg : Ext w9 w13 := eX
 clear i12 j12
 replace PF := PF.ext hxg; replace PP := PP.ext hxg; replace hxA := hxA.trans hxg; clear a0 a1 a2 a3 a4 a5 a6 a7 aL b0 b1 b2 b3 b4 b5 bL; obtain ⟨a0, a1, a2, a3, a4, a5, a6, a7⟩ := PF.c8; have aL := PF.lt; obtain ⟨b0, b1, b2, b3, b4, b5⟩ := PP.c6; have bL := PP.lt; replace o7 := Lib.hid (o7.out.ext hxg)
 go_wp2_with (first
  | (go_at_call 23; go_loud ((with_reducible refine (htd.out _ (HX.out.ext hxA)).mono ?_); rintro e w15 ⟨⟨q15, rfl, o15⟩, hx15⟩; replace o15 := Lib.hid o15.sat))
  | (go_at_call 26; go_loud ((with_reducible refine (hed.out _ _ _ (o7.out.ext hx15) o15.out).mono ?_); rintro e w16 ⟨rfl, hx16⟩)))
 go_ret
 exact ⟨rfl, (hxA.trans hx15).trans hx16⟩
end Go.Proofs.YtdnkljpnhmcnpaaGreat
/- How the laws' families and grids are read from memory. -/
namespace Go.Proofs.YtdnkljpnhmcnpaaGreat
open Go.RowKit

theorem open_FamilyO {w : World} {cs : List Value} (h : rds w [.str, .i .i64, .st [.i .i64, .i .i64, .i .i64], .sl (.i .i64), .i .i64, .sl (.i .i64)] cs) : ∃ (nm : ByteArray) (K p k q : Int) (ps : Option Addr) (a : Nat) (ss : List Int) (co : Int) (pl : Option Addr) (b : Nat) (ls : List Int), cs = [.string nm, .int .i64 K, .int .i64 p, .int .i64 k, .int .i64 q, .slice ps ss.length a, .int .i64 co, .slice pl ls.length b] ∧ nm.size ≤ maxLen ∧ ss.length ≤ maxLen ∧ ls.length ≤ maxLen ∧ IntsAt w ps ss ∧ IntsAt w pl ls := by
 obtain ⟨nm, _, rfl, hn, h⟩ := rds_str h
 obtain ⟨K, _, rfl, _, h⟩ := rds_int h
 obtain ⟨c1, c2, rfl, hf, h4⟩ := rds_st h
 obtain ⟨p, _, rfl, _, hf⟩ := rds_int hf
 obtain ⟨k, _, rfl, _, hf⟩ := rds_int hf
 obtain ⟨q, _, rfl, _, hf⟩ := rds_int hf
 obtain rfl := rds_nil hf
 obtain ⟨v, _, rfl, hv, h5⟩ := rds_sl h4
 obtain ⟨ps, a, ss, rfl, hl, hx, _⟩ := rd_ints hv
 obtain ⟨co, _, rfl, _, h⟩ := rds_int h5
 obtain ⟨v2, _, rfl, hv2, h6⟩ := rds_sl h
 obtain ⟨pl, b, ls, rfl, hl2, hx2, _⟩ := rd_ints hv2
 obtain rfl := rds_nil h6
 exact ⟨nm, K, p, k, q, ps, a, ss, co, pl, b, ls, rfl, hn, hl, hl2, hx, hx2⟩
end Go.Proofs.YtdnkljpnhmcnpaaGreat
/- A list of damages as an argument of a law. -/
namespace Go.Proofs.YtdnkljpnhmcnpaaGreat
open Go.RowKit

theorem rd_listD {α : Type} [Inhabited α] {f : α → List Value} {k : Nat} {e : Sh} {w : World} {v : Value} (G : α → Prop) (he : e.size = k) (hk : 0 < k)
  (hd : ∀ cs, rd w e cs → ∃ x : α, f x = cs ∧ G x) (h : rd w (.sl e) [v]) : ∃ p cap xs, v = .slice p xs.length cap ∧ xs.length ≤ maxLen ∧ SAt f k w p xs ∧ ∀ x ∈ xs, G x := by
 rcases h with h | ⟨a, len, cap, h, hl, hm, hc⟩
 ·simp at h
  exact ⟨none, 0, [], by simpa using h, by simp, SAt.nil _ _, by simp⟩
 ·simp at h
  have hx : ∀ i, ∃ x : α, i < len → G x ∧ ∀ j, j < k → w.cell? (a.add (i * k + j)) = (f x)[j]? ∧ (f x).length = k := by
   intro i
   by_cases hi : i < len
   ·obtain ⟨cs', h1, h2, h3⟩ := hc i hi
    obtain ⟨x, hx, hg⟩ := hd cs' h3
    exact ⟨x, fun _ => ⟨hg, fun j hj => ⟨by rw [hx, ← h2 j (by omega), he], by rw [hx, h1, he]⟩⟩⟩
   ·exact ⟨default, fun h => absurd h hi⟩
  obtain ⟨X, hX⟩ := Classical.axiomOfChoice hx
  refine ⟨some a, cap, (List.range len).map X, by simpa using h, by simp; omega, fun i hi => ?_, fun x hx => ?_⟩
  ·simp at hi
   obtain ⟨z0, zl⟩ := (hX 0 (by omega)).2 0 hk
   have z1 := (cell_lt (z0.trans (List.getElem?_eq_getElem (by omega)))).2
   obtain ⟨hg, hcell⟩ := hX i hi
   obtain ⟨h0, hlen⟩ := hcell 0 hk
   have h1 := (cell_lt (h0.trans (List.getElem?_eq_getElem (by omega))))
   obtain ⟨b, o, sp⟩ := a
   have h2 : sp = none := by simpa [Addr.add] using z1
   subst h2
   refine ⟨b, o, rfl, by rw [addr_add] at h1; exact h1.1, fun j u hj => ?_⟩
   simp only [List.getElem_map, List.getElem_range] at hj
   have hjk : j < k := by rw [← hlen]; exact (List.getElem?_eq_some_iff.1 hj).1
   have := (hcell j hjk).1
   rw [addr_add] at this
   rw [Nat.add_assoc, this, hj]
  ·simp at hx
   obtain ⟨i, hi, rfl⟩ := hx
   exact (hX i hi).1

section
variable {w : World}
theorem rds_oneD {f : Sh} {fs : List Sh} {cs : List Value} (hf : f.size = 1) (hc : ∀ cs, rd w f cs → cs.length = 1) (h : rds w (f :: fs) cs) : ∃ c cs', cs = c :: cs' ∧ rd w f [c] ∧ rds w fs cs' := by
 obtain ⟨h1, h2⟩ := h
 rw [hf] at h1 h2
 match cs with
 | [] => have := hc _ h1; simp at this
 | c :: cs' => exact ⟨c, cs', rfl, by simpa using h1, by simpa using h2⟩
theorem rds_intD {k : IntKind} {fs : List Sh} {cs : List Value} (h : rds w (.i k :: fs) cs) : ∃ n cs', cs = .int k n :: cs' ∧ (Lit.int k n).wf = true ∧ rds w fs cs' := by
 obtain ⟨c, cs', rfl, ⟨n, h1, h2⟩, h3⟩ := rds_oneD (by rfl) (fun cs h => by obtain ⟨n, h, _⟩ := h; rw [h]; rfl) h
 simp at h1
 subst h1
 exact ⟨n, cs', rfl, h2, h3⟩
theorem rds_nilD {cs : List Value} (h : rds w [] cs) : cs = [] := h
end
theorem open_Dams {w : World} {v : Value} (h : rd w (.sl (.st [.i .i64, .i .i64, .i .i64, .i .i64, .i .i64, .i .i64])) [v]) : ∃ p cap xs, v = .slice p xs.length cap ∧ xs.length ≤ maxLen ∧ SAt fD 6 w p xs ∧ ∀ x : Dam, x ∈ xs → True :=
 rd_listD (fun _ : Dam => True) rfl (by omega) (fun cs h => by
  obtain ⟨k, _, rfl, _, h⟩ := rds_intD (show rds w [.i .i64, .i .i64, .i .i64, .i .i64, .i .i64, .i .i64] cs from h)
  obtain ⟨r, _, rfl, _, h⟩ := rds_intD h
  obtain ⟨c, _, rfl, _, h⟩ := rds_intD h
  obtain ⟨t, _, rfl, _, h⟩ := rds_intD h
  obtain ⟨v, _, rfl, _, h⟩ := rds_intD h
  obtain ⟨g, _, rfl, _, h⟩ := rds_intD h
  exact ⟨⟨k, r, c, t, v, g⟩, by rw [rds_nilD h]; rfl, trivial⟩) h
end Go.Proofs.YtdnkljpnhmcnpaaGreat
/- A call that starts no goroutine: what is shown of it alone holds in the form that lets others leave. -/
namespace Go.Proofs.YtdnkljpnhmcnpaaGreat

theorem leaving_of_handed {a : Assume} {C : Checked} {os : Os} {f : FuncId} {r : Reach} {Pre : World → Array Value → Prop} {Post : World → Array Value → Value → World → Prop}
  (h : ReturnsInHanded a C os f r Pre Post) : ReturnsInLeavingWide a C os f r Pre Post := fun enter =>
 ReturnsInOpen.mono (fun last _ _ x => ⟨x.2.1, ⟨fun g hg => ⟨0, by
  have h1 := x.1.1
  unfold Machine.othersDone at h1
  have h2 := List.all_eq_true.1 h1 g hg
  show g.status = .finished
  simpa using h2⟩, x.1.2⟩, x.2.2⟩) (fun _ x => x) (h enter)
end Go.Proofs.YtdnkljpnhmcnpaaGreat
