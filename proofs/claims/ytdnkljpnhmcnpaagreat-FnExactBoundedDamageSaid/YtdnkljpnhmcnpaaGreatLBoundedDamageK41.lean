/- The bounds of damages of a matrix symbol, the reference's side. -/
import Derived.Test.YtdnkljpnhmcnpaaGreatLBoundedDamageK29
import Derived.Test.YtdnkljpnhmcnpaaGreatLBoundedDamageK39
import Derived.Test.YtdnkljpnhmcnpaaGreatLBoundedDamageK36
set_option linter.unusedVariables false
set_option linter.unusedSimpArgs false
namespace Go.Proofs.YtdnkljpnhmcnpaaGreat
open Go.RowKit

set_option maxHeartbeats 3200000 in
set_option maxRecDepth 100000 in
theorem l28MatrixBound_c (nm : ByteArray) (K k q co : Int) (n : Nat) (D C N : Nat) (ps pl : Option Addr) (ns cs nl cl : Nat) (pt : Option Addr) (ct : Nat) (L : List (Int × Int)) (w : World) (hn : 17 ≤ n ∧ n ≤ 41) (h4 : n % 4 = 1) (hf : fldOK 2 k q) (hlay : layOK 2 k q D C N) (hTot : D + C * N = (dpL n).length / fW (fldSize 2 k)) (hx : PlAt w pt L) (hl : L.length ≤ 40000) :
  Calls Tryz.prog 59 #[vFam nm K 2 k q ps ns cs co pl nl cl, .int .i64 n, vLay 2 k q D C N, .slice pt L.length ct] w fun e w' => isB e (okM L n ∧ sdOK D C N (teE L (dpL n) (fW (fldSize 2 k)) ((dpL n).length / fW (fldSize 2 k))) []) ∧ Ext w w' := by
 have HX := Lib.hid hx; clear hx
 have hV := fW_mat hf
 have hfw := Lib.hid (fun W => l11Width_c 2 k q W hf)
 have hte := Lib.hid (fun W (h : PlAt W pt L) => sTouchedEl_c n (fW (fldSize 2 k)) pt ct L W hn h4 hV h hl)
 have hfo := Lib.hid (fun W => sFormats_c n W (by omega))
 have hcn := Lib.hid (fun p c (Q : List (Int × Int)) (hQ : Q.length = 15) W (h : PlAt W p Q) (h2 : PlAt W pt L) => l28Count_c p pt c ct Q L W h (by omega) h2 (by omega))
 have hTb := fun z (hz : z ∈ teE L (dpL n) (fW (fldSize 2 k)) ((dpL n).length / fW (fldSize 2 k))) => sel_bd _ z hz
 have hTl := sel_len (teHit L (dpL n) (fW (fldSize 2 k))) ((dpL n).length / fW (fldSize 2 k))
 have hTr := ris_sel (teHit L (dpL n) (fW (fldSize 2 k))) ((dpL n).length / fW (fldSize 2 k))
 replace hTl : (teE L (dpL n) (fW (fldSize 2 k)) ((dpL n).length / fW (fldSize 2 k))).length ≤ (dpL n).length / fW (fldSize 2 k) := hTl
 replace hTr : risOK 0 ((((dpL n).length / fW (fldSize 2 k) : Nat) : Int) - 1) (teE L (dpL n) (fW (fldSize 2 k)) ((dpL n).length / fW (fldSize 2 k))) := hTr
 have hln := dpL_len (n := n) hn.2
 have hNd : (dpL n).length / fW (fldSize 2 k) ≤ (dpL n).length := Nat.div_le_self _ _
 rw [← hTot] at hTl hTr hNd hTb
 rw [← hTot] at hte ⊢
 generalize teE L (dpL n) (fW (fldSize 2 k)) (D + C * N) = TE at *
 generalize fW (fldSize 2 k) = V at *
 have hsd := Lib.hid (show ∀ W p c, IntsAt W p TE → Calls Tryz.prog 114 #[vLay 2 k q D C N, .slice p TE.length c, .slice none 0 0] W fun e w' => SdR (sdOK D C N TE []) e ∧ Ext W w' from fun W p c (h : IntsAt W p TE) => sStreamDamage_c 2 k q D C N p none c 0 TE [] W h (IntsAt_nil _ _) (by omega) (by simp) hlay hTr (fun i hi => absurd hi (Nat.not_lt_zero i)))
 obtain ⟨⟨hN1, hN2⟩, ⟨hD1, hD2⟩, ⟨hC1, hC2⟩, hTT, -, -⟩ := id hlay
 have hCN : ((C * N : Nat) : Int) = (N : Int) * (C : Int) := by rw [Int.natCast_mul, Int.mul_comm]
 have hTe : (D : Int) + (N : Int) * (C : Int) = ((D + C * N : Nat) : Int) := by omega
 have hto := Lib.hid (fun W => l07Total_c 2 k q D C N W (by omega) (by omega) (by omega))
 rw [hTe] at hto
 obtain ⟨PS, hPS⟩ : ∃ P, sdOK D C N TE [] = P := ⟨_, rfl⟩
 rw [hPS] at hsd ⊢
 clear hPS hTr hlay hf hTT hCN hTe
 have hok := Lib.hid (show okM L n ↔ fmN L aPl 15 ≤ 3 ∧ fmN L (bPl n) 15 ≤ 3 from Iff.rfl)
 have hfl := fun Q => (show fmN L Q 15 ≤ 15 from cnt_le (fun i => Q.getD i (0, 0) ∈ L) 15)
 have hfA := hfl aPl
 have hfB := hfl (bPl n)
 clear hfl
 generalize okM L n = OK at *
 generalize fmN L = FM at *
 have hTt : ∀ i, i < TE.length → TE.getD i 0 < ((D + C * N : Nat) : Int) ∧ 0 ≤ TE.getD i 0 := fun i hi => by
  have := hTb (TE.getD i 0) (by rw [List.getD_eq_getElem?_getD, List.getElem?_eq_getElem hi]; exact List.getElem_mem hi)
  omega
 replace hTt := Lib.hid hTt
 clear hTb
 generalize D + C * N = TT at *
 have hTT2 : TT ≤ 1681 := by omega
 have hbF := (Blk.new w #[.string nm, .int .i64 K, .int .i64 2, .int .i64 k, .int .i64 q, .slice ps ns cs, .int .i64 co, .slice pl nl cl] 55).alloc (.cells #[.int .i64 2, .int .i64 k, .int .i64 q, .int .i64 D, .int .i64 C, .int .i64 N] 95)
 have hbL := Blk.new (w.alloc (.cells #[.string nm, .int .i64 K, .int .i64 2, .int .i64 k, .int .i64 q, .slice ps ns cs, .int .i64 co, .slice pl nl cl] 55)) #[.int .i64 2, .int .i64 k, .int .i64 q, .int .i64 D, .int .i64 C, .int .i64 N] 95
 have hx0 : Ext w ((w.alloc (.cells #[.string nm, .int .i64 K, .int .i64 2, .int .i64 k, .int .i64 q, .slice ps ns cs, .int .i64 co, .slice pl nl cl] 55)).alloc (.cells #[.int .i64 2, .int .i64 k, .int .i64 q, .int .i64 D, .int .i64 C, .int .i64 N] 95)) := ((Ext.refl w).alloc _).alloc _
 simp only [World.size_alloc] at hbL
 go_enter Tryz.func59, Tryz.ntmps59
 go_upto_region 1 with (fail)
 obtain ⟨gL, hgL⟩ : ∃ g, w.heap.size + 1 = g := ⟨_, rfl⟩
 rw [hgL] at hbL ⊢
 clear hgL
 obtain ⟨gF, hgF⟩ : ∃ g, w.heap.size = g := ⟨_, rfl⟩
 rw [hgF] at hbF ⊢
 clear hgF
 generalize (w.alloc (.cells #[.string nm, .int .i64 K, .int .i64 2, .int .i64 k, .int .i64 q, .slice ps ns cs, .int .i64 co, .slice pl nl cl] 55)).alloc (.cells #[.int .i64 2, .int .i64 k, .int .i64 q, .int .i64 D, .int .i64 C, .int .i64 N] 95) = w1 at *
 go_upto_region 2 with (go_at_call 78; go_loud ((with_reducible refine (hfo.out _).mono ?_); rintro e w5 ⟨⟨va, vb, rfl, hra, hrb, hab⟩, hx5⟩))
 obtain ⟨pa, ca, hva, haA, -⟩ := hra.nfree plF_len
 obtain ⟨pb, cb, hvb, haB, -⟩ := hrb.nfree plF_len
 rw [show aPl.length = 15 from rfl] at hva
 rw [show (bPl (n : Int)).length = 15 from rfl] at hvb
 subst hva
 subst hvb
 replace haA := Lib.hid haA; replace haB := Lib.hid haB
 clear hra hrb hab hfo
 have hxA := hx0.trans hx5
 have hcA := Lib.hid (fun W (h : PlAt W pa aPl) (h2 : PlAt W pt L) => hcn.out pa ca aPl rfl W h h2)
 have hcB := Lib.hid (fun W (h : PlAt W pb (bPl n)) (h2 : PlAt W pt L) => hcn.out pb cb (bPl n) rfl W h h2)
 rw [show aPl.length = 15 from rfl] at hcA
 rw [show (bPl (n : Int)).length = 15 from rfl] at hcB
 clear hcn
 generalize FM aPl 15 = fa at *
 generalize FM (bPl n) 15 = fb at *
 have hok1 : (fa ≤ 3 → fb ≤ 3 → OK) ∧ (¬ fa ≤ 3 → ¬ OK) ∧ (¬ fb ≤ 3 → ¬ OK) := ⟨fun a b => hok.out.2 ⟨a, b⟩, fun a b => a (hok.out.1 b).1, fun a b => a (hok.out.1 b).2⟩
 obtain ⟨ok1, ok2, ok3⟩ := hok1
 clear hok
 by_cases hA3 : fa ≤ 3
 rotate_left 1
 ·have h3 := ok2 hA3
  have hai : (3 : Int) < fa := by omega
  replace h3 := Lib.hid h3
  clear ok1 ok2 ok3
  go_wp2_with (go_at_call 116; (with_reducible refine (hcA.out _ haA.out (HX.out.ext hxA)).mono ?_); rintro e w6 ⟨rfl, hx6⟩)
  go_ret
  exact ⟨isB_f (fun h => h3.out h.1), hxA.trans hx6⟩
 have hai : ¬ (3 : Int) < fa := by omega
 by_cases hB3 : fb ≤ 3
 rotate_left 1
 ·have h3 := ok3 hB3
  have hbi : (3 : Int) < fb := by omega
  replace h3 := Lib.hid h3
  clear ok1 ok2 ok3
  go_wp2_with (first
   | (go_at_call 116; (with_reducible refine (hcA.out _ haA.out (HX.out.ext hxA)).mono ?_); rintro e w6 ⟨rfl, hx6⟩)
   | (go_at_call 116; (with_reducible refine (hcB.out _ (haB.out.ext hx6) (HX.out.ext (hxA.trans hx6))).mono ?_); rintro e w7 ⟨rfl, hx7⟩))
  go_ret
  exact ⟨isB_f (fun h => h3.out h.1), (hxA.trans hx6).trans hx7⟩
 have hOK := ok1 hA3 hB3
 have hbi : ¬ (3 : Int) < fb := by omega
 replace hOK := Lib.hid hOK
 clear ok1 ok2 ok3 hA3 hB3
 go_upto_region 4 with (first
  | (go_at_call 116; (with_reducible refine (hcA.out _ haA.out (HX.out.ext hxA)).mono ?_); rintro e w6 ⟨rfl, hx6⟩)
  | (go_at_call 116; (with_reducible refine (hcB.out _ (haB.out.ext hx6) (HX.out.ext (hxA.trans hx6))).mono ?_); rintro e w7 ⟨rfl, hx7⟩))
 have hxB := (hxA.trans hx6).trans hx7
 replace hbF := ((hbF.ext hx5).ext hx6).ext hx7
 replace hbL := ((hbL.ext hx5).ext hx6).ext hx7
 have f2 := hbF.cell (i := 2) (v := .int .i64 2) rfl; have f3 := hbF.cell (i := 3) (v := .int .i64 k) rfl; have f4 := hbF.cell (i := 4) (v := .int .i64 q) rfl; have fL := hbF.lt
 clear hx5 hx6 hx7 hxA haA haB hcA hcB hx0
 go_upto_region 5 with (first
  | (go_at_call 118; (with_reducible refine (hfw.out _).mono ?_); rintro e w8 ⟨rfl, hx8⟩)
  | (go_at_call 117; (with_reducible refine (hte.out _ (HX.out.ext (hxB.trans hx8))).mono ?_); rintro e w9 ⟨⟨v9, rfl, hr9⟩, hx9⟩))
 obtain ⟨p9, c9, rfl, hoo9, -⟩ := hr9.ownC
 have hxC := (hxB.trans hx8).trans hx9
 have hi9 := Lib.hid hoo9.ints
 replace hbL := (hbL.ext hx8).ext hx9
 clear hr9 hoo9 f2 f3 f4 fL hbF hx8 hx9 hxB
 have hrO := RowI.made (B := w9.heap.size) (w := w9) (Nat.le_refl _)
 have hxO : Ext w9 (w9.alloc (.cells #[] 2)) := (Ext.refl w9).alloc _
 go_upto_region 7 with (fail)
 generalize w9.alloc (.cells #[] 2) = w10 at *
 generalize Value.slice (some ⟨w9.heap.size, 0, none⟩) 0 0 = v10 at *
 obtain ⟨B2, hB2E⟩ : ∃ z, w9.heap.size = z := ⟨_, rfl⟩
 rw [hB2E] at hrO
 replace hB2E := Lib.hid hB2E
 go_loopw [13, 14] (fun o i wr => ∃ m : Nat, m ≤ TE.length ∧ i = .int .i64 m ∧ RowI B2 wr o (TE.take m) ∧ Ext w9 wr) (fun _ i _ => TE.length - (intOf i).toNat)
 case atStart => exact ⟨0, Nat.zero_le _, rfl, hrO, hxO⟩
 case round =>
  clear hrO hxO
  obtain ⟨m, hm, rfl, hrow, hext⟩ := hrel
  by_cases hlm : m < TE.length
  ·have hmi : (m : Int) < TE.length := by omega
   obtain ⟨b, o, rfl, hb, z0⟩ := (hi9.out.ext hext) m hlm
   obtain ⟨hlt, -⟩ := hTt.out m hlm
   have htk : TE.take (m + 1) = TE.take m ++ [TE.getD m 0] := by
    rw [List.take_add_one, List.getElem?_eq_getElem hlm, List.getD_eq_getElem?_getD, List.getElem?_eq_getElem hlm]; rfl
   have htl : (TE.take m).length ≤ 1681 := by rw [List.length_take]; omega
   generalize TE.getD m 0 = x at *
   replace htk := Lib.hid htk
   generalize TE.take m = TK at *
   have hbr := hbL.ext hext
   obtain ⟨c0, c1, c2, c3, c4, c5⟩ := hbr.c6; have cL := hbr.lt
   go_upto_region 9 with (fail)
   refine wp_region_canon (fun w' => Ext wr w') [(0, true), (1, true), (2, true), (3, true), (4, true), (5, false), (6, true)] (by kernel_rfl) (by kernel_rfl) (by decide) (by kernel_rfl) ?_ ?_
   ·exact eX
   refine canon_intro fun ops eo => ?_
   replace eo := canon_eo eo
   iterate 5 all_goals (refine cS eo rfl rfl evE ?_; simp only [ptN])
   all_goals first | (refine canon_ef (eo.out 5 rfl) rfl (fun K hK => ?_); go_simp; ((go_at_call 119; (with_reducible refine (hto.out _).mono ?_); rintro e w11 ⟨rfl, hx11⟩)); all_goals (refine hK _ _ ⟨(by first | assumption | exact eX), ?_⟩; clear hK K; go_simp))
   all_goals (refine cS eo rfl rfl evE ?_; simp only [ptN])
   all_goals (clear eo; refine canon_done (NoPanic.normal ?_))
   have hxe : Ext wr w11 := eX
   have hrow2 := hrow.ext hxe
   have hext2 := hext.trans hxe
   have hzB := hext2.below.size
   obtain ⟨hc', -, hk', -⟩ := ecell hxe
   have z1 := (hc' _ (o + m) hb).trans z0
   have hb1 := hk' _ hb
   clear c0 c1 c2 c3 c4 c5 cL hbr z0 hb hc' hk' hrow hext
   go_wp2_with (at_builtin; go_loud (refine append1IG hrow2 (by omega) (by have := hB2E.out; omega) ?_ rfl rfl); intro v12 w12 hr12 hg12)
   go_roundw
   case rel => exact ⟨m + 1, hlm, by go_num, by rw [htk.out]; exact hr12, hg12.toExt hext2 (fun j hj => by rw [hB2E.out]; exact (hrow2.lt j hj).1)⟩
   case measure => simp [intOf]; omega
  ·obtain rfl : m = TE.length := by omega
   rw [List.take_length] at hrow
   obtain ⟨pr, cr, rfl, hor, -⟩ := hrow.ownC
   have hir := Lib.hid hor.ints
   have hbr := hbL.ext hext
   obtain ⟨c0, c1, c2, c3, c4, c5⟩ := hbr.c6; have cL := hbr.lt
   go_wp2_with (go_at_call 114; (with_reducible refine (hsd.out _ _ _ hir.out).mono ?_); rintro e w13 ⟨⟨hP, rfl⟩ | ⟨hP, rfl⟩, hx13⟩)
   ·go_ret
    exact ⟨isB_t ⟨hOK.out, hP⟩, (hxC.trans hext).trans hx13⟩
   ·go_ret
    exact ⟨isB_f (fun h => hP h.2), (hxC.trans hext).trans hx13⟩
end Go.Proofs.YtdnkljpnhmcnpaaGreat
