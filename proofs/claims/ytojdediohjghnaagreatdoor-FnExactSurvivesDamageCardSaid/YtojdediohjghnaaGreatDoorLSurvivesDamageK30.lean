/- The level of a symbol, on the program's side. -/
import Derived.Test.YtojdediohjghnaaGreatDoorLSurvivesDamageK29
set_option linter.unusedVariables false
set_option linter.unusedSimpArgs false
namespace Go.Proofs.YtojdediohjghnaaGreatDoor
open Go.RowKit

theorem fail_c (n c : Int) (w : World) : Calls Tryz.prog 45 #[.int .i64 n, .int .i64 c] w fun e w' => e = .returned (vErr n c) ∧ Ext w w' := by
 go_enter Tryz.func45, Tryz.ntmps45
 go_wp2
 go_ret
 exact ⟨rfl, eX⟩
def LvI (sz : Int) (g : Prop) (L M : Int) (e : Ending) : Prop :=
 (sz = 0 ∧ g ∧ e = .returned (.tuple #[.int .i64 L, .int .i64 M, .nilIface])) ∨ (¬ (sz = 0 ∧ g) ∧ ∃ n : Int, e = .returned (.tuple #[.int .i64 0, .int .i64 0, vErr n (if sz = 0 then 7 else sz)]))
theorem top_pad {xs : List Int} {C m n R : Nat} (hn : 1 ≤ n ∧ n ≤ 4) : topTo (vtR xs C m n R) 4 = topTo (vtR xs C m n R) n := by
 have := topTo_pad (vtR xs C m n R) n (4 - n) (fun j hj => vt_out (by omega))
 rwa [show n + (4 - n) = 4 from by omega] at this
set_option maxHeartbeats 6400000 in
set_option maxRecDepth 100000 in
theorem levelOf_c (nm : ByteArray) (K p k q co r c : Int) (ps pl pg : Option Addr) (cs cl cg : Nat) (ss ls xs : List Int) (w : World) (hs : IntsAt w ps ss) (hlv : IntsAt w pl ls) (hx : IntsAt w pg xs) (hn : nm.size ≤ 1048576) (hl1 : ss.length ≤ 1048576) (hl2 : ls.length ≤ 1048576) (hl3 : xs.length ≤ 1048576) (hcap : xs.length ≤ cg) :
  Calls Tryz.prog 76 #[vFam nm K p k q ps ss.length cs co pl ls.length cl, vGrid r c pg xs.length cg] w fun e w' => LvI (szC nm K p k q ss co ls r c xs) (lvG K p k q co ls r c xs) (lvL K r c xs ls.length) (lvM K r c xs) e ∧ Ext w w' := by
 have hx' := hx; have HS := Lib.hid hs; have HV := Lib.hid hlv; have HX := Lib.hid hx; clear hs hlv hx
 have hxA : Ext w ((w.alloc (.cells #[.string nm, .int .i64 K, .int .i64 p, .int .i64 k, .int .i64 q, .slice ps ss.length cs, .int .i64 co, .slice pl ls.length cl] 35)).alloc (.cells #[.int .i64 r, .int .i64 c, .slice pg xs.length cg] 37)) := ((Ext.refl w).alloc _).alloc _
 have hbA := (Blk.new w #[.string nm, .int .i64 K, .int .i64 p, .int .i64 k, .int .i64 q, .slice ps ss.length cs, .int .i64 co, .slice pl ls.length cl] 35).alloc (.cells #[.int .i64 r, .int .i64 c, .slice pg xs.length cg] 37)
 have hbB := Blk.new1 w (.cells #[.string nm, .int .i64 K, .int .i64 p, .int .i64 k, .int .i64 q, .slice ps ss.length cs, .int .i64 co, .slice pl ls.length cl] 35) #[.int .i64 r, .int .i64 c, .slice pg xs.length cg] 37
 have hif := Lib.hid (fun W (h1 : IntsAt W ps ss) (h2 : IntsAt W pl ls) => iIsFamily_c nm K p k q co ps pl cs cl ss ls W h1 h2 hn hl1 hl2)
 have hig := Lib.hid (fun W (h : IntsAt W pg xs) => iIsGrid_c r c pg cg xs W h hl3)
 by_cases hF : famOK nm K p k q ss co ls
 ·obtain ⟨hK12, hco⟩ := famK hF
  have hss := Lib.hid (fun W (h : IntsAt W ps ss) => isSymbolSize_c nm K p k q co r c ps pl pg cs ls.length cl xs.length cg ss W h hl1 hco hK12)
  by_cases hG : gridOK r c xs
  ·by_cases hsy : r ∈ ss ∧ c = colsV K co r
   ·have hz0 := szC_in hF hG hsy
    obtain ⟨hin, hcc⟩ := hsy
    have hsz := Lib.hid (famS hF hin)
    have hnl : 1 ≤ ls.length ∧ ls.length ≤ 4 := hF.2.2.1
    have hhl := Lib.hid (fun lv W => iHasLevel_c nm K p k q co ps pl ss.length cs ls.length cl lv W hl2)
    have hG2 : ∀ l : Nat, lvL K r c xs ls.length = l → (lvG K p k q co ls r c xs ↔ (0 ≤ (l : Int) ∧ (l : Int) ≤ (ls.length : Int) - 1) ∧ layOK p k q (lyD K p k co r (ls.getD (l : Int).toNat 0)) (lyC K p k co r (ls.getD (l : Int).toNat 0)) (lyN K p k co r)) := fun l h => by unfold lvG; rw [h]
    have hG3 : ¬ (0 ≤ lvL K r c xs ls.length ∧ lvL K r c xs ls.length ≤ (ls.length : Int) - 1) → ¬ lvG K p k q co ls r c xs := fun h h2 => h h2.1
    generalize hze : szC nm K p k q ss co ls r c xs = z at *
    clear hze
    replace hz0 := Lib.hid hz0
    replace hif := hif; replace hig := hig
    have hPF := Lib.hid hF; have hPG := Lib.hid hG
    rcases hK12 with hK | hK
    ·have hK2 : ¬ K = 2 := by omega
     have hPS := Lib.hid (show r ∈ ss ∧ c = colsV K co r from ⟨hin, hcc⟩)
     have hrb := rfV_bd r c xs
     have hrf := Lib.hid (fun W (h : IntsAt W pg xs) => iReadFormat_c r c pg cg xs W h hl3)
     rw [lvM_mx hK2]
     have hKb : (K == 1) = true := by simpa using hK
     replace hF := Lib.hid hF
     by_cases h0 : (rfV r c xs).2 = 0
     ·have hLx := lvL_mx (nl := ls.length) hK2 h0
      rw [h0] at hrf
      generalize hLe : lvL K r c xs ls.length = L at *
      clear hLe
      generalize (rfV r c xs).1 = f at *
      subst hLx
      generalize lvG K p k q co ls r c xs = G at *
      obtain ⟨L, hLL⟩ : ∃ L, f / 8 = L := ⟨_, rfl⟩
      obtain ⟨M, hMM⟩ : ∃ M, f % 8 = M := ⟨_, rfl⟩
      rw [hLL] at hG2 hG3 ⊢
      rw [hMM]
      replace hG2 := Lib.hid hG2; replace hG3 := Lib.hid hG3
      have hLb : -1 ≤ L ∧ L ≤ 8 := by omega
      replace hLL := Lib.hid hLL; replace hMM := Lib.hid hMM
      replace hK := Lib.hid hK
      clear hG hcc hin h0 hK2 hx'
      go_enter Tryz.func76, Tryz.ntmps76
      go_upto_region 1 with (fail)
      obtain ⟨gF, hgF⟩ : ∃ g, w.heap.size = g := ⟨_, rfl⟩
      obtain ⟨gG, hgG⟩ : ∃ g, w.heap.size + 1 = g := ⟨_, rfl⟩
      rw [hgG] at hbB ⊢
      rw [hgF] at hbA ⊢
      clear hgF hgG
      generalize ((w.alloc (.cells #[.string nm, .int .i64 K, .int .i64 p, .int .i64 k, .int .i64 q, .slice ps ss.length cs, .int .i64 co, .slice pl ls.length cl] 35)).alloc (.cells #[.int .i64 r, .int .i64 c, .slice pg xs.length cg] 37)) = w0 at *
      obtain ⟨a0, a1, a2, a3, a4, a5, a6, a7⟩ := hbA.c8; have aL := hbA.lt; obtain ⟨c0, c1, c2⟩ := hbB.c3; have cL := hbB.lt
      go_upto_region 15 with (first
       | (go_at_call 113; go_loud ((with_reducible refine (hif.out _ (HS.out.ext hxA) (HV.out.ext hxA)).mono ?_); rintro e w1 ⟨⟨hP1, rfl⟩ | ⟨hP1, rfl⟩, hx1⟩ <;> (first | exact absurd hPF.out hP1 | skip); clear hP1; replace hbA := hbA.ext hx1; replace hbB := hbB.ext hx1; replace hxA := hxA.trans hx1; clear a0 a1 a2 a3 a4 a5 a6 a7 aL c0 c1 c2 cL; obtain ⟨a0, a1, a2, a3, a4, a5, a6, a7⟩ := hbA.c8; have aL := hbA.lt; obtain ⟨c0, c1, c2⟩ := hbB.c3; have cL := hbB.lt))
       | (go_at_call 114; go_loud ((with_reducible refine (hig.out _ (HX.out.ext hxA)).mono ?_); rintro e w2 ⟨⟨hP2, rfl⟩ | ⟨hP2, rfl⟩, hx2⟩ <;> (first | exact absurd hPG.out hP2 | skip); clear hP2; replace hbA := hbA.ext hx2; replace hbB := hbB.ext hx2; replace hxA := hxA.trans hx2; clear a0 a1 a2 a3 a4 a5 a6 a7 aL c0 c1 c2 cL; obtain ⟨a0, a1, a2, a3, a4, a5, a6, a7⟩ := hbA.c8; have aL := hbA.lt; obtain ⟨c0, c1, c2⟩ := hbB.c3; have cL := hbB.lt))
       | (go_at_call 115; go_loud ((with_reducible refine (hss.out _ (HS.out.ext hxA)).mono ?_); rintro e w3 ⟨⟨hP3, rfl⟩ | ⟨hP3, rfl⟩, hx3⟩ <;> (first | exact absurd hPS.out hP3 | skip); clear hP3; replace hbA := hbA.ext hx3; replace hbB := hbB.ext hx3; replace hxA := hxA.trans hx3; clear a0 a1 a2 a3 a4 a5 a6 a7 aL c0 c1 c2 cL; obtain ⟨a0, a1, a2, a3, a4, a5, a6, a7⟩ := hbA.c8; have aL := hbA.lt; obtain ⟨c0, c1, c2⟩ := hbB.c3; have cL := hbB.lt))
       | (go_at_call 116; go_loud ((with_reducible refine (hrf.out _ (HX.out.ext hxA)).mono ?_); rintro e w4 ⟨rfl, hx4⟩; replace hbA := hbA.ext hx4; replace hbB := hbB.ext hx4; replace hxA := hxA.trans hx4; clear a0 a1 a2 a3 a4 a5 a6 a7 aL c0 c1 c2 cL; obtain ⟨a0, a1, a2, a3, a4, a5, a6, a7⟩ := hbA.c8; have aL := hbA.lt; obtain ⟨c0, c1, c2⟩ := hbB.c3; have cL := hbB.lt)))
      rw [hLL.out, hMM.out]
      by_cases hin2 : 0 ≤ L ∧ L ≤ (ls.length : Int) - 1
      ·obtain ⟨l, rfl⟩ : ∃ l : Nat, L = l := ⟨L.toNat, by omega⟩
       have hll : l < ls.length := by omega
       have hlx := (hF.out.2.2.2.1 l hll).1
       have hly := Lib.hid (fun W (h : IntsAt W pl ls) => iLay_c nm K p k q co ps pl ss.length cs cl l ls r W h hll hl2 hlx (fam_fld hF.out) hsz.out)
       have hbd := ly_bd (K := K) (co := co) (n := r) (x := ls.getD l 0) (fam_fld hF.out) hsz.out
       have hil := Lib.hid (fun W => iIsLayout_c p k q _ _ _ W hbd.1 hbd.2.1 hbd.2.2)
       have hgg := Lib.hid (hG2.out l rfl)
       rw [Int.toNat_natCast] at hgg
       clear hbd hlx hG2
       generalize ls.getD l 0 = x at *
       generalize lyD K p k co r x = D at *
       generalize lyC K p k co r x = C9 at *
       generalize lyN K p k co r = N9 at *
       by_cases hlo : layOK p k q D C9 N9
       ·go_wp2_with (first
         | (go_at_call 118; go_loud ((with_reducible refine (hhl.out _ _).mono ?_); rintro e w5 ⟨⟨hP, rfl⟩ | ⟨hP, rfl⟩, hx5⟩ <;> (first | exact absurd hin2 hP | skip); replace hbA := hbA.ext hx5; replace hbB := hbB.ext hx5; replace hxA := hxA.trans hx5; clear a0 a1 a2 a3 a4 a5 a6 a7 aL c0 c1 c2 cL; obtain ⟨a0, a1, a2, a3, a4, a5, a6, a7⟩ := hbA.c8; have aL := hbA.lt; obtain ⟨c0, c1, c2⟩ := hbB.c3; have cL := hbB.lt))
         | (go_at_call 28; go_loud ((with_reducible refine (hly.out _ (HV.out.ext hxA)).mono ?_); rintro e w6 ⟨rfl, hx6⟩; have hxB := hxA.trans hx6))
         | (go_at_call 47; go_loud ((with_reducible refine (hil.out _).mono ?_); rintro e w7 ⟨⟨hP7, rfl⟩ | ⟨hP7, rfl⟩, hx7⟩ <;> (first | exact absurd hlo hP7 | skip))))
        exact bodyPost_ret (v := .tuple #[.int .i64 l, .int .i64 M, .nilIface]) (by simp [results, Tryz.results76, go_sem]) rfl ⟨.inl ⟨hz0.out, hgg.out.2 ⟨hin2, hlo⟩, rfl⟩, hxB.trans hx7⟩
       ·go_wp2_with (first
         | (go_at_call 118; go_loud ((with_reducible refine (hhl.out _ _).mono ?_); rintro e w5 ⟨⟨hP, rfl⟩ | ⟨hP, rfl⟩, hx5⟩ <;> (first | exact absurd hin2 hP | skip); replace hbA := hbA.ext hx5; replace hbB := hbB.ext hx5; replace hxA := hxA.trans hx5; clear a0 a1 a2 a3 a4 a5 a6 a7 aL c0 c1 c2 cL; obtain ⟨a0, a1, a2, a3, a4, a5, a6, a7⟩ := hbA.c8; have aL := hbA.lt; obtain ⟨c0, c1, c2⟩ := hbB.c3; have cL := hbB.lt))
         | (go_at_call 28; go_loud ((with_reducible refine (hly.out _ (HV.out.ext hxA)).mono ?_); rintro e w6 ⟨rfl, hx6⟩; have hxB := hxA.trans hx6))
         | (go_at_call 47; go_loud ((with_reducible refine (hil.out _).mono ?_); rintro e w7 ⟨⟨hP7, rfl⟩ | ⟨hP7, rfl⟩, hx7⟩ <;> (first | exact absurd hP7 hlo | skip)))
         | (go_at_call 45; (with_reducible refine (fail_c _ _ _).mono ?_); rintro e w9 ⟨rfl, hx9⟩))
        exact bodyPost_ret (v := .tuple #[.int .i64 0, .int .i64 0, vErr 2 7]) (by simp [results, Tryz.results76, go_sem]) rfl ⟨.inr ⟨fun h => hlo (hgg.out.1 h.2).2, 2, by rw [if_pos hz0.out]⟩, (hxB.trans hx7).trans hx9⟩
      ·go_wp2_with (first
        | (go_at_call 118; go_loud ((with_reducible refine (hhl.out _ _).mono ?_); rintro e w5 ⟨⟨hP, rfl⟩ | ⟨hP, rfl⟩, hx5⟩ <;> (first | exact absurd hP hin2 | skip); replace hbA := hbA.ext hx5; replace hbB := hbB.ext hx5; replace hxA := hxA.trans hx5; clear a0 a1 a2 a3 a4 a5 a6 a7 aL c0 c1 c2 cL; obtain ⟨a0, a1, a2, a3, a4, a5, a6, a7⟩ := hbA.c8; have aL := hbA.lt; obtain ⟨c0, c1, c2⟩ := hbB.c3; have cL := hbB.lt))
        | (go_at_call 45; (with_reducible refine (fail_c _ _ _).mono ?_); rintro e w9 ⟨rfl, hx9⟩))
       exact bodyPost_ret (v := .tuple #[.int .i64 0, .int .i64 0, vErr 2 7]) (by simp [results, Tryz.results76, go_sem]) rfl ⟨.inr ⟨fun h => hG3.out hin2 h.2, 2, by rw [if_pos hz0.out]⟩, hxA.trans hx9⟩
     ·have hLx := lvL_no (nl := ls.length) hK2 h0
      rw [hLx] at hG3 ⊢
      generalize lvG K p k q co ls r c xs = G at *
      have hnG := Lib.hid (hG3 (by omega))
      have h0b : ((rfV r c xs).2 != 0) = true := by simpa using h0
      generalize (rfV r c xs).1 = f at *
      generalize (rfV r c xs).2 = cd at *
      replace hK := Lib.hid hK
      clear hG hcc hin h0 hK2 hG2 hG3 hsz hx'
      go_enter Tryz.func76, Tryz.ntmps76
      go_upto_region 1 with (fail)
      obtain ⟨gF, hgF⟩ : ∃ g, w.heap.size = g := ⟨_, rfl⟩
      obtain ⟨gG, hgG⟩ : ∃ g, w.heap.size + 1 = g := ⟨_, rfl⟩
      rw [hgG] at hbB ⊢
      rw [hgF] at hbA ⊢
      clear hgF hgG
      generalize ((w.alloc (.cells #[.string nm, .int .i64 K, .int .i64 p, .int .i64 k, .int .i64 q, .slice ps ss.length cs, .int .i64 co, .slice pl ls.length cl] 35)).alloc (.cells #[.int .i64 r, .int .i64 c, .slice pg xs.length cg] 37)) = w0 at *
      obtain ⟨a0, a1, a2, a3, a4, a5, a6, a7⟩ := hbA.c8; have aL := hbA.lt; obtain ⟨c0, c1, c2⟩ := hbB.c3; have cL := hbB.lt
      go_wp2_with (first
       | (go_at_call 113; go_loud ((with_reducible refine (hif.out _ (HS.out.ext hxA) (HV.out.ext hxA)).mono ?_); rintro e w1 ⟨⟨hP1, rfl⟩ | ⟨hP1, rfl⟩, hx1⟩ <;> (first | exact absurd hPF.out hP1 | skip); clear hP1; replace hbA := hbA.ext hx1; replace hbB := hbB.ext hx1; replace hxA := hxA.trans hx1; clear a0 a1 a2 a3 a4 a5 a6 a7 aL c0 c1 c2 cL; obtain ⟨a0, a1, a2, a3, a4, a5, a6, a7⟩ := hbA.c8; have aL := hbA.lt; obtain ⟨c0, c1, c2⟩ := hbB.c3; have cL := hbB.lt))
       | (go_at_call 114; go_loud ((with_reducible refine (hig.out _ (HX.out.ext hxA)).mono ?_); rintro e w2 ⟨⟨hP2, rfl⟩ | ⟨hP2, rfl⟩, hx2⟩ <;> (first | exact absurd hPG.out hP2 | skip); clear hP2; replace hbA := hbA.ext hx2; replace hbB := hbB.ext hx2; replace hxA := hxA.trans hx2; clear a0 a1 a2 a3 a4 a5 a6 a7 aL c0 c1 c2 cL; obtain ⟨a0, a1, a2, a3, a4, a5, a6, a7⟩ := hbA.c8; have aL := hbA.lt; obtain ⟨c0, c1, c2⟩ := hbB.c3; have cL := hbB.lt))
       | (go_at_call 115; go_loud ((with_reducible refine (hss.out _ (HS.out.ext hxA)).mono ?_); rintro e w3 ⟨⟨hP3, rfl⟩ | ⟨hP3, rfl⟩, hx3⟩ <;> (first | exact absurd hPS.out hP3 | skip); clear hP3; replace hbA := hbA.ext hx3; replace hbB := hbB.ext hx3; replace hxA := hxA.trans hx3; clear a0 a1 a2 a3 a4 a5 a6 a7 aL c0 c1 c2 cL; obtain ⟨a0, a1, a2, a3, a4, a5, a6, a7⟩ := hbA.c8; have aL := hbA.lt; obtain ⟨c0, c1, c2⟩ := hbB.c3; have cL := hbB.lt))
       | (go_at_call 116; go_loud ((with_reducible refine (hrf.out _ (HX.out.ext hxA)).mono ?_); rintro e w4 ⟨rfl, hx4⟩))
       | (go_at_call 45; (with_reducible refine (fail_c _ _ _).mono ?_); rintro e w9 ⟨rfl, hx9⟩))
      exact bodyPost_ret (v := .tuple #[.int .i64 0, .int .i64 0, vErr 2 7]) (by simp [results, Tryz.results76, go_sem]) rfl ⟨.inr ⟨fun h => hnG.out h.2, 2, by rw [if_pos hz0.out]⟩, (hxA.trans hx4).trans hx9⟩
    ·obtain ⟨R, C, cO, rfl, rfl, rfl, hlen, hR1, hR2, hC1, hC2, hRC, hrN⟩ := stk_nat (hK ▸ hF) hG hin (hK ▸ hcc)
     obtain ⟨b, o, rfl⟩ := hx'.where_ (by rw [hlen]; exact Nat.mul_pos hR1 (by omega))
     have hco8 : (1 ≤ cO ∧ cO ≤ 8) ∧ 3 ≤ R ∧ R ≤ 24 := by rcases hsz.out with ⟨h, _⟩ | ⟨_, h2, h⟩ <;> omega
     clear hsz
     subst hK
     have hPS := Lib.hid (show (R : Int) ∈ ss ∧ (C : Int) = colsV 2 cO R from ⟨hin, hcc⟩)
     have hLx : lvL 2 (R : Int) (C : Int) xs ls.length = topS (vtR xs C (cO + 2) ls.length R) ls.length := by rw [lvL_st rfl, Int.toNat_natCast, Int.toNat_natCast, hrN]
     have hlev := Lib.hid (fun W (h : IntsAt W (some ⟨b, o, none⟩) xs) => stackLevel_c nm 2 p k q cO ps pl ss.length cs ls.length cl R C b o cg xs W hnl.2 h hlen hC1 hcap hRC (fun x hm => hG.2.2.2.2 x hm))
     rw [hrN, top_pad hnl] at hlev
     rw [lvM_st rfl]
     have hse := topS_eq (vtR xs C (cO + 2) ls.length R) ls.length (by omega)
     have htl := topTo_lt (vtR xs C (cO + 2) ls.length R) ls.length
     rw [← hLx] at hse
     generalize lvL 2 (R : Int) (C : Int) xs ls.length = L at *
     clear hLx
     generalize topTo (vtR xs C (cO + 2) ls.length R) ls.length = T at *
     generalize vtR xs C (cO + 2) ls.length R T = y at *
     generalize lvG 2 p k q cO ls R C xs = G at *
     replace hG2 := Lib.hid hG2; replace hG3 := Lib.hid hG3
     replace hF := Lib.hid hF
     clear hG hcc hin hx' hlen hRC hrN
     by_cases hy : 0 < y
     ·rw [if_pos hy] at hse
      have hyb : decide (0 < y) = true := by simpa using hy
      rw [hyb] at hlev
      clear hyb hy
      subst hse
      have hLb : 0 ≤ (T : Int) ∧ (T : Int) ≤ 8 := by omega
      obtain ⟨L, hLL⟩ : ∃ L : Int, (T : Int) = L := ⟨_, rfl⟩
      rw [hLL] at hlev hG2 hG3 hLb ⊢
      clear hLL htl
      go_enter Tryz.func76, Tryz.ntmps76
      go_upto_region 1 with (fail)
      obtain ⟨gF, hgF⟩ : ∃ g, w.heap.size = g := ⟨_, rfl⟩
      obtain ⟨gG, hgG⟩ : ∃ g, w.heap.size + 1 = g := ⟨_, rfl⟩
      rw [hgG] at hbB ⊢
      rw [hgF] at hbA ⊢
      clear hgF hgG
      generalize ((w.alloc (.cells #[.string nm, .int .i64 2, .int .i64 p, .int .i64 k, .int .i64 q, .slice ps ss.length cs, .int .i64 cO, .slice pl ls.length cl] 35)).alloc (.cells #[.int .i64 R, .int .i64 C, .slice (some ⟨b, o, none⟩) xs.length cg] 37)) = w0 at *
      obtain ⟨a0, a1, a2, a3, a4, a5, a6, a7⟩ := hbA.c8; have aL := hbA.lt; obtain ⟨c0, c1, c2⟩ := hbB.c3; have cL := hbB.lt
      go_upto_region 15 with (first
       | (go_at_call 113; go_loud ((with_reducible refine (hif.out _ (HS.out.ext hxA) (HV.out.ext hxA)).mono ?_); rintro e w1 ⟨⟨hP1, rfl⟩ | ⟨hP1, rfl⟩, hx1⟩ <;> (first | exact absurd hPF.out hP1 | skip); clear hP1; replace hbA := hbA.ext hx1; replace hbB := hbB.ext hx1; replace hxA := hxA.trans hx1; clear a0 a1 a2 a3 a4 a5 a6 a7 aL c0 c1 c2 cL; obtain ⟨a0, a1, a2, a3, a4, a5, a6, a7⟩ := hbA.c8; have aL := hbA.lt; obtain ⟨c0, c1, c2⟩ := hbB.c3; have cL := hbB.lt))
       | (go_at_call 114; go_loud ((with_reducible refine (hig.out _ (HX.out.ext hxA)).mono ?_); rintro e w2 ⟨⟨hP2, rfl⟩ | ⟨hP2, rfl⟩, hx2⟩ <;> (first | exact absurd hPG.out hP2 | skip); clear hP2; replace hbA := hbA.ext hx2; replace hbB := hbB.ext hx2; replace hxA := hxA.trans hx2; clear a0 a1 a2 a3 a4 a5 a6 a7 aL c0 c1 c2 cL; obtain ⟨a0, a1, a2, a3, a4, a5, a6, a7⟩ := hbA.c8; have aL := hbA.lt; obtain ⟨c0, c1, c2⟩ := hbB.c3; have cL := hbB.lt))
       | (go_at_call 115; go_loud ((with_reducible refine (hss.out _ (HS.out.ext hxA)).mono ?_); rintro e w3 ⟨⟨hP3, rfl⟩ | ⟨hP3, rfl⟩, hx3⟩ <;> (first | exact absurd hPS.out hP3 | skip); clear hP3; replace hbA := hbA.ext hx3; replace hbB := hbB.ext hx3; replace hxA := hxA.trans hx3; clear a0 a1 a2 a3 a4 a5 a6 a7 aL c0 c1 c2 cL; obtain ⟨a0, a1, a2, a3, a4, a5, a6, a7⟩ := hbA.c8; have aL := hbA.lt; obtain ⟨c0, c1, c2⟩ := hbB.c3; have cL := hbB.lt))
       | (go_at_call 117; go_loud ((with_reducible refine (hlev.out _ (HX.out.ext hxA)).mono ?_); rintro e w4 ⟨rfl, hx4⟩; replace hbA := hbA.ext hx4; replace hbB := hbB.ext hx4; replace hxA := hxA.trans hx4; clear a0 a1 a2 a3 a4 a5 a6 a7 aL c0 c1 c2 cL; obtain ⟨a0, a1, a2, a3, a4, a5, a6, a7⟩ := hbA.c8; have aL := hbA.lt; obtain ⟨c0, c1, c2⟩ := hbB.c3; have cL := hbB.lt)))
      by_cases hin2 : 0 ≤ L ∧ L ≤ (ls.length : Int) - 1
      ·obtain ⟨l, rfl⟩ : ∃ l : Nat, L = l := ⟨L.toNat, by omega⟩
       have hll : l < ls.length := by omega
       have hlx := (hF.out.2.2.2.1 l hll).1
       have hly := Lib.hid (fun W (h : IntsAt W pl ls) => iLay_c nm 2 p k q cO ps pl ss.length cs cl l ls R W h hll hl2 hlx (fam_fld hF.out) (.inr ⟨rfl, ⟨by omega, by omega⟩, ⟨by omega, by omega⟩⟩))
       have hbd := ly_bd (K := 2) (co := cO) (n := R) (x := ls.getD l 0) (fam_fld hF.out) (.inr ⟨rfl, ⟨by omega, by omega⟩, ⟨by omega, by omega⟩⟩)
       have hil := Lib.hid (fun W => iIsLayout_c p k q _ _ _ W hbd.1 hbd.2.1 hbd.2.2)
       have hgg := Lib.hid (hG2.out l rfl)
       rw [Int.toNat_natCast] at hgg
       clear hbd hlx hG2
       generalize ls.getD l 0 = x at *
       generalize lyD 2 p k (cO : Int) (R : Int) x = D at *
       generalize lyC 2 p k (cO : Int) (R : Int) x = C9 at *
       generalize lyN 2 p k (cO : Int) (R : Int) = N9 at *
       by_cases hlo : layOK p k q D C9 N9
       ·go_wp2_with (first
         | (go_at_call 118; go_loud ((with_reducible refine (hhl.out _ _).mono ?_); rintro e w5 ⟨⟨hP, rfl⟩ | ⟨hP, rfl⟩, hx5⟩ <;> (first | exact absurd hin2 hP | skip); replace hbA := hbA.ext hx5; replace hbB := hbB.ext hx5; replace hxA := hxA.trans hx5; clear a0 a1 a2 a3 a4 a5 a6 a7 aL c0 c1 c2 cL; obtain ⟨a0, a1, a2, a3, a4, a5, a6, a7⟩ := hbA.c8; have aL := hbA.lt; obtain ⟨c0, c1, c2⟩ := hbB.c3; have cL := hbB.lt))
         | (go_at_call 28; go_loud ((with_reducible refine (hly.out _ (HV.out.ext hxA)).mono ?_); rintro e w6 ⟨rfl, hx6⟩; have hxB := hxA.trans hx6))
         | (go_at_call 47; go_loud ((with_reducible refine (hil.out _).mono ?_); rintro e w7 ⟨⟨hP7, rfl⟩ | ⟨hP7, rfl⟩, hx7⟩ <;> (first | exact absurd hlo hP7 | skip))))
        exact bodyPost_ret (v := .tuple #[.int .i64 l, .int .i64 0, .nilIface]) (by simp [results, Tryz.results76, go_sem]) rfl ⟨.inl ⟨hz0.out, hgg.out.2 ⟨hin2, hlo⟩, rfl⟩, hxB.trans hx7⟩
       ·go_wp2_with (first
         | (go_at_call 118; go_loud ((with_reducible refine (hhl.out _ _).mono ?_); rintro e w5 ⟨⟨hP, rfl⟩ | ⟨hP, rfl⟩, hx5⟩ <;> (first | exact absurd hin2 hP | skip); replace hbA := hbA.ext hx5; replace hbB := hbB.ext hx5; replace hxA := hxA.trans hx5; clear a0 a1 a2 a3 a4 a5 a6 a7 aL c0 c1 c2 cL; obtain ⟨a0, a1, a2, a3, a4, a5, a6, a7⟩ := hbA.c8; have aL := hbA.lt; obtain ⟨c0, c1, c2⟩ := hbB.c3; have cL := hbB.lt))
         | (go_at_call 28; go_loud ((with_reducible refine (hly.out _ (HV.out.ext hxA)).mono ?_); rintro e w6 ⟨rfl, hx6⟩; have hxB := hxA.trans hx6))
         | (go_at_call 47; go_loud ((with_reducible refine (hil.out _).mono ?_); rintro e w7 ⟨⟨hP7, rfl⟩ | ⟨hP7, rfl⟩, hx7⟩ <;> (first | exact absurd hP7 hlo | skip)))
         | (go_at_call 45; (with_reducible refine (fail_c _ _ _).mono ?_); rintro e w9 ⟨rfl, hx9⟩))
        exact bodyPost_ret (v := .tuple #[.int .i64 0, .int .i64 0, vErr 2 7]) (by simp [results, Tryz.results76, go_sem]) rfl ⟨.inr ⟨fun h => hlo (hgg.out.1 h.2).2, 2, by rw [if_pos hz0.out]⟩, (hxB.trans hx7).trans hx9⟩
      ·go_wp2_with (first
        | (go_at_call 118; go_loud ((with_reducible refine (hhl.out _ _).mono ?_); rintro e w5 ⟨⟨hP, rfl⟩ | ⟨hP, rfl⟩, hx5⟩ <;> (first | exact absurd hP hin2 | skip); replace hbA := hbA.ext hx5; replace hbB := hbB.ext hx5; replace hxA := hxA.trans hx5; clear a0 a1 a2 a3 a4 a5 a6 a7 aL c0 c1 c2 cL; obtain ⟨a0, a1, a2, a3, a4, a5, a6, a7⟩ := hbA.c8; have aL := hbA.lt; obtain ⟨c0, c1, c2⟩ := hbB.c3; have cL := hbB.lt))
        | (go_at_call 45; (with_reducible refine (fail_c _ _ _).mono ?_); rintro e w9 ⟨rfl, hx9⟩))
       exact bodyPost_ret (v := .tuple #[.int .i64 0, .int .i64 0, vErr 2 7]) (by simp [results, Tryz.results76, go_sem]) rfl ⟨.inr ⟨fun h => hG3.out hin2 h.2, 2, by rw [if_pos hz0.out]⟩, hxA.trans hx9⟩
     ·rw [if_neg hy] at hse
      have hyb : decide (0 < y) = false := by simpa using hy
      rw [hyb] at hlev
      clear hyb hy
      subst hse
      have hnG := Lib.hid (hG3.out (by omega))
      clear hG3 hG2
      go_enter Tryz.func76, Tryz.ntmps76
      go_upto_region 1 with (fail)
      obtain ⟨gF, hgF⟩ : ∃ g, w.heap.size = g := ⟨_, rfl⟩
      obtain ⟨gG, hgG⟩ : ∃ g, w.heap.size + 1 = g := ⟨_, rfl⟩
      rw [hgG] at hbB ⊢
      rw [hgF] at hbA ⊢
      clear hgF hgG
      generalize ((w.alloc (.cells #[.string nm, .int .i64 2, .int .i64 p, .int .i64 k, .int .i64 q, .slice ps ss.length cs, .int .i64 cO, .slice pl ls.length cl] 35)).alloc (.cells #[.int .i64 R, .int .i64 C, .slice (some ⟨b, o, none⟩) xs.length cg] 37)) = w0 at *
      obtain ⟨a0, a1, a2, a3, a4, a5, a6, a7⟩ := hbA.c8; have aL := hbA.lt; obtain ⟨c0, c1, c2⟩ := hbB.c3; have cL := hbB.lt
      go_wp2_with (first
       | (go_at_call 113; go_loud ((with_reducible refine (hif.out _ (HS.out.ext hxA) (HV.out.ext hxA)).mono ?_); rintro e w1 ⟨⟨hP1, rfl⟩ | ⟨hP1, rfl⟩, hx1⟩ <;> (first | exact absurd hPF.out hP1 | skip); clear hP1; replace hbA := hbA.ext hx1; replace hbB := hbB.ext hx1; replace hxA := hxA.trans hx1; clear a0 a1 a2 a3 a4 a5 a6 a7 aL c0 c1 c2 cL; obtain ⟨a0, a1, a2, a3, a4, a5, a6, a7⟩ := hbA.c8; have aL := hbA.lt; obtain ⟨c0, c1, c2⟩ := hbB.c3; have cL := hbB.lt))
       | (go_at_call 114; go_loud ((with_reducible refine (hig.out _ (HX.out.ext hxA)).mono ?_); rintro e w2 ⟨⟨hP2, rfl⟩ | ⟨hP2, rfl⟩, hx2⟩ <;> (first | exact absurd hPG.out hP2 | skip); clear hP2; replace hbA := hbA.ext hx2; replace hbB := hbB.ext hx2; replace hxA := hxA.trans hx2; clear a0 a1 a2 a3 a4 a5 a6 a7 aL c0 c1 c2 cL; obtain ⟨a0, a1, a2, a3, a4, a5, a6, a7⟩ := hbA.c8; have aL := hbA.lt; obtain ⟨c0, c1, c2⟩ := hbB.c3; have cL := hbB.lt))
       | (go_at_call 115; go_loud ((with_reducible refine (hss.out _ (HS.out.ext hxA)).mono ?_); rintro e w3 ⟨⟨hP3, rfl⟩ | ⟨hP3, rfl⟩, hx3⟩ <;> (first | exact absurd hPS.out hP3 | skip); clear hP3; replace hbA := hbA.ext hx3; replace hbB := hbB.ext hx3; replace hxA := hxA.trans hx3; clear a0 a1 a2 a3 a4 a5 a6 a7 aL c0 c1 c2 cL; obtain ⟨a0, a1, a2, a3, a4, a5, a6, a7⟩ := hbA.c8; have aL := hbA.lt; obtain ⟨c0, c1, c2⟩ := hbB.c3; have cL := hbB.lt))
       | (go_at_call 117; go_loud ((with_reducible refine (hlev.out _ (HX.out.ext hxA)).mono ?_); rintro e w4 ⟨rfl, hx4⟩))
       | (go_at_call 45; (with_reducible refine (fail_c _ _ _).mono ?_); rintro e w9 ⟨rfl, hx9⟩))
      exact bodyPost_ret (v := .tuple #[.int .i64 0, .int .i64 0, vErr 2 7]) (by simp [results, Tryz.results76, go_sem]) rfl ⟨.inr ⟨fun h => hnG.out h.2, 2, by rw [if_pos hz0.out]⟩, (hxA.trans hx4).trans hx9⟩
   ·have hz4 := szC_far hF hG hsy
    have hPF := Lib.hid hF; have hPG := Lib.hid hG; replace hsy := Lib.hid hsy
    generalize szC nm K p k q ss co ls r c xs = z at *
    subst hz4
    clear hF hG hx'
    go_enter Tryz.func76, Tryz.ntmps76
    go_upto_region 1 with (fail)
    obtain ⟨gF, hgF⟩ : ∃ g, w.heap.size = g := ⟨_, rfl⟩
    obtain ⟨gG, hgG⟩ : ∃ g, w.heap.size + 1 = g := ⟨_, rfl⟩
    rw [hgG] at hbB ⊢
    rw [hgF] at hbA ⊢
    clear hgF hgG
    generalize ((w.alloc (.cells #[.string nm, .int .i64 K, .int .i64 p, .int .i64 k, .int .i64 q, .slice ps ss.length cs, .int .i64 co, .slice pl ls.length cl] 35)).alloc (.cells #[.int .i64 r, .int .i64 c, .slice pg xs.length cg] 37)) = w0 at *
    obtain ⟨a0, a1, a2, a3, a4, a5, a6, a7⟩ := hbA.c8; have aL := hbA.lt; obtain ⟨c0, c1, c2⟩ := hbB.c3; have cL := hbB.lt
    go_wp2_with (first
     | (go_at_call 113; go_loud ((with_reducible refine (hif.out _ (HS.out.ext hxA) (HV.out.ext hxA)).mono ?_); rintro e w1 ⟨⟨hP1, rfl⟩ | ⟨hP1, rfl⟩, hx1⟩ <;> (first | exact absurd hPF.out hP1 | skip); clear hP1; replace hbA := hbA.ext hx1; replace hbB := hbB.ext hx1; replace hxA := hxA.trans hx1; clear a0 a1 a2 a3 a4 a5 a6 a7 aL c0 c1 c2 cL; obtain ⟨a0, a1, a2, a3, a4, a5, a6, a7⟩ := hbA.c8; have aL := hbA.lt; obtain ⟨c0, c1, c2⟩ := hbB.c3; have cL := hbB.lt))
     | (go_at_call 114; go_loud ((with_reducible refine (hig.out _ (HX.out.ext hxA)).mono ?_); rintro e w2 ⟨⟨hP2, rfl⟩ | ⟨hP2, rfl⟩, hx2⟩ <;> (first | exact absurd hPG.out hP2 | skip); clear hP2; replace hbA := hbA.ext hx2; replace hbB := hbB.ext hx2; replace hxA := hxA.trans hx2; clear a0 a1 a2 a3 a4 a5 a6 a7 aL c0 c1 c2 cL; obtain ⟨a0, a1, a2, a3, a4, a5, a6, a7⟩ := hbA.c8; have aL := hbA.lt; obtain ⟨c0, c1, c2⟩ := hbB.c3; have cL := hbB.lt))
     | (go_at_call 115; go_loud ((with_reducible refine (hss.out _ (HS.out.ext hxA)).mono ?_); rintro e w3 ⟨⟨hP3, rfl⟩ | ⟨hP3, rfl⟩, hx3⟩ <;> (first | exact absurd hP3 hsy.out | skip); clear hP3; replace hbA := hbA.ext hx3; replace hbB := hbB.ext hx3; replace hxA := hxA.trans hx3; clear a0 a1 a2 a3 a4 a5 a6 a7 aL c0 c1 c2 cL; obtain ⟨a0, a1, a2, a3, a4, a5, a6, a7⟩ := hbA.c8; have aL := hbA.lt; obtain ⟨c0, c1, c2⟩ := hbB.c3; have cL := hbB.lt))
     | (go_at_call 45; (with_reducible refine (fail_c _ _ _).mono ?_); rintro e w9 ⟨rfl, hx9⟩))
    exact bodyPost_ret (v := .tuple #[.int .i64 0, .int .i64 0, vErr 1 4]) (by simp [results, Tryz.results76, go_sem]) rfl ⟨.inr ⟨fun h => absurd h.1 (by decide), 1, by rw [if_neg (by decide)]⟩, hxA.trans hx9⟩
  ·have hz4 := szC_out (K := K) (p := p) (k := k) (q := q) (co := co) (nm := nm) (ss := ss) (ls := ls) (r := r) (c := c) (xs := xs) (fun h => hG h.2)
   have hPF := Lib.hid hF; replace hG := Lib.hid hG
   generalize szC nm K p k q ss co ls r c xs = z at *
   subst hz4
   clear hF hx'
   go_enter Tryz.func76, Tryz.ntmps76
   go_upto_region 1 with (fail)
   obtain ⟨gF, hgF⟩ : ∃ g, w.heap.size = g := ⟨_, rfl⟩
   obtain ⟨gG, hgG⟩ : ∃ g, w.heap.size + 1 = g := ⟨_, rfl⟩
   rw [hgG] at hbB ⊢
   rw [hgF] at hbA ⊢
   clear hgF hgG
   generalize ((w.alloc (.cells #[.string nm, .int .i64 K, .int .i64 p, .int .i64 k, .int .i64 q, .slice ps ss.length cs, .int .i64 co, .slice pl ls.length cl] 35)).alloc (.cells #[.int .i64 r, .int .i64 c, .slice pg xs.length cg] 37)) = w0 at *
   obtain ⟨a0, a1, a2, a3, a4, a5, a6, a7⟩ := hbA.c8; have aL := hbA.lt; obtain ⟨c0, c1, c2⟩ := hbB.c3; have cL := hbB.lt
   go_wp2_with (first
    | (go_at_call 113; go_loud ((with_reducible refine (hif.out _ (HS.out.ext hxA) (HV.out.ext hxA)).mono ?_); rintro e w1 ⟨⟨hP1, rfl⟩ | ⟨hP1, rfl⟩, hx1⟩ <;> (first | exact absurd hPF.out hP1 | skip); clear hP1; replace hbA := hbA.ext hx1; replace hbB := hbB.ext hx1; replace hxA := hxA.trans hx1; clear a0 a1 a2 a3 a4 a5 a6 a7 aL c0 c1 c2 cL; obtain ⟨a0, a1, a2, a3, a4, a5, a6, a7⟩ := hbA.c8; have aL := hbA.lt; obtain ⟨c0, c1, c2⟩ := hbB.c3; have cL := hbB.lt))
    | (go_at_call 114; go_loud ((with_reducible refine (hig.out _ (HX.out.ext hxA)).mono ?_); rintro e w2 ⟨⟨hP2, rfl⟩ | ⟨hP2, rfl⟩, hx2⟩ <;> (first | exact absurd hP2 hG.out | skip); clear hP2; replace hbA := hbA.ext hx2; replace hbB := hbB.ext hx2; replace hxA := hxA.trans hx2; clear a0 a1 a2 a3 a4 a5 a6 a7 aL c0 c1 c2 cL; obtain ⟨a0, a1, a2, a3, a4, a5, a6, a7⟩ := hbA.c8; have aL := hbA.lt; obtain ⟨c0, c1, c2⟩ := hbB.c3; have cL := hbB.lt))
    | (go_at_call 45; (with_reducible refine (fail_c _ _ _).mono ?_); rintro e w9 ⟨rfl, hx9⟩))
   exact bodyPost_ret (v := .tuple #[.int .i64 0, .int .i64 0, vErr 0 1]) (by simp [results, Tryz.results76, go_sem]) rfl ⟨.inr ⟨fun h => absurd h.1 (by decide), 0, by rw [if_neg (by decide)]⟩, hxA.trans hx9⟩
 ·have hz4 := szC_out (K := K) (p := p) (k := k) (q := q) (co := co) (nm := nm) (ss := ss) (ls := ls) (r := r) (c := c) (xs := xs) (fun h => hF h.1)
  replace hF := Lib.hid hF
  generalize szC nm K p k q ss co ls r c xs = z at *
  subst hz4
  clear hx'
  go_enter Tryz.func76, Tryz.ntmps76
  go_upto_region 1 with (fail)
  obtain ⟨gF, hgF⟩ : ∃ g, w.heap.size = g := ⟨_, rfl⟩
  obtain ⟨gG, hgG⟩ : ∃ g, w.heap.size + 1 = g := ⟨_, rfl⟩
  rw [hgG] at hbB ⊢
  rw [hgF] at hbA ⊢
  clear hgF hgG
  generalize ((w.alloc (.cells #[.string nm, .int .i64 K, .int .i64 p, .int .i64 k, .int .i64 q, .slice ps ss.length cs, .int .i64 co, .slice pl ls.length cl] 35)).alloc (.cells #[.int .i64 r, .int .i64 c, .slice pg xs.length cg] 37)) = w0 at *
  obtain ⟨a0, a1, a2, a3, a4, a5, a6, a7⟩ := hbA.c8; have aL := hbA.lt; obtain ⟨c0, c1, c2⟩ := hbB.c3; have cL := hbB.lt
  go_wp2_with (first
   | (go_at_call 113; go_loud ((with_reducible refine (hif.out _ (HS.out.ext hxA) (HV.out.ext hxA)).mono ?_); rintro e w1 ⟨⟨hP1, rfl⟩ | ⟨hP1, rfl⟩, hx1⟩ <;> (first | exact absurd hP1 hF.out | skip); clear hP1; replace hbA := hbA.ext hx1; replace hbB := hbB.ext hx1; replace hxA := hxA.trans hx1; clear a0 a1 a2 a3 a4 a5 a6 a7 aL c0 c1 c2 cL; obtain ⟨a0, a1, a2, a3, a4, a5, a6, a7⟩ := hbA.c8; have aL := hbA.lt; obtain ⟨c0, c1, c2⟩ := hbB.c3; have cL := hbB.lt))
   | (go_at_call 45; (with_reducible refine (fail_c _ _ _).mono ?_); rintro e w9 ⟨rfl, hx9⟩))
  exact bodyPost_ret (v := .tuple #[.int .i64 0, .int .i64 0, vErr 0 1]) (by simp [results, Tryz.results76, go_sem]) rfl ⟨.inr ⟨fun h => absurd h.1 (by decide), 0, by rw [if_neg (by decide)]⟩, hxA.trans hx9⟩
end Go.Proofs.YtojdediohjghnaaGreatDoor
