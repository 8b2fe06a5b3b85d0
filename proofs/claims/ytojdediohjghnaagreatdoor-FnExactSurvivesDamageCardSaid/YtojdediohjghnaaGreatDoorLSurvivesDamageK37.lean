/- Elements of a matrix symbol, the reference's side. -/
import Derived.Test.YtojdediohjghnaaGreatDoorLSurvivesDamageK36
import Derived.Test.YtojdediohjghnaaGreatDoorLSurvivesDamageK16
import Derived.Test.YtojdediohjghnaaGreatDoorLSurvivesDamageK31
set_option linter.unusedVariables false
set_option linter.unusedSimpArgs false
namespace Go.Proofs.YtojdediohjghnaaGreatDoor
open Go.RowKit

theorem cellsL_at {n : Nat} {xs : List Int} {ps : List (Int × Int)} {k : Nat} (h : k < ps.length) : (cellsL n xs ps).getD k 0 = xs.getD (plIx n (ps.getD k (0, 0))) 0 := by
 unfold cellsL
 rw [List.getD_eq_getElem?_getD, List.getElem?_map, List.getD_eq_getElem?_getD (l := ps), List.getElem?_eq_getElem h]
 rfl
set_option maxHeartbeats 1600000 in
set_option maxRecDepth 100000 in
theorem l15Take_c (n wd kc : Nat) (p : Option Addr) (xs : List Int) (w : World) (hn : 17 ≤ n ∧ n ≤ 41) (h4 : n % 4 = 1) (hx : IntsAt w p xs) (hlen : xs.length = n * n) (hw1 : 1 ≤ wd) (hw8 : wd ≤ 8) (hbd : ∀ x ∈ xs, -1 ≤ x ∧ x ≤ 1) :
  Calls Tryz.prog 103 #[vGrid n n p (n * n) kc, .int .i64 wd] w fun e w' => StE w.heap.size w' (elemsV wd (cellsL n xs (dpL n)) ((dpL n).length / wd)) e ∧ Ext w w' := by
 have HX := Lib.hid hx; clear hx
 have hN : n * n ≤ 1681 := Nat.mul_le_mul hn.2 hn.2
 have hml := dpL_len hn.2
 have hdb := Lib.hid (fun a k => elTo_small (cellsL_fm (n := n) (ps := dpL n) hbd) a (k := k))
 have hab := Lib.hid (fun k => at_bd (cellsL_fm (n := n) (ps := dpL n) hbd) k)
 have hpl := Lib.hid (fun W => sPlaces_c n W hn h4)
 have hmp := Lib.hid (fun k (hk : k < (dpL n).length) => mask_pl hn h4 (j := k) hk)
 have hca := Lib.hid (fun k (hk : k < (dpL n).length) => cellsL_at (n := n) (xs := xs) hk)
 have hp2 := Lib.hid (fun W pp k (hk : k < (dpL n).length) (h : PlAt W pp (dpL n)) => SAt.pl2 h hk)
 obtain ⟨m, hm⟩ : ∃ m, (dpL n).length = m := ⟨_, rfl⟩
 have hdl : (cellsL n xs (dpL n)).length = m := by rw [← hm]; simp [cellsL]
 rw [hm] at hml hmp hca hp2 ⊢
 obtain ⟨ds, hds⟩ : ∃ ds, cellsL n xs (dpL n) = ds := ⟨_, rfl⟩
 rw [hds] at hca hdl hdb hab ⊢
 obtain ⟨ps, hps⟩ : ∃ ps, dpL n = ps := ⟨_, rfl⟩
 rw [hps] at hmp hca hp2
 replace hm := Lib.hid hm; replace hds := Lib.hid hds; replace hdl := Lib.hid hdl; replace hlen := Lib.hid hlen; replace hps := Lib.hid hps
 clear hbd
 obtain ⟨N, hNn⟩ : ∃ N, n * n = N := ⟨_, rfl⟩
 rw [hNn] at hN hmp hlen ⊢
 replace hNn := Lib.hid hNn
 have hb0 := Blk.new w #[.int .i64 n, .int .i64 n, .slice p N kc] 37
 have hx0 : Ext w (w.alloc (.cells #[.int .i64 n, .int .i64 n, .slice p N kc] 37)) := (Ext.refl w).alloc _
 have f0 := hb0.cell (i := 0) (v := .int .i64 n) rfl; have fl := hb0.lt
 go_enter Tryz.func103, Tryz.ntmps103
 go_upto_region 1 with (fail)
 generalize w.alloc (.cells #[.int .i64 n, .int .i64 n, .slice p N kc] 37) = w0 at *
 go_upto_region 2 with (go_at_call 150; (with_reducible refine (hpl.out _).mono ?_); rintro e w1 ⟨⟨v1, rfl, hr1⟩, hx1⟩; obtain ⟨pp, cp, hv1, hA1, hf1⟩ := hr1.nfree plF_len; rw [hm.out] at hv1; rw [hps.out] at hA1; subst hv1)
 have hxa := hx0.trans hx1
 have hG1 := hb0.ext hx1
 have hI := HX.out.ext hxa
 have hT0 : TwoE w1.heap.size ((w1.alloc (.cells #[] 2)).alloc (.cells #[] 2)) (.slice (some ⟨w1.heap.size, 0, none⟩) 0 0) (.slice (some ⟨w1.heap.size + 1, 0, none⟩) 0 0) (elemsV wd ds 0) := TwoE.start (Nat.le_refl _)
 have hx2 : Ext w1 ((w1.alloc (.cells #[] 2)).alloc (.cells #[] 2)) := ((Ext.refl _).alloc _).alloc _
 have hBg := hxa.below.size
 clear f0 fl hb0 hx0 hx1 hpl HX hr1 hf1
 obtain ⟨gG, hgG⟩ : ∃ g, w.heap.size = g := ⟨_, rfl⟩
 rw [hgG] at hG1 ⊢
 clear hgG
 go_upto_region 4 with (fail)
 obtain ⟨wo, rfl⟩ : ∃ wo : World, wo = w1 := ⟨_, rfl⟩
 generalize (wo.alloc (.cells #[] 2)).alloc (.cells #[] 2) = w2 at *
 generalize Value.slice (some ⟨wo.heap.size, 0, none⟩) 0 0 = v4 at *
 generalize Value.slice (some ⟨wo.heap.size + 1, 0, none⟩) 0 0 = v5 at *
 go_loopw [7, 8, 9] (fun x7 x8 i wr => ∃ j A : Nat, j * wd = A ∧ A ≤ m ∧ i = .int .i64 A ∧ TwoE wo.heap.size wr x7 x8 (elemsV wd ds j) ∧ Ext wo wr) (fun _ _ i _ => m + 10 - (intOf i).toNat)
 case atStart => exact ⟨0, 0, Nat.zero_mul _, Nat.zero_le _, rfl, hT0, hx2⟩
 case round =>
  clear hT0 hx2
  obtain ⟨j, A, hA, hAm, rfl, hT, hext⟩ := hrel
  have hmore := more_iff (w := wd) (n := m) (j := j) (by omega)
  have hnd := Nat.div_mul_le_self m wd
  by_cases hlt : A + wd ≤ m
  ·have hsu := elemsV_succ wd ds j
   rw [hA] at hsu
   have hA9 : (j + 1) * wd = A + wd := by rw [Nat.add_mul, Nat.one_mul, hA]
   have hdiv : (A : Int).tdiv (wd : Int) = (j : Int) := by
    rw [Int.tdiv_eq_ediv_of_nonneg (by omega), ← hA]
    exact (by rw [show ((j * wd : Nat) : Int) = (j : Int) * (wd : Int) from by simp]; exact Int.mul_ediv_cancel _ (by omega))
   have hdiv2 : (A : Int) / (wd : Int) = (j : Int) := by
    rw [← hA, show ((j * wd : Nat) : Int) = (j : Int) * (wd : Int) from by simp]; exact Int.mul_ediv_cancel _ (by omega)
   have hel := elemsV_len wd ds j
   have hjm : j ≤ 1681 := by have : j * 1 ≤ j * wd := Nat.mul_le_mul_left _ hw1; omega
   obtain ⟨F1, hF1⟩ : ∃ F1, elemsV wd ds j = F1 := ⟨_, rfl⟩
   rw [hF1] at hT hsu hel
   have hFl : F1.length ≤ 1681 := by omega
   have hw0 : ¬ wd = 0 := by omega
   replace hel := Lib.hid hel; replace hdiv := Lib.hid hdiv; replace hdiv2 := Lib.hid hdiv2
   replace hF1 := Lib.hid hF1; replace hsu := Lib.hid hsu; replace hA := Lib.hid hA; replace hA9 := Lib.hid hA9
   clear hmore hnd
   go_upto_region 8 with (fail)
   obtain ⟨wi, rfl⟩ : ∃ wi : World, wi = wr := ⟨_, rfl⟩
   go_loopw [10, 11] (fun x i wr => ∃ K : Nat, (A ≤ K ∧ K ≤ A + wd) ∧ x = .int .i64 (elTo ds A (K - A)) ∧ i = .int .i64 K ∧ Ext wi wr) (fun _ i _ => A + wd - (intOf i).toNat)
   case atStart => exact ⟨A, ⟨Nat.le_refl _, by omega⟩, by rw [Nat.sub_self]; rfl, rfl, Ext.refl _⟩
   case round =>
    obtain ⟨K, ⟨hK1, hK2⟩, rfl, rfl, hxi⟩ := hrel
    have hxb := hdb.out A (K - A) (by omega)
    by_cases hltq : K < A + wd
    ·have hst := elTo_s ds A (K - A)
     rw [show K - A + 1 = K + 1 - A by omega, show A + (K - A) = K by omega] at hst
     have hvb := hab.out K
     have hKm : K < m := by omega
     obtain ⟨r, c, ix, hpe, hr, hc, hq1, hq2, hq3, hq4⟩ := hmp.out K hKm
     obtain ⟨bp, op, rfl, hbp, u0, u1⟩ := hp2.out wr pp K hKm (SAt.ext hA1 (hext.trans hxi))
     have hcx := hca.out K hKm
     rw [hpe] at u0 u1 hcx
     simp only at u0 u1
     rw [hq4] at hcx
     obtain ⟨b, o, rfl, hbl, y0⟩ := (hI.ext (hext.trans hxi)) ix (by rw [hlen.out]; exact hq2)
     rw [← hcx] at y0
     clear hcx
     have hG := hG1.ext (hext.trans hxi)
     have q1 := hG.cell (i := 1) (v := .int .i64 n) rfl; have q2 := hG.cell (i := 2) (v := .slice (some ⟨b, o, none⟩) N kc) rfl; have ql := hG.lt
     generalize ds.getD K 0 = v at *
     generalize elTo ds A (K - A) = x at *
     obtain ⟨M, hM⟩ : ∃ M : Int, r * (n : Int) = M := ⟨_, rfl⟩
     rw [hM] at hq1 hq3
     have e1 := IntWalk.i64_in M (by omega)
     have e2 := IntWalk.i64_in (ix : Int) (by omega)
     have hqN : (ix : Int) < (N : Int) := by omega
     go_upto_region 10 with (fail)
     refine wp_region_canon (fun w' => Ext wr w') [(0, true), (1, true), (2, true), (3, true), (4, true), (5, true), (6, true), (7, true), (8, true), (9, true), (10, true), (11, true), (12, true), (13, true), (14, true), (15, true), (16, true), (17, true), (18, true)] (by kernel_rfl) (by kernel_rfl) (by decide) (by kernel_rfl) ?_ ?_
     ·exact eX
     refine canon_intro fun ops eo => ?_
     replace eo := canon_eo eo
     iterate 19 all_goals (refine cS eo rfl rfl evE ?_; simp only [ptN])
     all_goals (clear eo; refine canon_done (NoPanic.normal ?_))
     have hxi2 : Ext wi wr.drew := hxi.drew
     by_cases hv : v < 0
     ·rw [stepE_no (.inl hv)] at hst
      replace hst := Lib.hid hst
      go_wp2
      go_roundw
      case rel => exact ⟨K + 1, ⟨by omega, by omega⟩, by rw [hst.out], by go_num, hxi2⟩
      case measure => simp [intOf]; omega
     ·by_cases hxn : x < 0
      ·rw [stepE_no (.inr hxn)] at hst
       replace hst := Lib.hid hst
       go_wp2
       go_roundw
       case rel => exact ⟨K + 1, ⟨by omega, by omega⟩, by rw [hst.out], by go_num, hxi2⟩
       case measure => simp [intOf]; omega
      ·rw [stepE_yes (fun h => h.elim hv hxn)] at hst
       replace hst := Lib.hid hst
       go_wp2
       go_roundw
       case rel => exact ⟨K + 1, ⟨by omega, by omega⟩, by rw [hst.out], by go_num, hxi2⟩
       case measure => simp [intOf]; omega
    ·obtain rfl : K = A + wd := by omega
     rw [show A + wd - A = wd by omega] at hxb ⊢
     generalize elTo ds A wd = v at *
     obtain ⟨e5, e6, e7⟩ := hT.ext hxi
     have hpl := pos0_len F1
     have hnl := negs_len F1
     have hextr := hext.trans hxi
     have hwB := hextr.size
     have hv4 := e5.lt
     have hv5 := e6.lt
     have e7' : ∀ k, u7.ownBlock = some k → u8.ownBlock ≠ some k := fun k h1 h2 => e7 k h2 h1
     obtain ⟨p4, c4, rfl, -, -⟩ := e5.ownC
     rw [hpl] at *
     have hpb : (pos0 F1).length ≤ 100000 := by rw [pos0_len]; omega
     have hnb : (negs F1).length ≤ 100000 := by omega
     replace e7' := Lib.hid e7'
     replace e7 := Lib.hid e7
     by_cases hneg : v < 0
     ·have hP := Lib.hid (show pos0 (F1 ++ [v]) = pos0 F1 ++ [max 0 v] from by rw [pos0_app])
      have hN2 := Lib.hid (show negs (F1 ++ [v]) = negs F1 ++ [(j : Int)] from by rw [negs_up (l := F1) hneg, hel.out])
      have hdv1 := hdiv.out; have hdv2 := hdiv2.out
      go_wp2_with (first
       | (at_builtin; go_loud (refine append_two e6 e5 e7'.out hnb hwB ?_ rfl rfl); intro v6 w6 k1 k2 k3 hg6; have hB6 := Nat.le_trans hwB hg6.by_.size; have hx6 := hg6.toExt hextr (fun k h => (hv5 k h).1))
       | (at_builtin; go_loud (refine append_two k2 k1 (fun k h1 h2 => k3 k h2 h1) hpb hB6 ?_ rfl rfl); intro v7 w7 m1 m2' m3 hg7))
      exact ⟨⟨j + 1, A + wd, hA9.out, hlt, by go_num, ⟨by rw [hsu.out, hP.out]; exact m1, by rw [hsu.out, hN2.out]; exact m2', m3⟩, hg7.toExt hx6 (fun k h => (hv4 k h).1)⟩, by simp [intOf]; omega⟩
     ·have hP := Lib.hid (show pos0 (F1 ++ [v]) = pos0 F1 ++ [max 0 v] from by rw [pos0_app])
      have hN2 := Lib.hid (negs_no (l := F1) hneg)
      go_wp2_with (at_builtin; go_loud (refine append_two e5 e6 e7.out hpb hwB ?_ rfl rfl); intro v7 w7 m1 m2' m3 hg7)
      exact ⟨⟨j + 1, A + wd, hA9.out, hlt, by go_num, ⟨by rw [hsu.out, hP.out]; exact m1, by rw [hsu.out, hN2.out]; exact m2', m3⟩, hg7.toExt hextr (fun k h => (hv4 k h).1)⟩, by simp [intOf]; omega⟩
  ·have hjm2 : j = m / wd := by
    have h1 : ¬ j < m / wd := fun h => hlt (by have := hmore.1 h; omega)
    have h2 : j ≤ m / wd := (Nat.le_div_iff_mul_le (by omega)).2 (by omega)
    omega
   rw [hjm2] at hT
   go_wp2
   exact bodyPost_ret (v := .tuple #[u7, u8]) (by simp [results, Tryz.results103, go_sem]) rfl ⟨StE.of (hT.low hBg), hxa.trans hext⟩
end Go.Proofs.YtojdediohjghnaaGreatDoor
/- Grids with a mask, the reference's side. -/
namespace Go.Proofs.YtojdediohjghnaaGreatDoor
open Go.RowKit

set_option maxHeartbeats 1600000 in
set_option maxRecDepth 100000 in
theorem sApply_c (m n k : Nat) (hm : m < 8) (p : Option Addr) (xs : List Int) (w : World) (hn : 17 ≤ n ∧ n ≤ 41) (h4 : n % 4 = 1) (hx : IntsAt w p xs) (hlen : xs.length = n * n) (hbd : ∀ x ∈ xs, -1 ≤ x ∧ x ≤ 1) :
  Calls Tryz.prog 104 #[vGrid n n p xs.length k, .int .i64 m] w fun e w' => GrdR n n (mskL m n xs) w.heap.size e w' ∧ Ext w w' := by
 have HX := Lib.hid hx; clear hx
 have hN : n * n ≤ 1681 := Nat.mul_le_mul hn.2 hn.2
 have hN1 : 0 < n * n := Nat.mul_pos (by omega) (by omega)
 have hb := (Blk.new w #[.int .i64 n, .int .i64 n, .slice p xs.length k] 37).alloc (.cells #[.int .i64 0, .int .i64 0, .slice none 0 0] 37)
 have h0 := Blk.new (w.alloc (.cells #[.int .i64 n, .int .i64 n, .slice p xs.length k] 37)) #[.int .i64 0, .int .i64 0, .slice none 0 0] 37
 have hx0 : Ext w ((w.alloc (.cells #[.int .i64 n, .int .i64 n, .slice p xs.length k] 37)).alloc (.cells #[.int .i64 0, .int .i64 0, .slice none 0 0] 37)) := ((Ext.refl w).alloc _).alloc _
 simp only [World.size_alloc] at h0
 have how := Lib.hid (fun W (h : IntsAt W p xs) => sOwn_c p k xs W h (by omega))
 have hpl := Lib.hid (fun W => sPlaces_c n W hn h4)
 replace hlen := Lib.hid hlen
 obtain ⟨f0, f1, f2⟩ := hb.c3; have fl := hb.lt
 go_enter Tryz.func104, Tryz.ntmps104
 go_upto_region 4 with (first
  | (go_at_call 61; (with_reducible refine (how.out _ (HX.out.ext hx0)).mono ?_); rintro e w1 ⟨⟨v1, rfl, hr1⟩, hx1⟩; obtain ⟨q, kq, rfl, oq, hkq⟩ := hr1.ownC; have hb1 := hb.ext hx1; have y0 := hb1.cell (i := 0) (v := .int .i64 n) rfl; have yl := hb1.lt)
  | (go_at_call 150; (with_reducible refine (hpl.out _).mono ?_); rintro e w3 ⟨⟨v3, rfl, hr3⟩, hx3⟩; obtain ⟨pp, cp, hv3, hA3, hf3⟩ := hr3.nfree plF_len; subst hv3))
 obtain ⟨b, o, rfl, hbB, hbl, -⟩ := oq 0 (by rw [hlen.out]; exact hN1)
 have hz1 := hx1.below.size; have hz3 := hx3.below.size
 have hbw : w.heap.size + 2 ≤ b := by
  simp only [World.size_alloc] at hbB; omega
 have hG3 := hb1.ext hx3
 have hR3 := (h0.ext hx1).ext hx3
 have ow3 := oq.ext hx3
 have hxw := (hx0.trans hx1).trans hx3
 have hpb : ∀ b' o', pp = some ⟨b', o', none⟩ → b' ≠ b := fun b' o' e => by have := (hf3 b' o' e).1; omega
 replace hpb := Lib.hid hpb
 have hwb : w.heap.size ≤ b := by omega
 have hg5 : w.heap.size ≠ b := by omega
 have hr5 : w.heap.size + 1 ≠ b := by omega
 obtain ⟨Nn, hNn⟩ : ∃ Nn, xs.length = Nn := ⟨_, rfl⟩
 have hlenN : Nn = n * n := by rw [← hNn]; exact hlen.out
 rw [hNn] at hG3 hkq ⊢
 have hm0 : mskTo m n (dpL n) xs 0 = xs := rfl
 rw [← hm0] at ow3
 have hml := fun j => mskTo_len m n (dpL n) xs j
 have hdl := dpL_len (n := n) hn.2
 have hms := fun j q r c hp hq => msk_step (m := m) (n := n) (j := j) (q := q) (xs := xs) (r := r) (c := c) hp hq
 have hmb := fun j => mskTo_bd (m := m) (n := n) (ps := dpL n) hbd j
 have hmp := fun j hj => mask_pl hn h4 (j := j) hj
 have hfin : mskL m n xs = mskTo m n (dpL n) xs (dpL n).length := rfl
 have hpl2 : ∀ W j, j < (dpL n).length → PlAt W pp (dpL n) → ∃ b o, pp = some ⟨b, o, none⟩ ∧ b < W.heap.size ∧ W.cell? ⟨b, o + j * 2, none⟩ = some (.int .i64 ((dpL n).getD j (0, 0)).1) ∧ W.cell? ⟨b, o + j * 2 + 1, none⟩ = some (.int .i64 ((dpL n).getD j (0, 0)).2) := fun W j hj h => SAt.pl2 h hj
 generalize hD : dpL n = ps at *
 generalize hM : mskTo m n ps xs = MT at *
 obtain ⟨P, hP⟩ : ∃ P, ps.length = P := ⟨_, rfl⟩
 rw [hP] at hdl hmp hpl2 hfin ⊢
 replace hD := Lib.hid hD; replace hM := Lib.hid hM; replace hP := Lib.hid hP; replace hNn := Lib.hid hNn; replace hms := Lib.hid hms; replace hml := Lib.hid hml; replace hmb := Lib.hid hmb; replace hmp := Lib.hid hmp; replace hfin := Lib.hid hfin; replace hpl2 := Lib.hid hpl2; replace hlenN := Lib.hid hlenN
 clear hm0 oq hb1 y0 yl f0 f1 f2 fl h0 hb hx0 hx1 hx3 hr3 hr1 how hpl hf3 hbB hbl
 go_loopw [7] (fun i wr => ∃ j : Nat, j ≤ P ∧ i = .int .i64 j ∧ OwnInts b wr (some ⟨b, o, none⟩) (MT j) ∧ Blk wr w.heap.size #[.int .i64 n, .int .i64 n, .slice p Nn k] 37 ∧ Blk wr (w.heap.size + 1) #[.int .i64 0, .int .i64 0, .slice none 0 0] 37 ∧ PlAt wr pp ps ∧ Ext w wr) (fun i _ => P - (intOf i).toNat)
 case atStart => exact ⟨0, Nat.zero_le _, rfl, ow3.self, hG3, hR3, hA3, hxw⟩
 case round =>
  clear ow3 hG3 hR3 hA3 hxw
  obtain ⟨j, hj, rfl, ow, hG, hR, hA, hxt⟩ := hrel
  by_cases hlt : j < P
  ·have hji : (j : Int) < P := by omega
   obtain ⟨bp, op, rfl, hbp, u0, u1⟩ := hpl2.out wr j hlt hA
   obtain ⟨r, c, qi, hpe, hr, hc, hq1, hq2, hq3, hq4⟩ := hmp.out j hlt
   have hst := hms.out j qi r c hpe hq4
   rw [hpe] at u0 u1
   simp only at u0 u1
   have hlq : qi < (MT j).length := by rw [hml.out, hNn.out, hlenN.out]; exact hq2
   have hqN : (qi : Int) < (Nn : Int) := by rw [hlenN.out]; omega
   have hxb := hmb.out j _ (getD_mem (d := 0) hlq)
   have hown := Lib.hid (fun W (h : OwnInts b W (some ⟨b, o, none⟩) (MT j)) => h qi hlq)
   have hset := Lib.hid (fun W x (h : OwnInts b W (some ⟨b, o, none⟩) (MT j)) => h.set (k := qi) rfl hlq x)
   generalize (MT j).getD qi 0 = x at *
   obtain ⟨M, hM2⟩ : ∃ M : Int, r * (n : Int) = M := ⟨_, rfl⟩
   rw [hM2] at hq1 hq3
   have e1 := IntWalk.i64_in M (by omega)
   have e2 := IntWalk.i64_in (qi : Int) (by omega)
   have htn := Lib.hid (fun W => sTurns_c m hm r c W (by omega) (by omega))
   have q1 := hG.cell (i := 1) (v := .int .i64 n) rfl; have ql := hG.lt
   replace hst := Lib.hid hst
   go_upto_region 6 with (fail)
   refine wp_region_canon (fun w' => Ext wr w') [(0, true), (1, true), (2, true), (3, true), (4, true), (5, true), (6, true), (7, true), (8, true), (9, true), (10, true), (11, true), (12, true), (13, true), (14, true)] (by kernel_rfl) (by kernel_rfl) (by decide) (by kernel_rfl) ?_ ?_
   ·exact eX
   refine canon_intro fun ops eo => ?_
   replace eo := canon_eo eo
   iterate 15 all_goals (refine cS eo rfl rfl evE ?_; simp only [ptN])
   all_goals (clear eo; refine canon_done (NoPanic.normal ?_))
   have hX6 : Ext wr wr.drew := (Ext.refl wr).drew
   replace ow := ow.ext hX6; replace hG := hG.ext hX6; replace hR := hR.ext hX6; replace hA := SAt.ext hA hX6; replace hxt := hxt.trans hX6
   have v0 : wr.drew.cell? ⟨bp, op + j * 2, none⟩ = some (.int .i64 r) := u0
   have v1 : wr.drew.cell? ⟨bp, op + j * 2 + 1, none⟩ = some (.int .i64 c) := u1
   have vl : bp < wr.drew.heap.size := hbp
   obtain ⟨b1, o1, e3, -, l1, y1, y1f⟩ := hown.out _ ow
   simp only [Option.some.injEq, Addr.mk.injEq, and_true] at e3
   obtain ⟨rfl, rfl⟩ := e3
   clear hX6 u0 u1 q1 ql e1 e2 hbp
   generalize wr.drew = w4 at *
   by_cases hx : 0 ≤ x
   ·have hst2 := hst.out
    have hxd := decide_eq_true hx
    rw [hxd, Bool.true_and] at hst2
    clear hxd
    generalize turnB m r c = tb at *
    replace hst := trivial
    have hst3 := Lib.hid hst2
    replace hst2 := hst3
    go_wp2_with fail
    refine wp_region_canon (fun w' => Ext w4 w') [(0, true), (1, true), (2, true), (3, true), (4, true), (5, true), (6, true), (7, true), (8, true), (9, true), (10, true), (11, true), (12, true), (13, true), (14, true), (15, true), (16, true), (17, false), (18, true)] (by kernel_rfl) (by kernel_rfl) (by decide) (by kernel_rfl) ?_ ?_
    ·exact eX
    refine canon_intro fun ops eo => ?_
    replace eo := canon_eo eo
    iterate 6 all_goals (refine cS eo rfl rfl evE ?_; simp only [ptN])
    iterate 11 all_goals ((first | refine cU eo rfl rfl rfl rfl rfl ?_ | refine cX eo rfl rfl rfl rfl rfl ?_ | refine cW eo rfl rfl rfl rfl rfl evE ?_); simp only [ptN])
    all_goals first | (refine canon_efu (eo.out 17 rfl) rfl (eo.out _ rfl) rfl rfl (by first | assumption | exact eX) ?_; simp only [ptN]) | (refine canon_efx (eo.out 17 rfl) rfl (eo.out _ rfl) rfl rfl (by first | assumption | exact eX) ?_; simp only [ptN]) | (refine canon_efw (eo.out 17 rfl) rfl (eo.out _ rfl) rfl rfl (fun K hK => ?_); go_simp; ((go_at_call 151; (with_reducible refine (htn.out _).mono ?_); rintro e w7 ⟨⟨hP', rfl⟩ | ⟨hP', rfl⟩, rfl⟩)); all_goals (refine hK _ _ ⟨eX, ?_⟩; clear hK K; go_simp)) | (refine canon_efw (eo.out 17 rfl) rfl (eo.out _ rfl) rfl rfl (fun K hK => ?_); go_simp; (skip); all_goals (refine hK _ _ ⟨eX, ?_⟩; clear hK K; go_simp))
    all_goals (refine cS eo rfl rfl evE ?_; simp only [ptN])
    all_goals (clear eo; refine canon_done (NoPanic.normal ?_))
    ·have hst2 := hst3.out
     rw [if_pos hP'] at hst2
     replace hst2 := Lib.hid hst2
     have hX7 : Ext w4 w4.drew := (Ext.refl w4).drew
     have ow8 := hset.out _ (1 - x) (ow.ext hX7)
     have hb8 : But b w4 (w4.drew.setCell ⟨b, o + qi, none⟩ (.int .i64 (1 - x))) := (But.refl b w4).drew.setG _
     have z1 : w4.drew.cell? ⟨b, o + qi, none⟩ = some (.int .i64 x) := y1
     have z2 : w4.drew.frozen? ⟨b, o + qi, none⟩ = false := y1f
     have z3 : b < w4.drew.heap.size := l1
     generalize w4.drew = w5 at *
     clear v0 v1 vl
     go_wp2
     go_roundw
     case rel => exact ⟨j + 1, hlt, by go_num, by rw [hst2.out]; exact ow8, hG.but hb8 hg5, hR.but hb8 hr5, SAt.butF hA hb8 hpb.out, hxt.but hb8 hwb⟩
     case measure => simp [intOf]; omega
    ·have hst2 := hst3.out
     rw [if_neg hP'] at hst2
     replace hst2 := Lib.hid hst2
     go_wp2
     go_roundw
     case rel => exact ⟨j + 1, hlt, by go_num, by rw [hst2.out]; exact ow.ext eX, hG.ext eX, hR.ext eX, SAt.ext hA eX, hxt.trans eX⟩
     case measure => simp [intOf]; omega
   ·have hst2 := hst.out
    have hxd := decide_eq_false hx
    rw [hxd, Bool.false_and, if_neg (by simp)] at hst2
    replace hst2 := Lib.hid hst2
    go_wp2_with fail
    refine wp_region_canon (fun w' => Ext w4 w') [(0, true), (1, true), (2, true), (3, true), (4, true), (5, true), (6, true), (7, true), (8, true), (9, true), (10, true), (11, true), (12, true), (13, true), (14, true), (15, true), (16, true), (17, false), (18, true)] (by kernel_rfl) (by kernel_rfl) (by decide) (by kernel_rfl) ?_ ?_
    ·exact eX
    refine canon_intro fun ops eo => ?_
    replace eo := canon_eo eo
    iterate 6 all_goals (refine cS eo rfl rfl evE ?_; simp only [ptN])
    iterate 11 all_goals ((first | refine cU eo rfl rfl rfl rfl rfl ?_ | refine cX eo rfl rfl rfl rfl rfl ?_ | refine cW eo rfl rfl rfl rfl rfl evE ?_); simp only [ptN])
    all_goals first | (refine canon_efu (eo.out 17 rfl) rfl (eo.out _ rfl) rfl rfl (by first | assumption | exact eX) ?_; simp only [ptN]) | (refine canon_efx (eo.out 17 rfl) rfl (eo.out _ rfl) rfl rfl (by first | assumption | exact eX) ?_; simp only [ptN]) | (refine canon_efw (eo.out 17 rfl) rfl (eo.out _ rfl) rfl rfl (fun K hK => ?_); go_simp; (skip); all_goals (refine hK _ _ ⟨eX, ?_⟩; clear hK K; go_simp))
    all_goals (refine cS eo rfl rfl evE ?_; simp only [ptN])
    all_goals (clear eo; refine canon_done (NoPanic.normal ?_))
    go_wp2
    go_roundw
    case rel => exact ⟨j + 1, hlt, by go_num, by rw [hst2.out]; exact ow.ext eX, hG.ext eX, hR.ext eX, SAt.ext hA eX, hxt.trans eX⟩
    case measure => simp [intOf]; omega
  ·obtain rfl : j = P := by omega
   rw [← hfin.out] at ow
   have hmlF : (mskL m n xs).length = Nn := by rw [hfin.out, hml.out, hNn.out]
   obtain ⟨g0, g1, g2⟩ := hG.c3; have gl := hG.lt
   obtain ⟨z0, z1, z2⟩ := hR.c3; have zl := hR.lt; have zf := hR.free
   have hFB := ((hR.set 0 (.int .i64 n)).set 1 (.int .i64 n)).set 2 (.slice (some ⟨b, o, none⟩) Nn kq)
   have C0 := Lib.hid (hFB.cell (i := 0) (v := .int .i64 n) rfl); have C1 := Lib.hid (hFB.cell (i := 1) (v := .int .i64 n) rfl); have C2 := Lib.hid (hFB.cell (i := 2) (v := .slice (some ⟨b, o, none⟩) Nn kq) rfl)
   have hx9 := Lib.hid (((hxt.setCell (p := ⟨w.heap.size + 1, 0, none⟩) (Nat.le_succ _) (.int .i64 n)).setCell (p := ⟨w.heap.size + 1, 1, none⟩) (Nat.le_succ _) (.int .i64 n)).setCell (p := ⟨w.heap.size + 1, 2, none⟩) (Nat.le_succ _) (.slice (some ⟨b, o, none⟩) Nn kq))
   have ow9 := Lib.hid (((ow.setFarN (g := w.heap.size + 1) (i := 0) (v := .int .i64 n) (by omega)).setFarN (g := w.heap.size + 1) (i := 1) (v := .int .i64 n) (by omega)).setFarN (g := w.heap.size + 1) (i := 2) (v := .slice (some ⟨b, o, none⟩) Nn kq) (by omega))
   replace hmlF := Lib.hid hmlF
   clear hFB hG hR ow hA hxt
   go_wp2_with fail
   have c0 := C0.out; have c1 := C1.out; have c2 := C2.out
   exact bodyPost_ret (v := vGrid n n (some ⟨b, o, none⟩) Nn kq) (by simp [results, Tryz.results104, go_sem, c0, c1, c2]) rfl ⟨⟨some ⟨b, o, none⟩, kq, by rw [hmlF.out], ow9.out.mono hwb, by rw [hmlF.out]; exact hkq⟩, hx9.out⟩
end Go.Proofs.YtojdediohjghnaaGreatDoor
