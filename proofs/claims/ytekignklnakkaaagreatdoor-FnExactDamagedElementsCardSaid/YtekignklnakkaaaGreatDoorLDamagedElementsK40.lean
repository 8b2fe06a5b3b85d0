/- Elements of a matrix symbol, the reference's side. -/
import Derived.Test.YtekignklnakkaaaGreatDoorLDamagedElementsK37
import Derived.Test.YtekignklnakkaaaGreatDoorLDamagedElementsK17
import Derived.Test.YtekignklnakkaaaGreatDoorLDamagedElementsK35
set_option linter.unusedVariables false
set_option linter.unusedSimpArgs false
namespace Go.Proofs.YtekignklnakkaaaGreatDoor
open Go.RowKit

theorem cellsL_at {n : Nat} {xs : List Int} {ps : List (Int × Int)} {k : Nat} (h : k < ps.length) : (cellsL n xs ps).getD k 0 = xs.getD (plIx n (ps.getD k (0, 0))) 0 := by
  unfold cellsL
  rw [List.getD_eq_getElem?_getD, List.getElem?_map, List.getD_eq_getElem?_getD (l := ps), List.getElem?_eq_getElem h]
  rfl
set_option maxHeartbeats 1600000 in
set_option maxRecDepth 100000 in
theorem l15Take_c (n wd kc : Nat) (p : Option Addr) (xs : List Int) (w : World) (hn : 17 ≤ n ∧ n ≤ 41) (h4 : n % 4 = 1) (hx : IntsAt w p xs) (hlen : xs.length = n * n) (hw1 : 1 ≤ wd) (hw8 : wd ≤ 8) (hbd : ∀ x ∈ xs, -1 ≤ x ∧ x ≤ 1) :
    Calls Tryz.prog 74 #[vGrid n n p (n * n) kc, .int .i64 wd] w fun e w' => StE w.heap.size w' (elemsV wd (cellsL n xs (dpL n)) ((dpL n).length / wd)) e ∧ Ext w w' := by
  have HX := Lib.hid hx; clear hx
  have hN : n * n ≤ 1681 := Nat.mul_le_mul hn.2 hn.2
  have hml := dpL_len hn.2
  have hdb := Lib.hid (fun a k => elTo_small (cellsL_fm (n := n) (ps := dpL n) hbd) a (k := k))
  have hab := Lib.hid (fun k => at_bd (cellsL_fm (n := n) (ps := dpL n) hbd) k)
  have hpl := Lib.hid (fun W => sPlaces_c n W hn h4)
  have hmp := Lib.hid (fun k (hk : k < (dpL n).length) => mask_pl hn h4 (j := k) hk)
  have hca := Lib.hid (fun k (hk : k < (dpL n).length) => cellsL_at (n := n) (xs := xs) hk)
  have hp2 := Lib.hid (fun W pp k (hk : k < (dpL n).length) (h : PlAt W pp (dpL n)) => SAt.pl2 h hk)
  obtain ⟨m, hm⟩ : ∃ m, (dpL n).length = m := ⟨_, rfl⟩
  have hdl : (cellsL n xs (dpL n)).length = m := by rw [← hm]; simp [cellsL]
  rw [hm] at hml hmp hca hp2 ⊢
  obtain ⟨ds, hds⟩ : ∃ ds, cellsL n xs (dpL n) = ds := ⟨_, rfl⟩
  rw [hds] at hca hdl hdb hab ⊢
  obtain ⟨ps, hps⟩ : ∃ ps, dpL n = ps := ⟨_, rfl⟩
  rw [hps] at hmp hca hp2
  replace hm := Lib.hid hm; replace hds := Lib.hid hds; replace hdl := Lib.hid hdl; replace hlen := Lib.hid hlen; replace hps := Lib.hid hps
  clear hbd
  obtain ⟨N, hNn⟩ : ∃ N, n * n = N := ⟨_, rfl⟩
  rw [hNn] at hN hmp hlen ⊢
  replace hNn := Lib.hid hNn
  have hb0 := Blk.new w #[.int .i64 n, .int .i64 n, .slice p N kc] 37
  have hx0 : Ext w (w.alloc (.cells #[.int .i64 n, .int .i64 n, .slice p N kc] 37)) := (Ext.refl w).alloc _
  have f0 := hb0.cell (i := 0) (v := .int .i64 n) rfl; have fl := hb0.lt
  go_enter Tryz.func74, Tryz.ntmps74
  go_upto_region 1 with (fail)
  generalize w.alloc (.cells #[.int .i64 n, .int .i64 n, .slice p N kc] 37) = w0 at *
  go_upto_region 2 with (go_at_call 115; (with_reducible refine (hpl.out _).mono ?_); rintro e w1 ⟨⟨v1, rfl, hr1⟩, hx1⟩; obtain ⟨pp, cp, hv1, hA1, hf1⟩ := hr1.nfree plF_len; rw [hm.out] at hv1; rw [hps.out] at hA1; subst hv1)
  have hxa := hx0.trans hx1
  have hG1 := hb0.ext hx1
  have hI := HX.out.ext hxa
  have hT0 : TwoE w1.heap.size ((w1.alloc (.cells #[] 2)).alloc (.cells #[] 2)) (.slice (some ⟨w1.heap.size, 0, none⟩) 0 0) (.slice (some ⟨w1.heap.size + 1, 0, none⟩) 0 0) (elemsV wd ds 0) := TwoE.start (Nat.le_refl _)
  have hx2 : Ext w1 ((w1.alloc (.cells #[] 2)).alloc (.cells #[] 2)) := ((Ext.refl _).alloc _).alloc _
  have hBg := hxa.below.size
  clear f0 fl hb0 hx0 hx1 hpl HX hr1 hf1
  obtain ⟨gG, hgG⟩ : ∃ g, w.heap.size = g := ⟨_, rfl⟩
  rw [hgG] at hG1 ⊢
  clear hgG
  go_upto_region 4 with (fail)
  obtain ⟨wo, rfl⟩ : ∃ wo : World, wo = w1 := ⟨_, rfl⟩
  generalize (wo.alloc (.cells #[] 2)).alloc (.cells #[] 2) = w2 at *
  generalize Value.slice (some ⟨wo.heap.size, 0, none⟩) 0 0 = v4 at *
  generalize Value.slice (some ⟨wo.heap.size + 1, 0, none⟩) 0 0 = v5 at *
  go_loopw [7, 8, 9] (fun x7 x8 i wr => ∃ j A : Nat, j * wd = A ∧ A ≤ m ∧ i = .int .i64 A ∧ TwoE wo.heap.size wr x7 x8 (elemsV wd ds j) ∧ Ext wo wr) (fun _ _ i _ => m + 10 - (intOf i).toNat)
  case atStart => exact ⟨0, 0, Nat.zero_mul _, Nat.zero_le _, rfl, hT0, hx2⟩
  case round =>
    clear hT0 hx2
    obtain ⟨j, A, hA, hAm, rfl, hT, hext⟩ := hrel
    have hmore := more_iff (w := wd) (n := m) (j := j) (by omega)
    have hnd := Nat.div_mul_le_self m wd
    by_cases hlt : A + wd ≤ m
    · have hsu := elemsV_succ wd ds j
      rw [hA] at hsu
      have hA9 : (j + 1) * wd = A + wd := by rw [Nat.add_mul, Nat.one_mul, hA]
      have hdiv : (A : Int).tdiv (wd : Int) = (j : Int) := by
        rw [Int.tdiv_eq_ediv_of_nonneg (by omega), ← hA]
        exact (by rw [show ((j * wd : Nat) : Int) = (j : Int) * (wd : Int) from by simp]; exact Int.mul_ediv_cancel _ (by omega))
      have hdiv2 : (A : Int) / (wd : Int) = (j : Int) := by
        rw [← hA, show ((j * wd : Nat) : Int) = (j : Int) * (wd : Int) from by simp]; exact Int.mul_ediv_cancel _ (by omega)
      have hel := elemsV_len wd ds j
      have hjm : j ≤ 1681 := by have : j * 1 ≤ j * wd := Nat.mul_le_mul_left _ hw1; omega
      obtain ⟨F1, hF1⟩ : ∃ F1, elemsV wd ds j = F1 := ⟨_, rfl⟩
      rw [hF1] at hT hsu hel
      have hFl : F1.length ≤ 1681 := by omega
      have hw0 : ¬ wd = 0 := by omega
      replace hel := Lib.hid hel; replace hdiv := Lib.hid hdiv; replace hdiv2 := Lib.hid hdiv2
      replace hF1 := Lib.hid hF1; replace hsu := Lib.hid hsu; replace hA := Lib.hid hA; replace hA9 := Lib.hid hA9
      clear hmore hnd
      go_upto_region 8 with (fail)
      obtain ⟨wi, rfl⟩ : ∃ wi : World, wi = wr := ⟨_, rfl⟩
      go_loopw [10, 11] (fun x i wr => ∃ K : Nat, (A ≤ K ∧ K ≤ A + wd) ∧ x = .int .i64 (elTo ds A (K - A)) ∧ i = .int .i64 K ∧ Ext wi wr) (fun _ i _ => A + wd - (intOf i).toNat)
      case atStart => exact ⟨A, ⟨Nat.le_refl _, by omega⟩, by rw [Nat.sub_self]; rfl, rfl, Ext.refl _⟩
      case round =>
        obtain ⟨K, ⟨hK1, hK2⟩, rfl, rfl, hxi⟩ := hrel
        have hxb := hdb.out A (K - A) (by omega)
        by_cases hltq : K < A + wd
        · have hst := elTo_s ds A (K - A)
          rw [show K - A + 1 = K + 1 - A by omega, show A + (K - A) = K by omega] at hst
          have hvb := hab.out K
          have hKm : K < m := by omega
          obtain ⟨r, c, ix, hpe, hr, hc, hq1, hq2, hq3, hq4⟩ := hmp.out K hKm
          obtain ⟨bp, op, rfl, hbp, u0, u1⟩ := hp2.out wr pp K hKm (SAt.ext hA1 (hext.trans hxi))
          have hcx := hca.out K hKm
          rw [hpe] at u0 u1 hcx
          simp only at u0 u1
          rw [hq4] at hcx
          obtain ⟨b, o, rfl, hbl, y0⟩ := (hI.ext (hext.trans hxi)) ix (by rw [hlen.out]; exact hq2)
          rw [← hcx] at y0
          clear hcx
          have hG := hG1.ext (hext.trans hxi)
          have q1 := hG.cell (i := 1) (v := .int .i64 n) rfl; have q2 := hG.cell (i := 2) (v := .slice (some ⟨b, o, none⟩) N kc) rfl; have ql := hG.lt
          generalize ds.getD K 0 = v at *
          generalize elTo ds A (K - A) = x at *
          obtain ⟨M, hM⟩ : ∃ M : Int, r * (n : Int) = M := ⟨_, rfl⟩
          rw [hM] at hq1 hq3
          have e1 := IntWalk.i64_in M (by omega)
          have e2 := IntWalk.i64_in (ix : Int) (by omega)
          have hqN : (ix : Int) < (N : Int) := by omega
          go_upto_region 10 with (fail)
          refine wp_region_canon (fun w' => Ext wr w') [(0, true), (1, true), (2, true), (3, true), (4, true), (5, true), (6, true), (7, true), (8, true), (9, true), (10, true), (11, true), (12, true), (13, true), (14, true), (15, true), (16, true), (17, true), (18, true)] (by kernel_rfl) (by kernel_rfl) (by decide) (by kernel_rfl) ?_ ?_
          · exact eX
          refine canon_intro fun ops eo => ?_
          have ho0 := canon_at eo 0 rfl
          have ho1 := canon_at eo 1 rfl
          have ho2 := canon_at eo 2 rfl
          have ho3 := canon_at eo 3 rfl
          have ho4 := canon_at eo 4 rfl
          have ho5 := canon_at eo 5 rfl
          have ho6 := canon_at eo 6 rfl
          have ho7 := canon_at eo 7 rfl
          have ho8 := canon_at eo 8 rfl
          have ho9 := canon_at eo 9 rfl
          have ho10 := canon_at eo 10 rfl
          have ho11 := canon_at eo 11 rfl
          have ho12 := canon_at eo 12 rfl
          have ho13 := canon_at eo 13 rfl
          have ho14 := canon_at eo 14 rfl
          have ho15 := canon_at eo 15 rfl
          have ho16 := canon_at eo 16 rfl
          have ho17 := canon_at eo 17 rfl
          have ho18 := canon_at eo 18 rfl
          clear eo
          all_goals (apply canon_st ho0 rfl; exact evE; simp only [ptN])
          all_goals clear ho0
          all_goals (apply canon_st ho1 rfl; exact evE; simp only [ptN])
          all_goals clear ho1
          all_goals (apply canon_st ho2 rfl; exact evE; simp only [ptN])
          all_goals clear ho2
          all_goals (apply canon_st ho3 rfl; exact evE; simp only [ptN])
          all_goals clear ho3
          all_goals (apply canon_st ho4 rfl; exact evE; simp only [ptN])
          all_goals clear ho4
          all_goals (apply canon_st ho5 rfl; exact evE; simp only [ptN])
          all_goals clear ho5
          all_goals (apply canon_st ho6 rfl; exact evE; simp only [ptN])
          all_goals clear ho6
          all_goals (apply canon_st ho7 rfl; exact evE; simp only [ptN])
          all_goals clear ho7
          all_goals (apply canon_st ho8 rfl; exact evE; simp only [ptN])
          all_goals clear ho8
          all_goals (apply canon_st ho9 rfl; exact evE; simp only [ptN])
          all_goals clear ho9
          all_goals (apply canon_st ho10 rfl; exact evE; simp only [ptN])
          all_goals clear ho10
          all_goals (apply canon_st ho11 rfl; exact evE; simp only [ptN])
          all_goals clear ho11
          all_goals (apply canon_st ho12 rfl; exact evE; simp only [ptN])
          all_goals clear ho12
          all_goals (apply canon_st ho13 rfl; exact evE; simp only [ptN])
          all_goals clear ho13
          all_goals (apply canon_st ho14 rfl; exact evE; simp only [ptN])
          all_goals clear ho14
          all_goals (apply canon_st ho15 rfl; exact evE; simp only [ptN])
          all_goals clear ho15
          all_goals (apply canon_st ho16 rfl; exact evE; simp only [ptN])
          all_goals clear ho16
          all_goals (apply canon_st ho17 rfl; exact evE; simp only [ptN])
          all_goals clear ho17
          all_goals (apply canon_st ho18 rfl; exact evE; simp only [ptN])
          all_goals clear ho18
          all_goals refine canon_done (NoPanic.normal ?_)
          have hxi2 : Ext wi wr.drew := hxi.drew
          by_cases hv : v < 0
          · rw [stepE_no (.inl hv)] at hst
            replace hst := Lib.hid hst
            go_wp2
            go_roundw
            case rel => exact ⟨K + 1, ⟨by omega, by omega⟩, by rw [hst.out], by go_num, hxi2⟩
            case measure => simp [intOf]; omega
          · by_cases hxn : x < 0
            · rw [stepE_no (.inr hxn)] at hst
              replace hst := Lib.hid hst
              go_wp2
              go_roundw
              case rel => exact ⟨K + 1, ⟨by omega, by omega⟩, by rw [hst.out], by go_num, hxi2⟩
              case measure => simp [intOf]; omega
            · rw [stepE_yes (fun h => h.elim hv hxn)] at hst
              replace hst := Lib.hid hst
              go_wp2
              go_roundw
              case rel => exact ⟨K + 1, ⟨by omega, by omega⟩, by rw [hst.out], by go_num, hxi2⟩
              case measure => simp [intOf]; omega
        · obtain rfl : K = A + wd := by omega
          rw [show A + wd - A = wd by omega] at hxb ⊢
          generalize elTo ds A wd = v at *
          obtain ⟨e5, e6, e7⟩ := hT.ext hxi
          have hpl := pos0_len F1
          have hnl := negs_len F1
          have hextr := hext.trans hxi
          have hwB := hextr.size
          have hv4 := e5.lt
          have hv5 := e6.lt
          have e7' : ∀ k, u7.ownBlock = some k → u8.ownBlock ≠ some k := fun k h1 h2 => e7 k h2 h1
          obtain ⟨p4, c4, rfl, -, -⟩ := e5.ownC
          rw [hpl] at *
          have hpb : (pos0 F1).length ≤ 100000 := by rw [pos0_len]; omega
          have hnb : (negs F1).length ≤ 100000 := by omega
          replace e7' := Lib.hid e7'
          replace e7 := Lib.hid e7
          by_cases hneg : v < 0
          · have hP := Lib.hid (show pos0 (F1 ++ [v]) = pos0 F1 ++ [max 0 v] from by rw [pos0_app])
            have hN2 := Lib.hid (show negs (F1 ++ [v]) = negs F1 ++ [(j : Int)] from by rw [negs_up (l := F1) hneg, hel.out])
            have hdv1 := hdiv.out; have hdv2 := hdiv2.out
            go_wp2_with (first
              | (at_builtin; go_loud (refine append_two e6 e5 e7'.out hnb hwB ?_ rfl rfl); intro v6 w6 k1 k2 k3 hg6; have hB6 := Nat.le_trans hwB hg6.by_.size; have hx6 := hg6.toExt hextr (fun k h => (hv5 k h).1))
              | (at_builtin; go_loud (refine append_two k2 k1 (fun k h1 h2 => k3 k h2 h1) hpb hB6 ?_ rfl rfl); intro v7 w7 m1 m2' m3 hg7))
            exact ⟨⟨j + 1, A + wd, hA9.out, hlt, by go_num, ⟨by rw [hsu.out, hP.out]; exact m1, by rw [hsu.out, hN2.out]; exact m2', m3⟩, hg7.toExt hx6 (fun k h => (hv4 k h).1)⟩, by simp [intOf]; omega⟩
          · have hP := Lib.hid (show pos0 (F1 ++ [v]) = pos0 F1 ++ [max 0 v] from by rw [pos0_app])
            have hN2 := Lib.hid (negs_no (l := F1) hneg)
            go_wp2_with (at_builtin; go_loud (refine append_two e5 e6 e7.out hpb hwB ?_ rfl rfl); intro v7 w7 m1 m2' m3 hg7)
            exact ⟨⟨j + 1, A + wd, hA9.out, hlt, by go_num, ⟨by rw [hsu.out, hP.out]; exact m1, by rw [hsu.out, hN2.out]; exact m2', m3⟩, hg7.toExt hextr (fun k h => (hv4 k h).1)⟩, by simp [intOf]; omega⟩
    · have hjm2 : j = m / wd := by
        have h1 : ¬ j < m / wd := fun h => hlt (by have := hmore.1 h; omega)
        have h2 : j ≤ m / wd := (Nat.le_div_iff_mul_le (by omega)).2 (by omega)
        omega
      rw [hjm2] at hT
      go_wp2
      exact bodyPost_ret (v := .tuple #[u7, u8]) (by simp [results, Tryz.results74, go_sem]) rfl ⟨StE.of (hT.low hBg), hxa.trans hext⟩
end Go.Proofs.YtekignklnakkaaaGreatDoor
