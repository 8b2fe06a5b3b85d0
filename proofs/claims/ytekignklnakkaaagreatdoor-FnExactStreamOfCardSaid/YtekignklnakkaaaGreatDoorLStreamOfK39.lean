/- Elements of a matrix symbol, the program's side. -/
import Derived.Test.YtekignklnakkaaaGreatDoorLStreamOfK37
import Derived.Test.YtekignklnakkaaaGreatDoorLStreamOfK38
import Derived.Test.YtekignklnakkaaaGreatDoorLStreamOfK16
import Derived.Test.YtekignklnakkaaaGreatDoorLStreamOfK20
set_option linter.unusedVariables false
set_option linter.unusedSimpArgs false
namespace Go.Proofs.YtekignklnakkaaaGreatDoor
open Go.RowKit

theorem or_step {x b : Int} (hx : 0 ≤ x ∧ x < 1000) (hb : 0 ≤ b ∧ b ≤ 1) : bits .or .i64 (x * 2) b = 2 * x + b := by
  obtain ⟨X, rfl⟩ : ∃ X : Nat, x = X := ⟨x.toNat, by omega⟩
  obtain ⟨c, rfl⟩ : ∃ c : Nat, b = c := ⟨b.toNat, by omega⟩
  have h := bits_or_nat (2 * X) c (by omega) (by omega)
  rw [show (2 * X) ||| c = 2 * X + c from by rw [← shl1_or (a := X) (show c ≤ 1 by omega), Nat.shiftLeft_eq]; congr 1; omega] at h
  rw [show (X : Int) * 2 = ((2 * X : Nat) : Int) from by omega, h]
  omega
theorem elTo_small {ds : List Int} (hb : ∀ x ∈ ds, -1 ≤ x ∧ x ≤ 1) (a : Nat) {k : Nat} (hk : k ≤ 8) : -1 ≤ elTo ds a k ∧ elTo ds a k ≤ 255 := by
  have h := elTo_bd hb a k
  have h2 : (2 : Nat) ^ k ≤ 2 ^ 8 := Nat.pow_le_pow_right (by omega) hk
  omega
set_option maxHeartbeats 1600000 in
set_option maxRecDepth 100000 in
theorem takeElements_c (n wd kc : Nat) (p : Option Addr) (xs : List Int) (w : World) (hn : 17 ≤ n ∧ n ≤ 41) (h4 : n % 4 = 1) (hx : IntsAt w p xs) (hlen : xs.length = n * n) (hw1 : 1 ≤ wd) (hw8 : wd ≤ 8) (hbd : ∀ x ∈ xs, -1 ≤ x ∧ x ≤ 1) :
    Calls Tryz.prog 79 #[vGrid n n p (n * n) kc, .int .i64 wd] w fun e w' => StE w.heap.size w' (elemsV wd (cellsL n xs (dpL n)) ((dpL n).length / wd)) e ∧ Ext w w' := by
  have HX := Lib.hid hx; clear hx
  have hml := dpL_len hn.2
  have hdb := Lib.hid (fun a k => elTo_small (cellsL_fm (n := n) (ps := dpL n) hbd) a (k := k))
  have hab := Lib.hid (fun k => at_bd (cellsL_fm (n := n) (ps := dpL n) hbd) k)
  have hpl := Lib.hid (fun W => iPlaces_c n W hn h4)
  obtain ⟨m, hm⟩ : ∃ m, (dpL n).length = m := ⟨_, rfl⟩
  have hca := Lib.hid (fun q c W (h : IntsAt W p xs) (h2 : PlAt W q (dpL n)) => cellsAt_c n kc m c p q xs (dpL n) W hn h hlen h2 hm (by omega) (dpL_bd hn h4))
  have hdl : (cellsL n xs (dpL n)).length = m := by rw [← hm]; simp [cellsL]
  rw [hm] at hml ⊢
  obtain ⟨ds, hds⟩ : ∃ ds, cellsL n xs (dpL n) = ds := ⟨_, rfl⟩
  rw [hds] at hca hdl hdb hab ⊢
  replace hm := Lib.hid hm; replace hds := Lib.hid hds; replace hdl := Lib.hid hdl; replace hlen := Lib.hid hlen
  clear hbd
  have hb0 := Blk.new w #[.int .i64 n, .int .i64 n, .slice p (n * n) kc] 37
  have hx0 : Ext w (w.alloc (.cells #[.int .i64 n, .int .i64 n, .slice p (n * n) kc] 37)) := (Ext.refl w).alloc _
  obtain ⟨f0, f1, f2⟩ := hb0.c3; have fl := hb0.lt
  go_enter Tryz.func79, Tryz.ntmps79
  go_upto_region 1 with (fail)
  generalize w.alloc (.cells #[.int .i64 n, .int .i64 n, .slice p (n * n) kc] 37) = w0 at *
  go_cut [6] (fun s wx => ∃ g, s = .slice (some ⟨g, 0, none⟩) m m ∧ IntsAt wx (some ⟨g, 0, none⟩) ds ∧ Ext w0 wx)
  case first =>
    rename_i J1 K1 hJ1 hK1
    refine wp_region_canon (fun w' => Ext w0 w') [(0, true), (1, true), (2, true), (3, false), (4, false), (5, true)] (by kernel_rfl) (by kernel_rfl) (by decide) (by kernel_rfl) ?_ ?_
    · exact eX
    refine canon_intro fun ops eo => ?_
    have ho0 := canon_at eo 0 rfl
    have ho1 := canon_at eo 1 rfl
    have ho2 := canon_at eo 2 rfl
    have ho3 := canon_at eo 3 rfl
    have ho4 := canon_at eo 4 rfl
    have ho5 := canon_at eo 5 rfl
    clear eo
    all_goals (apply canon_st ho0 rfl; (intro w2 hS; first | (go_simp; first | done | rfl) | rfl | (obtain ⟨hc', hf', hk', hz⟩ := ecell hS; go_simp; first | done | rfl)); simp only [ptN])
    all_goals clear ho0
    all_goals (apply canon_st ho1 rfl; (intro w2 hS; first | (go_simp; first | done | rfl) | rfl | (obtain ⟨hc', hf', hk', hz⟩ := ecell hS; go_simp; first | done | rfl)); simp only [ptN])
    all_goals clear ho1
    all_goals (apply canon_st ho2 rfl; (intro w2 hS; first | (go_simp; first | done | rfl) | rfl | (obtain ⟨hc', hf', hk', hz⟩ := ecell hS; go_simp; first | done | rfl)); simp only [ptN])
    all_goals clear ho2
    all_goals first | (refine canon_ef ho3 rfl (fun K hK => ?_); go_simp; ((go_at_call 125; (with_reducible refine (hpl.out _).mono ?_); rintro e w1 ⟨⟨v1, rfl, hr1⟩, hx1⟩; obtain ⟨pp, cp, hv1, hA1, hf1⟩ := hr1.nfree plF_len; rw [hm.out] at hv1; subst hv1)); all_goals (refine hK _ _ ⟨eX, ?_⟩; clear hK K; go_simp))
    all_goals clear ho3
    all_goals first | (refine canon_ef ho4 rfl (fun K hK => ?_); go_simp; ((go_at_call 124; (with_reducible refine (hca.out pp cp _ (HX.out.ext (hx0.trans eX)) (hA1.ext eX)).mono ?_); rintro e w2 ⟨⟨g, rfl, hg⟩, hx2⟩)); all_goals (refine hK _ _ ⟨eX, ?_⟩; clear hK K; go_simp))
    all_goals clear ho4
    all_goals (apply canon_st ho5 rfl; (intro w2 hS; first | (go_simp; first | done | rfl) | rfl | (obtain ⟨hc', hf', hk', hz⟩ := ecell hS; go_simp; first | done | rfl)); simp only [ptN])
    all_goals clear ho5
    all_goals refine canon_done (NoPanic.normal ?_)
    refine hK1 _ _ (hJ1 _ _ ?_)
    (repeat apply Exists.intro)
    refine ⟨?_, rfl⟩
    exact ⟨_, rfl, hg.ints, eX⟩
  case rest =>
    obtain ⟨g, rfl, hI, hxw⟩ := hcut
    have hxa := hx0.trans hxw
    have hgl : 0 < m → g < wc.heap.size := fun h => (hI.cellN (m := 0) (by rw [hdl.out]; exact h)).1
    have hT0 : TwoE wc.heap.size ((wc.alloc (.cells #[] 2)).alloc (.cells #[] 2)) (.slice (some ⟨wc.heap.size, 0, none⟩) 0 0) (.slice (some ⟨wc.heap.size + 1, 0, none⟩) 0 0) (elemsV wd ds 0) := TwoE.start (Nat.le_refl _)
    have hx2 : Ext wc ((wc.alloc (.cells #[] 2)).alloc (.cells #[] 2)) := ((Ext.refl _).alloc _).alloc _
    clear f0 f1 f2 fl hb0 hx0 hxw hpl hca HX
    go_upto_region 4 with (fail)
    obtain ⟨wo, rfl⟩ : ∃ wo : World, wo = wc := ⟨_, rfl⟩
    generalize (wo.alloc (.cells #[] 2)).alloc (.cells #[] 2) = w2 at *
    generalize Value.slice (some ⟨wo.heap.size, 0, none⟩) 0 0 = v4 at *
    generalize Value.slice (some ⟨wo.heap.size + 1, 0, none⟩) 0 0 = v5 at *
    go_loopw [7, 8, 9] (fun x7 x8 i wr => ∃ j A : Nat, j * wd = A ∧ A ≤ m ∧ i = .int .i64 A ∧ TwoE wo.heap.size wr x7 x8 (elemsV wd ds j) ∧ Ext wo wr) (fun _ _ i _ => m + 10 - (intOf i).toNat)
    case atStart => exact ⟨0, 0, Nat.zero_mul _, Nat.zero_le _, rfl, hT0, hx2⟩
    case round =>
      clear hT0 hx2
      obtain ⟨j, A, hA, hAm, rfl, hT, hext⟩ := hrel
      have hmore := more_iff (w := wd) (n := m) (j := j) (by omega)
      have hnd := Nat.div_mul_le_self m wd
      by_cases hlt : A + wd ≤ m
      · have hsu := elemsV_succ wd ds j
        rw [hA] at hsu
        have hA1 : (j + 1) * wd = A + wd := by rw [Nat.add_mul, Nat.one_mul, hA]
        have hel := elemsV_len wd ds j
        have hjm : j ≤ 1681 := by have : j * 1 ≤ j * wd := Nat.mul_le_mul_left _ hw1; omega
        obtain ⟨F1, hF1⟩ : ∃ F1, elemsV wd ds j = F1 := ⟨_, rfl⟩
        rw [hF1] at hT hsu hel
        have hFl : F1.length ≤ 1681 := by omega
        replace hel := Lib.hid hel
        replace hF1 := Lib.hid hF1; replace hsu := Lib.hid hsu; replace hA := Lib.hid hA; replace hA1 := Lib.hid hA1
        clear hmore hnd
        have hsl : ∀ W, (Instr.slice 24 (.slice (some ⟨g, 0, none⟩) m m) (some (.int .i64 (A : Int))) (some (.int .i64 ((A : Int) + (wd : Int)))) none).run Tryz.prog W = .ok (.slice (some ⟨g, A, none⟩) wd (m - A)) W := fun W => by
          have := Lib.run_slice_window (P := Tryz.prog) W 24 2 Tryz.underlying24 (fun w => by kernel_rfl) g 0 m m A (A + wd) (by omega) (by omega)
          rwa [Nat.zero_add, show A + wd - A = wd by omega, show (((A + wd : Nat)) : Int) = (A : Int) + (wd : Int) from by omega] at this
        have hIr := hI.ext hext
        go_upto_region 8 with (fail)
        obtain ⟨wi, rfl⟩ : ∃ wi : World, wi = wr := ⟨_, rfl⟩
        go_loopw [10, 36] (fun x i wr => ∃ q : Nat, q ≤ wd ∧ x = .int .i64 (elTo ds A q) ∧ i = .int .i64 q ∧ wr = wi) (fun _ i _ => wd - (intOf i).toNat)
        case atStart => exact ⟨0, Nat.zero_le _, rfl, rfl, rfl⟩
        case round =>
          obtain ⟨q, hq, rfl, rfl, rfl⟩ := hrel
          have hxb := hdb.out A q (by omega)
          by_cases hltq : q < wd
          · obtain ⟨k1, k2⟩ := hIr.cellN (m := A + q) (by rw [hdl.out]; omega)
            rw [Nat.zero_add] at k2
            have hst := elTo_s ds A q
            have hvb := hab.out (A + q)
            generalize ds.getD (A + q) 0 = v at *
            generalize elTo ds A q = x at *
            by_cases hv : v < 0
            · rw [stepE_no (.inl hv)] at hst
              replace hst := Lib.hid hst
              go_wp2
              exact ⟨⟨q + 1, hltq, by rw [hst.out], by go_num, trivial⟩, by simp [intOf]; omega⟩
            · by_cases hxn : x < 0
              · rw [stepE_no (.inr hxn)] at hst
                replace hst := Lib.hid hst
                go_wp2
                exact ⟨⟨q + 1, hltq, by rw [hst.out], by go_num, trivial⟩, by simp [intOf]; omega⟩
              · rw [stepE_yes (fun h => h.elim hv hxn)] at hst
                have ho := or_step (x := x) (b := v) (by omega) (by omega)
                replace hst := Lib.hid hst
                go_wp2
                exact ⟨⟨q + 1, hltq, by rw [hst.out], by go_num, trivial⟩, by simp [intOf]; omega⟩
          · obtain rfl : q = wd := by omega
            generalize elTo ds A q = v at *
            obtain ⟨e5, e6, e7⟩ := hT
            have hpl := pos0_len F1
            have hnl := negs_len F1
            have hwB := hext.size
            have hv4 := e5.lt
            have hv5 := e6.lt
            have e7' : ∀ k, u7.ownBlock = some k → u8.ownBlock ≠ some k := fun k h1 h2 => e7 k h2 h1
            obtain ⟨p4, c4, rfl, -, -⟩ := e5.ownC
            rw [hpl] at *
            have hpb : (pos0 F1).length ≤ 100000 := by rw [pos0_len]; omega
            have hnb : (negs F1).length ≤ 100000 := by omega
            replace e7' := Lib.hid e7'
            replace e7 := Lib.hid e7
            by_cases hneg : v < 0
            · have hP := Lib.hid (show pos0 (F1 ++ [v]) = pos0 F1 ++ [0] from by rw [pos0_app, show max 0 v = 0 from by omega])
              have hN := Lib.hid (negs_up (l := F1) hneg)
              go_wp2_with (first
                | (at_builtin; go_loud (refine append_two e6 e5 e7'.out hnb hwB ?_ rfl rfl); intro v6 w6 k1 k2 k3 hg6; have hB6 := Nat.le_trans hwB hg6.by_.size; have hx6 := hg6.toExt hext (fun k h => (hv5 k h).1))
                | (at_builtin; go_loud (refine append_two k2 k1 (fun k h1 h2 => k3 k h2 h1) hpb hB6 ?_ rfl rfl); intro v7 w7 m1 m2' m3 hg7))
              exact ⟨⟨j + 1, A + q, hA1.out, hlt, by go_num, ⟨by rw [hsu.out, hP.out]; exact m1, by rw [hsu.out, hN.out]; exact m2', m3⟩, hg7.toExt hx6 (fun k h => (hv4 k h).1)⟩, by simp [intOf]; omega⟩
            · have hP := Lib.hid (show pos0 (F1 ++ [v]) = pos0 F1 ++ [v] from by rw [pos0_app, show max 0 v = v from by omega])
              have hN := Lib.hid (negs_no (l := F1) hneg)
              go_wp2_with (at_builtin; go_loud (refine append_two e5 e6 e7.out hpb hwB ?_ rfl rfl); intro v7 w7 m1 m2' m3 hg7)
              exact ⟨⟨j + 1, A + q, hA1.out, hlt, by go_num, ⟨by rw [hsu.out, hP.out]; exact m1, by rw [hsu.out, hN.out]; exact m2', m3⟩, hg7.toExt hext (fun k h => (hv4 k h).1)⟩, by simp [intOf]; omega⟩
      · have hjm2 : j = m / wd := by
          have h1 : ¬ j < m / wd := fun h => hlt (by have := hmore.1 h; omega)
          have h2 : j ≤ m / wd := (Nat.le_div_iff_mul_le (by omega)).2 (by omega)
          omega
        rw [hjm2] at hT
        go_wp2
        exact bodyPost_ret (v := .tuple #[u7, u8]) (by simp [results, Tryz.results79, go_sem]) rfl ⟨StE.of (hT.low hxa.below.size), hxa.trans hext⟩
end Go.Proofs.YtekignklnakkaaaGreatDoor
/- The stream of a symbol, the program's side. -/
namespace Go.Proofs.YtekignklnakkaaaGreatDoor
open Go.RowKit

def StI (B : Nat) (w' : World) (F : List Int) (L cd : Int) (e : Ending) : Prop := ∃ v4 v5 er, e = .returned (.tuple #[v4, v5, .int .i64 L, er]) ∧ TwoE B w' v4 v5 F ∧ ErrV er cd
set_option maxHeartbeats 3200000 in
set_option maxRecDepth 100000 in
theorem streamOf_c (nm : ByteArray) (K p k q co r c : Int) (ps pl pg : Option Addr) (cs cl cg : Nat) (ss ls xs : List Int) (w : World) (hs : IntsAt w ps ss) (hlv : IntsAt w pl ls) (hx : IntsAt w pg xs) (hn : nm.size ≤ 1048576) (hl1 : ss.length ≤ 1048576) (hl2 : ls.length ≤ 1048576) (hl3 : xs.length ≤ 1048576) (hcap : xs.length ≤ cg) :
    Calls Tryz.prog 44 #[vFam nm K p k q ps ss.length cs co pl ls.length cl, vGrid r c pg xs.length cg] w fun e w' => StI w.heap.size w' (stF nm K p k q ss co ls r c xs) (lvR nm K p k q ss co ls r c xs).1 (lvR nm K p k q ss co ls r c xs).2 e ∧ Ext w w' := by
  have hx' := hx; have HS := Lib.hid hs; have HV := Lib.hid hlv; have HX := Lib.hid hx; clear hs hlv hx
  by_cases h0 : (lvR nm K p k q ss co ls r c xs).2 = 0
  · obtain ⟨hz, hg⟩ := lvR_iff.1 h0
    obtain ⟨⟨hF, hG⟩, hin, hcc⟩ := szC_zero hz
    have hL1 : (lvR nm K p k q ss co ls r c xs).1 = lvL K r c xs ls.length := by rw [lvR_ok hz hg]
    rw [h0, stF_ok h0, hL1]
    have hMb := lvM_bd K r c xs
    have hlv := Lib.hid (fun W (h1 : IntsAt W ps ss) (h2 : IntsAt W pl ls) (h3 : IntsAt W pg xs) => (levelOf_c nm K p k q co r c ps pl pg cs cl cg ss ls xs W h1 h2 h3 hn hl1 hl2 hl3 hcap).mono (R' := fun e w' => e = .returned (.tuple #[.int .i64 (lvL K r c xs ls.length), .int .i64 (lvM K r c xs), .nilIface]) ∧ Ext W w') (fun e w' ⟨h, hx⟩ => ⟨h.elim (fun h => h.2.2) (fun h => absurd ⟨hz, hg⟩ h.1), hx⟩))
    clear hL1 h0 hz hg
    rcases famS hF hin with ⟨rfl, hsz⟩ | ⟨rfl, hsz, hco8⟩
    · obtain ⟨n, rfl⟩ : ∃ n : Nat, r = n := ⟨r.toNat, by have := hsz.1; omega⟩
      have hn2 : 17 ≤ n ∧ n ≤ 41 := by have := hsz.1; omega
      have h4 : n % 4 = 1 := by have := hsz.2; omega
      rw [colsV_mx (by decide)] at hcc
      subst hcc
      have hK2 : ¬ (1 : Int) = 2 := by decide
      obtain ⟨R, C, hR, hC, _, _, _, hlen⟩ := grid_nat hG
      obtain rfl : n = R := by omega
      obtain rfl : n = C := by omega
      have hbd := hG.2.2.2.2
      obtain ⟨M, hM⟩ : ∃ M : Nat, lvM 1 n n xs = M := ⟨(lvM 1 n n xs).toNat, by omega⟩
      rw [strF_mx p k co n M xs hK2 hM]
      rw [hM] at hlv hMb
      have hwb := fam_w hF
      have hfw := Lib.hid (fun W => iFieldWidth_c p k q (fam_fld hF) W)
      have hml : (mskL M n xs).length = n * n := by rw [mskL_lenS]; exact hlen
      have hmk := Lib.hid (fun W (h : IntsAt W pg xs) => masked_c M n cg (by omega) pg xs W hn2 h4 h hlen hbd)
      have htk := Lib.hid (fun pp kk W (h : IntsAt W pp (mskL M n xs)) => takeElements_c n (fW (fldSize p k)) kk pp (mskL M n xs) W hn2 h4 h hml hwb.1 hwb.2 (mskTo_bd hbd _))
      generalize elemsV (fW (fldSize p k)) (cellsL n (mskL M n xs) (dpL n)) ((dpL n).length / fW (fldSize p k)) = F at *
      generalize fW (fldSize p k) = wd at *
      generalize mskL M n xs = ms at *
      generalize lvL 1 n n xs ls.length = L at *
      rw [hlen] at hmk
      replace hml := Lib.hid hml
      replace hlen := Lib.hid hlen
      clear hF hG hin hsz hx' hK2 hR hC hbd hM
      clear hl1 hl2 hn
      have hxA : Ext w ((w.alloc (.cells #[.string nm, .int .i64 1, .int .i64 p, .int .i64 k, .int .i64 q, .slice ps ss.length cs, .int .i64 co, .slice pl ls.length cl] 35)).alloc (.cells #[.int .i64 n, .int .i64 n, .slice pg xs.length cg] 37)) := ((Ext.refl w).alloc _).alloc _
      have hbA := (Blk.new w #[.string nm, .int .i64 1, .int .i64 p, .int .i64 k, .int .i64 q, .slice ps ss.length cs, .int .i64 co, .slice pl ls.length cl] 35).alloc (.cells #[.int .i64 n, .int .i64 n, .slice pg xs.length cg] 37)
      have hbB := Blk.new1 w (.cells #[.string nm, .int .i64 1, .int .i64 p, .int .i64 k, .int .i64 q, .slice ps ss.length cs, .int .i64 co, .slice pl ls.length cl] 35) #[.int .i64 n, .int .i64 n, .slice pg xs.length cg] 37
      go_enter Tryz.func44, Tryz.ntmps44
      go_upto_region 1 with (fail)
      obtain ⟨gF, hgF⟩ : ∃ g, w.heap.size = g := ⟨_, rfl⟩
      obtain ⟨gG, hgG⟩ : ∃ g, w.heap.size + 1 = g := ⟨_, rfl⟩
      have hBx := Lib.hid (fun W (h : Ext w W) => h.below.size)
      rw [hgG] at hbB ⊢
      rw [hgF] at hbA ⊢
      clear hgF hgG
      generalize ((w.alloc (.cells #[.string nm, .int .i64 1, .int .i64 p, .int .i64 k, .int .i64 q, .slice ps ss.length cs, .int .i64 co, .slice pl ls.length cl] 35)).alloc (.cells #[.int .i64 n, .int .i64 n, .slice pg xs.length cg] 37)) = w0 at *
      obtain ⟨a0, a1, a2, a3, a4, a5, a6, a7⟩ := hbA.c8; have aL := hbA.lt; obtain ⟨c0, c1, c2⟩ := hbB.c3; have cL := hbB.lt
      go_upto_region 4 with (go_at_call 77; go_loud ((with_reducible refine (hlv.out _ (HS.out.ext hxA) (HV.out.ext hxA) (HX.out.ext hxA)).mono ?_); rintro e w4 ⟨rfl, hx4⟩; replace hbA := hbA.ext hx4; replace hbB := hbB.ext hx4; replace hxA := hxA.trans hx4; clear a0 a1 a2 a3 a4 a5 a6 a7 aL c0 c1 c2 cL; obtain ⟨a0, a1, a2, a3, a4, a5, a6, a7⟩ := hbA.c8; have aL := hbA.lt; obtain ⟨c0, c1, c2⟩ := hbB.c3; have cL := hbB.lt))
      go_upto_region 7 with (fail)
      rw [hlen.out] at *
      refine wp_region_canon (fun w' => Ext w4 w') [(0, true), (1, true), (3, true), (4, true), (2, false), (5, false), (6, false), (7, true), (8, true), (9, true), (10, true), (11, true)] (by kernel_rfl) (by kernel_rfl) (by decide) (by kernel_rfl) ?_ ?_
      · exact eX
      refine canon_intro fun ops eo => ?_
      have ho0 := canon_at eo 0 rfl
      have ho1 := canon_at eo 1 rfl
      have ho2 := canon_at eo 2 rfl
      have ho3 := canon_at eo 3 rfl
      have ho4 := canon_at eo 4 rfl
      have ho5 := canon_at eo 5 rfl
      have ho6 := canon_at eo 6 rfl
      have ho7 := canon_at eo 7 rfl
      have ho8 := canon_at eo 8 rfl
      have ho9 := canon_at eo 9 rfl
      have ho10 := canon_at eo 10 rfl
      have ho11 := canon_at eo 11 rfl
      clear eo
      all_goals (apply canon_st ho0 rfl; (intro w2 hS; first | (go_simp; first | done | rfl) | rfl | (obtain ⟨hc', hf', hk', hz'⟩ := ecell hS; go_simp; first | done | rfl)); simp only [ptN])
      all_goals clear ho0
      all_goals (apply canon_st ho1 rfl; (intro w2 hS; first | (go_simp; first | done | rfl) | rfl | (obtain ⟨hc', hf', hk', hz'⟩ := ecell hS; go_simp; first | done | rfl)); simp only [ptN])
      all_goals clear ho1
      all_goals (apply canon_st ho3 rfl; (intro w2 hS; first | (go_simp; first | done | rfl) | rfl | (obtain ⟨hc', hf', hk', hz'⟩ := ecell hS; go_simp; first | done | rfl)); simp only [ptN])
      all_goals clear ho3
      all_goals (apply canon_st ho4 rfl; (intro w2 hS; first | (go_simp; first | done | rfl) | rfl | (obtain ⟨hc', hf', hk', hz'⟩ := ecell hS; go_simp; first | done | rfl)); simp only [ptN])
      all_goals clear ho4
      all_goals first | (refine canon_ef ho2 rfl (fun K hK => ?_); go_simp; ((go_at_call 80; (with_reducible refine (hmk.out _ (HX.out.ext (hxA.trans eX))).mono ?_); rintro e w5 ⟨⟨pm, km, hvm, om, -⟩, hx5⟩; rw [hml.out] at hvm; subst hvm; replace om := Lib.hid om.ints)); all_goals (refine hK _ _ ⟨eX, ?_⟩; clear hK K; go_simp))
      all_goals clear ho2
      all_goals first | (refine canon_ef ho5 rfl (fun K hK => ?_); go_simp; ((go_at_call 81; (with_reducible refine (hfw.out _).mono ?_); rintro e w6 ⟨rfl, hx6⟩)); all_goals (refine hK _ _ ⟨eX, ?_⟩; clear hK K; go_simp))
      all_goals clear ho5
      all_goals first | (refine canon_ef ho6 rfl (fun K hK => ?_); go_simp; ((go_at_call 79; (with_reducible refine (htk.out _ _ _ (om.out.ext eX)).mono ?_); rintro e w7 ⟨⟨v4, v5, rfl, hT⟩, hx7⟩; replace hT := hT.low (hBx.out _ (hxA.trans eX)))); all_goals (refine hK _ _ ⟨eX, ?_⟩; clear hK K; go_simp))
      all_goals clear ho6
      all_goals (apply canon_st ho7 rfl; (intro w2 hS; first | (go_simp; first | done | rfl) | rfl | (obtain ⟨hc', hf', hk', hz'⟩ := ecell hS; go_simp; first | done | rfl)); simp only [ptN])
      all_goals clear ho7
      all_goals (apply canon_st ho8 rfl; (intro w2 hS; first | (go_simp; first | done | rfl) | rfl | (obtain ⟨hc', hf', hk', hz'⟩ := ecell hS; go_simp; first | done | rfl)); simp only [ptN])
      all_goals clear ho8
      all_goals (apply canon_st ho9 rfl; (intro w2 hS; first | (go_simp; first | done | rfl) | rfl | (obtain ⟨hc', hf', hk', hz'⟩ := ecell hS; go_simp; first | done | rfl)); simp only [ptN])
      all_goals clear ho9
      all_goals (apply canon_st ho10 rfl; (intro w2 hS; first | (go_simp; first | done | rfl) | rfl | (obtain ⟨hc', hf', hk', hz'⟩ := ecell hS; go_simp; first | done | rfl)); simp only [ptN])
      all_goals clear ho10
      all_goals (apply canon_st ho11 rfl; (intro w2 hS; first | (go_simp; first | done | rfl) | rfl | (obtain ⟨hc', hf', hk', hz'⟩ := ecell hS; go_simp; first | done | rfl)); simp only [ptN])
      all_goals clear ho11
      all_goals refine canon_done (NoPanic.normal ?_)
      go_wp2
      exact bodyPost_ret (v := .tuple #[v4, v5, .int .i64 L, .nilIface]) (by simp [results, Tryz.results44, go_sem]) rfl ⟨⟨v4, v5, _, rfl, hT, .inl ⟨rfl, rfl⟩⟩, hxA.trans eX⟩
    · obtain ⟨R, C, cO, rfl, rfl, rfl, hlen, hR1, hR2, hC1, hC2, hRC, hrN⟩ := stk_nat hF hG hin hcc
      obtain ⟨b, o, rfl⟩ := hx'.where_ (by rw [hlen]; exact Nat.mul_pos hR1 (by omega))
      have hse := Lib.hid (fun W (h : IntsAt W (some ⟨b, o, none⟩) xs) => stackElements_c R C cO b o cg xs W h hlen hC1 hrN (by omega) hcap hRC hG.2.2.2.2)
      rw [strF_st]
      generalize flatV xs C cO R = F at *
      generalize lvL 2 R C xs ls.length = L at *
      generalize lvM 2 R C xs = M at *
      clear hF hG hin hcc hsz hx' hlen hRC hrN hn hl1 hl2
      have hxA : Ext w ((w.alloc (.cells #[.string nm, .int .i64 2, .int .i64 p, .int .i64 k, .int .i64 q, .slice ps ss.length cs, .int .i64 cO, .slice pl ls.length cl] 35)).alloc (.cells #[.int .i64 R, .int .i64 C, .slice (some ⟨b, o, none⟩) xs.length cg] 37)) := ((Ext.refl w).alloc _).alloc _
      have hbA := (Blk.new w #[.string nm, .int .i64 2, .int .i64 p, .int .i64 k, .int .i64 q, .slice ps ss.length cs, .int .i64 cO, .slice pl ls.length cl] 35).alloc (.cells #[.int .i64 R, .int .i64 C, .slice (some ⟨b, o, none⟩) xs.length cg] 37)
      have hbB := Blk.new1 w (.cells #[.string nm, .int .i64 2, .int .i64 p, .int .i64 k, .int .i64 q, .slice ps ss.length cs, .int .i64 cO, .slice pl ls.length cl] 35) #[.int .i64 R, .int .i64 C, .slice (some ⟨b, o, none⟩) xs.length cg] 37
      go_enter Tryz.func44, Tryz.ntmps44
      go_upto_region 1 with (fail)
      obtain ⟨gF, hgF⟩ : ∃ g, w.heap.size = g := ⟨_, rfl⟩
      obtain ⟨gG, hgG⟩ : ∃ g, w.heap.size + 1 = g := ⟨_, rfl⟩
      have hBx := Lib.hid (fun W (h : Ext w W) => h.below.size)
      rw [hgG] at hbB ⊢
      rw [hgF] at hbA ⊢
      clear hgF hgG
      generalize ((w.alloc (.cells #[.string nm, .int .i64 2, .int .i64 p, .int .i64 k, .int .i64 q, .slice ps ss.length cs, .int .i64 cO, .slice pl ls.length cl] 35)).alloc (.cells #[.int .i64 R, .int .i64 C, .slice (some ⟨b, o, none⟩) xs.length cg] 37)) = w0 at *
      obtain ⟨a0, a1, a2, a3, a4, a5, a6, a7⟩ := hbA.c8; have aL := hbA.lt; obtain ⟨c0, c1, c2⟩ := hbB.c3; have cL := hbB.lt
      go_upto_region 4 with (go_at_call 77; go_loud ((with_reducible refine (hlv.out _ (HS.out.ext hxA) (HV.out.ext hxA) (HX.out.ext hxA)).mono ?_); rintro e w4 ⟨rfl, hx4⟩; replace hbA := hbA.ext hx4; replace hbB := hbB.ext hx4; replace hxA := hxA.trans hx4; clear a0 a1 a2 a3 a4 a5 a6 a7 aL c0 c1 c2 cL; obtain ⟨a0, a1, a2, a3, a4, a5, a6, a7⟩ := hbA.c8; have aL := hbA.lt; obtain ⟨c0, c1, c2⟩ := hbB.c3; have cL := hbB.lt))
      go_wp2_with (go_at_call 78; go_loud ((with_reducible refine (hse.out _ (HX.out.ext hxA)).mono ?_); rintro e w5 ⟨⟨v4, v5, rfl, hT⟩, hx5⟩; replace hT := hT.low (hBx.out _ hxA)))
      exact bodyPost_ret (v := .tuple #[v4, v5, .int .i64 L, .nilIface]) (by simp [results, Tryz.results44, go_sem]) rfl ⟨⟨v4, v5, _, rfl, hT, .inl ⟨rfl, rfl⟩⟩, hxA.trans hx5⟩
  · obtain ⟨hL1, hcd⟩ := lvR_cd h0
    rw [hL1, stF_no h0]
    have hlv := Lib.hid (fun W (h1 : IntsAt W ps ss) (h2 : IntsAt W pl ls) (h3 : IntsAt W pg xs) => (levelOf_c nm K p k q co r c ps pl pg cs cl cg ss ls xs W h1 h2 h3 hn hl1 hl2 hl3 hcap).mono (R' := fun e w' => (∃ n9 : Int, e = .returned (.tuple #[.int .i64 0, .int .i64 0, vErr n9 (lvR nm K p k q ss co ls r c xs).2])) ∧ Ext W w') (fun e w' ⟨h, hx⟩ => ⟨h.elim (fun h => absurd (lvR_iff.2 ⟨h.1, h.2.1⟩) h0) (fun h => by rw [hcd]; exact h.2), hx⟩))
    clear hcd hL1
    generalize (lvR nm K p k q ss co ls r c xs).2 = cd at *
    replace h0 := Lib.hid h0
    clear hx' hn hl1 hl2
    have hxA : Ext w ((w.alloc (.cells #[.string nm, .int .i64 K, .int .i64 p, .int .i64 k, .int .i64 q, .slice ps ss.length cs, .int .i64 co, .slice pl ls.length cl] 35)).alloc (.cells #[.int .i64 r, .int .i64 c, .slice pg xs.length cg] 37)) := ((Ext.refl w).alloc _).alloc _
    have hbA := (Blk.new w #[.string nm, .int .i64 K, .int .i64 p, .int .i64 k, .int .i64 q, .slice ps ss.length cs, .int .i64 co, .slice pl ls.length cl] 35).alloc (.cells #[.int .i64 r, .int .i64 c, .slice pg xs.length cg] 37)
    have hbB := Blk.new1 w (.cells #[.string nm, .int .i64 K, .int .i64 p, .int .i64 k, .int .i64 q, .slice ps ss.length cs, .int .i64 co, .slice pl ls.length cl] 35) #[.int .i64 r, .int .i64 c, .slice pg xs.length cg] 37
    go_enter Tryz.func44, Tryz.ntmps44
    go_upto_region 1 with (fail)
    obtain ⟨gF, hgF⟩ : ∃ g, w.heap.size = g := ⟨_, rfl⟩
    obtain ⟨gG, hgG⟩ : ∃ g, w.heap.size + 1 = g := ⟨_, rfl⟩
    have hBx := Lib.hid (fun W (h : Ext w W) => h.below.size)
    rw [hgG] at hbB ⊢
    rw [hgF] at hbA ⊢
    clear hgF hgG
    generalize ((w.alloc (.cells #[.string nm, .int .i64 K, .int .i64 p, .int .i64 k, .int .i64 q, .slice ps ss.length cs, .int .i64 co, .slice pl ls.length cl] 35)).alloc (.cells #[.int .i64 r, .int .i64 c, .slice pg xs.length cg] 37)) = w0 at *
    obtain ⟨a0, a1, a2, a3, a4, a5, a6, a7⟩ := hbA.c8; have aL := hbA.lt; obtain ⟨c0, c1, c2⟩ := hbB.c3; have cL := hbB.lt
    go_wp2_with (go_at_call 77; go_loud ((with_reducible refine (hlv.out _ (HS.out.ext hxA) (HV.out.ext hxA) (HX.out.ext hxA)).mono ?_); rintro e w4 ⟨⟨n9, rfl⟩, hx4⟩))
    exact bodyPost_ret (v := .tuple #[.slice none 0 0, .slice none 0 0, .int .i64 0, vErr n9 cd]) (by simp [results, Tryz.results44, go_sem]) rfl ⟨⟨_, _, _, rfl, TwoE.nil _ _, .inr ⟨h0.out, n9, rfl⟩⟩, hxA.trans hx4⟩
end Go.Proofs.YtekignklnakkaaaGreatDoor
