/- Grids with a mask, the reference's side. -/
import Derived.Test.YtekignklnakkaaaGreatDoorLDamagedElementsK35
set_option linter.unusedVariables false
set_option linter.unusedSimpArgs false
namespace Go.Proofs.YtekignklnakkaaaGreatDoor
open Go.RowKit

set_option maxHeartbeats 1600000 in
set_option maxRecDepth 100000 in
theorem sApply_c (m n k : Nat) (hm : m < 8) (p : Option Addr) (xs : List Int) (w : World) (hn : 17 ≤ n ∧ n ≤ 41) (h4 : n % 4 = 1) (hx : IntsAt w p xs) (hlen : xs.length = n * n) (hbd : ∀ x ∈ xs, -1 ≤ x ∧ x ≤ 1) :
    Calls Tryz.prog 75 #[vGrid n n p xs.length k, .int .i64 m] w fun e w' => GrdR n n (mskL m n xs) w.heap.size e w' ∧ Ext w w' := by
  have HX := Lib.hid hx; clear hx
  have hN : n * n ≤ 1681 := Nat.mul_le_mul hn.2 hn.2
  have hN1 : 0 < n * n := Nat.mul_pos (by omega) (by omega)
  have hb := (Blk.new w #[.int .i64 n, .int .i64 n, .slice p xs.length k] 37).alloc (.cells #[.int .i64 0, .int .i64 0, .slice none 0 0] 37)
  have h0 := Blk.new (w.alloc (.cells #[.int .i64 n, .int .i64 n, .slice p xs.length k] 37)) #[.int .i64 0, .int .i64 0, .slice none 0 0] 37
  have hx0 : Ext w ((w.alloc (.cells #[.int .i64 n, .int .i64 n, .slice p xs.length k] 37)).alloc (.cells #[.int .i64 0, .int .i64 0, .slice none 0 0] 37)) := ((Ext.refl w).alloc _).alloc _
  simp only [World.size_alloc] at h0
  have how := Lib.hid (fun W (h : IntsAt W p xs) => sOwn_c p k xs W h (by omega))
  have hpl := Lib.hid (fun W => sPlaces_c n W hn h4)
  replace hlen := Lib.hid hlen
  obtain ⟨f0, f1, f2⟩ := hb.c3; have fl := hb.lt
  go_enter Tryz.func75, Tryz.ntmps75
  go_upto_region 4 with (first
    | (go_at_call 70; (with_reducible refine (how.out _ (HX.out.ext hx0)).mono ?_); rintro e w1 ⟨⟨v1, rfl, hr1⟩, hx1⟩; obtain ⟨q, kq, rfl, oq, hkq⟩ := hr1.ownC; have hb1 := hb.ext hx1; have y0 := hb1.cell (i := 0) (v := .int .i64 n) rfl; have yl := hb1.lt)
    | (go_at_call 115; (with_reducible refine (hpl.out _).mono ?_); rintro e w3 ⟨⟨v3, rfl, hr3⟩, hx3⟩; obtain ⟨pp, cp, hv3, hA3, hf3⟩ := hr3.nfree plF_len; subst hv3))
  obtain ⟨b, o, rfl, hbB, hbl, -⟩ := oq 0 (by rw [hlen.out]; exact hN1)
  have hz1 := hx1.below.size; have hz3 := hx3.below.size
  have hbw : w.heap.size + 2 ≤ b := by
    simp only [World.size_alloc] at hbB; omega
  have hG3 := hb1.ext hx3
  have hR3 := (h0.ext hx1).ext hx3
  have ow3 := oq.ext hx3
  have hxw := (hx0.trans hx1).trans hx3
  have hpb : ∀ b' o', pp = some ⟨b', o', none⟩ → b' ≠ b := fun b' o' e => by have := (hf3 b' o' e).1; omega
  replace hpb := Lib.hid hpb
  have hwb : w.heap.size ≤ b := by omega
  have hg5 : w.heap.size ≠ b := by omega
  have hr5 : w.heap.size + 1 ≠ b := by omega
  obtain ⟨Nn, hNn⟩ : ∃ Nn, xs.length = Nn := ⟨_, rfl⟩
  have hlenN : Nn = n * n := by rw [← hNn]; exact hlen.out
  rw [hNn] at hG3 hkq ⊢
  have hm0 : mskTo m n (dpL n) xs 0 = xs := rfl
  rw [← hm0] at ow3
  have hml := fun j => mskTo_len m n (dpL n) xs j
  have hdl := dpL_len (n := n) hn.2
  have hms := fun j q r c hp hq => msk_step (m := m) (n := n) (j := j) (q := q) (xs := xs) (r := r) (c := c) hp hq
  have hmb := fun j => mskTo_bd (m := m) (n := n) (ps := dpL n) hbd j
  have hmp := fun j hj => mask_pl hn h4 (j := j) hj
  have hfin : mskL m n xs = mskTo m n (dpL n) xs (dpL n).length := rfl
  have hpl2 : ∀ W j, j < (dpL n).length → PlAt W pp (dpL n) → ∃ b o, pp = some ⟨b, o, none⟩ ∧ b < W.heap.size ∧ W.cell? ⟨b, o + j * 2, none⟩ = some (.int .i64 ((dpL n).getD j (0, 0)).1) ∧ W.cell? ⟨b, o + j * 2 + 1, none⟩ = some (.int .i64 ((dpL n).getD j (0, 0)).2) := fun W j hj h => SAt.pl2 h hj
  generalize hD : dpL n = ps at *
  generalize hM : mskTo m n ps xs = MT at *
  obtain ⟨P, hP⟩ : ∃ P, ps.length = P := ⟨_, rfl⟩
  rw [hP] at hdl hmp hpl2 hfin ⊢
  replace hD := Lib.hid hD; replace hM := Lib.hid hM; replace hP := Lib.hid hP; replace hNn := Lib.hid hNn; replace hms := Lib.hid hms; replace hml := Lib.hid hml; replace hmb := Lib.hid hmb; replace hmp := Lib.hid hmp; replace hfin := Lib.hid hfin; replace hpl2 := Lib.hid hpl2; replace hlenN := Lib.hid hlenN
  clear hm0 oq hb1 y0 yl f0 f1 f2 fl h0 hb hx0 hx1 hx3 hr3 hr1 how hpl hf3 hbB hbl
  go_loopw [7] (fun i wr => ∃ j : Nat, j ≤ P ∧ i = .int .i64 j ∧ OwnInts b wr (some ⟨b, o, none⟩) (MT j) ∧ Blk wr w.heap.size #[.int .i64 n, .int .i64 n, .slice p Nn k] 37 ∧ Blk wr (w.heap.size + 1) #[.int .i64 0, .int .i64 0, .slice none 0 0] 37 ∧ PlAt wr pp ps ∧ Ext w wr) (fun i _ => P - (intOf i).toNat)
  case atStart => exact ⟨0, Nat.zero_le _, rfl, ow3.self, hG3, hR3, hA3, hxw⟩
  case round =>
    clear ow3 hG3 hR3 hA3 hxw
    obtain ⟨j, hj, rfl, ow, hG, hR, hA, hxt⟩ := hrel
    by_cases hlt : j < P
    · have hji : (j : Int) < P := by omega
      obtain ⟨bp, op, rfl, hbp, u0, u1⟩ := hpl2.out wr j hlt hA
      obtain ⟨r, c, qi, hpe, hr, hc, hq1, hq2, hq3, hq4⟩ := hmp.out j hlt
      have hst := hms.out j qi r c hpe hq4
      rw [hpe] at u0 u1
      simp only at u0 u1
      have hlq : qi < (MT j).length := by rw [hml.out, hNn.out, hlenN.out]; exact hq2
      have hqN : (qi : Int) < (Nn : Int) := by rw [hlenN.out]; omega
      have hxb := hmb.out j _ (getD_mem (d := 0) hlq)
      have hown := Lib.hid (fun W (h : OwnInts b W (some ⟨b, o, none⟩) (MT j)) => h qi hlq)
      have hset := Lib.hid (fun W x (h : OwnInts b W (some ⟨b, o, none⟩) (MT j)) => h.set (k := qi) rfl hlq x)
      generalize (MT j).getD qi 0 = x at *
      obtain ⟨M, hM2⟩ : ∃ M : Int, r * (n : Int) = M := ⟨_, rfl⟩
      rw [hM2] at hq1 hq3
      have e1 := IntWalk.i64_in M (by omega)
      have e2 := IntWalk.i64_in (qi : Int) (by omega)
      have htn := Lib.hid (fun W => sTurns_c m hm r c W (by omega) (by omega))
      have q1 := hG.cell (i := 1) (v := .int .i64 n) rfl; have ql := hG.lt
      replace hst := Lib.hid hst
      go_upto_region 6 with (fail)
      refine wp_region_canon (fun w' => Ext wr w') [(0, true), (1, true), (2, true), (3, true), (4, true), (5, true), (6, true), (7, true), (8, true), (9, true), (10, true), (11, true), (12, true), (13, true), (14, true)] (by kernel_rfl) (by kernel_rfl) (by decide) (by kernel_rfl) ?_ ?_
      · exact eX
      refine canon_intro fun ops eo => ?_
      have ho0 := canon_at eo 0 rfl
      have ho1 := canon_at eo 1 rfl
      have ho2 := canon_at eo 2 rfl
      have ho3 := canon_at eo 3 rfl
      have ho4 := canon_at eo 4 rfl
      have ho5 := canon_at eo 5 rfl
      have ho6 := canon_at eo 6 rfl
      have ho7 := canon_at eo 7 rfl
      have ho8 := canon_at eo 8 rfl
      have ho9 := canon_at eo 9 rfl
      have ho10 := canon_at eo 10 rfl
      have ho11 := canon_at eo 11 rfl
      have ho12 := canon_at eo 12 rfl
      have ho13 := canon_at eo 13 rfl
      have ho14 := canon_at eo 14 rfl
      clear eo
      all_goals (apply canon_st ho0 rfl; exact evE; simp only [ptN])
      all_goals clear ho0
      all_goals (apply canon_st ho1 rfl; exact evE; simp only [ptN])
      all_goals clear ho1
      all_goals (apply canon_st ho2 rfl; exact evE; simp only [ptN])
      all_goals clear ho2
      all_goals (apply canon_st ho3 rfl; exact evE; simp only [ptN])
      all_goals clear ho3
      all_goals (apply canon_st ho4 rfl; exact evE; simp only [ptN])
      all_goals clear ho4
      all_goals (apply canon_st ho5 rfl; exact evE; simp only [ptN])
      all_goals clear ho5
      all_goals (apply canon_st ho6 rfl; exact evE; simp only [ptN])
      all_goals clear ho6
      all_goals (apply canon_st ho7 rfl; exact evE; simp only [ptN])
      all_goals clear ho7
      all_goals (apply canon_st ho8 rfl; exact evE; simp only [ptN])
      all_goals clear ho8
      all_goals (apply canon_st ho9 rfl; exact evE; simp only [ptN])
      all_goals clear ho9
      all_goals (apply canon_st ho10 rfl; exact evE; simp only [ptN])
      all_goals clear ho10
      all_goals (apply canon_st ho11 rfl; exact evE; simp only [ptN])
      all_goals clear ho11
      all_goals (apply canon_st ho12 rfl; exact evE; simp only [ptN])
      all_goals clear ho12
      all_goals (apply canon_st ho13 rfl; exact evE; simp only [ptN])
      all_goals clear ho13
      all_goals (apply canon_st ho14 rfl; exact evE; simp only [ptN])
      all_goals clear ho14
      all_goals refine canon_done (NoPanic.normal ?_)
      have hX6 : Ext wr wr.drew := (Ext.refl wr).drew
      replace ow := ow.ext hX6; replace hG := hG.ext hX6; replace hR := hR.ext hX6; replace hA := SAt.ext hA hX6; replace hxt := hxt.trans hX6
      have v0 : wr.drew.cell? ⟨bp, op + j * 2, none⟩ = some (.int .i64 r) := u0
      have v1 : wr.drew.cell? ⟨bp, op + j * 2 + 1, none⟩ = some (.int .i64 c) := u1
      have vl : bp < wr.drew.heap.size := hbp
      obtain ⟨b1, o1, e3, -, l1, y1, y1f⟩ := hown.out _ ow
      simp only [Option.some.injEq, Addr.mk.injEq, and_true] at e3
      obtain ⟨rfl, rfl⟩ := e3
      clear hX6 u0 u1 q1 ql e1 e2 hbp
      generalize wr.drew = w4 at *
      by_cases hx : 0 ≤ x
      · have hst2 := hst.out
        have hxd := decide_eq_true hx
        rw [hxd, Bool.true_and] at hst2
        clear hxd
        generalize turnB m r c = tb at *
        replace hst := trivial
        have hst3 := Lib.hid hst2
        replace hst2 := hst3
        go_wp2_with fail
        refine wp_region_canon (fun w' => Ext w4 w') [(0, true), (1, true), (2, true), (3, true), (4, true), (5, true), (6, true), (7, true), (8, true), (9, true), (10, true), (11, true), (12, true), (13, true), (14, true), (15, true), (16, true), (17, false), (18, true)] (by kernel_rfl) (by kernel_rfl) (by decide) (by kernel_rfl) ?_ ?_
        · exact eX
        refine canon_intro fun ops eo => ?_
        have ho0 := canon_at eo 0 rfl
        have ho1 := canon_at eo 1 rfl
        have ho2 := canon_at eo 2 rfl
        have ho3 := canon_at eo 3 rfl
        have ho4 := canon_at eo 4 rfl
        have ho5 := canon_at eo 5 rfl
        have ho6 := canon_at eo 6 rfl
        have ho7 := canon_at eo 7 rfl
        have ho8 := canon_at eo 8 rfl
        have ho9 := canon_at eo 9 rfl
        have ho10 := canon_at eo 10 rfl
        have ho11 := canon_at eo 11 rfl
        have ho12 := canon_at eo 12 rfl
        have ho13 := canon_at eo 13 rfl
        have ho14 := canon_at eo 14 rfl
        have ho15 := canon_at eo 15 rfl
        have ho16 := canon_at eo 16 rfl
        have ho17 := canon_at eo 17 rfl
        have ho18 := canon_at eo 18 rfl
        clear eo
        all_goals (apply canon_st ho0 rfl; exact evE; simp only [ptN])
        all_goals (apply canon_st ho1 rfl; exact evE; simp only [ptN])
        all_goals (apply canon_st ho2 rfl; exact evE; simp only [ptN])
        all_goals (apply canon_st ho3 rfl; exact evE; simp only [ptN])
        all_goals (apply canon_st ho4 rfl; exact evE; simp only [ptN])
        all_goals (apply canon_st ho5 rfl; exact evE; simp only [ptN])
        all_goals first | (refine canon_stu ho6 rfl (by assumption) rfl rfl ?_; simp only [ptN]) | (refine canon_stx ho6 rfl (by assumption) rfl rfl ?_; simp only [ptN]) | (refine canon_stw (v := ?_) ho6 rfl (by assumption) rfl rfl ?_ ?_; rotate_left 1; exact evE; simp only [ptN])
        all_goals first | (refine canon_stu ho7 rfl (by assumption) rfl rfl ?_; simp only [ptN]) | (refine canon_stx ho7 rfl (by assumption) rfl rfl ?_; simp only [ptN]) | (refine canon_stw (v := ?_) ho7 rfl (by assumption) rfl rfl ?_ ?_; rotate_left 1; exact evE; simp only [ptN])
        all_goals first | (refine canon_stu ho8 rfl (by assumption) rfl rfl ?_; simp only [ptN]) | (refine canon_stx ho8 rfl (by assumption) rfl rfl ?_; simp only [ptN]) | (refine canon_stw (v := ?_) ho8 rfl (by assumption) rfl rfl ?_ ?_; rotate_left 1; exact evE; simp only [ptN])
        all_goals first | (refine canon_stu ho9 rfl (by assumption) rfl rfl ?_; simp only [ptN]) | (refine canon_stx ho9 rfl (by assumption) rfl rfl ?_; simp only [ptN]) | (refine canon_stw (v := ?_) ho9 rfl (by assumption) rfl rfl ?_ ?_; rotate_left 1; exact evE; simp only [ptN])
        all_goals first | (refine canon_stu ho10 rfl (by assumption) rfl rfl ?_; simp only [ptN]) | (refine canon_stx ho10 rfl (by assumption) rfl rfl ?_; simp only [ptN]) | (refine canon_stw (v := ?_) ho10 rfl (by assumption) rfl rfl ?_ ?_; rotate_left 1; exact evE; simp only [ptN])
        all_goals first | (refine canon_stu ho11 rfl (by assumption) rfl rfl ?_; simp only [ptN]) | (refine canon_stx ho11 rfl (by assumption) rfl rfl ?_; simp only [ptN]) | (refine canon_stw (v := ?_) ho11 rfl (by assumption) rfl rfl ?_ ?_; rotate_left 1; exact evE; simp only [ptN])
        all_goals first | (refine canon_stu ho12 rfl (by assumption) rfl rfl ?_; simp only [ptN]) | (refine canon_stx ho12 rfl (by assumption) rfl rfl ?_; simp only [ptN]) | (refine canon_stw (v := ?_) ho12 rfl (by assumption) rfl rfl ?_ ?_; rotate_left 1; exact evE; simp only [ptN])
        all_goals first | (refine canon_stu ho13 rfl (by assumption) rfl rfl ?_; simp only [ptN]) | (refine canon_stx ho13 rfl (by assumption) rfl rfl ?_; simp only [ptN]) | (refine canon_stw (v := ?_) ho13 rfl (by assumption) rfl rfl ?_ ?_; rotate_left 1; exact evE; simp only [ptN])
        all_goals first | (refine canon_stu ho14 rfl (by assumption) rfl rfl ?_; simp only [ptN]) | (refine canon_stx ho14 rfl (by assumption) rfl rfl ?_; simp only [ptN]) | (refine canon_stw (v := ?_) ho14 rfl (by assumption) rfl rfl ?_ ?_; rotate_left 1; exact evE; simp only [ptN])
        all_goals first | (refine canon_stu ho15 rfl (by assumption) rfl rfl ?_; simp only [ptN]) | (refine canon_stx ho15 rfl (by assumption) rfl rfl ?_; simp only [ptN]) | (refine canon_stw (v := ?_) ho15 rfl (by assumption) rfl rfl ?_ ?_; rotate_left 1; exact evE; simp only [ptN])
        all_goals first | (refine canon_stu ho16 rfl (by assumption) rfl rfl ?_; simp only [ptN]) | (refine canon_stx ho16 rfl (by assumption) rfl rfl ?_; simp only [ptN]) | (refine canon_stw (v := ?_) ho16 rfl (by assumption) rfl rfl ?_ ?_; rotate_left 1; exact evE; simp only [ptN])
        all_goals first | (refine canon_efu ho17 rfl (by assumption) rfl rfl (by first | assumption | exact eX) ?_; simp only [ptN]) | (refine canon_efx ho17 rfl (by assumption) rfl rfl (by first | assumption | exact eX) ?_; simp only [ptN]) | (refine canon_efw ho17 rfl (by assumption) rfl rfl (fun K hK => ?_); go_simp; ((go_at_call 116; (with_reducible refine (htn.out _).mono ?_); rintro e w7 ⟨⟨hP', rfl⟩ | ⟨hP', rfl⟩, rfl⟩)); all_goals (refine hK _ _ ⟨eX, ?_⟩; clear hK K; go_simp)) | (refine canon_efw ho17 rfl (by assumption) rfl rfl (fun K hK => ?_); go_simp; (skip); all_goals (refine hK _ _ ⟨eX, ?_⟩; clear hK K; go_simp))
        all_goals (apply canon_st ho18 rfl; exact evE; simp only [ptN])
        all_goals clear ho0 ho1 ho2 ho3 ho4 ho5 ho6 ho7 ho8 ho9 ho10 ho11 ho12 ho13 ho14 ho15 ho16 ho17 ho18
        all_goals refine canon_done (NoPanic.normal ?_)
        · have hst2 := hst3.out
          rw [if_pos hP'] at hst2
          replace hst2 := Lib.hid hst2
          have hX7 : Ext w4 w4.drew := (Ext.refl w4).drew
          have ow8 := hset.out _ (1 - x) (ow.ext hX7)
          have hb8 : But b w4 (w4.drew.setCell ⟨b, o + qi, none⟩ (.int .i64 (1 - x))) := (But.refl b w4).drew.setG _
          have z1 : w4.drew.cell? ⟨b, o + qi, none⟩ = some (.int .i64 x) := y1
          have z2 : w4.drew.frozen? ⟨b, o + qi, none⟩ = false := y1f
          have z3 : b < w4.drew.heap.size := l1
          generalize w4.drew = w5 at *
          clear v0 v1 vl
          go_wp2
          go_roundw
          case rel => exact ⟨j + 1, hlt, by go_num, by rw [hst2.out]; exact ow8, hG.but hb8 hg5, hR.but hb8 hr5, SAt.butF hA hb8 hpb.out, hxt.but hb8 hwb⟩
          case measure => simp [intOf]; omega
        · have hst2 := hst3.out
          rw [if_neg hP'] at hst2
          replace hst2 := Lib.hid hst2
          go_wp2
          go_roundw
          case rel => exact ⟨j + 1, hlt, by go_num, by rw [hst2.out]; exact ow.ext eX, hG.ext eX, hR.ext eX, SAt.ext hA eX, hxt.trans eX⟩
          case measure => simp [intOf]; omega
      · have hst2 := hst.out
        have hxd := decide_eq_false hx
        rw [hxd, Bool.false_and, if_neg (by simp)] at hst2
        replace hst2 := Lib.hid hst2
        go_wp2_with fail
        refine wp_region_canon (fun w' => Ext w4 w') [(0, true), (1, true), (2, true), (3, true), (4, true), (5, true), (6, true), (7, true), (8, true), (9, true), (10, true), (11, true), (12, true), (13, true), (14, true), (15, true), (16, true), (17, false), (18, true)] (by kernel_rfl) (by kernel_rfl) (by decide) (by kernel_rfl) ?_ ?_
        · exact eX
        refine canon_intro fun ops eo => ?_
        have ho0 := canon_at eo 0 rfl
        have ho1 := canon_at eo 1 rfl
        have ho2 := canon_at eo 2 rfl
        have ho3 := canon_at eo 3 rfl
        have ho4 := canon_at eo 4 rfl
        have ho5 := canon_at eo 5 rfl
        have ho6 := canon_at eo 6 rfl
        have ho7 := canon_at eo 7 rfl
        have ho8 := canon_at eo 8 rfl
        have ho9 := canon_at eo 9 rfl
        have ho10 := canon_at eo 10 rfl
        have ho11 := canon_at eo 11 rfl
        have ho12 := canon_at eo 12 rfl
        have ho13 := canon_at eo 13 rfl
        have ho14 := canon_at eo 14 rfl
        have ho15 := canon_at eo 15 rfl
        have ho16 := canon_at eo 16 rfl
        have ho17 := canon_at eo 17 rfl
        have ho18 := canon_at eo 18 rfl
        clear eo
        all_goals (apply canon_st ho0 rfl; exact evE; simp only [ptN])
        all_goals (apply canon_st ho1 rfl; exact evE; simp only [ptN])
        all_goals (apply canon_st ho2 rfl; exact evE; simp only [ptN])
        all_goals (apply canon_st ho3 rfl; exact evE; simp only [ptN])
        all_goals (apply canon_st ho4 rfl; exact evE; simp only [ptN])
        all_goals (apply canon_st ho5 rfl; exact evE; simp only [ptN])
        all_goals first | (refine canon_stu ho6 rfl (by assumption) rfl rfl ?_; simp only [ptN]) | (refine canon_stx ho6 rfl (by assumption) rfl rfl ?_; simp only [ptN]) | (refine canon_stw (v := ?_) ho6 rfl (by assumption) rfl rfl ?_ ?_; rotate_left 1; exact evE; simp only [ptN])
        all_goals first | (refine canon_stu ho7 rfl (by assumption) rfl rfl ?_; simp only [ptN]) | (refine canon_stx ho7 rfl (by assumption) rfl rfl ?_; simp only [ptN]) | (refine canon_stw (v := ?_) ho7 rfl (by assumption) rfl rfl ?_ ?_; rotate_left 1; exact evE; simp only [ptN])
        all_goals first | (refine canon_stu ho8 rfl (by assumption) rfl rfl ?_; simp only [ptN]) | (refine canon_stx ho8 rfl (by assumption) rfl rfl ?_; simp only [ptN]) | (refine canon_stw (v := ?_) ho8 rfl (by assumption) rfl rfl ?_ ?_; rotate_left 1; exact evE; simp only [ptN])
        all_goals first | (refine canon_stu ho9 rfl (by assumption) rfl rfl ?_; simp only [ptN]) | (refine canon_stx ho9 rfl (by assumption) rfl rfl ?_; simp only [ptN]) | (refine canon_stw (v := ?_) ho9 rfl (by assumption) rfl rfl ?_ ?_; rotate_left 1; exact evE; simp only [ptN])
        all_goals first | (refine canon_stu ho10 rfl (by assumption) rfl rfl ?_; simp only [ptN]) | (refine canon_stx ho10 rfl (by assumption) rfl rfl ?_; simp only [ptN]) | (refine canon_stw (v := ?_) ho10 rfl (by assumption) rfl rfl ?_ ?_; rotate_left 1; exact evE; simp only [ptN])
        all_goals first | (refine canon_stu ho11 rfl (by assumption) rfl rfl ?_; simp only [ptN]) | (refine canon_stx ho11 rfl (by assumption) rfl rfl ?_; simp only [ptN]) | (refine canon_stw (v := ?_) ho11 rfl (by assumption) rfl rfl ?_ ?_; rotate_left 1; exact evE; simp only [ptN])
        all_goals first | (refine canon_stu ho12 rfl (by assumption) rfl rfl ?_; simp only [ptN]) | (refine canon_stx ho12 rfl (by assumption) rfl rfl ?_; simp only [ptN]) | (refine canon_stw (v := ?_) ho12 rfl (by assumption) rfl rfl ?_ ?_; rotate_left 1; exact evE; simp only [ptN])
        all_goals first | (refine canon_stu ho13 rfl (by assumption) rfl rfl ?_; simp only [ptN]) | (refine canon_stx ho13 rfl (by assumption) rfl rfl ?_; simp only [ptN]) | (refine canon_stw (v := ?_) ho13 rfl (by assumption) rfl rfl ?_ ?_; rotate_left 1; exact evE; simp only [ptN])
        all_goals first | (refine canon_stu ho14 rfl (by assumption) rfl rfl ?_; simp only [ptN]) | (refine canon_stx ho14 rfl (by assumption) rfl rfl ?_; simp only [ptN]) | (refine canon_stw (v := ?_) ho14 rfl (by assumption) rfl rfl ?_ ?_; rotate_left 1; exact evE; simp only [ptN])
        all_goals first | (refine canon_stu ho15 rfl (by assumption) rfl rfl ?_; simp only [ptN]) | (refine canon_stx ho15 rfl (by assumption) rfl rfl ?_; simp only [ptN]) | (refine canon_stw (v := ?_) ho15 rfl (by assumption) rfl rfl ?_ ?_; rotate_left 1; exact evE; simp only [ptN])
        all_goals first | (refine canon_stu ho16 rfl (by assumption) rfl rfl ?_; simp only [ptN]) | (refine canon_stx ho16 rfl (by assumption) rfl rfl ?_; simp only [ptN]) | (refine canon_stw (v := ?_) ho16 rfl (by assumption) rfl rfl ?_ ?_; rotate_left 1; exact evE; simp only [ptN])
        all_goals first | (refine canon_efu ho17 rfl (by assumption) rfl rfl (by first | assumption | exact eX) ?_; simp only [ptN]) | (refine canon_efx ho17 rfl (by assumption) rfl rfl (by first | assumption | exact eX) ?_; simp only [ptN]) | (refine canon_efw ho17 rfl (by assumption) rfl rfl (fun K hK => ?_); go_simp; (skip); all_goals (refine hK _ _ ⟨eX, ?_⟩; clear hK K; go_simp))
        all_goals (apply canon_st ho18 rfl; exact evE; simp only [ptN])
        all_goals clear ho0 ho1 ho2 ho3 ho4 ho5 ho6 ho7 ho8 ho9 ho10 ho11 ho12 ho13 ho14 ho15 ho16 ho17 ho18
        all_goals refine canon_done (NoPanic.normal ?_)
        go_wp2
        go_roundw
        case rel => exact ⟨j + 1, hlt, by go_num, by rw [hst2.out]; exact ow.ext eX, hG.ext eX, hR.ext eX, SAt.ext hA eX, hxt.trans eX⟩
        case measure => simp [intOf]; omega
    · obtain rfl : j = P := by omega
      rw [← hfin.out] at ow
      have hmlF : (mskL m n xs).length = Nn := by rw [hfin.out, hml.out, hNn.out]
      obtain ⟨g0, g1, g2⟩ := hG.c3; have gl := hG.lt
      obtain ⟨z0, z1, z2⟩ := hR.c3; have zl := hR.lt; have zf := hR.free
      have hFB := ((hR.set 0 (.int .i64 n)).set 1 (.int .i64 n)).set 2 (.slice (some ⟨b, o, none⟩) Nn kq)
      have C0 := Lib.hid (hFB.cell (i := 0) (v := .int .i64 n) rfl); have C1 := Lib.hid (hFB.cell (i := 1) (v := .int .i64 n) rfl); have C2 := Lib.hid (hFB.cell (i := 2) (v := .slice (some ⟨b, o, none⟩) Nn kq) rfl)
      have hx9 := Lib.hid (((hxt.setCell (p := ⟨w.heap.size + 1, 0, none⟩) (Nat.le_succ _) (.int .i64 n)).setCell (p := ⟨w.heap.size + 1, 1, none⟩) (Nat.le_succ _) (.int .i64 n)).setCell (p := ⟨w.heap.size + 1, 2, none⟩) (Nat.le_succ _) (.slice (some ⟨b, o, none⟩) Nn kq))
      have ow9 := Lib.hid (((ow.setFarN (g := w.heap.size + 1) (i := 0) (v := .int .i64 n) (by omega)).setFarN (g := w.heap.size + 1) (i := 1) (v := .int .i64 n) (by omega)).setFarN (g := w.heap.size + 1) (i := 2) (v := .slice (some ⟨b, o, none⟩) Nn kq) (by omega))
      replace hmlF := Lib.hid hmlF
      clear hFB hG hR ow hA hxt
      go_wp2_with fail
      have c0 := C0.out; have c1 := C1.out; have c2 := C2.out
      exact bodyPost_ret (v := vGrid n n (some ⟨b, o, none⟩) Nn kq) (by simp [results, Tryz.results75, go_sem, c0, c1, c2]) rfl ⟨⟨some ⟨b, o, none⟩, kq, by rw [hmlF.out], ow9.out.mono hwb, by rw [hmlF.out]; exact hkq⟩, hx9.out⟩
end Go.Proofs.YtekignklnakkaaaGreatDoor
