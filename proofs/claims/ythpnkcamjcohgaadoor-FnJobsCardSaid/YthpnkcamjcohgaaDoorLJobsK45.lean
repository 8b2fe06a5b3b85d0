/- The walk of the law on jobs. -/
import Derived.Test.YthpnkcamjcohgaaDoorLJobsK34
import Derived.Test.YthpnkcamjcohgaaDoorLJobsK43
import Derived.Test.YthpnkcamjcohgaaDoorLJobsK44
/-! The walk of the law on jobs. -/
namespace Go.Proofs.YthpnkcamjcohgaaDoor
set_option linter.unusedVariables false
set_option linter.unusedSimpArgs false
open Go.RowKit

set_option maxRecDepth 100000 in
theorem likeGridJ_c (r c : Int) (p q : Option Addr) (k m : Nat) (xs : List Int) (w : World) (hx : IntsAt w p xs) (hy : IntsAt w q xs) (hl : xs.length ≤ 1048576) :
    Calls Tryd.prog 34 #[vGrid r c p xs.length k, vGrid r c q xs.length m] w fun e w' => e = .returned (.bool true) ∧ Ext w w' := by
  have HL := Lib.hid (likeInts_c p q k m xs xs ((w.alloc (.cells #[.int .i64 r, .int .i64 c, .slice p xs.length k] 58)).alloc (.cells #[.int .i64 r, .int .i64 c, .slice q xs.length m] 58)) (hx.ext (((Ext.refl w).alloc _).alloc _)) (hy.ext (((Ext.refl w).alloc _).alloc _)) (by omega) (by omega))
  clear hx hy
  go_enter Tryd.func34, Tryd.ntmps34
  go_wp2_with (go_at_call 20; (with_reducible refine HL.out.mono ?_); rintro e w1 ⟨⟨_, rfl⟩ | ⟨hne, rfl⟩, n1, rfl⟩ <;> first | (exact absurd rfl hne) | (exact absurd trivial hne) | skip)
  go_ret
  exact ⟨rfl, (by repeat (first | exact Ext.refl _ | assumption | refine Ext.drew ?_ | refine Ext.drewN ?_ _ | refine Ext.iter ?_ _ _ | refine Ext.alloc ?_ _ | refine Ext.setCell ?_ (by first | exact Nat.le_refl _ | (simp <;> omega)) _ | refine Ext.trans2 (by assumption) ?_))⟩
set_option maxRecDepth 100000 in
theorem iDarkCountG_c (r c : Int) (p : Option Addr) (k : Nat) (xs : List Int) (w : World) (hx : IntsAt w p xs) (hl : xs.length ≤ 1048576) (hg : gridOK r c xs) :
    Calls Tryd.prog 32 #[vGrid r c p xs.length k] w fun e w' => e = .returned (.tuple #[.int .i64 (dkTo xs xs.length), .int .i64 0]) ∧ Ext w w' := by
  have HX := Lib.hid hx; clear hx
  have HG := Lib.hid hg; clear hg
  have hb := Blk.new w #[.int .i64 r, .int .i64 c, .slice p xs.length k] 58
  have hx0 : Ext w (w.alloc (.cells #[.int .i64 r, .int .i64 c, .slice p xs.length k] 58)) := (Ext.refl w).alloc _
  have hig := Lib.hid (fun W (h : IntsAt W p xs) => iIsGrid_c r c p k xs W h hl)
  have hdc := Lib.hid (fun W (h : IntsAt W p xs) => iDarkCount_c r c p k xs W h hl)
  generalize ((dkTo xs xs.length : Nat) : Int) = N at *
  go_enter Tryd.func32, Tryd.ntmps32
  go_wp2_with (first
    | (go_at_call 83; (with_reducible refine (hig.out _ (HX.out.ext hx0)).mono ?_); rintro e w1 ⟨⟨hP, rfl⟩ | ⟨hP, rfl⟩, hx1⟩ <;> first | (exact absurd HG.out hP) | (have hb1 := hb.ext hx1; replace hP := Lib.hid hP; have q0 := hb1.cell (i := 0) (v := .int .i64 r) rfl; have q1 := hb1.cell (i := 1) (v := .int .i64 c) rfl; have q2 := hb1.cell (i := 2) (v := .slice p xs.length k) rfl; have ql := hb1.lt))
    | (go_at_call 82; (with_reducible refine (hdc.out _ (HX.out.ext (hx0.trans hx1))).mono ?_); rintro e w2 ⟨rfl, hx2⟩))
  go_ret2
  exact ⟨rfl, (hx0.trans hx1).trans hx2⟩
/-- What JobOf tells of a grid that has a job. -/
theorem joV_ok {r c : Int} {xs : List Int} (h : (joV r c xs).2 = 0) : ∃ R C : Nat, r = R ∧ c = C ∧ okJ R C xs ∧ (joV r c xs).1 = jobT R C xs ∧ (jobT R C xs).size ≤ 20000 := by
  unfold joV at h ⊢
  split at h
  · rename_i h0
    obtain ⟨R, C, rfl, rfl, hj⟩ := jcV_job h0
    simp only [Int.toNat_natCast] at h ⊢
    split at h
    · rename_i hs
      exact ⟨R, C, rfl, rfl, hj, by rw [if_pos h0, if_pos hs], hs⟩
    · simp at h
  · rename_i h0
    exact absurd h h0
theorem rjV_job {R C : Nat} {xs : List Int} (h : okJ R C xs) (hs : (jobT R C xs).size ≤ 20000) : rjV (jobT R C xs) = ((R : Int), (C : Int), xs, true) := rjV_yes ⟨h, rfl, hs⟩
theorem boL_job {R C : Nat} {xs : List Int} (h : okJ R C xs) : boL R C xs = bandsTo C xs R ∧ sumN (bandsTo C xs R) (bandsTo C xs R).length = R := by
  refine ⟨?_, (bandsTo_ok C xs R).sum⟩
  unfold boL
  rw [if_pos (job_jcV h)]
  simp
set_option maxHeartbeats 1600000 in
set_option maxRecDepth 100000 in
theorem fnJobs_law (pp : Option Addr) (c : Nat) (code : List Int) (w : World) (hx : U8At w pp code) (hl : code.length ≤ maxLen) (hT : Tab10 w) (hM : MaxC w) (hE : ErrC w) :
    Calls Tryd.prog 6 #[.slice pp code.length c] w fun e w' => e = .returned (.bool true) ∧ Ext w w' := by
  have HX := Lib.hid hx; clear hx
  have HT := Lib.hid hT; have HM := Lib.hid hM; have HE := Lib.hid hE; clear hT hM hE
  by_cases h4 : code.length ≤ 4096
  · go_enter Tryd.func6, Tryd.ntmps6
    go_wp2_with (first
      | (go_at_call 12; (with_reducible refine (big_c _ _ _ _ hl).mono ?_); rintro e w1 ⟨⟨hP, rfl⟩ | ⟨hP, rfl⟩, rfl⟩ <;> first | (exfalso; omega) | skip))
    refine (DrawJobOf_c _ _ _ _ HX.out h4).mono ?_
    rintro e w2 ⟨r, cc, p, k, xs, rfl, hlx, hkx, ho, hx2⟩
    have hA := Blk.new w2 #[.int .i64 r, .int .i64 cc, .slice p xs.length k] 58
    have hxa : Ext w2 (w2.alloc (.cells #[.int .i64 r, .int .i64 cc, .slice p xs.length k] 58)) := (Ext.refl w2).alloc _
    have hi := Lib.hid (ho.ints.ext hxa)
    have hx3 := hx2.trans hxa
    have hjo := Lib.hid (fun W (h1 : IntsAt W p xs) (h2 : Tab10 W) => iJobOf_c r cc p k xs W h1 (by omega) hkx h2)
    have hjs := Lib.hid (fun W (h1 : IntsAt W p xs) (h2 : Tab10 W) => sJobOf_c r cc p k xs W h1 (by omega) hkx h2)
    clear ho hx2 hxa
    go_wp2_with fail
    generalize w2.alloc (.cells #[.int .i64 r, .int .i64 cc, .slice p xs.length k] 58) = w3 at *
    generalize w2.heap.size = gA at *
    by_cases h0 : (joV r cc xs).2 = 0
    · obtain ⟨R, C, rfl, rfl, hj, hJ, hs⟩ := joV_ok h0
      rw [hJ, h0] at hjo hjs
      have hrv := rjV_job hj hs
      have hrd := Lib.hid (fun W (hx : Ext w W) => (iReadJob_c (jobT R C xs) W (by omega) (HT.out.ext hx) (HM.out.ext hx) (HE.out.ext hx)).mono (fun e w' (h : RjE _ _ _ _ ∧ _) => (And.intro h.1.form h.2)))
      rw [hrv] at hrd
      have hik := Lib.hid (fun W (hx : Ext w W) => iInkOf_c (jobT R C xs) W (by omega) (HT.out.ext hx) (HM.out.ext hx) (HE.out.ext hx))
      have hikv : ikV (jobT R C xs) = (((dkTo xs xs.length : Nat) : Int), 0) := by
        unfold ikV
        rw [hrv]
        simp
      rw [hikv] at hik
      have hdk := Lib.hid (fun W (h : IntsAt W p xs) => iDarkCountG_c R C p k xs W h (by omega) (okJ_grid hj))
      have hbo := Lib.hid (fun W (h : IntsAt W p xs) => (iBandsOf_c R C p k xs W h (by omega) hkx).mono (fun e w' (h : LC2 _ _ _ _ _ ∧ _) => (And.intro (show ∃ p c, e = .returned (.tuple #[.slice p (boL R C xs).length c, .int .i64 (jcV R C xs)]) ∧ OwnInts _ w' p (boL R C xs) from h.1) h.2)))
      rw [(boL_job hj).1, job_jcV hj] at hbo
      have hLs := (boL_job hj).2
      have hLb := bandsTo_bd C xs R
      have hR : R ≤ 40000 := hj.rle
      have hlg := Lib.hid (fun W q m (h1 : IntsAt W q xs) (h2 : IntsAt W p xs) => likeGridJ_c R C q p m k xs W h1 h2 (by omega))
      clear h0 hJ hrv hikv hj hs
      generalize jobT R C xs = J at *
      have hJJ : (!(J.toList == J.toList)) = false := by simp
      generalize ((dkTo xs xs.length : Nat) : Int) = DK at *
      generalize bandsTo C xs R = L at *
      have hLl : L.length ≤ 40000 := by have := hLb.1; omega
      refine (hjo.out _ hi.out (HT.out.ext hx3)).mono ?_
      rintro e w4 ⟨rfl, hx4⟩
      have a4 := hA.ext hx4; have i4 := Lib.hid (hi.out.ext hx4); have hx04 := hx3.trans hx4
      have q0 := a4.cell (i := 0) (v := .int .i64 R) rfl; have q1 := a4.cell (i := 1) (v := .int .i64 C) rfl; have q2 := a4.cell (i := 2) (v := .slice p xs.length k) rfl; have ql := a4.lt
      go_wp2_with fail
      clear q0 q1 q2 ql hjo hA hi hx3 hx4
      refine (hjs.out _ i4.out (HT.out.ext hx04)).mono ?_
      rintro e w5 ⟨rfl, hx5⟩
      have a5 := a4.ext hx5; have i5 := Lib.hid (i4.out.ext hx5); have hx05 := hx04.trans hx5
      clear hjs a4 i4 hx04 hx5
      go_wp2_with fail
      refine (hrd.out _ hx05).mono ?_
      rintro e w6 ⟨⟨p6, k6, rfl, o6⟩, hx6⟩
      have hB := Blk.new w6 #[.int .i64 R, .int .i64 C, .slice p6 xs.length k6] 58
      have hxb : Ext w6 (w6.alloc (.cells #[.int .i64 R, .int .i64 C, .slice p6 xs.length k6] 58)) := (Ext.refl w6).alloc _
      have a6 := a5.ext (hx6.trans hxb); have i6 := Lib.hid (i5.out.ext (hx6.trans hxb)); have hx06 := hx05.trans (hx6.trans hxb); have j6 := Lib.hid (o6.ints.ext hxb)
      clear hrd a5 i5 hx05 hx6 hxb o6
      go_wp2_with fail
      generalize w6.alloc (.cells #[.int .i64 R, .int .i64 C, .slice p6 xs.length k6] 58) = w7 at *
      generalize w6.heap.size = gB at *
      refine (hik.out _ hx06).mono ?_
      rintro e w8 ⟨rfl, hx8⟩
      have a8 := a6.ext hx8; have b8 := hB.ext hx8; have i8 := Lib.hid (i6.out.ext hx8); have j8 := Lib.hid (j6.out.ext hx8); have hx08 := hx06.trans hx8
      have q0 := a8.cell (i := 0) (v := .int .i64 R) rfl; have q1 := a8.cell (i := 1) (v := .int .i64 C) rfl; have q2 := a8.cell (i := 2) (v := .slice p xs.length k) rfl; have ql := a8.lt
      clear hik a6 hB i6 j6 hx06 hx8
      go_wp2_with fail
      clear q0 q1 q2 ql
      refine (hdk.out _ i8.out).mono ?_
      rintro e w9 ⟨rfl, hx9⟩
      have a9 := a8.ext hx9; have b9 := b8.ext hx9; have i9 := Lib.hid (i8.out.ext hx9); have j9 := Lib.hid (j8.out.ext hx9); have hx09 := hx08.trans hx9
      have q0 := a9.cell (i := 0) (v := .int .i64 R) rfl; have q1 := a9.cell (i := 1) (v := .int .i64 C) rfl; have q2 := a9.cell (i := 2) (v := .slice p xs.length k) rfl; have ql := a9.lt
      clear hdk a8 b8 i8 j8 hx08 hx9
      go_wp2_with fail
      clear q0 q1 q2 ql
      refine (hbo.out _ i9.out).mono ?_
      rintro e w10 ⟨⟨p10, k10, rfl, o10⟩, hx10⟩
      have a10 := a9.ext hx10; have b10 := b9.ext hx10; have i10 := Lib.hid (i9.out.ext hx10); have j10 := Lib.hid (j9.out.ext hx10); have hx010 := hx09.trans hx10
      have l10 := Lib.hid o10.ints
      clear hbo a9 b9 i9 j9 hx09 hx10 o10
      go_wp2_with fail
      go_loop [16, 17] (fun s i => ∃ j : Nat, j ≤ L.length ∧ i = .int .i64 j ∧ s = .int .i64 (sumN L j : Nat)) (fun _ i => L.length - (intOf i).toNat)
      case atStart => exact ⟨0, Nat.zero_le _, rfl, rfl⟩
      case round =>
        obtain ⟨j, hjl, rfl, rfl⟩ := hrel
        have hmo := sumN_mono L hjl
        by_cases hlt : j < L.length
        · have hji : (j : Int) < L.length := by omega
          obtain ⟨b, o, rfl, hbl, y⟩ := l10.out j hlt
          have hsu := sumN_succ hlt
          have hmm := sumN_mono L (show j + 1 ≤ L.length from hlt)
          have hy := hLb.2.2 (L.getD j 0) (by rw [List.getD_eq_getElem?_getD, List.getElem?_eq_getElem hlt]; exact List.getElem_mem hlt)
          have hsn : ((sumN L (j + 1) : Nat) : Int) = (sumN L j : Nat) + L.getD j 0 := by omega
          generalize L.getD j 0 = x at *
          have hsn' := Lib.hid hsn
          have hbdd : ((sumN L j : Nat) : Int) + x ≤ 40000 := by omega
          clear hsu hmm hsn hmo hLs
          generalize sumN L j = S0 at *
          go_wp2
          go_round
          case rel => exact ⟨j + 1, hlt, by go_num, by rw [hsn'.out]⟩
          case measure => simp [intOf]; omega
        · obtain rfl : j = L.length := by omega
          rw [hLs] at hmo ⊢
          have q0 := a10.cell (i := 0) (v := .int .i64 R) rfl; have q1 := a10.cell (i := 1) (v := .int .i64 C) rfl; have q2 := a10.cell (i := 2) (v := .slice p xs.length k) rfl; have ql := a10.lt
          have z0 := b10.cell (i := 0) (v := .int .i64 R) rfl; have z1 := b10.cell (i := 1) (v := .int .i64 C) rfl; have z2 := b10.cell (i := 2) (v := .slice p6 xs.length k6) rfl; have zl := b10.lt
          replace hLs := Lib.hid hLs
          go_wp2_with (go_at_call 34; (with_reducible refine (hlg.out _ _ _ j10.out i10.out).mono ?_); rintro e w11 ⟨rfl, hx11⟩; have a11 := a10.ext hx11; have q0 := a11.cell (i := 0) (v := .int .i64 R) rfl; have ql := a11.lt)
          go_ret
          exact ⟨rfl, hx010.trans hx11⟩
    · have h0b : ((joV r cc xs).2 != 0) = true := by simpa using h0
      generalize joV r cc xs = V at *
      obtain ⟨J, cd⟩ := V
      have hJJ : (!(J.toList == J.toList)) = false := by simp
      simp only at hjo hjs h0b
      refine (hjo.out _ hi.out (HT.out.ext hx3)).mono ?_
      rintro e w4 ⟨rfl, hx4⟩
      have a4 := hA.ext hx4; have i4 := Lib.hid (hi.out.ext hx4); have hx04 := hx3.trans hx4
      have q0 := a4.cell (i := 0) (v := .int .i64 r) rfl; have q1 := a4.cell (i := 1) (v := .int .i64 cc) rfl; have q2 := a4.cell (i := 2) (v := .slice p xs.length k) rfl; have ql := a4.lt
      replace h0 := Lib.hid h0
      go_wp2_with fail
      clear q0 q1 q2 ql hjo hA hi hx3 hx4
      refine (hjs.out _ i4.out (HT.out.ext hx04)).mono ?_
      rintro e w5 ⟨rfl, hx5⟩
      go_wp2_with fail
      go_ret
      exact ⟨rfl, hx04.trans hx5⟩
  · go_enter Tryd.func6, Tryd.ntmps6
    go_wp2_with (go_at_call 12; (with_reducible refine (big_c _ _ _ _ hl).mono ?_); rintro e w1 ⟨⟨hP, rfl⟩ | ⟨hP, rfl⟩, rfl⟩ <;> first | (exfalso; omega) | skip)
    go_ret
    exact ⟨rfl, Ext.refl _⟩
end Go.Proofs.YthpnkcamjcohgaaDoor
