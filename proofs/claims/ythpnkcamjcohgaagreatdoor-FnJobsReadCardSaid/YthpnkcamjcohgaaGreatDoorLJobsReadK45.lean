/- The walk of the law on jobs that are read. -/
import Derived.Test.YthpnkcamjcohgaaGreatDoorLJobsReadK30
import Derived.Test.YthpnkcamjcohgaaGreatDoorLJobsReadK43
import Derived.Test.YthpnkcamjcohgaaGreatDoorLJobsReadK44
/-! The walk of the law on jobs that are read. -/
namespace Go.Proofs.YthpnkcamjcohgaaGreatDoor
set_option linter.unusedVariables false
set_option linter.unusedSimpArgs false
open Go.RowKit

set_option maxRecDepth 100000 in
theorem likeRasterR_c (r c : Int) (p q : Option Addr) (k m : Nat) (xs : List Int) (w : World) (hx : IntsAt w p xs) (hy : IntsAt w q xs) (hl : xs.length ≤ 1048576) :
    Calls Tryz.prog 16 #[vRasJ r c p xs.length k, vRasJ r c q xs.length m] w fun e w' => e = .returned (.bool true) ∧ Ext w w' := by
  have HL := Lib.hid (likeInts_c p q k m xs xs ((w.alloc (.cells #[.int .i64 r, .int .i64 c, .slice p xs.length k] 37)).alloc (.cells #[.int .i64 r, .int .i64 c, .slice q xs.length m] 37)) (hx.ext (((Ext.refl w).alloc _).alloc _)) (hy.ext (((Ext.refl w).alloc _).alloc _)) (by omega) (by omega))
  clear hx hy
  go_enter Tryz.func16, Tryz.ntmps16
  go_wp2_with (go_at_call 10; (with_reducible refine HL.out.mono ?_); rintro e w1 ⟨⟨_, rfl⟩ | ⟨hne, rfl⟩, n1, rfl⟩ <;> first | (exact absurd rfl hne) | (exact absurd trivial hne) | skip)
  go_ret
  exact ⟨rfl, (by repeat (first | exact Ext.refl _ | assumption | refine Ext.drew ?_ | refine Ext.drewN ?_ _ | refine Ext.iter ?_ _ _ | refine Ext.alloc ?_ _ | refine Ext.setCell ?_ (by first | exact Nat.le_refl _ | (simp <;> omega)) _ | refine Ext.trans2 (by assumption) ?_))⟩
set_option maxRecDepth 100000 in
theorem likeGridR_c (r c : Int) (p q : Option Addr) (k m : Nat) (xs : List Int) (w : World) (hx : IntsAt w p xs) (hy : IntsAt w q xs) (hl : xs.length ≤ 1048576) :
    Calls Tryz.prog 13 #[vGrid r c p xs.length k, vGrid r c q xs.length m] w fun e w' => e = .returned (.bool true) ∧ Ext w w' := by
  have HL := Lib.hid (likeInts_c p q k m xs xs ((w.alloc (.cells #[.int .i64 r, .int .i64 c, .slice p xs.length k] 30)).alloc (.cells #[.int .i64 r, .int .i64 c, .slice q xs.length m] 30)) (hx.ext (((Ext.refl w).alloc _).alloc _)) (hy.ext (((Ext.refl w).alloc _).alloc _)) (by omega) (by omega))
  clear hx hy
  go_enter Tryz.func13, Tryz.ntmps13
  go_wp2_with (go_at_call 10; (with_reducible refine HL.out.mono ?_); rintro e w1 ⟨⟨_, rfl⟩ | ⟨hne, rfl⟩, n1, rfl⟩ <;> first | (exact absurd rfl hne) | (exact absurd trivial hne) | skip)
  go_ret
  exact ⟨rfl, (by repeat (first | exact Ext.refl _ | assumption | refine Ext.drew ?_ | refine Ext.drewN ?_ _ | refine Ext.iter ?_ _ _ | refine Ext.alloc ?_ _ | refine Ext.setCell ?_ (by first | exact Nat.le_refl _ | (simp <;> omega)) _ | refine Ext.trans2 (by assumption) ?_))⟩
theorem RjE.formC {B : Nat} {s : ByteArray} {e : Ending} {w' : World} (h : RjE B s e w') : ∃ p k, e = .returned (.tuple #[vGrid (rjV s).1 (rjV s).2.1 p (rjV s).2.2.1.length k, .bool (rjV s).2.2.2]) ∧ OwnInts B w' p (rjV s).2.2.1 ∧ (rjV s).2.2.1.length ≤ k := by
  rcases h with ⟨R, C, xs, p, c, rfl, h, hc, ho⟩ | ⟨rfl, h⟩
  · rw [rjV_yes h]
    exact ⟨p, c, rfl, ho, hc⟩
  · rw [rjV_no h]
    exact ⟨none, 0, rfl, OwnInts.nil _ _ _, Nat.le_refl _⟩
theorem jrV_no {s : ByteArray} (h : (rjV s).2.2.2 = false) : jrV s = (0, 0, [], 6) := by
  unfold jrV
  rw [if_pos (by simp [h])]
theorem rjV_back {s : ByteArray} (h : (rjV s).2.2.2 = true) : joV (rjV s).1 (rjV s).2.1 (rjV s).2.2.1 = (s, 0) := by
  rcases rjV_cases s with ⟨R, C, xs, hj, e⟩ | e
  · rw [e]
    simp only
    unfold joV
    rw [if_pos (job_jcV hj.1), Int.toNat_natCast, Int.toNat_natCast, ← hj.2.1, if_pos hj.2.2]
  · rw [e] at h; cases h
set_option maxHeartbeats 1600000 in
set_option maxRecDepth 100000 in
theorem fnJobsRead_law (pp : Option Addr) (c : Nat) (code : List Int) (w : World) (hx : U8At w pp code) (hl : code.length ≤ maxLen) (hT : Tab10 w) (hM : MaxC w) (hE : ErrC w) :
    Calls Tryz.prog 4 #[.slice pp code.length c] w fun e w' => e = .returned (.bool true) ∧ Ext w w' := by
  have HX := Lib.hid hx; clear hx
  have HT := Lib.hid hT; have HM := Lib.hid hM; have HE := Lib.hid hE; clear hT hM hE
  by_cases h4 : code.length ≤ 4096
  · go_enter Tryz.func4, Tryz.ntmps4
    go_wp2_with (first
      | (go_at_call 5; (with_reducible refine (big_c _ _ _ _ hl).mono ?_); rintro e w1 ⟨⟨hP, rfl⟩ | ⟨hP, rfl⟩, rfl⟩ <;> first | (exfalso; omega) | skip))
    refine (DrawReadJob_c _ _ _ _ HX.out h4 HT.out).mono ?_
    rintro e w2 ⟨t, rfl, ht, hx2⟩
    have hri := Lib.hid (fun W (hx : Ext w W) => (iReadJob_c t W (by omega) (HT.out.ext hx) (HM.out.ext hx) (HE.out.ext hx)).mono (fun e w' (h : RjE _ _ _ _ ∧ _) => (And.intro h.1.formC h.2)))
    have hrs := Lib.hid (fun W => (sReadJob_c t W (by omega)).mono (fun e w' (h : RjE _ _ _ _ ∧ _) => (And.intro h.1.form h.2)))
    have hji := Lib.hid (fun W (hx : Ext w W) => (iJobRaster_c t W (by omega) (HT.out.ext hx) (HM.out.ext hx) (HE.out.ext hx)).mono (fun e w' (h : JrE _ _ _ _ ∧ _) => (And.intro h.1.form h.2)))
    have hjs := Lib.hid (fun W => (sJobRaster_c t W (by omega)).mono (fun e w' (h : JrE _ _ _ _ ∧ _) => (And.intro h.1.form h.2)))
    have hla := rjV_len t
    have hlj := jrV_len t
    have hno := Lib.hid (fun h => congrArg (fun V => V.2.2.2) (jrV_no (s := t) h))
    have hbk := Lib.hid (rjV_back (s := t))
    generalize rjV t = V at *
    generalize jrV t = U at *
    obtain ⟨R, C, xs, ok⟩ := V
    obtain ⟨H, D, L, bd⟩ := U
    simp only at hri hrs hji hjs hla hlj hno hbk
    have hlg := Lib.hid (fun W p q k m (h1 : IntsAt W p xs) (h2 : IntsAt W q xs) => likeGridR_c R C p q k m xs W h1 h2 (by omega))
    have hlr := Lib.hid (fun W p q k m (h1 : IntsAt W p L) (h2 : IntsAt W q L) => likeRasterR_c H D p q k m L W h1 h2 (by omega))
    have htt : (t.toList == t.toList) = true := by simp
    go_wp2_with fail
    refine (hri.out _ hx2).mono ?_
    rintro e w3 ⟨⟨p3, k3, rfl, o3, hk3⟩, hx3⟩
    have hA := Blk.new w3 #[.int .i64 R, .int .i64 C, .slice p3 xs.length k3] 30
    have hxa : Ext w3 (w3.alloc (.cells #[.int .i64 R, .int .i64 C, .slice p3 xs.length k3] 30)) := (Ext.refl w3).alloc _
    have i3 := Lib.hid (o3.ints.ext hxa); have hx03 := (hx2.trans hx3).trans hxa
    clear hri o3 hxa hx2 hx3
    go_wp2_with fail
    generalize w3.alloc (.cells #[.int .i64 R, .int .i64 C, .slice p3 xs.length k3] 30) = w4 at *
    generalize w3.heap.size = gA at *
    refine (hrs.out _).mono ?_
    rintro e w5 ⟨⟨p5, k5, rfl, o5⟩, hx5⟩
    have hB := Blk.new w5 #[.int .i64 R, .int .i64 C, .slice p5 xs.length k5] 30
    have hxb : Ext w5 (w5.alloc (.cells #[.int .i64 R, .int .i64 C, .slice p5 xs.length k5] 30)) := (Ext.refl w5).alloc _
    have i5 := Lib.hid (o5.ints.ext hxb); have hx46 := hx5.trans hxb
    have a6 := hA.ext hx46; have i36 := Lib.hid (i3.out.ext hx46); have hx06 := hx03.trans hx46
    have q0 := a6.cell (i := 0) (v := .int .i64 R) rfl; have q1 := a6.cell (i := 1) (v := .int .i64 C) rfl; have q2 := a6.cell (i := 2) (v := .slice p3 xs.length k3) rfl; have ql := a6.lt
    have z0 := hB.cell (i := 0) (v := .int .i64 R) rfl; have z1 := hB.cell (i := 1) (v := .int .i64 C) rfl; have z2 := hB.cell (i := 2) (v := .slice p5 xs.length k5) rfl; have zl := hB.lt
    have hok : (ok != ok) = false := by simp
    clear hrs o5 hxb hx5 hx46 hx03 hA i3
    go_upto_region 6 with fail
    generalize w5.alloc (.cells #[.int .i64 R, .int .i64 C, .slice p5 xs.length k5] 30) = w6 at *
    generalize w5.heap.size = gB at *
    go_upto_region 8 with (go_at_call 13; (with_reducible refine (hlg.out _ _ _ _ _ i36.out i5.out).mono ?_); rintro e w7 ⟨rfl, hx7⟩)
    have a7 := a6.ext hx7; have i7 := Lib.hid (i36.out.ext hx7); have hx07 := hx06.trans hx7
    clear q0 q1 q2 ql z0 z1 z2 zl a6 hB i36 i5 hx7 hx06 hlg
    go_wp2_with fail
    refine (hji.out _ hx07).mono ?_
    rintro e w8 ⟨⟨p8, k8, rfl, o8⟩, hx8⟩
    have hF := Blk.new w8 #[.int .i64 H, .int .i64 D, .slice p8 L.length k8] 37
    have hxf : Ext w8 (w8.alloc (.cells #[.int .i64 H, .int .i64 D, .slice p8 L.length k8] 37)) := (Ext.refl w8).alloc _
    have i8 := Lib.hid (o8.ints.ext hxf); have hx79 := hx8.trans hxf
    have a9 := a7.ext hx79; have i9 := Lib.hid (i7.out.ext hx79); have hx09 := hx07.trans hx79
    clear hji o8 hxf hx8 hx79 a7 i7 hx07
    go_wp2_with fail
    generalize w8.alloc (.cells #[.int .i64 H, .int .i64 D, .slice p8 L.length k8] 37) = w9 at *
    generalize w8.heap.size = gF at *
    refine (hjs.out _).mono ?_
    rintro e w10 ⟨⟨p10, k10, rfl, o10⟩, hx10⟩
    have hG := Blk.new w10 #[.int .i64 H, .int .i64 D, .slice p10 L.length k10] 37
    have hxg : Ext w10 (w10.alloc (.cells #[.int .i64 H, .int .i64 D, .slice p10 L.length k10] 37)) := (Ext.refl w10).alloc _
    have i10 := Lib.hid (o10.ints.ext hxg); have hx911 := hx10.trans hxg
    have a11 := a9.ext hx911; have i11 := Lib.hid (i9.out.ext hx911); have f11 := hF.ext hx911; have i811 := Lib.hid (i8.out.ext hx911); have hx011 := hx09.trans hx911
    have q0 := f11.cell (i := 0) (v := .int .i64 H) rfl; have q1 := f11.cell (i := 1) (v := .int .i64 D) rfl; have q2 := f11.cell (i := 2) (v := .slice p8 L.length k8) rfl; have ql := f11.lt
    have z0 := hG.cell (i := 0) (v := .int .i64 H) rfl; have z1 := hG.cell (i := 1) (v := .int .i64 D) rfl; have z2 := hG.cell (i := 2) (v := .slice p10 L.length k10) rfl; have zl := hG.lt
    clear hjs o10 hxg hx10 hx911 hx09 a9 i9 hF i8
    go_upto_region 10 with fail
    generalize w10.alloc (.cells #[.int .i64 H, .int .i64 D, .slice p10 L.length k10] 37) = w11 at *
    generalize w10.heap.size = gG at *
    go_upto_region 12 with (go_at_call 16; (with_reducible refine (hlr.out _ _ _ _ _ i811.out i10.out).mono ?_); rintro e w12 ⟨rfl, hx12⟩)
    have a12 := a11.ext hx12; have i12 := Lib.hid (i11.out.ext hx12); have hx012 := hx011.trans hx12
    clear q0 q1 q2 ql z0 z1 z2 zl a11 hG f11 i11 i811 i10 hx12 hx011 hlr
    have q0 := a12.cell (i := 0) (v := .int .i64 R) rfl; have q1 := a12.cell (i := 1) (v := .int .i64 C) rfl; have q2 := a12.cell (i := 2) (v := .slice p3 xs.length k3) rfl; have ql := a12.lt
    cases ok
    · have hb6 : bd = 6 := hno.out rfl
      subst hb6
      go_wp2
      go_ret
      exact ⟨rfl, hx012⟩
    · have hjo := hbk.out rfl
      have hjc := Lib.hid (fun W k (hk : xs.length ≤ k) (h1 : IntsAt W p3 xs) (h2 : Tab10 W) => iJobOf_c R C p3 k xs W h1 (by omega) hk h2)
      rw [hjo] at hjc
      clear hbk hno hjo
      go_wp2_with fail
      refine (hjc.out _ _ hk3 i12.out (HT.out.ext hx012)).mono ?_
      rintro e w13 ⟨rfl, hx13⟩
      go_wp2
      go_ret
      exact ⟨rfl, hx012.trans hx13⟩
  · go_enter Tryz.func4, Tryz.ntmps4
    go_wp2_with (go_at_call 5; (with_reducible refine (big_c _ _ _ _ hl).mono ?_); rintro e w1 ⟨⟨hP, rfl⟩ | ⟨hP, rfl⟩, rfl⟩ <;> first | (exfalso; omega) | skip)
    go_ret
    exact ⟨rfl, Ext.refl _⟩
end Go.Proofs.YthpnkcamjcohgaaGreatDoor
