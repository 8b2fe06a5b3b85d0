
/- The walk of the law FnFormatKept. -/
import Derived.Test.YthjklchmjeojjaaFmtK
import Derived.Test.YthjklchmjeojjaaCanon
import Derived.Test.YthjklchmjeojjaaBack
import Derived.Test.YthjklchmjeojjaaGridLaw
import Derived.Deep.DeepCutAuto
namespace Go.Proofs.Ythjklchmjeojjaa
set_option linter.unusedVariables false
set_option linter.unusedSimpArgs false
open Go.RowKit

set_option maxRecDepth 100000 in
theorem likeGrid_k (r c : Int) (p q : Option Addr) (k m : Nat) (xs : List Int) (w : World) (hx : IntsAt w p xs) (hy : IntsAt w q xs) (hl : xs.length ≤ 1048576) :
    Calls Try.prog 10 #[vGrid r c p xs.length k, vGrid r c q xs.length m] w fun e w' => e = .returned (.bool true) ∧ Ext w w' := by
  have HL := Lib.hid (likeInts_c p q k m xs xs ((w.alloc (.cells #[.int .i64 r, .int .i64 c, .slice p xs.length k] 26)).alloc (.cells #[.int .i64 r, .int .i64 c, .slice q xs.length m] 26)) (hx.ext (((Ext.refl w).alloc _).alloc _)) (hy.ext (((Ext.refl w).alloc _).alloc _)) (by omega) (by omega))
  clear hx hy
  go_enter Try.func10, Try.ntmps10
  go_wp2_with (go_at_call 36; (with_reducible refine HL.out.mono ?_); rintro e w1 ⟨⟨_, rfl⟩ | ⟨hne, rfl⟩, n1, rfl⟩ <;> first | (exact absurd rfl hne) | (exact absurd trivial hne) | skip)
  go_ret
  exact ⟨rfl, (by repeat (first | exact Ext.refl _ | assumption | refine Ext.drew ?_ | refine Ext.drewN ?_ _ | refine Ext.iter ?_ _ _ | refine Ext.alloc ?_ _ | refine Ext.setCell ?_ (by first | exact Nat.le_refl _ | (simp <;> omega)) _ | refine Ext.trans2 (by assumption) ?_))⟩
theorem pfV_ok {r c v : Int} {xs : List Int} {R C : Int} {L : List Int} (h : pfV r c xs v = (0, R, C, L)) :
    ∃ n u : Nat, r = n ∧ c = n ∧ v = u ∧ R = n ∧ C = n ∧ (17 ≤ n ∧ n ≤ 41) ∧ n % 4 = 1 ∧ u < 32 ∧ FmtK n (fmtW u) 0 L := by
  unfold pfV at h
  by_cases hM : matOK r c xs
  · rw [if_neg (not_not_intro hM)] at h
    by_cases hv : 0 ≤ v ∧ v ≤ 31
    · rw [if_neg (not_not_intro hv)] at h
      obtain ⟨n, rfl, rfl, h17, h41, h4, hlen, hbd⟩ := matOK_nat hM
      obtain ⟨u, rfl⟩ := Int.eq_ofNat_of_zero_le hv.1
      simp only [Prod.mk.injEq, true_and] at h
      obtain ⟨rfl, rfl, rfl⟩ := h
      exact ⟨n, u, rfl, rfl, rfl, rfl, rfl, ⟨h17, h41⟩, h4, by omega, FmtK.start (by omega) ⟨h17, h41⟩ h4 hlen hbd⟩
    · rw [if_pos hv] at h; simp at h
  · rw [if_pos hM] at h; simp at h
theorem OwnInts.butN {B g b o : Nat} {w w' : World} {xs : List Int} (h : OwnInts B w (some ⟨b, o, none⟩) xs) (hb : But g w w') (hne : b ≠ g) : OwnInts B w' (some ⟨b, o, none⟩) xs := fun i hi => by
  obtain ⟨b', o', h1, h2, h3, h4, h5⟩ := h i hi
  simp only [Option.some.injEq, Addr.mk.injEq, and_true] at h1
  obtain ⟨rfl, rfl⟩ := h1
  obtain ⟨hc, hf, hk, _⟩ := bucell hb
  exact ⟨b, o, rfl, h2, hk _ h3, by rw [hc _ _ h3 hne]; exact h4, by rw [hf _ _ h3 hne]; exact h5⟩
theorem But.old {g x : Nat} {a b c : World} (h : But g a b) (k : But x b c) (hx : a.heap.size ≤ x) : But g a c :=
  ⟨k.os.trans h.os, k.tape.trans h.tape, k.output.trans h.output, Nat.le_trans h.size k.size, fun i hi hne => (k.block i (Nat.lt_of_lt_of_le hi h.size) (by omega)).trans (h.block i hi hne)⟩
theorem DiceN.but {n0 : Nat} {w w' : World} {g x : Nat} (h : DiceN n0 w g) (hb : But x w w') (hne : g ≠ x) (hx : n0 ≤ x) : DiceN n0 w' g := by
  obtain ⟨p, code, c, j, y, h1, h2, h3, h4⟩ := h
  exact ⟨p, code, c, j, y, h1.but hb hne, h2.but hb (fun b' o' hn e => by have := (h3 b' o' hn e).2; omega), h3, h4⟩
theorem pl_at {w : World} {b o : Nat} {ps : List (Int × Int)} (h : PlAt w (some ⟨b, o, none⟩) ps) {k : Nat} (hk : k < ps.length) : b < w.heap.size ∧ w.cell? ⟨b, o + k * 2, none⟩ = some (.int .i64 (ps.getD k (0, 0)).1) ∧ w.cell? ⟨b, o + k * 2 + 1, none⟩ = some (.int .i64 (ps.getD k (0, 0)).2) := by
  obtain ⟨b', o', e, h1, h2⟩ := SAt.pl2 h hk
  simp only [Option.some.injEq, Addr.mk.injEq, and_true] at e
  obtain ⟨rfl, rfl⟩ := e
  exact ⟨h1, h2⟩
/-- Two places have been drawn into blocks of their own. -/
def TwoPl (gd n0 n : Nat) (wr : World) (s t : Value) (wx : World) : Prop := ∃ g14 g15 ka kb : Nat, s = .pointer (some ⟨g14, 0, none⟩) ∧ t = .pointer (some ⟨g15, 0, none⟩) ∧ ka < 15 ∧ kb < 15 ∧ Blk wx g14 #[.int .i64 (aPl.getD ka (0, 0)).1, .int .i64 (aPl.getD ka (0, 0)).2] 38 ∧ Blk wx g15 #[.int .i64 ((bPl n).getD kb (0, 0)).1, .int .i64 ((bPl n).getD kb (0, 0)).2] 38 ∧ DiceN n0 wx gd ∧ But gd wr wx ∧ wr.heap.size ≤ g14 ∧ wr.heap.size ≤ g15
theorem alloc_op {Q : Exit → Act → World → Prop} {K : Act → World → Prop} {a : Act} {dst : Option Tmp} {ty : TypeId} {pos : String} {after : Array Edge} {w : World}
    (h : ∀ w' n, w.heap.size = n → n < w'.heap.size → Ext w w' → Blk w' n #[.int .i64 0, .int .i64 0] 38 → K (a.put dst (.pointer (some ⟨n, 0, none⟩))) w') :
    Oper.wp Try.prog ⟨dst, .alloc 38, ty, pos, after, none⟩ a w K Q := by
  unfold Oper.wp execOp
  go_simp
  exact h _ _ rfl (by simp) ((Ext.refl w).alloc _) (Blk.new w _ _)
theorem store_op {Q : Exit → Act → World → Prop} {K : Act → World → Prop} {a : Act} {dst : Option Tmp} {ty : TypeId} {x y : Operand} {pos : String} {after : Array Edge} {w : World} {g : Nat} {u0 u1 v0 v1 : Int} 
    (hq : Blk w g #[.int .i64 u0, .int .i64 u1] 38) (hx : a.eval x = .pointer (some ⟨g, 0, none⟩)) (hy : a.eval y = .agg #[.int .i64 v0, .int .i64 v1])
    (h : ∀ w', But g w w' → w'.heap.size = w.heap.size → Blk w' g #[.int .i64 v0, .int .i64 v1] 38 → K (a.put dst undef) w') :
    Oper.wp Try.prog ⟨dst, .store 38 x y, ty, pos, after, none⟩ a w K Q := by
  have c0 := hq.cell (i := 0) (v := .int .i64 u0) rfl; have c1 := hq.cell (i := 1) (v := .int .i64 u1) rfl; have cf := hq.free; have cl := hq.lt
  have hB : But g w ((w.setCell ⟨g, 0, none⟩ (.int .i64 v0)).setCell ⟨g, 1, none⟩ (.int .i64 v1)) := (But.set w g 0 _).setG _
  have hq2 : Blk ((w.setCell ⟨g, 0, none⟩ (.int .i64 v0)).setCell ⟨g, 1, none⟩ (.int .i64 v1)) g #[.int .i64 v0, .int .i64 v1] 38 := (hq.set 0 (.int .i64 v0)).set 1 (.int .i64 v1)
  replace hB := Lib.hid hB; replace hq2 := Lib.hid hq2
  unfold Oper.wp execOp
  simp only [hx, hy]
  go_simp
  exact h _ hB.out (by simp) hq2.out
set_option maxHeartbeats 1600000 in
set_option maxRecDepth 100000 in
theorem format_law (p : Option Addr) (cc : Nat) (code : List Int) (w : World) (hx : U8At w p code) (hl : code.length ≤ maxLen) :
    Calls Try.prog 3 #[.slice p code.length cc] w fun e w' => e = .returned (.bool true) ∧ Ext w w' := by
  have HX := Lib.hid hx; clear hx
  by_cases h4 : code.length ≤ 4096
  · go_enter Try.func3, Try.ntmps3
    go_upto_region 4 with (first | (go_at_call 6; (with_reducible refine (big_c _ _ _ _ hl).mono ?_); rintro e w1 ⟨⟨hP, rfl⟩ | ⟨hP, rfl⟩, rfl⟩ <;> first | (exfalso; omega) | skip) | (go_at_call 7; (with_reducible refine (DrawPutFormat_c _ _ _ _ HX.out h4).mono ?_); rintro e w2 ⟨r, c, a, k, xs, v, rfl, hlx, hkx, ho2, hx2⟩))
    have hb3 := Blk.new w2 #[.int .i64 r, .int .i64 c, .slice a xs.length k] 26
    have hx3 := hx2.alloc (.cells #[.int .i64 r, .int .i64 c, .slice a xs.length k] 26)
    have hi3 := Lib.hid (ho2.ints.ext ((Ext.refl w2).alloc (.cells #[.int .i64 r, .int .i64 c, .slice a xs.length k] 26)))
    generalize w2.alloc (.cells #[.int .i64 r, .int .i64 c, .slice a xs.length k] 26) = w3 at *
    generalize w2.heap.size = g3 at *
    clear hx2 ho2
    have hlm : xs.length ≤ 1048576 := by omega
    have hpi := (fun W (h : IntsAt W a xs) => iPutFormat_c r c v a k xs W h hlm)
    have hps := (fun W (h : IntsAt W a xs) => sPutFormat_c r c v a k xs W h hlm)
    have hpl : (pfV r c xs v).2.2.2.length ≤ 1048576 := by
      unfold pfV; split
      · simp
      · split
        · simp
        · rw [pFmt_len]; exact hlm
    obtain ⟨cd, R, C, L, hV⟩ : ∃ cd R C L, pfV r c xs v = (cd, R, C, L) := ⟨_, _, _, _, rfl⟩
    rw [hV] at hpi hps hpl
    simp only at hpi hps hpl
    replace hV := Lib.hid hV
    replace hpi := Lib.hid hpi; replace hps := Lib.hid hps
    have hlg := Lib.hid (fun W a' b' k' m' (h1 : IntsAt W a' L) (h2 : IntsAt W b' L) => likeGrid_k R C a' b' k' m' L W h1 h2 hpl)
    have fl := hb3.lt
    have f0 := hb3.cell (i := 0) (v := .int .i64 r) rfl; have f1 := hb3.cell (i := 1) (v := .int .i64 c) rfl; have f2 := hb3.cell (i := 2) (v := .slice a xs.length k) rfl
    go_upto_region 8 with (first
      | (go_at_call 8; (with_reducible refine (hpi.out _ hi3.out).mono ?_); rintro e w4 ⟨⟨a4, k4, rfl, ow4, hk4⟩, hx4⟩; have hb4 := hb3.ext hx4; have y0 := hb4.cell (i := 0) (v := .int .i64 r) rfl; have y1 := hb4.cell (i := 1) (v := .int .i64 c) rfl; have y2 := hb4.cell (i := 2) (v := .slice a xs.length k) rfl; have yl := hb4.lt)
      | (go_at_call 9; (with_reducible refine (hps.out _ (hi3.out.ext (hx4.alloc _))).mono ?_); rintro e w5 ⟨⟨a5, k5, rfl, ow5, hk5⟩, hx5⟩; have hb5 := (hb4.alloc (.cells #[.int .i64 R, .int .i64 C, .slice a4 L.length k4] 26)).ext hx5; have hq5 := (Blk.new w4 #[.int .i64 R, .int .i64 C, .slice a4 L.length k4] 26).ext hx5; have hx35 := (hx4.alloc (.cells #[.int .i64 R, .int .i64 C, .slice a4 L.length k4] 26)).trans hx5; have ow45 := ow4.ext (((Ext.refl w4).alloc (.cells #[.int .i64 R, .int .i64 C, .slice a4 L.length k4] 26)).trans hx5); have z0 := hq5.cell (i := 0) (v := .int .i64 R) rfl; have z1 := hq5.cell (i := 1) (v := .int .i64 C) rfl; have z2 := hq5.cell (i := 2) (v := .slice a4 L.length k4) rfl; have zl := hq5.lt)
      | (go_at_call 10; (with_reducible refine (hlg.out _ _ _ _ _ (ow45.ints.ext (by repeat (first | exact Ext.refl _ | assumption | refine Ext.drew ?_ | refine Ext.drewN ?_ _ | refine Ext.iter ?_ _ _ | refine Ext.alloc ?_ _ | refine Ext.setCell ?_ (by first | exact Nat.le_refl _ | (simp <;> omega)) _ | refine Ext.trans2 (by assumption) ?_))) (ow5.ints.ext (by repeat (first | exact Ext.refl _ | assumption | refine Ext.drew ?_ | refine Ext.drewN ?_ _ | refine Ext.iter ?_ _ _ | refine Ext.alloc ?_ _ | refine Ext.setCell ?_ (by first | exact Nat.le_refl _ | (simp <;> omega)) _ | refine Ext.trans2 (by assumption) ?_)))).mono ?_); rintro e w6 ⟨rfl, hx6⟩))
    have hx56 : Ext w5 w6 := ((Ext.refl w5).alloc _).trans hx6
    have hb6 := hb5.ext hx56; have hq6 := hq5.ext hx56; have ow6 := ow45.ext hx56; have hxw := (hx3.trans hx35).trans hx56
    have hz34 := hx4.below.size; have hwz := hx3.below.size
    have hg3 : g3 < w4.heap.size := by omega
    have hsep : ∀ b o, L ≠ [] → a4 = some ⟨b, o, none⟩ → w3.heap.size ≤ b ∧ b < w4.heap.size := fun b o hn e => ow4.lt0 hn e
    clear hb3 hb4 hb5 hq5 ow4 ow5 ow45 hx3 hx35 hx4 hx5 hx6 hx56 hpi hps hlg hi3
    generalize w4.heap.size = gx at *
    by_cases hcd : cd = 0
    · subst hcd
      obtain ⟨n, u, rfl, rfl, rfl, rfl, rfl, hn, hn4, hu, hF⟩ := pfV_ok hV.out
      clear hV
      have hLn : 0 < L.length := by rw [hF.1]; exact Nat.mul_pos (by omega) (by omega)
      obtain ⟨bx, ox, rfl, hbx, hbxl, -⟩ := ow6 0 hLn
      have hbg := hsep bx ox (fun e => by rw [e] at hLn; exact absurd hLn (by simp)) rfl
      have hLN := hF.1
      obtain ⟨N, hN⟩ : ∃ N, L.length = N := ⟨_, rfl⟩
      rw [hN] at hq6 hLN hLn hpl hk4
      replace hLN := Lib.hid hLN; replace hN := Lib.hid hN
      have hnd : ∀ b o, 0 < code.length → p = some ⟨b, o, none⟩ → b < w.heap.size := fun b o hn e => by
        obtain ⟨b', o', e', h, -⟩ := HX.out 0 hn
        rw [e] at e'
        simp at e'
        omega
      replace hnd := Lib.hid hnd
      have hpla := Lib.hid (fun W => sFormatPlaces_c n W hn hn4)
      have f0 := hb6.cell (i := 0) (v := .int .i64 n) rfl; have f1 := hb6.cell (i := 1) (v := .int .i64 n) rfl; have f2 := hb6.cell (i := 2) (v := .slice a xs.length k) rfl; have fl := hb6.lt
      replace hF := Lib.hid hF
      go_upto_region 13 with (first
        | (go_at_call 11; ((with_reducible refine (hpla.out _).mono ?_); rintro e w7 ⟨⟨va, vb, rfl, hra, hrb⟩, hx7⟩; obtain ⟨pa, ca, hva, haA, hfa⟩ := hra.nfree plF_len; obtain ⟨pb, cb, hvb, haB, hfb⟩ := hrb.nfree plF_len; rw [show aPl.length = 15 from rfl] at hva; rw [show (bPl (n : Int)).length = 15 from rfl] at hvb; subst hva; subst hvb))
        | (go_at_call 12; (with_reducible refine (roll_n w.heap.size _ _ _ 1401 _ (HX.out.ext (hxw.trans hx7)) hnd.out h4).mono ?_); rintro e w8 ⟨⟨gd, rfl, hgd, hd8⟩, hx8⟩; replace hgd := Lib.hid hgd))
      replace hgd := hgd.out
      have hz67 := hx7.below.size; have hz78 := hx8.below.size; have hz56 : gx < w6.heap.size := hq6.lt
      have hqa : ∃ ba oa, pa = some ⟨ba, oa, none⟩ ∧ w6.heap.size ≤ ba ∧ ba < gd := by
        obtain ⟨b, o, e, -⟩ := haA 0 (by decide)
        exact ⟨b, o, e, by rw [hgd]; exact hfa b o e⟩
      have hqb : ∃ bb ob, pb = some ⟨bb, ob, none⟩ ∧ w6.heap.size ≤ bb ∧ bb < gd := by
        obtain ⟨b, o, e, -⟩ := haB 0 (by show 0 < 15; omega)
        exact ⟨b, o, e, by rw [hgd]; exact hfb b o e⟩
      obtain ⟨ba, oa, rfl, hba, hbad⟩ := hqa
      obtain ⟨bb, ob, rfl, hbb, hbbd⟩ := hqb
      have hgw : w6.heap.size ≤ gd := by omega
      have hdl := hd8.lt
      have hb8 := (hb6.ext hx7).ext hx8; have hq8 := (hq6.ext hx7).ext hx8; have ow8 := (ow6.ext hx7).ext hx8; have hA8 := haA.ext hx8; have hB8 := haB.ext hx8; have hxw8 := (hxw.trans hx7).trans hx8
      clear hb6 hq6 ow6 haA haB hxw hx7 hx8 hfa hfb hra hrb hpla hgd f0 f1 f2 fl hsep
      have hbxg : g3 < bx := by omega
      have hbwx : w.heap.size ≤ bx := by have := hwz; omega
      have hgx3 : g3 < gx := by omega
      have hb6x : bx < gx := hbg.2
      clear hbg hbx hbxl hz67 hz78
      go_loopw [13] (fun i wr => ∃ (j : Nat) (ys : List Int), j ≤ 3 ∧ i = .int .i64 j ∧ FmtK n (fmtW u) j ys ∧ OwnInts w3.heap.size wr (some ⟨bx, ox, none⟩) ys ∧ DiceN w.heap.size wr gd ∧ Blk wr gx #[.int .i64 n, .int .i64 n, .slice (some ⟨bx, ox, none⟩) N k4] 26 ∧ Blk wr g3 #[.int .i64 n, .int .i64 n, .slice a xs.length k] 26 ∧ PlAt wr (some ⟨ba, oa, none⟩) aPl ∧ PlAt wr (some ⟨bb, ob, none⟩) (bPl n) ∧ Ext w wr) (fun i _ => 3 - (intOf i).toNat)
      case atStart => exact ⟨0, L, by omega, rfl, hF.out, ow8, hd8, hq8, hb8, hA8, hB8, hxw8⟩
      case round =>
        clear hb8 hq8 ow8 hA8 hB8 hxw8 hd8
        obtain ⟨j, ys, hj, rfl, hK, ow, hd, hq, hg, hA, hB, hxt⟩ := hrel
        by_cases hlt : j < 3
        · go_wp2_with fail
          replace hd := hd.ext (Ext.refl wr).drew
          have hT : But gd wr wr.drew := (But.refl gd wr).drew
          have hab : ba ≠ gd := by omega
          have hbb2 : bb ≠ gd := by omega
          have hdr : gd < wr.heap.size := hd.lt
          go_cut [14, 15] (fun s t wx => TwoPl gd w.heap.size n wr s t wx)
          case rest =>
            obtain ⟨g14, g15, ka, kb, rfl, rfl, hka, hkb, q14, q15, hd, hT, m14, m15⟩ := hcut
            have hgxd : gx ≠ gd := by omega
            have hg3d : g3 ≠ gd := by omega
            have hbxd : bx ≠ gd := by omega
            have hwgd : w.heap.size ≤ gd := by have := hxt.below.size; omega
            have hgxl := hq.lt; have hg3l := hg.lt
            replace hq := hq.but hT hgxd; replace hg := hg.but hT hg3d; replace ow := ow.butN hT hbxd; replace hxt := hxt.but hT hwgd
            replace hA := SAt.butF hA hT (fun b o e => by simp at e; omega); replace hB := SAt.butF hB hT (fun b o e => by simp at e; omega)
            have hr := fun (x y : Int) (h1 : 0 ≤ x ∧ x ≤ 1) (h2 : 0 ≤ y ∧ y ≤ 1) => hK.turn hn hn4 hka hkb h1 h2
            have ia := plIx_eq (n := n) (p := aPl.getD ka (0, 0)) (aPl_in hn.1 _ (getD_mem (d := (0, 0)) (show ka < aPl.length from hka))).1 (aPl_in hn.1 _ (getD_mem (d := (0, 0)) (show ka < aPl.length from hka))).2
            have ib := plIx_eq (n := n) (p := (bPl n).getD kb (0, 0)) (bPl_bd hn.1 _ (getD_mem (d := (0, 0)) (show kb < (bPl n).length from hkb))).1 (bPl_bd hn.1 _ (getD_mem (d := (0, 0)) (show kb < (bPl n).length from hkb))).2
            have ba2 := (aPl_in hn.1 _ (getD_mem (d := (0, 0)) (show ka < aPl.length from hka))).2.1
            have bb2 := (bPl_bd hn.1 _ (getD_mem (d := (0, 0)) (show kb < (bPl n).length from hkb))).2.1
            generalize aPl.getD ka (0, 0) = A at *
            generalize (bPl n).getD kb (0, 0) = D at *
            obtain ⟨ar, ac⟩ := A
            obtain ⟨dr, dc⟩ := D
            have hyl : ys.length = N := by rw [hK.1, hLN.out]
            have hn41 : n * n ≤ 1681 := Nat.mul_le_mul hn.2 hn.2
            generalize plIx n (ar, ac) = ai at *
            generalize plIx n (dr, dc) = di at *
            simp only at ia ib q14 q15 ba2 bb2
            obtain ⟨hia, hia2, hia3⟩ := ia
            obtain ⟨hib, hib2, hib3⟩ := ib
            have hdx : gd < wc.heap.size := hd.lt
            have h14x : g14 ≠ bx := by omega
            have h15x : g15 ≠ bx := by omega
            have hgxx : gx ≠ bx := by omega
            have h14d : g14 ≠ gd := by omega
            have h15d : g15 ≠ gd := by omega
            have lai : (ai : Int) < (N : Int) := by rw [← hLN.out] at hia2; omega
            have ldi : (di : Int) < (N : Int) := by rw [← hLN.out] at hib2; omega
            obtain ⟨M1, hM1⟩ : ∃ M : Int, ar * (n : Int) = M := ⟨_, rfl⟩
            obtain ⟨M2, hM2⟩ : ∃ M : Int, dr * (n : Int) = M := ⟨_, rfl⟩
            rw [hM1] at hia hia3
            rw [hM2] at hib hib3
            clear hT m14 m15 hK hab hbb2
            replace hyl := Lib.hid hyl; replace hr := Lib.hid hr
            obtain ⟨b1, o1, e1, -, l1, y1, y1f⟩ := ow ai (by rw [hyl.out, hLN.out]; exact hia2)
            simp only [Option.some.injEq, Addr.mk.injEq, and_true] at e1
            obtain ⟨rfl, rfl⟩ := e1
            have hset := fun W (h : OwnInts w3.heap.size W (some ⟨bx, ox, none⟩) ys) (x : Int) => h.set (k := ai) rfl (by rw [hyl.out, hLN.out]; exact hia2) x
            have hset2 := fun W (x y : Int) (h : OwnInts w3.heap.size W (some ⟨bx, ox, none⟩) (ys.set ai x)) => h.set (k := di) rfl (by rw [List.length_set, hyl.out, hLN.out]; exact hib2) y
            have hset3 := fun W (x : Int) (h : OwnInts w3.heap.size W (some ⟨bx, ox, none⟩) (ys.set ai x)) => h di (by rw [List.length_set, hyl.out, hLN.out]; exact hib2)
            replace hset := Lib.hid hset; replace hset2 := Lib.hid hset2; replace hset3 := Lib.hid hset3
            generalize ys.getD ai 0 = v1 at *
            replace hd := hd.ext (Ext.refl wc).drew
            replace ow := ow.ext (Ext.refl wc).drew
            have x1 := IntWalk.i64_in M1 (by omega)
            have x2 := IntWalk.i64_in (ai : Int) (by omega)
            have k0 := hq.cell (i := 2) (v := .slice (some ⟨bx, ox, none⟩) N k4) rfl; have k1 := q14.cell (i := 0) (v := .int .i64 ar) rfl; have k2 := q14.cell (i := 1) (v := .int .i64 ac) rfl; have k3 := hg.cell (i := 1) (v := .int .i64 n) rfl; have kl1 := hq.lt; have kl2 := q14.lt; have kl3 := hg.lt
            go_wp2_with fail
            refine wp_region_canon (fun w' => (Blk w' gx #[.int .i64 n, .int .i64 n, .slice (some ⟨bx, ox, none⟩) N k4] 26 ∧ Blk w' g14 #[.int .i64 ar, .int .i64 ac] 38 ∧ Blk w' g3 #[.int .i64 n, .int .i64 n, .slice a xs.length k] 26)) [(0, true), (1, true), (2, true), (3, true), (4, true), (5, true), (6, true), (7, true), (8, true), (9, true), (10, true), (11, false), (12, true), (13, false)] (by kernel_rfl) (by kernel_rfl) (by decide) (by kernel_rfl) ?_ ?_
            · exact ⟨hq, q14, hg⟩
            refine canon_intro fun ops eo => ?_
            have ho0 := canon_at eo 0 rfl
            have ho1 := canon_at eo 1 rfl
            have ho2 := canon_at eo 2 rfl
            have ho3 := canon_at eo 3 rfl
            have ho4 := canon_at eo 4 rfl
            have ho5 := canon_at eo 5 rfl
            have ho6 := canon_at eo 6 rfl
            have ho7 := canon_at eo 7 rfl
            have ho8 := canon_at eo 8 rfl
            have ho9 := canon_at eo 9 rfl
            have ho10 := canon_at eo 10 rfl
            have ho11 := canon_at eo 11 rfl
            have ho12 := canon_at eo 12 rfl
            have ho13 := canon_at eo 13 rfl
            clear eo
            all_goals (apply canon_st ho0 rfl; (intro w2 hS; first | (go_simp; first | done | rfl) | rfl | ((obtain ⟨sq, sp, sg⟩ := hS; have s0 := sq.cell (i := 2) (v := .slice (some ⟨bx, ox, none⟩) N k4) rfl; have s1 := sp.cell (i := 0) (v := .int .i64 ar) rfl; have s2 := sp.cell (i := 1) (v := .int .i64 ac) rfl; have s3 := sg.cell (i := 1) (v := .int .i64 n) rfl; have sl1 := sq.lt; have sl2 := sp.lt; have sl3 := sg.lt); go_simp; first | done | rfl)); simp only [Act.put, List.setIfInBounds_toArray, List.set_cons_zero, List.set_cons_succ])
            all_goals clear ho0
            all_goals (apply canon_st ho1 rfl; (intro w2 hS; first | (go_simp; first | done | rfl) | rfl | ((obtain ⟨sq, sp, sg⟩ := hS; have s0 := sq.cell (i := 2) (v := .slice (some ⟨bx, ox, none⟩) N k4) rfl; have s1 := sp.cell (i := 0) (v := .int .i64 ar) rfl; have s2 := sp.cell (i := 1) (v := .int .i64 ac) rfl; have s3 := sg.cell (i := 1) (v := .int .i64 n) rfl; have sl1 := sq.lt; have sl2 := sp.lt; have sl3 := sg.lt); go_simp; first | done | rfl)); simp only [Act.put, List.setIfInBounds_toArray, List.set_cons_zero, List.set_cons_succ])
            all_goals clear ho1
            all_goals (apply canon_st ho2 rfl; (intro w2 hS; first | (go_simp; first | done | rfl) | rfl | ((obtain ⟨sq, sp, sg⟩ := hS; have s0 := sq.cell (i := 2) (v := .slice (some ⟨bx, ox, none⟩) N k4) rfl; have s1 := sp.cell (i := 0) (v := .int .i64 ar) rfl; have s2 := sp.cell (i := 1) (v := .int .i64 ac) rfl; have s3 := sg.cell (i := 1) (v := .int .i64 n) rfl; have sl1 := sq.lt; have sl2 := sp.lt; have sl3 := sg.lt); go_simp; first | done | rfl)); simp only [Act.put, List.setIfInBounds_toArray, List.set_cons_zero, List.set_cons_succ])
            all_goals clear ho2
            all_goals (apply canon_st ho3 rfl; (intro w2 hS; first | (go_simp; first | done | rfl) | rfl | ((obtain ⟨sq, sp, sg⟩ := hS; have s0 := sq.cell (i := 2) (v := .slice (some ⟨bx, ox, none⟩) N k4) rfl; have s1 := sp.cell (i := 0) (v := .int .i64 ar) rfl; have s2 := sp.cell (i := 1) (v := .int .i64 ac) rfl; have s3 := sg.cell (i := 1) (v := .int .i64 n) rfl; have sl1 := sq.lt; have sl2 := sp.lt; have sl3 := sg.lt); go_simp; first | done | rfl)); simp only [Act.put, List.setIfInBounds_toArray, List.set_cons_zero, List.set_cons_succ])
            all_goals clear ho3
            all_goals (apply canon_st ho4 rfl; (intro w2 hS; first | (go_simp; first | done | rfl) | rfl | ((obtain ⟨sq, sp, sg⟩ := hS; have s0 := sq.cell (i := 2) (v := .slice (some ⟨bx, ox, none⟩) N k4) rfl; have s1 := sp.cell (i := 0) (v := .int .i64 ar) rfl; have s2 := sp.cell (i := 1) (v := .int .i64 ac) rfl; have s3 := sg.cell (i := 1) (v := .int .i64 n) rfl; have sl1 := sq.lt; have sl2 := sp.lt; have sl3 := sg.lt); go_simp; first | done | rfl)); simp only [Act.put, List.setIfInBounds_toArray, List.set_cons_zero, List.set_cons_succ])
            all_goals clear ho4
            all_goals (apply canon_st ho5 rfl; (intro w2 hS; first | (go_simp; first | done | rfl) | rfl | ((obtain ⟨sq, sp, sg⟩ := hS; have s0 := sq.cell (i := 2) (v := .slice (some ⟨bx, ox, none⟩) N k4) rfl; have s1 := sp.cell (i := 0) (v := .int .i64 ar) rfl; have s2 := sp.cell (i := 1) (v := .int .i64 ac) rfl; have s3 := sg.cell (i := 1) (v := .int .i64 n) rfl; have sl1 := sq.lt; have sl2 := sp.lt; have sl3 := sg.lt); go_simp; first | done | rfl)); simp only [Act.put, List.setIfInBounds_toArray, List.set_cons_zero, List.set_cons_succ])
            all_goals clear ho5
            all_goals (apply canon_st ho6 rfl; (intro w2 hS; first | (go_simp; first | done | rfl) | rfl | ((obtain ⟨sq, sp, sg⟩ := hS; have s0 := sq.cell (i := 2) (v := .slice (some ⟨bx, ox, none⟩) N k4) rfl; have s1 := sp.cell (i := 0) (v := .int .i64 ar) rfl; have s2 := sp.cell (i := 1) (v := .int .i64 ac) rfl; have s3 := sg.cell (i := 1) (v := .int .i64 n) rfl; have sl1 := sq.lt; have sl2 := sp.lt; have sl3 := sg.lt); go_simp; first | done | rfl)); simp only [Act.put, List.setIfInBounds_toArray, List.set_cons_zero, List.set_cons_succ])
            all_goals clear ho6
            all_goals (apply canon_st ho7 rfl; (intro w2 hS; first | (go_simp; first | done | rfl) | rfl | ((obtain ⟨sq, sp, sg⟩ := hS; have s0 := sq.cell (i := 2) (v := .slice (some ⟨bx, ox, none⟩) N k4) rfl; have s1 := sp.cell (i := 0) (v := .int .i64 ar) rfl; have s2 := sp.cell (i := 1) (v := .int .i64 ac) rfl; have s3 := sg.cell (i := 1) (v := .int .i64 n) rfl; have sl1 := sq.lt; have sl2 := sp.lt; have sl3 := sg.lt); go_simp; first | done | rfl)); simp only [Act.put, List.setIfInBounds_toArray, List.set_cons_zero, List.set_cons_succ])
            all_goals clear ho7
            all_goals (apply canon_st ho8 rfl; (intro w2 hS; first | (go_simp; first | done | rfl) | rfl | ((obtain ⟨sq, sp, sg⟩ := hS; have s0 := sq.cell (i := 2) (v := .slice (some ⟨bx, ox, none⟩) N k4) rfl; have s1 := sp.cell (i := 0) (v := .int .i64 ar) rfl; have s2 := sp.cell (i := 1) (v := .int .i64 ac) rfl; have s3 := sg.cell (i := 1) (v := .int .i64 n) rfl; have sl1 := sq.lt; have sl2 := sp.lt; have sl3 := sg.lt); go_simp; first | done | rfl)); simp only [Act.put, List.setIfInBounds_toArray, List.set_cons_zero, List.set_cons_succ])
            all_goals clear ho8
            all_goals (apply canon_st ho9 rfl; (intro w2 hS; first | (go_simp; first | done | rfl) | rfl | ((obtain ⟨sq, sp, sg⟩ := hS; have s0 := sq.cell (i := 2) (v := .slice (some ⟨bx, ox, none⟩) N k4) rfl; have s1 := sp.cell (i := 0) (v := .int .i64 ar) rfl; have s2 := sp.cell (i := 1) (v := .int .i64 ac) rfl; have s3 := sg.cell (i := 1) (v := .int .i64 n) rfl; have sl1 := sq.lt; have sl2 := sp.lt; have sl3 := sg.lt); go_simp; first | done | rfl)); simp only [Act.put, List.setIfInBounds_toArray, List.set_cons_zero, List.set_cons_succ])
            all_goals clear ho9
            all_goals (apply canon_st ho10 rfl; (intro w2 hS; first | (go_simp; first | done | rfl) | rfl | ((obtain ⟨sq, sp, sg⟩ := hS; have s0 := sq.cell (i := 2) (v := .slice (some ⟨bx, ox, none⟩) N k4) rfl; have s1 := sp.cell (i := 0) (v := .int .i64 ar) rfl; have s2 := sp.cell (i := 1) (v := .int .i64 ac) rfl; have s3 := sg.cell (i := 1) (v := .int .i64 n) rfl; have sl1 := sq.lt; have sl2 := sp.lt; have sl3 := sg.lt); go_simp; first | done | rfl)); simp only [Act.put, List.setIfInBounds_toArray, List.set_cons_zero, List.set_cons_succ])
            all_goals clear ho10
            all_goals first | (refine canon_ef ho11 rfl (fun K hK => ?_); go_simp; ((go_at_call 13; (with_reducible refine (below_n w.heap.size gd 2 _ hd (by omega)).mono ?_); rintro e w9 ⟨x, rfl, hx0, hx1, hd9, hb9⟩; have hbb9 : But gd wc w9 := (But.refl gd wc).drew.trans hb9; have q9 := hq.but hbb9 hgxd; have p9 := q14.but hbb9 h14d; have g9 := hg.but hbb9 hg3d; have ow9 := ow.butN hb9 hbxd; obtain ⟨bc9, bf9, bk9, -⟩ := bucell hbb9; have yy := (bc9 bx (ox + ai) l1 hbxd).trans y1; have yyf := (bf9 bx (ox + ai) l1 hbxd).trans y1f; have yyl := bk9 bx l1)); all_goals (refine hK _ _ ⟨(by first | exact ⟨q9, p9, g9⟩ | exact ⟨q9.far hgxx _, p9.far h14x _, g9.far (Nat.ne_of_lt hbxg) _⟩), ?_⟩; clear hK K; go_simp)) | (refine canon_ef ho11 rfl (fun K hK => ?_); go_simp; (skip); all_goals (refine hK _ _ ⟨(by first | exact ⟨q9, p9, g9⟩ | exact ⟨q9.far hgxx _, p9.far h14x _, g9.far (Nat.ne_of_lt hbxg) _⟩), ?_⟩; clear hK K; go_simp))
            all_goals clear ho11
            all_goals (apply canon_st ho12 rfl; (intro w2 hS; first | (go_simp; first | done | rfl) | rfl | ((obtain ⟨sq, sp, sg⟩ := hS; have s0 := sq.cell (i := 2) (v := .slice (some ⟨bx, ox, none⟩) N k4) rfl; have s1 := sp.cell (i := 0) (v := .int .i64 ar) rfl; have s2 := sp.cell (i := 1) (v := .int .i64 ac) rfl; have s3 := sg.cell (i := 1) (v := .int .i64 n) rfl; have sl1 := sq.lt; have sl2 := sp.lt; have sl3 := sg.lt); go_simp; first | done | rfl)); simp only [Act.put, List.setIfInBounds_toArray, List.set_cons_zero, List.set_cons_succ])
            all_goals clear ho12
            all_goals first | (refine canon_ef ho13 rfl (fun K hK => ?_); go_simp; ((go_at_call 13; (with_reducible refine (below_n w.heap.size gd 2 _ hd (by omega)).mono ?_); rintro e w9 ⟨x, rfl, hx0, hx1, hd9, hb9⟩; have hbb9 : But gd wc w9 := (But.refl gd wc).drew.trans hb9; have q9 := hq.but hbb9 hgxd; have p9 := q14.but hbb9 h14d; have g9 := hg.but hbb9 hg3d; have ow9 := ow.butN hb9 hbxd; obtain ⟨bc9, bf9, bk9, -⟩ := bucell hbb9; have yy := (bc9 bx (ox + ai) l1 hbxd).trans y1; have yyf := (bf9 bx (ox + ai) l1 hbxd).trans y1f; have yyl := bk9 bx l1)); all_goals (refine hK _ _ ⟨(by first | exact ⟨q9, p9, g9⟩ | exact ⟨q9.far hgxx _, p9.far h14x _, g9.far (Nat.ne_of_lt hbxg) _⟩), ?_⟩; clear hK K; go_simp)) | (refine canon_ef ho13 rfl (fun K hK => ?_); go_simp; (skip); all_goals (refine hK _ _ ⟨(by first | exact ⟨q9, p9, g9⟩ | exact ⟨q9.far hgxx _, p9.far h14x _, g9.far (Nat.ne_of_lt hbxg) _⟩), ?_⟩; clear hK K; go_simp))
            all_goals clear ho13
            all_goals refine canon_done (NoPanic.normal ?_)
            have ow10 := hset.out _ ow9 x
            have q10 := q9.far (i := ox + ai) hgxx (.int .i64 x)
            have p10 := (q15.but hbb9 h15d).far (i := ox + ai) h15x (.int .i64 x)
            have g10 := g9.far (i := ox + ai) (Nat.ne_of_lt hbxg) (.int .i64 x)
            have hd10 := hd9.setFar (i := ox + ai) (v := .int .i64 x) (Ne.symm hbxd) hbwx
            have hxt10 := (hxt.but hbb9 hwgd).setCell (p := ⟨bx, ox + ai, none⟩) hbwx (.int .i64 x)
            have hA10 := SAt.butF (SAt.butF hA hbb9 (fun b o e => by simp at e; omega)) (But.set w9 bx (ox + ai) (.int .i64 x)) (fun b o e => by simp at e; omega)
            have hB10 := SAt.butF (SAt.butF hB hbb9 (fun b o e => by simp at e; omega)) (But.set w9 bx (ox + ai) (.int .i64 x)) (fun b o e => by simp at e; omega)
            clear hset hd9 hb9 q9 p9 g9 ow9 bc9 bf9 bk9 yy yyf yyl y1 y1f l1 hbb9 hd hq q14 q15 hg ow hxt hA hB k0 k1 k2 k3 kl1 kl2 kl3 x1 x2 hM1
            generalize w9.setCell ⟨bx, ox + ai, none⟩ (.int .i64 x) = w10 at *
            obtain ⟨b1, o1, e1, -, l1, y1, y1f⟩ := hset3.out _ x ow10
            simp only [Option.some.injEq, Addr.mk.injEq, and_true] at e1
            obtain ⟨rfl, rfl⟩ := e1
            generalize (ys.set ai x).getD di 0 = v2 at *
            have hdx := hd10.lt
            replace hd10 := hd10.ext (Ext.refl w10).drew
            replace ow10 := ow10.ext (Ext.refl w10).drew
            have x1 := IntWalk.i64_in M2 (by omega)
            have x2 := IntWalk.i64_in (di : Int) (by omega)
            have k0 := q10.cell (i := 2) (v := .slice (some ⟨bx, ox, none⟩) N k4) rfl; have k1 := p10.cell (i := 0) (v := .int .i64 dr) rfl; have k2 := p10.cell (i := 1) (v := .int .i64 dc) rfl; have k3 := g10.cell (i := 1) (v := .int .i64 n) rfl; have kl1 := q10.lt; have kl2 := p10.lt; have kl3 := g10.lt
            go_wp2_with fail
            refine wp_region_canon (fun w' => (Blk w' gx #[.int .i64 n, .int .i64 n, .slice (some ⟨bx, ox, none⟩) N k4] 26 ∧ Blk w' g15 #[.int .i64 dr, .int .i64 dc] 38 ∧ Blk w' g3 #[.int .i64 n, .int .i64 n, .slice a xs.length k] 26)) [(0, true), (1, true), (2, true), (3, true), (4, true), (5, true), (6, true), (7, true), (8, true), (9, true), (10, true), (11, false), (12, true), (13, false)] (by kernel_rfl) (by kernel_rfl) (by decide) (by kernel_rfl) ?_ ?_
            · exact ⟨q10, p10, g10⟩
            refine canon_intro fun ops eo => ?_
            have ho0 := canon_at eo 0 rfl
            have ho1 := canon_at eo 1 rfl
            have ho2 := canon_at eo 2 rfl
            have ho3 := canon_at eo 3 rfl
            have ho4 := canon_at eo 4 rfl
            have ho5 := canon_at eo 5 rfl
            have ho6 := canon_at eo 6 rfl
            have ho7 := canon_at eo 7 rfl
            have ho8 := canon_at eo 8 rfl
            have ho9 := canon_at eo 9 rfl
            have ho10 := canon_at eo 10 rfl
            have ho11 := canon_at eo 11 rfl
            have ho12 := canon_at eo 12 rfl
            have ho13 := canon_at eo 13 rfl
            clear eo
            all_goals (apply canon_st ho0 rfl; (intro w2 hS; first | (go_simp; first | done | rfl) | rfl | ((obtain ⟨sq, sp, sg⟩ := hS; have s0 := sq.cell (i := 2) (v := .slice (some ⟨bx, ox, none⟩) N k4) rfl; have s1 := sp.cell (i := 0) (v := .int .i64 dr) rfl; have s2 := sp.cell (i := 1) (v := .int .i64 dc) rfl; have s3 := sg.cell (i := 1) (v := .int .i64 n) rfl; have sl1 := sq.lt; have sl2 := sp.lt; have sl3 := sg.lt); go_simp; first | done | rfl)); simp only [Act.put, List.setIfInBounds_toArray, List.set_cons_zero, List.set_cons_succ])
            all_goals clear ho0
            all_goals (apply canon_st ho1 rfl; (intro w2 hS; first | (go_simp; first | done | rfl) | rfl | ((obtain ⟨sq, sp, sg⟩ := hS; have s0 := sq.cell (i := 2) (v := .slice (some ⟨bx, ox, none⟩) N k4) rfl; have s1 := sp.cell (i := 0) (v := .int .i64 dr) rfl; have s2 := sp.cell (i := 1) (v := .int .i64 dc) rfl; have s3 := sg.cell (i := 1) (v := .int .i64 n) rfl; have sl1 := sq.lt; have sl2 := sp.lt; have sl3 := sg.lt); go_simp; first | done | rfl)); simp only [Act.put, List.setIfInBounds_toArray, List.set_cons_zero, List.set_cons_succ])
            all_goals clear ho1
            all_goals (apply canon_st ho2 rfl; (intro w2 hS; first | (go_simp; first | done | rfl) | rfl | ((obtain ⟨sq, sp, sg⟩ := hS; have s0 := sq.cell (i := 2) (v := .slice (some ⟨bx, ox, none⟩) N k4) rfl; have s1 := sp.cell (i := 0) (v := .int .i64 dr) rfl; have s2 := sp.cell (i := 1) (v := .int .i64 dc) rfl; have s3 := sg.cell (i := 1) (v := .int .i64 n) rfl; have sl1 := sq.lt; have sl2 := sp.lt; have sl3 := sg.lt); go_simp; first | done | rfl)); simp only [Act.put, List.setIfInBounds_toArray, List.set_cons_zero, List.set_cons_succ])
            all_goals clear ho2
            all_goals (apply canon_st ho3 rfl; (intro w2 hS; first | (go_simp; first | done | rfl) | rfl | ((obtain ⟨sq, sp, sg⟩ := hS; have s0 := sq.cell (i := 2) (v := .slice (some ⟨bx, ox, none⟩) N k4) rfl; have s1 := sp.cell (i := 0) (v := .int .i64 dr) rfl; have s2 := sp.cell (i := 1) (v := .int .i64 dc) rfl; have s3 := sg.cell (i := 1) (v := .int .i64 n) rfl; have sl1 := sq.lt; have sl2 := sp.lt; have sl3 := sg.lt); go_simp; first | done | rfl)); simp only [Act.put, List.setIfInBounds_toArray, List.set_cons_zero, List.set_cons_succ])
            all_goals clear ho3
            all_goals (apply canon_st ho4 rfl; (intro w2 hS; first | (go_simp; first | done | rfl) | rfl | ((obtain ⟨sq, sp, sg⟩ := hS; have s0 := sq.cell (i := 2) (v := .slice (some ⟨bx, ox, none⟩) N k4) rfl; have s1 := sp.cell (i := 0) (v := .int .i64 dr) rfl; have s2 := sp.cell (i := 1) (v := .int .i64 dc) rfl; have s3 := sg.cell (i := 1) (v := .int .i64 n) rfl; have sl1 := sq.lt; have sl2 := sp.lt; have sl3 := sg.lt); go_simp; first | done | rfl)); simp only [Act.put, List.setIfInBounds_toArray, List.set_cons_zero, List.set_cons_succ])
            all_goals clear ho4
            all_goals (apply canon_st ho5 rfl; (intro w2 hS; first | (go_simp; first | done | rfl) | rfl | ((obtain ⟨sq, sp, sg⟩ := hS; have s0 := sq.cell (i := 2) (v := .slice (some ⟨bx, ox, none⟩) N k4) rfl; have s1 := sp.cell (i := 0) (v := .int .i64 dr) rfl; have s2 := sp.cell (i := 1) (v := .int .i64 dc) rfl; have s3 := sg.cell (i := 1) (v := .int .i64 n) rfl; have sl1 := sq.lt; have sl2 := sp.lt; have sl3 := sg.lt); go_simp; first | done | rfl)); simp only [Act.put, List.setIfInBounds_toArray, List.set_cons_zero, List.set_cons_succ])
            all_goals clear ho5
            all_goals (apply canon_st ho6 rfl; (intro w2 hS; first | (go_simp; first | done | rfl) | rfl | ((obtain ⟨sq, sp, sg⟩ := hS; have s0 := sq.cell (i := 2) (v := .slice (some ⟨bx, ox, none⟩) N k4) rfl; have s1 := sp.cell (i := 0) (v := .int .i64 dr) rfl; have s2 := sp.cell (i := 1) (v := .int .i64 dc) rfl; have s3 := sg.cell (i := 1) (v := .int .i64 n) rfl; have sl1 := sq.lt; have sl2 := sp.lt; have sl3 := sg.lt); go_simp; first | done | rfl)); simp only [Act.put, List.setIfInBounds_toArray, List.set_cons_zero, List.set_cons_succ])
            all_goals clear ho6
            all_goals (apply canon_st ho7 rfl; (intro w2 hS; first | (go_simp; first | done | rfl) | rfl | ((obtain ⟨sq, sp, sg⟩ := hS; have s0 := sq.cell (i := 2) (v := .slice (some ⟨bx, ox, none⟩) N k4) rfl; have s1 := sp.cell (i := 0) (v := .int .i64 dr) rfl; have s2 := sp.cell (i := 1) (v := .int .i64 dc) rfl; have s3 := sg.cell (i := 1) (v := .int .i64 n) rfl; have sl1 := sq.lt; have sl2 := sp.lt; have sl3 := sg.lt); go_simp; first | done | rfl)); simp only [Act.put, List.setIfInBounds_toArray, List.set_cons_zero, List.set_cons_succ])
            all_goals clear ho7
            all_goals (apply canon_st ho8 rfl; (intro w2 hS; first | (go_simp; first | done | rfl) | rfl | ((obtain ⟨sq, sp, sg⟩ := hS; have s0 := sq.cell (i := 2) (v := .slice (some ⟨bx, ox, none⟩) N k4) rfl; have s1 := sp.cell (i := 0) (v := .int .i64 dr) rfl; have s2 := sp.cell (i := 1) (v := .int .i64 dc) rfl; have s3 := sg.cell (i := 1) (v := .int .i64 n) rfl; have sl1 := sq.lt; have sl2 := sp.lt; have sl3 := sg.lt); go_simp; first | done | rfl)); simp only [Act.put, List.setIfInBounds_toArray, List.set_cons_zero, List.set_cons_succ])
            all_goals clear ho8
            all_goals (apply canon_st ho9 rfl; (intro w2 hS; first | (go_simp; first | done | rfl) | rfl | ((obtain ⟨sq, sp, sg⟩ := hS; have s0 := sq.cell (i := 2) (v := .slice (some ⟨bx, ox, none⟩) N k4) rfl; have s1 := sp.cell (i := 0) (v := .int .i64 dr) rfl; have s2 := sp.cell (i := 1) (v := .int .i64 dc) rfl; have s3 := sg.cell (i := 1) (v := .int .i64 n) rfl; have sl1 := sq.lt; have sl2 := sp.lt; have sl3 := sg.lt); go_simp; first | done | rfl)); simp only [Act.put, List.setIfInBounds_toArray, List.set_cons_zero, List.set_cons_succ])
            all_goals clear ho9
            all_goals (apply canon_st ho10 rfl; (intro w2 hS; first | (go_simp; first | done | rfl) | rfl | ((obtain ⟨sq, sp, sg⟩ := hS; have s0 := sq.cell (i := 2) (v := .slice (some ⟨bx, ox, none⟩) N k4) rfl; have s1 := sp.cell (i := 0) (v := .int .i64 dr) rfl; have s2 := sp.cell (i := 1) (v := .int .i64 dc) rfl; have s3 := sg.cell (i := 1) (v := .int .i64 n) rfl; have sl1 := sq.lt; have sl2 := sp.lt; have sl3 := sg.lt); go_simp; first | done | rfl)); simp only [Act.put, List.setIfInBounds_toArray, List.set_cons_zero, List.set_cons_succ])
            all_goals clear ho10
            all_goals first | (refine canon_ef ho11 rfl (fun K hK => ?_); go_simp; ((go_at_call 13; (with_reducible refine (below_n w.heap.size gd 2 _ hd10 (by omega)).mono ?_); rintro e w9 ⟨y, rfl, hy0, hy1, hd9, hb9⟩; have hbb9 : But gd w10 w9 := (But.refl gd w10).drew.trans hb9; have q9 := q10.but hbb9 hgxd; have p9 := p10.but hbb9 h15d; have g9 := g10.but hbb9 hg3d; have ow9 := ow10.butN hb9 hbxd; obtain ⟨bc9, bf9, bk9, -⟩ := bucell hbb9; have yy := (bc9 bx (ox + di) l1 hbxd).trans y1; have yyf := (bf9 bx (ox + di) l1 hbxd).trans y1f; have yyl := bk9 bx l1)); all_goals (refine hK _ _ ⟨(by first | exact ⟨q9, p9, g9⟩ | exact ⟨q9.far hgxx _, p9.far h15x _, g9.far (Nat.ne_of_lt hbxg) _⟩), ?_⟩; clear hK K; go_simp)) | (refine canon_ef ho11 rfl (fun K hK => ?_); go_simp; (skip); all_goals (refine hK _ _ ⟨(by first | exact ⟨q9, p9, g9⟩ | exact ⟨q9.far hgxx _, p9.far h15x _, g9.far (Nat.ne_of_lt hbxg) _⟩), ?_⟩; clear hK K; go_simp))
            all_goals clear ho11
            all_goals (apply canon_st ho12 rfl; (intro w2 hS; first | (go_simp; first | done | rfl) | rfl | ((obtain ⟨sq, sp, sg⟩ := hS; have s0 := sq.cell (i := 2) (v := .slice (some ⟨bx, ox, none⟩) N k4) rfl; have s1 := sp.cell (i := 0) (v := .int .i64 dr) rfl; have s2 := sp.cell (i := 1) (v := .int .i64 dc) rfl; have s3 := sg.cell (i := 1) (v := .int .i64 n) rfl; have sl1 := sq.lt; have sl2 := sp.lt; have sl3 := sg.lt); go_simp; first | done | rfl)); simp only [Act.put, List.setIfInBounds_toArray, List.set_cons_zero, List.set_cons_succ])
            all_goals clear ho12
            all_goals first | (refine canon_ef ho13 rfl (fun K hK => ?_); go_simp; ((go_at_call 13; (with_reducible refine (below_n w.heap.size gd 2 _ hd10 (by omega)).mono ?_); rintro e w9 ⟨y, rfl, hy0, hy1, hd9, hb9⟩; have hbb9 : But gd w10 w9 := (But.refl gd w10).drew.trans hb9; have q9 := q10.but hbb9 hgxd; have p9 := p10.but hbb9 h15d; have g9 := g10.but hbb9 hg3d; have ow9 := ow10.butN hb9 hbxd; obtain ⟨bc9, bf9, bk9, -⟩ := bucell hbb9; have yy := (bc9 bx (ox + di) l1 hbxd).trans y1; have yyf := (bf9 bx (ox + di) l1 hbxd).trans y1f; have yyl := bk9 bx l1)); all_goals (refine hK _ _ ⟨(by first | exact ⟨q9, p9, g9⟩ | exact ⟨q9.far hgxx _, p9.far h15x _, g9.far (Nat.ne_of_lt hbxg) _⟩), ?_⟩; clear hK K; go_simp)) | (refine canon_ef ho13 rfl (fun K hK => ?_); go_simp; (skip); all_goals (refine hK _ _ ⟨(by first | exact ⟨q9, p9, g9⟩ | exact ⟨q9.far hgxx _, p9.far h15x _, g9.far (Nat.ne_of_lt hbxg) _⟩), ?_⟩; clear hK K; go_simp))
            all_goals clear ho13
            all_goals refine canon_done (NoPanic.normal ?_)
            have ow11 := hset2.out _ x y ow9
            have q11 := q9.far (i := ox + di) hgxx (.int .i64 y)
            have g11 := g9.far (i := ox + di) (Nat.ne_of_lt hbxg) (.int .i64 y)
            have hd11 := hd9.setFar (i := ox + di) (v := .int .i64 y) (Ne.symm hbxd) hbwx
            have hxt11 := (hxt10.but hbb9 hwgd).setCell (p := ⟨bx, ox + di, none⟩) hbwx (.int .i64 y)
            have hA11 := SAt.butF (SAt.butF hA10 hbb9 (fun b o e => by simp at e; omega)) (But.set w9 bx (ox + di) (.int .i64 y)) (fun b o e => by simp at e; omega)
            have hB11 := SAt.butF (SAt.butF hB10 hbb9 (fun b o e => by simp at e; omega)) (But.set w9 bx (ox + di) (.int .i64 y)) (fun b o e => by simp at e; omega)
            clear hset2 hset3 hd9 hb9 q9 p9 g9 ow9 bc9 bf9 bk9 yy yyf yyl y1 y1f l1 hbb9 hd10 q10 p10 g10 ow10 hxt10 hA10 hB10 k0 k1 k2 k3 kl1 kl2 kl3 x1 x2 hM2
            generalize w9.setCell ⟨bx, ox + di, none⟩ (.int .i64 y) = w11 at *
            have hr2 := hr.out x y ⟨hx0, by omega⟩ ⟨hy0, by omega⟩
            generalize (ys.set ai x).set di y = zs at *
            go_wp2
            go_roundw
            case rel => exact ⟨j + 1, zs, hlt, by go_num, hr2, ow11, hd11, q11, g11, hA11, hB11, hxt11⟩
            case measure => simp [intOf]; omega
          case first =>
          rename_i J1 K1 hJ1 hK1
          refine wp_region_c3 (fun w' => But gd wr w') (.st 0 (.st 1 (.st 5 (.st 6 (.three 2 (.st 3 (.st 4 (.three 7 (.st 8 (.st 9 (.two 10 (.one 11 (.one 12 (.one 13 .done))) 11 (.one 10 (.one 12 (.one 13 .done)))))) 10 (.two 7 (.st 8 (.st 9 (.one 11 (.one 12 (.one 13 .done))))) 11 (.one 7 (.st 8 (.st 9 (.one 12 (.one 13 .done)))))) 11 (.two 7 (.st 8 (.st 9 (.one 10 (.one 12 (.one 13 .done))))) 10 (.one 7 (.st 8 (.st 9 (.one 12 (.one 13 .done))))))))) 10 (.two 2 (.st 3 (.st 4 (.two 7 (.st 8 (.st 9 (.one 11 (.one 12 (.one 13 .done))))) 11 (.one 7 (.st 8 (.st 9 (.one 12 (.one 13 .done)))))))) 11 (.one 2 (.st 3 (.st 4 (.one 7 (.st 8 (.st 9 (.one 12 (.one 13 .done))))))))) 11 (.two 2 (.st 3 (.st 4 (.two 7 (.st 8 (.st 9 (.one 10 (.one 12 (.one 13 .done))))) 10 (.one 7 (.st 8 (.st 9 (.one 12 (.one 13 .done)))))))) 10 (.one 2 (.st 3 (.st 4 (.one 7 (.st 8 (.st 9 (.one 12 (.one 13 .done)))))))))))))) (by kernel_rfl) (by kernel_rfl) (by decide) (by kernel_rfl) ?_ ?_
          · exact hT
          refine c3_intro fun ops eo => ?_
          have ho0 := canon_at eo 0 rfl
          have ho1 := canon_at eo 1 rfl
          have ho2 := canon_at eo 2 rfl
          have ho3 := canon_at eo 3 rfl
          have ho4 := canon_at eo 4 rfl
          have ho5 := canon_at eo 5 rfl
          have ho6 := canon_at eo 6 rfl
          have ho7 := canon_at eo 7 rfl
          have ho8 := canon_at eo 8 rfl
          have ho9 := canon_at eo 9 rfl
          have ho10 := canon_at eo 10 rfl
          have ho11 := canon_at eo 11 rfl
          have ho12 := canon_at eo 12 rfl
          have ho13 := canon_at eo 13 rfl
          clear eo
          all_goals (apply c3_st ho0 rfl; (intro w2 hS; first | (go_simp; first | done | rfl) | rfl | (obtain ⟨hc', hf', hk', hz⟩ := bucell hS; go_simp; first | done | rfl)); simp only [Act.put, List.setIfInBounds_toArray, List.set_cons_zero, List.set_cons_succ])
          all_goals clear ho0
          all_goals (apply c3_st ho1 rfl; (intro w2 hS; first | (go_simp; first | done | rfl) | rfl | (obtain ⟨hc', hf', hk', hz⟩ := bucell hS; go_simp; first | done | rfl)); simp only [Act.put, List.setIfInBounds_toArray, List.set_cons_zero, List.set_cons_succ])
          all_goals clear ho1
          all_goals (apply c3_st ho5 rfl; (intro w2 hS; first | (go_simp; first | done | rfl) | rfl | (obtain ⟨hc', hf', hk', hz⟩ := bucell hS; go_simp; first | done | rfl)); simp only [Act.put, List.setIfInBounds_toArray, List.set_cons_zero, List.set_cons_succ])
          all_goals clear ho5
          all_goals (apply c3_st ho6 rfl; (intro w2 hS; first | (go_simp; first | done | rfl) | rfl | (obtain ⟨hc', hf', hk', hz⟩ := bucell hS; go_simp; first | done | rfl)); simp only [Act.put, List.setIfInBounds_toArray, List.set_cons_zero, List.set_cons_succ])
          all_goals clear ho6
          all_goals
            refine c3_three ?_ ?_ ?_
            rotate_right 1
            focus
              all_goals first | (refine c3_op ho11 rfl (fun K hK => ?_); (refine alloc_op ?_; intro w7 g15 e15 l15 x15 q15; have m15 : wr.heap.size ≤ g15 := (by have := hT.size; omega); have n15 : g15 ≠ gd := (by omega); (try have d14 : g14 ≠ g15 := (by have := q14.lt; omega)); replace hT := hT.trans (But.of x15); replace hd := hd.ext x15; (try replace q14 := q14.ext x15); clear e15 x15); all_goals ((with_reducible refine hK _ _ ?_); refine ⟨hT, ?_⟩; clear hK K; go_simp))
              all_goals clear ho11
              all_goals
                refine c3_two ?_ ?_
                rotate_right 1
                focus
                  all_goals first | (refine c3_op ho10 rfl (fun K hK => ?_); (refine alloc_op ?_; intro w6 g14 e14 l14 x14 q14; have m14 : wr.heap.size ≤ g14 := (by have := hT.size; omega); have n14 : g14 ≠ gd := (by omega); (try have d14 : g14 ≠ g15 := (by have := q15.lt; omega)); replace hT := hT.trans (But.of x14); replace hd := hd.ext x14; (try replace q15 := q15.ext x14); clear e14 x14); all_goals ((with_reducible refine hK _ _ ?_); refine ⟨hT, ?_⟩; clear hK K; go_simp))
                  all_goals clear ho10
                  all_goals refine c3_one ?_
                  all_goals first | (refine c3_op ho2 rfl (fun K hK => ?_); go_simp; ((go_at_call 13; (with_reducible refine (below_n w.heap.size gd 15 _ hd (by omega)).mono ?_); rintro e w4 ⟨xa, rfl, hxa0, hxa1, hd4, hb4⟩; replace hT := hT.trans hb4; replace hd := hd4; (try replace q14 := q14.but hb4 n14); (try replace q15 := q15.but hb4 n15); obtain ⟨ka, rfl⟩ := Int.eq_ofNat_of_zero_le hxa0; obtain ⟨la1, la2, la3⟩ := pl_at hA (k := ka) (by show ka < 15; omega); clear hb4 hd4)); all_goals ((with_reducible refine hK _ _ ?_); refine ⟨hT, ?_⟩; clear hK K; go_simp))
                  all_goals clear ho2
                  all_goals (apply c3_st ho3 rfl; (intro w2 hS; first | (go_simp; first | done | rfl) | rfl | (obtain ⟨hc', hf', hk', hz⟩ := bucell hS; go_simp; first | done | rfl)); simp only [Act.put, List.setIfInBounds_toArray, List.set_cons_zero, List.set_cons_succ])
                  all_goals clear ho3
                  all_goals (apply c3_st ho4 rfl; (intro w2 hS; first | (go_simp; first | done | rfl) | rfl | (obtain ⟨hc', hf', hk', hz⟩ := bucell hS; go_simp; first | done | rfl)); simp only [Act.put, List.setIfInBounds_toArray, List.set_cons_zero, List.set_cons_succ])
                  all_goals clear ho4
                  all_goals refine c3_one ?_
                  all_goals first | (refine c3_op ho7 rfl (fun K hK => ?_); go_simp; ((go_at_call 13; (with_reducible refine (below_n w.heap.size gd 15 _ hd (by omega)).mono ?_); rintro e w5 ⟨xb, rfl, hxb0, hxb1, hd4, hb4⟩; replace hT := hT.trans hb4; replace hd := hd4; (try replace q14 := q14.but hb4 n14); (try replace q15 := q15.but hb4 n15); obtain ⟨kb, rfl⟩ := Int.eq_ofNat_of_zero_le hxb0; obtain ⟨lb1, lb2, lb3⟩ := pl_at hB (k := kb) (by show kb < 15; omega); clear hb4 hd4)); all_goals ((with_reducible refine hK _ _ ?_); refine ⟨hT, ?_⟩; clear hK K; go_simp))
                  all_goals clear ho7
                  all_goals (apply c3_st ho8 rfl; (intro w2 hS; first | (go_simp; first | done | rfl) | rfl | (obtain ⟨hc', hf', hk', hz⟩ := bucell hS; go_simp; first | done | rfl)); simp only [Act.put, List.setIfInBounds_toArray, List.set_cons_zero, List.set_cons_succ])
                  all_goals clear ho8
                  all_goals (apply c3_st ho9 rfl; (intro w2 hS; first | (go_simp; first | done | rfl) | rfl | (obtain ⟨hc', hf', hk', hz⟩ := bucell hS; go_simp; first | done | rfl)); simp only [Act.put, List.setIfInBounds_toArray, List.set_cons_zero, List.set_cons_succ])
                  all_goals clear ho9
                  all_goals refine c3_one ?_
                  all_goals first | (refine c3_op ho12 rfl (fun K hK => ?_); (refine store_op q14 rfl rfl ?_; intro w9 b9 s9 q9; replace hT := hT.old b9 m14; replace hd := hd.but b9 (Ne.symm n14) (by omega); replace q15 := q15.but b9 (Ne.symm d14); replace q14 := q9; clear b9 s9 q9); all_goals ((with_reducible refine hK _ _ ?_); refine ⟨hT, ?_⟩; clear hK K; go_simp))
                  all_goals clear ho12
                  all_goals refine c3_one ?_
                  all_goals first | (refine c3_op ho13 rfl (fun K hK => ?_); (refine store_op q15 rfl rfl ?_; intro w10 b9 s9 q9; replace hT := hT.old b9 m15; replace hd := hd.but b9 (Ne.symm n15) (by omega); replace q14 := q14.but b9 d14; replace q15 := q9; clear b9 s9 q9); all_goals ((with_reducible refine hK _ _ ?_); refine ⟨hT, ?_⟩; clear hK K; go_simp))
                  all_goals clear ho13
                  all_goals refine c3_done (NoPanic.normal ?_)
                rotate_right 1
                focus
                  all_goals first | (refine c3_op ho2 rfl (fun K hK => ?_); go_simp; ((go_at_call 13; (with_reducible refine (below_n w.heap.size gd 15 _ hd (by omega)).mono ?_); rintro e w4 ⟨xa, rfl, hxa0, hxa1, hd4, hb4⟩; replace hT := hT.trans hb4; replace hd := hd4; (try replace q14 := q14.but hb4 n14); (try replace q15 := q15.but hb4 n15); obtain ⟨ka, rfl⟩ := Int.eq_ofNat_of_zero_le hxa0; obtain ⟨la1, la2, la3⟩ := pl_at hA (k := ka) (by show ka < 15; omega); clear hb4 hd4)); all_goals ((with_reducible refine hK _ _ ?_); refine ⟨hT, ?_⟩; clear hK K; go_simp))
                  all_goals clear ho2
                  all_goals (apply c3_st ho3 rfl; (intro w2 hS; first | (go_simp; first | done | rfl) | rfl | (obtain ⟨hc', hf', hk', hz⟩ := bucell hS; go_simp; first | done | rfl)); simp only [Act.put, List.setIfInBounds_toArray, List.set_cons_zero, List.set_cons_succ])
                  all_goals clear ho3
                  all_goals (apply c3_st ho4 rfl; (intro w2 hS; first | (go_simp; first | done | rfl) | rfl | (obtain ⟨hc', hf', hk', hz⟩ := bucell hS; go_simp; first | done | rfl)); simp only [Act.put, List.setIfInBounds_toArray, List.set_cons_zero, List.set_cons_succ])
                  all_goals clear ho4
                  all_goals
                    refine c3_two ?_ ?_
                    rotate_right 1
                    focus
                      all_goals first | (refine c3_op ho10 rfl (fun K hK => ?_); (refine alloc_op ?_; intro w6 g14 e14 l14 x14 q14; have m14 : wr.heap.size ≤ g14 := (by have := hT.size; omega); have n14 : g14 ≠ gd := (by omega); (try have d14 : g14 ≠ g15 := (by have := q15.lt; omega)); replace hT := hT.trans (But.of x14); replace hd := hd.ext x14; (try replace q15 := q15.ext x14); clear e14 x14); all_goals ((with_reducible refine hK _ _ ?_); refine ⟨hT, ?_⟩; clear hK K; go_simp))
                      all_goals clear ho10
                      all_goals refine c3_one ?_
                      all_goals first | (refine c3_op ho7 rfl (fun K hK => ?_); go_simp; ((go_at_call 13; (with_reducible refine (below_n w.heap.size gd 15 _ hd (by omega)).mono ?_); rintro e w5 ⟨xb, rfl, hxb0, hxb1, hd4, hb4⟩; replace hT := hT.trans hb4; replace hd := hd4; (try replace q14 := q14.but hb4 n14); (try replace q15 := q15.but hb4 n15); obtain ⟨kb, rfl⟩ := Int.eq_ofNat_of_zero_le hxb0; obtain ⟨lb1, lb2, lb3⟩ := pl_at hB (k := kb) (by show kb < 15; omega); clear hb4 hd4)); all_goals ((with_reducible refine hK _ _ ?_); refine ⟨hT, ?_⟩; clear hK K; go_simp))
                      all_goals clear ho7
                      all_goals (apply c3_st ho8 rfl; (intro w2 hS; first | (go_simp; first | done | rfl) | rfl | (obtain ⟨hc', hf', hk', hz⟩ := bucell hS; go_simp; first | done | rfl)); simp only [Act.put, List.setIfInBounds_toArray, List.set_cons_zero, List.set_cons_succ])
                      all_goals clear ho8
                      all_goals (apply c3_st ho9 rfl; (intro w2 hS; first | (go_simp; first | done | rfl) | rfl | (obtain ⟨hc', hf', hk', hz⟩ := bucell hS; go_simp; first | done | rfl)); simp only [Act.put, List.setIfInBounds_toArray, List.set_cons_zero, List.set_cons_succ])
                      all_goals clear ho9
                      all_goals refine c3_one ?_
                      all_goals first | (refine c3_op ho12 rfl (fun K hK => ?_); (refine store_op q14 rfl rfl ?_; intro w9 b9 s9 q9; replace hT := hT.old b9 m14; replace hd := hd.but b9 (Ne.symm n14) (by omega); replace q15 := q15.but b9 (Ne.symm d14); replace q14 := q9; clear b9 s9 q9); all_goals ((with_reducible refine hK _ _ ?_); refine ⟨hT, ?_⟩; clear hK K; go_simp))
                      all_goals clear ho12
                      all_goals refine c3_one ?_
                      all_goals first | (refine c3_op ho13 rfl (fun K hK => ?_); (refine store_op q15 rfl rfl ?_; intro w10 b9 s9 q9; replace hT := hT.old b9 m15; replace hd := hd.but b9 (Ne.symm n15) (by omega); replace q14 := q14.but b9 d14; replace q15 := q9; clear b9 s9 q9); all_goals ((with_reducible refine hK _ _ ?_); refine ⟨hT, ?_⟩; clear hK K; go_simp))
                      all_goals clear ho13
                      all_goals refine c3_done (NoPanic.normal ?_)
                    rotate_right 1
                    focus
                      all_goals first | (refine c3_op ho7 rfl (fun K hK => ?_); go_simp; ((go_at_call 13; (with_reducible refine (below_n w.heap.size gd 15 _ hd (by omega)).mono ?_); rintro e w5 ⟨xb, rfl, hxb0, hxb1, hd4, hb4⟩; replace hT := hT.trans hb4; replace hd := hd4; (try replace q14 := q14.but hb4 n14); (try replace q15 := q15.but hb4 n15); obtain ⟨kb, rfl⟩ := Int.eq_ofNat_of_zero_le hxb0; obtain ⟨lb1, lb2, lb3⟩ := pl_at hB (k := kb) (by show kb < 15; omega); clear hb4 hd4)); all_goals ((with_reducible refine hK _ _ ?_); refine ⟨hT, ?_⟩; clear hK K; go_simp))
                      all_goals clear ho7
                      all_goals (apply c3_st ho8 rfl; (intro w2 hS; first | (go_simp; first | done | rfl) | rfl | (obtain ⟨hc', hf', hk', hz⟩ := bucell hS; go_simp; first | done | rfl)); simp only [Act.put, List.setIfInBounds_toArray, List.set_cons_zero, List.set_cons_succ])
                      all_goals clear ho8
                      all_goals (apply c3_st ho9 rfl; (intro w2 hS; first | (go_simp; first | done | rfl) | rfl | (obtain ⟨hc', hf', hk', hz⟩ := bucell hS; go_simp; first | done | rfl)); simp only [Act.put, List.setIfInBounds_toArray, List.set_cons_zero, List.set_cons_succ])
                      all_goals clear ho9
                      all_goals refine c3_one ?_
                      all_goals first | (refine c3_op ho10 rfl (fun K hK => ?_); (refine alloc_op ?_; intro w6 g14 e14 l14 x14 q14; have m14 : wr.heap.size ≤ g14 := (by have := hT.size; omega); have n14 : g14 ≠ gd := (by omega); (try have d14 : g14 ≠ g15 := (by have := q15.lt; omega)); replace hT := hT.trans (But.of x14); replace hd := hd.ext x14; (try replace q15 := q15.ext x14); clear e14 x14); all_goals ((with_reducible refine hK _ _ ?_); refine ⟨hT, ?_⟩; clear hK K; go_simp))
                      all_goals clear ho10
                      all_goals refine c3_one ?_
                      all_goals first | (refine c3_op ho12 rfl (fun K hK => ?_); (refine store_op q14 rfl rfl ?_; intro w9 b9 s9 q9; replace hT := hT.old b9 m14; replace hd := hd.but b9 (Ne.symm n14) (by omega); replace q15 := q15.but b9 (Ne.symm d14); replace q14 := q9; clear b9 s9 q9); all_goals ((with_reducible refine hK _ _ ?_); refine ⟨hT, ?_⟩; clear hK K; go_simp))
                      all_goals clear ho12
                      all_goals refine c3_one ?_
                      all_goals first | (refine c3_op ho13 rfl (fun K hK => ?_); (refine store_op q15 rfl rfl ?_; intro w10 b9 s9 q9; replace hT := hT.old b9 m15; replace hd := hd.but b9 (Ne.symm n15) (by omega); replace q14 := q14.but b9 d14; replace q15 := q9; clear b9 s9 q9); all_goals ((with_reducible refine hK _ _ ?_); refine ⟨hT, ?_⟩; clear hK K; go_simp))
                      all_goals clear ho13
                      all_goals refine c3_done (NoPanic.normal ?_)
            rotate_right 1
            focus
              all_goals first | (refine c3_op ho10 rfl (fun K hK => ?_); (refine alloc_op ?_; intro w6 g14 e14 l14 x14 q14; have m14 : wr.heap.size ≤ g14 := (by have := hT.size; omega); have n14 : g14 ≠ gd := (by omega); (try have d14 : g14 ≠ g15 := (by have := q15.lt; omega)); replace hT := hT.trans (But.of x14); replace hd := hd.ext x14; (try replace q15 := q15.ext x14); clear e14 x14); all_goals ((with_reducible refine hK _ _ ?_); refine ⟨hT, ?_⟩; clear hK K; go_simp))
              all_goals clear ho10
              all_goals
                refine c3_two ?_ ?_
                rotate_right 1
                focus
                  all_goals first | (refine c3_op ho11 rfl (fun K hK => ?_); (refine alloc_op ?_; intro w7 g15 e15 l15 x15 q15; have m15 : wr.heap.size ≤ g15 := (by have := hT.size; omega); have n15 : g15 ≠ gd := (by omega); (try have d14 : g14 ≠ g15 := (by have := q14.lt; omega)); replace hT := hT.trans (But.of x15); replace hd := hd.ext x15; (try replace q14 := q14.ext x15); clear e15 x15); all_goals ((with_reducible refine hK _ _ ?_); refine ⟨hT, ?_⟩; clear hK K; go_simp))
                  all_goals clear ho11
                  all_goals refine c3_one ?_
                  all_goals first | (refine c3_op ho2 rfl (fun K hK => ?_); go_simp; ((go_at_call 13; (with_reducible refine (below_n w.heap.size gd 15 _ hd (by omega)).mono ?_); rintro e w4 ⟨xa, rfl, hxa0, hxa1, hd4, hb4⟩; replace hT := hT.trans hb4; replace hd := hd4; (try replace q14 := q14.but hb4 n14); (try replace q15 := q15.but hb4 n15); obtain ⟨ka, rfl⟩ := Int.eq_ofNat_of_zero_le hxa0; obtain ⟨la1, la2, la3⟩ := pl_at hA (k := ka) (by show ka < 15; omega); clear hb4 hd4)); all_goals ((with_reducible refine hK _ _ ?_); refine ⟨hT, ?_⟩; clear hK K; go_simp))
                  all_goals clear ho2
                  all_goals (apply c3_st ho3 rfl; (intro w2 hS; first | (go_simp; first | done | rfl) | rfl | (obtain ⟨hc', hf', hk', hz⟩ := bucell hS; go_simp; first | done | rfl)); simp only [Act.put, List.setIfInBounds_toArray, List.set_cons_zero, List.set_cons_succ])
                  all_goals clear ho3
                  all_goals (apply c3_st ho4 rfl; (intro w2 hS; first | (go_simp; first | done | rfl) | rfl | (obtain ⟨hc', hf', hk', hz⟩ := bucell hS; go_simp; first | done | rfl)); simp only [Act.put, List.setIfInBounds_toArray, List.set_cons_zero, List.set_cons_succ])
                  all_goals clear ho4
                  all_goals refine c3_one ?_
                  all_goals first | (refine c3_op ho7 rfl (fun K hK => ?_); go_simp; ((go_at_call 13; (with_reducible refine (below_n w.heap.size gd 15 _ hd (by omega)).mono ?_); rintro e w5 ⟨xb, rfl, hxb0, hxb1, hd4, hb4⟩; replace hT := hT.trans hb4; replace hd := hd4; (try replace q14 := q14.but hb4 n14); (try replace q15 := q15.but hb4 n15); obtain ⟨kb, rfl⟩ := Int.eq_ofNat_of_zero_le hxb0; obtain ⟨lb1, lb2, lb3⟩ := pl_at hB (k := kb) (by show kb < 15; omega); clear hb4 hd4)); all_goals ((with_reducible refine hK _ _ ?_); refine ⟨hT, ?_⟩; clear hK K; go_simp))
                  all_goals clear ho7
                  all_goals (apply c3_st ho8 rfl; (intro w2 hS; first | (go_simp; first | done | rfl) | rfl | (obtain ⟨hc', hf', hk', hz⟩ := bucell hS; go_simp; first | done | rfl)); simp only [Act.put, List.setIfInBounds_toArray, List.set_cons_zero, List.set_cons_succ])
                  all_goals clear ho8
                  all_goals (apply c3_st ho9 rfl; (intro w2 hS; first | (go_simp; first | done | rfl) | rfl | (obtain ⟨hc', hf', hk', hz⟩ := bucell hS; go_simp; first | done | rfl)); simp only [Act.put, List.setIfInBounds_toArray, List.set_cons_zero, List.set_cons_succ])
                  all_goals clear ho9
                  all_goals refine c3_one ?_
                  all_goals first | (refine c3_op ho12 rfl (fun K hK => ?_); (refine store_op q14 rfl rfl ?_; intro w9 b9 s9 q9; replace hT := hT.old b9 m14; replace hd := hd.but b9 (Ne.symm n14) (by omega); replace q15 := q15.but b9 (Ne.symm d14); replace q14 := q9; clear b9 s9 q9); all_goals ((with_reducible refine hK _ _ ?_); refine ⟨hT, ?_⟩; clear hK K; go_simp))
                  all_goals clear ho12
                  all_goals refine c3_one ?_
                  all_goals first | (refine c3_op ho13 rfl (fun K hK => ?_); (refine store_op q15 rfl rfl ?_; intro w10 b9 s9 q9; replace hT := hT.old b9 m15; replace hd := hd.but b9 (Ne.symm n15) (by omega); replace q14 := q14.but b9 d14; replace q15 := q9; clear b9 s9 q9); all_goals ((with_reducible refine hK _ _ ?_); refine ⟨hT, ?_⟩; clear hK K; go_simp))
                  all_goals clear ho13
                  all_goals refine c3_done (NoPanic.normal ?_)
                rotate_right 1
                focus
                  all_goals first | (refine c3_op ho2 rfl (fun K hK => ?_); go_simp; ((go_at_call 13; (with_reducible refine (below_n w.heap.size gd 15 _ hd (by omega)).mono ?_); rintro e w4 ⟨xa, rfl, hxa0, hxa1, hd4, hb4⟩; replace hT := hT.trans hb4; replace hd := hd4; (try replace q14 := q14.but hb4 n14); (try replace q15 := q15.but hb4 n15); obtain ⟨ka, rfl⟩ := Int.eq_ofNat_of_zero_le hxa0; obtain ⟨la1, la2, la3⟩ := pl_at hA (k := ka) (by show ka < 15; omega); clear hb4 hd4)); all_goals ((with_reducible refine hK _ _ ?_); refine ⟨hT, ?_⟩; clear hK K; go_simp))
                  all_goals clear ho2
                  all_goals (apply c3_st ho3 rfl; (intro w2 hS; first | (go_simp; first | done | rfl) | rfl | (obtain ⟨hc', hf', hk', hz⟩ := bucell hS; go_simp; first | done | rfl)); simp only [Act.put, List.setIfInBounds_toArray, List.set_cons_zero, List.set_cons_succ])
                  all_goals clear ho3
                  all_goals (apply c3_st ho4 rfl; (intro w2 hS; first | (go_simp; first | done | rfl) | rfl | (obtain ⟨hc', hf', hk', hz⟩ := bucell hS; go_simp; first | done | rfl)); simp only [Act.put, List.setIfInBounds_toArray, List.set_cons_zero, List.set_cons_succ])
                  all_goals clear ho4
                  all_goals
                    refine c3_two ?_ ?_
                    rotate_right 1
                    focus
                      all_goals first | (refine c3_op ho11 rfl (fun K hK => ?_); (refine alloc_op ?_; intro w7 g15 e15 l15 x15 q15; have m15 : wr.heap.size ≤ g15 := (by have := hT.size; omega); have n15 : g15 ≠ gd := (by omega); (try have d14 : g14 ≠ g15 := (by have := q14.lt; omega)); replace hT := hT.trans (But.of x15); replace hd := hd.ext x15; (try replace q14 := q14.ext x15); clear e15 x15); all_goals ((with_reducible refine hK _ _ ?_); refine ⟨hT, ?_⟩; clear hK K; go_simp))
                      all_goals clear ho11
                      all_goals refine c3_one ?_
                      all_goals first | (refine c3_op ho7 rfl (fun K hK => ?_); go_simp; ((go_at_call 13; (with_reducible refine (below_n w.heap.size gd 15 _ hd (by omega)).mono ?_); rintro e w5 ⟨xb, rfl, hxb0, hxb1, hd4, hb4⟩; replace hT := hT.trans hb4; replace hd := hd4; (try replace q14 := q14.but hb4 n14); (try replace q15 := q15.but hb4 n15); obtain ⟨kb, rfl⟩ := Int.eq_ofNat_of_zero_le hxb0; obtain ⟨lb1, lb2, lb3⟩ := pl_at hB (k := kb) (by show kb < 15; omega); clear hb4 hd4)); all_goals ((with_reducible refine hK _ _ ?_); refine ⟨hT, ?_⟩; clear hK K; go_simp))
                      all_goals clear ho7
                      all_goals (apply c3_st ho8 rfl; (intro w2 hS; first | (go_simp; first | done | rfl) | rfl | (obtain ⟨hc', hf', hk', hz⟩ := bucell hS; go_simp; first | done | rfl)); simp only [Act.put, List.setIfInBounds_toArray, List.set_cons_zero, List.set_cons_succ])
                      all_goals clear ho8
                      all_goals (apply c3_st ho9 rfl; (intro w2 hS; first | (go_simp; first | done | rfl) | rfl | (obtain ⟨hc', hf', hk', hz⟩ := bucell hS; go_simp; first | done | rfl)); simp only [Act.put, List.setIfInBounds_toArray, List.set_cons_zero, List.set_cons_succ])
                      all_goals clear ho9
                      all_goals refine c3_one ?_
                      all_goals first | (refine c3_op ho12 rfl (fun K hK => ?_); (refine store_op q14 rfl rfl ?_; intro w9 b9 s9 q9; replace hT := hT.old b9 m14; replace hd := hd.but b9 (Ne.symm n14) (by omega); replace q15 := q15.but b9 (Ne.symm d14); replace q14 := q9; clear b9 s9 q9); all_goals ((with_reducible refine hK _ _ ?_); refine ⟨hT, ?_⟩; clear hK K; go_simp))
                      all_goals clear ho12
                      all_goals refine c3_one ?_
                      all_goals first | (refine c3_op ho13 rfl (fun K hK => ?_); (refine store_op q15 rfl rfl ?_; intro w10 b9 s9 q9; replace hT := hT.old b9 m15; replace hd := hd.but b9 (Ne.symm n15) (by omega); replace q14 := q14.but b9 d14; replace q15 := q9; clear b9 s9 q9); all_goals ((with_reducible refine hK _ _ ?_); refine ⟨hT, ?_⟩; clear hK K; go_simp))
                      all_goals clear ho13
                      all_goals refine c3_done (NoPanic.normal ?_)
                    rotate_right 1
                    focus
                      all_goals first | (refine c3_op ho7 rfl (fun K hK => ?_); go_simp; ((go_at_call 13; (with_reducible refine (below_n w.heap.size gd 15 _ hd (by omega)).mono ?_); rintro e w5 ⟨xb, rfl, hxb0, hxb1, hd4, hb4⟩; replace hT := hT.trans hb4; replace hd := hd4; (try replace q14 := q14.but hb4 n14); (try replace q15 := q15.but hb4 n15); obtain ⟨kb, rfl⟩ := Int.eq_ofNat_of_zero_le hxb0; obtain ⟨lb1, lb2, lb3⟩ := pl_at hB (k := kb) (by show kb < 15; omega); clear hb4 hd4)); all_goals ((with_reducible refine hK _ _ ?_); refine ⟨hT, ?_⟩; clear hK K; go_simp))
                      all_goals clear ho7
                      all_goals (apply c3_st ho8 rfl; (intro w2 hS; first | (go_simp; first | done | rfl) | rfl | (obtain ⟨hc', hf', hk', hz⟩ := bucell hS; go_simp; first | done | rfl)); simp only [Act.put, List.setIfInBounds_toArray, List.set_cons_zero, List.set_cons_succ])
                      all_goals clear ho8
                      all_goals (apply c3_st ho9 rfl; (intro w2 hS; first | (go_simp; first | done | rfl) | rfl | (obtain ⟨hc', hf', hk', hz⟩ := bucell hS; go_simp; first | done | rfl)); simp only [Act.put, List.setIfInBounds_toArray, List.set_cons_zero, List.set_cons_succ])
                      all_goals clear ho9
                      all_goals refine c3_one ?_
                      all_goals first | (refine c3_op ho11 rfl (fun K hK => ?_); (refine alloc_op ?_; intro w7 g15 e15 l15 x15 q15; have m15 : wr.heap.size ≤ g15 := (by have := hT.size; omega); have n15 : g15 ≠ gd := (by omega); (try have d14 : g14 ≠ g15 := (by have := q14.lt; omega)); replace hT := hT.trans (But.of x15); replace hd := hd.ext x15; (try replace q14 := q14.ext x15); clear e15 x15); all_goals ((with_reducible refine hK _ _ ?_); refine ⟨hT, ?_⟩; clear hK K; go_simp))
                      all_goals clear ho11
                      all_goals refine c3_one ?_
                      all_goals first | (refine c3_op ho12 rfl (fun K hK => ?_); (refine store_op q14 rfl rfl ?_; intro w9 b9 s9 q9; replace hT := hT.old b9 m14; replace hd := hd.but b9 (Ne.symm n14) (by omega); replace q15 := q15.but b9 (Ne.symm d14); replace q14 := q9; clear b9 s9 q9); all_goals ((with_reducible refine hK _ _ ?_); refine ⟨hT, ?_⟩; clear hK K; go_simp))
                      all_goals clear ho12
                      all_goals refine c3_one ?_
                      all_goals first | (refine c3_op ho13 rfl (fun K hK => ?_); (refine store_op q15 rfl rfl ?_; intro w10 b9 s9 q9; replace hT := hT.old b9 m15; replace hd := hd.but b9 (Ne.symm n15) (by omega); replace q14 := q14.but b9 d14; replace q15 := q9; clear b9 s9 q9); all_goals ((with_reducible refine hK _ _ ?_); refine ⟨hT, ?_⟩; clear hK K; go_simp))
                      all_goals clear ho13
                      all_goals refine c3_done (NoPanic.normal ?_)
            rotate_right 1
            focus
              all_goals first | (refine c3_op ho2 rfl (fun K hK => ?_); go_simp; ((go_at_call 13; (with_reducible refine (below_n w.heap.size gd 15 _ hd (by omega)).mono ?_); rintro e w4 ⟨xa, rfl, hxa0, hxa1, hd4, hb4⟩; replace hT := hT.trans hb4; replace hd := hd4; (try replace q14 := q14.but hb4 n14); (try replace q15 := q15.but hb4 n15); obtain ⟨ka, rfl⟩ := Int.eq_ofNat_of_zero_le hxa0; obtain ⟨la1, la2, la3⟩ := pl_at hA (k := ka) (by show ka < 15; omega); clear hb4 hd4)); all_goals ((with_reducible refine hK _ _ ?_); refine ⟨hT, ?_⟩; clear hK K; go_simp))
              all_goals clear ho2
              all_goals (apply c3_st ho3 rfl; (intro w2 hS; first | (go_simp; first | done | rfl) | rfl | (obtain ⟨hc', hf', hk', hz⟩ := bucell hS; go_simp; first | done | rfl)); simp only [Act.put, List.setIfInBounds_toArray, List.set_cons_zero, List.set_cons_succ])
              all_goals clear ho3
              all_goals (apply c3_st ho4 rfl; (intro w2 hS; first | (go_simp; first | done | rfl) | rfl | (obtain ⟨hc', hf', hk', hz⟩ := bucell hS; go_simp; first | done | rfl)); simp only [Act.put, List.setIfInBounds_toArray, List.set_cons_zero, List.set_cons_succ])
              all_goals clear ho4
              all_goals
                refine c3_three ?_ ?_ ?_
                rotate_right 1
                focus
                  all_goals first | (refine c3_op ho11 rfl (fun K hK => ?_); (refine alloc_op ?_; intro w7 g15 e15 l15 x15 q15; have m15 : wr.heap.size ≤ g15 := (by have := hT.size; omega); have n15 : g15 ≠ gd := (by omega); (try have d14 : g14 ≠ g15 := (by have := q14.lt; omega)); replace hT := hT.trans (But.of x15); replace hd := hd.ext x15; (try replace q14 := q14.ext x15); clear e15 x15); all_goals ((with_reducible refine hK _ _ ?_); refine ⟨hT, ?_⟩; clear hK K; go_simp))
                  all_goals clear ho11
                  all_goals
                    refine c3_two ?_ ?_
                    rotate_right 1
                    focus
                      all_goals first | (refine c3_op ho10 rfl (fun K hK => ?_); (refine alloc_op ?_; intro w6 g14 e14 l14 x14 q14; have m14 : wr.heap.size ≤ g14 := (by have := hT.size; omega); have n14 : g14 ≠ gd := (by omega); (try have d14 : g14 ≠ g15 := (by have := q15.lt; omega)); replace hT := hT.trans (But.of x14); replace hd := hd.ext x14; (try replace q15 := q15.ext x14); clear e14 x14); all_goals ((with_reducible refine hK _ _ ?_); refine ⟨hT, ?_⟩; clear hK K; go_simp))
                      all_goals clear ho10
                      all_goals refine c3_one ?_
                      all_goals first | (refine c3_op ho7 rfl (fun K hK => ?_); go_simp; ((go_at_call 13; (with_reducible refine (below_n w.heap.size gd 15 _ hd (by omega)).mono ?_); rintro e w5 ⟨xb, rfl, hxb0, hxb1, hd4, hb4⟩; replace hT := hT.trans hb4; replace hd := hd4; (try replace q14 := q14.but hb4 n14); (try replace q15 := q15.but hb4 n15); obtain ⟨kb, rfl⟩ := Int.eq_ofNat_of_zero_le hxb0; obtain ⟨lb1, lb2, lb3⟩ := pl_at hB (k := kb) (by show kb < 15; omega); clear hb4 hd4)); all_goals ((with_reducible refine hK _ _ ?_); refine ⟨hT, ?_⟩; clear hK K; go_simp))
                      all_goals clear ho7
                      all_goals (apply c3_st ho8 rfl; (intro w2 hS; first | (go_simp; first | done | rfl) | rfl | (obtain ⟨hc', hf', hk', hz⟩ := bucell hS; go_simp; first | done | rfl)); simp only [Act.put, List.setIfInBounds_toArray, List.set_cons_zero, List.set_cons_succ])
                      all_goals clear ho8
                      all_goals (apply c3_st ho9 rfl; (intro w2 hS; first | (go_simp; first | done | rfl) | rfl | (obtain ⟨hc', hf', hk', hz⟩ := bucell hS; go_simp; first | done | rfl)); simp only [Act.put, List.setIfInBounds_toArray, List.set_cons_zero, List.set_cons_succ])
                      all_goals clear ho9
                      all_goals refine c3_one ?_
                      all_goals first | (refine c3_op ho12 rfl (fun K hK => ?_); (refine store_op q14 rfl rfl ?_; intro w9 b9 s9 q9; replace hT := hT.old b9 m14; replace hd := hd.but b9 (Ne.symm n14) (by omega); replace q15 := q15.but b9 (Ne.symm d14); replace q14 := q9; clear b9 s9 q9); all_goals ((with_reducible refine hK _ _ ?_); refine ⟨hT, ?_⟩; clear hK K; go_simp))
                      all_goals clear ho12
                      all_goals refine c3_one ?_
                      all_goals first | (refine c3_op ho13 rfl (fun K hK => ?_); (refine store_op q15 rfl rfl ?_; intro w10 b9 s9 q9; replace hT := hT.old b9 m15; replace hd := hd.but b9 (Ne.symm n15) (by omega); replace q14 := q14.but b9 d14; replace q15 := q9; clear b9 s9 q9); all_goals ((with_reducible refine hK _ _ ?_); refine ⟨hT, ?_⟩; clear hK K; go_simp))
                      all_goals clear ho13
                      all_goals refine c3_done (NoPanic.normal ?_)
                    rotate_right 1
                    focus
                      all_goals first | (refine c3_op ho7 rfl (fun K hK => ?_); go_simp; ((go_at_call 13; (with_reducible refine (below_n w.heap.size gd 15 _ hd (by omega)).mono ?_); rintro e w5 ⟨xb, rfl, hxb0, hxb1, hd4, hb4⟩; replace hT := hT.trans hb4; replace hd := hd4; (try replace q14 := q14.but hb4 n14); (try replace q15 := q15.but hb4 n15); obtain ⟨kb, rfl⟩ := Int.eq_ofNat_of_zero_le hxb0; obtain ⟨lb1, lb2, lb3⟩ := pl_at hB (k := kb) (by show kb < 15; omega); clear hb4 hd4)); all_goals ((with_reducible refine hK _ _ ?_); refine ⟨hT, ?_⟩; clear hK K; go_simp))
                      all_goals clear ho7
                      all_goals (apply c3_st ho8 rfl; (intro w2 hS; first | (go_simp; first | done | rfl) | rfl | (obtain ⟨hc', hf', hk', hz⟩ := bucell hS; go_simp; first | done | rfl)); simp only [Act.put, List.setIfInBounds_toArray, List.set_cons_zero, List.set_cons_succ])
                      all_goals clear ho8
                      all_goals (apply c3_st ho9 rfl; (intro w2 hS; first | (go_simp; first | done | rfl) | rfl | (obtain ⟨hc', hf', hk', hz⟩ := bucell hS; go_simp; first | done | rfl)); simp only [Act.put, List.setIfInBounds_toArray, List.set_cons_zero, List.set_cons_succ])
                      all_goals clear ho9
                      all_goals refine c3_one ?_
                      all_goals first | (refine c3_op ho10 rfl (fun K hK => ?_); (refine alloc_op ?_; intro w6 g14 e14 l14 x14 q14; have m14 : wr.heap.size ≤ g14 := (by have := hT.size; omega); have n14 : g14 ≠ gd := (by omega); (try have d14 : g14 ≠ g15 := (by have := q15.lt; omega)); replace hT := hT.trans (But.of x14); replace hd := hd.ext x14; (try replace q15 := q15.ext x14); clear e14 x14); all_goals ((with_reducible refine hK _ _ ?_); refine ⟨hT, ?_⟩; clear hK K; go_simp))
                      all_goals clear ho10
                      all_goals refine c3_one ?_
                      all_goals first | (refine c3_op ho12 rfl (fun K hK => ?_); (refine store_op q14 rfl rfl ?_; intro w9 b9 s9 q9; replace hT := hT.old b9 m14; replace hd := hd.but b9 (Ne.symm n14) (by omega); replace q15 := q15.but b9 (Ne.symm d14); replace q14 := q9; clear b9 s9 q9); all_goals ((with_reducible refine hK _ _ ?_); refine ⟨hT, ?_⟩; clear hK K; go_simp))
                      all_goals clear ho12
                      all_goals refine c3_one ?_
                      all_goals first | (refine c3_op ho13 rfl (fun K hK => ?_); (refine store_op q15 rfl rfl ?_; intro w10 b9 s9 q9; replace hT := hT.old b9 m15; replace hd := hd.but b9 (Ne.symm n15) (by omega); replace q14 := q14.but b9 d14; replace q15 := q9; clear b9 s9 q9); all_goals ((with_reducible refine hK _ _ ?_); refine ⟨hT, ?_⟩; clear hK K; go_simp))
                      all_goals clear ho13
                      all_goals refine c3_done (NoPanic.normal ?_)
                rotate_right 1
                focus
                  all_goals first | (refine c3_op ho10 rfl (fun K hK => ?_); (refine alloc_op ?_; intro w6 g14 e14 l14 x14 q14; have m14 : wr.heap.size ≤ g14 := (by have := hT.size; omega); have n14 : g14 ≠ gd := (by omega); (try have d14 : g14 ≠ g15 := (by have := q15.lt; omega)); replace hT := hT.trans (But.of x14); replace hd := hd.ext x14; (try replace q15 := q15.ext x14); clear e14 x14); all_goals ((with_reducible refine hK _ _ ?_); refine ⟨hT, ?_⟩; clear hK K; go_simp))
                  all_goals clear ho10
                  all_goals
                    refine c3_two ?_ ?_
                    rotate_right 1
                    focus
                      all_goals first | (refine c3_op ho11 rfl (fun K hK => ?_); (refine alloc_op ?_; intro w7 g15 e15 l15 x15 q15; have m15 : wr.heap.size ≤ g15 := (by have := hT.size; omega); have n15 : g15 ≠ gd := (by omega); (try have d14 : g14 ≠ g15 := (by have := q14.lt; omega)); replace hT := hT.trans (But.of x15); replace hd := hd.ext x15; (try replace q14 := q14.ext x15); clear e15 x15); all_goals ((with_reducible refine hK _ _ ?_); refine ⟨hT, ?_⟩; clear hK K; go_simp))
                      all_goals clear ho11
                      all_goals refine c3_one ?_
                      all_goals first | (refine c3_op ho7 rfl (fun K hK => ?_); go_simp; ((go_at_call 13; (with_reducible refine (below_n w.heap.size gd 15 _ hd (by omega)).mono ?_); rintro e w5 ⟨xb, rfl, hxb0, hxb1, hd4, hb4⟩; replace hT := hT.trans hb4; replace hd := hd4; (try replace q14 := q14.but hb4 n14); (try replace q15 := q15.but hb4 n15); obtain ⟨kb, rfl⟩ := Int.eq_ofNat_of_zero_le hxb0; obtain ⟨lb1, lb2, lb3⟩ := pl_at hB (k := kb) (by show kb < 15; omega); clear hb4 hd4)); all_goals ((with_reducible refine hK _ _ ?_); refine ⟨hT, ?_⟩; clear hK K; go_simp))
                      all_goals clear ho7
                      all_goals (apply c3_st ho8 rfl; (intro w2 hS; first | (go_simp; first | done | rfl) | rfl | (obtain ⟨hc', hf', hk', hz⟩ := bucell hS; go_simp; first | done | rfl)); simp only [Act.put, List.setIfInBounds_toArray, List.set_cons_zero, List.set_cons_succ])
                      all_goals clear ho8
                      all_goals (apply c3_st ho9 rfl; (intro w2 hS; first | (go_simp; first | done | rfl) | rfl | (obtain ⟨hc', hf', hk', hz⟩ := bucell hS; go_simp; first | done | rfl)); simp only [Act.put, List.setIfInBounds_toArray, List.set_cons_zero, List.set_cons_succ])
                      all_goals clear ho9
                      all_goals refine c3_one ?_
                      all_goals first | (refine c3_op ho12 rfl (fun K hK => ?_); (refine store_op q14 rfl rfl ?_; intro w9 b9 s9 q9; replace hT := hT.old b9 m14; replace hd := hd.but b9 (Ne.symm n14) (by omega); replace q15 := q15.but b9 (Ne.symm d14); replace q14 := q9; clear b9 s9 q9); all_goals ((with_reducible refine hK _ _ ?_); refine ⟨hT, ?_⟩; clear hK K; go_simp))
                      all_goals clear ho12
                      all_goals refine c3_one ?_
                      all_goals first | (refine c3_op ho13 rfl (fun K hK => ?_); (refine store_op q15 rfl rfl ?_; intro w10 b9 s9 q9; replace hT := hT.old b9 m15; replace hd := hd.but b9 (Ne.symm n15) (by omega); replace q14 := q14.but b9 d14; replace q15 := q9; clear b9 s9 q9); all_goals ((with_reducible refine hK _ _ ?_); refine ⟨hT, ?_⟩; clear hK K; go_simp))
                      all_goals clear ho13
                      all_goals refine c3_done (NoPanic.normal ?_)
                    rotate_right 1
                    focus
                      all_goals first | (refine c3_op ho7 rfl (fun K hK => ?_); go_simp; ((go_at_call 13; (with_reducible refine (below_n w.heap.size gd 15 _ hd (by omega)).mono ?_); rintro e w5 ⟨xb, rfl, hxb0, hxb1, hd4, hb4⟩; replace hT := hT.trans hb4; replace hd := hd4; (try replace q14 := q14.but hb4 n14); (try replace q15 := q15.but hb4 n15); obtain ⟨kb, rfl⟩ := Int.eq_ofNat_of_zero_le hxb0; obtain ⟨lb1, lb2, lb3⟩ := pl_at hB (k := kb) (by show kb < 15; omega); clear hb4 hd4)); all_goals ((with_reducible refine hK _ _ ?_); refine ⟨hT, ?_⟩; clear hK K; go_simp))
                      all_goals clear ho7
                      all_goals (apply c3_st ho8 rfl; (intro w2 hS; first | (go_simp; first | done | rfl) | rfl | (obtain ⟨hc', hf', hk', hz⟩ := bucell hS; go_simp; first | done | rfl)); simp only [Act.put, List.setIfInBounds_toArray, List.set_cons_zero, List.set_cons_succ])
                      all_goals clear ho8
                      all_goals (apply c3_st ho9 rfl; (intro w2 hS; first | (go_simp; first | done | rfl) | rfl | (obtain ⟨hc', hf', hk', hz⟩ := bucell hS; go_simp; first | done | rfl)); simp only [Act.put, List.setIfInBounds_toArray, List.set_cons_zero, List.set_cons_succ])
                      all_goals clear ho9
                      all_goals refine c3_one ?_
                      all_goals first | (refine c3_op ho11 rfl (fun K hK => ?_); (refine alloc_op ?_; intro w7 g15 e15 l15 x15 q15; have m15 : wr.heap.size ≤ g15 := (by have := hT.size; omega); have n15 : g15 ≠ gd := (by omega); (try have d14 : g14 ≠ g15 := (by have := q14.lt; omega)); replace hT := hT.trans (But.of x15); replace hd := hd.ext x15; (try replace q14 := q14.ext x15); clear e15 x15); all_goals ((with_reducible refine hK _ _ ?_); refine ⟨hT, ?_⟩; clear hK K; go_simp))
                      all_goals clear ho11
                      all_goals refine c3_one ?_
                      all_goals first | (refine c3_op ho12 rfl (fun K hK => ?_); (refine store_op q14 rfl rfl ?_; intro w9 b9 s9 q9; replace hT := hT.old b9 m14; replace hd := hd.but b9 (Ne.symm n14) (by omega); replace q15 := q15.but b9 (Ne.symm d14); replace q14 := q9; clear b9 s9 q9); all_goals ((with_reducible refine hK _ _ ?_); refine ⟨hT, ?_⟩; clear hK K; go_simp))
                      all_goals clear ho12
                      all_goals refine c3_one ?_
                      all_goals first | (refine c3_op ho13 rfl (fun K hK => ?_); (refine store_op q15 rfl rfl ?_; intro w10 b9 s9 q9; replace hT := hT.old b9 m15; replace hd := hd.but b9 (Ne.symm n15) (by omega); replace q14 := q14.but b9 d14; replace q15 := q9; clear b9 s9 q9); all_goals ((with_reducible refine hK _ _ ?_); refine ⟨hT, ?_⟩; clear hK K; go_simp))
                      all_goals clear ho13
                      all_goals refine c3_done (NoPanic.normal ?_)
                rotate_right 1
                focus
                  all_goals first | (refine c3_op ho7 rfl (fun K hK => ?_); go_simp; ((go_at_call 13; (with_reducible refine (below_n w.heap.size gd 15 _ hd (by omega)).mono ?_); rintro e w5 ⟨xb, rfl, hxb0, hxb1, hd4, hb4⟩; replace hT := hT.trans hb4; replace hd := hd4; (try replace q14 := q14.but hb4 n14); (try replace q15 := q15.but hb4 n15); obtain ⟨kb, rfl⟩ := Int.eq_ofNat_of_zero_le hxb0; obtain ⟨lb1, lb2, lb3⟩ := pl_at hB (k := kb) (by show kb < 15; omega); clear hb4 hd4)); all_goals ((with_reducible refine hK _ _ ?_); refine ⟨hT, ?_⟩; clear hK K; go_simp))
                  all_goals clear ho7
                  all_goals (apply c3_st ho8 rfl; (intro w2 hS; first | (go_simp; first | done | rfl) | rfl | (obtain ⟨hc', hf', hk', hz⟩ := bucell hS; go_simp; first | done | rfl)); simp only [Act.put, List.setIfInBounds_toArray, List.set_cons_zero, List.set_cons_succ])
                  all_goals clear ho8
                  all_goals (apply c3_st ho9 rfl; (intro w2 hS; first | (go_simp; first | done | rfl) | rfl | (obtain ⟨hc', hf', hk', hz⟩ := bucell hS; go_simp; first | done | rfl)); simp only [Act.put, List.setIfInBounds_toArray, List.set_cons_zero, List.set_cons_succ])
                  all_goals clear ho9
                  all_goals
                    refine c3_two ?_ ?_
                    rotate_right 1
                    focus
                      all_goals first | (refine c3_op ho11 rfl (fun K hK => ?_); (refine alloc_op ?_; intro w7 g15 e15 l15 x15 q15; have m15 : wr.heap.size ≤ g15 := (by have := hT.size; omega); have n15 : g15 ≠ gd := (by omega); (try have d14 : g14 ≠ g15 := (by have := q14.lt; omega)); replace hT := hT.trans (But.of x15); replace hd := hd.ext x15; (try replace q14 := q14.ext x15); clear e15 x15); all_goals ((with_reducible refine hK _ _ ?_); refine ⟨hT, ?_⟩; clear hK K; go_simp))
                      all_goals clear ho11
                      all_goals refine c3_one ?_
                      all_goals first | (refine c3_op ho10 rfl (fun K hK => ?_); (refine alloc_op ?_; intro w6 g14 e14 l14 x14 q14; have m14 : wr.heap.size ≤ g14 := (by have := hT.size; omega); have n14 : g14 ≠ gd := (by omega); (try have d14 : g14 ≠ g15 := (by have := q15.lt; omega)); replace hT := hT.trans (But.of x14); replace hd := hd.ext x14; (try replace q15 := q15.ext x14); clear e14 x14); all_goals ((with_reducible refine hK _ _ ?_); refine ⟨hT, ?_⟩; clear hK K; go_simp))
                      all_goals clear ho10
                      all_goals refine c3_one ?_
                      all_goals first | (refine c3_op ho12 rfl (fun K hK => ?_); (refine store_op q14 rfl rfl ?_; intro w9 b9 s9 q9; replace hT := hT.old b9 m14; replace hd := hd.but b9 (Ne.symm n14) (by omega); replace q15 := q15.but b9 (Ne.symm d14); replace q14 := q9; clear b9 s9 q9); all_goals ((with_reducible refine hK _ _ ?_); refine ⟨hT, ?_⟩; clear hK K; go_simp))
                      all_goals clear ho12
                      all_goals refine c3_one ?_
                      all_goals first | (refine c3_op ho13 rfl (fun K hK => ?_); (refine store_op q15 rfl rfl ?_; intro w10 b9 s9 q9; replace hT := hT.old b9 m15; replace hd := hd.but b9 (Ne.symm n15) (by omega); replace q14 := q14.but b9 d14; replace q15 := q9; clear b9 s9 q9); all_goals ((with_reducible refine hK _ _ ?_); refine ⟨hT, ?_⟩; clear hK K; go_simp))
                      all_goals clear ho13
                      all_goals refine c3_done (NoPanic.normal ?_)
                    rotate_right 1
                    focus
                      all_goals first | (refine c3_op ho10 rfl (fun K hK => ?_); (refine alloc_op ?_; intro w6 g14 e14 l14 x14 q14; have m14 : wr.heap.size ≤ g14 := (by have := hT.size; omega); have n14 : g14 ≠ gd := (by omega); (try have d14 : g14 ≠ g15 := (by have := q15.lt; omega)); replace hT := hT.trans (But.of x14); replace hd := hd.ext x14; (try replace q15 := q15.ext x14); clear e14 x14); all_goals ((with_reducible refine hK _ _ ?_); refine ⟨hT, ?_⟩; clear hK K; go_simp))
                      all_goals clear ho10
                      all_goals refine c3_one ?_
                      all_goals first | (refine c3_op ho11 rfl (fun K hK => ?_); (refine alloc_op ?_; intro w7 g15 e15 l15 x15 q15; have m15 : wr.heap.size ≤ g15 := (by have := hT.size; omega); have n15 : g15 ≠ gd := (by omega); (try have d14 : g14 ≠ g15 := (by have := q14.lt; omega)); replace hT := hT.trans (But.of x15); replace hd := hd.ext x15; (try replace q14 := q14.ext x15); clear e15 x15); all_goals ((with_reducible refine hK _ _ ?_); refine ⟨hT, ?_⟩; clear hK K; go_simp))
                      all_goals clear ho11
                      all_goals refine c3_one ?_
                      all_goals first | (refine c3_op ho12 rfl (fun K hK => ?_); (refine store_op q14 rfl rfl ?_; intro w9 b9 s9 q9; replace hT := hT.old b9 m14; replace hd := hd.but b9 (Ne.symm n14) (by omega); replace q15 := q15.but b9 (Ne.symm d14); replace q14 := q9; clear b9 s9 q9); all_goals ((with_reducible refine hK _ _ ?_); refine ⟨hT, ?_⟩; clear hK K; go_simp))
                      all_goals clear ho12
                      all_goals refine c3_one ?_
                      all_goals first | (refine c3_op ho13 rfl (fun K hK => ?_); (refine store_op q15 rfl rfl ?_; intro w10 b9 s9 q9; replace hT := hT.old b9 m15; replace hd := hd.but b9 (Ne.symm n15) (by omega); replace q14 := q14.but b9 d14; replace q15 := q9; clear b9 s9 q9); all_goals ((with_reducible refine hK _ _ ?_); refine ⟨hT, ?_⟩; clear hK K; go_simp))
                      all_goals clear ho13
                      all_goals refine c3_done (NoPanic.normal ?_)
          all_goals (refine hK1 _ _ (hJ1 _ _ ?_); (repeat apply Exists.intro); refine ⟨?_, rfl⟩; exact ⟨g14, g15, ka, kb, rfl, rfl, by omega, by omega, by rw [List.getD_eq_getElem?_getD]; exact q14, by rw [List.getD_eq_getElem?_getD]; exact q15, hd, hT, m14, m15⟩)
        · obtain rfl : j = 3 := by omega
          have hyl : ys.length = N := by rw [hK.1, hLN.out]
          have hrd := Lib.hid (fun W (h : IntsAt W (some ⟨bx, ox, none⟩) ys) => iReadFormat_c n n (some ⟨bx, ox, none⟩) k4 ys W h (by omega))
          rw [hK.read hu (Nat.le_refl 3) hn hn4, hyl] at hrd
          simp only at hrd
          have q0 := hq.cell (i := 0) (v := .int .i64 n) rfl; have q1 := hq.cell (i := 1) (v := .int .i64 n) rfl; have q2 := hq.cell (i := 2) (v := .slice (some ⟨bx, ox, none⟩) N k4) rfl; have ql := hq.lt
          replace hyl := Lib.hid hyl
          clear hK hlt hj
          go_wp2_with (go_at_call 14; (with_reducible refine (hrd.out _ ow.ints).mono ?_); rintro e w9 ⟨rfl, hx9⟩)
          go_ret
          exact ⟨rfl, hxt.trans hx9⟩
    · have hcd2 : (cd != 0) = true := by simpa using hcd
      go_wp2
      go_ret
      exact ⟨rfl, hxw⟩
  · have hbig : 4096 < code.length := by omega
    go_enter Try.func3, Try.ntmps3
    go_wp2_with (go_at_call 6; (with_reducible refine (big_c _ _ _ _ hl).mono ?_); rintro e w1 ⟨⟨hP, rfl⟩ | ⟨hP, rfl⟩, rfl⟩ <;> first | (exfalso; omega) | skip)
    go_ret
    exact ⟨rfl, Ext.refl _⟩
end Go.Proofs.Ythjklchmjeojjaa
