/- Field sizes and widths, numbers of data cells, on both sides. -/
import Derived.Test.YtdnkljpnhmcnpaaGreatLBoundedDamageK20
import Derived.Test.YtdnkljpnhmcnpaaGreatLBoundedDamageK23
set_option linter.unusedVariables false
set_option linter.unusedSimpArgs false
namespace Go.Proofs.YtdnkljpnhmcnpaaGreat
open Go.RowKit

theorem iFieldSize_c (p k q : Int) (hf : fldOK p k q) (w : World) : Calls Tryz.prog 176 #[vFld p k q] w fun e w' => e = .returned (.int .i64 (fldSize p k)) ∧ Ext w w' := by
 have hx0 : Ext w (w.alloc (.cells #[.int .i64 p, .int .i64 k, .int .i64 q] 53)) := (Ext.refl w).alloc _
 have hca := Lib.hid (fun W => calcOK_c p k q (fldSize p k) hf rfl W)
 generalize fldSize p k = Z at *
 clear hf
 go_enter Tryz.func176, Tryz.ntmps176
 go_wp2_with (go_at_call 185; (with_reducible refine (hca.out _).mono ?_); rintro e w2 ⟨⟨g, bb, rfl, hcb⟩, hx2⟩; have z1 := hcb.sizeCell; have zg : g < w2.heap.size := (by obtain ⟨cs, hh, -⟩ := hcb; exact hh.lt))
 go_ret
 exact ⟨rfl, hx0.trans hx2⟩
theorem iFieldWidth_c (p k q : Int) (hf : fldOK p k q) (w : World) : Calls Tryz.prog 128 #[vFld p k q] w fun e w' => e = .returned (.int .i64 (fW (fldSize p k))) ∧ Ext w w' := by
 have hx0 : Ext w (w.alloc (.cells #[.int .i64 p, .int .i64 k, .int .i64 q] 53)) := (Ext.refl w).alloc _
 have hca := Lib.hid (fun W => calcOK_c p k q (fldSize p k) hf rfl W)
 have hzb := fldOK_szbd hf
 generalize fldSize p k = Z at *
 clear hf
 go_enter Tryz.func128, Tryz.ntmps128
 go_wp2_with (first
  | (go_at_call 185; (with_reducible refine (hca.out _).mono ?_); rintro e w2 ⟨⟨g, bb, rfl, hcb⟩, hx2⟩)
  | (go_at_call 186; (with_reducible refine (width_c g Z _ hcb.sizeCell hzb).mono ?_); rintro e w3 ⟨rfl, hx3⟩))
 go_ret
 exact ⟨rfl, (hx0.trans hx2).trans hx3⟩
set_option maxRecDepth 100000 in
theorem iDataCount_c (n : Nat) (w : World) (hn : 17 ≤ n ∧ n ≤ 41) (h4 : n % 4 = 1) : Calls Tryz.prog 212 #[.int .i64 n] w fun e w' => e = .returned (.int .i64 ((dpL n).length : Int)) ∧ Ext w w' := by
 have hsz := Lib.hid (fun W => iSize_c n W)
 have hok : sizOK n := ⟨by omega, by omega⟩
 replace hok := Lib.hid hok
 have hpl := Lib.hid (fun W => iPlaces_c n W hn h4)
 go_enter Tryz.func212, Tryz.ntmps212
 go_wp2_with (first
  | (go_at_call 81; (with_reducible refine (hsz.out _).mono ?_); rintro e w1 ⟨⟨hP, rfl⟩ | ⟨hP, rfl⟩, rfl⟩ <;> (first | exact absurd hok.out hP | skip))
  | (go_at_call 156; (with_reducible refine (hpl.out _).mono ?_); rintro e w4 ⟨⟨va, rfl, hra⟩, hx4⟩; obtain ⟨pa, ca, rfl, -, -⟩ := hra.nfree plF_len))
 go_ret
 exact ⟨rfl, hx4⟩
set_option maxHeartbeats 800000 in
set_option maxRecDepth 100000 in
theorem sCount_c (n : Nat) (w : World) (hn : 17 ≤ n ∧ n ≤ 41) (h4 : n % 4 = 1) : Calls Tryz.prog 43 #[.int .i64 n] w fun e w' => e = .returned (.int .i64 ((dpL n).length : Int)) ∧ Ext w w' := by
 have hsg := Lib.hid (fun W => sGrid_c n W hn)
 have hct := Lib.hid (dpL_count hn h4)
 have hfl := Lib.hid (fixL_len n)
 have hcs := Lib.hid (fun i (hi : i < n * n) => cntN_s hi (by omega))
 have hcl := Lib.hid (cntN_le n)
 have hNN : n * n ≤ 1681 := Nat.mul_le_mul hn.2 hn.2
 go_enter Tryz.func43, Tryz.ntmps43
 go_wp2_with (go_at_call 90; (with_reducible refine (hsg.out _).mono ?_); rintro e w1 ⟨⟨p1, k1, rfl, ow1, hk1⟩, hx1⟩)
 have hb := Blk.new w1 #[.int .i64 n, .int .i64 n, .slice p1 (fixL n).length k1] 28
 have hx := hx1.alloc (.cells #[.int .i64 n, .int .i64 n, .slice p1 (fixL n).length k1] 28)
 have hi := Lib.hid (ow1.ints.ext ((Ext.refl w1).alloc (.cells #[.int .i64 n, .int .i64 n, .slice p1 (fixL n).length k1] 28)))
 generalize w1.alloc (.cells #[.int .i64 n, .int .i64 n, .slice p1 (fixL n).length k1] 28) = w2 at *
 generalize w1.heap.size = g at *
 have f2 := hb.cell (i := 2) (v := .slice p1 (fixL n).length k1) rfl; have fl := hb.lt
 go_loop [4, 5] (fun o i => ∃ j : Nat, j ≤ n * n ∧ i = .int .i64 j ∧ o = .int .i64 (-30 + (cntN n j : Int))) (fun _ i => n * n - (intOf i).toNat)
 case atStart => exact ⟨0, Nat.zero_le _, rfl, rfl⟩
 case round =>
  obtain ⟨j, hj, rfl, rfl⟩ := hrel
  by_cases hlt : j < n * n
  ·have hs := hcs.out j hlt
   have hcb := hcl.out j
   have hjl : (j : Int) < (fixL n).length := by rw [hfl.out]; omega
   have hjl2 : j < (fixL n).length := by rw [hfl.out]; exact hlt
   obtain ⟨b, o, rfl, hbl, y1⟩ := hi.out j hjl2
   generalize (fixL n).getD j 0 = x at *
   generalize cntN n j = c at *
   by_cases hx : x < 0
   ·rw [if_pos hx] at hs
    replace hs := Lib.hid hs
    go_wp2
    go_round
    case rel => exact ⟨j + 1, hlt, by go_num, by rw [hs.out]; exact congrArg (Value.int .i64) (by omega)⟩
    case measure => simp [intOf]; omega
   ·rw [if_neg hx, Nat.add_zero] at hs
    replace hs := Lib.hid hs
    go_wp2
    go_round
    case rel => exact ⟨j + 1, hlt, by go_num, by rw [hs.out]; rfl⟩
    case measure => simp [intOf]; omega
  ·obtain rfl : j = n * n := by omega
   have hjl : ¬ ((n * n : Nat) : Int) < (fixL n).length := by rw [hfl.out]; omega
   go_wp2
   go_ret
   exact ⟨ret_int (by have := hct.out; omega), hx⟩
open Go.RowKit

theorem iElements2_c (nm : ByteArray) (p k q co : Int) (ps pl : Option Addr) (ns cs nl cl : Nat) (size : Int) (w : World) (hs : 0 ≤ size ∧ size ≤ 100) (hc : 0 ≤ co ∧ co ≤ 100) :
  Calls Tryz.prog 175 #[vFam nm 2 p k q ps ns cs co pl nl cl, .int .i64 size] w fun e w' => e = .returned (.int .i64 (size * co)) ∧ Ext w w' := by
 have h1 : 0 ≤ size * co := Int.mul_nonneg hs.1 hc.1
 have h2 : size * co ≤ 100 * 100 := Int.mul_le_mul hs.2 hc.2 hc.1 (by omega)
 have hx0 : Ext w (w.alloc (.cells #[.string nm, .int .i64 2, .int .i64 p, .int .i64 k, .int .i64 q, .slice ps ns cs, .int .i64 co, .slice pl nl cl] 55)) := (Ext.refl w).alloc _
 go_enter Tryz.func175, Tryz.ntmps175
 go_wp2
 go_ret
 exact ⟨rfl, hx0⟩
set_option maxHeartbeats 800000 in
set_option maxRecDepth 100000 in
theorem iElements1_c (nm : ByteArray) (p k q co : Int) (ps pl : Option Addr) (ns cs nl cl n : Nat) (w : World) (hn : 17 ≤ n ∧ n ≤ 41) (h4 : n % 4 = 1) (hf : fldOK p k q) :
  Calls Tryz.prog 175 #[vFam nm 1 p k q ps ns cs co pl nl cl, .int .i64 n] w fun e w' => e = .returned (.int .i64 (((dpL n).length : Int) / (fW (fldSize p k) : Int))) ∧ Ext w w' := by
 have hbx := Blk.new w #[.string nm, .int .i64 1, .int .i64 p, .int .i64 k, .int .i64 q, .slice ps ns cs, .int .i64 co, .slice pl nl cl] 55
 have hx0 : Ext w (w.alloc (.cells #[.string nm, .int .i64 1, .int .i64 p, .int .i64 k, .int .i64 q, .slice ps ns cs, .int .i64 co, .slice pl nl cl] 55)) := (Ext.refl w).alloc _
 have hdc := Lib.hid (fun W => iDataCount_c n W hn h4)
 have hfw := Lib.hid (fun W => iFieldWidth_c p k q hf W)
 have hwb := fW_bd (fldOK_szbd hf)
 have hdl := dpL_len (n := n) hn.2
 generalize (dpL n).length = D at *
 generalize fW (fldSize p k) = V at *
 have hv1 : 1 ≤ V := hwb.1
 clear hwb hf
 have hq0 : (0 : Int) ≤ (D : Int) / (V : Int) := Int.ediv_nonneg (by omega) (by omega)
 have hq1 : (D : Int) / (V : Int) ≤ D := Int.ediv_le_self _ (by omega)
 have hv0 : ¬ V = 0 := by omega
 have e1 : IntKind.i64.wrap ((D : Int) / (V : Int)) = (D : Int) / (V : Int) := IntWalk.i64_in _ (by omega)
 have c1 := hbx.cell (i := 1) (v := .int .i64 1) rfl; have c2 := hbx.cell (i := 2) (v := .int .i64 p) rfl; have c3 := hbx.cell (i := 3) (v := .int .i64 k) rfl; have c4 := hbx.cell (i := 4) (v := .int .i64 q) rfl; have cL := hbx.lt
 go_enter Tryz.func175, Tryz.ntmps175
 go_upto_region 3 with (fail)
 generalize w.alloc (.cells #[.string nm, .int .i64 1, .int .i64 p, .int .i64 k, .int .i64 q, .slice ps ns cs, .int .i64 co, .slice pl nl cl] 55) = w0 at *
 refine wp_region_canon (fun w' => Ext w0 w') [(0, true), (2, true), (3, true), (1, false), (4, false), (5, true), (6, true)] (by kernel_rfl) (by kernel_rfl) (by decide) (by kernel_rfl) ?_ ?_
 ·exact eX
 refine canon_intro fun ops eo => ?_
 replace eo := canon_eo eo
 iterate 3 all_goals (refine cS eo rfl rfl evE ?_; simp only [ptN])
 all_goals first | (refine canon_ef (eo.out 1 rfl) rfl (fun K hK => ?_); go_simp; ((go_at_call 212; (with_reducible refine (hdc.out _).mono ?_); rintro e w2 ⟨rfl, hx2⟩)); all_goals (refine hK _ _ ⟨eX, ?_⟩; clear hK K; go_simp)) | (refine canon_ef (eo.out 1 rfl) rfl (fun K hK => ?_); go_simp; ((go_at_call 128; (with_reducible refine (hfw.out _).mono ?_); rintro e w3 ⟨rfl, hx3⟩)); all_goals (refine hK _ _ ⟨eX, ?_⟩; clear hK K; go_simp))
 all_goals first | (refine canon_ef (eo.out 4 rfl) rfl (fun K hK => ?_); go_simp; ((go_at_call 212; (with_reducible refine (hdc.out _).mono ?_); rintro e w2 ⟨rfl, hx2⟩)); all_goals (refine hK _ _ ⟨eX, ?_⟩; clear hK K; go_simp)) | (refine canon_ef (eo.out 4 rfl) rfl (fun K hK => ?_); go_simp; ((go_at_call 128; (with_reducible refine (hfw.out _).mono ?_); rintro e w3 ⟨rfl, hx3⟩)); all_goals (refine hK _ _ ⟨eX, ?_⟩; clear hK K; go_simp))
 iterate 2 all_goals (refine cS eo rfl rfl evE ?_; simp only [ptN])
 all_goals (clear eo; refine canon_done (NoPanic.normal ?_))
 go_wp2
 go_ret
 exact ⟨rfl, hx0.trans eX⟩
theorem iHasLevel_c (nm : ByteArray) (K p k q co : Int) (ps pl : Option Addr) (ns cs nl cl : Nat) (lv : Int) (w : World) (hl : nl ≤ 1048576) :
  Calls Tryz.prog 122 #[vFam nm K p k q ps ns cs co pl nl cl, .int .i64 lv] w fun e w' => isB e (0 ≤ lv ∧ lv ≤ (nl : Int) - 1) ∧ Ext w w' := by
 have hx0 : Ext w (w.alloc (.cells #[.string nm, .int .i64 K, .int .i64 p, .int .i64 k, .int .i64 q, .slice ps ns cs, .int .i64 co, .slice pl nl cl] 55)) := (Ext.refl w).alloc _
 go_enter Tryz.func122, Tryz.ntmps122
 go_wp2_with (go_at_call 35; (with_reducible refine (inRange_c _ _ _ _).mono ?_); rintro e w1' ⟨⟨hP', rfl⟩ | ⟨hP', rfl⟩, rfl⟩)
 ·go_ret
  exact ⟨isB_t hP', hx0⟩
 ·go_ret
  exact ⟨isB_f hP', hx0⟩
def cntV (Z e : Int) : Int := (e + min (Z - 1) 255 - 1) / min (Z - 1) 255
def chkV (Z e x : Int) : Int := max 2 (min 64 (e * x / 100 / cntV Z e))
theorem cntV_bd {Z e : Int} (hZ : 3 ≤ Z ∧ Z ≤ 1021) (he : 1 ≤ e ∧ e ≤ 10000) : 1 ≤ cntV Z e ∧ cntV Z e ≤ 10300 := by
 have hm : 2 ≤ min (Z - 1) 255 ∧ min (Z - 1) 255 ≤ 255 := by omega
 unfold cntV
 generalize min (Z - 1) 255 = m at *
 exact ⟨(Int.le_ediv_iff_mul_le (by omega)).2 (by omega), by have := Int.ediv_le_self (a := e + m - 1) m (by omega); omega⟩
theorem chkV_bd (Z e x : Int) : 2 ≤ chkV Z e x ∧ chkV Z e x ≤ 64 := by unfold chkV; omega
set_option maxHeartbeats 800000 in
set_option maxRecDepth 100000 in
theorem iLayout_c (nm : ByteArray) (K p k q co : Int) (ps pl : Option Addr) (ns cs cl l : Nat) (ls : List Int) (size e : Int) (w : World) (hlv : IntsAt w pl ls) (hl : l < ls.length) (hll : ls.length ≤ 1048576) (hx : 1 ≤ ls.getD l 0 ∧ ls.getD l 0 ≤ 80) (hf : fldOK p k q) (hev : 1 ≤ e ∧ e ≤ 10000)
  (he : ∀ W, Calls Tryz.prog 175 #[vFam nm K p k q ps ns cs co pl ls.length cl, .int .i64 size] W fun r w' => r = .returned (.int .i64 e) ∧ Ext W w') :
  Calls Tryz.prog 123 #[vFam nm K p k q ps ns cs co pl ls.length cl, .int .i64 size, .int .i64 l] w fun r w' => r = .returned (vLay p k q (e - cntV (fldSize p k) e * chkV (fldSize p k) e (ls.getD l 0)) (chkV (fldSize p k) e (ls.getD l 0)) (cntV (fldSize p k) e)) ∧ Ext w w' := by
 have HLV := Lib.hid hlv; clear hlv
 replace he := Lib.hid he
 have hbx := (Blk.new w #[.string nm, .int .i64 K, .int .i64 p, .int .i64 k, .int .i64 q, .slice ps ns cs, .int .i64 co, .slice pl ls.length cl] 55).alloc (.cells #[.int .i64 0, .int .i64 0, .int .i64 0, .int .i64 0, .int .i64 0, .int .i64 0] 95)
 have h0 := Blk.new (w.alloc (.cells #[.string nm, .int .i64 K, .int .i64 p, .int .i64 k, .int .i64 q, .slice ps ns cs, .int .i64 co, .slice pl ls.length cl] 55)) #[.int .i64 0, .int .i64 0, .int .i64 0, .int .i64 0, .int .i64 0, .int .i64 0] 95
 have hx0 : Ext w ((w.alloc (.cells #[.string nm, .int .i64 K, .int .i64 p, .int .i64 k, .int .i64 q, .slice ps ns cs, .int .i64 co, .slice pl ls.length cl] 55)).alloc (.cells #[.int .i64 0, .int .i64 0, .int .i64 0, .int .i64 0, .int .i64 0, .int .i64 0] 95)) := ((Ext.refl w).alloc _).alloc _
 simp only [World.size_alloc] at h0
 have hfs := Lib.hid (fun W => iFieldSize_c p k q hf W)
 have hzb := fldOK_szbd hf
 go_enter Tryz.func123, Tryz.ntmps123
 go_upto_region 4 with (first
  | (go_at_call 175; (with_reducible refine (he.out _).mono ?_); rintro e2 w2 ⟨rfl, hx2⟩; have hb2 := hbx.ext hx2; have a2 := hb2.cell (i := 2) (v := .int .i64 p) rfl; have a3 := hb2.cell (i := 3) (v := .int .i64 k) rfl; have a4 := hb2.cell (i := 4) (v := .int .i64 q) rfl; have aL := hb2.lt)
  | (go_at_call 176; (with_reducible refine (hfs.out _).mono ?_); rintro e3 w3 ⟨rfl, hx3⟩))
 have hcb := cntV_bd hzb hev
 have hkb := chkV_bd (fldSize p k) e (ls.getD l 0)
 have hkd : max 2 (min 64 (e * ls.getD l 0 / 100 / cntV (fldSize p k) e)) = chkV (fldSize p k) e (ls.getD l 0) := rfl
 rw [show (e + min (fldSize p k - 1) 255 - 1) / min (fldSize p k - 1) 255 = cntV (fldSize p k) e from rfl]
 generalize hH : chkV (fldSize p k) e (ls.getD l 0) = H at *
 generalize hN : cntV (fldSize p k) e = N at *
 replace hH := Lib.hid hH; replace hN := Lib.hid hN
 have hb3 := hbx.ext (hx2.trans hx3)
 obtain ⟨b, o, rfl, hbl, y1⟩ := (HLV.out.ext (((((Ext.refl w).alloc _).alloc _).trans hx2).trans hx3)) l hl
 generalize hX : ls.getD l 0 = x at *
 replace hX := Lib.hid hX
 have p1 : 0 ≤ e * x := Int.mul_nonneg (by omega) (by omega)
 have p2 : e * x ≤ 10000 * 80 := Int.mul_le_mul hev.2 hx.2 (by omega) (by omega)
 have p3 : 0 ≤ N * H := Int.mul_nonneg (by omega) (by omega)
 have p4 : N * H ≤ 10300 * 64 := Int.mul_le_mul hcb.2 hkb.2 (by omega) (by omega)
 have d2 := hb3.cell (i := 2) (v := .int .i64 p) rfl; have d3 := hb3.cell (i := 3) (v := .int .i64 k) rfl; have d4 := hb3.cell (i := 4) (v := .int .i64 q) rfl; have d7 := hb3.cell (i := 7) (v := .slice (some ⟨b, o, none⟩) ls.length cl) rfl; have dL := hb3.lt
 have hli : (l : Int) < ls.length := by omega
 have hn0 : ¬ N = 0 := by omega
 clear a2 a3 a4 aL
 have h3 := (h0.ext hx2).ext hx3
 obtain ⟨z0, z1, z2, z3, z4, z5⟩ := h3.c6; have zl := h3.lt; have zf := h3.free
 go_wp2_with fail
 have hF := ((((((h3.set 0 (.int .i64 p)).set 1 (.int .i64 k)).set 2 (.int .i64 q)).set 3 (.int .i64 (e - N * H))).set 4 (.int .i64 H)).set 5 (.int .i64 N))
 obtain ⟨c0, c1, c2, c3, c4, c5⟩ := hF.c6
 have hx9 := (((((((hx0.trans hx2).trans hx3).setCell (p := ⟨w.heap.size + 1, 0, none⟩) (Nat.le_succ _) (.int .i64 p)).setCell (p := ⟨w.heap.size + 1, 1, none⟩) (Nat.le_succ _) (.int .i64 k)).setCell (p := ⟨w.heap.size + 1, 2, none⟩) (Nat.le_succ _) (.int .i64 q)).setCell (p := ⟨w.heap.size + 1, 3, none⟩) (Nat.le_succ _) (.int .i64 (e - N * H))).setCell (p := ⟨w.heap.size + 1, 4, none⟩) (Nat.le_succ _) (.int .i64 H)).setCell (p := ⟨w.heap.size + 1, 5, none⟩) (Nat.le_succ _) (.int .i64 N)
 clear z0 z1 z2 z3 z4 z5 zl zf d2 d3 d4 d7 dL y1
 exact bodyPost_ret (v := vLay p k q (e - N * H) H N) (by simp [results, Tryz.results123, go_sem, c0, c1, c2, c3, c4, c5]) rfl ⟨by rw [hX.out, hH.out, hN.out], hx9⟩
open Go.RowKit

theorem lenD_17 : 20 ≤ lenD 17 (cnt 17) := by decide +kernel
theorem lenD_21 : 20 ≤ lenD 21 (cnt 21) := by decide +kernel
theorem lenD_25 : 20 ≤ lenD 25 (cnt 25) := by decide +kernel
theorem lenD_29 : 20 ≤ lenD 29 (cnt 29) := by decide +kernel
theorem lenD_33 : 20 ≤ lenD 33 (cnt 33) := by decide +kernel
theorem lenD_37 : 20 ≤ lenD 37 (cnt 37) := by decide +kernel
theorem lenD_41 : 20 ≤ lenD 41 (cnt 41) := by decide +kernel
theorem dpL_ge {n : Nat} (hn : 17 ≤ n ∧ n ≤ 41) (h4 : n % 4 = 1) : 20 ≤ (dpL n).length := by
 unfold dpL
 rw [dpTo_lenE hn h4 _ (Nat.le_refl _)]
 have h : n = 17 ∨ n = 21 ∨ n = 25 ∨ n = 29 ∨ n = 33 ∨ n = 37 ∨ n = 41 := by omega
 rcases h with rfl | rfl | rfl | rfl | rfl | rfl | rfl
 ·exact lenD_17
 ·exact lenD_21
 ·exact lenD_25
 ·exact lenD_29
 ·exact lenD_33
 ·exact lenD_37
 ·exact lenD_41
def elV (K p k co n : Int) : Int := if K = 2 then n * co else ((dpL n.toNat).length : Int) / (fW (fldSize p k) : Int)
theorem elV1 (p k co : Int) (n : Nat) : elV 1 p k co n = ((dpL n).length : Int) / (fW (fldSize p k) : Int) := by
 unfold elV
 rw [if_neg (by decide), Int.toNat_natCast]
theorem elV2 (p k co n : Int) : elV 2 p k co n = n * co := if_pos rfl
theorem fam_fld {nm : ByteArray} {K p k q co : Int} {ss ls : List Int} (h : famOK nm K p k q ss co ls) : fldOK p k q := by
 rcases h.2.2.2.2 with ⟨_, _, e, _⟩ | ⟨_, ⟨rfl, rfl, rfl⟩, _⟩
 ·exact e
 ·exact fld32_yes
theorem fam_size {nm : ByteArray} {K p k q co : Int} {ss ls : List Int} (h : famOK nm K p k q ss co ls) {i : Nat} (hi : i < ss.length) :
  (K = 1 ∧ sizOK (ss.getD i 0)) ∨ (K = 2 ∧ (3 ≤ ss.getD i 0 ∧ ss.getD i 0 ≤ 24) ∧ (1 ≤ co ∧ co ≤ 8)) := by
 rcases h.2.2.2.2 with ⟨e, _, _, _, _, hs⟩ | ⟨e, _, hc, hr⟩
 ·exact .inl ⟨e, hs i hi⟩
 ·exact .inr ⟨e, (hr i hi).1, hc⟩
theorem elV_bd {K p k q co n : Int} (hf : fldOK p k q) (h : (K = 1 ∧ sizOK n) ∨ (K = 2 ∧ (3 ≤ n ∧ n ≤ 24) ∧ (1 ≤ co ∧ co ≤ 8))) : 1 ≤ elV K p k co n ∧ elV K p k co n ≤ 1681 := by
 rcases h with ⟨rfl, hs⟩ | ⟨rfl, hn, hc⟩
 ·obtain ⟨m, rfl⟩ : ∃ m : Nat, n = m := ⟨n.toNat, by have := hs.1; omega⟩
  have h1 : 17 ≤ m ∧ m ≤ 41 := by have := hs.1; omega
  have h2 : m % 4 = 1 := by have := hs.2; omega
  have hg := dpL_ge h1 h2
  have hl := dpL_len (n := m) h1.2
  have hw := fW_bd (fldOK_szbd hf)
  rw [elV1]
  generalize (dpL m).length = D at *
  generalize fW (fldSize p k) = V at *
  exact ⟨(Int.le_ediv_iff_mul_le (by omega)).2 (by omega), by have := Int.ediv_le_self (a := (D : Int)) (V : Int) (by omega); omega⟩
 ·rw [elV2]
  have h1 : 3 * 1 ≤ n * co := Int.mul_le_mul hn.1 hc.1 (by omega) (by omega)
  have h2 : n * co ≤ 24 * 8 := Int.mul_le_mul hn.2 hc.2 (by omega) (by omega)
  omega
theorem cntV_half {Z e : Int} (hZ : 3 ≤ Z ∧ Z ≤ 1021) (he : 1 ≤ e ∧ e ≤ 1681) : 1 ≤ cntV Z e ∧ cntV Z e ≤ 841 := by
 have hm : 2 ≤ min (Z - 1) 255 ∧ min (Z - 1) 255 ≤ 255 := by omega
 refine ⟨(cntV_bd hZ ⟨he.1, by omega⟩).1, ?_⟩
 unfold cntV
 generalize min (Z - 1) 255 = m at *
 have h2 : (e + m - 1) / m * m ≤ e + m - 1 := Int.ediv_mul_le _ (by omega)
 generalize (e + m - 1) / m = y at *
 refine Int.not_lt.1 fun hy => ?_
 have h3 : 841 * m ≤ (y - 1) * m := Int.mul_le_mul_of_nonneg_right (by omega) (by omega)
 rw [Int.sub_mul] at h3
 omega
def lyN (K p k co n : Int) : Int := cntV (fldSize p k) (elV K p k co n)
def lyC (K p k co n x : Int) : Int := chkV (fldSize p k) (elV K p k co n) x
def lyD (K p k co n x : Int) : Int := elV K p k co n - lyN K p k co n * lyC K p k co n x
theorem ly_bd {K p k q co n x : Int} (hf : fldOK p k q) (h : (K = 1 ∧ sizOK n) ∨ (K = 2 ∧ (3 ≤ n ∧ n ≤ 24) ∧ (1 ≤ co ∧ co ≤ 8))) :
  (-100000 ≤ lyD K p k co n x ∧ lyD K p k co n x ≤ 100000) ∧ (-100000 ≤ lyN K p k co n ∧ lyN K p k co n ≤ 100000) ∧ (-100000 ≤ lyC K p k co n x ∧ lyC K p k co n x ≤ 100000) := by
 have he := elV_bd (co := co) hf h
 have hN := cntV_half (fldOK_szbd hf) he
 have hC := chkV_bd (fldSize p k) (elV K p k co n) x
 have h1 : 0 ≤ lyN K p k co n * lyC K p k co n x := Int.mul_nonneg (by unfold lyN; omega) (by unfold lyC; omega)
 have h2 : lyN K p k co n * lyC K p k co n x ≤ 841 * 64 := Int.mul_le_mul (by unfold lyN; omega) (by unfold lyC; omega) (by unfold lyC; omega) (by omega)
 refine ⟨by unfold lyD; omega, by unfold lyN; omega, by unfold lyC; omega⟩
theorem iEl_c (nm : ByteArray) (K p k q co : Int) (ps pl : Option Addr) (ns cs nl cl : Nat) (n : Int) (w : World) (hf : fldOK p k q) (h : (K = 1 ∧ sizOK n) ∨ (K = 2 ∧ (3 ≤ n ∧ n ≤ 24) ∧ (1 ≤ co ∧ co ≤ 8))) :
  Calls Tryz.prog 175 #[vFam nm K p k q ps ns cs co pl nl cl, .int .i64 n] w fun e w' => e = .returned (.int .i64 (elV K p k co n)) ∧ Ext w w' := by
 rcases h with ⟨rfl, hs⟩ | ⟨rfl, hn, hc⟩
 ·obtain ⟨m, rfl⟩ : ∃ m : Nat, n = m := ⟨n.toNat, by have := hs.1; omega⟩
  rw [elV1]
  exact iElements1_c nm p k q co ps pl ns cs nl cl m w (by have := hs.1; omega) (by have := hs.2; omega) hf
 ·rw [elV2]
  exact iElements2_c nm p k q co ps pl ns cs nl cl n w (by omega) (by omega)
theorem iLay_c (nm : ByteArray) (K p k q co : Int) (ps pl : Option Addr) (ns cs cl l : Nat) (ls : List Int) (n : Int) (w : World) (hlv : IntsAt w pl ls) (hl : l < ls.length) (hll : ls.length ≤ 1048576) (hx : 1 ≤ ls.getD l 0 ∧ ls.getD l 0 ≤ 80) (hf : fldOK p k q) (h : (K = 1 ∧ sizOK n) ∨ (K = 2 ∧ (3 ≤ n ∧ n ≤ 24) ∧ (1 ≤ co ∧ co ≤ 8))) :
  Calls Tryz.prog 123 #[vFam nm K p k q ps ns cs co pl ls.length cl, .int .i64 n, .int .i64 l] w fun r w' => r = .returned (vLay p k q (lyD K p k co n (ls.getD l 0)) (lyC K p k co n (ls.getD l 0)) (lyN K p k co n)) ∧ Ext w w' :=
 iLayout_c nm K p k q co ps pl ns cs cl l ls n (elV K p k co n) w hlv hl hll hx hf ⟨(elV_bd hf h).1, by have := (elV_bd (co := co) hf h).2; omega⟩ (fun W => iEl_c nm K p k q co ps pl ns cs ls.length cl n W hf h)
theorem sElements2_c (nm : ByteArray) (p k q co : Int) (ps pl : Option Addr) (ns cs nl cl : Nat) (size : Int) (w : World) (hs : 0 ≤ size ∧ size ≤ 100) (hc : 0 ≤ co ∧ co ≤ 100) :
  Calls Tryz.prog 161 #[vFam nm 2 p k q ps ns cs co pl nl cl, .int .i64 size] w fun e w' => e = .returned (.int .i64 (size * co)) ∧ Ext w w' := by
 have h1 : 0 ≤ size * co := Int.mul_nonneg hs.1 hc.1
 have h2 : size * co ≤ 100 * 100 := Int.mul_le_mul hs.2 hc.2 hc.1 (by omega)
 have hx0 : Ext w (w.alloc (.cells #[.string nm, .int .i64 2, .int .i64 p, .int .i64 k, .int .i64 q, .slice ps ns cs, .int .i64 co, .slice pl nl cl] 55)) := (Ext.refl w).alloc _
 go_enter Tryz.func161, Tryz.ntmps161
 go_wp2
 go_ret
 exact ⟨rfl, hx0⟩
set_option maxHeartbeats 800000 in
set_option maxRecDepth 100000 in
theorem sElements1_c (nm : ByteArray) (p k q co : Int) (ps pl : Option Addr) (ns cs nl cl n : Nat) (w : World) (hn : 17 ≤ n ∧ n ≤ 41) (h4 : n % 4 = 1) (hf : fldOK p k q) :
  Calls Tryz.prog 161 #[vFam nm 1 p k q ps ns cs co pl nl cl, .int .i64 n] w fun e w' => e = .returned (.int .i64 (((dpL n).length : Int) / (fW (fldSize p k) : Int))) ∧ Ext w w' := by
 have hbx := Blk.new w #[.string nm, .int .i64 1, .int .i64 p, .int .i64 k, .int .i64 q, .slice ps ns cs, .int .i64 co, .slice pl nl cl] 55
 have hx0 : Ext w (w.alloc (.cells #[.string nm, .int .i64 1, .int .i64 p, .int .i64 k, .int .i64 q, .slice ps ns cs, .int .i64 co, .slice pl nl cl] 55)) := (Ext.refl w).alloc _
 have hdc := Lib.hid (fun W => sCount_c n W hn h4)
 have hfw := Lib.hid (fun W => l11Width_c p k q W hf)
 have hwb := fW_bd (fldOK_szbd hf)
 have hdl := dpL_len (n := n) hn.2
 generalize (dpL n).length = D at *
 generalize fW (fldSize p k) = V at *
 have hv1 : 1 ≤ V := hwb.1
 clear hwb hf
 have hq0 : (0 : Int) ≤ (D : Int) / (V : Int) := Int.ediv_nonneg (by omega) (by omega)
 have hq1 : (D : Int) / (V : Int) ≤ D := Int.ediv_le_self _ (by omega)
 have hv0 : ¬ V = 0 := by omega
 have e1 : IntKind.i64.wrap ((D : Int) / (V : Int)) = (D : Int) / (V : Int) := IntWalk.i64_in _ (by omega)
 have c1 := hbx.cell (i := 1) (v := .int .i64 1) rfl; have c2 := hbx.cell (i := 2) (v := .int .i64 p) rfl; have c3 := hbx.cell (i := 3) (v := .int .i64 k) rfl; have c4 := hbx.cell (i := 4) (v := .int .i64 q) rfl; have cL := hbx.lt
 go_enter Tryz.func161, Tryz.ntmps161
 go_upto_region 3 with (fail)
 generalize w.alloc (.cells #[.string nm, .int .i64 1, .int .i64 p, .int .i64 k, .int .i64 q, .slice ps ns cs, .int .i64 co, .slice pl nl cl] 55) = w0 at *
 refine wp_region_canon (fun w' => Ext w0 w') [(0, true), (2, true), (3, true), (1, false), (4, false), (5, true), (6, true)] (by kernel_rfl) (by kernel_rfl) (by decide) (by kernel_rfl) ?_ ?_
 ·exact eX
 refine canon_intro fun ops eo => ?_
 replace eo := canon_eo eo
 iterate 3 all_goals (refine cS eo rfl rfl evE ?_; simp only [ptN])
 all_goals first | (refine canon_ef (eo.out 1 rfl) rfl (fun K hK => ?_); go_simp; ((go_at_call 43; (with_reducible refine (hdc.out _).mono ?_); rintro e w2 ⟨rfl, hx2⟩)); all_goals (refine hK _ _ ⟨eX, ?_⟩; clear hK K; go_simp)) | (refine canon_ef (eo.out 1 rfl) rfl (fun K hK => ?_); go_simp; ((go_at_call 118; (with_reducible refine (hfw.out _).mono ?_); rintro e w3 ⟨rfl, hx3⟩)); all_goals (refine hK _ _ ⟨eX, ?_⟩; clear hK K; go_simp))
 all_goals first | (refine canon_ef (eo.out 4 rfl) rfl (fun K hK => ?_); go_simp; ((go_at_call 43; (with_reducible refine (hdc.out _).mono ?_); rintro e w2 ⟨rfl, hx2⟩)); all_goals (refine hK _ _ ⟨eX, ?_⟩; clear hK K; go_simp)) | (refine canon_ef (eo.out 4 rfl) rfl (fun K hK => ?_); go_simp; ((go_at_call 118; (with_reducible refine (hfw.out _).mono ?_); rintro e w3 ⟨rfl, hx3⟩)); all_goals (refine hK _ _ ⟨eX, ?_⟩; clear hK K; go_simp))
 iterate 2 all_goals (refine cS eo rfl rfl evE ?_; simp only [ptN])
 all_goals (clear eo; refine canon_done (NoPanic.normal ?_))
 go_wp2
 go_ret
 exact ⟨rfl, hx0.trans eX⟩
theorem sEl_c (nm : ByteArray) (K p k q co : Int) (ps pl : Option Addr) (ns cs nl cl : Nat) (n : Int) (w : World) (hf : fldOK p k q) (h : (K = 1 ∧ sizOK n) ∨ (K = 2 ∧ (3 ≤ n ∧ n ≤ 24) ∧ (1 ≤ co ∧ co ≤ 8))) :
  Calls Tryz.prog 161 #[vFam nm K p k q ps ns cs co pl nl cl, .int .i64 n] w fun e w' => e = .returned (.int .i64 (elV K p k co n)) ∧ Ext w w' := by
 rcases h with ⟨rfl, hs⟩ | ⟨rfl, hn, hc⟩
 ·obtain ⟨m, rfl⟩ : ∃ m : Nat, n = m := ⟨n.toNat, by have := hs.1; omega⟩
  rw [elV1]
  exact sElements1_c nm p k q co ps pl ns cs nl cl m w (by have := hs.1; omega) (by have := hs.2; omega) hf
 ·rw [elV2]
  exact sElements2_c nm p k q co ps pl ns cs nl cl n w (by omega) (by omega)
set_option maxHeartbeats 800000 in
set_option maxRecDepth 100000 in
theorem sLayout_c (nm : ByteArray) (K p k q co : Int) (ps pl : Option Addr) (ns cs cl l : Nat) (ls : List Int) (size e : Int) (w : World) (hlv : IntsAt w pl ls) (hl : l < ls.length) (hll : ls.length ≤ 1048576) (hx : 1 ≤ ls.getD l 0 ∧ ls.getD l 0 ≤ 80) (hf : fldOK p k q) (hev : 1 ≤ e ∧ e ≤ 10000)
  (he : ∀ W, Calls Tryz.prog 161 #[vFam nm K p k q ps ns cs co pl ls.length cl, .int .i64 size] W fun r w' => r = .returned (.int .i64 e) ∧ Ext W w') :
  Calls Tryz.prog 109 #[vFam nm K p k q ps ns cs co pl ls.length cl, .int .i64 size, .int .i64 l] w fun r w' => r = .returned (vLay p k q (e - cntV (fldSize p k) e * chkV (fldSize p k) e (ls.getD l 0)) (chkV (fldSize p k) e (ls.getD l 0)) (cntV (fldSize p k) e)) ∧ Ext w w' := by
 have HLV := Lib.hid hlv; clear hlv
 replace he := Lib.hid he
 have hbx := (Blk.new w #[.string nm, .int .i64 K, .int .i64 p, .int .i64 k, .int .i64 q, .slice ps ns cs, .int .i64 co, .slice pl ls.length cl] 55).alloc (.cells #[.int .i64 0, .int .i64 0, .int .i64 0, .int .i64 0, .int .i64 0, .int .i64 0] 95)
 have h0 := Blk.new (w.alloc (.cells #[.string nm, .int .i64 K, .int .i64 p, .int .i64 k, .int .i64 q, .slice ps ns cs, .int .i64 co, .slice pl ls.length cl] 55)) #[.int .i64 0, .int .i64 0, .int .i64 0, .int .i64 0, .int .i64 0, .int .i64 0] 95
 have hx0 : Ext w ((w.alloc (.cells #[.string nm, .int .i64 K, .int .i64 p, .int .i64 k, .int .i64 q, .slice ps ns cs, .int .i64 co, .slice pl ls.length cl] 55)).alloc (.cells #[.int .i64 0, .int .i64 0, .int .i64 0, .int .i64 0, .int .i64 0, .int .i64 0] 95)) := ((Ext.refl w).alloc _).alloc _
 simp only [World.size_alloc] at h0
 have hfs := Lib.hid (fun W => l02Size_c p k q W (fldSize_bd hf).2)
 have hzb := fldOK_szbd hf
 go_enter Tryz.func109, Tryz.ntmps109
 go_upto_region 4 with (first
  | (go_at_call 161; (with_reducible refine (he.out _).mono ?_); rintro e2 w2 ⟨rfl, hx2⟩; have hb2 := hbx.ext hx2; have a2 := hb2.cell (i := 2) (v := .int .i64 p) rfl; have a3 := hb2.cell (i := 3) (v := .int .i64 k) rfl; have a4 := hb2.cell (i := 4) (v := .int .i64 q) rfl; have aL := hb2.lt)
  | (go_at_call 162; (with_reducible refine (hfs.out _).mono ?_); rintro e3 w3 ⟨rfl, hx3⟩))
 have hcb := cntV_bd hzb hev
 have hkb := chkV_bd (fldSize p k) e (ls.getD l 0)
 have hkd : min 64 (max 2 (e * ls.getD l 0 / 100 / cntV (fldSize p k) e)) = chkV (fldSize p k) e (ls.getD l 0) := by unfold chkV; omega
 rw [show (e + min (fldSize p k - 1) 255 - 1) / min (fldSize p k - 1) 255 = cntV (fldSize p k) e from rfl]
 generalize hH : chkV (fldSize p k) e (ls.getD l 0) = H at *
 generalize hN : cntV (fldSize p k) e = N at *
 replace hH := Lib.hid hH; replace hN := Lib.hid hN
 have hb3 := hbx.ext (hx2.trans hx3)
 obtain ⟨b, o, rfl, hbl, y1⟩ := (HLV.out.ext (((((Ext.refl w).alloc _).alloc _).trans hx2).trans hx3)) l hl
 generalize hX : ls.getD l 0 = x at *
 replace hX := Lib.hid hX
 have p1 : 0 ≤ e * x := Int.mul_nonneg (by omega) (by omega)
 have p2 : e * x ≤ 10000 * 80 := Int.mul_le_mul hev.2 hx.2 (by omega) (by omega)
 have p3 : 0 ≤ N * H := Int.mul_nonneg (by omega) (by omega)
 have p4 : N * H ≤ 10300 * 64 := Int.mul_le_mul hcb.2 hkb.2 (by omega) (by omega)
 have d2 := hb3.cell (i := 2) (v := .int .i64 p) rfl; have d3 := hb3.cell (i := 3) (v := .int .i64 k) rfl; have d4 := hb3.cell (i := 4) (v := .int .i64 q) rfl; have d7 := hb3.cell (i := 7) (v := .slice (some ⟨b, o, none⟩) ls.length cl) rfl; have dL := hb3.lt
 have hli : (l : Int) < ls.length := by omega
 have hn0 : ¬ N = 0 := by omega
 clear a2 a3 a4 aL
 have h3 := (h0.ext hx2).ext hx3
 obtain ⟨z0, z1, z2, z3, z4, z5⟩ := h3.c6; have zl := h3.lt; have zf := h3.free
 go_wp2_with fail
 have hF := ((((((h3.set 0 (.int .i64 p)).set 1 (.int .i64 k)).set 2 (.int .i64 q)).set 3 (.int .i64 (e - N * H))).set 4 (.int .i64 H)).set 5 (.int .i64 N))
 obtain ⟨c0, c1, c2, c3, c4, c5⟩ := hF.c6
 have hx9 := (((((((hx0.trans hx2).trans hx3).setCell (p := ⟨w.heap.size + 1, 0, none⟩) (Nat.le_succ _) (.int .i64 p)).setCell (p := ⟨w.heap.size + 1, 1, none⟩) (Nat.le_succ _) (.int .i64 k)).setCell (p := ⟨w.heap.size + 1, 2, none⟩) (Nat.le_succ _) (.int .i64 q)).setCell (p := ⟨w.heap.size + 1, 3, none⟩) (Nat.le_succ _) (.int .i64 (e - N * H))).setCell (p := ⟨w.heap.size + 1, 4, none⟩) (Nat.le_succ _) (.int .i64 H)).setCell (p := ⟨w.heap.size + 1, 5, none⟩) (Nat.le_succ _) (.int .i64 N)
 clear z0 z1 z2 z3 z4 z5 zl zf d2 d3 d4 d7 dL y1
 exact bodyPost_ret (v := vLay p k q (e - N * H) H N) (by simp [results, Tryz.results109, go_sem, c0, c1, c2, c3, c4, c5]) rfl ⟨by rw [hX.out, hH.out, hN.out], hx9⟩
theorem sLay_c (nm : ByteArray) (K p k q co : Int) (ps pl : Option Addr) (ns cs cl l : Nat) (ls : List Int) (n : Int) (w : World) (hlv : IntsAt w pl ls) (hl : l < ls.length) (hll : ls.length ≤ 1048576) (hx : 1 ≤ ls.getD l 0 ∧ ls.getD l 0 ≤ 80) (hf : fldOK p k q) (h : (K = 1 ∧ sizOK n) ∨ (K = 2 ∧ (3 ≤ n ∧ n ≤ 24) ∧ (1 ≤ co ∧ co ≤ 8))) :
  Calls Tryz.prog 109 #[vFam nm K p k q ps ns cs co pl ls.length cl, .int .i64 n, .int .i64 l] w fun r w' => r = .returned (vLay p k q (lyD K p k co n (ls.getD l 0)) (lyC K p k co n (ls.getD l 0)) (lyN K p k co n)) ∧ Ext w w' :=
 sLayout_c nm K p k q co ps pl ns cs cl l ls n (elV K p k co n) w hlv hl hll hx hf ⟨(elV_bd hf h).1, by have := (elV_bd (co := co) hf h).2; omega⟩ (fun W => sEl_c nm K p k q co ps pl ns cs ls.length cl n W hf h)
end Go.Proofs.YtdnkljpnhmcnpaaGreat
