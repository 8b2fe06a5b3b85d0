/- The layout of a symbol, on both sides. -/
import Derived.Test.YtdnkljpnhmcnpaaGreatLBoundedDamageK24
import Derived.Test.YtdnkljpnhmcnpaaGreatLBoundedDamageK18
set_option linter.unusedVariables false
set_option linter.unusedSimpArgs false
namespace Go.Proofs.YtdnkljpnhmcnpaaGreat
open Go.RowKit

abbrev lay6 (a0 a1 a2 a3 a4 a5 : Int) : Array Value := #[.int .i64 a0, .int .i64 a1, .int .i64 a2, .int .i64 a3, .int .i64 a4, .int .i64 a5]
def setLay (w : World) (g : Nat) (a0 a1 a2 a3 a4 a5 : Int) : World :=
 (((((w.setCell ⟨g, 0, none⟩ (.int .i64 a0)).setCell ⟨g, 1, none⟩ (.int .i64 a1)).setCell ⟨g, 2, none⟩ (.int .i64 a2)).setCell ⟨g, 3, none⟩ (.int .i64 a3)).setCell ⟨g, 4, none⟩ (.int .i64 a4)).setCell ⟨g, 5, none⟩ (.int .i64 a5)
theorem Blk.lay {w : World} {g : Nat} {b0 b1 b2 b3 b4 b5 : Int} {t : TypeId} (h : Blk w g (lay6 b0 b1 b2 b3 b4 b5) t) (a0 a1 a2 a3 a4 a5 : Int) : Blk (setLay w g a0 a1 a2 a3 a4 a5) g (lay6 a0 a1 a2 a3 a4 a5) t :=
 (((((h.set 0 (.int .i64 a0)).set 1 (.int .i64 a1)).set 2 (.int .i64 a2)).set 3 (.int .i64 a3)).set 4 (.int .i64 a4)).set 5 (.int .i64 a5)
theorem Ext.lay {a w : World} (h : Ext a w) {g : Nat} (hg : a.heap.size ≤ g) (a0 a1 a2 a3 a4 a5 : Int) : Ext a (setLay w g a0 a1 a2 a3 a4 a5) :=
 (((((h.setCell (p := ⟨g, 0, none⟩) hg _).setCell (p := ⟨g, 1, none⟩) hg _).setCell (p := ⟨g, 2, none⟩) hg _).setCell (p := ⟨g, 3, none⟩) hg _).setCell (p := ⟨g, 4, none⟩) hg _).setCell (p := ⟨g, 5, none⟩) hg _
theorem But.lay (w : World) (g : Nat) (a0 a1 a2 a3 a4 a5 : Int) : But g w (setLay w g a0 a1 a2 a3 a4 a5) := by
 unfold setLay
 exact (((((But.set w g 0 _).setG _).setG _).setG _).setG _).setG _
def LoR (p k q D C N a0 a1 a2 a3 a4 a5 c : Int) : Prop := (layOK p k q D C N ∧ (a0 = p ∧ a1 = k ∧ a2 = q ∧ a3 = D ∧ a4 = C ∧ a5 = N) ∧ c = 0) ∨ (¬ layOK p k q D C N ∧ (a0 = 0 ∧ a1 = 0 ∧ a2 = 0 ∧ a3 = 0 ∧ a4 = 0 ∧ a5 = 0) ∧ c = 3)
set_option maxRecDepth 100000 in
theorem sIndex_c (p : Option Addr) (k : Nat) (n : Int) (xs : List Int) (w : World) (hx : IntsAt w p xs) (hl : xs.length ≤ 1048576) :
  Calls Tryz.prog 211 #[.slice p xs.length k, .int .i64 n] w fun e w' => ∃ r : Int, e = .returned (.int .i64 r) ∧ (0 ≤ r ↔ n ∈ xs) ∧ w = w' := by
 have HX := Lib.hid hx; clear hx
 go_enter Tryz.func211, Tryz.ntmps211
 go_wp2
 go_loop [8] (fun i => ∃ j : Nat, j ≤ xs.length ∧ i = .int .i64 j ∧ Hid (¬ n ∈ xs.take j)) (fun i => xs.length - (intOf i).toNat)
 case atStart => exact ⟨0, Nat.zero_le _, rfl, Lib.hid (by simp)⟩
 case round =>
  obtain ⟨j, hj, rfl, hT⟩ := hrel
  by_cases hlt : j < xs.length
  ·obtain ⟨b, o, rfl, hbl, z1⟩ := HX.out j hlt
   have hst : xs.getD j 0 ≠ n → ¬ n ∈ xs.take (j + 1) := fun h => by
    have := take_all (P := fun x => x ≠ n) hlt (fun x hm e => hT.out (by rw [← e]; exact hm)) h
    exact fun hm => this n hm rfl
   have hat : xs.getD j 0 = n → n ∈ xs := fun h => by
    rw [← h, List.getD_eq_getElem?_getD, List.getElem?_eq_getElem hlt]
    exact List.getElem_mem _
   generalize xs.getD j 0 = x at *
   have hst := Lib.hid hst
   have hat := Lib.hid hat
   by_cases h0 : n = x
   ·have hd : (n == x) = true := by simpa using h0
    replace h0 := Lib.hid h0
    go_wp2
    go_ret
    exact ⟨j, rfl, ⟨fun _ => hat.out h0.out.symm, fun _ => by omega⟩, rfl⟩
   ·have hd : (n == x) = false := by simpa using h0
    replace h0 := Lib.hid h0
    go_wp2
    go_round
    case rel => exact ⟨j + 1, hlt, by go_num, Lib.hid (hst.out (fun e => h0.out e.symm))⟩
    case measure => simp [intOf]; omega
  ·obtain rfl : j = xs.length := by omega
   go_wp2
   go_ret
   exact ⟨-1, rfl, ⟨fun h => absurd h (by decide), fun h => absurd (by rwa [List.take_length]) hT.out⟩, rfl⟩
set_option maxRecDepth 100000 in
theorem sContains_c (p : Option Addr) (k : Nat) (n : Int) (xs : List Int) (w : World) (hx : IntsAt w p xs) (hl : xs.length ≤ 1048576) :
  Calls Tryz.prog 174 #[.slice p xs.length k, .int .i64 n] w fun e w' => isB e (n ∈ xs) ∧ w = w' := by
 have hin := Lib.hid (sIndex_c p k n xs w hx hl)
 clear hx
 go_enter Tryz.func174, Tryz.ntmps174
 go_wp2_with (go_at_call 211; (with_reducible refine hin.out.mono ?_); rintro e w1 ⟨r, rfl, hr, rfl⟩; replace hr := Lib.hid hr)
 go_ret
 exact ⟨isB_m (by rw [← hr.out]; simp), rfl⟩
set_option maxRecDepth 100000 in
theorem hasSize_c (nm : ByteArray) (K p k q co : Int) (ps pl : Option Addr) (cs nl cl : Nat) (ss : List Int) (n : Int) (w : World) (hs : IntsAt w ps ss) (hl1 : ss.length ≤ 1048576) :
  Calls Tryz.prog 121 #[vFam nm K p k q ps ss.length cs co pl nl cl, .int .i64 n] w fun e w' => isB e (n ∈ ss) ∧ Ext w w' := by
 have hx0 : Ext w (w.alloc (.cells #[.string nm, .int .i64 K, .int .i64 p, .int .i64 k, .int .i64 q, .slice ps ss.length cs, .int .i64 co, .slice pl nl cl] 55)) := (Ext.refl w).alloc _
 have hc := Lib.hid (sContains_c ps cs n ss _ (hs.ext hx0) hl1)
 clear hs
 go_enter Tryz.func121, Tryz.ntmps121
 go_wp2_with (go_at_call 174; (with_reducible refine hc.out.mono ?_); rintro e w1 ⟨⟨hP, rfl⟩ | ⟨hP, rfl⟩, rfl⟩)
 ·go_ret
  exact ⟨isB_t hP, hx0⟩
 ·go_ret
  exact ⟨isB_f hP, hx0⟩
set_option maxRecDepth 100000 in
theorem sCodeY_c (nm : ByteArray) (K p k q co : Int) (ps pl : Option Addr) (cs cl : Nat) (ss ls : List Int) (w : World) (hs : IntsAt w ps ss) (hlv : IntsAt w pl ls) (hn : nm.size ≤ 1048576) (hl1 : ss.length ≤ 1048576) (hl2 : ls.length ≤ 1048576) (hF : famOK nm K p k q ss co ls) {n : Int} (hm : n ∈ ss) :
  Calls Tryz.prog 108 #[vFam nm K p k q ps ss.length cs co pl ls.length cl, .int .i64 n] w fun e w' => e = .returned (.int .i64 0) ∧ Ext w w' := by
 have HS := Lib.hid hs; have HLV := Lib.hid hlv; clear hs hlv
 replace hF := Lib.hid hF; replace hm := Lib.hid hm
 have hbx := Blk.new w #[.string nm, .int .i64 K, .int .i64 p, .int .i64 k, .int .i64 q, .slice ps ss.length cs, .int .i64 co, .slice pl ls.length cl] 55
 have hx0 : Ext w (w.alloc (.cells #[.string nm, .int .i64 K, .int .i64 p, .int .i64 k, .int .i64 q, .slice ps ss.length cs, .int .i64 co, .slice pl ls.length cl] 55)) := (Ext.refl w).alloc _
 have hif := Lib.hid (fun W (h1 : IntsAt W ps ss) (h2 : IntsAt W pl ls) => sIsFamily_c nm K p k q co ps pl cs cl ss ls W h1 h2 hn hl1 hl2)
 have hhs := Lib.hid (fun W (h : IntsAt W ps ss) => l05Has_c ps cs n ss W h hl1)
 go_enter Tryz.func108, Tryz.ntmps108
 go_wp2_with (first
  | (go_at_call 53; (with_reducible refine (hif.out _ (HS.out.ext hx0) (HLV.out.ext hx0)).mono ?_); rintro e w1 ⟨⟨hP, rfl⟩ | ⟨hP, rfl⟩, hx1⟩ <;> (first | exact absurd hF.out hP | skip); have hb1 := hbx.ext hx1; have a5 := hb1.cell (i := 5) (v := .slice ps ss.length cs) rfl; have aL := hb1.lt)
  | (go_at_call 74; (with_reducible refine (hhs.out _ (HS.out.ext (hx0.trans hx1))).mono ?_); rintro e w2 ⟨⟨hQ, rfl⟩ | ⟨hQ, rfl⟩, hx2⟩ <;> (first | exact absurd hm.out hQ | skip)))
 go_ret
 exact ⟨rfl, (hx0.trans hx1).trans hx2⟩
set_option maxHeartbeats 800000 in
set_option maxRecDepth 100000 in
theorem sLayoutOf_c (nm : ByteArray) (K p k q co : Int) (ps pl : Option Addr) (cs cl l : Nat) (ss ls : List Int) (w : World) (hs : IntsAt w ps ss) (hlv : IntsAt w pl ls) (hn : nm.size ≤ 1048576) (hl1 : ss.length ≤ 1048576) (hl2 : ls.length ≤ 1048576) (hF : famOK nm K p k q ss co ls) {i : Nat} (hi : i < ss.length) (hl : l < ls.length) :
  Calls Tryz.prog 55 #[vFam nm K p k q ps ss.length cs co pl ls.length cl, .int .i64 (ss.getD i 0), .int .i64 l] w fun e w' => (∃ a0 a1 a2 a3 a4 a5 c, e = .returned (.tuple #[vLay a0 a1 a2 a3 a4 a5, .int .i64 c]) ∧ LoR p k q (lyD K p k co (ss.getD i 0) (ls.getD l 0)) (lyC K p k co (ss.getD i 0) (ls.getD l 0)) (lyN K p k co (ss.getD i 0)) a0 a1 a2 a3 a4 a5 c) ∧ Ext w w' := by
 have HS := Lib.hid hs; have HLV := Lib.hid hlv; clear hs hlv
 have hf := fam_fld hF
 have hsz := fam_size hF hi
 have hx := (hF.2.2.2.1 l hl).1
 have hm : ss.getD i 0 ∈ ss := by rw [List.getD_eq_getElem?_getD, List.getElem?_eq_getElem hi]; exact List.getElem_mem hi
 have hcd := Lib.hid (fun W (h1 : IntsAt W ps ss) (h2 : IntsAt W pl ls) => sCodeY_c nm K p k q co ps pl cs cl ss ls W h1 h2 hn hl1 hl2 hF hm)
 have hly := Lib.hid (fun W (h : IntsAt W pl ls) => sLay_c nm K p k q co ps pl ss.length cs cl l ls (ss.getD i 0) W h hl hl2 hx hf hsz)
 have hbd := ly_bd (co := co) (x := ls.getD l 0) hf hsz
 generalize ss.getD i 0 = n at *
 generalize ls.getD l 0 = x at *
 clear hF hm hx hsz hf
 generalize lyD K p k co n x = D at *
 generalize lyC K p k co n x = C at *
 generalize lyN K p k co n = N at *
 have hil := Lib.hid (fun W => sIsLayout_c p k q D C N W hbd.1 hbd.2.1 hbd.2.2)
 have hbx := (Blk.new w #[.string nm, .int .i64 K, .int .i64 p, .int .i64 k, .int .i64 q, .slice ps ss.length cs, .int .i64 co, .slice pl ls.length cl] 55).alloc (.cells (lay6 0 0 0 0 0 0) 95)
 have h0 := Blk.new (w.alloc (.cells #[.string nm, .int .i64 K, .int .i64 p, .int .i64 k, .int .i64 q, .slice ps ss.length cs, .int .i64 co, .slice pl ls.length cl] 55)) (lay6 0 0 0 0 0 0) 95
 have hx0 : Ext w ((w.alloc (.cells #[.string nm, .int .i64 K, .int .i64 p, .int .i64 k, .int .i64 q, .slice ps ss.length cs, .int .i64 co, .slice pl ls.length cl] 55)).alloc (.cells (lay6 0 0 0 0 0 0) 95)) := ((Ext.refl w).alloc _).alloc _
 simp only [World.size_alloc] at h0
 have hll : (l : Int) ≤ (ls.length : Int) - 1 := by omega
 have hl0 : (0 : Int) ≤ (l : Int) := by omega
 go_enter Tryz.func55, Tryz.ntmps55
 go_upto_region 6 with (first
  | (go_at_call 108; (with_reducible refine (hcd.out _ (HS.out.ext hx0) (HLV.out.ext hx0)).mono ?_); rintro e w1 ⟨rfl, hx1⟩; have hb1 := hbx.ext hx1; have a7 := hb1.cell (i := 7) (v := .slice pl ls.length cl) rfl; have aL := hb1.lt)
  | (go_at_call 29; (with_reducible refine (l01In_c _ _ _ _).mono ?_); rintro e w1' ⟨⟨hP', rfl⟩ | ⟨hP', rfl⟩, rfl⟩ <;> first | (exfalso; omega) | skip))
 have a1 := hb1.cell (i := 1) (v := .int .i64 K) rfl; have a0 := hb1.cell (i := 0) (v := .string nm) rfl; have a2 := hb1.cell (i := 2) (v := .int .i64 p) rfl; have a3 := hb1.cell (i := 3) (v := .int .i64 k) rfl; have a4 := hb1.cell (i := 4) (v := .int .i64 q) rfl; have a5 := hb1.cell (i := 5) (v := .slice ps ss.length cs) rfl; have a6 := hb1.cell (i := 6) (v := .int .i64 co) rfl
 have h1 := h0.ext hx1
 have hx01 := hx0.trans hx1
 go_upto_region 7 with (go_at_call 109; (with_reducible refine (hly.out _ (HLV.out.ext hx01)).mono ?_); rintro e w2 ⟨rfl, hx2⟩)
 have hg3 := Blk.new w2 #[.int .i64 p, .int .i64 k, .int .i64 q, .int .i64 D, .int .i64 C, .int .i64 N] 95
 have hx03 := (hx01.trans hx2).alloc (.cells #[.int .i64 p, .int .i64 k, .int .i64 q, .int .i64 D, .int .i64 C, .int .i64 N] 95)
 have h3 := (h1.ext hx2).alloc (.cells #[.int .i64 p, .int .i64 k, .int .i64 q, .int .i64 D, .int .i64 C, .int .i64 N] 95)
 have hlt : w.heap.size + 1 < w2.heap.size := (h1.ext hx2).lt
 clear hb1 h1 hx01 hx1 hx2 a0 a1 a2 a3 a4 a5 a6 a7 aL h0 hbx hx0
 generalize w2.alloc (.cells #[.int .i64 p, .int .i64 k, .int .i64 q, .int .i64 D, .int .i64 C, .int .i64 N] 95) = w3 at *
 generalize w2.heap.size = g9 at *
 obtain ⟨d0, d1, d2, d3, d4, d5⟩ := hg3.c6; have dL := hg3.lt
 have hwg := Nat.le_succ w.heap.size
 go_wp2_with (go_at_call 110; (with_reducible refine (hil.out _).mono ?_); rintro e w4 ⟨⟨hP, rfl⟩ | ⟨hP, rfl⟩, hx4⟩ <;> (have h4 := h3.ext hx4; have g4 := hg3.ext hx4; obtain ⟨f0, f1, f2, f3, f4, f5⟩ := g4.c6; have fL := g4.lt; obtain ⟨z0, z1, z2, z3, z4, z5⟩ := h4.c6; have zl := h4.lt; have zf := h4.free))
 ·have hF := h4.lay p k q D C N
  obtain ⟨c0, c1, c2, c3, c4, c5⟩ := hF.c6
  have hx9 := (hx03.trans hx4).lay (g := w.heap.size + 1) hwg p k q D C N
  unfold setLay at c0 c1 c2 c3 c4 c5 hx9
  clear z0 z1 z2 z3 z4 z5 zl zf f0 f1 f2 f3 f4 f5 fL d0 d1 d2 d3 d4 d5 dL
  exact bodyPost_ret (v := .tuple #[vLay p k q D C N, .int .i64 0]) (by simp [results, Tryz.results55, go_sem, c0, c1, c2, c3, c4, c5]) rfl ⟨⟨p, k, q, D, C, N, 0, rfl, .inl ⟨hP, ⟨rfl, rfl, rfl, rfl, rfl, rfl⟩, rfl⟩⟩, hx9⟩
 ·have hF := h4.lay 0 0 0 0 0 0
  obtain ⟨c0, c1, c2, c3, c4, c5⟩ := hF.c6
  have hx9 := (hx03.trans hx4).lay (g := w.heap.size + 1) hwg 0 0 0 0 0 0
  unfold setLay at c0 c1 c2 c3 c4 c5 hx9
  clear z0 z1 z2 z3 z4 z5 zl zf f0 f1 f2 f3 f4 f5 fL d0 d1 d2 d3 d4 d5 dL
  exact bodyPost_ret (v := .tuple #[vLay 0 0 0 0 0 0, .int .i64 3]) (by simp [results, Tryz.results55, go_sem, c0, c1, c2, c3, c4, c5]) rfl ⟨⟨0, 0, 0, 0, 0, 0, 3, rfl, .inr ⟨hP, ⟨rfl, rfl, rfl, rfl, rfl, rfl⟩, rfl⟩⟩, hx9⟩
set_option maxHeartbeats 800000 in
set_option maxRecDepth 100000 in
theorem iLayoutOf_c (nm : ByteArray) (K p k q co : Int) (ps pl : Option Addr) (cs cl l : Nat) (ss ls : List Int) (w : World) (hs : IntsAt w ps ss) (hlv : IntsAt w pl ls) (hn : nm.size ≤ 1048576) (hl1 : ss.length ≤ 1048576) (hl2 : ls.length ≤ 1048576) (hF : famOK nm K p k q ss co ls) {i : Nat} (hi : i < ss.length) (hl : l < ls.length) :
  Calls Tryz.prog 63 #[vFam nm K p k q ps ss.length cs co pl ls.length cl, .int .i64 (ss.getD i 0), .int .i64 l] w fun e w' => (∃ a0 a1 a2 a3 a4 a5 c, e = .returned (.tuple #[vLay a0 a1 a2 a3 a4 a5, .int .i64 c]) ∧ LoR p k q (lyD K p k co (ss.getD i 0) (ls.getD l 0)) (lyC K p k co (ss.getD i 0) (ls.getD l 0)) (lyN K p k co (ss.getD i 0)) a0 a1 a2 a3 a4 a5 c) ∧ Ext w w' := by
 have HS := Lib.hid hs; have HLV := Lib.hid hlv; clear hs hlv
 have hf := fam_fld hF
 have hsz := fam_size hF hi
 have hx := (hF.2.2.2.1 l hl).1
 have hm : ss.getD i 0 ∈ ss := by rw [List.getD_eq_getElem?_getD, List.getElem?_eq_getElem hi]; exact List.getElem_mem hi
 have hif := Lib.hid (fun W (h1 : IntsAt W ps ss) (h2 : IntsAt W pl ls) => iIsFamily_c nm K p k q co ps pl cs cl ss ls W h1 h2 hn hl1 hl2)
 have hhs := Lib.hid (fun W (h : IntsAt W ps ss) => hasSize_c nm K p k q co ps pl cs ls.length cl ss (ss.getD i 0) W h hl1)
 have hhl := Lib.hid (fun W => iHasLevel_c nm K p k q co ps pl ss.length cs ls.length cl l W hl2)
 replace hF := Lib.hid hF; replace hm := Lib.hid hm
 have hly := Lib.hid (fun W (h : IntsAt W pl ls) => iLay_c nm K p k q co ps pl ss.length cs cl l ls (ss.getD i 0) W h hl hl2 hx hf hsz)
 have hbd := ly_bd (co := co) (x := ls.getD l 0) hf hsz
 generalize ss.getD i 0 = n at *
 generalize ls.getD l 0 = x at *
 clear hx hsz hf
 generalize lyD K p k co n x = D at *
 generalize lyC K p k co n x = C at *
 generalize lyN K p k co n = N at *
 have hil := Lib.hid (fun W => iIsLayout_c p k q D C N W hbd.1 hbd.2.1 hbd.2.2)
 have hbx := (Blk.new w #[.string nm, .int .i64 K, .int .i64 p, .int .i64 k, .int .i64 q, .slice ps ss.length cs, .int .i64 co, .slice pl ls.length cl] 55).alloc (.cells (lay6 0 0 0 0 0 0) 95)
 have h0 := Blk.new (w.alloc (.cells #[.string nm, .int .i64 K, .int .i64 p, .int .i64 k, .int .i64 q, .slice ps ss.length cs, .int .i64 co, .slice pl ls.length cl] 55)) (lay6 0 0 0 0 0 0) 95
 have hx0 : Ext w ((w.alloc (.cells #[.string nm, .int .i64 K, .int .i64 p, .int .i64 k, .int .i64 q, .slice ps ss.length cs, .int .i64 co, .slice pl ls.length cl] 55)).alloc (.cells (lay6 0 0 0 0 0 0) 95)) := ((Ext.refl w).alloc _).alloc _
 simp only [World.size_alloc] at h0
 have hll : (l : Int) ≤ (ls.length : Int) - 1 := by omega
 have hl0 : (0 : Int) ≤ (l : Int) := by omega
 go_enter Tryz.func63, Tryz.ntmps63
 go_upto_region 5 with (first
  | (go_at_call 120; (with_reducible refine (hif.out _ (HS.out.ext hx0) (HLV.out.ext hx0)).mono ?_); rintro e w1 ⟨⟨hP, rfl⟩ | ⟨hP, rfl⟩, hx1⟩ <;> (first | exact absurd hF.out hP | skip); have hb1 := hbx.ext hx1; obtain ⟨a0, a1, a2, a3, a4, a5, a6, a7⟩ := hb1.c8; have aL := hb1.lt)
  | (go_at_call 121; (with_reducible refine (hhs.out _ (HS.out.ext (hx0.trans hx1))).mono ?_); rintro e w5 ⟨⟨hQ, rfl⟩ | ⟨hQ, rfl⟩, hx5⟩ <;> (first | exact absurd hm.out hQ | skip); have hb5 := hb1.ext hx5; obtain ⟨e0, e1, e2, e3, e4, e5, e6, e7⟩ := hb5.c8; have eL := hb5.lt)
  | (go_at_call 122; (with_reducible refine (hhl.out _).mono ?_); rintro e w6 ⟨⟨hQ2, rfl⟩ | ⟨hQ2, rfl⟩, hx6⟩ <;> (first | exact absurd ⟨hl0, hll⟩ hQ2 | skip)))
 have hb6 := hb5.ext hx6
 clear a0 a1 a2 a3 a4 a5 a6 a7 aL e0 e1 e2 e3 e4 e5 e6 e7 eL hb5
 have hx1 := (hx1.trans hx5).trans hx6
 have hb1 := hb6
 obtain ⟨a0, a1, a2, a3, a4, a5, a6, a7⟩ := hb1.c8; have aL := hb1.lt
 have h1 := h0.ext hx1
 have hx01 := hx0.trans hx1
 go_upto_region 6 with (go_at_call 123; (with_reducible refine (hly.out _ (HLV.out.ext hx01)).mono ?_); rintro e w2 ⟨rfl, hx2⟩)
 have hg3 := Blk.new w2 #[.int .i64 p, .int .i64 k, .int .i64 q, .int .i64 D, .int .i64 C, .int .i64 N] 95
 have hx03 := (hx01.trans hx2).alloc (.cells #[.int .i64 p, .int .i64 k, .int .i64 q, .int .i64 D, .int .i64 C, .int .i64 N] 95)
 have h3 := (h1.ext hx2).alloc (.cells #[.int .i64 p, .int .i64 k, .int .i64 q, .int .i64 D, .int .i64 C, .int .i64 N] 95)
 have hlt : w.heap.size + 1 < w2.heap.size := (h1.ext hx2).lt
 clear hb1 h1 hx01 hx1 hx2 a0 a1 a2 a3 a4 a5 a6 a7 aL h0 hbx hx0
 generalize w2.alloc (.cells #[.int .i64 p, .int .i64 k, .int .i64 q, .int .i64 D, .int .i64 C, .int .i64 N] 95) = w3 at *
 generalize w2.heap.size = g9 at *
 obtain ⟨d0, d1, d2, d3, d4, d5⟩ := hg3.c6; have dL := hg3.lt
 have hwg := Nat.le_succ w.heap.size
 go_wp2_with (go_at_call 124; (with_reducible refine (hil.out _).mono ?_); rintro e w4 ⟨⟨hP, rfl⟩ | ⟨hP, rfl⟩, hx4⟩ <;> (have h4 := h3.ext hx4; have g4 := hg3.ext hx4; obtain ⟨f0, f1, f2, f3, f4, f5⟩ := g4.c6; have fL := g4.lt; obtain ⟨z0, z1, z2, z3, z4, z5⟩ := h4.c6; have zl := h4.lt; have zf := h4.free))
 ·have hF := h4.lay p k q D C N
  obtain ⟨c0, c1, c2, c3, c4, c5⟩ := hF.c6
  have hx9 := (hx03.trans hx4).lay (g := w.heap.size + 1) hwg p k q D C N
  unfold setLay at c0 c1 c2 c3 c4 c5 hx9
  clear z0 z1 z2 z3 z4 z5 zl zf f0 f1 f2 f3 f4 f5 fL d0 d1 d2 d3 d4 d5 dL
  exact bodyPost_ret (v := .tuple #[vLay p k q D C N, .int .i64 0]) (by simp [results, Tryz.results63, go_sem, c0, c1, c2, c3, c4, c5]) rfl ⟨⟨p, k, q, D, C, N, 0, rfl, .inl ⟨hP, ⟨rfl, rfl, rfl, rfl, rfl, rfl⟩, rfl⟩⟩, hx9⟩
 ·have hF := h4.lay 0 0 0 0 0 0
  obtain ⟨c0, c1, c2, c3, c4, c5⟩ := hF.c6
  have hx9 := (hx03.trans hx4).lay (g := w.heap.size + 1) hwg 0 0 0 0 0 0
  unfold setLay at c0 c1 c2 c3 c4 c5 hx9
  clear z0 z1 z2 z3 z4 z5 zl zf f0 f1 f2 f3 f4 f5 fL d0 d1 d2 d3 d4 d5 dL
  exact bodyPost_ret (v := .tuple #[vLay 0 0 0 0 0 0, .int .i64 3]) (by simp [results, Tryz.results63, go_sem, c0, c1, c2, c3, c4, c5]) rfl ⟨⟨0, 0, 0, 0, 0, 0, 3, rfl, .inr ⟨hP, ⟨rfl, rfl, rfl, rfl, rfl, rfl⟩, rfl⟩⟩, hx9⟩
open Go.RowKit

open Go.RowKit

set_option maxRecDepth 100000 in
theorem sz_c (p : Option Addr) (k n : Nat) (L : Int) (w : World) (hL : 0 ≤ L ∧ L ≤ 1048576) (hn : n ≤ 9223372036854775807) :
  Calls Tryz.prog 27 #[.slice p n k, .int .i64 L] w fun e w' => e = .returned (.int .i64 (if (n : Int) ≤ L then L - n else -1)) ∧ w = w' := by
 by_cases h : (n : Int) ≤ L
 ·rw [if_pos h]
  have h2 : ¬ L - (n : Int) < 0 := by omega
  go_enter Tryz.func27, Tryz.ntmps27
  go_wp2
  go_ret
  exact ⟨rfl, rfl⟩
 ·rw [if_neg h]
  have h2 : L - (n : Int) < 0 := by omega
  go_enter Tryz.func27, Tryz.ntmps27
  go_wp2
  go_ret
  exact ⟨rfl, rfl⟩
set_option maxRecDepth 100000 in
theorem toFieldF_c (p k q : Int) (w : World) :
  Calls Tryz.prog 60 #[vFld p k q] w fun e w' => e = .returned (vFld p k q) ∧ Ext w w' := by
 go_enter Tryz.func60, Tryz.ntmps60
 go_wp2
 exact bodyPost_ret (v := vFld p k q) (by simp [results, Tryz.results60, go_sem]) rfl ⟨rfl, eX⟩
set_option maxHeartbeats 800000 in
set_option maxRecDepth 100000 in
theorem eqFieldF_c (p k q : Int) (w : World) :
  Calls Tryz.prog 70 #[vFld p k q, vFld p k q] w fun e w' => e = .returned (.bool true) ∧ Ext w w' := by
 go_enter Tryz.func70, Tryz.ntmps70
 go_wp2
 go_ret
 exact ⟨rfl, eX⟩
set_option maxHeartbeats 800000 in
set_option maxRecDepth 100000 in
theorem eqFamily_c (nm : ByteArray) (K p k q co : Int) (ps pl ps' pl' : Option Addr) (cs cl cs' cl' : Nat) (ss ls : List Int) (w : World) (h1 : IntsAt w ps ss) (h2 : IntsAt w pl ls) (h3 : IntsAt w ps' ss) (h4 : IntsAt w pl' ls) (hl1 : ss.length ≤ 1048576) (hl2 : ls.length ≤ 1048576) :
  Calls Tryz.prog 25 #[vFam nm K p k q ps ss.length cs co pl ls.length cl, vFam nm K p k q ps' ss.length cs' co pl' ls.length cl'] w fun e w' => e = .returned (.bool true) ∧ Ext w w' := by
 have H1 := Lib.hid h1; have H2 := Lib.hid h2; have H3 := Lib.hid h3; have H4 := Lib.hid h4; clear h1 h2 h3 h4
 have hq : ∀ (a b : Option Addr) (i j : Nat) (xs : List Int) W, xs.length ≤ 1048576 → IntsAt W a xs → IntsAt W b xs → Calls Tryz.prog 40 #[.slice a xs.length i, .slice b xs.length j] W fun e w' => e = .returned (.bool true) ∧ ∃ n, w' = W.drewN n := fun a b i j xs W hl h1 h2 => (eqInt64S_c a b i j xs xs W h1 h2 (by omega) (by omega)).mono fun e w' h => by
  rcases h with ⟨⟨_, h⟩ | ⟨h, _⟩, n, hn⟩
  ·exact ⟨h, n, hn⟩
  ·exact absurd rfl h
 have q1 := Lib.hid (fun W (h1 : IntsAt W ps ss) (h2 : IntsAt W ps' ss) => hq ps ps' cs cs' ss W hl1 h1 h2)
 have q2 := Lib.hid (fun W (h1 : IntsAt W pl ls) (h2 : IntsAt W pl' ls) => hq pl pl' cl cl' ls W hl2 h1 h2)
 clear hq
 have hA := (Blk.new w #[.string nm, .int .i64 K, .int .i64 p, .int .i64 k, .int .i64 q, .slice ps ss.length cs, .int .i64 co, .slice pl ls.length cl] 55).alloc (.cells #[.string nm, .int .i64 K, .int .i64 p, .int .i64 k, .int .i64 q, .slice ps' ss.length cs', .int .i64 co, .slice pl' ls.length cl'] 55)
 have hB := Blk.new (w.alloc (.cells #[.string nm, .int .i64 K, .int .i64 p, .int .i64 k, .int .i64 q, .slice ps ss.length cs, .int .i64 co, .slice pl ls.length cl] 55)) #[.string nm, .int .i64 K, .int .i64 p, .int .i64 k, .int .i64 q, .slice ps' ss.length cs', .int .i64 co, .slice pl' ls.length cl'] 55
 have hx0 : Ext w ((w.alloc (.cells #[.string nm, .int .i64 K, .int .i64 p, .int .i64 k, .int .i64 q, .slice ps ss.length cs, .int .i64 co, .slice pl ls.length cl] 55)).alloc (.cells #[.string nm, .int .i64 K, .int .i64 p, .int .i64 k, .int .i64 q, .slice ps' ss.length cs', .int .i64 co, .slice pl' ls.length cl'] 55)) := ((Ext.refl w).alloc _).alloc _
 simp only [World.size_alloc] at hB
 go_enter Tryz.func25, Tryz.ntmps25
 go_wp2_with (first
  | (go_at_call 70; (with_reducible refine (eqFieldF_c _ _ _ _).mono ?_); rintro e w1 ⟨rfl, hx1⟩; have hA1 := hA.ext hx1; have hB1 := hB.ext hx1; have a5 := hA1.cell (i := 5) (v := .slice ps ss.length cs) rfl; have a6 := hA1.cell (i := 6) (v := .int .i64 co) rfl; have a7 := hA1.cell (i := 7) (v := .slice pl ls.length cl) rfl; have aL := hA1.lt; have b5 := hB1.cell (i := 5) (v := .slice ps' ss.length cs') rfl; have b6 := hB1.cell (i := 6) (v := .int .i64 co) rfl; have b7 := hB1.cell (i := 7) (v := .slice pl' ls.length cl') rfl; have bL := hB1.lt)
  | (go_at_call 40; (with_reducible refine (q1.out _ (H1.out.ext (hx0.trans eX)) (H3.out.ext (hx0.trans eX))).mono ?_); rintro e w2 ⟨rfl, n2, rfl⟩)
  | (go_at_call 40; (with_reducible refine (q2.out _ (H2.out.ext (hx0.trans eX)) (H4.out.ext (hx0.trans eX))).mono ?_); rintro e w2 ⟨rfl, n3, rfl⟩))
 go_ret
 exact ⟨rfl, hx0.trans eX⟩
def setFam (w : World) (g : Nat) (v0 v1 v2 v3 v4 v5 v6 v7 : Value) : World :=
 (((((((w.setCell ⟨g, 0, none⟩ v0).setCell ⟨g, 1, none⟩ v1).setCell ⟨g, 2, none⟩ v2).setCell ⟨g, 3, none⟩ v3).setCell ⟨g, 4, none⟩ v4).setCell ⟨g, 5, none⟩ v5).setCell ⟨g, 6, none⟩ v6).setCell ⟨g, 7, none⟩ v7
theorem Blk.fam {w : World} {g : Nat} {b0 b1 b2 b3 b4 b5 b6 b7 : Value} {t : TypeId} (h : Blk w g #[b0, b1, b2, b3, b4, b5, b6, b7] t) (v0 v1 v2 v3 v4 v5 v6 v7 : Value) : Blk (setFam w g v0 v1 v2 v3 v4 v5 v6 v7) g #[v0, v1, v2, v3, v4, v5, v6, v7] t := by
 have h0 : Blk (w.setCell ⟨g, 0, none⟩ v0) g #[v0, b1, b2, b3, b4, b5, b6, b7] t := h.set 0 v0
 have h1 : Blk ((w.setCell ⟨g, 0, none⟩ v0).setCell ⟨g, 1, none⟩ v1) g #[v0, v1, b2, b3, b4, b5, b6, b7] t := h0.set 1 v1
 have h2 : Blk (((w.setCell ⟨g, 0, none⟩ v0).setCell ⟨g, 1, none⟩ v1).setCell ⟨g, 2, none⟩ v2) g #[v0, v1, v2, b3, b4, b5, b6, b7] t := h1.set 2 v2
 have h3 : Blk ((((w.setCell ⟨g, 0, none⟩ v0).setCell ⟨g, 1, none⟩ v1).setCell ⟨g, 2, none⟩ v2).setCell ⟨g, 3, none⟩ v3) g #[v0, v1, v2, v3, b4, b5, b6, b7] t := h2.set 3 v3
 have h4 : Blk (((((w.setCell ⟨g, 0, none⟩ v0).setCell ⟨g, 1, none⟩ v1).setCell ⟨g, 2, none⟩ v2).setCell ⟨g, 3, none⟩ v3).setCell ⟨g, 4, none⟩ v4) g #[v0, v1, v2, v3, v4, b5, b6, b7] t := h3.set 4 v4
 have h5 : Blk ((((((w.setCell ⟨g, 0, none⟩ v0).setCell ⟨g, 1, none⟩ v1).setCell ⟨g, 2, none⟩ v2).setCell ⟨g, 3, none⟩ v3).setCell ⟨g, 4, none⟩ v4).setCell ⟨g, 5, none⟩ v5) g #[v0, v1, v2, v3, v4, v5, b6, b7] t := h4.set 5 v5
 have h6 : Blk (((((((w.setCell ⟨g, 0, none⟩ v0).setCell ⟨g, 1, none⟩ v1).setCell ⟨g, 2, none⟩ v2).setCell ⟨g, 3, none⟩ v3).setCell ⟨g, 4, none⟩ v4).setCell ⟨g, 5, none⟩ v5).setCell ⟨g, 6, none⟩ v6) g #[v0, v1, v2, v3, v4, v5, v6, b7] t := h5.set 6 v6
 have h7 : Blk ((((((((w.setCell ⟨g, 0, none⟩ v0).setCell ⟨g, 1, none⟩ v1).setCell ⟨g, 2, none⟩ v2).setCell ⟨g, 3, none⟩ v3).setCell ⟨g, 4, none⟩ v4).setCell ⟨g, 5, none⟩ v5).setCell ⟨g, 6, none⟩ v6).setCell ⟨g, 7, none⟩ v7) g #[v0, v1, v2, v3, v4, v5, v6, v7] t := h6.set 7 v7
 exact h7
theorem Ext.fam {a w : World} (h : Ext a w) {g : Nat} (hg : a.heap.size ≤ g) (v0 v1 v2 v3 v4 v5 v6 v7 : Value) : Ext a (setFam w g v0 v1 v2 v3 v4 v5 v6 v7) :=
 (((((((h.setCell (p := ⟨g, 0, none⟩) hg _).setCell (p := ⟨g, 1, none⟩) hg _).setCell (p := ⟨g, 2, none⟩) hg _).setCell (p := ⟨g, 3, none⟩) hg _).setCell (p := ⟨g, 4, none⟩) hg _).setCell (p := ⟨g, 5, none⟩) hg _).setCell (p := ⟨g, 6, none⟩) hg _).setCell (p := ⟨g, 7, none⟩) hg _
theorem But.fam (w : World) (g : Nat) (v0 v1 v2 v3 v4 v5 v6 v7 : Value) : But g w (setFam w g v0 v1 v2 v3 v4 v5 v6 v7) := by
 unfold setFam
 exact (((((((But.set w g 0 _).setG _).setG _).setG _).setG _).setG _).setG _).setG _
end Go.Proofs.YtdnkljpnhmcnpaaGreat
