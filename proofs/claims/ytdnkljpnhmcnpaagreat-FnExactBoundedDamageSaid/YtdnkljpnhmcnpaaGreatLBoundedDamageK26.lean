/- The layout of a symbol for whatever family, size and level, on both sides. -/
import Derived.Test.YtdnkljpnhmcnpaaGreatLBoundedDamageK25
set_option linter.unusedVariables false
set_option linter.unusedSimpArgs false
namespace Go.Proofs.YtdnkljpnhmcnpaaGreat
open Go.RowKit

open Classical in
noncomputable def loC (nm : ByteArray) (K p k q : Int) (ss : List Int) (co : Int) (ls : List Int) (n l : Int) : Int :=
 if famOK nm K p k q ss co ls then if n ∈ ss ∧ 0 ≤ l ∧ l < ls.length then if layOK p k q (lyD K p k co n (ls.getD l.toNat 0)) (lyC K p k co n (ls.getD l.toNat 0)) (lyN K p k co n) then 0 else 3 else 2 else 1
theorem loC_1 {nm : ByteArray} {K p k q co n l : Int} {ss ls : List Int} (h : ¬ famOK nm K p k q ss co ls) : loC nm K p k q ss co ls n l = 1 := if_neg h
theorem loC_2 {nm : ByteArray} {K p k q co n l : Int} {ss ls : List Int} (h : famOK nm K p k q ss co ls) (h2 : ¬ (n ∈ ss ∧ 0 ≤ l ∧ l < ls.length)) : loC nm K p k q ss co ls n l = 2 := by unfold loC; rw [if_pos h, if_neg h2]
theorem loC_3 {nm : ByteArray} {K p k q co n l : Int} {ss ls : List Int} (h : famOK nm K p k q ss co ls) (h2 : n ∈ ss ∧ 0 ≤ l ∧ l < ls.length) (h3 : ¬ layOK p k q (lyD K p k co n (ls.getD l.toNat 0)) (lyC K p k co n (ls.getD l.toNat 0)) (lyN K p k co n)) : loC nm K p k q ss co ls n l = 3 := by unfold loC; rw [if_pos h, if_pos h2, if_neg h3]
theorem loC_0 {nm : ByteArray} {K p k q co n l : Int} {ss ls : List Int} (h : famOK nm K p k q ss co ls) (h2 : n ∈ ss ∧ 0 ≤ l ∧ l < ls.length) (h3 : layOK p k q (lyD K p k co n (ls.getD l.toNat 0)) (lyC K p k co n (ls.getD l.toNat 0)) (lyN K p k co n)) : loC nm K p k q ss co ls n l = 0 := by unfold loC; rw [if_pos h, if_pos h2, if_pos h3]
theorem loC_ok {nm : ByteArray} {K p k q co n l : Int} {ss ls : List Int} (h : loC nm K p k q ss co ls n l = 0) : famOK nm K p k q ss co ls ∧ (n ∈ ss ∧ 0 ≤ l ∧ l < ls.length) ∧ layOK p k q (lyD K p k co n (ls.getD l.toNat 0)) (lyC K p k co n (ls.getD l.toNat 0)) (lyN K p k co n) := by
 by_cases h1 : famOK nm K p k q ss co ls
 ·by_cases h2 : n ∈ ss ∧ 0 ≤ l ∧ l < ls.length
  ·by_cases h3 : layOK p k q (lyD K p k co n (ls.getD l.toNat 0)) (lyC K p k co n (ls.getD l.toNat 0)) (lyN K p k co n)
   ·exact ⟨h1, h2, h3⟩
   ·rw [loC_3 h1 h2 h3] at h; exact absurd h (by decide)
  ·rw [loC_2 h1 h2] at h; exact absurd h (by decide)
 ·rw [loC_1 h1] at h; exact absurd h (by decide)
def LoE (p k q D C N : Int) (c : Int) (e : Ending) : Prop := (c = 0 ∧ e = .returned (.tuple #[vLay p k q D C N, .int .i64 0])) ∨ (c ≠ 0 ∧ e = .returned (.tuple #[vLay 0 0 0 0 0 0, .int .i64 c]))
set_option maxHeartbeats 800000 in
set_option maxRecDepth 100000 in
theorem iLayoutOf_a (nm : ByteArray) (K p k q co : Int) (ps pl : Option Addr) (cs cl : Nat) (ss ls : List Int) (n l : Int) (w : World) (hs : IntsAt w ps ss) (hlv : IntsAt w pl ls) (hn : nm.size ≤ 1048576) (hl1 : ss.length ≤ 1048576) (hl2 : ls.length ≤ 1048576) (hF0 : ¬ famOK nm K p k q ss co ls) :
  Calls Tryz.prog 63 #[vFam nm K p k q ps ss.length cs co pl ls.length cl, .int .i64 n, .int .i64 l] w fun e w' => e = .returned (.tuple #[vLay 0 0 0 0 0 0, .int .i64 1]) ∧ Ext w w' := by
 have HS := Lib.hid hs; have HLV := Lib.hid hlv; clear hs hlv
 have hbx := (Blk.new w #[.string nm, .int .i64 K, .int .i64 p, .int .i64 k, .int .i64 q, .slice ps ss.length cs, .int .i64 co, .slice pl ls.length cl] 55).alloc (.cells (lay6 0 0 0 0 0 0) 95)
 have h0 := Blk.new (w.alloc (.cells #[.string nm, .int .i64 K, .int .i64 p, .int .i64 k, .int .i64 q, .slice ps ss.length cs, .int .i64 co, .slice pl ls.length cl] 55)) (lay6 0 0 0 0 0 0) 95
 have hx0 : Ext w ((w.alloc (.cells #[.string nm, .int .i64 K, .int .i64 p, .int .i64 k, .int .i64 q, .slice ps ss.length cs, .int .i64 co, .slice pl ls.length cl] 55)).alloc (.cells (lay6 0 0 0 0 0 0) 95)) := ((Ext.refl w).alloc _).alloc _
 simp only [World.size_alloc] at h0
 have hwg := Nat.le_succ w.heap.size
 have hif := Lib.hid (fun W (h1 : IntsAt W ps ss) (h2 : IntsAt W pl ls) => iIsFamily_c nm K p k q co ps pl cs cl ss ls W h1 h2 hn hl1 hl2)
 replace hF0 := Lib.hid hF0
 go_enter Tryz.func63, Tryz.ntmps63
 go_wp2_with (go_at_call 120; (with_reducible refine (hif.out _ (HS.out.ext hx0) (HLV.out.ext hx0)).mono ?_); rintro e w1 ⟨⟨hP, rfl⟩ | ⟨hP, rfl⟩, hx1⟩ <;> (first | exact absurd hP hF0.out | skip); have h4 := h0.ext hx1; obtain ⟨z0, z1, z2, z3, z4, z5⟩ := h4.c6; have zl := h4.lt; have zf := h4.free; have hx4 := hx0.trans hx1)
 have hF := h4.lay 0 0 0 0 0 0
 obtain ⟨c0, c1, c2, c3, c4, c5⟩ := hF.c6
 have hx9 := hx4.lay (g := w.heap.size + 1) hwg 0 0 0 0 0 0
 unfold setLay at c0 c1 c2 c3 c4 c5 hx9
 clear z0 z1 z2 z3 z4 z5 zl zf
 exact bodyPost_ret (v := .tuple #[vLay 0 0 0 0 0 0, .int .i64 1]) (by simp [results, Tryz.results63, go_sem, c0, c1, c2, c3, c4, c5]) rfl ⟨rfl, hx9⟩
set_option maxHeartbeats 800000 in
set_option maxRecDepth 100000 in
theorem iLayoutOf_b (nm : ByteArray) (K p k q co : Int) (ps pl : Option Addr) (cs cl : Nat) (ss ls : List Int) (n l : Int) (w : World) (hs : IntsAt w ps ss) (hlv : IntsAt w pl ls) (hn : nm.size ≤ 1048576) (hl1 : ss.length ≤ 1048576) (hl2 : ls.length ≤ 1048576) (hF0 : famOK nm K p k q ss co ls) (hm : ¬ n ∈ ss) :
  Calls Tryz.prog 63 #[vFam nm K p k q ps ss.length cs co pl ls.length cl, .int .i64 n, .int .i64 l] w fun e w' => e = .returned (.tuple #[vLay 0 0 0 0 0 0, .int .i64 2]) ∧ Ext w w' := by
 have HS := Lib.hid hs; have HLV := Lib.hid hlv; clear hs hlv
 have hbx := (Blk.new w #[.string nm, .int .i64 K, .int .i64 p, .int .i64 k, .int .i64 q, .slice ps ss.length cs, .int .i64 co, .slice pl ls.length cl] 55).alloc (.cells (lay6 0 0 0 0 0 0) 95)
 have h0 := Blk.new (w.alloc (.cells #[.string nm, .int .i64 K, .int .i64 p, .int .i64 k, .int .i64 q, .slice ps ss.length cs, .int .i64 co, .slice pl ls.length cl] 55)) (lay6 0 0 0 0 0 0) 95
 have hx0 : Ext w ((w.alloc (.cells #[.string nm, .int .i64 K, .int .i64 p, .int .i64 k, .int .i64 q, .slice ps ss.length cs, .int .i64 co, .slice pl ls.length cl] 55)).alloc (.cells (lay6 0 0 0 0 0 0) 95)) := ((Ext.refl w).alloc _).alloc _
 simp only [World.size_alloc] at h0
 have hwg := Nat.le_succ w.heap.size
 have hif := Lib.hid (fun W (h1 : IntsAt W ps ss) (h2 : IntsAt W pl ls) => iIsFamily_c nm K p k q co ps pl cs cl ss ls W h1 h2 hn hl1 hl2)
 have hhs := Lib.hid (fun W (h : IntsAt W ps ss) => hasSize_c nm K p k q co ps pl cs ls.length cl ss n W h hl1)
 replace hF0 := Lib.hid hF0; replace hm := Lib.hid hm
 go_enter Tryz.func63, Tryz.ntmps63
 go_wp2_with (first
  | (go_at_call 120; (with_reducible refine (hif.out _ (HS.out.ext hx0) (HLV.out.ext hx0)).mono ?_); rintro e w1 ⟨⟨hP, rfl⟩ | ⟨hP, rfl⟩, hx1⟩ <;> (first | exact absurd hF0.out hP | skip); have hb1 := hbx.ext hx1; obtain ⟨a0, a1, a2, a3, a4, a5, a6, a7⟩ := hb1.c8; have aL := hb1.lt)
  | (go_at_call 121; (with_reducible refine (hhs.out _ (HS.out.ext (hx0.trans hx1))).mono ?_); rintro e w5 ⟨⟨hQ, rfl⟩ | ⟨hQ, rfl⟩, hx5⟩ <;> (first | exact absurd hQ hm.out | skip); have h4 := (h0.ext hx1).ext hx5; obtain ⟨z0, z1, z2, z3, z4, z5⟩ := h4.c6; have zl := h4.lt; have zf := h4.free; have hx4 := (hx0.trans hx1).trans hx5))
 clear a0 a1 a2 a3 a4 a5 a6 a7 aL
 have hF := h4.lay 0 0 0 0 0 0
 obtain ⟨c0, c1, c2, c3, c4, c5⟩ := hF.c6
 have hx9 := hx4.lay (g := w.heap.size + 1) hwg 0 0 0 0 0 0
 unfold setLay at c0 c1 c2 c3 c4 c5 hx9
 clear z0 z1 z2 z3 z4 z5 zl zf
 exact bodyPost_ret (v := .tuple #[vLay 0 0 0 0 0 0, .int .i64 2]) (by simp [results, Tryz.results63, go_sem, c0, c1, c2, c3, c4, c5]) rfl ⟨rfl, hx9⟩
set_option maxHeartbeats 800000 in
set_option maxRecDepth 100000 in
theorem iLayoutOf_d (nm : ByteArray) (K p k q co : Int) (ps pl : Option Addr) (cs cl : Nat) (ss ls : List Int) (n l : Int) (w : World) (hs : IntsAt w ps ss) (hlv : IntsAt w pl ls) (hn : nm.size ≤ 1048576) (hl1 : ss.length ≤ 1048576) (hl2 : ls.length ≤ 1048576) (hF0 : famOK nm K p k q ss co ls) (hm : n ∈ ss) (hlv2 : ¬ (0 ≤ l ∧ l ≤ (ls.length : Int) - 1)) :
  Calls Tryz.prog 63 #[vFam nm K p k q ps ss.length cs co pl ls.length cl, .int .i64 n, .int .i64 l] w fun e w' => e = .returned (.tuple #[vLay 0 0 0 0 0 0, .int .i64 2]) ∧ Ext w w' := by
 have HS := Lib.hid hs; have HLV := Lib.hid hlv; clear hs hlv
 have hbx := (Blk.new w #[.string nm, .int .i64 K, .int .i64 p, .int .i64 k, .int .i64 q, .slice ps ss.length cs, .int .i64 co, .slice pl ls.length cl] 55).alloc (.cells (lay6 0 0 0 0 0 0) 95)
 have h0 := Blk.new (w.alloc (.cells #[.string nm, .int .i64 K, .int .i64 p, .int .i64 k, .int .i64 q, .slice ps ss.length cs, .int .i64 co, .slice pl ls.length cl] 55)) (lay6 0 0 0 0 0 0) 95
 have hx0 : Ext w ((w.alloc (.cells #[.string nm, .int .i64 K, .int .i64 p, .int .i64 k, .int .i64 q, .slice ps ss.length cs, .int .i64 co, .slice pl ls.length cl] 55)).alloc (.cells (lay6 0 0 0 0 0 0) 95)) := ((Ext.refl w).alloc _).alloc _
 simp only [World.size_alloc] at h0
 have hwg := Nat.le_succ w.heap.size
 have hif := Lib.hid (fun W (h1 : IntsAt W ps ss) (h2 : IntsAt W pl ls) => iIsFamily_c nm K p k q co ps pl cs cl ss ls W h1 h2 hn hl1 hl2)
 have hhs := Lib.hid (fun W (h : IntsAt W ps ss) => hasSize_c nm K p k q co ps pl cs ls.length cl ss n W h hl1)
 have hhl := Lib.hid (fun W => iHasLevel_c nm K p k q co ps pl ss.length cs ls.length cl l W hl2)
 replace hF0 := Lib.hid hF0; replace hm := Lib.hid hm; replace hlv2 := Lib.hid hlv2
 go_enter Tryz.func63, Tryz.ntmps63
 go_wp2_with (first
  | (go_at_call 120; (with_reducible refine (hif.out _ (HS.out.ext hx0) (HLV.out.ext hx0)).mono ?_); rintro e w1 ⟨⟨hP, rfl⟩ | ⟨hP, rfl⟩, hx1⟩ <;> (first | exact absurd hF0.out hP | skip); have hb1 := hbx.ext hx1; obtain ⟨a0, a1, a2, a3, a4, a5, a6, a7⟩ := hb1.c8; have aL := hb1.lt)
  | (go_at_call 121; (with_reducible refine (hhs.out _ (HS.out.ext (hx0.trans hx1))).mono ?_); rintro e w5 ⟨⟨hQ, rfl⟩ | ⟨hQ, rfl⟩, hx5⟩ <;> (first | exact absurd hm.out hQ | skip); have hb5 := hb1.ext hx5; obtain ⟨e0, e1, e2, e3, e4, e5, e6, e7⟩ := hb5.c8; have eL := hb5.lt)
  | (go_at_call 122; (with_reducible refine (hhl.out _).mono ?_); rintro e w6 ⟨⟨hQ2, rfl⟩ | ⟨hQ2, rfl⟩, hx6⟩ <;> (first | exact absurd hQ2 hlv2.out | skip); have h4 := ((h0.ext hx1).ext hx5).ext hx6; obtain ⟨z0, z1, z2, z3, z4, z5⟩ := h4.c6; have zl := h4.lt; have zf := h4.free; have hx4 := ((hx0.trans hx1).trans hx5).trans hx6))
 clear a0 a1 a2 a3 a4 a5 a6 a7 aL e0 e1 e2 e3 e4 e5 e6 e7 eL
 have hF := h4.lay 0 0 0 0 0 0
 obtain ⟨c0, c1, c2, c3, c4, c5⟩ := hF.c6
 have hx9 := hx4.lay (g := w.heap.size + 1) hwg 0 0 0 0 0 0
 unfold setLay at c0 c1 c2 c3 c4 c5 hx9
 clear z0 z1 z2 z3 z4 z5 zl zf
 exact bodyPost_ret (v := .tuple #[vLay 0 0 0 0 0 0, .int .i64 2]) (by simp [results, Tryz.results63, go_sem, c0, c1, c2, c3, c4, c5]) rfl ⟨rfl, hx9⟩
set_option maxRecDepth 100000 in
theorem sCode_a (nm : ByteArray) (K p k q co : Int) (ps pl : Option Addr) (cs cl : Nat) (ss ls : List Int) (n : Int) (w : World) (hs : IntsAt w ps ss) (hlv : IntsAt w pl ls) (hn : nm.size ≤ 1048576) (hl1 : ss.length ≤ 1048576) (hl2 : ls.length ≤ 1048576) (hF0 : ¬ famOK nm K p k q ss co ls) :
  Calls Tryz.prog 108 #[vFam nm K p k q ps ss.length cs co pl ls.length cl, .int .i64 n] w fun e w' => e = .returned (.int .i64 1) ∧ Ext w w' := by
 have HS := Lib.hid hs; have HLV := Lib.hid hlv; clear hs hlv
 replace hF0 := Lib.hid hF0
 have hbx := Blk.new w #[.string nm, .int .i64 K, .int .i64 p, .int .i64 k, .int .i64 q, .slice ps ss.length cs, .int .i64 co, .slice pl ls.length cl] 55
 have hx0 : Ext w (w.alloc (.cells #[.string nm, .int .i64 K, .int .i64 p, .int .i64 k, .int .i64 q, .slice ps ss.length cs, .int .i64 co, .slice pl ls.length cl] 55)) := (Ext.refl w).alloc _
 have hif := Lib.hid (fun W (h1 : IntsAt W ps ss) (h2 : IntsAt W pl ls) => sIsFamily_c nm K p k q co ps pl cs cl ss ls W h1 h2 hn hl1 hl2)
 have hhs := Lib.hid (fun W (h : IntsAt W ps ss) => l05Has_c ps cs n ss W h hl1)
 go_enter Tryz.func108, Tryz.ntmps108
 go_wp2_with (first
  | (go_at_call 53; (with_reducible refine (hif.out _ (HS.out.ext hx0) (HLV.out.ext hx0)).mono ?_); rintro e w1 ⟨⟨hP, rfl⟩ | ⟨hP, rfl⟩, hx1⟩ <;> (first | exact absurd hP hF0.out | skip); have hb1 := hbx.ext hx1; have a5 := hb1.cell (i := 5) (v := .slice ps ss.length cs) rfl; have aL := hb1.lt))
 go_ret
 exact ⟨rfl, hx0.trans hx1⟩
set_option maxRecDepth 100000 in
theorem sCode_b (nm : ByteArray) (K p k q co : Int) (ps pl : Option Addr) (cs cl : Nat) (ss ls : List Int) (n : Int) (w : World) (hs : IntsAt w ps ss) (hlv : IntsAt w pl ls) (hn : nm.size ≤ 1048576) (hl1 : ss.length ≤ 1048576) (hl2 : ls.length ≤ 1048576) (hF0 : famOK nm K p k q ss co ls) (hm : ¬ n ∈ ss) :
  Calls Tryz.prog 108 #[vFam nm K p k q ps ss.length cs co pl ls.length cl, .int .i64 n] w fun e w' => e = .returned (.int .i64 2) ∧ Ext w w' := by
 have HS := Lib.hid hs; have HLV := Lib.hid hlv; clear hs hlv
 replace hm := Lib.hid hm; replace hF0 := Lib.hid hF0
 have hbx := Blk.new w #[.string nm, .int .i64 K, .int .i64 p, .int .i64 k, .int .i64 q, .slice ps ss.length cs, .int .i64 co, .slice pl ls.length cl] 55
 have hx0 : Ext w (w.alloc (.cells #[.string nm, .int .i64 K, .int .i64 p, .int .i64 k, .int .i64 q, .slice ps ss.length cs, .int .i64 co, .slice pl ls.length cl] 55)) := (Ext.refl w).alloc _
 have hif := Lib.hid (fun W (h1 : IntsAt W ps ss) (h2 : IntsAt W pl ls) => sIsFamily_c nm K p k q co ps pl cs cl ss ls W h1 h2 hn hl1 hl2)
 have hhs := Lib.hid (fun W (h : IntsAt W ps ss) => l05Has_c ps cs n ss W h hl1)
 go_enter Tryz.func108, Tryz.ntmps108
 go_wp2_with (first
  | (go_at_call 53; (with_reducible refine (hif.out _ (HS.out.ext hx0) (HLV.out.ext hx0)).mono ?_); rintro e w1 ⟨⟨hP, rfl⟩ | ⟨hP, rfl⟩, hx1⟩ <;> (first | exact absurd hF0.out hP | skip); have hb1 := hbx.ext hx1; have a5 := hb1.cell (i := 5) (v := .slice ps ss.length cs) rfl; have aL := hb1.lt)
  | (go_at_call 74; (with_reducible refine (hhs.out _ (HS.out.ext (hx0.trans hx1))).mono ?_); rintro e w2 ⟨⟨hQ, rfl⟩ | ⟨hQ, rfl⟩, hx2⟩ <;> (first | exact absurd hQ hm.out | skip)))
 go_ret
 exact ⟨rfl, (hx0.trans hx1).trans hx2⟩
set_option maxHeartbeats 800000 in
set_option maxRecDepth 100000 in
theorem sLayoutOf_a (nm : ByteArray) (K p k q co : Int) (ps pl : Option Addr) (cs cl : Nat) (ss ls : List Int) (n l : Int) (w : World) (hs : IntsAt w ps ss) (hlv : IntsAt w pl ls) (hn : nm.size ≤ 1048576) (hl1 : ss.length ≤ 1048576) (hl2 : ls.length ≤ 1048576) (hF0 : ¬ famOK nm K p k q ss co ls) :
  Calls Tryz.prog 55 #[vFam nm K p k q ps ss.length cs co pl ls.length cl, .int .i64 n, .int .i64 l] w fun e w' => e = .returned (.tuple #[vLay 0 0 0 0 0 0, .int .i64 1]) ∧ Ext w w' := by
 have HS := Lib.hid hs; have HLV := Lib.hid hlv; clear hs hlv
 have hbx := (Blk.new w #[.string nm, .int .i64 K, .int .i64 p, .int .i64 k, .int .i64 q, .slice ps ss.length cs, .int .i64 co, .slice pl ls.length cl] 55).alloc (.cells (lay6 0 0 0 0 0 0) 95)
 have h0 := Blk.new (w.alloc (.cells #[.string nm, .int .i64 K, .int .i64 p, .int .i64 k, .int .i64 q, .slice ps ss.length cs, .int .i64 co, .slice pl ls.length cl] 55)) (lay6 0 0 0 0 0 0) 95
 have hx0 : Ext w ((w.alloc (.cells #[.string nm, .int .i64 K, .int .i64 p, .int .i64 k, .int .i64 q, .slice ps ss.length cs, .int .i64 co, .slice pl ls.length cl] 55)).alloc (.cells (lay6 0 0 0 0 0 0) 95)) := ((Ext.refl w).alloc _).alloc _
 simp only [World.size_alloc] at h0
 have hwg := Nat.le_succ w.heap.size
 have hcd := Lib.hid (fun W (h1 : IntsAt W ps ss) (h2 : IntsAt W pl ls) => sCode_a nm K p k q co ps pl cs cl ss ls n W h1 h2 hn hl1 hl2 hF0)
 go_enter Tryz.func55, Tryz.ntmps55
 go_wp2_with (go_at_call 108; (with_reducible refine (hcd.out _ (HS.out.ext hx0) (HLV.out.ext hx0)).mono ?_); rintro e w1 ⟨rfl, hx1⟩; have h4 := h0.ext hx1; obtain ⟨z0, z1, z2, z3, z4, z5⟩ := h4.c6; have zl := h4.lt; have zf := h4.free; have hx4 := hx0.trans hx1)
 have hF := h4.lay 0 0 0 0 0 0
 obtain ⟨c0, c1, c2, c3, c4, c5⟩ := hF.c6
 have hx9 := hx4.lay (g := w.heap.size + 1) hwg 0 0 0 0 0 0
 unfold setLay at c0 c1 c2 c3 c4 c5 hx9
 clear z0 z1 z2 z3 z4 z5 zl zf
 exact bodyPost_ret (v := .tuple #[vLay 0 0 0 0 0 0, .int .i64 1]) (by simp [results, Tryz.results55, go_sem, c0, c1, c2, c3, c4, c5]) rfl ⟨rfl, hx9⟩
set_option maxHeartbeats 800000 in
set_option maxRecDepth 100000 in
theorem sLayoutOf_b (nm : ByteArray) (K p k q co : Int) (ps pl : Option Addr) (cs cl : Nat) (ss ls : List Int) (n l : Int) (w : World) (hs : IntsAt w ps ss) (hlv : IntsAt w pl ls) (hn : nm.size ≤ 1048576) (hl1 : ss.length ≤ 1048576) (hl2 : ls.length ≤ 1048576) (hF0 : famOK nm K p k q ss co ls) (hm : ¬ n ∈ ss) :
  Calls Tryz.prog 55 #[vFam nm K p k q ps ss.length cs co pl ls.length cl, .int .i64 n, .int .i64 l] w fun e w' => e = .returned (.tuple #[vLay 0 0 0 0 0 0, .int .i64 2]) ∧ Ext w w' := by
 have HS := Lib.hid hs; have HLV := Lib.hid hlv; clear hs hlv
 have hbx := (Blk.new w #[.string nm, .int .i64 K, .int .i64 p, .int .i64 k, .int .i64 q, .slice ps ss.length cs, .int .i64 co, .slice pl ls.length cl] 55).alloc (.cells (lay6 0 0 0 0 0 0) 95)
 have h0 := Blk.new (w.alloc (.cells #[.string nm, .int .i64 K, .int .i64 p, .int .i64 k, .int .i64 q, .slice ps ss.length cs, .int .i64 co, .slice pl ls.length cl] 55)) (lay6 0 0 0 0 0 0) 95
 have hx0 : Ext w ((w.alloc (.cells #[.string nm, .int .i64 K, .int .i64 p, .int .i64 k, .int .i64 q, .slice ps ss.length cs, .int .i64 co, .slice pl ls.length cl] 55)).alloc (.cells (lay6 0 0 0 0 0 0) 95)) := ((Ext.refl w).alloc _).alloc _
 simp only [World.size_alloc] at h0
 have hwg := Nat.le_succ w.heap.size
 have hcd := Lib.hid (fun W (h1 : IntsAt W ps ss) (h2 : IntsAt W pl ls) => sCode_b nm K p k q co ps pl cs cl ss ls n W h1 h2 hn hl1 hl2 hF0 hm)
 go_enter Tryz.func55, Tryz.ntmps55
 go_wp2_with (go_at_call 108; (with_reducible refine (hcd.out _ (HS.out.ext hx0) (HLV.out.ext hx0)).mono ?_); rintro e w1 ⟨rfl, hx1⟩; have h4 := h0.ext hx1; obtain ⟨z0, z1, z2, z3, z4, z5⟩ := h4.c6; have zl := h4.lt; have zf := h4.free; have hx4 := hx0.trans hx1)
 have hF := h4.lay 0 0 0 0 0 0
 obtain ⟨c0, c1, c2, c3, c4, c5⟩ := hF.c6
 have hx9 := hx4.lay (g := w.heap.size + 1) hwg 0 0 0 0 0 0
 unfold setLay at c0 c1 c2 c3 c4 c5 hx9
 clear z0 z1 z2 z3 z4 z5 zl zf
 exact bodyPost_ret (v := .tuple #[vLay 0 0 0 0 0 0, .int .i64 2]) (by simp [results, Tryz.results55, go_sem, c0, c1, c2, c3, c4, c5]) rfl ⟨rfl, hx9⟩
set_option maxHeartbeats 800000 in
set_option maxRecDepth 100000 in
theorem sLayoutOf_d (nm : ByteArray) (K p k q co : Int) (ps pl : Option Addr) (cs cl : Nat) (ss ls : List Int) (n l : Int) (w : World) (hs : IntsAt w ps ss) (hlv : IntsAt w pl ls) (hn : nm.size ≤ 1048576) (hl1 : ss.length ≤ 1048576) (hl2 : ls.length ≤ 1048576) (hF0 : famOK nm K p k q ss co ls) (hm : n ∈ ss) (hlv2 : ¬ (0 ≤ l ∧ l ≤ (ls.length : Int) - 1)) :
  Calls Tryz.prog 55 #[vFam nm K p k q ps ss.length cs co pl ls.length cl, .int .i64 n, .int .i64 l] w fun e w' => e = .returned (.tuple #[vLay 0 0 0 0 0 0, .int .i64 2]) ∧ Ext w w' := by
 have HS := Lib.hid hs; have HLV := Lib.hid hlv; clear hs hlv
 have hbx := (Blk.new w #[.string nm, .int .i64 K, .int .i64 p, .int .i64 k, .int .i64 q, .slice ps ss.length cs, .int .i64 co, .slice pl ls.length cl] 55).alloc (.cells (lay6 0 0 0 0 0 0) 95)
 have h0 := Blk.new (w.alloc (.cells #[.string nm, .int .i64 K, .int .i64 p, .int .i64 k, .int .i64 q, .slice ps ss.length cs, .int .i64 co, .slice pl ls.length cl] 55)) (lay6 0 0 0 0 0 0) 95
 have hx0 : Ext w ((w.alloc (.cells #[.string nm, .int .i64 K, .int .i64 p, .int .i64 k, .int .i64 q, .slice ps ss.length cs, .int .i64 co, .slice pl ls.length cl] 55)).alloc (.cells (lay6 0 0 0 0 0 0) 95)) := ((Ext.refl w).alloc _).alloc _
 simp only [World.size_alloc] at h0
 have hwg := Nat.le_succ w.heap.size
 have hcd := Lib.hid (fun W (h1 : IntsAt W ps ss) (h2 : IntsAt W pl ls) => sCodeY_c nm K p k q co ps pl cs cl ss ls W h1 h2 hn hl1 hl2 hF0 hm)
 replace hlv2 := Lib.hid hlv2
 go_enter Tryz.func55, Tryz.ntmps55
 go_wp2_with (first
  | (go_at_call 108; (with_reducible refine (hcd.out _ (HS.out.ext hx0) (HLV.out.ext hx0)).mono ?_); rintro e w1 ⟨rfl, hx1⟩; have hb1 := hbx.ext hx1; have a7 := hb1.cell (i := 7) (v := .slice pl ls.length cl) rfl; have aL := hb1.lt; have h4 := h0.ext hx1; obtain ⟨z0, z1, z2, z3, z4, z5⟩ := h4.c6; have zl := h4.lt; have zf := h4.free; have hx4 := hx0.trans hx1)
  | (go_at_call 29; (with_reducible refine (l01In_c _ _ _ _).mono ?_); rintro e w1' ⟨⟨hP', rfl⟩ | ⟨hP', rfl⟩, rfl⟩ <;> (first | exact absurd hP' hlv2.out | skip)))
 have hF := h4.lay 0 0 0 0 0 0
 obtain ⟨c0, c1, c2, c3, c4, c5⟩ := hF.c6
 have hx9 := hx4.lay (g := w.heap.size + 1) hwg 0 0 0 0 0 0
 unfold setLay at c0 c1 c2 c3 c4 c5 hx9
 clear z0 z1 z2 z3 z4 z5 zl zf
 exact bodyPost_ret (v := .tuple #[vLay 0 0 0 0 0 0, .int .i64 2]) (by simp [results, Tryz.results55, go_sem, c0, c1, c2, c3, c4, c5]) rfl ⟨rfl, hx9⟩
theorem iLayoutOf_g (nm : ByteArray) (K p k q co : Int) (ps pl : Option Addr) (cs cl : Nat) (ss ls : List Int) (n l : Int) (w : World) (hs : IntsAt w ps ss) (hlv : IntsAt w pl ls) (hn : nm.size ≤ 1048576) (hl1 : ss.length ≤ 1048576) (hl2 : ls.length ≤ 1048576) :
  Calls Tryz.prog 63 #[vFam nm K p k q ps ss.length cs co pl ls.length cl, .int .i64 n, .int .i64 l] w fun e w' => LoE p k q (lyD K p k co n (ls.getD l.toNat 0)) (lyC K p k co n (ls.getD l.toNat 0)) (lyN K p k co n) (loC nm K p k q ss co ls n l) e ∧ Ext w w' := by
 by_cases hF : famOK nm K p k q ss co ls
 ·by_cases hm : n ∈ ss
  ·by_cases hl : 0 ≤ l ∧ l ≤ (ls.length : Int) - 1
   ·obtain ⟨i, hi, e0⟩ := List.getElem_of_mem hm
    have e1 : ss.getD i 0 = n := by rw [List.getD_eq_getElem?_getD, List.getElem?_eq_getElem hi, e0]; rfl
    obtain ⟨m, rfl⟩ : ∃ m : Nat, l = m := ⟨l.toNat, by omega⟩
    have h := iLayoutOf_c nm K p k q co ps pl cs cl m ss ls w hs hlv hn hl1 hl2 hF hi (by omega)
    rw [e1] at h
    refine h.mono ?_
    rintro e w' ⟨⟨a0, a1, a2, a3, a4, a5, c, rfl, hR⟩, hx⟩
    refine ⟨?_, hx⟩
    have h2 : n ∈ ss ∧ (0 : Int) ≤ (m : Int) ∧ (m : Int) < ls.length := ⟨hm, by omega, by omega⟩
    rcases hR with ⟨h3, ⟨rfl, rfl, rfl, rfl, rfl, rfl⟩, rfl⟩ | ⟨h3, ⟨rfl, rfl, rfl, rfl, rfl, rfl⟩, rfl⟩
    ·exact .inl ⟨loC_0 hF h2 (by simpa using h3), by simp⟩
    ·rw [loC_3 hF h2 (by simpa using h3)]; exact .inr ⟨by decide, rfl⟩
   ·refine (iLayoutOf_d nm K p k q co ps pl cs cl ss ls n l w hs hlv hn hl1 hl2 hF hm hl).mono ?_
    rintro e w' ⟨rfl, hx⟩
    refine ⟨?_, hx⟩
    rw [loC_2 hF (fun h => hl ⟨h.2.1, by omega⟩)]; exact .inr ⟨by decide, rfl⟩
  ·refine (iLayoutOf_b nm K p k q co ps pl cs cl ss ls n l w hs hlv hn hl1 hl2 hF hm).mono ?_
   rintro e w' ⟨rfl, hx⟩
   refine ⟨?_, hx⟩
   rw [loC_2 hF (fun h => hm h.1)]; exact .inr ⟨by decide, rfl⟩
 ·refine (iLayoutOf_a nm K p k q co ps pl cs cl ss ls n l w hs hlv hn hl1 hl2 hF).mono ?_
  rintro e w' ⟨rfl, hx⟩
  refine ⟨?_, hx⟩
  rw [loC_1 hF]; exact .inr ⟨by decide, rfl⟩
theorem sLayoutOf_g (nm : ByteArray) (K p k q co : Int) (ps pl : Option Addr) (cs cl : Nat) (ss ls : List Int) (n l : Int) (w : World) (hs : IntsAt w ps ss) (hlv : IntsAt w pl ls) (hn : nm.size ≤ 1048576) (hl1 : ss.length ≤ 1048576) (hl2 : ls.length ≤ 1048576) :
  Calls Tryz.prog 55 #[vFam nm K p k q ps ss.length cs co pl ls.length cl, .int .i64 n, .int .i64 l] w fun e w' => LoE p k q (lyD K p k co n (ls.getD l.toNat 0)) (lyC K p k co n (ls.getD l.toNat 0)) (lyN K p k co n) (loC nm K p k q ss co ls n l) e ∧ Ext w w' := by
 by_cases hF : famOK nm K p k q ss co ls
 ·by_cases hm : n ∈ ss
  ·by_cases hl : 0 ≤ l ∧ l ≤ (ls.length : Int) - 1
   ·obtain ⟨i, hi, e0⟩ := List.getElem_of_mem hm
    have e1 : ss.getD i 0 = n := by rw [List.getD_eq_getElem?_getD, List.getElem?_eq_getElem hi, e0]; rfl
    obtain ⟨m, rfl⟩ : ∃ m : Nat, l = m := ⟨l.toNat, by omega⟩
    have h := sLayoutOf_c nm K p k q co ps pl cs cl m ss ls w hs hlv hn hl1 hl2 hF hi (by omega)
    rw [e1] at h
    refine h.mono ?_
    rintro e w' ⟨⟨a0, a1, a2, a3, a4, a5, c, rfl, hR⟩, hx⟩
    refine ⟨?_, hx⟩
    have h2 : n ∈ ss ∧ (0 : Int) ≤ (m : Int) ∧ (m : Int) < ls.length := ⟨hm, by omega, by omega⟩
    rcases hR with ⟨h3, ⟨rfl, rfl, rfl, rfl, rfl, rfl⟩, rfl⟩ | ⟨h3, ⟨rfl, rfl, rfl, rfl, rfl, rfl⟩, rfl⟩
    ·exact .inl ⟨loC_0 hF h2 (by simpa using h3), by simp⟩
    ·rw [loC_3 hF h2 (by simpa using h3)]; exact .inr ⟨by decide, rfl⟩
   ·refine (sLayoutOf_d nm K p k q co ps pl cs cl ss ls n l w hs hlv hn hl1 hl2 hF hm hl).mono ?_
    rintro e w' ⟨rfl, hx⟩
    refine ⟨?_, hx⟩
    rw [loC_2 hF (fun h => hl ⟨h.2.1, by omega⟩)]; exact .inr ⟨by decide, rfl⟩
  ·refine (sLayoutOf_b nm K p k q co ps pl cs cl ss ls n l w hs hlv hn hl1 hl2 hF hm).mono ?_
   rintro e w' ⟨rfl, hx⟩
   refine ⟨?_, hx⟩
   rw [loC_2 hF (fun h => hm h.1)]; exact .inr ⟨by decide, rfl⟩
 ·refine (sLayoutOf_a nm K p k q co ps pl cs cl ss ls n l w hs hlv hn hl1 hl2 hF).mono ?_
  rintro e w' ⟨rfl, hx⟩
  refine ⟨?_, hx⟩
  rw [loC_1 hF]; exact .inr ⟨by decide, rfl⟩
end Go.Proofs.YtdnkljpnhmcnpaaGreat
