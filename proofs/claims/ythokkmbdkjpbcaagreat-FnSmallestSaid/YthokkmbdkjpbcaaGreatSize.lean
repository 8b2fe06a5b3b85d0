
/- The layout of a symbol, on both sides. -/
import Derived.Test.YthokkmbdkjpbcaaGreatLayF
import Derived.Test.YthokkmbdkjpbcaaGreatGridLaw
/-! The layout of a symbol, on both sides. -/
namespace Go.Proofs.YthokkmbdkjpbcaaGreat
set_option linter.unusedVariables false
set_option linter.unusedSimpArgs false
open Go.RowKit

abbrev lay6 (a0 a1 a2 a3 a4 a5 : Int) : Array Value := #[.int .i64 a0, .int .i64 a1, .int .i64 a2, .int .i64 a3, .int .i64 a4, .int .i64 a5]
theorem allocL_op {Q : Exit → Act → World → Prop} {K : Act → World → Prop} {a : Act} {dst : Option Tmp} {ty : TypeId} {pos : String} {after : Array Edge} {w : World}
    (h : ∀ w' n, w.heap.size = n → n < w'.heap.size → Ext w w' → Blk w' n (lay6 0 0 0 0 0 0) 35 → K (a.put dst (.pointer (some ⟨n, 0, none⟩))) w') :
    Oper.wp Tryz.prog ⟨dst, .alloc 35, ty, pos, after, none⟩ a w K Q := by
  unfold Oper.wp execOp
  go_simp
  exact h _ _ rfl (by simp) ((Ext.refl w).alloc _) (Blk.new w _ _)
/-- A layout stored into its block. -/
def setLay (w : World) (g : Nat) (a0 a1 a2 a3 a4 a5 : Int) : World :=
  (((((w.setCell ⟨g, 0, none⟩ (.int .i64 a0)).setCell ⟨g, 1, none⟩ (.int .i64 a1)).setCell ⟨g, 2, none⟩ (.int .i64 a2)).setCell ⟨g, 3, none⟩ (.int .i64 a3)).setCell ⟨g, 4, none⟩ (.int .i64 a4)).setCell ⟨g, 5, none⟩ (.int .i64 a5)
theorem Blk.lay {w : World} {g : Nat} {b0 b1 b2 b3 b4 b5 : Int} {t : TypeId} (h : Blk w g (lay6 b0 b1 b2 b3 b4 b5) t) (a0 a1 a2 a3 a4 a5 : Int) : Blk (setLay w g a0 a1 a2 a3 a4 a5) g (lay6 a0 a1 a2 a3 a4 a5) t :=
  (((((h.set 0 (.int .i64 a0)).set 1 (.int .i64 a1)).set 2 (.int .i64 a2)).set 3 (.int .i64 a3)).set 4 (.int .i64 a4)).set 5 (.int .i64 a5)
theorem Ext.lay {a w : World} (h : Ext a w) {g : Nat} (hg : a.heap.size ≤ g) (a0 a1 a2 a3 a4 a5 : Int) : Ext a (setLay w g a0 a1 a2 a3 a4 a5) :=
  (((((h.setCell (p := ⟨g, 0, none⟩) hg _).setCell (p := ⟨g, 1, none⟩) hg _).setCell (p := ⟨g, 2, none⟩) hg _).setCell (p := ⟨g, 3, none⟩) hg _).setCell (p := ⟨g, 4, none⟩) hg _).setCell (p := ⟨g, 5, none⟩) hg _
theorem But.lay (w : World) (g : Nat) (a0 a1 a2 a3 a4 a5 : Int) : But g w (setLay w g a0 a1 a2 a3 a4 a5) := by
  unfold setLay
  exact (((((But.set w g 0 _).setG _).setG _).setG _).setG _).setG _
set_option maxRecDepth 100000 in
theorem storeL_op {Q : Exit → Act → World → Prop} {K : Act → World → Prop} {a : Act} {dst : Option Tmp} {ty : TypeId} {x y : Operand} {pos : String} {after : Array Edge} {w : World} {g : Nat} {b0 b1 b2 b3 b4 b5 a0 a1 a2 a3 a4 a5 : Int}
    (hq : Blk w g (lay6 b0 b1 b2 b3 b4 b5) 35) (hx : a.eval x = .pointer (some ⟨g, 0, none⟩)) (hy : a.eval y = vLay a0 a1 a2 a3 a4 a5)
    (h : ∀ w', (∀ c, Ext c w → c.heap.size ≤ g → Ext c w') → But g w w' → Blk w' g (lay6 a0 a1 a2 a3 a4 a5) 35 → K (a.put dst undef) w') :
    Oper.wp Tryz.prog ⟨dst, .store 35 x y, ty, pos, after, none⟩ a w K Q := by
  have c0 := hq.cell (i := 0) (v := .int .i64 b0) rfl; have c1 := hq.cell (i := 1) (v := .int .i64 b1) rfl; have c2 := hq.cell (i := 2) (v := .int .i64 b2) rfl; have c3 := hq.cell (i := 3) (v := .int .i64 b3) rfl; have c4 := hq.cell (i := 4) (v := .int .i64 b4) rfl; have c5 := hq.cell (i := 5) (v := .int .i64 b5) rfl; have cf := hq.free; have cl := hq.lt
  have hB := Lib.hid (But.lay w g a0 a1 a2 a3 a4 a5)
  have hq2 := Lib.hid (hq.lay a0 a1 a2 a3 a4 a5)
  have hE := Lib.hid (fun c (h : Ext c w) (hg : c.heap.size ≤ g) => h.lay hg a0 a1 a2 a3 a4 a5)
  unfold Oper.wp execOp
  simp only [hx, hy]
  go_simp
  exact h _ hE.out hB.out hq2.out
/-- What LayoutOf returns for a valid family, one of its sizes and one of its levels. -/
def LoR (p k q D C N a0 a1 a2 a3 a4 a5 c : Int) : Prop := (layOK p k q D C N ∧ (a0 = p ∧ a1 = k ∧ a2 = q ∧ a3 = D ∧ a4 = C ∧ a5 = N) ∧ c = 0) ∨ (¬ layOK p k q D C N ∧ (a0 = 0 ∧ a1 = 0 ∧ a2 = 0 ∧ a3 = 0 ∧ a4 = 0 ∧ a5 = 0) ∧ c = 3)
set_option maxRecDepth 100000 in
theorem sIndex_c (p : Option Addr) (k : Nat) (n : Int) (xs : List Int) (w : World) (hx : IntsAt w p xs) (hl : xs.length ≤ 1048576) :
    Calls Tryz.prog 76 #[.slice p xs.length k, .int .i64 n] w fun e w' => ∃ r : Int, e = .returned (.int .i64 r) ∧ (0 ≤ r ↔ n ∈ xs) ∧ w = w' := by
  have HX := Lib.hid hx; clear hx
  go_enter Tryz.func76, Tryz.ntmps76
  go_wp2
  go_loop [8] (fun i => ∃ j : Nat, j ≤ xs.length ∧ i = .int .i64 j ∧ Hid (¬ n ∈ xs.take j)) (fun i => xs.length - (intOf i).toNat)
  case atStart => exact ⟨0, Nat.zero_le _, rfl, Lib.hid (by simp)⟩
  case round =>
    obtain ⟨j, hj, rfl, hT⟩ := hrel
    by_cases hlt : j < xs.length
    · obtain ⟨b, o, rfl, hbl, z1⟩ := HX.out j hlt
      have hst : xs.getD j 0 ≠ n → ¬ n ∈ xs.take (j + 1) := fun h => by
        have := take_all (P := fun x => x ≠ n) hlt (fun x hm e => hT.out (by rw [← e]; exact hm)) h
        exact fun hm => this n hm rfl
      have hat : xs.getD j 0 = n → n ∈ xs := fun h => by
        rw [← h, List.getD_eq_getElem?_getD, List.getElem?_eq_getElem hlt]
        exact List.getElem_mem _
      generalize xs.getD j 0 = x at *
      have hst := Lib.hid hst
      have hat := Lib.hid hat
      by_cases h0 : n = x
      · have hd : (n == x) = true := by simpa using h0
        replace h0 := Lib.hid h0
        go_wp2
        go_ret
        exact ⟨j, rfl, ⟨fun _ => hat.out h0.out.symm, fun _ => by omega⟩, rfl⟩
      · have hd : (n == x) = false := by simpa using h0
        replace h0 := Lib.hid h0
        go_wp2
        go_round
        case rel => exact ⟨j + 1, hlt, by go_num, Lib.hid (hst.out (fun e => h0.out e.symm))⟩
        case measure => simp [intOf]; omega
    · obtain rfl : j = xs.length := by omega
      go_wp2
      go_ret
      exact ⟨-1, rfl, ⟨fun h => absurd h (by decide), fun h => absurd (by rwa [List.take_length]) hT.out⟩, rfl⟩
set_option maxRecDepth 100000 in
theorem sContains_c (p : Option Addr) (k : Nat) (n : Int) (xs : List Int) (w : World) (hx : IntsAt w p xs) (hl : xs.length ≤ 1048576) :
    Calls Tryz.prog 56 #[.slice p xs.length k, .int .i64 n] w fun e w' => isB e (n ∈ xs) ∧ w = w' := by
  have hin := Lib.hid (sIndex_c p k n xs w hx hl)
  clear hx
  go_enter Tryz.func56, Tryz.ntmps56
  go_wp2_with (go_at_call 76; (with_reducible refine hin.out.mono ?_); rintro e w1 ⟨r, rfl, hr, rfl⟩; replace hr := Lib.hid hr)
  go_ret
  exact ⟨isB_m (by rw [← hr.out]; simp), rfl⟩
set_option maxRecDepth 100000 in
theorem hasSize_c (nm : ByteArray) (K p k q co : Int) (ps pl : Option Addr) (cs nl cl : Nat) (ss : List Int) (n : Int) (w : World) (hs : IntsAt w ps ss) (hl1 : ss.length ≤ 1048576) :
    Calls Tryz.prog 26 #[vFam nm K p k q ps ss.length cs co pl nl cl, .int .i64 n] w fun e w' => isB e (n ∈ ss) ∧ Ext w w' := by
  have hx0 : Ext w (w.alloc (.cells #[.string nm, .int .i64 K, .int .i64 p, .int .i64 k, .int .i64 q, .slice ps ss.length cs, .int .i64 co, .slice pl nl cl] 28)) := (Ext.refl w).alloc _
  have hc := Lib.hid (sContains_c ps cs n ss _ (hs.ext hx0) hl1)
  clear hs
  go_enter Tryz.func26, Tryz.ntmps26
  go_wp2_with (go_at_call 56; (with_reducible refine hc.out.mono ?_); rintro e w1 ⟨⟨hP, rfl⟩ | ⟨hP, rfl⟩, rfl⟩)
  · go_ret
    exact ⟨isB_t hP, hx0⟩
  · go_ret
    exact ⟨isB_f hP, hx0⟩
set_option maxRecDepth 100000 in
theorem sCodeY_c (nm : ByteArray) (K p k q co : Int) (ps pl : Option Addr) (cs cl : Nat) (ss ls : List Int) (w : World) (hs : IntsAt w ps ss) (hlv : IntsAt w pl ls) (hn : nm.size ≤ 1048576) (hl1 : ss.length ≤ 1048576) (hl2 : ls.length ≤ 1048576) (hF : famOK nm K p k q ss co ls) {n : Int} (hm : n ∈ ss) :
    Calls Tryz.prog 48 #[vFam nm K p k q ps ss.length cs co pl ls.length cl, .int .i64 n] w fun e w' => e = .returned (.int .i64 0) ∧ Ext w w' := by
  have HS := Lib.hid hs; have HLV := Lib.hid hlv; clear hs hlv
  replace hF := Lib.hid hF; replace hm := Lib.hid hm
  have hbx := Blk.new w #[.string nm, .int .i64 K, .int .i64 p, .int .i64 k, .int .i64 q, .slice ps ss.length cs, .int .i64 co, .slice pl ls.length cl] 28
  have hx0 : Ext w (w.alloc (.cells #[.string nm, .int .i64 K, .int .i64 p, .int .i64 k, .int .i64 q, .slice ps ss.length cs, .int .i64 co, .slice pl ls.length cl] 28)) := (Ext.refl w).alloc _
  have hif := Lib.hid (fun W (h1 : IntsAt W ps ss) (h2 : IntsAt W pl ls) => sIsFamily_c nm K p k q co ps pl cs cl ss ls W h1 h2 hn hl1 hl2)
  have hhs := Lib.hid (fun W (h : IntsAt W ps ss) => l05Has_c ps cs n ss W h hl1)
  go_enter Tryz.func48, Tryz.ntmps48
  go_wp2_with (first
    | (go_at_call 19; (with_reducible refine (hif.out _ (HS.out.ext hx0) (HLV.out.ext hx0)).mono ?_); rintro e w1 ⟨⟨hP, rfl⟩ | ⟨hP, rfl⟩, hx1⟩ <;> (first | exact absurd hF.out hP | skip); have hb1 := hbx.ext hx1; have a5 := hb1.cell (i := 5) (v := .slice ps ss.length cs) rfl; have aL := hb1.lt)
    | (go_at_call 68; (with_reducible refine (hhs.out _ (HS.out.ext (hx0.trans hx1))).mono ?_); rintro e w2 ⟨⟨hQ, rfl⟩ | ⟨hQ, rfl⟩, hx2⟩ <;> (first | exact absurd hm.out hQ | skip)))
  go_ret
  exact ⟨rfl, (hx0.trans hx1).trans hx2⟩
set_option maxHeartbeats 800000 in
set_option maxRecDepth 100000 in
theorem sLayoutOf_c (nm : ByteArray) (K p k q co : Int) (ps pl : Option Addr) (cs cl l : Nat) (ss ls : List Int) (w : World) (hs : IntsAt w ps ss) (hlv : IntsAt w pl ls) (hn : nm.size ≤ 1048576) (hl1 : ss.length ≤ 1048576) (hl2 : ls.length ≤ 1048576) (hF : famOK nm K p k q ss co ls) {i : Nat} (hi : i < ss.length) (hl : l < ls.length) :
    Calls Tryz.prog 22 #[vFam nm K p k q ps ss.length cs co pl ls.length cl, .int .i64 (ss.getD i 0), .int .i64 l] w fun e w' => (∃ a0 a1 a2 a3 a4 a5 c, e = .returned (.tuple #[vLay a0 a1 a2 a3 a4 a5, .int .i64 c]) ∧ LoR p k q (lyD K p k co (ss.getD i 0) (ls.getD l 0)) (lyC K p k co (ss.getD i 0) (ls.getD l 0)) (lyN K p k co (ss.getD i 0)) a0 a1 a2 a3 a4 a5 c) ∧ Ext w w' := by
  have HS := Lib.hid hs; have HLV := Lib.hid hlv; clear hs hlv
  have hf := fam_fld hF
  have hsz := fam_size hF hi
  have hx := (hF.2.2.2.1 l hl).1
  have hm : ss.getD i 0 ∈ ss := by rw [List.getD_eq_getElem?_getD, List.getElem?_eq_getElem hi]; exact List.getElem_mem hi
  have hcd := Lib.hid (fun W (h1 : IntsAt W ps ss) (h2 : IntsAt W pl ls) => sCodeY_c nm K p k q co ps pl cs cl ss ls W h1 h2 hn hl1 hl2 hF hm)
  have hly := Lib.hid (fun W (h : IntsAt W pl ls) => sLay_c nm K p k q co ps pl ss.length cs cl l ls (ss.getD i 0) W h hl hl2 hx hf hsz)
  have hbd := ly_bd (co := co) (x := ls.getD l 0) hf hsz
  generalize ss.getD i 0 = n at *
  generalize ls.getD l 0 = x at *
  clear hF hm hx hsz hf
  generalize lyD K p k co n x = D at *
  generalize lyC K p k co n x = C at *
  generalize lyN K p k co n = N at *
  have hil := Lib.hid (fun W => sIsLayout_c p k q D C N W hbd.1 hbd.2.1 hbd.2.2)
  have hbx := (Blk.new w #[.string nm, .int .i64 K, .int .i64 p, .int .i64 k, .int .i64 q, .slice ps ss.length cs, .int .i64 co, .slice pl ls.length cl] 28).alloc (.cells (lay6 0 0 0 0 0 0) 35)
  have h0 := Blk.new (w.alloc (.cells #[.string nm, .int .i64 K, .int .i64 p, .int .i64 k, .int .i64 q, .slice ps ss.length cs, .int .i64 co, .slice pl ls.length cl] 28)) (lay6 0 0 0 0 0 0) 35
  have hx0 : Ext w ((w.alloc (.cells #[.string nm, .int .i64 K, .int .i64 p, .int .i64 k, .int .i64 q, .slice ps ss.length cs, .int .i64 co, .slice pl ls.length cl] 28)).alloc (.cells (lay6 0 0 0 0 0 0) 35)) := ((Ext.refl w).alloc _).alloc _
  simp only [World.size_alloc] at h0
  have hll : (l : Int) ≤ (ls.length : Int) - 1 := by omega
  have hl0 : (0 : Int) ≤ (l : Int) := by omega
  go_enter Tryz.func22, Tryz.ntmps22
  go_upto_region 6 with (first
    | (go_at_call 48; (with_reducible refine (hcd.out _ (HS.out.ext hx0) (HLV.out.ext hx0)).mono ?_); rintro e w1 ⟨rfl, hx1⟩; have hb1 := hbx.ext hx1; have a7 := hb1.cell (i := 7) (v := .slice pl ls.length cl) rfl; have aL := hb1.lt)
    | (go_at_call 20; (with_reducible refine (l01In_c _ _ _ _).mono ?_); rintro e w1' ⟨⟨hP', rfl⟩ | ⟨hP', rfl⟩, rfl⟩ <;> first | (exfalso; omega) | skip))
  have a0 := hb1.cell (i := 0) (v := .string nm) rfl; have a1 := hb1.cell (i := 1) (v := .int .i64 K) rfl; have a2 := hb1.cell (i := 2) (v := .int .i64 p) rfl; have a3 := hb1.cell (i := 3) (v := .int .i64 k) rfl; have a4 := hb1.cell (i := 4) (v := .int .i64 q) rfl; have a5 := hb1.cell (i := 5) (v := .slice ps ss.length cs) rfl; have a6 := hb1.cell (i := 6) (v := .int .i64 co) rfl
  have h1 := h0.ext hx1
  have hx01 := hx0.trans hx1
  go_upto_region 7 with (go_at_call 49; (with_reducible refine (hly.out _ (HLV.out.ext hx01)).mono ?_); rintro e w2 ⟨rfl, hx2⟩)
  have hg3 := Blk.new w2 #[.int .i64 p, .int .i64 k, .int .i64 q, .int .i64 D, .int .i64 C, .int .i64 N] 35
  have hx03 := (hx01.trans hx2).alloc (.cells #[.int .i64 p, .int .i64 k, .int .i64 q, .int .i64 D, .int .i64 C, .int .i64 N] 35)
  have h3 := (h1.ext hx2).alloc (.cells #[.int .i64 p, .int .i64 k, .int .i64 q, .int .i64 D, .int .i64 C, .int .i64 N] 35)
  have hlt : w.heap.size + 1 < w2.heap.size := (h1.ext hx2).lt
  clear hb1 h1 hx01 hx1 hx2 a0 a1 a2 a3 a4 a5 a6 a7 aL h0 hbx hx0
  generalize w2.alloc (.cells #[.int .i64 p, .int .i64 k, .int .i64 q, .int .i64 D, .int .i64 C, .int .i64 N] 35) = w3 at *
  generalize w2.heap.size = g9 at *
  have d0 := hg3.cell (i := 0) (v := .int .i64 p) rfl; have d1 := hg3.cell (i := 1) (v := .int .i64 k) rfl; have d2 := hg3.cell (i := 2) (v := .int .i64 q) rfl; have d3 := hg3.cell (i := 3) (v := .int .i64 D) rfl; have d4 := hg3.cell (i := 4) (v := .int .i64 C) rfl; have d5 := hg3.cell (i := 5) (v := .int .i64 N) rfl; have dL := hg3.lt
  have hwg := Nat.le_succ w.heap.size
  go_wp2_with (go_at_call 50; (with_reducible refine (hil.out _).mono ?_); rintro e w4 ⟨⟨hP, rfl⟩ | ⟨hP, rfl⟩, hx4⟩ <;> (have h4 := h3.ext hx4; have g4 := hg3.ext hx4; have f0 := g4.cell (i := 0) (v := .int .i64 p) rfl; have f1 := g4.cell (i := 1) (v := .int .i64 k) rfl; have f2 := g4.cell (i := 2) (v := .int .i64 q) rfl; have f3 := g4.cell (i := 3) (v := .int .i64 D) rfl; have f4 := g4.cell (i := 4) (v := .int .i64 C) rfl; have f5 := g4.cell (i := 5) (v := .int .i64 N) rfl; have fL := g4.lt; have z0 := h4.cell (i := 0) (v := .int .i64 0) rfl; have z1 := h4.cell (i := 1) (v := .int .i64 0) rfl; have z2 := h4.cell (i := 2) (v := .int .i64 0) rfl; have z3 := h4.cell (i := 3) (v := .int .i64 0) rfl; have z4 := h4.cell (i := 4) (v := .int .i64 0) rfl; have z5 := h4.cell (i := 5) (v := .int .i64 0) rfl; have zl := h4.lt; have zf := h4.free))
  · have hF := h4.lay p k q D C N
    have c0 := hF.cell (i := 0) (v := .int .i64 p) rfl; have c1 := hF.cell (i := 1) (v := .int .i64 k) rfl; have c2 := hF.cell (i := 2) (v := .int .i64 q) rfl; have c3 := hF.cell (i := 3) (v := .int .i64 D) rfl; have c4 := hF.cell (i := 4) (v := .int .i64 C) rfl; have c5 := hF.cell (i := 5) (v := .int .i64 N) rfl
    have hx9 := (hx03.trans hx4).lay (g := w.heap.size + 1) hwg p k q D C N
    unfold setLay at c0 c1 c2 c3 c4 c5 hx9
    clear z0 z1 z2 z3 z4 z5 zl zf f0 f1 f2 f3 f4 f5 fL d0 d1 d2 d3 d4 d5 dL
    exact bodyPost_ret (v := .tuple #[vLay p k q D C N, .int .i64 0]) (by simp [results, Tryz.results22, go_sem, c0, c1, c2, c3, c4, c5]) rfl ⟨⟨p, k, q, D, C, N, 0, rfl, .inl ⟨hP, ⟨rfl, rfl, rfl, rfl, rfl, rfl⟩, rfl⟩⟩, hx9⟩
  · have hF := h4.lay 0 0 0 0 0 0
    have c0 := hF.cell (i := 0) (v := .int .i64 0) rfl; have c1 := hF.cell (i := 1) (v := .int .i64 0) rfl; have c2 := hF.cell (i := 2) (v := .int .i64 0) rfl; have c3 := hF.cell (i := 3) (v := .int .i64 0) rfl; have c4 := hF.cell (i := 4) (v := .int .i64 0) rfl; have c5 := hF.cell (i := 5) (v := .int .i64 0) rfl
    have hx9 := (hx03.trans hx4).lay (g := w.heap.size + 1) hwg 0 0 0 0 0 0
    unfold setLay at c0 c1 c2 c3 c4 c5 hx9
    clear z0 z1 z2 z3 z4 z5 zl zf f0 f1 f2 f3 f4 f5 fL d0 d1 d2 d3 d4 d5 dL
    exact bodyPost_ret (v := .tuple #[vLay 0 0 0 0 0 0, .int .i64 3]) (by simp [results, Tryz.results22, go_sem, c0, c1, c2, c3, c4, c5]) rfl ⟨⟨0, 0, 0, 0, 0, 0, 3, rfl, .inr ⟨hP, ⟨rfl, rfl, rfl, rfl, rfl, rfl⟩, rfl⟩⟩, hx9⟩
set_option maxHeartbeats 800000 in
set_option maxRecDepth 100000 in
theorem iLayoutOf_c (nm : ByteArray) (K p k q co : Int) (ps pl : Option Addr) (cs cl l : Nat) (ss ls : List Int) (w : World) (hs : IntsAt w ps ss) (hlv : IntsAt w pl ls) (hn : nm.size ≤ 1048576) (hl1 : ss.length ≤ 1048576) (hl2 : ls.length ≤ 1048576) (hF : famOK nm K p k q ss co ls) {i : Nat} (hi : i < ss.length) (hl : l < ls.length) :
    Calls Tryz.prog 9 #[vFam nm K p k q ps ss.length cs co pl ls.length cl, .int .i64 (ss.getD i 0), .int .i64 l] w fun e w' => (∃ a0 a1 a2 a3 a4 a5 c, e = .returned (.tuple #[vLay a0 a1 a2 a3 a4 a5, .int .i64 c]) ∧ LoR p k q (lyD K p k co (ss.getD i 0) (ls.getD l 0)) (lyC K p k co (ss.getD i 0) (ls.getD l 0)) (lyN K p k co (ss.getD i 0)) a0 a1 a2 a3 a4 a5 c) ∧ Ext w w' := by
  have HS := Lib.hid hs; have HLV := Lib.hid hlv; clear hs hlv
  have hf := fam_fld hF
  have hsz := fam_size hF hi
  have hx := (hF.2.2.2.1 l hl).1
  have hm : ss.getD i 0 ∈ ss := by rw [List.getD_eq_getElem?_getD, List.getElem?_eq_getElem hi]; exact List.getElem_mem hi
  have hif := Lib.hid (fun W (h1 : IntsAt W ps ss) (h2 : IntsAt W pl ls) => iIsFamily_c nm K p k q co ps pl cs cl ss ls W h1 h2 hn hl1 hl2)
  have hhs := Lib.hid (fun W (h : IntsAt W ps ss) => hasSize_c nm K p k q co ps pl cs ls.length cl ss (ss.getD i 0) W h hl1)
  have hhl := Lib.hid (fun W => iHasLevel_c nm K p k q co ps pl ss.length cs ls.length cl l W hl2)
  replace hF := Lib.hid hF; replace hm := Lib.hid hm
  have hly := Lib.hid (fun W (h : IntsAt W pl ls) => iLay_c nm K p k q co ps pl ss.length cs cl l ls (ss.getD i 0) W h hl hl2 hx hf hsz)
  have hbd := ly_bd (co := co) (x := ls.getD l 0) hf hsz
  generalize ss.getD i 0 = n at *
  generalize ls.getD l 0 = x at *
  clear hx hsz hf
  generalize lyD K p k co n x = D at *
  generalize lyC K p k co n x = C at *
  generalize lyN K p k co n = N at *
  have hil := Lib.hid (fun W => iIsLayout_c p k q D C N W hbd.1 hbd.2.1 hbd.2.2)
  have hbx := (Blk.new w #[.string nm, .int .i64 K, .int .i64 p, .int .i64 k, .int .i64 q, .slice ps ss.length cs, .int .i64 co, .slice pl ls.length cl] 28).alloc (.cells (lay6 0 0 0 0 0 0) 35)
  have h0 := Blk.new (w.alloc (.cells #[.string nm, .int .i64 K, .int .i64 p, .int .i64 k, .int .i64 q, .slice ps ss.length cs, .int .i64 co, .slice pl ls.length cl] 28)) (lay6 0 0 0 0 0 0) 35
  have hx0 : Ext w ((w.alloc (.cells #[.string nm, .int .i64 K, .int .i64 p, .int .i64 k, .int .i64 q, .slice ps ss.length cs, .int .i64 co, .slice pl ls.length cl] 28)).alloc (.cells (lay6 0 0 0 0 0 0) 35)) := ((Ext.refl w).alloc _).alloc _
  simp only [World.size_alloc] at h0
  have hll : (l : Int) ≤ (ls.length : Int) - 1 := by omega
  have hl0 : (0 : Int) ≤ (l : Int) := by omega
  go_enter Tryz.func9, Tryz.ntmps9
  go_upto_region 5 with (first
    | (go_at_call 14; (with_reducible refine (hif.out _ (HS.out.ext hx0) (HLV.out.ext hx0)).mono ?_); rintro e w1 ⟨⟨hP, rfl⟩ | ⟨hP, rfl⟩, hx1⟩ <;> (first | exact absurd hF.out hP | skip); have hb1 := hbx.ext hx1; have a0 := hb1.cell (i := 0) (v := .string nm) rfl; have a1 := hb1.cell (i := 1) (v := .int .i64 K) rfl; have a2 := hb1.cell (i := 2) (v := .int .i64 p) rfl; have a3 := hb1.cell (i := 3) (v := .int .i64 k) rfl; have a4 := hb1.cell (i := 4) (v := .int .i64 q) rfl; have a5 := hb1.cell (i := 5) (v := .slice ps ss.length cs) rfl; have a6 := hb1.cell (i := 6) (v := .int .i64 co) rfl; have a7 := hb1.cell (i := 7) (v := .slice pl ls.length cl) rfl; have aL := hb1.lt)
    | (go_at_call 26; (with_reducible refine (hhs.out _ (HS.out.ext (hx0.trans hx1))).mono ?_); rintro e w5 ⟨⟨hQ, rfl⟩ | ⟨hQ, rfl⟩, hx5⟩ <;> (first | exact absurd hm.out hQ | skip); have hb5 := hb1.ext hx5; have e0 := hb5.cell (i := 0) (v := .string nm) rfl; have e1 := hb5.cell (i := 1) (v := .int .i64 K) rfl; have e2 := hb5.cell (i := 2) (v := .int .i64 p) rfl; have e3 := hb5.cell (i := 3) (v := .int .i64 k) rfl; have e4 := hb5.cell (i := 4) (v := .int .i64 q) rfl; have e5 := hb5.cell (i := 5) (v := .slice ps ss.length cs) rfl; have e6 := hb5.cell (i := 6) (v := .int .i64 co) rfl; have e7 := hb5.cell (i := 7) (v := .slice pl ls.length cl) rfl; have eL := hb5.lt)
    | (go_at_call 15; (with_reducible refine (hhl.out _).mono ?_); rintro e w6 ⟨⟨hQ2, rfl⟩ | ⟨hQ2, rfl⟩, hx6⟩ <;> (first | exact absurd ⟨hl0, hll⟩ hQ2 | skip)))
  have hb6 := hb5.ext hx6
  clear a0 a1 a2 a3 a4 a5 a6 a7 aL e0 e1 e2 e3 e4 e5 e6 e7 eL hb5
  have hx1 := (hx1.trans hx5).trans hx6
  have hb1 := hb6
  have a0 := hb1.cell (i := 0) (v := .string nm) rfl; have a1 := hb1.cell (i := 1) (v := .int .i64 K) rfl; have a2 := hb1.cell (i := 2) (v := .int .i64 p) rfl; have a3 := hb1.cell (i := 3) (v := .int .i64 k) rfl; have a4 := hb1.cell (i := 4) (v := .int .i64 q) rfl; have a5 := hb1.cell (i := 5) (v := .slice ps ss.length cs) rfl; have a6 := hb1.cell (i := 6) (v := .int .i64 co) rfl; have a7 := hb1.cell (i := 7) (v := .slice pl ls.length cl) rfl; have aL := hb1.lt
  have h1 := h0.ext hx1
  have hx01 := hx0.trans hx1
  go_upto_region 6 with (go_at_call 17; (with_reducible refine (hly.out _ (HLV.out.ext hx01)).mono ?_); rintro e w2 ⟨rfl, hx2⟩)
  have hg3 := Blk.new w2 #[.int .i64 p, .int .i64 k, .int .i64 q, .int .i64 D, .int .i64 C, .int .i64 N] 35
  have hx03 := (hx01.trans hx2).alloc (.cells #[.int .i64 p, .int .i64 k, .int .i64 q, .int .i64 D, .int .i64 C, .int .i64 N] 35)
  have h3 := (h1.ext hx2).alloc (.cells #[.int .i64 p, .int .i64 k, .int .i64 q, .int .i64 D, .int .i64 C, .int .i64 N] 35)
  have hlt : w.heap.size + 1 < w2.heap.size := (h1.ext hx2).lt
  clear hb1 h1 hx01 hx1 hx2 a0 a1 a2 a3 a4 a5 a6 a7 aL h0 hbx hx0
  generalize w2.alloc (.cells #[.int .i64 p, .int .i64 k, .int .i64 q, .int .i64 D, .int .i64 C, .int .i64 N] 35) = w3 at *
  generalize w2.heap.size = g9 at *
  have d0 := hg3.cell (i := 0) (v := .int .i64 p) rfl; have d1 := hg3.cell (i := 1) (v := .int .i64 k) rfl; have d2 := hg3.cell (i := 2) (v := .int .i64 q) rfl; have d3 := hg3.cell (i := 3) (v := .int .i64 D) rfl; have d4 := hg3.cell (i := 4) (v := .int .i64 C) rfl; have d5 := hg3.cell (i := 5) (v := .int .i64 N) rfl; have dL := hg3.lt
  have hwg := Nat.le_succ w.heap.size
  go_wp2_with (go_at_call 18; (with_reducible refine (hil.out _).mono ?_); rintro e w4 ⟨⟨hP, rfl⟩ | ⟨hP, rfl⟩, hx4⟩ <;> (have h4 := h3.ext hx4; have g4 := hg3.ext hx4; have f0 := g4.cell (i := 0) (v := .int .i64 p) rfl; have f1 := g4.cell (i := 1) (v := .int .i64 k) rfl; have f2 := g4.cell (i := 2) (v := .int .i64 q) rfl; have f3 := g4.cell (i := 3) (v := .int .i64 D) rfl; have f4 := g4.cell (i := 4) (v := .int .i64 C) rfl; have f5 := g4.cell (i := 5) (v := .int .i64 N) rfl; have fL := g4.lt; have z0 := h4.cell (i := 0) (v := .int .i64 0) rfl; have z1 := h4.cell (i := 1) (v := .int .i64 0) rfl; have z2 := h4.cell (i := 2) (v := .int .i64 0) rfl; have z3 := h4.cell (i := 3) (v := .int .i64 0) rfl; have z4 := h4.cell (i := 4) (v := .int .i64 0) rfl; have z5 := h4.cell (i := 5) (v := .int .i64 0) rfl; have zl := h4.lt; have zf := h4.free))
  · have hF := h4.lay p k q D C N
    have c0 := hF.cell (i := 0) (v := .int .i64 p) rfl; have c1 := hF.cell (i := 1) (v := .int .i64 k) rfl; have c2 := hF.cell (i := 2) (v := .int .i64 q) rfl; have c3 := hF.cell (i := 3) (v := .int .i64 D) rfl; have c4 := hF.cell (i := 4) (v := .int .i64 C) rfl; have c5 := hF.cell (i := 5) (v := .int .i64 N) rfl
    have hx9 := (hx03.trans hx4).lay (g := w.heap.size + 1) hwg p k q D C N
    unfold setLay at c0 c1 c2 c3 c4 c5 hx9
    clear z0 z1 z2 z3 z4 z5 zl zf f0 f1 f2 f3 f4 f5 fL d0 d1 d2 d3 d4 d5 dL
    exact bodyPost_ret (v := .tuple #[vLay p k q D C N, .int .i64 0]) (by simp [results, Tryz.results9, go_sem, c0, c1, c2, c3, c4, c5]) rfl ⟨⟨p, k, q, D, C, N, 0, rfl, .inl ⟨hP, ⟨rfl, rfl, rfl, rfl, rfl, rfl⟩, rfl⟩⟩, hx9⟩
  · have hF := h4.lay 0 0 0 0 0 0
    have c0 := hF.cell (i := 0) (v := .int .i64 0) rfl; have c1 := hF.cell (i := 1) (v := .int .i64 0) rfl; have c2 := hF.cell (i := 2) (v := .int .i64 0) rfl; have c3 := hF.cell (i := 3) (v := .int .i64 0) rfl; have c4 := hF.cell (i := 4) (v := .int .i64 0) rfl; have c5 := hF.cell (i := 5) (v := .int .i64 0) rfl
    have hx9 := (hx03.trans hx4).lay (g := w.heap.size + 1) hwg 0 0 0 0 0 0
    unfold setLay at c0 c1 c2 c3 c4 c5 hx9
    clear z0 z1 z2 z3 z4 z5 zl zf f0 f1 f2 f3 f4 f5 fL d0 d1 d2 d3 d4 d5 dL
    exact bodyPost_ret (v := .tuple #[vLay 0 0 0 0 0 0, .int .i64 3]) (by simp [results, Tryz.results9, go_sem, c0, c1, c2, c3, c4, c5]) rfl ⟨⟨0, 0, 0, 0, 0, 0, 3, rfl, .inr ⟨hP, ⟨rfl, rfl, rfl, rfl, rfl, rfl⟩, rfl⟩⟩, hx9⟩
end Go.Proofs.YthokkmbdkjpbcaaGreat

/-! The smallest size in which a message has room, on both sides. -/
namespace Go.Proofs.YthokkmbdkjpbcaaGreat
set_option linter.unusedVariables false
set_option linter.unusedSimpArgs false
open Go.RowKit

theorem find_at (P : Int → Bool) : ∀ (ss : List Int) (j : Nat), j < ss.length → (∀ i, i < j → P (ss.getD i 0) = false) → P (ss.getD j 0) = true → ss.find? P = some (ss.getD j 0)
  | [], _, h, _, _ => absurd h (Nat.not_lt_zero _)
  | x :: xs, 0, _, _, h => by
    have h0 : P x = true := by simpa using h
    rw [List.find?_cons_of_pos h0]; rfl
  | x :: xs, j + 1, h1, h2, h3 => by
    have h0 : P x = false := by simpa using h2 0 (by omega)
    rw [List.find?_cons_of_neg (by simp [h0])]
    have := find_at P xs j (by simpa using h1) (fun i hi => by simpa using h2 (i + 1) (by omega)) (by simpa using h3)
    simpa using this
theorem find_no (P : Int → Bool) (ss : List Int) (h : ∀ i, i < ss.length → P (ss.getD i 0) = false) : ss.find? P = none := by
  rw [List.find?_eq_none]
  intro x hx
  obtain ⟨i, hi, rfl⟩ := List.mem_iff_getElem.1 hx
  have := h i hi
  rw [List.getD_eq_getElem?_getD, List.getElem?_eq_getElem hi] at this
  simpa using this
/-- A size has a valid layout with room for so many elements. -/
def fitP (p k q K co x need n : Int) : Prop := layOK p k q (lyD K p k co n x) (lyC K p k co n x) (lyN K p k co n) ∧ need ≤ lyD K p k co n x
open Classical in
noncomputable def ssV (nm : ByteArray) (K p k q co : Int) (ss ls : List Int) (lv : Int) (t : ByteArray) : Int × Int :=
  if ¬ famOK nm K p k q ss co ls then (0, 1) else if ¬ (0 ≤ lv ∧ lv ≤ (ls.length : Int) - 1) then (0, 2) else if ¬ t.size ≤ 400 then (0, 3)
  else if ¬ (psV p k q t).2 = 0 then (0, 4) else match ss.find? (fun n => decide (fitP p k q K co (ls.getD lv.toNat 0) (psV p k q t).1 n)) with
    | some n => (n, 0)
    | none => (0, 4)
open Classical in
theorem ssV_hit {nm : ByteArray} {K p k q co : Int} {ss ls : List Int} {l : Nat} {t : ByteArray} {need : Int} (hF : famOK nm K p k q ss co ls) (hl : l < ls.length) (ht : t.size ≤ 400) (hp : psV p k q t = (need, 0)) {j : Nat} (hj : j < ss.length)
    (h : ∀ i, i < j → ¬ fitP p k q K co (ls.getD l 0) need (ss.getD i 0)) (h1 : fitP p k q K co (ls.getD l 0) need (ss.getD j 0)) : ssV nm K p k q co ss ls l t = (ss.getD j 0, 0) := by
  unfold ssV
  rw [if_neg (not_not_intro hF), if_neg (not_not_intro (by omega)), if_neg (not_not_intro ht), hp, if_neg (not_not_intro rfl), Int.toNat_natCast]
  show (match List.find? (fun n => decide (fitP p k q K co (ls.getD l 0) need n)) ss with | some n => (n, (0 : Int)) | none => (0, 4)) = _
  rw [find_at _ ss j hj (fun i hi => decide_eq_false (h i hi)) (decide_eq_true h1)]
open Classical in
theorem ssV_none {nm : ByteArray} {K p k q co : Int} {ss ls : List Int} {l : Nat} {t : ByteArray} {need : Int} (hF : famOK nm K p k q ss co ls) (hl : l < ls.length) (ht : t.size ≤ 400) (hp : psV p k q t = (need, 0))
    (h : ∀ i, i < ss.length → ¬ fitP p k q K co (ls.getD l 0) need (ss.getD i 0)) : ssV nm K p k q co ss ls l t = (0, 4) := by
  unfold ssV
  rw [if_neg (not_not_intro hF), if_neg (not_not_intro (by omega)), if_neg (not_not_intro ht), hp, if_neg (not_not_intro rfl), Int.toNat_natCast]
  show (match List.find? (fun n => decide (fitP p k q K co (ls.getD l 0) need n)) ss with | some n => (n, (0 : Int)) | none => (0, 4)) = _
  rw [find_no _ ss (fun i hi => decide_eq_false (h i hi))]
theorem ssV_code {nm : ByteArray} {K p k q co : Int} {ss ls : List Int} {l : Nat} {t : ByteArray} (hF : famOK nm K p k q ss co ls) (hl : l < ls.length) (ht : t.size ≤ 400) (hp : ¬ (psV p k q t).2 = 0) : ssV nm K p k q co ss ls l t = (0, 4) := by
  unfold ssV
  rw [if_neg (not_not_intro hF), if_neg (not_not_intro (by omega)), if_neg (not_not_intro ht), if_pos hp]
theorem ssV_long {nm : ByteArray} {K p k q co : Int} {ss ls : List Int} {l : Nat} {t : ByteArray} (hF : famOK nm K p k q ss co ls) (hl : l < ls.length) (ht : ¬ t.size ≤ 400) : ssV nm K p k q co ss ls l t = (0, 3) := by
  unfold ssV
  rw [if_neg (not_not_intro hF), if_neg (not_not_intro (by omega)), if_pos ht]
theorem ssV_level {nm : ByteArray} {K p k q co : Int} {ss ls : List Int} {lv : Int} {t : ByteArray} (hF : famOK nm K p k q ss co ls) (hl : ¬ (0 ≤ lv ∧ lv ≤ (ls.length : Int) - 1)) : ssV nm K p k q co ss ls lv t = (0, 2) := by
  unfold ssV
  rw [if_neg (not_not_intro hF), if_pos hl]
theorem ssV_fam {nm : ByteArray} {K p k q co : Int} {ss ls : List Int} {lv : Int} {t : ByteArray} (hF : ¬ famOK nm K p k q ss co ls) : ssV nm K p k q co ss ls lv t = (0, 1) := by
  unfold ssV
  rw [if_pos hF]
set_option maxHeartbeats 1600000 in
set_option maxRecDepth 100000 in
theorem iSmallest_c (nm : ByteArray) (K p k q co : Int) (ps pl : Option Addr) (cs cl : Nat) (ss ls : List Int) (lv : Int) (t : ByteArray) (w : World) (hs : IntsAt w ps ss) (hlv : IntsAt w pl ls) (hn : nm.size ≤ 1048576) (hl1 : ss.length ≤ 1048576) (hl2 : ls.length ≤ 1048576) (ht : t.size ≤ 1048576) :
    Calls Tryz.prog 6 #[vFam nm K p k q ps ss.length cs co pl ls.length cl, .int .i64 lv, .string t] w fun e w' => e = .returned (.tuple #[.int .i64 (ssV nm K p k q co ss ls lv t).1, .int .i64 (ssV nm K p k q co ss ls lv t).2]) ∧ Ext w w' := by
  have HS := Lib.hid hs; have HLV := Lib.hid hlv; clear hs hlv
  have hbx := Blk.new w #[.string nm, .int .i64 K, .int .i64 p, .int .i64 k, .int .i64 q, .slice ps ss.length cs, .int .i64 co, .slice pl ls.length cl] 28
  have hx0 : Ext w (w.alloc (.cells #[.string nm, .int .i64 K, .int .i64 p, .int .i64 k, .int .i64 q, .slice ps ss.length cs, .int .i64 co, .slice pl ls.length cl] 28)) := (Ext.refl w).alloc _
  have hif := Lib.hid (fun W (h1 : IntsAt W ps ss) (h2 : IntsAt W pl ls) => iIsFamily_c nm K p k q co ps pl cs cl ss ls W h1 h2 hn hl1 hl2)
  have hhl := Lib.hid (fun W => iHasLevel_c nm K p k q co ps pl ss.length cs ls.length cl lv W hl2)
  have him := Lib.hid (fun W => iIsMessage_c t W ht)
  have hps := Lib.hid (fun W => iPayloadSize_c p k q t W ht)
  have FB := Lib.hid (fun W (h : Ext (w.alloc (.cells #[.string nm, .int .i64 K, .int .i64 p, .int .i64 k, .int .i64 q, .slice ps ss.length cs, .int .i64 co, .slice pl ls.length cl] 28)) W) => hbx.ext h)
  by_cases hF : famOK nm K p k q ss co ls
  · by_cases hL : 0 ≤ lv ∧ lv ≤ (ls.length : Int) - 1
    · obtain ⟨l, rfl⟩ : ∃ l : Nat, lv = l := ⟨lv.toNat, by omega⟩
      have hll : l < ls.length := by omega
      by_cases hT : t.size ≤ 400
      · obtain ⟨need, c, hpv⟩ : ∃ need c, psV p k q t = (need, c) := ⟨_, _, rfl⟩
        have hV1 := Lib.hid (fun (hc : ¬ c = 0) => ssV_code (K := K) (co := co) (ss := ss) hF hll hT (by rw [hpv]; exact hc))
        have hV2 := Lib.hid (fun (hc : c = 0) => ssV_none (need := need) hF hll hT (by rw [hpv, hc]))
        have hV3 := Lib.hid (fun (hc : c = 0) j => ssV_hit (need := need) (j := j) hF hll hT (by rw [hpv, hc]))
        rw [hpv] at hps
        simp only at hps
        have hf := fam_fld hF
        have hly := Lib.hid (fun j (hj : j < ss.length) W (h : IntsAt W pl ls) => iLay_c nm K p k q co ps pl ss.length cs cl l ls (ss.getD j 0) W h hll hl2 ((hF.2.2.2.1 l hll).1) hf (fam_size hF hj))
        have hbd := Lib.hid (fun j (hj : j < ss.length) => ly_bd (co := co) (x := ls.getD l 0) hf (fam_size hF hj))
        generalize ssV nm K p k q co ss ls l t = V at *
        obtain ⟨V1, V2⟩ := V
        replace hF := Lib.hid hF; replace hpv := Lib.hid hpv
        clear hf
        by_cases hc : c = 0
        · subst hc
          go_enter Tryz.func6, Tryz.ntmps6
          go_upto_region 10 with (first
            | (go_at_call 14; (with_reducible refine (hif.out _ (HS.out.ext hx0) (HLV.out.ext hx0)).mono ?_); rintro e w1 ⟨⟨hP, rfl⟩ | ⟨hP, rfl⟩, hx1⟩ <;> (first | exact absurd hF.out hP | skip); have hb1 := FB.out _ hx1; have a0 := hb1.cell (i := 0) (v := .string nm) rfl; have a1 := hb1.cell (i := 1) (v := .int .i64 K) rfl; have a2 := hb1.cell (i := 2) (v := .int .i64 p) rfl; have a3 := hb1.cell (i := 3) (v := .int .i64 k) rfl; have a4 := hb1.cell (i := 4) (v := .int .i64 q) rfl; have a5 := hb1.cell (i := 5) (v := .slice ps ss.length cs) rfl; have a6 := hb1.cell (i := 6) (v := .int .i64 co) rfl; have a7 := hb1.cell (i := 7) (v := .slice pl ls.length cl) rfl; have aL := hb1.lt)
            | (go_at_call 15; (with_reducible refine (hhl.out _).mono ?_); rintro e w2 ⟨⟨hP2, rfl⟩ | ⟨hP2, rfl⟩, hx2⟩ <;> (first | exact absurd hL hP2 | skip); have hb2 := FB.out _ (hx1.trans hx2); have b2 := hb2.cell (i := 2) (v := .int .i64 p) rfl; have b3 := hb2.cell (i := 3) (v := .int .i64 k) rfl; have b4 := hb2.cell (i := 4) (v := .int .i64 q) rfl; have bL := hb2.lt)
            | (go_at_call 16; (with_reducible refine (him.out _).mono ?_); rintro e w3 ⟨⟨hP3, rfl⟩ | ⟨hP3, rfl⟩, rfl⟩ <;> (first | exact absurd hT hP3 | skip))
            | (go_at_call 8; (with_reducible refine (hps.out _).mono ?_); rintro e w4 ⟨rfl, hx4⟩))
          have hxf := (hx1.trans hx2).trans hx4
          have hb4 := FB.out _ hxf
          have c3 := hb4.cell (i := 5) (v := .slice ps ss.length cs) rfl; have cL := hb4.lt
          have hxw := hx0.trans hxf
          clear hb1 hb2 a0 a1 a2 a3 a4 a5 a6 a7 aL b2 b3 b4 bL hx1 hx2 hx4 hif hhl him hps FB hx0 hxf hbx
          generalize w.heap.size = g0 at *
          go_upto_region 11 with (fail)
          clear c3 cL
          go_loopw [35] (fun i wr => ∃ j : Nat, j ≤ ss.length ∧ i = .int .i64 j ∧ Hid (∀ i, i < j → ¬ fitP p k q K co (ls.getD l 0) need (ss.getD i 0)) ∧ Ext w4 wr) (fun i _ => ss.length - (intOf i).toNat)
          case atStart => exact ⟨0, Nat.zero_le _, rfl, Lib.hid (fun i h => absurd h (Nat.not_lt_zero i)), Ext.refl w4⟩
          case round =>
            obtain ⟨j, hj, rfl, hall, hext⟩ := hrel
            have hbr := hb4.ext hext
            have hxr := hxw.trans hext
            by_cases hlt : j < ss.length
            · have hjl : (j : Int) < ss.length := by omega
              obtain ⟨b, o, rfl, hbl, y1⟩ := (HS.out.ext hxr) j hlt
              have hlyj := Lib.hid (hly.out j hlt)
              have hbdj := hbd.out j hlt
              have hst : ¬ fitP p k q K co (ls.getD l 0) need (ss.getD j 0) → ∀ i, i < j + 1 → ¬ fitP p k q K co (ls.getD l 0) need (ss.getD i 0) := fun h i hi => by
                by_cases e : i = j
                · rw [e]; exact h
                · exact hall.out i (by omega)
              have hV := Lib.hid (hV3.out trivial j hlt hall.out)
              have hfd := Lib.hid (show fitP p k q K co (ls.getD l 0) need (ss.getD j 0) ↔ layOK p k q (lyD K p k co (ss.getD j 0) (ls.getD l 0)) (lyC K p k co (ss.getD j 0) (ls.getD l 0)) (lyN K p k co (ss.getD j 0)) ∧ need ≤ lyD K p k co (ss.getD j 0) (ls.getD l 0) from Iff.rfl)
              replace hst := Lib.hid hst
              have a0 := hbr.cell (i := 0) (v := .string nm) rfl; have a1 := hbr.cell (i := 1) (v := .int .i64 K) rfl; have a2 := hbr.cell (i := 2) (v := .int .i64 p) rfl; have a3 := hbr.cell (i := 3) (v := .int .i64 k) rfl; have a4 := hbr.cell (i := 4) (v := .int .i64 q) rfl; have a5 := hbr.cell (i := 5) (v := .slice (some ⟨b, o, none⟩) ss.length cs) rfl; have a6 := hbr.cell (i := 6) (v := .int .i64 co) rfl; have a7 := hbr.cell (i := 7) (v := .slice pl ls.length cl) rfl; have aL := hbr.lt
              generalize ss.getD j 0 = n at *
              generalize ls.getD l 0 = x at *
              generalize fitP p k q K co x need n = FP at *
              generalize lyD K p k co n x = D at *
              generalize lyC K p k co n x = C at *
              generalize lyN K p k co n = N at *
              have hil := Lib.hid (fun W => iIsLayout_c p k q D C N W hbdj.1 hbdj.2.1 hbdj.2.2)
              clear hbdj
              go_upto_region 14 with (go_at_call 17; (with_reducible refine (hlyj.out _ (HLV.out.ext hxr)).mono ?_); rintro e w5 ⟨rfl, hx5⟩)
              have hg5 := Blk.new w5 #[.int .i64 p, .int .i64 k, .int .i64 q, .int .i64 D, .int .i64 C, .int .i64 N] 35
              have hx6 := hx5.alloc (.cells #[.int .i64 p, .int .i64 k, .int .i64 q, .int .i64 D, .int .i64 C, .int .i64 N] 35)
              generalize w5.alloc (.cells #[.int .i64 p, .int .i64 k, .int .i64 q, .int .i64 D, .int .i64 C, .int .i64 N] 35) = w6 at *
              generalize w5.heap.size = g9 at *
              have d0 := hg5.cell (i := 0) (v := .int .i64 p) rfl; have d1 := hg5.cell (i := 1) (v := .int .i64 k) rfl; have d2 := hg5.cell (i := 2) (v := .int .i64 q) rfl; have d3 := hg5.cell (i := 3) (v := .int .i64 D) rfl; have d4 := hg5.cell (i := 4) (v := .int .i64 C) rfl; have d5 := hg5.cell (i := 5) (v := .int .i64 N) rfl; have dL := hg5.lt
              clear a0 a1 a2 a3 a4 a5 a6 a7 aL y1
              by_cases hnd : need ≤ D
              · go_wp2_with (go_at_call 18; (with_reducible refine (hil.out _).mono ?_); rintro e w7 ⟨⟨hP, rfl⟩ | ⟨hP, rfl⟩, hx7⟩ <;> (have g7 := hg5.ext hx7; have f3 := g7.cell (i := 3) (v := .int .i64 D) rfl; have fL := g7.lt))
                · obtain ⟨rfl, rfl⟩ : V1 = n ∧ V2 = 0 := by simpa using hV.out (hfd.out.2 ⟨hP, hnd⟩)
                  go_ret2
                  exact ⟨rfl, (hxr.trans hx6).trans hx7⟩
                · go_roundw
                  case rel => exact ⟨j + 1, hlt, by go_num, Lib.hid (hst.out (fun h => hP (hfd.out.1 h).1)), (hext.trans hx6).trans hx7⟩
                  case measure => simp [intOf]; omega
              · go_wp2_with (go_at_call 18; (with_reducible refine (hil.out _).mono ?_); rintro e w7 ⟨⟨hP, rfl⟩ | ⟨hP, rfl⟩, hx7⟩ <;> (have g7 := hg5.ext hx7; have f3 := g7.cell (i := 3) (v := .int .i64 D) rfl; have fL := g7.lt))
                all_goals
                  go_roundw
                  case rel => exact ⟨j + 1, hlt, by go_num, Lib.hid (hst.out (fun h => by have := (hfd.out.1 h).2; omega)), (hext.trans hx6).trans hx7⟩
                  case measure => simp [intOf]; omega
            · obtain rfl : j = ss.length := by omega
              have hV := hV2.out trivial hall.out
              simp only [Prod.mk.injEq] at hV
              obtain ⟨rfl, rfl⟩ := hV
              go_wp2
              go_ret2
              exact ⟨rfl, hxr⟩
        · have hc2 : (c != 0) = true := by simpa using hc
          have hV := hV1.out hc
          simp only [Prod.mk.injEq] at hV
          obtain ⟨rfl, rfl⟩ := hV
          clear hc
          go_enter Tryz.func6, Tryz.ntmps6
          go_wp2_with (first
            | (go_at_call 14; (with_reducible refine (hif.out _ (HS.out.ext hx0) (HLV.out.ext hx0)).mono ?_); rintro e w1 ⟨⟨hP, rfl⟩ | ⟨hP, rfl⟩, hx1⟩ <;> (first | exact absurd hF.out hP | skip); have hb1 := FB.out _ hx1; have a0 := hb1.cell (i := 0) (v := .string nm) rfl; have a1 := hb1.cell (i := 1) (v := .int .i64 K) rfl; have a2 := hb1.cell (i := 2) (v := .int .i64 p) rfl; have a3 := hb1.cell (i := 3) (v := .int .i64 k) rfl; have a4 := hb1.cell (i := 4) (v := .int .i64 q) rfl; have a5 := hb1.cell (i := 5) (v := .slice ps ss.length cs) rfl; have a6 := hb1.cell (i := 6) (v := .int .i64 co) rfl; have a7 := hb1.cell (i := 7) (v := .slice pl ls.length cl) rfl; have aL := hb1.lt)
            | (go_at_call 15; (with_reducible refine (hhl.out _).mono ?_); rintro e w2 ⟨⟨hP2, rfl⟩ | ⟨hP2, rfl⟩, hx2⟩ <;> (first | exact absurd hL hP2 | skip); have hb2 := FB.out _ (hx1.trans hx2); have b2 := hb2.cell (i := 2) (v := .int .i64 p) rfl; have b3 := hb2.cell (i := 3) (v := .int .i64 k) rfl; have b4 := hb2.cell (i := 4) (v := .int .i64 q) rfl; have bL := hb2.lt)
            | (go_at_call 16; (with_reducible refine (him.out _).mono ?_); rintro e w3 ⟨⟨hP3, rfl⟩ | ⟨hP3, rfl⟩, rfl⟩ <;> (first | exact absurd hT hP3 | skip))
            | (go_at_call 8; (with_reducible refine (hps.out _).mono ?_); rintro e w4 ⟨rfl, hx4⟩))
          go_ret2
          exact ⟨rfl, ((hx0.trans hx1).trans hx2).trans hx4⟩
      · have hV := ssV_long (K := K) (p := p) (k := k) (q := q) (co := co) (ss := ss) hF hll hT
        rw [hV]
        replace hF := Lib.hid hF; clear hV
        go_enter Tryz.func6, Tryz.ntmps6
        go_wp2_with (first
            | (go_at_call 14; (with_reducible refine (hif.out _ (HS.out.ext hx0) (HLV.out.ext hx0)).mono ?_); rintro e w1 ⟨⟨hP, rfl⟩ | ⟨hP, rfl⟩, hx1⟩ <;> (first | exact absurd hF.out hP | skip); have hb1 := FB.out _ hx1; have a0 := hb1.cell (i := 0) (v := .string nm) rfl; have a1 := hb1.cell (i := 1) (v := .int .i64 K) rfl; have a2 := hb1.cell (i := 2) (v := .int .i64 p) rfl; have a3 := hb1.cell (i := 3) (v := .int .i64 k) rfl; have a4 := hb1.cell (i := 4) (v := .int .i64 q) rfl; have a5 := hb1.cell (i := 5) (v := .slice ps ss.length cs) rfl; have a6 := hb1.cell (i := 6) (v := .int .i64 co) rfl; have a7 := hb1.cell (i := 7) (v := .slice pl ls.length cl) rfl; have aL := hb1.lt)
            | (go_at_call 15; (with_reducible refine (hhl.out _).mono ?_); rintro e w2 ⟨⟨hP2, rfl⟩ | ⟨hP2, rfl⟩, hx2⟩ <;> (first | exact absurd hL hP2 | skip))
            | (go_at_call 16; (with_reducible refine (him.out _).mono ?_); rintro e w3 ⟨⟨hP3, rfl⟩ | ⟨hP3, rfl⟩, rfl⟩ <;> (first | exact absurd hP3 hT | skip)))
        go_ret2
        exact ⟨rfl, (hx0.trans hx1).trans hx2⟩
    · rw [ssV_level (K := K) (p := p) (k := k) (q := q) (co := co) (ss := ss) hF hL]
      replace hF := Lib.hid hF
      replace hL := Lib.hid hL
      go_enter Tryz.func6, Tryz.ntmps6
      go_wp2_with (first
            | (go_at_call 14; (with_reducible refine (hif.out _ (HS.out.ext hx0) (HLV.out.ext hx0)).mono ?_); rintro e w1 ⟨⟨hP, rfl⟩ | ⟨hP, rfl⟩, hx1⟩ <;> (first | exact absurd hF.out hP | skip); have hb1 := FB.out _ hx1; have a0 := hb1.cell (i := 0) (v := .string nm) rfl; have a1 := hb1.cell (i := 1) (v := .int .i64 K) rfl; have a2 := hb1.cell (i := 2) (v := .int .i64 p) rfl; have a3 := hb1.cell (i := 3) (v := .int .i64 k) rfl; have a4 := hb1.cell (i := 4) (v := .int .i64 q) rfl; have a5 := hb1.cell (i := 5) (v := .slice ps ss.length cs) rfl; have a6 := hb1.cell (i := 6) (v := .int .i64 co) rfl; have a7 := hb1.cell (i := 7) (v := .slice pl ls.length cl) rfl; have aL := hb1.lt)
            | (go_at_call 15; (with_reducible refine (hhl.out _).mono ?_); rintro e w2 ⟨⟨hP2, rfl⟩ | ⟨hP2, rfl⟩, hx2⟩ <;> (first | exact absurd hP2 hL.out | skip)))
      go_ret2
      exact ⟨rfl, (hx0.trans hx1).trans hx2⟩
  · rw [ssV_fam (co := co) (ls := ls) hF]
    replace hF := Lib.hid hF
    go_enter Tryz.func6, Tryz.ntmps6
    go_wp2_with (go_at_call 14; (with_reducible refine (hif.out _ (HS.out.ext hx0) (HLV.out.ext hx0)).mono ?_); rintro e w1 ⟨⟨hP, rfl⟩ | ⟨hP, rfl⟩, hx1⟩ <;> (first | exact absurd hP hF.out | skip))
    go_ret2
    exact ⟨rfl, hx0.trans hx1⟩
set_option maxHeartbeats 1600000 in
set_option maxRecDepth 100000 in
theorem sSmallest_c (nm : ByteArray) (K p k q co : Int) (ps pl : Option Addr) (cs cl : Nat) (ss ls : List Int) (lv : Int) (t : ByteArray) (w : World) (hs : IntsAt w ps ss) (hlv : IntsAt w pl ls) (hn : nm.size ≤ 1048576) (hl1 : ss.length ≤ 1048576) (hl2 : ls.length ≤ 1048576) (ht : t.size ≤ 1048576) :
    Calls Tryz.prog 7 #[vFam nm K p k q ps ss.length cs co pl ls.length cl, .int .i64 lv, .string t] w fun e w' => e = .returned (.tuple #[.int .i64 (ssV nm K p k q co ss ls lv t).1, .int .i64 (ssV nm K p k q co ss ls lv t).2]) ∧ Ext w w' := by
  have HS := Lib.hid hs; have HLV := Lib.hid hlv; clear hs hlv
  have hbx := Blk.new w #[.string nm, .int .i64 K, .int .i64 p, .int .i64 k, .int .i64 q, .slice ps ss.length cs, .int .i64 co, .slice pl ls.length cl] 28
  have hx0 : Ext w (w.alloc (.cells #[.string nm, .int .i64 K, .int .i64 p, .int .i64 k, .int .i64 q, .slice ps ss.length cs, .int .i64 co, .slice pl ls.length cl] 28)) := (Ext.refl w).alloc _
  have hif := Lib.hid (fun W (h1 : IntsAt W ps ss) (h2 : IntsAt W pl ls) => sIsFamily_c nm K p k q co ps pl cs cl ss ls W h1 h2 hn hl1 hl2)
  have hps := Lib.hid (fun W => sPayloadSize_c p k q t W ht)
  have FB := Lib.hid (fun W (h : Ext (w.alloc (.cells #[.string nm, .int .i64 K, .int .i64 p, .int .i64 k, .int .i64 q, .slice ps ss.length cs, .int .i64 co, .slice pl ls.length cl] 28)) W) => hbx.ext h)
  by_cases hF : famOK nm K p k q ss co ls
  · by_cases hL : 0 ≤ lv ∧ lv ≤ (ls.length : Int) - 1
    · obtain ⟨l, rfl⟩ : ∃ l : Nat, lv = l := ⟨lv.toNat, by omega⟩
      have hll : l < ls.length := by omega
      by_cases hT : t.size ≤ 400
      · obtain ⟨need, c, hpv⟩ : ∃ need c, psV p k q t = (need, c) := ⟨_, _, rfl⟩
        have hV1 := Lib.hid (fun (hc : ¬ c = 0) => ssV_code (K := K) (co := co) (ss := ss) hF hll hT (by rw [hpv]; exact hc))
        have hV2 := Lib.hid (fun (hc : c = 0) => ssV_none (need := need) hF hll hT (by rw [hpv, hc]))
        have hV3 := Lib.hid (fun (hc : c = 0) j => ssV_hit (need := need) (j := j) hF hll hT (by rw [hpv, hc]))
        rw [hpv] at hps
        simp only at hps
        have hf := fam_fld hF
        have hlo := Lib.hid (fun j (hj : j < ss.length) W (h1 : IntsAt W ps ss) (h2 : IntsAt W pl ls) => sLayoutOf_c nm K p k q co ps pl cs cl l ss ls W h1 h2 hn hl1 hl2 hF hj hll)
        generalize ssV nm K p k q co ss ls l t = V at *
        obtain ⟨V1, V2⟩ := V
        replace hF := Lib.hid hF; replace hpv := Lib.hid hpv
        clear hf
        by_cases hc : c = 0
        · subst hc
          go_enter Tryz.func7, Tryz.ntmps7
          go_upto_region 8 with (first
            | (go_at_call 19; (with_reducible refine (hif.out _ (HS.out.ext hx0) (HLV.out.ext hx0)).mono ?_); rintro e w1 ⟨⟨hP, rfl⟩ | ⟨hP, rfl⟩, hx1⟩ <;> (first | exact absurd hF.out hP | skip); have hb1 := FB.out _ hx1; have a0 := hb1.cell (i := 0) (v := .string nm) rfl; have a1 := hb1.cell (i := 1) (v := .int .i64 K) rfl; have a2 := hb1.cell (i := 2) (v := .int .i64 p) rfl; have a3 := hb1.cell (i := 3) (v := .int .i64 k) rfl; have a4 := hb1.cell (i := 4) (v := .int .i64 q) rfl; have a5 := hb1.cell (i := 5) (v := .slice ps ss.length cs) rfl; have a6 := hb1.cell (i := 6) (v := .int .i64 co) rfl; have a7 := hb1.cell (i := 7) (v := .slice pl ls.length cl) rfl; have aL := hb1.lt)
            | (go_at_call 20; (with_reducible refine (l01In_c _ _ _ _).mono ?_); rintro e w2 ⟨⟨hP2, rfl⟩ | ⟨hP2, rfl⟩, rfl⟩ <;> (first | exact absurd hL hP2 | skip))
            | (go_at_call 21; (with_reducible refine (hps.out _).mono ?_); rintro e w4 ⟨rfl, hx4⟩))
          have hxf := hx1.trans hx4
          have hb4 := FB.out _ hxf
          have hxw := hx0.trans hxf
          clear hb1 a0 a1 a2 a3 a4 a5 a6 a7 aL hx1 hx4 hif hps FB hx0 hxf hbx
          have hwg : w.heap.size ≤ w.heap.size := Nat.le_refl _
          generalize w.heap.size = g0 at *
          go_upto_region 9 with (fail)
          go_loopw [10] (fun i wr => ∃ j : Nat, j ≤ ss.length ∧ i = .int .i64 j ∧ Hid (∀ i, i < j → ¬ fitP p k q K co (ls.getD l 0) need (ss.getD i 0)) ∧ Ext w4 wr) (fun i _ => ss.length - (intOf i).toNat)
          case atStart => exact ⟨0, Nat.zero_le _, rfl, Lib.hid (fun i h => absurd h (Nat.not_lt_zero i)), Ext.refl w4⟩
          case round =>
            obtain ⟨j, hj, rfl, hall, hext⟩ := hrel
            have hbr := hb4.ext hext
            have hxr := hxw.trans hext
            have c5 := hbr.cell (i := 5) (v := .slice ps ss.length cs) rfl; have cL := hbr.lt
            by_cases hlt : j < ss.length
            · have hjl : (j : Int) < ss.length := by omega
              obtain ⟨b, o, rfl, hbl, y1⟩ := (HS.out.ext hxr) j hlt
              have hloj := Lib.hid (hlo.out j hlt)
              have hst : ¬ fitP p k q K co (ls.getD l 0) need (ss.getD j 0) → ∀ i, i < j + 1 → ¬ fitP p k q K co (ls.getD l 0) need (ss.getD i 0) := fun h i hi => by
                by_cases e : i = j
                · rw [e]; exact h
                · exact hall.out i (by omega)
              have hV := Lib.hid (hV3.out trivial j hlt hall.out)
              have hfd := Lib.hid (show fitP p k q K co (ls.getD l 0) need (ss.getD j 0) ↔ layOK p k q (lyD K p k co (ss.getD j 0) (ls.getD l 0)) (lyC K p k co (ss.getD j 0) (ls.getD l 0)) (lyN K p k co (ss.getD j 0)) ∧ need ≤ lyD K p k co (ss.getD j 0) (ls.getD l 0) from Iff.rfl)
              replace hst := Lib.hid hst
              have a0 := hbr.cell (i := 0) (v := .string nm) rfl; have a1 := hbr.cell (i := 1) (v := .int .i64 K) rfl; have a2 := hbr.cell (i := 2) (v := .int .i64 p) rfl; have a3 := hbr.cell (i := 3) (v := .int .i64 k) rfl; have a4 := hbr.cell (i := 4) (v := .int .i64 q) rfl; have a6 := hbr.cell (i := 6) (v := .int .i64 co) rfl; have a7 := hbr.cell (i := 7) (v := .slice pl ls.length cl) rfl
              have yx := fun W (h : Ext wr W) => (HS.out.ext (hxr.trans h)) j hlt
              generalize ss.getD j 0 = n at *
              generalize ls.getD l 0 = x at *
              generalize fitP p k q K co x need n = FP at *
              generalize lyD K p k co n x = D at *
              generalize lyC K p k co n x = C at *
              generalize lyN K p k co n = N at *
              replace yx := Lib.hid yx
              go_upto_region 11 with (fail)
              have hT : Ext wr wr.drew := (Ext.refl wr).drew
              refine wp_region_c3 (fun w' => Ext wr w') (.st 0 (.st 1 (.st 2 (.st 3 (.st 4 (.st 5 (.st 6 (.two 7 (.st 8 (.st 9 (.st 10 (.one 11 (.one 12 (.st 13 .done)))))) 11 (.one 7 (.st 8 (.st 9 (.st 10 (.one 12 (.st 13 .done)))))))))))))) (by kernel_rfl) (by kernel_rfl) (by decide) (by kernel_rfl) ?_ ?_
              · exact hT
              refine c3_intro fun ops eo => ?_
              have ho0 := canon_at eo 0 rfl
              have ho1 := canon_at eo 1 rfl
              have ho2 := canon_at eo 2 rfl
              have ho3 := canon_at eo 3 rfl
              have ho4 := canon_at eo 4 rfl
              have ho5 := canon_at eo 5 rfl
              have ho6 := canon_at eo 6 rfl
              have ho7 := canon_at eo 7 rfl
              have ho8 := canon_at eo 8 rfl
              have ho9 := canon_at eo 9 rfl
              have ho10 := canon_at eo 10 rfl
              have ho11 := canon_at eo 11 rfl
              have ho12 := canon_at eo 12 rfl
              have ho13 := canon_at eo 13 rfl
              clear eo
              all_goals (apply c3_st ho0 rfl; (intro w2 hS; first | (go_simp; first | done | rfl) | rfl | (obtain ⟨hc', hf', hk', hz⟩ := ecell hS; go_simp; first | done | rfl)); simp only [Act.put, List.setIfInBounds_toArray, List.set_cons_zero, List.set_cons_succ])
              all_goals clear ho0
              all_goals (apply c3_st ho1 rfl; (intro w2 hS; first | (go_simp; first | done | rfl) | rfl | (obtain ⟨hc', hf', hk', hz⟩ := ecell hS; go_simp; first | done | rfl)); simp only [Act.put, List.setIfInBounds_toArray, List.set_cons_zero, List.set_cons_succ])
              all_goals clear ho1
              all_goals (apply c3_st ho2 rfl; (intro w2 hS; first | (go_simp; first | done | rfl) | rfl | (obtain ⟨hc', hf', hk', hz⟩ := ecell hS; go_simp; first | done | rfl)); simp only [Act.put, List.setIfInBounds_toArray, List.set_cons_zero, List.set_cons_succ])
              all_goals clear ho2
              all_goals (apply c3_st ho3 rfl; (intro w2 hS; first | (go_simp; first | done | rfl) | rfl | (obtain ⟨hc', hf', hk', hz⟩ := ecell hS; go_simp; first | done | rfl)); simp only [Act.put, List.setIfInBounds_toArray, List.set_cons_zero, List.set_cons_succ])
              all_goals clear ho3
              all_goals (apply c3_st ho4 rfl; (intro w2 hS; first | (go_simp; first | done | rfl) | rfl | (obtain ⟨hc', hf', hk', hz⟩ := ecell hS; go_simp; first | done | rfl)); simp only [Act.put, List.setIfInBounds_toArray, List.set_cons_zero, List.set_cons_succ])
              all_goals clear ho4
              all_goals (apply c3_st ho5 rfl; (intro w2 hS; first | (go_simp; first | done | rfl) | rfl | (obtain ⟨hc', hf', hk', hz⟩ := ecell hS; go_simp; first | done | rfl)); simp only [Act.put, List.setIfInBounds_toArray, List.set_cons_zero, List.set_cons_succ])
              all_goals clear ho5
              all_goals (apply c3_st ho6 rfl; (intro w2 hS; first | (go_simp; first | done | rfl) | rfl | (obtain ⟨hc', hf', hk', hz⟩ := ecell hS; go_simp; first | done | rfl)); simp only [Act.put, List.setIfInBounds_toArray, List.set_cons_zero, List.set_cons_succ])
              all_goals clear ho6
              all_goals
                refine c3_two ?_ ?_
                rotate_right 1
                focus
                  all_goals first | (refine c3_op ho11 rfl (fun K hK => ?_); (refine allocL_op ?_; intro w6 g9 e9 l9 x9 q9; have m9 : wr.heap.size ≤ g9 := (by have := hT.below.size; omega); replace hT := hT.trans x9; clear e9 x9); all_goals ((with_reducible refine hK _ _ ?_); refine ⟨hT, ?_⟩; clear hK K; go_simp))
                  all_goals clear ho11
                  all_goals refine c3_one ?_
                  all_goals first | (refine c3_op ho7 rfl (fun K hK => ?_); go_simp; ((go_at_call 22; (with_reducible refine (hloj.out _ (HS.out.ext (hxr.trans (by repeat (first | exact Ext.refl _ | assumption | refine Ext.drew ?_ | refine Ext.drewN ?_ _ | refine Ext.iter ?_ _ _ | refine Ext.alloc ?_ _ | refine Ext.setCell ?_ (by first | exact Nat.le_refl _ | (simp <;> omega)) _ | refine Ext.trans2 (by assumption) ?_)))) (HLV.out.ext (hxr.trans (by repeat (first | exact Ext.refl _ | assumption | refine Ext.drew ?_ | refine Ext.drewN ?_ _ | refine Ext.iter ?_ _ _ | refine Ext.alloc ?_ _ | refine Ext.setCell ?_ (by first | exact Nat.le_refl _ | (simp <;> omega)) _ | refine Ext.trans2 (by assumption) ?_))))).mono ?_); rintro e w5 ⟨⟨q0, q1, q2, q3, q4, q5, c9, rfl, hlr⟩, hx5⟩; replace hT := hT.trans hx5; (try replace q9 := q9.ext hx5); replace hlr := Lib.hid hlr; clear hx5)); all_goals ((with_reducible refine hK _ _ ?_); refine ⟨hT, ?_⟩; clear hK K; go_simp))
                  all_goals clear ho7
                  all_goals (apply c3_st ho8 rfl; (intro w2 hS; first | (go_simp; first | done | rfl) | rfl | (obtain ⟨hc', hf', hk', hz⟩ := ecell hS; go_simp; first | done | rfl)); simp only [Act.put, List.setIfInBounds_toArray, List.set_cons_zero, List.set_cons_succ])
                  all_goals clear ho8
                  all_goals (apply c3_st ho9 rfl; (intro w2 hS; first | (go_simp; first | done | rfl) | rfl | (obtain ⟨hc', hf', hk', hz⟩ := ecell hS; go_simp; first | done | rfl)); simp only [Act.put, List.setIfInBounds_toArray, List.set_cons_zero, List.set_cons_succ])
                  all_goals clear ho9
                  all_goals (apply c3_st ho10 rfl; (intro w2 hS; first | (go_simp; first | done | rfl) | rfl | (obtain ⟨hc', hf', hk', hz⟩ := ecell hS; go_simp; first | done | rfl)); simp only [Act.put, List.setIfInBounds_toArray, List.set_cons_zero, List.set_cons_succ])
                  all_goals clear ho10
                  all_goals refine c3_one ?_
                  all_goals first | (refine c3_op ho12 rfl (fun K hK => ?_); (refine storeL_op q9 rfl rfl ?_; intro w7 s7 b7 q7; replace hT := s7 _ hT m9; replace q9 := q7; clear s7 b7 q7); all_goals ((with_reducible refine hK _ _ ?_); refine ⟨hT, ?_⟩; clear hK K; go_simp))
                  all_goals clear ho12
                  all_goals (apply c3_st ho13 rfl; (intro w2 hS; first | (go_simp; first | done | rfl) | rfl | (obtain ⟨hc', hf', hk', hz⟩ := ecell hS; go_simp; first | done | rfl)); simp only [Act.put, List.setIfInBounds_toArray, List.set_cons_zero, List.set_cons_succ])
                  all_goals clear ho13
                  all_goals refine c3_done (NoPanic.normal ?_)
                rotate_right 1
                focus
                  all_goals first | (refine c3_op ho7 rfl (fun K hK => ?_); go_simp; ((go_at_call 22; (with_reducible refine (hloj.out _ (HS.out.ext (hxr.trans (by repeat (first | exact Ext.refl _ | assumption | refine Ext.drew ?_ | refine Ext.drewN ?_ _ | refine Ext.iter ?_ _ _ | refine Ext.alloc ?_ _ | refine Ext.setCell ?_ (by first | exact Nat.le_refl _ | (simp <;> omega)) _ | refine Ext.trans2 (by assumption) ?_)))) (HLV.out.ext (hxr.trans (by repeat (first | exact Ext.refl _ | assumption | refine Ext.drew ?_ | refine Ext.drewN ?_ _ | refine Ext.iter ?_ _ _ | refine Ext.alloc ?_ _ | refine Ext.setCell ?_ (by first | exact Nat.le_refl _ | (simp <;> omega)) _ | refine Ext.trans2 (by assumption) ?_))))).mono ?_); rintro e w5 ⟨⟨q0, q1, q2, q3, q4, q5, c9, rfl, hlr⟩, hx5⟩; replace hT := hT.trans hx5; (try replace q9 := q9.ext hx5); replace hlr := Lib.hid hlr; clear hx5)); all_goals ((with_reducible refine hK _ _ ?_); refine ⟨hT, ?_⟩; clear hK K; go_simp))
                  all_goals clear ho7
                  all_goals (apply c3_st ho8 rfl; (intro w2 hS; first | (go_simp; first | done | rfl) | rfl | (obtain ⟨hc', hf', hk', hz⟩ := ecell hS; go_simp; first | done | rfl)); simp only [Act.put, List.setIfInBounds_toArray, List.set_cons_zero, List.set_cons_succ])
                  all_goals clear ho8
                  all_goals (apply c3_st ho9 rfl; (intro w2 hS; first | (go_simp; first | done | rfl) | rfl | (obtain ⟨hc', hf', hk', hz⟩ := ecell hS; go_simp; first | done | rfl)); simp only [Act.put, List.setIfInBounds_toArray, List.set_cons_zero, List.set_cons_succ])
                  all_goals clear ho9
                  all_goals (apply c3_st ho10 rfl; (intro w2 hS; first | (go_simp; first | done | rfl) | rfl | (obtain ⟨hc', hf', hk', hz⟩ := ecell hS; go_simp; first | done | rfl)); simp only [Act.put, List.setIfInBounds_toArray, List.set_cons_zero, List.set_cons_succ])
                  all_goals clear ho10
                  all_goals refine c3_one ?_
                  all_goals first | (refine c3_op ho11 rfl (fun K hK => ?_); (refine allocL_op ?_; intro w6 g9 e9 l9 x9 q9; have m9 : wr.heap.size ≤ g9 := (by have := hT.below.size; omega); replace hT := hT.trans x9; clear e9 x9); all_goals ((with_reducible refine hK _ _ ?_); refine ⟨hT, ?_⟩; clear hK K; go_simp))
                  all_goals clear ho11
                  all_goals refine c3_one ?_
                  all_goals first | (refine c3_op ho12 rfl (fun K hK => ?_); (refine storeL_op q9 rfl rfl ?_; intro w7 s7 b7 q7; replace hT := s7 _ hT m9; replace q9 := q7; clear s7 b7 q7); all_goals ((with_reducible refine hK _ _ ?_); refine ⟨hT, ?_⟩; clear hK K; go_simp))
                  all_goals clear ho12
                  all_goals (apply c3_st ho13 rfl; (intro w2 hS; first | (go_simp; first | done | rfl) | rfl | (obtain ⟨hc', hf', hk', hz⟩ := ecell hS; go_simp; first | done | rfl)); simp only [Act.put, List.setIfInBounds_toArray, List.set_cons_zero, List.set_cons_succ])
                  all_goals clear ho13
                  all_goals refine c3_done (NoPanic.normal ?_)
              all_goals
                have f3 := q9.cell (i := 3) (v := .int .i64 q3) rfl; have fL := q9.lt
                have hb7 := hbr.ext hT; have e5 := hb7.cell (i := 5) (v := .slice (some ⟨b, o, none⟩) ss.length cs) rfl; have eL := hb7.lt
                obtain ⟨b', o', e', hbl7, y7⟩ := yx.out _ hT
                simp only [Option.some.injEq, Addr.mk.injEq, and_true] at e'
                obtain ⟨rfl, rfl⟩ := e'
                clear a0 a1 a2 a3 a4 a6 a7 y1 cL c5 l9 m9
                rcases hlr.out with ⟨hP, ⟨-, -, -, h3, -, -⟩, rfl⟩ | ⟨hP, ⟨-, -, -, -, -, -⟩, rfl⟩
                · subst h3
                  by_cases hnd : need ≤ q3
                  · obtain ⟨rfl, rfl⟩ : V1 = n ∧ V2 = 0 := by simpa using hV.out (hfd.out.2 ⟨hP, hnd⟩)
                    go_wp2
                    go_ret2
                    exact ⟨rfl, hxr.trans hT⟩
                  · go_wp2
                    go_roundw
                    case rel => exact ⟨j + 1, hlt, by go_num, Lib.hid (hst.out (fun h => by have := (hfd.out.1 h).2; omega)), hext.trans hT⟩
                    case measure => simp [intOf]; omega
                · go_wp2
                  go_roundw
                  case rel => exact ⟨j + 1, hlt, by go_num, Lib.hid (hst.out (fun h => hP (hfd.out.1 h).1)), hext.trans hT⟩
                  case measure => simp [intOf]; omega
            · obtain rfl : j = ss.length := by omega
              have hV := hV2.out trivial hall.out
              simp only [Prod.mk.injEq] at hV
              obtain ⟨rfl, rfl⟩ := hV
              go_wp2
              go_ret2
              exact ⟨rfl, hxr⟩
        · have hc2 : (c != 0) = true := by simpa using hc
          have hV := hV1.out hc
          simp only [Prod.mk.injEq] at hV
          obtain ⟨rfl, rfl⟩ := hV
          clear hc
          go_enter Tryz.func7, Tryz.ntmps7
          go_upto_region 8 with (first
            | (go_at_call 19; (with_reducible refine (hif.out _ (HS.out.ext hx0) (HLV.out.ext hx0)).mono ?_); rintro e w1 ⟨⟨hP, rfl⟩ | ⟨hP, rfl⟩, hx1⟩ <;> (first | exact absurd hF.out hP | skip); have hb1 := FB.out _ hx1; have a0 := hb1.cell (i := 0) (v := .string nm) rfl; have a1 := hb1.cell (i := 1) (v := .int .i64 K) rfl; have a2 := hb1.cell (i := 2) (v := .int .i64 p) rfl; have a3 := hb1.cell (i := 3) (v := .int .i64 k) rfl; have a4 := hb1.cell (i := 4) (v := .int .i64 q) rfl; have a5 := hb1.cell (i := 5) (v := .slice ps ss.length cs) rfl; have a6 := hb1.cell (i := 6) (v := .int .i64 co) rfl; have a7 := hb1.cell (i := 7) (v := .slice pl ls.length cl) rfl; have aL := hb1.lt)
            | (go_at_call 20; (with_reducible refine (l01In_c _ _ _ _).mono ?_); rintro e w2 ⟨⟨hP2, rfl⟩ | ⟨hP2, rfl⟩, rfl⟩ <;> (first | exact absurd hL hP2 | skip))
            | (go_at_call 21; (with_reducible refine (hps.out _).mono ?_); rintro e w4 ⟨rfl, hx4⟩))
          have hb4 := FB.out _ (hx1.trans hx4)
          have hcb : (c == 0) = false := by simpa using hc2
          clear a0 a1 a2 a3 a4 a5 a6 a7 aL
          go_upto_region 9 with (fail)
          go_loopw [10] (fun i wr => i = .int .i64 0 ∧ Ext w4 wr) (fun i _ => 0)
          case atStart => exact ⟨rfl, Ext.refl w4⟩
          case round =>
            obtain ⟨rfl, hext⟩ := hrel
            have hbr := hb4.ext hext
            have c5 := hbr.cell (i := 5) (v := .slice ps ss.length cs) rfl; have cL := hbr.lt
            by_cases hlt : (0 : Int) < ss.length
            · go_wp2
              go_ret2
              exact ⟨rfl, ((hx0.trans hx1).trans hx4).trans hext⟩
            · go_wp2
              go_ret2
              exact ⟨rfl, ((hx0.trans hx1).trans hx4).trans hext⟩
      · have hV := ssV_long (K := K) (p := p) (k := k) (q := q) (co := co) (ss := ss) hF hll hT
        rw [hV]
        replace hF := Lib.hid hF; clear hV
        go_enter Tryz.func7, Tryz.ntmps7
        go_wp2_with (first
            | (go_at_call 19; (with_reducible refine (hif.out _ (HS.out.ext hx0) (HLV.out.ext hx0)).mono ?_); rintro e w1 ⟨⟨hP, rfl⟩ | ⟨hP, rfl⟩, hx1⟩ <;> (first | exact absurd hF.out hP | skip); have hb1 := FB.out _ hx1; have a0 := hb1.cell (i := 0) (v := .string nm) rfl; have a1 := hb1.cell (i := 1) (v := .int .i64 K) rfl; have a2 := hb1.cell (i := 2) (v := .int .i64 p) rfl; have a3 := hb1.cell (i := 3) (v := .int .i64 k) rfl; have a4 := hb1.cell (i := 4) (v := .int .i64 q) rfl; have a5 := hb1.cell (i := 5) (v := .slice ps ss.length cs) rfl; have a6 := hb1.cell (i := 6) (v := .int .i64 co) rfl; have a7 := hb1.cell (i := 7) (v := .slice pl ls.length cl) rfl; have aL := hb1.lt)
            | (go_at_call 20; (with_reducible refine (l01In_c _ _ _ _).mono ?_); rintro e w2 ⟨⟨hP2, rfl⟩ | ⟨hP2, rfl⟩, rfl⟩ <;> (first | exact absurd hL hP2 | skip)))
        go_ret2
        exact ⟨rfl, hx0.trans hx1⟩
    · rw [ssV_level (K := K) (p := p) (k := k) (q := q) (co := co) (ss := ss) hF hL]
      replace hF := Lib.hid hF
      replace hL := Lib.hid hL
      go_enter Tryz.func7, Tryz.ntmps7
      go_wp2_with (first
            | (go_at_call 19; (with_reducible refine (hif.out _ (HS.out.ext hx0) (HLV.out.ext hx0)).mono ?_); rintro e w1 ⟨⟨hP, rfl⟩ | ⟨hP, rfl⟩, hx1⟩ <;> (first | exact absurd hF.out hP | skip); have hb1 := FB.out _ hx1; have a0 := hb1.cell (i := 0) (v := .string nm) rfl; have a1 := hb1.cell (i := 1) (v := .int .i64 K) rfl; have a2 := hb1.cell (i := 2) (v := .int .i64 p) rfl; have a3 := hb1.cell (i := 3) (v := .int .i64 k) rfl; have a4 := hb1.cell (i := 4) (v := .int .i64 q) rfl; have a5 := hb1.cell (i := 5) (v := .slice ps ss.length cs) rfl; have a6 := hb1.cell (i := 6) (v := .int .i64 co) rfl; have a7 := hb1.cell (i := 7) (v := .slice pl ls.length cl) rfl; have aL := hb1.lt)
            | (go_at_call 20; (with_reducible refine (l01In_c _ _ _ _).mono ?_); rintro e w2 ⟨⟨hP2, rfl⟩ | ⟨hP2, rfl⟩, rfl⟩ <;> (first | exact absurd hP2 hL.out | skip)))
      go_ret2
      exact ⟨rfl, hx0.trans hx1⟩
  · rw [ssV_fam (co := co) (ls := ls) hF]
    replace hF := Lib.hid hF
    go_enter Tryz.func7, Tryz.ntmps7
    go_wp2_with (go_at_call 19; (with_reducible refine (hif.out _ (HS.out.ext hx0) (HLV.out.ext hx0)).mono ?_); rintro e w1 ⟨⟨hP, rfl⟩ | ⟨hP, rfl⟩, hx1⟩ <;> (first | exact absurd hP hF.out | skip))
    go_ret2
    exact ⟨rfl, hx0.trans hx1⟩
end Go.Proofs.YthokkmbdkjpbcaaGreat

/-! How the laws measure, copy and compare families. -/
namespace Go.Proofs.YthokkmbdkjpbcaaGreat
set_option linter.unusedVariables false
set_option linter.unusedSimpArgs false
open Go.RowKit

/-- A family stored into its block. -/
def setFam (w : World) (g : Nat) (v0 v1 v2 v3 v4 v5 v6 v7 : Value) : World :=
  (((((((w.setCell ⟨g, 0, none⟩ v0).setCell ⟨g, 1, none⟩ v1).setCell ⟨g, 2, none⟩ v2).setCell ⟨g, 3, none⟩ v3).setCell ⟨g, 4, none⟩ v4).setCell ⟨g, 5, none⟩ v5).setCell ⟨g, 6, none⟩ v6).setCell ⟨g, 7, none⟩ v7
theorem Blk.fam {w : World} {g : Nat} {b0 b1 b2 b3 b4 b5 b6 b7 : Value} {t : TypeId} (h : Blk w g #[b0, b1, b2, b3, b4, b5, b6, b7] t) (v0 v1 v2 v3 v4 v5 v6 v7 : Value) : Blk (setFam w g v0 v1 v2 v3 v4 v5 v6 v7) g #[v0, v1, v2, v3, v4, v5, v6, v7] t := by
  have h0 : Blk (w.setCell ⟨g, 0, none⟩ v0) g #[v0, b1, b2, b3, b4, b5, b6, b7] t := h.set 0 v0
  have h1 : Blk ((w.setCell ⟨g, 0, none⟩ v0).setCell ⟨g, 1, none⟩ v1) g #[v0, v1, b2, b3, b4, b5, b6, b7] t := h0.set 1 v1
  have h2 : Blk (((w.setCell ⟨g, 0, none⟩ v0).setCell ⟨g, 1, none⟩ v1).setCell ⟨g, 2, none⟩ v2) g #[v0, v1, v2, b3, b4, b5, b6, b7] t := h1.set 2 v2
  have h3 : Blk ((((w.setCell ⟨g, 0, none⟩ v0).setCell ⟨g, 1, none⟩ v1).setCell ⟨g, 2, none⟩ v2).setCell ⟨g, 3, none⟩ v3) g #[v0, v1, v2, v3, b4, b5, b6, b7] t := h2.set 3 v3
  have h4 : Blk (((((w.setCell ⟨g, 0, none⟩ v0).setCell ⟨g, 1, none⟩ v1).setCell ⟨g, 2, none⟩ v2).setCell ⟨g, 3, none⟩ v3).setCell ⟨g, 4, none⟩ v4) g #[v0, v1, v2, v3, v4, b5, b6, b7] t := h3.set 4 v4
  have h5 : Blk ((((((w.setCell ⟨g, 0, none⟩ v0).setCell ⟨g, 1, none⟩ v1).setCell ⟨g, 2, none⟩ v2).setCell ⟨g, 3, none⟩ v3).setCell ⟨g, 4, none⟩ v4).setCell ⟨g, 5, none⟩ v5) g #[v0, v1, v2, v3, v4, v5, b6, b7] t := h4.set 5 v5
  have h6 : Blk (((((((w.setCell ⟨g, 0, none⟩ v0).setCell ⟨g, 1, none⟩ v1).setCell ⟨g, 2, none⟩ v2).setCell ⟨g, 3, none⟩ v3).setCell ⟨g, 4, none⟩ v4).setCell ⟨g, 5, none⟩ v5).setCell ⟨g, 6, none⟩ v6) g #[v0, v1, v2, v3, v4, v5, v6, b7] t := h5.set 6 v6
  have h7 : Blk ((((((((w.setCell ⟨g, 0, none⟩ v0).setCell ⟨g, 1, none⟩ v1).setCell ⟨g, 2, none⟩ v2).setCell ⟨g, 3, none⟩ v3).setCell ⟨g, 4, none⟩ v4).setCell ⟨g, 5, none⟩ v5).setCell ⟨g, 6, none⟩ v6).setCell ⟨g, 7, none⟩ v7) g #[v0, v1, v2, v3, v4, v5, v6, v7] t := h6.set 7 v7
  exact h7
theorem Ext.fam {a w : World} (h : Ext a w) {g : Nat} (hg : a.heap.size ≤ g) (v0 v1 v2 v3 v4 v5 v6 v7 : Value) : Ext a (setFam w g v0 v1 v2 v3 v4 v5 v6 v7) :=
  (((((((h.setCell (p := ⟨g, 0, none⟩) hg _).setCell (p := ⟨g, 1, none⟩) hg _).setCell (p := ⟨g, 2, none⟩) hg _).setCell (p := ⟨g, 3, none⟩) hg _).setCell (p := ⟨g, 4, none⟩) hg _).setCell (p := ⟨g, 5, none⟩) hg _).setCell (p := ⟨g, 6, none⟩) hg _).setCell (p := ⟨g, 7, none⟩) hg _
theorem But.fam (w : World) (g : Nat) (v0 v1 v2 v3 v4 v5 v6 v7 : Value) : But g w (setFam w g v0 v1 v2 v3 v4 v5 v6 v7) := by
  unfold setFam
  exact (((((((But.set w g 0 _).setG _).setG _).setG _).setG _).setG _).setG _).setG _
end Go.Proofs.YthokkmbdkjpbcaaGreat
