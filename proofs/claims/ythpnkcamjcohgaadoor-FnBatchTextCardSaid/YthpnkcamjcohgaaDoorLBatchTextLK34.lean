/- Drawn batches. -/
import Derived.Test.YthpnkcamjcohgaaDoorLBatchTextLK07
import Derived.Test.YthpnkcamjcohgaaDoorLBatchTextLK08
import Derived.Test.YthpnkcamjcohgaaDoorLBatchTextLK24
import Derived.Test.YthpnkcamjcohgaaDoorLBatchTextLK33
/-! Drawn batches. -/
namespace Go.Proofs.YthpnkcamjcohgaaDoor
set_option linter.unusedVariables false
set_option linter.unusedSimpArgs false
open Go.RowKit

abbrev vBat (s : ByteArray) (f st c wd : Int) : Value := .agg #[.string s, .int .i64 f, .int .i64 st, .int .i64 c, .int .i64 wd]
abbrev vBat5 (s : ByteArray) (f st c wd : Int) : Array Value := #[.string s, .int .i64 f, .int .i64 st, .int .i64 c, .int .i64 wd]
theorem Blk.bat5 {w : World} {g : Nat} {t : TypeId} {s0 : ByteArray} {f0 st0 c0 wd0 : Int} (h : Blk w g (vBat5 s0 f0 st0 c0 wd0) t) (s : ByteArray) (f st c wd : Int) :
    Blk (((((w.setCell ⟨g, 0, none⟩ (.string s)).setCell ⟨g, 1, none⟩ (.int .i64 f)).setCell ⟨g, 2, none⟩ (.int .i64 st)).setCell ⟨g, 3, none⟩ (.int .i64 c)).setCell ⟨g, 4, none⟩ (.int .i64 wd)) g (vBat5 s f st c wd) t := by
  have h0 : Blk (w.setCell ⟨g, 0, none⟩ (.string s)) g (vBat5 s f0 st0 c0 wd0) t := h.set 0 _
  have h1 : Blk ((w.setCell ⟨g, 0, none⟩ (.string s)).setCell ⟨g, 1, none⟩ (.int .i64 f)) g (vBat5 s f st0 c0 wd0) t := h0.set 1 _
  have h2 : Blk (((w.setCell ⟨g, 0, none⟩ (.string s)).setCell ⟨g, 1, none⟩ (.int .i64 f)).setCell ⟨g, 2, none⟩ (.int .i64 st)) g (vBat5 s f st c0 wd0) t := h1.set 2 _
  have h3 : Blk ((((w.setCell ⟨g, 0, none⟩ (.string s)).setCell ⟨g, 1, none⟩ (.int .i64 f)).setCell ⟨g, 2, none⟩ (.int .i64 st)).setCell ⟨g, 3, none⟩ (.int .i64 c)) g (vBat5 s f st c wd0) t := h2.set 3 _
  exact h3.set 4 _
theorem Blk.far5 {w : World} {g g' : Nat} {t : TypeId} {cs : Array Value} (h : Blk w g cs t) (hne : g ≠ g') (s : ByteArray) (f st c wd : Int) :
    Blk (((((w.setCell ⟨g', 0, none⟩ (.string s)).setCell ⟨g', 1, none⟩ (.int .i64 f)).setCell ⟨g', 2, none⟩ (.int .i64 st)).setCell ⟨g', 3, none⟩ (.int .i64 c)).setCell ⟨g', 4, none⟩ (.int .i64 wd)) g cs t :=
  ((((h.far hne _).far hne _).far hne _).far hne _).far hne _
abbrev strs4 : Array Value := #[.string ⟨#[]⟩, .string ⟨#[65]⟩, .string ⟨#[76, 79, 84, 45]⟩, .string ⟨#[66, 79, 88]⟩]
theorem strs4A (j : Nat) (hj : j < 4) : ∃ v : ByteArray, strs4[j]? = some (.string v) ∧ v.size ≤ 4 := by
  match j, hj with
  | 0, _ => exact ⟨_, rfl, by decide⟩
  | 1, _ => exact ⟨_, rfl, by decide⟩
  | 2, _ => exact ⟨_, rfl, by decide⟩
  | 3, _ => exact ⟨_, rfl, by decide⟩
abbrev strsB : Array Value := #[.string ⟨#[97]⟩, .string ⟨#[65, 66, 67, 68, 69, 70, 71, 72, 73, 74, 75, 76]⟩, .string ⟨#[65, 66, 67, 68, 69, 70, 71, 72, 73, 74, 75, 76, 77]⟩, .string ⟨#[55]⟩]
theorem strsB_at (j : Nat) (hj : j < 4) : ∃ v : ByteArray, strsB[j]? = some (.string v) ∧ v.size ≤ 20 := by
  match j, hj with
  | 0, _ => exact ⟨_, rfl, by decide⟩
  | 1, _ => exact ⟨_, rfl, by decide⟩
  | 2, _ => exact ⟨_, rfl, by decide⟩
  | 3, _ => exact ⟨_, rfl, by decide⟩
abbrev intsW : Array Value := #[.int .i64 0, .int .i64 9, .int .i64 10, .int .i64 1]
theorem intsW_at (j : Nat) (hj : j < 4) : ∃ v : Int, intsW[j]? = some (.int .i64 v) := by
  match j, hj with
  | 0, _ => exact ⟨_, rfl⟩
  | 1, _ => exact ⟨_, rfl⟩
  | 2, _ => exact ⟨_, rfl⟩
  | 3, _ => exact ⟨_, rfl⟩
abbrev intsC : Array Value := #[.int .i64 0, .int .i64 200, .int .i64 201]
theorem intsC_at (j : Nat) (hj : j < 3) : ∃ v : Int, intsC[j]? = some (.int .i64 v) := by
  match j, hj with
  | 0, _ => exact ⟨_, rfl⟩
  | 1, _ => exact ⟨_, rfl⟩
  | 2, _ => exact ⟨_, rfl⟩
abbrev intsS : Array Value := #[.int .i64 0, .int .i64 1000, .int .i64 1001]
theorem intsS_at (j : Nat) (hj : j < 3) : ∃ v : Int, intsS[j]? = some (.int .i64 v) := by
  match j, hj with
  | 0, _ => exact ⟨_, rfl⟩
  | 1, _ => exact ⟨_, rfl⟩
  | 2, _ => exact ⟨_, rfl⟩
/-- What holds while the parts of a batch are drawn. -/
structure IBat (n0 g : Nat) (w1 : World) (l0 l2 l3 l4 l6 l9 l12 l15 l16 l17 l18 : Bool) (bs gx j : Nat) (t8 : ByteArray) (x6 x9 x12 x15 : Int) (W : World) : Prop where
  hs : Src n0 W g
  hb : But g w1 W
  f0 : l0 = true → w1.heap.size ≤ bs ∧ Blk W bs strs4 9
  f2 : l2 = true → j < 4
  f3 : l3 = true → l0 = true ∧ l2 = true
  f4 : l4 = true → l3 = true ∧ t8.size ≤ 4
  f16 : l16 = true → l4 = true ∧ l6 = true ∧ l9 = true ∧ l12 = true ∧ l15 = true
  f18 : l18 = true → l16 = true ∧ l17 = true
  f17 : l17 = true → w1.heap.size ≤ gx ∧ (l0 = true → gx ≠ bs) ∧ Blk W gx (cond l18 (vBat5 t8 x6 x9 x12 x15) (vBat5 ByteArray.empty 0 0 0 0)) 51
/-- A batch has been drawn; only the source has turned. -/
def BatR (n0 g : Nat) (w : World) (e : Ending) (w' : World) : Prop := ∃ (s : ByteArray) (f st c wd : Int), e = .returned (vBat s f st c wd) ∧ s.size ≤ 20 ∧ Src n0 w' g ∧ But g w w'
set_option maxHeartbeats 3200000 in
set_option maxRecDepth 100000 in
theorem l31Draw_c (n0 g : Nat) (w : World) (h : Src n0 w g) (hn0 : n0 ≤ w.heap.size) :
    Calls Tryd.prog 64 #[.pointer (some ⟨g, 0, none⟩)] w fun e w' => BatR n0 g w e w' := by
  have hg : g < n0 := h.1
  have hbr1 := Blk.new w #[.string ⟨#[]⟩, .int .i64 0, .int .i64 0, .int .i64 0, .int .i64 0] 51
  have hr0 : But g w (w.alloc (.cells #[.string ⟨#[]⟩, .int .i64 0, .int .i64 0, .int .i64 0, .int .i64 0] 51)) := But.of ((Ext.refl w).alloc _)
  have hs1 := h.alloc (.cells #[.string ⟨#[]⟩, .int .i64 0, .int .i64 0, .int .i64 0, .int .i64 0] 51)
  have hzw : (w.alloc (.cells #[.string ⟨#[]⟩, .int .i64 0, .int .i64 0, .int .i64 0, .int .i64 0] 51)).heap.size = w.heap.size + 1 := by simp
  have hmx : Tryd.prog.follows .mixedOrders = true := by kernel_rfl
  clear h
  go_enter Tryd.func64, Tryd.ntmps64
  go_wp2_with fail
  generalize w.alloc (.cells #[.string ⟨#[]⟩, .int .i64 0, .int .i64 0, .int .i64 0, .int .i64 0] 51) = w1 at *
  refine wp_region_inv hmx (fun l a W => ∃ (l0 l1 l2 l3 l4 l5 l6 l7 l8 l9 l10 l11 l12 l13 l14 l15 l16 l17 l18 : Bool) (bs gx j : Nat) (t8 : ByteArray) (x6 x8 x9 x11 x12 x14 x15 : Int), l = #[l0, l1, l2, l3, l4, l5, l6, l7, l8, l9, l10, l11, l12, l13, l14, l15, l16, l17, l18] ∧ a = { tmps := #[.pointer (some ⟨g, 0, none⟩), undef, .pointer (some ⟨w.heap.size, 0, none⟩), cond l17 (.pointer (some ⟨gx, 0, none⟩)) undef, cond l0 (.slice (some ⟨bs, 0, none⟩) 4 4) undef, cond l1 (.pointer (some ⟨g, 0, none⟩)) undef, cond l2 (.int .i64 j) undef, cond l3 (.pointer (some ⟨bs, j, none⟩)) undef, cond l4 (.string t8) undef, cond l5 (.pointer (some ⟨g, 0, none⟩)) undef, cond l6 (.int .i64 x6) undef, cond l7 (.pointer (some ⟨g, 0, none⟩)) undef, cond l8 (.int .i64 x8) undef, cond l9 (.int .i64 x9) undef, cond l10 (.pointer (some ⟨g, 0, none⟩)) undef, cond l11 (.int .i64 x11) undef, cond l12 (.int .i64 x12) undef, cond l13 (.pointer (some ⟨g, 0, none⟩)) undef, cond l14 (.int .i64 x14) undef, cond l15 (.int .i64 x15) undef, cond l16 (vBat t8 x6 x9 x12 x15) undef, undef, undef, undef, undef, undef, undef, undef, undef, undef, undef, undef, undef, undef, undef, undef, undef, undef, undef, undef, undef, undef, undef, undef, undef, undef, undef, undef, undef, undef, undef, undef, undef, undef, undef, undef, undef, undef, undef, undef, undef, undef], defers := [] } ∧ IBat n0 g w1 l0 l2 l3 l4 l6 l9 l12 l15 l16 l17 l18 bs gx j t8 x6 x9 x12 x15 W) ?_ ?_ (by kernel_rfl) ?_ ?_
  · exact ⟨false, false, false, false, false, false, false, false, false, false, false, false, false, false, false, false, false, false, false, 0, 0, 0, ByteArray.empty, 0, 0, 0, 0, 0, 0, 0, rfl, rfl, ⟨hs1, But.drew (But.refl _ _), (fun h => by cases h), (fun h => by cases h), (fun h => by cases h), (fun h => by cases h), (fun h => by cases h), (fun h => by cases h), (fun h => by cases h)⟩⟩
  · rintro l a W ⟨l0, l1, l2, l3, l4, l5, l6, l7, l8, l9, l10, l11, l12, l13, l14, l15, l16, l17, l18, bs, gx, j, t8, x6, x8, x9, x11, x12, x14, x15, rfl, rfl, ⟨hs, hb, f0, f2, f3, f4, f16, f18, f17⟩⟩
    rfl
  · rintro l a W ⟨l0, l1, l2, l3, l4, l5, l6, l7, l8, l9, l10, l11, l12, l13, l14, l15, l16, l17, l18, bs, gx, j, t8, x6, x8, x9, x11, x12, x14, x15, rfl, rfl, ⟨hs, hb, f0, f2, f3, f4, f16, f18, f17⟩⟩ hall
    have e0 := hall 0 (by decide); simp at e0; subst e0
    have e1 := hall 1 (by decide); simp at e1; subst e1
    have e2 := hall 2 (by decide); simp at e2; subst e2
    have e3 := hall 3 (by decide); simp at e3; subst e3
    have e4 := hall 4 (by decide); simp at e4; subst e4
    have e5 := hall 5 (by decide); simp at e5; subst e5
    have e6 := hall 6 (by decide); simp at e6; subst e6
    have e7 := hall 7 (by decide); simp at e7; subst e7
    have e8 := hall 8 (by decide); simp at e8; subst e8
    have e9 := hall 9 (by decide); simp at e9; subst e9
    have e10 := hall 10 (by decide); simp at e10; subst e10
    have e11 := hall 11 (by decide); simp at e11; subst e11
    have e12 := hall 12 (by decide); simp at e12; subst e12
    have e13 := hall 13 (by decide); simp at e13; subst e13
    have e14 := hall 14 (by decide); simp at e14; subst e14
    have e15 := hall 15 (by decide); simp at e15; subst e15
    have e16 := hall 16 (by decide); simp at e16; subst e16
    have e17 := hall 17 (by decide); simp at e17; subst e17
    have e18 := hall 18 (by decide); simp at e18; subst e18
    clear hall
    obtain ⟨hxB, -, hX⟩ := f17 rfl
    simp only [cond_true] at hX ⊢
    have ht8 := (f4 rfl).2
    have hbr := hbr1.but hb (by omega)
    clear f0 f2 f3 f4 f16 f18 f17 hs1 hbr1
    have hb0 := hr0.trans hb
    clear hr0 hb
    have hzW := hb0.size
    go_wp2_with fail
    refine (Next_c n0 g 24 _ hs (by omega)).mono ?_
    rintro e w3 ⟨z, rfl, -, -, -, hs2, hb3⟩
    have hX2 := hX.but hb3 (by omega)
    have hbr2 := hbr.but hb3 (by omega)
    have hb02 := hb0.trans hb3
    have hz3 := hb3.size
    have hxl := hX2.lt
    clear hX hbr hb0 hb3 hs
    have hzz : z = 0 ∨ z = 1 ∨ z = 2 ∨ z = 3 ∨ z = 4 ∨ (z ≠ 0 ∧ z ≠ 1 ∧ z ≠ 2 ∧ z ≠ 3 ∧ z ≠ 4) := by omega
    rcases hzz with rfl | rfl | rfl | rfl | rfl | ⟨d0, d1, d2, d3, d4⟩
    · go_wp2_with fail
      refine (Next_c n0 g 4 _ (hs2.alloc _) (by omega)).mono ?_
      rintro e w4 ⟨zz, rfl, hz0, hz3, -, hs4, hb4⟩
      replace hz3 := hz3 (by omega)
      obtain ⟨zn, rfl⟩ : ∃ zn : Nat, zz = zn := ⟨zz.toNat, by omega⟩
      have hzn : (zn : Int) < 4 := hz3
      obtain ⟨v, hv, hvs⟩ := strsB_at zn (by omega)
      have hA := (Blk.new w3 strsB 9).but hb4 (by show w3.heap.size ≠ g; omega)
      have sA := hA.cell hv
      have sB := hA.lt
      have hX4 := (hX2.alloc (.cells strsB 9)).but hb4 (by omega)
      have hbr4 := (hbr2.alloc (.cells strsB 9)).but hb4 (by omega)
      have hb04 := (hb02.alloc (.cells strsB 9)).trans hb4
      have x0 := hX4.cell (i := 0) (v := .string t8) rfl; have xl := hX4.lt; have xf := hX4.free
      have hX5 : Blk _ gx (vBat5 v x6 x9 x12 x15) 51 := hX4.set 0 (.string v)
      have hbr5 := hbr4.far (g' := gx) (i := 0) (by omega) (.string v)
      have hs5 := hs4.set (x := gx) (i := 0) (v := .string v) (by omega)
      have hb05 := hb04.setOld (x := gx) (i := 0) (v := .string v) (by omega)
      have y0 := hX4.cell (i := 0) (v := .string t8) rfl; have y1 := hX4.cell (i := 1) (v := .int .i64 x6) rfl; have y2 := hX4.cell (i := 2) (v := .int .i64 x9) rfl; have y3 := hX4.cell (i := 3) (v := .int .i64 x12) rfl; have y4 := hX4.cell (i := 4) (v := .int .i64 x15) rfl
      have q0 := hX5.cell (i := 0) (v := .string v) rfl; have q1 := hX5.cell (i := 1) (v := .int .i64 x6) rfl; have q2 := hX5.cell (i := 2) (v := .int .i64 x9) rfl; have q3 := hX5.cell (i := 3) (v := .int .i64 x12) rfl; have q4 := hX5.cell (i := 4) (v := .int .i64 x15) rfl; have ql := hX5.lt
      have r0 := hbr5.cell (i := 0) (v := .string ByteArray.empty) rfl; have r1 := hbr5.cell (i := 1) (v := .int .i64 0) rfl; have r2 := hbr5.cell (i := 2) (v := .int .i64 0) rfl; have r3 := hbr5.cell (i := 3) (v := .int .i64 0) rfl; have r4 := hbr5.cell (i := 4) (v := .int .i64 0) rfl; have rl := hbr5.lt; have rf := hbr5.free
      have hF := hbr5.bat5 v x6 x9 x12 x15
      have c0 := hF.cell (i := 0) (v := .string v) rfl; have c1 := hF.cell (i := 1) (v := .int .i64 x6) rfl; have c2 := hF.cell (i := 2) (v := .int .i64 x9) rfl; have c3 := hF.cell (i := 3) (v := .int .i64 x12) rfl; have c4 := hF.cell (i := 4) (v := .int .i64 x15) rfl
      go_wp2_with fail
      exact bodyPost_ret (v := vBat v x6 x9 x12 x15) (by simp [results, Tryd.results64, go_sem, c0, c1, c2, c3, c4]) rfl ⟨v, x6, x9, x12, x15, rfl, hvs, ((((hs5.set hn0).set hn0).set hn0).set hn0).set hn0, (((((hb05).setOld (Nat.le_refl _)).setOld (Nat.le_refl _)).setOld (Nat.le_refl _)).setOld (Nat.le_refl _)).setOld (Nat.le_refl _)⟩
    · go_wp2_with fail
      refine (Next_c n0 g 4 _ (hs2.alloc _) (by omega)).mono ?_
      rintro e w4 ⟨zz, rfl, hz0, hz3, -, hs4, hb4⟩
      replace hz3 := hz3 (by omega)
      obtain ⟨zn, rfl⟩ : ∃ zn : Nat, zz = zn := ⟨zz.toNat, by omega⟩
      have hzn : (zn : Int) < 4 := hz3
      obtain ⟨v, hv⟩ := intsW_at zn (by omega)
      have hA := (Blk.new w3 intsW 2).but hb4 (by show w3.heap.size ≠ g; omega)
      have sA := hA.cell hv
      have sB := hA.lt
      have hX4 := (hX2.alloc (.cells intsW 2)).but hb4 (by omega)
      have hbr4 := (hbr2.alloc (.cells intsW 2)).but hb4 (by omega)
      have hb04 := (hb02.alloc (.cells intsW 2)).trans hb4
      have x0 := hX4.cell (i := 4) (v := .int .i64 x15) rfl; have xl := hX4.lt; have xf := hX4.free
      have hX5 : Blk _ gx (vBat5 t8 x6 x9 x12 v) 51 := hX4.set 4 (.int .i64 v)
      have hbr5 := hbr4.far (g' := gx) (i := 4) (by omega) (.int .i64 v)
      have hs5 := hs4.set (x := gx) (i := 4) (v := .int .i64 v) (by omega)
      have hb05 := hb04.setOld (x := gx) (i := 4) (v := .int .i64 v) (by omega)
      have y0 := hX4.cell (i := 0) (v := .string t8) rfl; have y1 := hX4.cell (i := 1) (v := .int .i64 x6) rfl; have y2 := hX4.cell (i := 2) (v := .int .i64 x9) rfl; have y3 := hX4.cell (i := 3) (v := .int .i64 x12) rfl; have y4 := hX4.cell (i := 4) (v := .int .i64 x15) rfl
      have q0 := hX5.cell (i := 0) (v := .string t8) rfl; have q1 := hX5.cell (i := 1) (v := .int .i64 x6) rfl; have q2 := hX5.cell (i := 2) (v := .int .i64 x9) rfl; have q3 := hX5.cell (i := 3) (v := .int .i64 x12) rfl; have q4 := hX5.cell (i := 4) (v := .int .i64 v) rfl; have ql := hX5.lt
      have r0 := hbr5.cell (i := 0) (v := .string ByteArray.empty) rfl; have r1 := hbr5.cell (i := 1) (v := .int .i64 0) rfl; have r2 := hbr5.cell (i := 2) (v := .int .i64 0) rfl; have r3 := hbr5.cell (i := 3) (v := .int .i64 0) rfl; have r4 := hbr5.cell (i := 4) (v := .int .i64 0) rfl; have rl := hbr5.lt; have rf := hbr5.free
      have hF := hbr5.bat5 t8 x6 x9 x12 v
      have c0 := hF.cell (i := 0) (v := .string t8) rfl; have c1 := hF.cell (i := 1) (v := .int .i64 x6) rfl; have c2 := hF.cell (i := 2) (v := .int .i64 x9) rfl; have c3 := hF.cell (i := 3) (v := .int .i64 x12) rfl; have c4 := hF.cell (i := 4) (v := .int .i64 v) rfl
      go_wp2_with fail
      exact bodyPost_ret (v := vBat t8 x6 x9 x12 v) (by simp [results, Tryd.results64, go_sem, c0, c1, c2, c3, c4]) rfl ⟨t8, x6, x9, x12, v, rfl, by omega, ((((hs5.set hn0).set hn0).set hn0).set hn0).set hn0, (((((hb05).setOld (Nat.le_refl _)).setOld (Nat.le_refl _)).setOld (Nat.le_refl _)).setOld (Nat.le_refl _)).setOld (Nat.le_refl _)⟩
    · go_wp2_with fail
      refine (Next_c n0 g 3 _ (hs2.alloc _) (by omega)).mono ?_
      rintro e w4 ⟨zz, rfl, hz0, hz3, -, hs4, hb4⟩
      replace hz3 := hz3 (by omega)
      obtain ⟨zn, rfl⟩ : ∃ zn : Nat, zz = zn := ⟨zz.toNat, by omega⟩
      have hzn : (zn : Int) < 3 := hz3
      obtain ⟨v, hv⟩ := intsC_at zn (by omega)
      have hA := (Blk.new w3 intsC 2).but hb4 (by show w3.heap.size ≠ g; omega)
      have sA := hA.cell hv
      have sB := hA.lt
      have hX4 := (hX2.alloc (.cells intsC 2)).but hb4 (by omega)
      have hbr4 := (hbr2.alloc (.cells intsC 2)).but hb4 (by omega)
      have hb04 := (hb02.alloc (.cells intsC 2)).trans hb4
      have x0 := hX4.cell (i := 3) (v := .int .i64 x12) rfl; have xl := hX4.lt; have xf := hX4.free
      have hX5 : Blk _ gx (vBat5 t8 x6 x9 v x15) 51 := hX4.set 3 (.int .i64 v)
      have hbr5 := hbr4.far (g' := gx) (i := 3) (by omega) (.int .i64 v)
      have hs5 := hs4.set (x := gx) (i := 3) (v := .int .i64 v) (by omega)
      have hb05 := hb04.setOld (x := gx) (i := 3) (v := .int .i64 v) (by omega)
      have y0 := hX4.cell (i := 0) (v := .string t8) rfl; have y1 := hX4.cell (i := 1) (v := .int .i64 x6) rfl; have y2 := hX4.cell (i := 2) (v := .int .i64 x9) rfl; have y3 := hX4.cell (i := 3) (v := .int .i64 x12) rfl; have y4 := hX4.cell (i := 4) (v := .int .i64 x15) rfl
      have q0 := hX5.cell (i := 0) (v := .string t8) rfl; have q1 := hX5.cell (i := 1) (v := .int .i64 x6) rfl; have q2 := hX5.cell (i := 2) (v := .int .i64 x9) rfl; have q3 := hX5.cell (i := 3) (v := .int .i64 v) rfl; have q4 := hX5.cell (i := 4) (v := .int .i64 x15) rfl; have ql := hX5.lt
      have r0 := hbr5.cell (i := 0) (v := .string ByteArray.empty) rfl; have r1 := hbr5.cell (i := 1) (v := .int .i64 0) rfl; have r2 := hbr5.cell (i := 2) (v := .int .i64 0) rfl; have r3 := hbr5.cell (i := 3) (v := .int .i64 0) rfl; have r4 := hbr5.cell (i := 4) (v := .int .i64 0) rfl; have rl := hbr5.lt; have rf := hbr5.free
      have hF := hbr5.bat5 t8 x6 x9 v x15
      have c0 := hF.cell (i := 0) (v := .string t8) rfl; have c1 := hF.cell (i := 1) (v := .int .i64 x6) rfl; have c2 := hF.cell (i := 2) (v := .int .i64 x9) rfl; have c3 := hF.cell (i := 3) (v := .int .i64 v) rfl; have c4 := hF.cell (i := 4) (v := .int .i64 x15) rfl
      go_wp2_with fail
      exact bodyPost_ret (v := vBat t8 x6 x9 v x15) (by simp [results, Tryd.results64, go_sem, c0, c1, c2, c3, c4]) rfl ⟨t8, x6, x9, v, x15, rfl, by omega, ((((hs5.set hn0).set hn0).set hn0).set hn0).set hn0, (((((hb05).setOld (Nat.le_refl _)).setOld (Nat.le_refl _)).setOld (Nat.le_refl _)).setOld (Nat.le_refl _)).setOld (Nat.le_refl _)⟩
    · go_wp2_with fail
      refine (Next_c n0 g 3 _ hs2 (by omega)).mono ?_
      rintro e w4 ⟨zz, rfl, hz0, hz3, -, hs4, hb4⟩
      replace hz3 := hz3 (by omega)
      have ez := IntWalk.i64_in (2 + zz) (by omega)
      have hX4 := hX2.but hb4 (by omega)
      have hbr4 := hbr2.but hb4 (by omega)
      have hb04 := hb02.trans hb4
      have x0 := hX4.cell (i := 0) (v := .string t8) rfl; have x1 := hX4.cell (i := 1) (v := .int .i64 x6) rfl; have x2 := hX4.cell (i := 2) (v := .int .i64 x9) rfl; have x3 := hX4.cell (i := 3) (v := .int .i64 x12) rfl; have x4 := hX4.cell (i := 4) (v := .int .i64 x15) rfl; have xl := hX4.lt; have xf := hX4.free
      have hX5 := hX4.bat5 ⟨#[]⟩ 999999997 1 (2 + zz) 9
      have hbr5 := hbr4.far5 (g' := gx) (by omega) ⟨#[]⟩ 999999997 1 (2 + zz) 9
      have hs5 := ((((hs4.set (x := gx) (i := 0) (v := .string ⟨#[]⟩) (by omega)).set (x := gx) (i := 1) (v := .int .i64 999999997) (by omega)).set (x := gx) (i := 2) (v := .int .i64 1) (by omega)).set (x := gx) (i := 3) (v := .int .i64 (2 + zz)) (by omega)).set (x := gx) (i := 4) (v := .int .i64 9) (by omega)
      have hb05 := ((((hb04.setOld (x := gx) (i := 0) (v := .string ⟨#[]⟩) (by omega)).setOld (x := gx) (i := 1) (v := .int .i64 999999997) (by omega)).setOld (x := gx) (i := 2) (v := .int .i64 1) (by omega)).setOld (x := gx) (i := 3) (v := .int .i64 (2 + zz)) (by omega)).setOld (x := gx) (i := 4) (v := .int .i64 9) (by omega)
      clear hX4 hbr4 hs4 hb04 hb4
      go_upto_region 13 with (fail)
      clear x0 x1 x2 x3 x4 xl xf
      generalize ((((w4.setCell ⟨gx, 0, none⟩ (.string ⟨#[]⟩)).setCell ⟨gx, 1, none⟩ (.int .i64 999999997)).setCell ⟨gx, 2, none⟩ (.int .i64 1)).setCell ⟨gx, 3, none⟩ (.int .i64 (2 + zz))).setCell ⟨gx, 4, none⟩ (.int .i64 9) = w5 at *
      clear ez
      generalize 2 + zz = v at *
      have q0 := hX5.cell (i := 0) (v := .string ⟨#[]⟩) rfl; have q1 := hX5.cell (i := 1) (v := .int .i64 999999997) rfl; have q2 := hX5.cell (i := 2) (v := .int .i64 1) rfl; have q3 := hX5.cell (i := 3) (v := .int .i64 v) rfl; have q4 := hX5.cell (i := 4) (v := .int .i64 9) rfl; have ql := hX5.lt
      have r0 := hbr5.cell (i := 0) (v := .string ByteArray.empty) rfl; have r1 := hbr5.cell (i := 1) (v := .int .i64 0) rfl; have r2 := hbr5.cell (i := 2) (v := .int .i64 0) rfl; have r3 := hbr5.cell (i := 3) (v := .int .i64 0) rfl; have r4 := hbr5.cell (i := 4) (v := .int .i64 0) rfl; have rl := hbr5.lt; have rf := hbr5.free
      have hF := hbr5.bat5 ⟨#[]⟩ 999999997 1 v 9
      have c0 := hF.cell (i := 0) (v := .string ⟨#[]⟩) rfl; have c1 := hF.cell (i := 1) (v := .int .i64 999999997) rfl; have c2 := hF.cell (i := 2) (v := .int .i64 1) rfl; have c3 := hF.cell (i := 3) (v := .int .i64 v) rfl; have c4 := hF.cell (i := 4) (v := .int .i64 9) rfl
      go_wp2_with fail
      exact bodyPost_ret (v := vBat ⟨#[]⟩ 999999997 1 v 9) (by simp [results, Tryd.results64, go_sem, c0, c1, c2, c3, c4]) rfl ⟨⟨#[]⟩, 999999997, 1, v, 9, rfl, by decide, ((((hs5.set hn0).set hn0).set hn0).set hn0).set hn0, (((((hb05).setOld (Nat.le_refl _)).setOld (Nat.le_refl _)).setOld (Nat.le_refl _)).setOld (Nat.le_refl _)).setOld (Nat.le_refl _)⟩
    · go_wp2_with fail
      refine (Next_c n0 g 3 _ (hs2.alloc _) (by omega)).mono ?_
      rintro e w4 ⟨zz, rfl, hz0, hz3, -, hs4, hb4⟩
      replace hz3 := hz3 (by omega)
      obtain ⟨zn, rfl⟩ : ∃ zn : Nat, zz = zn := ⟨zz.toNat, by omega⟩
      have hzn : (zn : Int) < 3 := hz3
      obtain ⟨v, hv⟩ := intsS_at zn (by omega)
      have hA := (Blk.new w3 intsS 2).but hb4 (by show w3.heap.size ≠ g; omega)
      have sA := hA.cell hv
      have sB := hA.lt
      have hX4 := (hX2.alloc (.cells intsS 2)).but hb4 (by omega)
      have hbr4 := (hbr2.alloc (.cells intsS 2)).but hb4 (by omega)
      have hb04 := (hb02.alloc (.cells intsS 2)).trans hb4
      have x0 := hX4.cell (i := 2) (v := .int .i64 x9) rfl; have xl := hX4.lt; have xf := hX4.free
      have hX5 : Blk _ gx (vBat5 t8 x6 v x12 x15) 51 := hX4.set 2 (.int .i64 v)
      have hbr5 := hbr4.far (g' := gx) (i := 2) (by omega) (.int .i64 v)
      have hs5 := hs4.set (x := gx) (i := 2) (v := .int .i64 v) (by omega)
      have hb05 := hb04.setOld (x := gx) (i := 2) (v := .int .i64 v) (by omega)
      have y0 := hX4.cell (i := 0) (v := .string t8) rfl; have y1 := hX4.cell (i := 1) (v := .int .i64 x6) rfl; have y2 := hX4.cell (i := 2) (v := .int .i64 x9) rfl; have y3 := hX4.cell (i := 3) (v := .int .i64 x12) rfl; have y4 := hX4.cell (i := 4) (v := .int .i64 x15) rfl
      have q0 := hX5.cell (i := 0) (v := .string t8) rfl; have q1 := hX5.cell (i := 1) (v := .int .i64 x6) rfl; have q2 := hX5.cell (i := 2) (v := .int .i64 v) rfl; have q3 := hX5.cell (i := 3) (v := .int .i64 x12) rfl; have q4 := hX5.cell (i := 4) (v := .int .i64 x15) rfl; have ql := hX5.lt
      have r0 := hbr5.cell (i := 0) (v := .string ByteArray.empty) rfl; have r1 := hbr5.cell (i := 1) (v := .int .i64 0) rfl; have r2 := hbr5.cell (i := 2) (v := .int .i64 0) rfl; have r3 := hbr5.cell (i := 3) (v := .int .i64 0) rfl; have r4 := hbr5.cell (i := 4) (v := .int .i64 0) rfl; have rl := hbr5.lt; have rf := hbr5.free
      have hF := hbr5.bat5 t8 x6 v x12 x15
      have c0 := hF.cell (i := 0) (v := .string t8) rfl; have c1 := hF.cell (i := 1) (v := .int .i64 x6) rfl; have c2 := hF.cell (i := 2) (v := .int .i64 v) rfl; have c3 := hF.cell (i := 3) (v := .int .i64 x12) rfl; have c4 := hF.cell (i := 4) (v := .int .i64 x15) rfl
      go_wp2_with fail
      exact bodyPost_ret (v := vBat t8 x6 v x12 x15) (by simp [results, Tryd.results64, go_sem, c0, c1, c2, c3, c4]) rfl ⟨t8, x6, v, x12, x15, rfl, by omega, ((((hs5.set hn0).set hn0).set hn0).set hn0).set hn0, (((((hb05).setOld (Nat.le_refl _)).setOld (Nat.le_refl _)).setOld (Nat.le_refl _)).setOld (Nat.le_refl _)).setOld (Nat.le_refl _)⟩
    · have n0 : (z == 0) = false := by simpa using d0
      have n1 : (z == 1) = false := by simpa using d1
      have n2 : (z == 2) = false := by simpa using d2
      have n3 : (z == 3) = false := by simpa using d3
      have n4 : (z == 4) = false := by simpa using d4
      have q0 := hX2.cell (i := 0) (v := .string t8) rfl; have q1 := hX2.cell (i := 1) (v := .int .i64 x6) rfl; have q2 := hX2.cell (i := 2) (v := .int .i64 x9) rfl; have q3 := hX2.cell (i := 3) (v := .int .i64 x12) rfl; have q4 := hX2.cell (i := 4) (v := .int .i64 x15) rfl; have ql := hX2.lt
      have r0 := hbr2.cell (i := 0) (v := .string ByteArray.empty) rfl; have r1 := hbr2.cell (i := 1) (v := .int .i64 0) rfl; have r2 := hbr2.cell (i := 2) (v := .int .i64 0) rfl; have r3 := hbr2.cell (i := 3) (v := .int .i64 0) rfl; have r4 := hbr2.cell (i := 4) (v := .int .i64 0) rfl; have rl := hbr2.lt; have rf := hbr2.free
      have hF := hbr2.bat5 t8 x6 x9 x12 x15
      have c0 := hF.cell (i := 0) (v := .string t8) rfl; have c1 := hF.cell (i := 1) (v := .int .i64 x6) rfl; have c2 := hF.cell (i := 2) (v := .int .i64 x9) rfl; have c3 := hF.cell (i := 3) (v := .int .i64 x12) rfl; have c4 := hF.cell (i := 4) (v := .int .i64 x15) rfl
      go_wp2_with fail
      exact bodyPost_ret (v := vBat t8 x6 x9 x12 x15) (by simp [results, Tryd.results64, go_sem, c0, c1, c2, c3, c4]) rfl ⟨t8, x6, x9, x12, x15, rfl, by omega, ((((hs2.set hn0).set hn0).set hn0).set hn0).set hn0, (((((hb02).setOld (Nat.le_refl _)).setOld (Nat.le_refl _)).setOld (Nat.le_refl _)).setOld (Nat.le_refl _)).setOld (Nat.le_refl _)⟩
  · rintro l a W i ⟨l0, l1, l2, l3, l4, l5, l6, l7, l8, l9, l10, l11, l12, l13, l14, l15, l16, l17, l18, bs, gx, j, t8, x6, x8, x9, x11, x12, x14, x15, rfl, rfl, ⟨hs, hb, f0, f2, f3, f4, f16, f18, f17⟩⟩ hli ⟨o, ho, hed⟩
    clear hbr1
    match i, ho, hli with
    | 0, ho, hli =>
      refine inv_op ho (by simp at ho; subst ho; rfl) fun K hK => ?_
      simp at ho hli
      subst ho hli
      clear hed
      obtain rfl : l3 = false := by cases l3 <;> first | rfl | (exact absurd ((f3 rfl).1) (by simp))
      have hz := hb.size
      simp only [cond_true, cond_false]
      go_simp
      exact hK _ _ ⟨true, l1, l2, false, l4, l5, l6, l7, l8, l9, l10, l11, l12, l13, l14, l15, l16, l17, l18, W.heap.size, gx, j, t8, x6, x8, x9, x11, x12, x14, x15, rfl, rfl, ⟨(hs.alloc _), (hb.alloc _), (fun _ => ⟨hb.size, Blk.new _ _ _⟩), (f2), (fun h => by cases h), (f4), (f16), (f18), (fun h => ⟨(f17 h).1, fun _ e => by have := (f17 h).2.2.lt; omega, (f17 h).2.2.alloc _⟩)⟩⟩
    | 1, ho, hli =>
      refine inv_op ho (by simp at ho; subst ho; rfl) fun K hK => ?_
      simp at ho hli
      subst ho hli
      clear hed
      simp only [cond_true, cond_false]
      go_simp
      exact hK _ _ ⟨l0, true, l2, l3, l4, l5, l6, l7, l8, l9, l10, l11, l12, l13, l14, l15, l16, l17, l18, bs, gx, j, t8, x6, x8, x9, x11, x12, x14, x15, rfl, rfl, ⟨(hs), (hb), (f0), (f2), (f3), (f4), (f16), (f18), (f17)⟩⟩
    | 2, ho, hli =>
      refine inv_op ho (by simp at ho; subst ho; rfl) fun K hK => ?_
      simp at ho hli
      subst ho hli
      have d1 : l1 = true := by revert hed; cases l1 <;> simp [Region.binds]
      clear hed
      subst d1
      obtain rfl : l3 = false := by cases l3 <;> first | rfl | (exact absurd ((f3 rfl).2) (by simp))
      simp only [cond_true, cond_false]
      go_simp
      go_at_call 49
      (with_reducible refine (Next_c n0 g 4 _ hs (by omega)).mono ?_)
      rintro e w4 ⟨zz, rfl, hz0, hz3, -, hs4, hb4⟩
      replace hz3 := hz3 (by omega)
      obtain ⟨zn, rfl⟩ : ∃ zn : Nat, zz = zn := ⟨zz.toNat, by omega⟩
      go_simp
      exact hK _ _ ⟨l0, true, true, false, l4, l5, l6, l7, l8, l9, l10, l11, l12, l13, l14, l15, l16, l17, l18, bs, gx, zn, t8, x6, x8, x9, x11, x12, x14, x15, rfl, rfl, ⟨(hs4), (hb.trans hb4), (fun h => ⟨(f0 h).1, (f0 h).2.but hb4 (by have := (f0 h).1; omega)⟩), (fun _ => by omega), (fun h => by cases h), (f4), (f16), (f18), (fun h => ⟨(f17 h).1, (f17 h).2.1, (f17 h).2.2.but hb4 (by have := (f17 h).1; omega)⟩)⟩⟩
    | 3, ho, hli =>
      refine inv_op ho (by simp at ho; subst ho; rfl) fun K hK => ?_
      simp at ho hli
      subst ho hli
      have d0 : l0 = true := by revert hed; cases l0 <;> simp [Region.binds]
      have d2 : l2 = true := by revert hed; cases l2 <;> simp [Region.binds]
      clear hed
      subst d0 d2
      obtain rfl : l4 = false := by cases l4 <;> first | rfl | (exact absurd ((f4 rfl).1) (by simp))
      have hj := f2 rfl
      have hji : (j : Int) < 4 := by omega
      simp only [cond_true, cond_false]
      go_simp
      exact hK _ _ ⟨true, l1, true, true, false, l5, l6, l7, l8, l9, l10, l11, l12, l13, l14, l15, l16, l17, l18, bs, gx, j, t8, x6, x8, x9, x11, x12, x14, x15, rfl, rfl, ⟨(hs), (hb), (f0), (f2), (fun _ => ⟨rfl, rfl⟩), (fun h => by cases h), (f16), (f18), (f17)⟩⟩
    | 4, ho, hli =>
      refine inv_op ho (by simp at ho; subst ho; rfl) fun K hK => ?_
      simp at ho hli
      subst ho hli
      have d3 : l3 = true := by revert hed; cases l3 <;> simp [Region.binds]
      clear hed
      subst d3
      obtain rfl : l16 = false := by cases l16 <;> first | rfl | (exact absurd ((f16 rfl).1) (by simp))
      obtain rfl : l18 = false := by cases l18 <;> first | rfl | (exact absurd ((f18 rfl).1) (by simp))
      obtain ⟨rfl, rfl⟩ := f3 rfl
      have hj := f2 rfl
      obtain ⟨v, hv, hvs⟩ := strs4A j hj
      have hcell := (f0 rfl).2.cell hv
      have hcl := (f0 rfl).2.lt
      simp only [cond_true, cond_false]
      go_simp
      exact hK _ _ ⟨true, l1, true, true, true, l5, l6, l7, l8, l9, l10, l11, l12, l13, l14, l15, false, l17, false, bs, gx, j, v, x6, x8, x9, x11, x12, x14, x15, rfl, rfl, ⟨(hs), (hb), (f0), (f2), (f3), (fun _ => ⟨rfl, hvs⟩), (fun h => by cases h), (f18), (fun h => ⟨(f17 h).1, (f17 h).2.1, by have := (f17 h).2.2; exact this⟩)⟩⟩
    | 5, ho, hli =>
      refine inv_op ho (by simp at ho; subst ho; rfl) fun K hK => ?_
      simp at ho hli
      subst ho hli
      clear hed
      simp only [cond_true, cond_false]
      go_simp
      exact hK _ _ ⟨l0, l1, l2, l3, l4, true, l6, l7, l8, l9, l10, l11, l12, l13, l14, l15, l16, l17, l18, bs, gx, j, t8, x6, x8, x9, x11, x12, x14, x15, rfl, rfl, ⟨(hs), (hb), (f0), (f2), (f3), (f4), (f16), (f18), (f17)⟩⟩
    | 6, ho, hli =>
      refine inv_op ho (by simp at ho; subst ho; rfl) fun K hK => ?_
      simp at ho hli
      subst ho hli
      have d5 : l5 = true := by revert hed; cases l5 <;> simp [Region.binds]
      have d2 : l2 = true := by revert hed; cases l2 <;> simp [Region.binds]
      clear hed
      subst d5 d2
      obtain rfl : l16 = false := by cases l16 <;> first | rfl | (exact absurd ((f16 rfl).2.1) (by simp))
      obtain rfl : l18 = false := by cases l18 <;> first | rfl | (exact absurd ((f18 rfl).1) (by simp))
      simp only [cond_true, cond_false]
      go_simp
      go_at_call 49
      (with_reducible refine (Next_c n0 g 500 _ hs (by omega)).mono ?_)
      rintro e w4 ⟨zz, rfl, hz0, hz3, -, hs4, hb4⟩
      go_simp
      exact hK _ _ ⟨l0, l1, true, l3, l4, true, true, l7, l8, l9, l10, l11, l12, l13, l14, l15, false, l17, false, bs, gx, j, t8, zz, x8, x9, x11, x12, x14, x15, rfl, rfl, ⟨(hs4), (hb.trans hb4), (fun h => ⟨(f0 h).1, (f0 h).2.but hb4 (by have := (f0 h).1; omega)⟩), (f2), (f3), (f4), (fun h => by cases h), (fun h => by cases h), (fun h => ⟨(f17 h).1, (f17 h).2.1, (f17 h).2.2.but hb4 (by have := (f17 h).1; omega)⟩)⟩⟩
    | 7, ho, hli =>
      refine inv_op ho (by simp at ho; subst ho; rfl) fun K hK => ?_
      simp at ho hli
      subst ho hli
      clear hed
      simp only [cond_true, cond_false]
      go_simp
      exact hK _ _ ⟨l0, l1, l2, l3, l4, l5, l6, true, l8, l9, l10, l11, l12, l13, l14, l15, l16, l17, l18, bs, gx, j, t8, x6, x8, x9, x11, x12, x14, x15, rfl, rfl, ⟨(hs), (hb), (f0), (f2), (f3), (f4), (f16), (f18), (f17)⟩⟩
    | 8, ho, hli =>
      refine inv_op ho (by simp at ho; subst ho; rfl) fun K hK => ?_
      simp at ho hli
      subst ho hli
      have d7 : l7 = true := by revert hed; cases l7 <;> simp [Region.binds]
      have d6 : l6 = true := by revert hed; cases l6 <;> simp [Region.binds]
      clear hed
      subst d7 d6
      simp only [cond_true, cond_false]
      go_simp
      go_at_call 49
      (with_reducible refine (Next_c n0 g 4 _ hs (by omega)).mono ?_)
      rintro e w4 ⟨zz, rfl, hz0, hz3, -, hs4, hb4⟩
      go_simp
      exact hK _ _ ⟨l0, l1, l2, l3, l4, l5, true, true, true, l9, l10, l11, l12, l13, l14, l15, l16, l17, l18, bs, gx, j, t8, x6, zz, x9, x11, x12, x14, x15, rfl, rfl, ⟨(hs4), (hb.trans hb4), (fun h => ⟨(f0 h).1, (f0 h).2.but hb4 (by have := (f0 h).1; omega)⟩), (f2), (f3), (f4), (f16), (f18), (fun h => ⟨(f17 h).1, (f17 h).2.1, (f17 h).2.2.but hb4 (by have := (f17 h).1; omega)⟩)⟩⟩
    | 9, ho, hli =>
      refine inv_op ho (by simp at ho; subst ho; rfl) fun K hK => ?_
      simp at ho hli
      subst ho hli
      have d8 : l8 = true := by revert hed; cases l8 <;> simp [Region.binds]
      clear hed
      subst d8
      obtain rfl : l16 = false := by cases l16 <;> first | rfl | (exact absurd ((f16 rfl).2.2.1) (by simp))
      obtain rfl : l18 = false := by cases l18 <;> first | rfl | (exact absurd ((f18 rfl).1) (by simp))
      simp only [cond_true, cond_false]
      go_simp
      exact hK _ _ ⟨l0, l1, l2, l3, l4, l5, l6, l7, true, true, l10, l11, l12, l13, l14, l15, false, l17, false, bs, gx, j, t8, x6, x8, _, x11, x12, x14, x15, rfl, rfl, ⟨(hs), (hb), (f0), (f2), (f3), (f4), (fun h => by cases h), (fun h => by cases h), (f17)⟩⟩
    | 10, ho, hli =>
      refine inv_op ho (by simp at ho; subst ho; rfl) fun K hK => ?_
      simp at ho hli
      subst ho hli
      clear hed
      simp only [cond_true, cond_false]
      go_simp
      exact hK _ _ ⟨l0, l1, l2, l3, l4, l5, l6, l7, l8, l9, true, l11, l12, l13, l14, l15, l16, l17, l18, bs, gx, j, t8, x6, x8, x9, x11, x12, x14, x15, rfl, rfl, ⟨(hs), (hb), (f0), (f2), (f3), (f4), (f16), (f18), (f17)⟩⟩
    | 11, ho, hli =>
      refine inv_op ho (by simp at ho; subst ho; rfl) fun K hK => ?_
      simp at ho hli
      subst ho hli
      have d10 : l10 = true := by revert hed; cases l10 <;> simp [Region.binds]
      have d8 : l8 = true := by revert hed; cases l8 <;> simp [Region.binds]
      clear hed
      subst d10 d8
      simp only [cond_true, cond_false]
      go_simp
      go_at_call 49
      (with_reducible refine (Next_c n0 g 8 _ hs (by omega)).mono ?_)
      rintro e w4 ⟨zz, rfl, hz0, hz3, -, hs4, hb4⟩
      go_simp
      exact hK _ _ ⟨l0, l1, l2, l3, l4, l5, l6, l7, true, l9, true, true, l12, l13, l14, l15, l16, l17, l18, bs, gx, j, t8, x6, x8, x9, zz, x12, x14, x15, rfl, rfl, ⟨(hs4), (hb.trans hb4), (fun h => ⟨(f0 h).1, (f0 h).2.but hb4 (by have := (f0 h).1; omega)⟩), (f2), (f3), (f4), (f16), (f18), (fun h => ⟨(f17 h).1, (f17 h).2.1, (f17 h).2.2.but hb4 (by have := (f17 h).1; omega)⟩)⟩⟩
    | 12, ho, hli =>
      refine inv_op ho (by simp at ho; subst ho; rfl) fun K hK => ?_
      simp at ho hli
      subst ho hli
      have d11 : l11 = true := by revert hed; cases l11 <;> simp [Region.binds]
      clear hed
      subst d11
      obtain rfl : l16 = false := by cases l16 <;> first | rfl | (exact absurd ((f16 rfl).2.2.2.1) (by simp))
      obtain rfl : l18 = false := by cases l18 <;> first | rfl | (exact absurd ((f18 rfl).1) (by simp))
      simp only [cond_true, cond_false]
      go_simp
      exact hK _ _ ⟨l0, l1, l2, l3, l4, l5, l6, l7, l8, l9, l10, true, true, l13, l14, l15, false, l17, false, bs, gx, j, t8, x6, x8, x9, x11, _, x14, x15, rfl, rfl, ⟨(hs), (hb), (f0), (f2), (f3), (f4), (fun h => by cases h), (fun h => by cases h), (f17)⟩⟩
    | 13, ho, hli =>
      refine inv_op ho (by simp at ho; subst ho; rfl) fun K hK => ?_
      simp at ho hli
      subst ho hli
      clear hed
      simp only [cond_true, cond_false]
      go_simp
      exact hK _ _ ⟨l0, l1, l2, l3, l4, l5, l6, l7, l8, l9, l10, l11, l12, true, l14, l15, l16, l17, l18, bs, gx, j, t8, x6, x8, x9, x11, x12, x14, x15, rfl, rfl, ⟨(hs), (hb), (f0), (f2), (f3), (f4), (f16), (f18), (f17)⟩⟩
    | 14, ho, hli =>
      refine inv_op ho (by simp at ho; subst ho; rfl) fun K hK => ?_
      simp at ho hli
      subst ho hli
      have d13 : l13 = true := by revert hed; cases l13 <;> simp [Region.binds]
      have d11 : l11 = true := by revert hed; cases l11 <;> simp [Region.binds]
      clear hed
      subst d13 d11
      simp only [cond_true, cond_false]
      go_simp
      go_at_call 49
      (with_reducible refine (Next_c n0 g 4 _ hs (by omega)).mono ?_)
      rintro e w4 ⟨zz, rfl, hz0, hz3, -, hs4, hb4⟩
      go_simp
      exact hK _ _ ⟨l0, l1, l2, l3, l4, l5, l6, l7, l8, l9, l10, true, l12, true, true, l15, l16, l17, l18, bs, gx, j, t8, x6, x8, x9, x11, x12, zz, x15, rfl, rfl, ⟨(hs4), (hb.trans hb4), (fun h => ⟨(f0 h).1, (f0 h).2.but hb4 (by have := (f0 h).1; omega)⟩), (f2), (f3), (f4), (f16), (f18), (fun h => ⟨(f17 h).1, (f17 h).2.1, (f17 h).2.2.but hb4 (by have := (f17 h).1; omega)⟩)⟩⟩
    | 15, ho, hli =>
      refine inv_op ho (by simp at ho; subst ho; rfl) fun K hK => ?_
      simp at ho hli
      subst ho hli
      have d14 : l14 = true := by revert hed; cases l14 <;> simp [Region.binds]
      clear hed
      subst d14
      obtain rfl : l16 = false := by cases l16 <;> first | rfl | (exact absurd ((f16 rfl).2.2.2.2) (by simp))
      obtain rfl : l18 = false := by cases l18 <;> first | rfl | (exact absurd ((f18 rfl).1) (by simp))
      simp only [cond_true, cond_false]
      go_simp
      exact hK _ _ ⟨l0, l1, l2, l3, l4, l5, l6, l7, l8, l9, l10, l11, l12, l13, true, true, false, l17, false, bs, gx, j, t8, x6, x8, x9, x11, x12, x14, _, rfl, rfl, ⟨(hs), (hb), (f0), (f2), (f3), (f4), (fun h => by cases h), (fun h => by cases h), (f17)⟩⟩
    | 16, ho, hli =>
      refine inv_op ho (by simp at ho; subst ho; rfl) fun K hK => ?_
      simp at ho hli
      subst ho hli
      have d4 : l4 = true := by revert hed; cases l4 <;> simp [Region.binds]
      have d6 : l6 = true := by revert hed; cases l6 <;> simp [Region.binds]
      have d9 : l9 = true := by revert hed; cases l9 <;> simp [Region.binds]
      have d12 : l12 = true := by revert hed; cases l12 <;> simp [Region.binds]
      have d15 : l15 = true := by revert hed; cases l15 <;> simp [Region.binds]
      clear hed
      subst d4 d6 d9 d12 d15
      obtain rfl : l18 = false := by cases l18 <;> first | rfl | (exact absurd ((f18 rfl).1) (by simp))
      obtain rfl := (f4 rfl).1
      obtain ⟨rfl, rfl⟩ := f3 rfl
      simp only [cond_true, cond_false]
      go_simp
      exact hK _ _ ⟨true, l1, true, true, true, l5, true, l7, l8, true, l10, l11, true, l13, l14, true, true, l17, false, bs, gx, j, t8, x6, x8, x9, x11, x12, x14, x15, rfl, rfl, ⟨(hs), (hb), (f0), (f2), (f3), (f4), (fun _ => ⟨rfl, rfl, rfl, rfl, rfl⟩), (fun h => by cases h), (f17)⟩⟩
    | 17, ho, hli =>
      refine inv_op ho (by simp at ho; subst ho; rfl) fun K hK => ?_
      simp at ho hli
      subst ho hli
      clear hed
      obtain rfl : l18 = false := by cases l18 <;> first | rfl | (exact absurd ((f18 rfl).2) (by simp))
      have hz := hb.size
      simp only [cond_true, cond_false]
      go_simp
      exact hK _ _ ⟨l0, l1, l2, l3, l4, l5, l6, l7, l8, l9, l10, l11, l12, l13, l14, l15, l16, true, false, bs, W.heap.size, j, t8, x6, x8, x9, x11, x12, x14, x15, rfl, rfl, ⟨(hs.alloc _), (hb.alloc _), (fun h => ⟨(f0 h).1, (f0 h).2.alloc _⟩), (f2), (f3), (f4), (f16), (fun h => by cases h), (fun _ => ⟨hb.size, fun h e => by have := (f0 h).2.lt; omega, Blk.new _ _ _⟩)⟩⟩
    | 18, ho, hli =>
      refine inv_op ho (by simp at ho; subst ho; rfl) fun K hK => ?_
      simp at ho hli
      subst ho hli
      have d0 : l0 = true := by revert hed; cases l0 <;> simp [Region.binds]
      have d1 : l1 = true := by revert hed; cases l1 <;> simp [Region.binds]
      have d2 : l2 = true := by revert hed; cases l2 <;> simp [Region.binds]
      have d3 : l3 = true := by revert hed; cases l3 <;> simp [Region.binds]
      have d4 : l4 = true := by revert hed; cases l4 <;> simp [Region.binds]
      have d5 : l5 = true := by revert hed; cases l5 <;> simp [Region.binds]
      have d6 : l6 = true := by revert hed; cases l6 <;> simp [Region.binds]
      have d7 : l7 = true := by revert hed; cases l7 <;> simp [Region.binds]
      have d8 : l8 = true := by revert hed; cases l8 <;> simp [Region.binds]
      have d9 : l9 = true := by revert hed; cases l9 <;> simp [Region.binds]
      have d10 : l10 = true := by revert hed; cases l10 <;> simp [Region.binds]
      have d11 : l11 = true := by revert hed; cases l11 <;> simp [Region.binds]
      have d12 : l12 = true := by revert hed; cases l12 <;> simp [Region.binds]
      have d13 : l13 = true := by revert hed; cases l13 <;> simp [Region.binds]
      have d14 : l14 = true := by revert hed; cases l14 <;> simp [Region.binds]
      have d15 : l15 = true := by revert hed; cases l15 <;> simp [Region.binds]
      have d16 : l16 = true := by revert hed; cases l16 <;> simp [Region.binds]
      have d17 : l17 = true := by revert hed; cases l17 <;> simp [Region.binds]
      clear hed
      subst d0 d1 d2 d3 d4 d5 d6 d7 d8 d9 d10 d11 d12 d13 d14 d15 d16 d17
      have hX := (f17 rfl).2.2
      have hxB := (f17 rfl).1
      have hxs := (f17 rfl).2.1 rfl
      have hB0 := (f0 rfl).2
      simp only [cond_false] at hX
      have q0 := hX.cell (i := 0) (v := .string ByteArray.empty) rfl; have q1 := hX.cell (i := 1) (v := .int .i64 0) rfl; have q2 := hX.cell (i := 2) (v := .int .i64 0) rfl; have q3 := hX.cell (i := 3) (v := .int .i64 0) rfl; have q4 := hX.cell (i := 4) (v := .int .i64 0) rfl; have ql := hX.lt; have qf := hX.free
      simp only [cond_true, cond_false]
      go_simp
      exact hK _ _ ⟨true, true, true, true, true, true, true, true, true, true, true, true, true, true, true, true, true, true, true, bs, gx, j, t8, x6, x8, x9, x11, x12, x14, x15, rfl, rfl, ⟨(((((hs.set (by omega)).set (by omega)).set (by omega)).set (by omega)).set (by omega)), (((((hb.setOld (by omega)).setOld (by omega)).setOld (by omega)).setOld (by omega)).setOld (by omega)), (fun h => ⟨(f0 h).1, ((((hB0.far (fun e => hxs e.symm) _).far (fun e => hxs e.symm) _).far (fun e => hxs e.symm) _).far (fun e => hxs e.symm) _).far (fun e => hxs e.symm) _⟩), (f2), (f3), (f4), (f16), (fun _ => ⟨rfl, rfl⟩), (fun _ => ⟨hxB, fun _ => hxs, hX.bat5 t8 x6 x9 x12 x15⟩)⟩⟩
    | i + 19, ho, hli => simp at ho
end Go.Proofs.YthpnkcamjcohgaaDoor
