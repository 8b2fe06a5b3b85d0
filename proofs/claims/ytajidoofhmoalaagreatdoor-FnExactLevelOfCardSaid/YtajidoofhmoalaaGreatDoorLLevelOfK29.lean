/- Stacked symbols, the program's side: storing eight numbers. -/
import Derived.Test.YtajidoofhmoalaaGreatDoorLLevelOfK23
import Derived.Test.YtajidoofhmoalaaGreatDoorLLevelOfK28
set_option linter.unusedVariables false
set_option linter.unusedSimpArgs false
namespace Go.Proofs.YtajidoofhmoalaaGreatDoor
open Go.RowKit

theorem w8_upd {l l' : List Int} {k : Nat} (hk : k < 8) (v : Int) (h : ∀ i, i < 8 → l'.getD i 0 = if i = k then v else l.getD i 0) : (w8F l).toArray.setIfInBounds k (.int .i64 v) = (w8F l').toArray := by
  apply Array.ext'
  rw [Array.toList_setIfInBounds]
  apply List.ext_getElem?
  intro i
  simp only [w8F, List.getElem?_set, List.getElem?_map, List.length_map, List.length_range]
  by_cases hi : i < 8
  · rw [List.getElem?_range hi]
    have h1 := h i hi
    by_cases e : k = i
    · subst e
      rw [if_pos rfl] at h1
      rw [List.getD_eq_getElem?_getD] at h1
      simp [hk, h1]
    · rw [if_neg (fun e2 => e e2.symm)] at h1
      rw [List.getD_eq_getElem?_getD, List.getD_eq_getElem?_getD] at h1
      simp [e, h1]
  · rw [List.getElem?_eq_none (by simp; omega)]
    have : ¬ k = i := by omega
    simp [this]
theorem incL_getD {l : List Int} (hl : 0 < l.length) (i : Nat) : (incL l).getD i 0 = if i = l.length - 1 then l.getD (l.length - 1) 0 + 1 else l.getD i 0 := by
  unfold incL
  simp only [List.getD_eq_getElem?_getD, List.getElem?_set]
  by_cases h : i = l.length - 1
  · rw [if_pos h, if_pos h.symm, if_pos (by omega)]
    rfl
  · rw [if_neg h, if_neg (fun e => h e.symm)]
theorem app1_getD (l : List Int) (i : Nat) : (l ++ [1]).getD i 0 = if i = l.length then l.getD l.length 0 + 1 else l.getD i 0 := by
  simp only [List.getD_eq_getElem?_getD]
  rcases Nat.lt_trichotomy i l.length with h | h | h
  · rw [if_neg (by omega), List.getElem?_append_left h]
  · subst h
    rw [if_pos rfl, List.getElem?_append_right (Nat.le_refl _)]
    simp
  · rw [if_neg (by omega), List.getElem?_eq_none (by simp; omega), List.getElem?_eq_none (by omega)]
theorem runsTo_mono (xs : List Int) : ∀ {i j : Nat}, i ≤ j → (runsTo xs i).length ≤ (runsTo xs j).length := by
  intro i j h
  induction j with
  | zero => obtain rfl : i = 0 := by omega
            exact Nat.le_refl _
  | succ j ih =>
    rcases Nat.lt_or_ge i (j + 1) with h1 | h1
    · have h2 := ih (by omega)
      by_cases h3 : 0 < j ∧ xs.getD j 0 = xs.getD (j - 1) 0
      · rw [runsTo_go h3, incL_len]; exact h2
      · rw [runsTo_new h3, List.length_append]; omega
    · obtain rfl : i = j + 1 := by omega
      exact Nat.le_refl _
theorem runsTo_bd (xs : List Int) : ∀ (k i : Nat), 0 ≤ (runsTo xs k).getD i 0 ∧ (runsTo xs k).getD i 0 ≤ k
  | 0, i => by simp [runsTo]
  | k + 1, i => by
    have ih := runsTo_bd xs k
    by_cases h : 0 < k ∧ xs.getD k 0 = xs.getD (k - 1) 0
    · rw [runsTo_go h, incL_getD ((runsTo_len xs k).2 h.1)]
      split
      · have := ih ((runsTo xs k).length - 1); omega
      · have := ih i; omega
    · rw [runsTo_new h, app1_getD]
      split
      · have := ih (runsTo xs k).length; omega
      · have := ih i; omega
def set8 (w : World) (g : Nat) (a0 a1 a2 a3 a4 a5 a6 a7 : Int) : World := ((((((((w.setCell ⟨g, 0, none⟩ (.int .i64 a0)).setCell ⟨g, 1, none⟩ (.int .i64 a1)).setCell ⟨g, 2, none⟩ (.int .i64 a2)).setCell ⟨g, 3, none⟩ (.int .i64 a3)).setCell ⟨g, 4, none⟩ (.int .i64 a4)).setCell ⟨g, 5, none⟩ (.int .i64 a5)).setCell ⟨g, 6, none⟩ (.int .i64 a6)).setCell ⟨g, 7, none⟩ (.int .i64 a7))
theorem Blk.set8 {w : World} {g : Nat} {b0 b1 b2 b3 b4 b5 b6 b7 : Int} {t : TypeId} (h : Blk w g #[.int .i64 b0, .int .i64 b1, .int .i64 b2, .int .i64 b3, .int .i64 b4, .int .i64 b5, .int .i64 b6, .int .i64 b7] t) (a0 a1 a2 a3 a4 a5 a6 a7 : Int) : Blk (set8 w g a0 a1 a2 a3 a4 a5 a6 a7) g #[.int .i64 a0, .int .i64 a1, .int .i64 a2, .int .i64 a3, .int .i64 a4, .int .i64 a5, .int .i64 a6, .int .i64 a7] t := by
  have h0 : Blk (w.setCell ⟨g, 0, none⟩ (.int .i64 a0)) g #[.int .i64 a0, .int .i64 b1, .int .i64 b2, .int .i64 b3, .int .i64 b4, .int .i64 b5, .int .i64 b6, .int .i64 b7] t := h.set 0 (.int .i64 a0)
  have h1 : Blk ((w.setCell ⟨g, 0, none⟩ (.int .i64 a0)).setCell ⟨g, 1, none⟩ (.int .i64 a1)) g #[.int .i64 a0, .int .i64 a1, .int .i64 b2, .int .i64 b3, .int .i64 b4, .int .i64 b5, .int .i64 b6, .int .i64 b7] t := h0.set 1 (.int .i64 a1)
  have h2 : Blk (((w.setCell ⟨g, 0, none⟩ (.int .i64 a0)).setCell ⟨g, 1, none⟩ (.int .i64 a1)).setCell ⟨g, 2, none⟩ (.int .i64 a2)) g #[.int .i64 a0, .int .i64 a1, .int .i64 a2, .int .i64 b3, .int .i64 b4, .int .i64 b5, .int .i64 b6, .int .i64 b7] t := h1.set 2 (.int .i64 a2)
  have h3 : Blk ((((w.setCell ⟨g, 0, none⟩ (.int .i64 a0)).setCell ⟨g, 1, none⟩ (.int .i64 a1)).setCell ⟨g, 2, none⟩ (.int .i64 a2)).setCell ⟨g, 3, none⟩ (.int .i64 a3)) g #[.int .i64 a0, .int .i64 a1, .int .i64 a2, .int .i64 a3, .int .i64 b4, .int .i64 b5, .int .i64 b6, .int .i64 b7] t := h2.set 3 (.int .i64 a3)
  have h4 : Blk (((((w.setCell ⟨g, 0, none⟩ (.int .i64 a0)).setCell ⟨g, 1, none⟩ (.int .i64 a1)).setCell ⟨g, 2, none⟩ (.int .i64 a2)).setCell ⟨g, 3, none⟩ (.int .i64 a3)).setCell ⟨g, 4, none⟩ (.int .i64 a4)) g #[.int .i64 a0, .int .i64 a1, .int .i64 a2, .int .i64 a3, .int .i64 a4, .int .i64 b5, .int .i64 b6, .int .i64 b7] t := h3.set 4 (.int .i64 a4)
  have h5 : Blk ((((((w.setCell ⟨g, 0, none⟩ (.int .i64 a0)).setCell ⟨g, 1, none⟩ (.int .i64 a1)).setCell ⟨g, 2, none⟩ (.int .i64 a2)).setCell ⟨g, 3, none⟩ (.int .i64 a3)).setCell ⟨g, 4, none⟩ (.int .i64 a4)).setCell ⟨g, 5, none⟩ (.int .i64 a5)) g #[.int .i64 a0, .int .i64 a1, .int .i64 a2, .int .i64 a3, .int .i64 a4, .int .i64 a5, .int .i64 b6, .int .i64 b7] t := h4.set 5 (.int .i64 a5)
  have h6 : Blk (((((((w.setCell ⟨g, 0, none⟩ (.int .i64 a0)).setCell ⟨g, 1, none⟩ (.int .i64 a1)).setCell ⟨g, 2, none⟩ (.int .i64 a2)).setCell ⟨g, 3, none⟩ (.int .i64 a3)).setCell ⟨g, 4, none⟩ (.int .i64 a4)).setCell ⟨g, 5, none⟩ (.int .i64 a5)).setCell ⟨g, 6, none⟩ (.int .i64 a6)) g #[.int .i64 a0, .int .i64 a1, .int .i64 a2, .int .i64 a3, .int .i64 a4, .int .i64 a5, .int .i64 a6, .int .i64 b7] t := h5.set 6 (.int .i64 a6)
  have h7 : Blk ((((((((w.setCell ⟨g, 0, none⟩ (.int .i64 a0)).setCell ⟨g, 1, none⟩ (.int .i64 a1)).setCell ⟨g, 2, none⟩ (.int .i64 a2)).setCell ⟨g, 3, none⟩ (.int .i64 a3)).setCell ⟨g, 4, none⟩ (.int .i64 a4)).setCell ⟨g, 5, none⟩ (.int .i64 a5)).setCell ⟨g, 6, none⟩ (.int .i64 a6)).setCell ⟨g, 7, none⟩ (.int .i64 a7)) g #[.int .i64 a0, .int .i64 a1, .int .i64 a2, .int .i64 a3, .int .i64 a4, .int .i64 a5, .int .i64 a6, .int .i64 a7] t := h6.set 7 (.int .i64 a7)
  exact h7
theorem Ext.set8 {a w : World} (h : Ext a w) {g : Nat} (hg : a.heap.size ≤ g) (a0 a1 a2 a3 a4 a5 a6 a7 : Int) : Ext a (set8 w g a0 a1 a2 a3 a4 a5 a6 a7) := ((((((((h.setCell (p := ⟨g, 0, none⟩) hg _).setCell (p := ⟨g, 1, none⟩) hg _).setCell (p := ⟨g, 2, none⟩) hg _).setCell (p := ⟨g, 3, none⟩) hg _).setCell (p := ⟨g, 4, none⟩) hg _).setCell (p := ⟨g, 5, none⟩) hg _).setCell (p := ⟨g, 6, none⟩) hg _).setCell (p := ⟨g, 7, none⟩) hg _)
theorem But.set8 (w : World) (g : Nat) (a0 a1 a2 a3 a4 a5 a6 a7 : Int) : But g w (set8 w g a0 a1 a2 a3 a4 a5 a6 a7) := by
  unfold Go.Proofs.YtajidoofhmoalaaGreatDoor.set8
  exact ((((((((But.set w g 0 _).setG _).setG _).setG _).setG _).setG _).setG _).setG _)
set_option maxRecDepth 100000 in
theorem store8_op {Q : Exit → Act → World → Prop} {K : Act → World → Prop} {a : Act} {dst : Option Tmp} {ty : TypeId} {x y : Operand} {pos : String} {after : Array Edge} {guard : Option (Nat × Bool)} {w : World} {g : Nat} {b0 b1 b2 b3 b4 b5 b6 b7 a0 a1 a2 a3 a4 a5 a6 a7 : Int}
    (hq : Blk w g #[.int .i64 b0, .int .i64 b1, .int .i64 b2, .int .i64 b3, .int .i64 b4, .int .i64 b5, .int .i64 b6, .int .i64 b7] 255) (hx : a.eval x = .pointer (some ⟨g, 0, none⟩)) (hy : a.eval y = .agg #[.int .i64 a0, .int .i64 a1, .int .i64 a2, .int .i64 a3, .int .i64 a4, .int .i64 a5, .int .i64 a6, .int .i64 a7])
    (h : ∀ w', (∀ c, Ext c w → c.heap.size ≤ g → Ext c w') → But g w w' → Blk w' g #[.int .i64 a0, .int .i64 a1, .int .i64 a2, .int .i64 a3, .int .i64 a4, .int .i64 a5, .int .i64 a6, .int .i64 a7] 255 → K (a.put dst undef) w') :
    Oper.wp Tryz.prog ⟨dst, .store 255 x y, ty, pos, after, guard⟩ a w K Q := by
  have c0 := hq.cell (i := 0) (v := .int .i64 b0) rfl; have c1 := hq.cell (i := 1) (v := .int .i64 b1) rfl; have c2 := hq.cell (i := 2) (v := .int .i64 b2) rfl; have c3 := hq.cell (i := 3) (v := .int .i64 b3) rfl; have c4 := hq.cell (i := 4) (v := .int .i64 b4) rfl; have c5 := hq.cell (i := 5) (v := .int .i64 b5) rfl; have c6 := hq.cell (i := 6) (v := .int .i64 b6) rfl; have c7 := hq.cell (i := 7) (v := .int .i64 b7) rfl; have cf := hq.free; have cl := hq.lt
  have hB := Lib.hid (But.set8 w g a0 a1 a2 a3 a4 a5 a6 a7)
  have hq2 := Lib.hid (hq.set8 a0 a1 a2 a3 a4 a5 a6 a7)
  have hE := Lib.hid (fun c (h : Ext c w) (hg : c.heap.size ≤ g) => h.set8 hg a0 a1 a2 a3 a4 a5 a6 a7)
  unfold Oper.wp execOp
  simp only [hx, hy]
  go_simp
  exact h _ hE.out hB.out hq2.out
theorem wp_store8 {ops : Array Oper} {rest : List Oper} {Q : Exit → Act → World → Prop} {a : Act} {dst : Option Tmp} {ty : TypeId} {x y : Operand} {pos : String} {after : Array Edge} {w : World} {g : Nat} {b0 b1 b2 b3 b4 b5 b6 b7 a0 a1 a2 a3 a4 a5 a6 a7 : Int}
    (hq : Blk w g #[.int .i64 b0, .int .i64 b1, .int .i64 b2, .int .i64 b3, .int .i64 b4, .int .i64 b5, .int .i64 b6, .int .i64 b7] 255) 
    (h : ∀ w', (∀ c, Ext c w → c.heap.size ≤ g → Ext c w') → But g w w' → Blk w' g #[.int .i64 a0, .int .i64 a1, .int .i64 a2, .int .i64 a3, .int .i64 a4, .int .i64 a5, .int .i64 a6, .int .i64 a7] 255 → wpList Tryz.prog ops Q rest (a.put dst undef) w') (hx : a.eval x = .pointer (some ⟨g, 0, none⟩)) (hy : a.eval y = .agg #[.int .i64 a0, .int .i64 a1, .int .i64 a2, .int .i64 a3, .int .i64 a4, .int .i64 a5, .int .i64 a6, .int .i64 a7]) :
    wpList Tryz.prog ops Q (⟨dst, .store 255 x y, ty, pos, after, none⟩ :: rest) a w :=
  wpList_plain rfl fun K' hK' => store8_op hq hx hy fun w' h1 h2 h3 => hK' _ _ (h w' h1 h2 h3)
end Go.Proofs.YtajidoofhmoalaaGreatDoor
