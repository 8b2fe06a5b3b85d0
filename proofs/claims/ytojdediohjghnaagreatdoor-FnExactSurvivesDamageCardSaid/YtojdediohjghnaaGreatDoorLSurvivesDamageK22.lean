/- The layout of a symbol, on both sides. -/
import Derived.Test.YtojdediohjghnaaGreatDoorLSurvivesDamageK21
import Derived.Test.YtojdediohjghnaaGreatDoorLSurvivesDamageK10
import Derived.Test.YtojdediohjghnaaGreatDoorLSurvivesDamageK17
set_option linter.unusedVariables false
set_option linter.unusedSimpArgs false
namespace Go.Proofs.YtojdediohjghnaaGreatDoor
open Go.RowKit

abbrev lay6 (a0 a1 a2 a3 a4 a5 : Int) : Array Value := #[.int .i64 a0, .int .i64 a1, .int .i64 a2, .int .i64 a3, .int .i64 a4, .int .i64 a5]
set_option maxRecDepth 100000 in
theorem sIndex_c (p : Option Addr) (k : Nat) (n : Int) (xs : List Int) (w : World) (hx : IntsAt w p xs) (hl : xs.length ≤ 1048576) :
  Calls Tryz.prog 212 #[.slice p xs.length k, .int .i64 n] w fun e w' => ∃ r : Int, e = .returned (.int .i64 r) ∧ (0 ≤ r ↔ n ∈ xs) ∧ w = w' := by
 have HX := Lib.hid hx; clear hx
 go_enter Tryz.func212, Tryz.ntmps212
 go_wp2
 go_loop [8] (fun i => ∃ j : Nat, j ≤ xs.length ∧ i = .int .i64 j ∧ Hid (¬ n ∈ xs.take j)) (fun i => xs.length - (intOf i).toNat)
 case atStart => exact ⟨0, Nat.zero_le _, rfl, Lib.hid (by simp)⟩
 case round =>
  obtain ⟨j, hj, rfl, hT⟩ := hrel
  by_cases hlt : j < xs.length
  ·obtain ⟨b, o, rfl, hbl, z1⟩ := HX.out j hlt
   have hst : xs.getD j 0 ≠ n → ¬ n ∈ xs.take (j + 1) := fun h => by
    have := take_all (P := fun x => x ≠ n) hlt (fun x hm e => hT.out (by rw [← e]; exact hm)) h
    exact fun hm => this n hm rfl
   have hat : xs.getD j 0 = n → n ∈ xs := fun h => by
    rw [← h, List.getD_eq_getElem?_getD, List.getElem?_eq_getElem hlt]
    exact List.getElem_mem _
   generalize xs.getD j 0 = x at *
   have hst := Lib.hid hst
   have hat := Lib.hid hat
   by_cases h0 : n = x
   ·have hd : (n == x) = true := by simpa using h0
    replace h0 := Lib.hid h0
    go_wp2
    go_ret
    exact ⟨j, rfl, ⟨fun _ => hat.out h0.out.symm, fun _ => by omega⟩, rfl⟩
   ·have hd : (n == x) = false := by simpa using h0
    replace h0 := Lib.hid h0
    go_wp2
    go_round
    case rel => exact ⟨j + 1, hlt, by go_num, Lib.hid (hst.out (fun e => h0.out e.symm))⟩
    case measure => simp [intOf]; omega
  ·obtain rfl : j = xs.length := by omega
   go_wp2
   go_ret
   exact ⟨-1, rfl, ⟨fun h => absurd h (by decide), fun h => absurd (by rwa [List.take_length]) hT.out⟩, rfl⟩
set_option maxRecDepth 100000 in
theorem sContains_c (p : Option Addr) (k : Nat) (n : Int) (xs : List Int) (w : World) (hx : IntsAt w p xs) (hl : xs.length ≤ 1048576) :
  Calls Tryz.prog 196 #[.slice p xs.length k, .int .i64 n] w fun e w' => isB e (n ∈ xs) ∧ w = w' := by
 have hin := Lib.hid (sIndex_c p k n xs w hx hl)
 clear hx
 go_enter Tryz.func196, Tryz.ntmps196
 go_wp2_with (go_at_call 212; (with_reducible refine hin.out.mono ?_); rintro e w1 ⟨r, rfl, hr, rfl⟩; replace hr := Lib.hid hr)
 go_ret
 exact ⟨isB_m (by rw [← hr.out]; simp), rfl⟩
set_option maxRecDepth 100000 in
theorem hasSize_c (nm : ByteArray) (K p k q co : Int) (ps pl : Option Addr) (cs nl cl : Nat) (ss : List Int) (n : Int) (w : World) (hs : IntsAt w ps ss) (hl1 : ss.length ≤ 1048576) :
  Calls Tryz.prog 161 #[vFam nm K p k q ps ss.length cs co pl nl cl, .int .i64 n] w fun e w' => isB e (n ∈ ss) ∧ Ext w w' := by
 have hx0 : Ext w (w.alloc (.cells #[.string nm, .int .i64 K, .int .i64 p, .int .i64 k, .int .i64 q, .slice ps ss.length cs, .int .i64 co, .slice pl nl cl] 35)) := (Ext.refl w).alloc _
 have hc := Lib.hid (sContains_c ps cs n ss _ (hs.ext hx0) hl1)
 clear hs
 go_enter Tryz.func161, Tryz.ntmps161
 go_wp2_with (go_at_call 196; (with_reducible refine hc.out.mono ?_); rintro e w1 ⟨⟨hP, rfl⟩ | ⟨hP, rfl⟩, rfl⟩)
 ·go_ret
  exact ⟨isB_t hP, hx0⟩
 ·go_ret
  exact ⟨isB_f hP, hx0⟩
open Go.RowKit

open Go.RowKit

set_option maxRecDepth 100000 in
theorem sz_c (p : Option Addr) (k n : Nat) (L : Int) (w : World) (hL : 0 ≤ L ∧ L ≤ 1048576) (hn : n ≤ 9223372036854775807) :
  Calls Tryz.prog 19 #[.slice p n k, .int .i64 L] w fun e w' => e = .returned (.int .i64 (if (n : Int) ≤ L then L - n else -1)) ∧ w = w' := by
 by_cases h : (n : Int) ≤ L
 ·rw [if_pos h]
  have h2 : ¬ L - (n : Int) < 0 := by omega
  go_enter Tryz.func19, Tryz.ntmps19
  go_wp2
  go_ret
  exact ⟨rfl, rfl⟩
 ·rw [if_neg h]
  have h2 : L - (n : Int) < 0 := by omega
  go_enter Tryz.func19, Tryz.ntmps19
  go_wp2
  go_ret
  exact ⟨rfl, rfl⟩
set_option maxRecDepth 100000 in
theorem toFieldF_c (p k q : Int) (w : World) :
  Calls Tryz.prog 23 #[vFld p k q] w fun e w' => e = .returned (vFld p k q) ∧ Ext w w' := by
 go_enter Tryz.func23, Tryz.ntmps23
 go_wp2
 exact bodyPost_ret (v := vFld p k q) (by simp [results, Tryz.results23, go_sem]) rfl ⟨rfl, eX⟩
set_option maxHeartbeats 800000 in
set_option maxRecDepth 100000 in
theorem eqFieldF_c (p k q : Int) (w : World) :
  Calls Tryz.prog 29 #[vFld p k q, vFld p k q] w fun e w' => e = .returned (.bool true) ∧ Ext w w' := by
 go_enter Tryz.func29, Tryz.ntmps29
 go_wp2
 go_ret
 exact ⟨rfl, eX⟩
set_option maxHeartbeats 800000 in
set_option maxRecDepth 100000 in
theorem eqFamily_c (nm : ByteArray) (K p k q co : Int) (ps pl ps' pl' : Option Addr) (cs cl cs' cl' : Nat) (ss ls : List Int) (w : World) (h1 : IntsAt w ps ss) (h2 : IntsAt w pl ls) (h3 : IntsAt w ps' ss) (h4 : IntsAt w pl' ls) (hl1 : ss.length ≤ 1048576) (hl2 : ls.length ≤ 1048576) :
  Calls Tryz.prog 11 #[vFam nm K p k q ps ss.length cs co pl ls.length cl, vFam nm K p k q ps' ss.length cs' co pl' ls.length cl'] w fun e w' => e = .returned (.bool true) ∧ Ext w w' := by
 have H1 := Lib.hid h1; have H2 := Lib.hid h2; have H3 := Lib.hid h3; have H4 := Lib.hid h4; clear h1 h2 h3 h4
 have hq : ∀ (a b : Option Addr) (i j : Nat) (xs : List Int) W, xs.length ≤ 1048576 → IntsAt W a xs → IntsAt W b xs → Calls Tryz.prog 30 #[.slice a xs.length i, .slice b xs.length j] W fun e w' => e = .returned (.bool true) ∧ ∃ n, w' = W.drewN n := fun a b i j xs W hl h1 h2 => (eqInt64S_c a b i j xs xs W h1 h2 (by omega) (by omega)).mono fun e w' h => by
  rcases h with ⟨⟨_, h⟩ | ⟨h, _⟩, n, hn⟩
  ·exact ⟨h, n, hn⟩
  ·exact absurd rfl h
 have q1 := Lib.hid (fun W (h1 : IntsAt W ps ss) (h2 : IntsAt W ps' ss) => hq ps ps' cs cs' ss W hl1 h1 h2)
 have q2 := Lib.hid (fun W (h1 : IntsAt W pl ls) (h2 : IntsAt W pl' ls) => hq pl pl' cl cl' ls W hl2 h1 h2)
 clear hq
 have hA := (Blk.new w #[.string nm, .int .i64 K, .int .i64 p, .int .i64 k, .int .i64 q, .slice ps ss.length cs, .int .i64 co, .slice pl ls.length cl] 35).alloc (.cells #[.string nm, .int .i64 K, .int .i64 p, .int .i64 k, .int .i64 q, .slice ps' ss.length cs', .int .i64 co, .slice pl' ls.length cl'] 35)
 have hB := Blk.new (w.alloc (.cells #[.string nm, .int .i64 K, .int .i64 p, .int .i64 k, .int .i64 q, .slice ps ss.length cs, .int .i64 co, .slice pl ls.length cl] 35)) #[.string nm, .int .i64 K, .int .i64 p, .int .i64 k, .int .i64 q, .slice ps' ss.length cs', .int .i64 co, .slice pl' ls.length cl'] 35
 have hx0 : Ext w ((w.alloc (.cells #[.string nm, .int .i64 K, .int .i64 p, .int .i64 k, .int .i64 q, .slice ps ss.length cs, .int .i64 co, .slice pl ls.length cl] 35)).alloc (.cells #[.string nm, .int .i64 K, .int .i64 p, .int .i64 k, .int .i64 q, .slice ps' ss.length cs', .int .i64 co, .slice pl' ls.length cl'] 35)) := ((Ext.refl w).alloc _).alloc _
 simp only [World.size_alloc] at hB
 go_enter Tryz.func11, Tryz.ntmps11
 go_wp2_with (first
  | (go_at_call 29; (with_reducible refine (eqFieldF_c _ _ _ _).mono ?_); rintro e w1 ⟨rfl, hx1⟩; have hA1 := hA.ext hx1; have hB1 := hB.ext hx1; have a5 := hA1.cell (i := 5) (v := .slice ps ss.length cs) rfl; have a6 := hA1.cell (i := 6) (v := .int .i64 co) rfl; have a7 := hA1.cell (i := 7) (v := .slice pl ls.length cl) rfl; have aL := hA1.lt; have b5 := hB1.cell (i := 5) (v := .slice ps' ss.length cs') rfl; have b6 := hB1.cell (i := 6) (v := .int .i64 co) rfl; have b7 := hB1.cell (i := 7) (v := .slice pl' ls.length cl') rfl; have bL := hB1.lt)
  | (go_at_call 30; (with_reducible refine (q1.out _ (H1.out.ext (hx0.trans eX)) (H3.out.ext (hx0.trans eX))).mono ?_); rintro e w2 ⟨rfl, n2, rfl⟩)
  | (go_at_call 30; (with_reducible refine (q2.out _ (H2.out.ext (hx0.trans eX)) (H4.out.ext (hx0.trans eX))).mono ?_); rintro e w2 ⟨rfl, n3, rfl⟩))
 go_ret
 exact ⟨rfl, hx0.trans eX⟩
def setFam (w : World) (g : Nat) (v0 v1 v2 v3 v4 v5 v6 v7 : Value) : World :=
 (((((((w.setCell ⟨g, 0, none⟩ v0).setCell ⟨g, 1, none⟩ v1).setCell ⟨g, 2, none⟩ v2).setCell ⟨g, 3, none⟩ v3).setCell ⟨g, 4, none⟩ v4).setCell ⟨g, 5, none⟩ v5).setCell ⟨g, 6, none⟩ v6).setCell ⟨g, 7, none⟩ v7
theorem Blk.fam {w : World} {g : Nat} {b0 b1 b2 b3 b4 b5 b6 b7 : Value} {t : TypeId} (h : Blk w g #[b0, b1, b2, b3, b4, b5, b6, b7] t) (v0 v1 v2 v3 v4 v5 v6 v7 : Value) : Blk (setFam w g v0 v1 v2 v3 v4 v5 v6 v7) g #[v0, v1, v2, v3, v4, v5, v6, v7] t := by
 have h0 : Blk (w.setCell ⟨g, 0, none⟩ v0) g #[v0, b1, b2, b3, b4, b5, b6, b7] t := h.set 0 v0
 have h1 : Blk ((w.setCell ⟨g, 0, none⟩ v0).setCell ⟨g, 1, none⟩ v1) g #[v0, v1, b2, b3, b4, b5, b6, b7] t := h0.set 1 v1
 have h2 : Blk (((w.setCell ⟨g, 0, none⟩ v0).setCell ⟨g, 1, none⟩ v1).setCell ⟨g, 2, none⟩ v2) g #[v0, v1, v2, b3, b4, b5, b6, b7] t := h1.set 2 v2
 have h3 : Blk ((((w.setCell ⟨g, 0, none⟩ v0).setCell ⟨g, 1, none⟩ v1).setCell ⟨g, 2, none⟩ v2).setCell ⟨g, 3, none⟩ v3) g #[v0, v1, v2, v3, b4, b5, b6, b7] t := h2.set 3 v3
 have h4 : Blk (((((w.setCell ⟨g, 0, none⟩ v0).setCell ⟨g, 1, none⟩ v1).setCell ⟨g, 2, none⟩ v2).setCell ⟨g, 3, none⟩ v3).setCell ⟨g, 4, none⟩ v4) g #[v0, v1, v2, v3, v4, b5, b6, b7] t := h3.set 4 v4
 have h5 : Blk ((((((w.setCell ⟨g, 0, none⟩ v0).setCell ⟨g, 1, none⟩ v1).setCell ⟨g, 2, none⟩ v2).setCell ⟨g, 3, none⟩ v3).setCell ⟨g, 4, none⟩ v4).setCell ⟨g, 5, none⟩ v5) g #[v0, v1, v2, v3, v4, v5, b6, b7] t := h4.set 5 v5
 have h6 : Blk (((((((w.setCell ⟨g, 0, none⟩ v0).setCell ⟨g, 1, none⟩ v1).setCell ⟨g, 2, none⟩ v2).setCell ⟨g, 3, none⟩ v3).setCell ⟨g, 4, none⟩ v4).setCell ⟨g, 5, none⟩ v5).setCell ⟨g, 6, none⟩ v6) g #[v0, v1, v2, v3, v4, v5, v6, b7] t := h5.set 6 v6
 have h7 : Blk ((((((((w.setCell ⟨g, 0, none⟩ v0).setCell ⟨g, 1, none⟩ v1).setCell ⟨g, 2, none⟩ v2).setCell ⟨g, 3, none⟩ v3).setCell ⟨g, 4, none⟩ v4).setCell ⟨g, 5, none⟩ v5).setCell ⟨g, 6, none⟩ v6).setCell ⟨g, 7, none⟩ v7) g #[v0, v1, v2, v3, v4, v5, v6, v7] t := h6.set 7 v7
 exact h7
theorem Ext.fam {a w : World} (h : Ext a w) {g : Nat} (hg : a.heap.size ≤ g) (v0 v1 v2 v3 v4 v5 v6 v7 : Value) : Ext a (setFam w g v0 v1 v2 v3 v4 v5 v6 v7) :=
 (((((((h.setCell (p := ⟨g, 0, none⟩) hg _).setCell (p := ⟨g, 1, none⟩) hg _).setCell (p := ⟨g, 2, none⟩) hg _).setCell (p := ⟨g, 3, none⟩) hg _).setCell (p := ⟨g, 4, none⟩) hg _).setCell (p := ⟨g, 5, none⟩) hg _).setCell (p := ⟨g, 6, none⟩) hg _).setCell (p := ⟨g, 7, none⟩) hg _
theorem But.fam (w : World) (g : Nat) (v0 v1 v2 v3 v4 v5 v6 v7 : Value) : But g w (setFam w g v0 v1 v2 v3 v4 v5 v6 v7) := by
 unfold setFam
 exact (((((((But.set w g 0 _).setG _).setG _).setG _).setG _).setG _).setG _).setG _
end Go.Proofs.YtojdediohjghnaaGreatDoor
/- Stacked symbols, the program's side: storing eight numbers. -/
namespace Go.Proofs.YtojdediohjghnaaGreatDoor
open Go.RowKit

theorem w8_upd {l l' : List Int} {k : Nat} (hk : k < 8) (v : Int) (h : ∀ i, i < 8 → l'.getD i 0 = if i = k then v else l.getD i 0) : (w8F l).toArray.setIfInBounds k (.int .i64 v) = (w8F l').toArray := by
 apply Array.ext'
 rw [Array.toList_setIfInBounds]
 apply List.ext_getElem?
 intro i
 simp only [w8F, List.getElem?_set, List.getElem?_map, List.length_map, List.length_range]
 by_cases hi : i < 8
 ·rw [List.getElem?_range hi]
  have h1 := h i hi
  by_cases e : k = i
  ·subst e
   rw [if_pos rfl] at h1
   rw [List.getD_eq_getElem?_getD] at h1
   simp [hk, h1]
  ·rw [if_neg (fun e2 => e e2.symm)] at h1
   rw [List.getD_eq_getElem?_getD, List.getD_eq_getElem?_getD] at h1
   simp [e, h1]
 ·rw [List.getElem?_eq_none (by simp; omega)]
  have : ¬ k = i := by omega
  simp [this]
theorem incL_getD {l : List Int} (hl : 0 < l.length) (i : Nat) : (incL l).getD i 0 = if i = l.length - 1 then l.getD (l.length - 1) 0 + 1 else l.getD i 0 := by
 unfold incL
 simp only [List.getD_eq_getElem?_getD, List.getElem?_set]
 by_cases h : i = l.length - 1
 ·rw [if_pos h, if_pos h.symm, if_pos (by omega)]
  rfl
 ·rw [if_neg h, if_neg (fun e => h e.symm)]
theorem app1_getD (l : List Int) (i : Nat) : (l ++ [1]).getD i 0 = if i = l.length then l.getD l.length 0 + 1 else l.getD i 0 := by
 simp only [List.getD_eq_getElem?_getD]
 rcases Nat.lt_trichotomy i l.length with h | h | h
 ·rw [if_neg (by omega), List.getElem?_append_left h]
 ·subst h
  rw [if_pos rfl, List.getElem?_append_right (Nat.le_refl _)]
  simp
 ·rw [if_neg (by omega), List.getElem?_eq_none (by simp; omega), List.getElem?_eq_none (by omega)]
theorem runsTo_mono (xs : List Int) : ∀ {i j : Nat}, i ≤ j → (runsTo xs i).length ≤ (runsTo xs j).length := by
 intro i j h
 induction j with
 | zero => obtain rfl : i = 0 := by omega
           exact Nat.le_refl _
 | succ j ih =>
  rcases Nat.lt_or_ge i (j + 1) with h1 | h1
  ·have h2 := ih (by omega)
   by_cases h3 : 0 < j ∧ xs.getD j 0 = xs.getD (j - 1) 0
   ·rw [runsTo_go h3, incL_len]; exact h2
   ·rw [runsTo_new h3, List.length_append]; omega
  ·obtain rfl : i = j + 1 := by omega
   exact Nat.le_refl _
theorem runsTo_bd (xs : List Int) : ∀ (k i : Nat), 0 ≤ (runsTo xs k).getD i 0 ∧ (runsTo xs k).getD i 0 ≤ k
 | 0, i => by simp [runsTo]
 | k + 1, i => by
  have ih := runsTo_bd xs k
  by_cases h : 0 < k ∧ xs.getD k 0 = xs.getD (k - 1) 0
  ·rw [runsTo_go h, incL_getD ((runsTo_len xs k).2 h.1)]
   split
   ·have := ih ((runsTo xs k).length - 1); omega
   ·have := ih i; omega
  ·rw [runsTo_new h, app1_getD]
   split
   ·have := ih (runsTo xs k).length; omega
   ·have := ih i; omega
def set8 (w : World) (g : Nat) (a0 a1 a2 a3 a4 a5 a6 a7 : Int) : World := ((((((((w.setCell ⟨g, 0, none⟩ (.int .i64 a0)).setCell ⟨g, 1, none⟩ (.int .i64 a1)).setCell ⟨g, 2, none⟩ (.int .i64 a2)).setCell ⟨g, 3, none⟩ (.int .i64 a3)).setCell ⟨g, 4, none⟩ (.int .i64 a4)).setCell ⟨g, 5, none⟩ (.int .i64 a5)).setCell ⟨g, 6, none⟩ (.int .i64 a6)).setCell ⟨g, 7, none⟩ (.int .i64 a7))
theorem Blk.set8 {w : World} {g : Nat} {b0 b1 b2 b3 b4 b5 b6 b7 : Int} {t : TypeId} (h : Blk w g #[.int .i64 b0, .int .i64 b1, .int .i64 b2, .int .i64 b3, .int .i64 b4, .int .i64 b5, .int .i64 b6, .int .i64 b7] t) (a0 a1 a2 a3 a4 a5 a6 a7 : Int) : Blk (set8 w g a0 a1 a2 a3 a4 a5 a6 a7) g #[.int .i64 a0, .int .i64 a1, .int .i64 a2, .int .i64 a3, .int .i64 a4, .int .i64 a5, .int .i64 a6, .int .i64 a7] t := by
 have h0 : Blk (w.setCell ⟨g, 0, none⟩ (.int .i64 a0)) g #[.int .i64 a0, .int .i64 b1, .int .i64 b2, .int .i64 b3, .int .i64 b4, .int .i64 b5, .int .i64 b6, .int .i64 b7] t := h.set 0 (.int .i64 a0)
 have h1 : Blk ((w.setCell ⟨g, 0, none⟩ (.int .i64 a0)).setCell ⟨g, 1, none⟩ (.int .i64 a1)) g #[.int .i64 a0, .int .i64 a1, .int .i64 b2, .int .i64 b3, .int .i64 b4, .int .i64 b5, .int .i64 b6, .int .i64 b7] t := h0.set 1 (.int .i64 a1)
 have h2 : Blk (((w.setCell ⟨g, 0, none⟩ (.int .i64 a0)).setCell ⟨g, 1, none⟩ (.int .i64 a1)).setCell ⟨g, 2, none⟩ (.int .i64 a2)) g #[.int .i64 a0, .int .i64 a1, .int .i64 a2, .int .i64 b3, .int .i64 b4, .int .i64 b5, .int .i64 b6, .int .i64 b7] t := h1.set 2 (.int .i64 a2)
 have h3 : Blk ((((w.setCell ⟨g, 0, none⟩ (.int .i64 a0)).setCell ⟨g, 1, none⟩ (.int .i64 a1)).setCell ⟨g, 2, none⟩ (.int .i64 a2)).setCell ⟨g, 3, none⟩ (.int .i64 a3)) g #[.int .i64 a0, .int .i64 a1, .int .i64 a2, .int .i64 a3, .int .i64 b4, .int .i64 b5, .int .i64 b6, .int .i64 b7] t := h2.set 3 (.int .i64 a3)
 have h4 : Blk (((((w.setCell ⟨g, 0, none⟩ (.int .i64 a0)).setCell ⟨g, 1, none⟩ (.int .i64 a1)).setCell ⟨g, 2, none⟩ (.int .i64 a2)).setCell ⟨g, 3, none⟩ (.int .i64 a3)).setCell ⟨g, 4, none⟩ (.int .i64 a4)) g #[.int .i64 a0, .int .i64 a1, .int .i64 a2, .int .i64 a3, .int .i64 a4, .int .i64 b5, .int .i64 b6, .int .i64 b7] t := h3.set 4 (.int .i64 a4)
 have h5 : Blk ((((((w.setCell ⟨g, 0, none⟩ (.int .i64 a0)).setCell ⟨g, 1, none⟩ (.int .i64 a1)).setCell ⟨g, 2, none⟩ (.int .i64 a2)).setCell ⟨g, 3, none⟩ (.int .i64 a3)).setCell ⟨g, 4, none⟩ (.int .i64 a4)).setCell ⟨g, 5, none⟩ (.int .i64 a5)) g #[.int .i64 a0, .int .i64 a1, .int .i64 a2, .int .i64 a3, .int .i64 a4, .int .i64 a5, .int .i64 b6, .int .i64 b7] t := h4.set 5 (.int .i64 a5)
 have h6 : Blk (((((((w.setCell ⟨g, 0, none⟩ (.int .i64 a0)).setCell ⟨g, 1, none⟩ (.int .i64 a1)).setCell ⟨g, 2, none⟩ (.int .i64 a2)).setCell ⟨g, 3, none⟩ (.int .i64 a3)).setCell ⟨g, 4, none⟩ (.int .i64 a4)).setCell ⟨g, 5, none⟩ (.int .i64 a5)).setCell ⟨g, 6, none⟩ (.int .i64 a6)) g #[.int .i64 a0, .int .i64 a1, .int .i64 a2, .int .i64 a3, .int .i64 a4, .int .i64 a5, .int .i64 a6, .int .i64 b7] t := h5.set 6 (.int .i64 a6)
 have h7 : Blk ((((((((w.setCell ⟨g, 0, none⟩ (.int .i64 a0)).setCell ⟨g, 1, none⟩ (.int .i64 a1)).setCell ⟨g, 2, none⟩ (.int .i64 a2)).setCell ⟨g, 3, none⟩ (.int .i64 a3)).setCell ⟨g, 4, none⟩ (.int .i64 a4)).setCell ⟨g, 5, none⟩ (.int .i64 a5)).setCell ⟨g, 6, none⟩ (.int .i64 a6)).setCell ⟨g, 7, none⟩ (.int .i64 a7)) g #[.int .i64 a0, .int .i64 a1, .int .i64 a2, .int .i64 a3, .int .i64 a4, .int .i64 a5, .int .i64 a6, .int .i64 a7] t := h6.set 7 (.int .i64 a7)
 exact h7
theorem Ext.set8 {a w : World} (h : Ext a w) {g : Nat} (hg : a.heap.size ≤ g) (a0 a1 a2 a3 a4 a5 a6 a7 : Int) : Ext a (set8 w g a0 a1 a2 a3 a4 a5 a6 a7) := ((((((((h.setCell (p := ⟨g, 0, none⟩) hg _).setCell (p := ⟨g, 1, none⟩) hg _).setCell (p := ⟨g, 2, none⟩) hg _).setCell (p := ⟨g, 3, none⟩) hg _).setCell (p := ⟨g, 4, none⟩) hg _).setCell (p := ⟨g, 5, none⟩) hg _).setCell (p := ⟨g, 6, none⟩) hg _).setCell (p := ⟨g, 7, none⟩) hg _)
theorem But.set8 (w : World) (g : Nat) (a0 a1 a2 a3 a4 a5 a6 a7 : Int) : But g w (set8 w g a0 a1 a2 a3 a4 a5 a6 a7) := by
 unfold Go.Proofs.YtojdediohjghnaaGreatDoor.set8
 exact ((((((((But.set w g 0 _).setG _).setG _).setG _).setG _).setG _).setG _).setG _)
set_option maxRecDepth 100000 in
theorem store8_op {Q : Exit → Act → World → Prop} {K : Act → World → Prop} {a : Act} {dst : Option Tmp} {ty : TypeId} {x y : Operand} {pos : String} {after : Array Edge} {guard : Option (Nat × Bool)} {w : World} {g : Nat} {b0 b1 b2 b3 b4 b5 b6 b7 a0 a1 a2 a3 a4 a5 a6 a7 : Int}
  (hq : Blk w g #[.int .i64 b0, .int .i64 b1, .int .i64 b2, .int .i64 b3, .int .i64 b4, .int .i64 b5, .int .i64 b6, .int .i64 b7] 254) (hx : a.eval x = .pointer (some ⟨g, 0, none⟩)) (hy : a.eval y = .agg #[.int .i64 a0, .int .i64 a1, .int .i64 a2, .int .i64 a3, .int .i64 a4, .int .i64 a5, .int .i64 a6, .int .i64 a7])
  (h : ∀ w', (∀ c, Ext c w → c.heap.size ≤ g → Ext c w') → But g w w' → Blk w' g #[.int .i64 a0, .int .i64 a1, .int .i64 a2, .int .i64 a3, .int .i64 a4, .int .i64 a5, .int .i64 a6, .int .i64 a7] 254 → K (a.put dst undef) w') :
  Oper.wp Tryz.prog ⟨dst, .store 254 x y, ty, pos, after, guard⟩ a w K Q := by
 obtain ⟨c0, c1, c2, c3, c4, c5, c6, c7⟩ := hq.c8; have cf := hq.free; have cl := hq.lt
 have hB := Lib.hid (But.set8 w g a0 a1 a2 a3 a4 a5 a6 a7)
 have hq2 := Lib.hid (hq.set8 a0 a1 a2 a3 a4 a5 a6 a7)
 have hE := Lib.hid (fun c (h : Ext c w) (hg : c.heap.size ≤ g) => h.set8 hg a0 a1 a2 a3 a4 a5 a6 a7)
 unfold Oper.wp execOp
 simp only [hx, hy]
 go_simp
 exact h _ hE.out hB.out hq2.out
theorem wp_store8 {ops : Array Oper} {rest : List Oper} {Q : Exit → Act → World → Prop} {a : Act} {dst : Option Tmp} {ty : TypeId} {x y : Operand} {pos : String} {after : Array Edge} {w : World} {g : Nat} {b0 b1 b2 b3 b4 b5 b6 b7 a0 a1 a2 a3 a4 a5 a6 a7 : Int}
  (hq : Blk w g #[.int .i64 b0, .int .i64 b1, .int .i64 b2, .int .i64 b3, .int .i64 b4, .int .i64 b5, .int .i64 b6, .int .i64 b7] 254) 
  (h : ∀ w', (∀ c, Ext c w → c.heap.size ≤ g → Ext c w') → But g w w' → Blk w' g #[.int .i64 a0, .int .i64 a1, .int .i64 a2, .int .i64 a3, .int .i64 a4, .int .i64 a5, .int .i64 a6, .int .i64 a7] 254 → wpList Tryz.prog ops Q rest (a.put dst undef) w') (hx : a.eval x = .pointer (some ⟨g, 0, none⟩)) (hy : a.eval y = .agg #[.int .i64 a0, .int .i64 a1, .int .i64 a2, .int .i64 a3, .int .i64 a4, .int .i64 a5, .int .i64 a6, .int .i64 a7]) :
  wpList Tryz.prog ops Q (⟨dst, .store 254 x y, ty, pos, after, none⟩ :: rest) a w :=
 wpList_plain rfl fun K' hK' => store8_op hq hx hy fun w' h1 h2 h3 => hK' _ _ (h w' h1 h2 h3)
end Go.Proofs.YtojdediohjghnaaGreatDoor
