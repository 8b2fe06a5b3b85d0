
/- How the laws copy, compare and mark grids. -/
import Derived.Test.YthokkmbdkjpbcaaDoorBands
import Derived.Test.YthokkmbdkjpbcaaDoorWriteS
import Derived.Test.YthokkmbdkjpbcaaDoorInts
namespace Go.Proofs.YthokkmbdkjpbcaaDoor
set_option linter.unusedVariables false
set_option linter.unusedSimpArgs false
open Go.RowKit

theorem OwnInts.setFar {B g i : Nat} {w : World} {q : Option Addr} {xs : List Int} {v : Value} (h : OwnInts B w q xs) (hg : g < B) : OwnInts B (w.setCell ⟨g, i, none⟩ v) q xs := by
  refine h.keep (by simp [World.setCell]) fun b o hn hq _ => ?_
  have := h.lt0 hn hq
  exact Below.heap_setCell w ⟨g, i, none⟩ v b (by show b ≠ g; omega)
set_option maxRecDepth 100000 in
theorem szGrid_c (r c : Int) (p : Option Addr) (k n : Nat) (w : World) (hn : n ≤ 9223372036854775807) :
    Calls Tryd.prog 12 #[vGrid r c p n k, .int .i64 1048576] w fun e w' => e = .returned (.int .i64 (if n ≤ 1048576 then 1048576 - n else -1)) ∧ Ext w w' := by
  have hsz : ∀ W, Calls Tryd.prog 54 #[.slice p n k, .int .i64 1048576] W fun e w' => e = .returned (.int .i64 (if n ≤ 1048576 then 1048576 - n else -1)) ∧ Ext W w' := by
    intro W
    by_cases h : n ≤ 1048576
    · rw [if_pos h]
      go_enter Tryd.func54, Tryd.ntmps54
      go_wp2
      go_ret
      exact ⟨rfl, (by repeat (first | exact Ext.refl _ | assumption | refine Ext.drew ?_ | refine Ext.drewN ?_ _ | refine Ext.iter ?_ _ _ | refine Ext.alloc ?_ _ | refine Ext.setCell ?_ (by first | exact Nat.le_refl _ | (simp <;> omega)) _ | refine Ext.trans2 (by assumption) ?_))⟩
    · rw [if_neg h]
      have h2 : (1048576 : Int) - n < 0 := by omega
      go_enter Tryd.func54, Tryd.ntmps54
      go_wp2
      go_ret
      exact ⟨rfl, (by repeat (first | exact Ext.refl _ | assumption | refine Ext.drew ?_ | refine Ext.drewN ?_ _ | refine Ext.iter ?_ _ _ | refine Ext.alloc ?_ _ | refine Ext.setCell ?_ (by first | exact Nat.le_refl _ | (simp <;> omega)) _ | refine Ext.trans2 (by assumption) ?_))⟩
  have hsz := Lib.hid hsz
  by_cases h : n ≤ 1048576
  · rw [if_pos h] at hsz ⊢
    have h2 : ¬ (1048576 : Int) - n < 0 := by omega
    go_enter Tryd.func12, Tryd.ntmps12
    go_wp2_with (go_at_call 54; (with_reducible refine (hsz.out _).mono ?_); rintro e w1 ⟨rfl, hx1⟩)
    go_ret
    exact ⟨rfl, (by repeat (first | exact Ext.refl _ | assumption | refine Ext.drew ?_ | refine Ext.drewN ?_ _ | refine Ext.iter ?_ _ _ | refine Ext.alloc ?_ _ | refine Ext.setCell ?_ (by first | exact Nat.le_refl _ | (simp <;> omega)) _ | refine Ext.trans2 (by assumption) ?_))⟩
  · rw [if_neg h] at hsz ⊢
    go_enter Tryd.func12, Tryd.ntmps12
    go_wp2_with (go_at_call 54; (with_reducible refine (hsz.out _).mono ?_); rintro e w1 ⟨rfl, hx1⟩)
    go_ret
    exact ⟨rfl, (by repeat (first | exact Ext.refl _ | assumption | refine Ext.drew ?_ | refine Ext.drewN ?_ _ | refine Ext.iter ?_ _ _ | refine Ext.alloc ?_ _ | refine Ext.setCell ?_ (by first | exact Nat.le_refl _ | (simp <;> omega)) _ | refine Ext.trans2 (by assumption) ?_))⟩
set_option maxHeartbeats 400000 in
set_option maxRecDepth 100000 in
theorem toGrid_c (r c : Int) (p : Option Addr) (k : Nat) (xs : List Int) (w : World) (hx : IntsAt w p xs) (hl : xs.length ≤ 1048576) :
    Calls Tryd.prog 14 #[vGrid r c p xs.length k] w fun e w' => (∃ q, e = .returned (vGrid r c q xs.length xs.length) ∧ OwnInts w.heap.size w' q xs) ∧ Ext w w' := by
  have HX := Lib.hid hx; clear hx
  have hti := Lib.hid (fun W (h : IntsAt W p xs) => toInt64S_c p k xs W h hl)
  have hb2 := (Blk.new (w.alloc (.cells #[.int .i64 r, .int .i64 c, .slice p xs.length k] 24)) #[.int .i64 0, .int .i64 0, .slice none 0 0] 28).alloc (.cells #[.int .i64 r, .int .i64 c, .slice none 0 0] 28)
  have hb3 := Blk.new ((w.alloc (.cells #[.int .i64 r, .int .i64 c, .slice p xs.length k] 24)).alloc (.cells #[.int .i64 0, .int .i64 0, .slice none 0 0] 28)) #[.int .i64 r, .int .i64 c, .slice none 0 0] 28
  simp only [World.size_alloc] at hb2 hb3
  have hx0 : Ext w (((w.alloc (.cells #[.int .i64 r, .int .i64 c, .slice p xs.length k] 24)).alloc (.cells #[.int .i64 0, .int .i64 0, .slice none 0 0] 28)).alloc (.cells #[.int .i64 r, .int .i64 c, .slice none 0 0] 28)) := (((Ext.refl w).alloc _).alloc _).alloc _
  go_enter Tryd.func14, Tryd.ntmps14
  go_wp2_with fail
  generalize (((w.alloc (.cells #[.int .i64 r, .int .i64 c, .slice p xs.length k] 24)).alloc (.cells #[.int .i64 0, .int .i64 0, .slice none 0 0] 28)).alloc (.cells #[.int .i64 r, .int .i64 c, .slice none 0 0] 28)) = w0 at *
  refine (hti.out _ (HX.out.ext hx0)).mono ?_
  rintro e w1 ⟨⟨q, rfl, oq⟩, hx1⟩
  have hz0 := hx0.below.size
  have hz3 := hb3.lt
  have oq1 := Lib.hid (((((oq.setFar (g := w.heap.size + 1 + 1) (i := 2) (v := .slice q xs.length xs.length) (by omega)).setFar (g := w.heap.size + 1) (i := 0) (v := .int .i64 r) (by omega)).setFar (g := w.heap.size + 1) (i := 1) (v := .int .i64 c) (by omega)).setFar (g := w.heap.size + 1) (i := 2) (v := .slice q xs.length xs.length) (by omega)).mono hz0)
  have hr1 := hb2.ext hx1
  have hg1 := hb3.ext hx1
  have r0 := hr1.cell (i := 0) (v := .int .i64 0) rfl; have r1 := hr1.cell (i := 1) (v := .int .i64 0) rfl; have r2 := hr1.cell (i := 2) (v := .slice none 0 0) rfl; have rl := hr1.lt; have rf := hr1.free
  have g0 := hg1.cell (i := 0) (v := .int .i64 r) rfl; have g1 := hg1.cell (i := 1) (v := .int .i64 c) rfl; have g2 := hg1.cell (i := 2) (v := .slice none 0 0) rfl; have gl := hg1.lt; have gf := hg1.free
  clear hb2 hb3 oq
  go_wp2_with fail
  have hF := (((hr1.far (g' := w.heap.size + 1 + 1) (i := 2) (by omega) (.slice q xs.length xs.length)).set 0 (.int .i64 r)).set 1 (.int .i64 c)).set 2 (.slice q xs.length xs.length)
  have c0 := hF.cell (i := 0) (v := .int .i64 r) rfl; have c1 := hF.cell (i := 1) (v := .int .i64 c) rfl; have c2 := hF.cell (i := 2) (v := .slice q xs.length xs.length) rfl
  have hfin : Ext w ((((w1.setCell ⟨w.heap.size + 1 + 1, 2, none⟩ (.slice q xs.length xs.length)).setCell ⟨w.heap.size + 1, 0, none⟩ (.int .i64 r)).setCell ⟨w.heap.size + 1, 1, none⟩ (.int .i64 c)).setCell ⟨w.heap.size + 1, 2, none⟩ (.slice q xs.length xs.length)) :=
    ((((hx0.trans hx1).setCell (p := ⟨w.heap.size + 1 + 1, 2, none⟩) (by show _ ≤ _; simp only; omega) _).setCell (p := ⟨w.heap.size + 1, 0, none⟩) (Nat.le_succ _) _).setCell (p := ⟨w.heap.size + 1, 1, none⟩) (Nat.le_succ _) _).setCell (p := ⟨w.heap.size + 1, 2, none⟩) (Nat.le_succ _) _
  clear r0 r1 r2 rl rf g0 g1 g2 gl gf
  exact bodyPost_ret (v := vGrid r c q xs.length xs.length) (by simp [results, Tryd.results14, go_sem, c0, c1, c2]) rfl ⟨⟨q, rfl, oq1.out⟩, hfin⟩
theorem eqGrid_c (r c : Int) (p q : Option Addr) (k l : Nat) (xs : List Int) (w : World) (hx : IntsAt w p xs) (hy : IntsAt w q xs) (hl : xs.length ≤ 1048576) :
    Calls Tryd.prog 16 #[vGrid r c p xs.length k, vGrid r c q xs.length l] w fun e w' => e = .returned (.bool true) ∧ Ext w w' := by
  have HX := Lib.hid hx; have HY := Lib.hid hy; clear hx hy
  have heq : Hid (∀ W, IntsAt W p xs → IntsAt W q xs → Calls Tryd.prog 60 #[.slice p xs.length k, .slice q xs.length l] W fun e w' => e = .returned (.bool true) ∧ ∃ n, w' = W.drewN n) := Lib.hid fun W h1 h2 => (eqInt64S_c p q k l xs xs W h1 h2 (by omega) (by omega)).mono fun e w' h => by
    rcases h with ⟨⟨_, h⟩ | ⟨h, _⟩, n, hn⟩
    · exact ⟨h, n, hn⟩
    · exact absurd rfl h
  go_enter Tryd.func16, Tryd.ntmps16
  go_wp2_with (go_at_call 60; (with_reducible refine (heq.out _ (HX.out.ext (by repeat (first | exact Ext.refl _ | assumption | refine Ext.drew ?_ | refine Ext.drewN ?_ _ | refine Ext.iter ?_ _ _ | refine Ext.alloc ?_ _ | refine Ext.setCell ?_ (by first | exact Nat.le_refl _ | (simp <;> omega)) _ | refine Ext.trans2 (by assumption) ?_))) (HY.out.ext (by repeat (first | exact Ext.refl _ | assumption | refine Ext.drew ?_ | refine Ext.drewN ?_ _ | refine Ext.iter ?_ _ _ | refine Ext.alloc ?_ _ | refine Ext.setCell ?_ (by first | exact Nat.le_refl _ | (simp <;> omega)) _ | refine Ext.trans2 (by assumption) ?_)))).mono ?_); rintro e w1 ⟨rfl, n1, rfl⟩)
  go_ret
  exact ⟨rfl, (by repeat (first | exact Ext.refl _ | assumption | refine Ext.drew ?_ | refine Ext.drewN ?_ _ | refine Ext.iter ?_ _ _ | refine Ext.alloc ?_ _ | refine Ext.setCell ?_ (by first | exact Nat.le_refl _ | (simp <;> omega)) _ | refine Ext.trans2 (by assumption) ?_))⟩
theorem markGrid_c (B : Nat) (r c : Int) (p : Option Addr) (k : Nat) (xs : List Int) (w : World) (hx : OwnInts B w p xs) (hl : xs.length ≤ 1048576) (hB : B ≤ w.heap.size) :
    Calls Tryd.prog 21 #[vGrid r c p xs.length k, .int .i64 1] w fun e w' => e = .returned (.int .i64 (1 + xs.length)) ∧ Below B w w' ∧ ∀ k, k < w.heap.size → (∀ b o, xs ≠ [] → p = some ⟨b, o, none⟩ → b ≠ k) → w'.heap[k]? = w.heap[k]? := by
  have hx0 : Ext w (w.alloc (.cells #[.int .i64 r, .int .i64 c, .slice p xs.length k] 28)) := (Ext.refl w).alloc _
  have hmk := Lib.hid (mark_c B p k 1 xs (w.alloc (.cells #[.int .i64 r, .int .i64 c, .slice p xs.length k] 28)) (hx.ext hx0) (by omega) (by omega))
  go_enter Tryd.func21, Tryd.ntmps21
  go_wp2_with fail
  refine hmk.out.mono ?_
  rintro e w1 ⟨rfl, oq1, hb1, hk1⟩
  go_wp2_with fail
  go_ret
  exact ⟨rfl, (hx0.below.mono hB).trans hb1, fun j hj hd => (hk1 j (by simp; omega) hd).trans (hx0.below.block j hj)⟩
end Go.Proofs.YthokkmbdkjpbcaaDoor
