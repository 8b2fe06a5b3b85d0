
/- calc, whole. -/
import Derived.Test.YtnfbgjgchcgonaaCalc5
namespace Go.Proofs.Ytnfbgjgchcgonaa
set_option linter.unusedVariables false
set_option linter.unusedSimpArgs false
open Go.RowKit

set_option maxRecDepth 100000 in
theorem calcB_no (p k q : Int) (w : World) (hk1 : k ≠ 1) (hno : ¬ (p = 2 ∧ (3 ≤ k ∧ k ≤ 8))) :
    Calls Try.prog 95 #[vFld p k q] w fun e w' => CalcR p k q e w' ∧ Ext w w' := by
  have hnf : ¬ fldOK p k q := fun h => by
    rcases h with ⟨h1, _⟩ | ⟨_, h1, h2, _⟩
    · exact hk1 h1
    · exact hno ⟨h1, h2⟩
  have HNF := Lib.hid hnf; clear hnf
  have hk1' : (k == 1) = false := by simpa using hk1
  by_cases h2 : p = 2
  · subst h2
    have h3 : ¬ (3 ≤ k ∧ k ≤ 8) := fun h => hno ⟨rfl, h⟩
    clear hno
    go_enter Try.func95, Try.ntmps95
    go_wp2_with (first
      | (go_at_call 84; (with_reducible refine (inRange_c _ _ _ _).mono ?_); rintro e w1 ⟨⟨hP, rfl⟩ | ⟨hP, rfl⟩, rfl⟩ <;> first | contradiction | skip))
    go_ret2
    exact ⟨.inr ⟨HNF.out, _, rfl⟩, (by repeat (first | exact Ext.refl _ | assumption | refine Ext.drew ?_ | refine Ext.drewN ?_ _ | refine Ext.iter ?_ _ _ | refine Ext.alloc ?_ _ | refine Ext.setCell ?_ (by first | exact Nat.le_refl _ | (simp <;> omega)) _ | refine Ext.trans2 (by assumption) ?_))⟩
  · have hp2 : (p == 2) = false := by simpa using h2
    clear hno
    go_enter Try.func95, Try.ntmps95
    go_wp2
    go_ret2
    exact ⟨.inr ⟨HNF.out, _, rfl⟩, (by repeat (first | exact Ext.refl _ | assumption | refine Ext.drew ?_ | refine Ext.drewN ?_ _ | refine Ext.iter ?_ _ _ | refine Ext.alloc ?_ _ | refine Ext.setCell ?_ (by first | exact Nat.le_refl _ | (simp <;> omega)) _ | refine Ext.trans2 (by assumption) ?_))⟩

set_option maxRecDepth 100000 in
theorem calcB3_c (q : Int) (w : World) :
    Calls Try.prog 95 #[vFld 2 3 q] w fun e w' => CalcR 2 3 q e w' ∧ Ext w w' := by
  by_cases hq : (2 : Int) ^ 3 ≤ q ∧ q < 2 ^ (3 + 1)
  · have hq1 : 8 ≤ q := hq.1
    have hq2 : q < 16 := hq.2
    have hqs : (q / 8 == 1) = true := by simp; omega
    have HQ := Lib.hid hq
    have hb0 := Blk.new w #[.int .i64 2, .int .i64 3, .int .i64 q] 41
    have hb1 := Blk.new (w.alloc (.cells #[.int .i64 2, .int .i64 3, .int .i64 q] 41)) ((Try.zeroCells190.setIfInBounds 0 (.bool true)).setIfInBounds 1 (.int .i64 8)) 190
    have hb2 := Blk.new ((w.alloc (.cells #[.int .i64 2, .int .i64 3, .int .i64 q] 41)).alloc (.cells ((Try.zeroCells190.setIfInBounds 0 (.bool true)).setIfInBounds 1 (.int .i64 8)) 190)) #[.pointer (some ⟨w.heap.size + 1, 0, none⟩)] 124
    simp only [World.size_alloc] at hb1 hb2
    have hb1' := hb1.alloc (.cells #[.pointer (some ⟨w.heap.size + 1, 0, none⟩)] 124)
    have hcb : CalcB _ _ true (2 ^ 3) := ⟨_, hb1', calcZero2 8⟩
    have hq1 := hb2.cell (i := 0) (v := .pointer (some ⟨w.heap.size + 1, 0, none⟩)) rfl
    have hq2 := ((hb0.alloc (.cells ((Try.zeroCells190.setIfInBounds 0 (.bool true)).setIfInBounds 1 (.int .i64 8)) 190)).alloc (.cells #[.pointer (some ⟨w.heap.size + 1, 0, none⟩)] 124)).cell (i := 2) (v := .int .i64 q) rfl
    have HC := Lib.hid hcb; have HQ1 := Lib.hid hq1; have HQ2 := Lib.hid hq2
    clear hb0 hb1 hb1' hcb hq1 hq2
    replace hb2 := Lib.hid hb2
    go_enter Try.func95, Try.ntmps95
    go_wp2_with (first
      | (go_at_call 84; (with_reducible refine (inRange_c _ _ _ _).mono ?_); rintro e w1 ⟨⟨hP, rfl⟩ | ⟨hP, rfl⟩, rfl⟩ <;> first | (exfalso; omega) | skip))
    refine (fill2_c 3 q 7 _ _ _ _ (by decide) (by omega) HQ.out HC.out HQ1.out HQ2.out (by simp) (by simp; omega)).mono ?_
    rintro e w1 ⟨⟨hR, rfl⟩ | ⟨hR, rfl⟩, hcb, hbut⟩
    all_goals
      have hE : Ext w w1 := ((((Ext.refl w).alloc _).alloc _).alloc _).but hbut (by omega)
      have hb2' := hb2.out.but hbut (by omega)
      have q0 := hb2'.cell (i := 0) (v := .pointer (some ⟨w.heap.size + 1, 0, none⟩)) rfl
      clear hbut
      go_wp2
      go_ret2
    · exact ⟨.inl ⟨.inr ⟨by omega, rfl, by omega, HQ.out, hR⟩, _, true, rfl, hcb⟩, hE⟩
    · refine ⟨.inr ⟨fun h => ?_, _, rfl⟩, hE⟩
      rcases h with ⟨h, _⟩ | ⟨_, _, _, _, h⟩
      · omega
      · exact hR h
  · have hqs : (q / 8 == 1) = false := by
      have h1 : ¬ (8 ≤ q ∧ q < 16) := hq
      simp; omega
    have hnf : ¬ fldOK 2 3 q := fun h => by
      rcases h with ⟨h, _⟩ | ⟨_, _, _, h, _⟩
      · omega
      · exact hq h
    have HNF := Lib.hid hnf; clear hnf hq
    go_enter Try.func95, Try.ntmps95
    go_wp2_with (first
      | (go_at_call 84; (with_reducible refine (inRange_c _ _ _ _).mono ?_); rintro e w1 ⟨⟨hP, rfl⟩ | ⟨hP, rfl⟩, rfl⟩ <;> first | (exfalso; omega) | skip))
    go_ret2
    exact ⟨.inr ⟨HNF.out, _, rfl⟩, (by repeat (first | exact Ext.refl _ | assumption | refine Ext.drew ?_ | refine Ext.drewN ?_ _ | refine Ext.iter ?_ _ _ | refine Ext.alloc ?_ _ | refine Ext.setCell ?_ (by first | exact Nat.le_refl _ | (simp <;> omega)) _ | refine Ext.trans2 (by assumption) ?_))⟩
set_option maxRecDepth 100000 in
theorem calcB4_c (q : Int) (w : World) :
    Calls Try.prog 95 #[vFld 2 4 q] w fun e w' => CalcR 2 4 q e w' ∧ Ext w w' := by
  by_cases hq : (2 : Int) ^ 4 ≤ q ∧ q < 2 ^ (4 + 1)
  · have hq1 : 16 ≤ q := hq.1
    have hq2 : q < 32 := hq.2
    have hqs : (q / 16 == 1) = true := by simp; omega
    have HQ := Lib.hid hq
    have hb0 := Blk.new w #[.int .i64 2, .int .i64 4, .int .i64 q] 41
    have hb1 := Blk.new (w.alloc (.cells #[.int .i64 2, .int .i64 4, .int .i64 q] 41)) ((Try.zeroCells190.setIfInBounds 0 (.bool true)).setIfInBounds 1 (.int .i64 16)) 190
    have hb2 := Blk.new ((w.alloc (.cells #[.int .i64 2, .int .i64 4, .int .i64 q] 41)).alloc (.cells ((Try.zeroCells190.setIfInBounds 0 (.bool true)).setIfInBounds 1 (.int .i64 16)) 190)) #[.pointer (some ⟨w.heap.size + 1, 0, none⟩)] 124
    simp only [World.size_alloc] at hb1 hb2
    have hb1' := hb1.alloc (.cells #[.pointer (some ⟨w.heap.size + 1, 0, none⟩)] 124)
    have hcb : CalcB _ _ true (2 ^ 4) := ⟨_, hb1', calcZero2 16⟩
    have hq1 := hb2.cell (i := 0) (v := .pointer (some ⟨w.heap.size + 1, 0, none⟩)) rfl
    have hq2 := ((hb0.alloc (.cells ((Try.zeroCells190.setIfInBounds 0 (.bool true)).setIfInBounds 1 (.int .i64 16)) 190)).alloc (.cells #[.pointer (some ⟨w.heap.size + 1, 0, none⟩)] 124)).cell (i := 2) (v := .int .i64 q) rfl
    have HC := Lib.hid hcb; have HQ1 := Lib.hid hq1; have HQ2 := Lib.hid hq2
    clear hb0 hb1 hb1' hcb hq1 hq2
    replace hb2 := Lib.hid hb2
    go_enter Try.func95, Try.ntmps95
    go_wp2_with (first
      | (go_at_call 84; (with_reducible refine (inRange_c _ _ _ _).mono ?_); rintro e w1 ⟨⟨hP, rfl⟩ | ⟨hP, rfl⟩, rfl⟩ <;> first | (exfalso; omega) | skip))
    refine (fill2_c 4 q 15 _ _ _ _ (by decide) (by omega) HQ.out HC.out HQ1.out HQ2.out (by simp) (by simp; omega)).mono ?_
    rintro e w1 ⟨⟨hR, rfl⟩ | ⟨hR, rfl⟩, hcb, hbut⟩
    all_goals
      have hE : Ext w w1 := ((((Ext.refl w).alloc _).alloc _).alloc _).but hbut (by omega)
      have hb2' := hb2.out.but hbut (by omega)
      have q0 := hb2'.cell (i := 0) (v := .pointer (some ⟨w.heap.size + 1, 0, none⟩)) rfl
      clear hbut
      go_wp2
      go_ret2
    · exact ⟨.inl ⟨.inr ⟨by omega, rfl, by omega, HQ.out, hR⟩, _, true, rfl, hcb⟩, hE⟩
    · refine ⟨.inr ⟨fun h => ?_, _, rfl⟩, hE⟩
      rcases h with ⟨h, _⟩ | ⟨_, _, _, _, h⟩
      · omega
      · exact hR h
  · have hqs : (q / 16 == 1) = false := by
      have h1 : ¬ (16 ≤ q ∧ q < 32) := hq
      simp; omega
    have hnf : ¬ fldOK 2 4 q := fun h => by
      rcases h with ⟨h, _⟩ | ⟨_, _, _, h, _⟩
      · omega
      · exact hq h
    have HNF := Lib.hid hnf; clear hnf hq
    go_enter Try.func95, Try.ntmps95
    go_wp2_with (first
      | (go_at_call 84; (with_reducible refine (inRange_c _ _ _ _).mono ?_); rintro e w1 ⟨⟨hP, rfl⟩ | ⟨hP, rfl⟩, rfl⟩ <;> first | (exfalso; omega) | skip))
    go_ret2
    exact ⟨.inr ⟨HNF.out, _, rfl⟩, (by repeat (first | exact Ext.refl _ | assumption | refine Ext.drew ?_ | refine Ext.drewN ?_ _ | refine Ext.iter ?_ _ _ | refine Ext.alloc ?_ _ | refine Ext.setCell ?_ (by first | exact Nat.le_refl _ | (simp <;> omega)) _ | refine Ext.trans2 (by assumption) ?_))⟩
set_option maxRecDepth 100000 in
theorem calcB5_c (q : Int) (w : World) :
    Calls Try.prog 95 #[vFld 2 5 q] w fun e w' => CalcR 2 5 q e w' ∧ Ext w w' := by
  by_cases hq : (2 : Int) ^ 5 ≤ q ∧ q < 2 ^ (5 + 1)
  · have hq1 : 32 ≤ q := hq.1
    have hq2 : q < 64 := hq.2
    have hqs : (q / 32 == 1) = true := by simp; omega
    have HQ := Lib.hid hq
    have hb0 := Blk.new w #[.int .i64 2, .int .i64 5, .int .i64 q] 41
    have hb1 := Blk.new (w.alloc (.cells #[.int .i64 2, .int .i64 5, .int .i64 q] 41)) ((Try.zeroCells190.setIfInBounds 0 (.bool true)).setIfInBounds 1 (.int .i64 32)) 190
    have hb2 := Blk.new ((w.alloc (.cells #[.int .i64 2, .int .i64 5, .int .i64 q] 41)).alloc (.cells ((Try.zeroCells190.setIfInBounds 0 (.bool true)).setIfInBounds 1 (.int .i64 32)) 190)) #[.pointer (some ⟨w.heap.size + 1, 0, none⟩)] 124
    simp only [World.size_alloc] at hb1 hb2
    have hb1' := hb1.alloc (.cells #[.pointer (some ⟨w.heap.size + 1, 0, none⟩)] 124)
    have hcb : CalcB _ _ true (2 ^ 5) := ⟨_, hb1', calcZero2 32⟩
    have hq1 := hb2.cell (i := 0) (v := .pointer (some ⟨w.heap.size + 1, 0, none⟩)) rfl
    have hq2 := ((hb0.alloc (.cells ((Try.zeroCells190.setIfInBounds 0 (.bool true)).setIfInBounds 1 (.int .i64 32)) 190)).alloc (.cells #[.pointer (some ⟨w.heap.size + 1, 0, none⟩)] 124)).cell (i := 2) (v := .int .i64 q) rfl
    have HC := Lib.hid hcb; have HQ1 := Lib.hid hq1; have HQ2 := Lib.hid hq2
    clear hb0 hb1 hb1' hcb hq1 hq2
    replace hb2 := Lib.hid hb2
    go_enter Try.func95, Try.ntmps95
    go_wp2_with (first
      | (go_at_call 84; (with_reducible refine (inRange_c _ _ _ _).mono ?_); rintro e w1 ⟨⟨hP, rfl⟩ | ⟨hP, rfl⟩, rfl⟩ <;> first | (exfalso; omega) | skip))
    refine (fill2_c 5 q 31 _ _ _ _ (by decide) (by omega) HQ.out HC.out HQ1.out HQ2.out (by simp) (by simp; omega)).mono ?_
    rintro e w1 ⟨⟨hR, rfl⟩ | ⟨hR, rfl⟩, hcb, hbut⟩
    all_goals
      have hE : Ext w w1 := ((((Ext.refl w).alloc _).alloc _).alloc _).but hbut (by omega)
      have hb2' := hb2.out.but hbut (by omega)
      have q0 := hb2'.cell (i := 0) (v := .pointer (some ⟨w.heap.size + 1, 0, none⟩)) rfl
      clear hbut
      go_wp2
      go_ret2
    · exact ⟨.inl ⟨.inr ⟨by omega, rfl, by omega, HQ.out, hR⟩, _, true, rfl, hcb⟩, hE⟩
    · refine ⟨.inr ⟨fun h => ?_, _, rfl⟩, hE⟩
      rcases h with ⟨h, _⟩ | ⟨_, _, _, _, h⟩
      · omega
      · exact hR h
  · have hqs : (q / 32 == 1) = false := by
      have h1 : ¬ (32 ≤ q ∧ q < 64) := hq
      simp; omega
    have hnf : ¬ fldOK 2 5 q := fun h => by
      rcases h with ⟨h, _⟩ | ⟨_, _, _, h, _⟩
      · omega
      · exact hq h
    have HNF := Lib.hid hnf; clear hnf hq
    go_enter Try.func95, Try.ntmps95
    go_wp2_with (first
      | (go_at_call 84; (with_reducible refine (inRange_c _ _ _ _).mono ?_); rintro e w1 ⟨⟨hP, rfl⟩ | ⟨hP, rfl⟩, rfl⟩ <;> first | (exfalso; omega) | skip))
    go_ret2
    exact ⟨.inr ⟨HNF.out, _, rfl⟩, (by repeat (first | exact Ext.refl _ | assumption | refine Ext.drew ?_ | refine Ext.drewN ?_ _ | refine Ext.iter ?_ _ _ | refine Ext.alloc ?_ _ | refine Ext.setCell ?_ (by first | exact Nat.le_refl _ | (simp <;> omega)) _ | refine Ext.trans2 (by assumption) ?_))⟩
set_option maxRecDepth 100000 in
theorem calcB6_c (q : Int) (w : World) :
    Calls Try.prog 95 #[vFld 2 6 q] w fun e w' => CalcR 2 6 q e w' ∧ Ext w w' := by
  by_cases hq : (2 : Int) ^ 6 ≤ q ∧ q < 2 ^ (6 + 1)
  · have hq1 : 64 ≤ q := hq.1
    have hq2 : q < 128 := hq.2
    have hqs : (q / 64 == 1) = true := by simp; omega
    have HQ := Lib.hid hq
    have hb0 := Blk.new w #[.int .i64 2, .int .i64 6, .int .i64 q] 41
    have hb1 := Blk.new (w.alloc (.cells #[.int .i64 2, .int .i64 6, .int .i64 q] 41)) ((Try.zeroCells190.setIfInBounds 0 (.bool true)).setIfInBounds 1 (.int .i64 64)) 190
    have hb2 := Blk.new ((w.alloc (.cells #[.int .i64 2, .int .i64 6, .int .i64 q] 41)).alloc (.cells ((Try.zeroCells190.setIfInBounds 0 (.bool true)).setIfInBounds 1 (.int .i64 64)) 190)) #[.pointer (some ⟨w.heap.size + 1, 0, none⟩)] 124
    simp only [World.size_alloc] at hb1 hb2
    have hb1' := hb1.alloc (.cells #[.pointer (some ⟨w.heap.size + 1, 0, none⟩)] 124)
    have hcb : CalcB _ _ true (2 ^ 6) := ⟨_, hb1', calcZero2 64⟩
    have hq1 := hb2.cell (i := 0) (v := .pointer (some ⟨w.heap.size + 1, 0, none⟩)) rfl
    have hq2 := ((hb0.alloc (.cells ((Try.zeroCells190.setIfInBounds 0 (.bool true)).setIfInBounds 1 (.int .i64 64)) 190)).alloc (.cells #[.pointer (some ⟨w.heap.size + 1, 0, none⟩)] 124)).cell (i := 2) (v := .int .i64 q) rfl
    have HC := Lib.hid hcb; have HQ1 := Lib.hid hq1; have HQ2 := Lib.hid hq2
    clear hb0 hb1 hb1' hcb hq1 hq2
    replace hb2 := Lib.hid hb2
    go_enter Try.func95, Try.ntmps95
    go_wp2_with (first
      | (go_at_call 84; (with_reducible refine (inRange_c _ _ _ _).mono ?_); rintro e w1 ⟨⟨hP, rfl⟩ | ⟨hP, rfl⟩, rfl⟩ <;> first | (exfalso; omega) | skip))
    refine (fill2_c 6 q 63 _ _ _ _ (by decide) (by omega) HQ.out HC.out HQ1.out HQ2.out (by simp) (by simp; omega)).mono ?_
    rintro e w1 ⟨⟨hR, rfl⟩ | ⟨hR, rfl⟩, hcb, hbut⟩
    all_goals
      have hE : Ext w w1 := ((((Ext.refl w).alloc _).alloc _).alloc _).but hbut (by omega)
      have hb2' := hb2.out.but hbut (by omega)
      have q0 := hb2'.cell (i := 0) (v := .pointer (some ⟨w.heap.size + 1, 0, none⟩)) rfl
      clear hbut
      go_wp2
      go_ret2
    · exact ⟨.inl ⟨.inr ⟨by omega, rfl, by omega, HQ.out, hR⟩, _, true, rfl, hcb⟩, hE⟩
    · refine ⟨.inr ⟨fun h => ?_, _, rfl⟩, hE⟩
      rcases h with ⟨h, _⟩ | ⟨_, _, _, _, h⟩
      · omega
      · exact hR h
  · have hqs : (q / 64 == 1) = false := by
      have h1 : ¬ (64 ≤ q ∧ q < 128) := hq
      simp; omega
    have hnf : ¬ fldOK 2 6 q := fun h => by
      rcases h with ⟨h, _⟩ | ⟨_, _, _, h, _⟩
      · omega
      · exact hq h
    have HNF := Lib.hid hnf; clear hnf hq
    go_enter Try.func95, Try.ntmps95
    go_wp2_with (first
      | (go_at_call 84; (with_reducible refine (inRange_c _ _ _ _).mono ?_); rintro e w1 ⟨⟨hP, rfl⟩ | ⟨hP, rfl⟩, rfl⟩ <;> first | (exfalso; omega) | skip))
    go_ret2
    exact ⟨.inr ⟨HNF.out, _, rfl⟩, (by repeat (first | exact Ext.refl _ | assumption | refine Ext.drew ?_ | refine Ext.drewN ?_ _ | refine Ext.iter ?_ _ _ | refine Ext.alloc ?_ _ | refine Ext.setCell ?_ (by first | exact Nat.le_refl _ | (simp <;> omega)) _ | refine Ext.trans2 (by assumption) ?_))⟩
set_option maxRecDepth 100000 in
theorem calcB7_c (q : Int) (w : World) :
    Calls Try.prog 95 #[vFld 2 7 q] w fun e w' => CalcR 2 7 q e w' ∧ Ext w w' := by
  by_cases hq : (2 : Int) ^ 7 ≤ q ∧ q < 2 ^ (7 + 1)
  · have hq1 : 128 ≤ q := hq.1
    have hq2 : q < 256 := hq.2
    have hqs : (q / 128 == 1) = true := by simp; omega
    have HQ := Lib.hid hq
    have hb0 := Blk.new w #[.int .i64 2, .int .i64 7, .int .i64 q] 41
    have hb1 := Blk.new (w.alloc (.cells #[.int .i64 2, .int .i64 7, .int .i64 q] 41)) ((Try.zeroCells190.setIfInBounds 0 (.bool true)).setIfInBounds 1 (.int .i64 128)) 190
    have hb2 := Blk.new ((w.alloc (.cells #[.int .i64 2, .int .i64 7, .int .i64 q] 41)).alloc (.cells ((Try.zeroCells190.setIfInBounds 0 (.bool true)).setIfInBounds 1 (.int .i64 128)) 190)) #[.pointer (some ⟨w.heap.size + 1, 0, none⟩)] 124
    simp only [World.size_alloc] at hb1 hb2
    have hb1' := hb1.alloc (.cells #[.pointer (some ⟨w.heap.size + 1, 0, none⟩)] 124)
    have hcb : CalcB _ _ true (2 ^ 7) := ⟨_, hb1', calcZero2 128⟩
    have hq1 := hb2.cell (i := 0) (v := .pointer (some ⟨w.heap.size + 1, 0, none⟩)) rfl
    have hq2 := ((hb0.alloc (.cells ((Try.zeroCells190.setIfInBounds 0 (.bool true)).setIfInBounds 1 (.int .i64 128)) 190)).alloc (.cells #[.pointer (some ⟨w.heap.size + 1, 0, none⟩)] 124)).cell (i := 2) (v := .int .i64 q) rfl
    have HC := Lib.hid hcb; have HQ1 := Lib.hid hq1; have HQ2 := Lib.hid hq2
    clear hb0 hb1 hb1' hcb hq1 hq2
    replace hb2 := Lib.hid hb2
    go_enter Try.func95, Try.ntmps95
    go_wp2_with (first
      | (go_at_call 84; (with_reducible refine (inRange_c _ _ _ _).mono ?_); rintro e w1 ⟨⟨hP, rfl⟩ | ⟨hP, rfl⟩, rfl⟩ <;> first | (exfalso; omega) | skip))
    refine (fill2_c 7 q 127 _ _ _ _ (by decide) (by omega) HQ.out HC.out HQ1.out HQ2.out (by simp) (by simp; omega)).mono ?_
    rintro e w1 ⟨⟨hR, rfl⟩ | ⟨hR, rfl⟩, hcb, hbut⟩
    all_goals
      have hE : Ext w w1 := ((((Ext.refl w).alloc _).alloc _).alloc _).but hbut (by omega)
      have hb2' := hb2.out.but hbut (by omega)
      have q0 := hb2'.cell (i := 0) (v := .pointer (some ⟨w.heap.size + 1, 0, none⟩)) rfl
      clear hbut
      go_wp2
      go_ret2
    · exact ⟨.inl ⟨.inr ⟨by omega, rfl, by omega, HQ.out, hR⟩, _, true, rfl, hcb⟩, hE⟩
    · refine ⟨.inr ⟨fun h => ?_, _, rfl⟩, hE⟩
      rcases h with ⟨h, _⟩ | ⟨_, _, _, _, h⟩
      · omega
      · exact hR h
  · have hqs : (q / 128 == 1) = false := by
      have h1 : ¬ (128 ≤ q ∧ q < 256) := hq
      simp; omega
    have hnf : ¬ fldOK 2 7 q := fun h => by
      rcases h with ⟨h, _⟩ | ⟨_, _, _, h, _⟩
      · omega
      · exact hq h
    have HNF := Lib.hid hnf; clear hnf hq
    go_enter Try.func95, Try.ntmps95
    go_wp2_with (first
      | (go_at_call 84; (with_reducible refine (inRange_c _ _ _ _).mono ?_); rintro e w1 ⟨⟨hP, rfl⟩ | ⟨hP, rfl⟩, rfl⟩ <;> first | (exfalso; omega) | skip))
    go_ret2
    exact ⟨.inr ⟨HNF.out, _, rfl⟩, (by repeat (first | exact Ext.refl _ | assumption | refine Ext.drew ?_ | refine Ext.drewN ?_ _ | refine Ext.iter ?_ _ _ | refine Ext.alloc ?_ _ | refine Ext.setCell ?_ (by first | exact Nat.le_refl _ | (simp <;> omega)) _ | refine Ext.trans2 (by assumption) ?_))⟩
set_option maxRecDepth 100000 in
theorem calcB8_c (q : Int) (w : World) :
    Calls Try.prog 95 #[vFld 2 8 q] w fun e w' => CalcR 2 8 q e w' ∧ Ext w w' := by
  by_cases hq : (2 : Int) ^ 8 ≤ q ∧ q < 2 ^ (8 + 1)
  · have hq1 : 256 ≤ q := hq.1
    have hq2 : q < 512 := hq.2
    have hqs : (q / 256 == 1) = true := by simp; omega
    have HQ := Lib.hid hq
    have hb0 := Blk.new w #[.int .i64 2, .int .i64 8, .int .i64 q] 41
    have hb1 := Blk.new (w.alloc (.cells #[.int .i64 2, .int .i64 8, .int .i64 q] 41)) ((Try.zeroCells190.setIfInBounds 0 (.bool true)).setIfInBounds 1 (.int .i64 256)) 190
    have hb2 := Blk.new ((w.alloc (.cells #[.int .i64 2, .int .i64 8, .int .i64 q] 41)).alloc (.cells ((Try.zeroCells190.setIfInBounds 0 (.bool true)).setIfInBounds 1 (.int .i64 256)) 190)) #[.pointer (some ⟨w.heap.size + 1, 0, none⟩)] 124
    simp only [World.size_alloc] at hb1 hb2
    have hb1' := hb1.alloc (.cells #[.pointer (some ⟨w.heap.size + 1, 0, none⟩)] 124)
    have hcb : CalcB _ _ true (2 ^ 8) := ⟨_, hb1', calcZero2 256⟩
    have hq1 := hb2.cell (i := 0) (v := .pointer (some ⟨w.heap.size + 1, 0, none⟩)) rfl
    have hq2 := ((hb0.alloc (.cells ((Try.zeroCells190.setIfInBounds 0 (.bool true)).setIfInBounds 1 (.int .i64 256)) 190)).alloc (.cells #[.pointer (some ⟨w.heap.size + 1, 0, none⟩)] 124)).cell (i := 2) (v := .int .i64 q) rfl
    have HC := Lib.hid hcb; have HQ1 := Lib.hid hq1; have HQ2 := Lib.hid hq2
    clear hb0 hb1 hb1' hcb hq1 hq2
    replace hb2 := Lib.hid hb2
    go_enter Try.func95, Try.ntmps95
    go_wp2_with (first
      | (go_at_call 84; (with_reducible refine (inRange_c _ _ _ _).mono ?_); rintro e w1 ⟨⟨hP, rfl⟩ | ⟨hP, rfl⟩, rfl⟩ <;> first | (exfalso; omega) | skip))
    refine (fill2_c 8 q 255 _ _ _ _ (by decide) (by omega) HQ.out HC.out HQ1.out HQ2.out (by simp) (by simp; omega)).mono ?_
    rintro e w1 ⟨⟨hR, rfl⟩ | ⟨hR, rfl⟩, hcb, hbut⟩
    all_goals
      have hE : Ext w w1 := ((((Ext.refl w).alloc _).alloc _).alloc _).but hbut (by omega)
      have hb2' := hb2.out.but hbut (by omega)
      have q0 := hb2'.cell (i := 0) (v := .pointer (some ⟨w.heap.size + 1, 0, none⟩)) rfl
      clear hbut
      go_wp2
      go_ret2
    · exact ⟨.inl ⟨.inr ⟨by omega, rfl, by omega, HQ.out, hR⟩, _, true, rfl, hcb⟩, hE⟩
    · refine ⟨.inr ⟨fun h => ?_, _, rfl⟩, hE⟩
      rcases h with ⟨h, _⟩ | ⟨_, _, _, _, h⟩
      · omega
      · exact hR h
  · have hqs : (q / 256 == 1) = false := by
      have h1 : ¬ (256 ≤ q ∧ q < 512) := hq
      simp; omega
    have hnf : ¬ fldOK 2 8 q := fun h => by
      rcases h with ⟨h, _⟩ | ⟨_, _, _, h, _⟩
      · omega
      · exact hq h
    have HNF := Lib.hid hnf; clear hnf hq
    go_enter Try.func95, Try.ntmps95
    go_wp2_with (first
      | (go_at_call 84; (with_reducible refine (inRange_c _ _ _ _).mono ?_); rintro e w1 ⟨⟨hP, rfl⟩ | ⟨hP, rfl⟩, rfl⟩ <;> first | (exfalso; omega) | skip))
    go_ret2
    exact ⟨.inr ⟨HNF.out, _, rfl⟩, (by repeat (first | exact Ext.refl _ | assumption | refine Ext.drew ?_ | refine Ext.drewN ?_ _ | refine Ext.iter ?_ _ _ | refine Ext.alloc ?_ _ | refine Ext.setCell ?_ (by first | exact Nat.le_refl _ | (simp <;> omega)) _ | refine Ext.trans2 (by assumption) ?_))⟩
theorem calc_c (p k q : Int) (w : World) :
    Calls Try.prog 95 #[vFld p k q] w fun e w' => CalcR p k q e w' ∧ Ext w w' := by
  by_cases h1 : k = 1
  · subst h1
    by_cases h2 : (3 ≤ p ∧ p ≤ 1021) ∧ isPr p
    · exact calcP_yes p q w h2.1 h2.2
    · exact calcP_no p q w h2
  · by_cases h2 : p = 2 ∧ (3 ≤ k ∧ k ≤ 8)
    · obtain ⟨rfl, h3⟩ := h2
      have : k = 3 ∨ k = 4 ∨ k = 5 ∨ k = 6 ∨ k = 7 ∨ k = 8 := by omega
      rcases this with rfl | rfl | rfl | rfl | rfl | rfl
      · exact calcB3_c q w
      · exact calcB4_c q w
      · exact calcB5_c q w
      · exact calcB6_c q w
      · exact calcB7_c q w
      · exact calcB8_c q w
    · exact calcB_no p k q w h1 h2
end Go.Proofs.Ytnfbgjgchcgonaa
