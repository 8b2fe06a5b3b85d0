
/- Printing: sizes, pixels, printed rasters. -/
import Derived.Test.YtamgbmoeanmfaaaGrid
import Derived.Test.YtamgbmoeanmfaaaBands
import Derived.Test.YtamgbmoeanmfaaaPrint
import Derived.Test.YtamgbmoeanmfaaaWriteI
import Derived.Test.YtamgbmoeanmfaaaReadSeg2
/-! Printing: sizes, pixels, printed rasters. -/
namespace Go.Proofs.Ytamgbmoeanmfaaa
set_option linter.unusedVariables false
set_option linter.unusedSimpArgs false
open Go.RowKit

def rasOK (h w : Int) : Prop := (1 ≤ h ∧ h ≤ 400) ∧ (1 ≤ w ∧ w ≤ 400) ∧ h * w ≤ 40000
set_option maxRecDepth 100000 in
theorem iRasSize_c (h v : Int) (w : World) :
    Calls Try.prog 88 #[.int .i64 h, .int .i64 v] w fun e w' => isB e (rasOK h v) ∧ w = w' := by
  by_cases h1 : (1 ≤ h ∧ h ≤ 400)
  · by_cases h2 : (1 ≤ v ∧ v ≤ 400)
    · obtain ⟨M, hM⟩ : ∃ M : Int, h * v = M := ⟨_, rfl⟩
      have hMb : 1 ≤ M ∧ M ≤ 160000 := by
        rw [← hM]
        have e1 : 1 * 1 ≤ h * v := Int.mul_le_mul (by omega) (by omega) (by omega) (by omega)
        have e2 : h * v ≤ 400 * 400 := Int.mul_le_mul (by omega) (by omega) (by omega) (by omega)
        omega
      have e1 := IntWalk.i64_in M (by omega)
      have hok : rasOK h v ↔ M ≤ 40000 := ⟨fun h => by rw [← hM]; exact h.2.2, fun h => ⟨h1, h2, by rw [hM]; exact h⟩⟩
      have hok := Lib.hid hok
      by_cases h3 : M ≤ 40000
      · go_enter Try.func88, Try.ntmps88
        go_wp2_with (go_at_call 50; (with_reducible refine (inRange_c _ _ _ _).mono ?_); rintro e w1 ⟨⟨hP, rfl⟩ | ⟨hP, rfl⟩, rfl⟩ <;> first | (exfalso; omega) | skip)
        go_ret
        exact ⟨isB_t (hok.out.2 h3), rfl⟩
      · go_enter Try.func88, Try.ntmps88
        go_wp2_with (go_at_call 50; (with_reducible refine (inRange_c _ _ _ _).mono ?_); rintro e w1 ⟨⟨hP, rfl⟩ | ⟨hP, rfl⟩, rfl⟩ <;> first | (exfalso; omega) | skip)
        go_ret
        exact ⟨isB_m (b := decide (M ≤ 40000)) (by rw [decide_eq_true_iff]; exact hok.out.symm), rfl⟩
    · have hno := Lib.hid (show ¬ rasOK h v from fun h => h2 h.2.1)
      go_enter Try.func88, Try.ntmps88
      go_wp2_with (go_at_call 50; (with_reducible refine (inRange_c _ _ _ _).mono ?_); rintro e w1 ⟨⟨hP, rfl⟩ | ⟨hP, rfl⟩, rfl⟩ <;> first | (exfalso; omega) | skip)
      go_ret
      exact ⟨isB_f hno.out, rfl⟩
  · have hno := Lib.hid (show ¬ rasOK h v from fun h => h1 h.1)
    go_enter Try.func88, Try.ntmps88
    go_wp2_with (go_at_call 50; (with_reducible refine (inRange_c _ _ _ _).mono ?_); rintro e w1 ⟨⟨hP, rfl⟩ | ⟨hP, rfl⟩, rfl⟩ <;> first | (exfalso; omega) | skip)
    go_ret
    exact ⟨isB_f hno.out, rfl⟩
set_option maxRecDepth 100000 in
theorem sRasSize_c (h v : Int) (w : World) :
    Calls Try.prog 86 #[.int .i64 h, .int .i64 v] w fun e w' => isB e (rasOK h v) ∧ w = w' := by
  by_cases h1 : (1 ≤ h ∧ h ≤ 400)
  · by_cases h2 : (1 ≤ v ∧ v ≤ 400)
    · obtain ⟨M, hM⟩ : ∃ M : Int, h * v = M := ⟨_, rfl⟩
      have hMb : 1 ≤ M ∧ M ≤ 160000 := by
        rw [← hM]
        have e1 : 1 * 1 ≤ h * v := Int.mul_le_mul (by omega) (by omega) (by omega) (by omega)
        have e2 : h * v ≤ 400 * 400 := Int.mul_le_mul (by omega) (by omega) (by omega) (by omega)
        omega
      have e1 := IntWalk.i64_in M (by omega)
      have hok : rasOK h v ↔ M ≤ 40000 := ⟨fun h => by rw [← hM]; exact h.2.2, fun h => ⟨h1, h2, by rw [hM]; exact h⟩⟩
      have hok := Lib.hid hok
      by_cases h3 : M ≤ 40000
      · go_enter Try.func86, Try.ntmps86
        go_wp2_with (go_at_call 51; (with_reducible refine (l01In_c _ _ _ _).mono ?_); rintro e w1 ⟨⟨hP, rfl⟩ | ⟨hP, rfl⟩, rfl⟩ <;> first | (exfalso; omega) | skip)
        go_ret
        exact ⟨isB_t (hok.out.2 h3), rfl⟩
      · go_enter Try.func86, Try.ntmps86
        go_wp2_with (go_at_call 51; (with_reducible refine (l01In_c _ _ _ _).mono ?_); rintro e w1 ⟨⟨hP, rfl⟩ | ⟨hP, rfl⟩, rfl⟩ <;> first | (exfalso; omega) | skip)
        go_ret
        exact ⟨isB_m (b := decide (M ≤ 40000)) (by rw [decide_eq_true_iff]; exact hok.out.symm), rfl⟩
    · have hno := Lib.hid (show ¬ rasOK h v from fun h => h2 h.2.1)
      go_enter Try.func86, Try.ntmps86
      go_wp2_with (go_at_call 51; (with_reducible refine (l01In_c _ _ _ _).mono ?_); rintro e w1 ⟨⟨hP, rfl⟩ | ⟨hP, rfl⟩, rfl⟩ <;> first | (exfalso; omega) | skip)
      go_ret
      exact ⟨isB_f hno.out, rfl⟩
  · have hno := Lib.hid (show ¬ rasOK h v from fun h => h1 h.1)
    go_enter Try.func86, Try.ntmps86
    go_wp2_with (go_at_call 51; (with_reducible refine (l01In_c _ _ _ _).mono ?_); rintro e w1 ⟨⟨hP, rfl⟩ | ⟨hP, rfl⟩, rfl⟩ <;> first | (exfalso; omega) | skip)
    go_ret
    exact ⟨isB_f hno.out, rfl⟩
/-- The side of a printed raster. -/
def szF (r q t : Int) : Int := (r + 2 * q) * t
theorem szF_bd {r q t : Int} (h : 1 ≤ r ∧ r ≤ 400) (hq : 0 ≤ q ∧ q ≤ 16) (ht : 1 ≤ t ∧ t ≤ 12) : 1 ≤ szF r q t ∧ szF r q t ≤ 5184 := by
  unfold szF
  have e1 : 1 * 1 ≤ (r + 2 * q) * t := Int.mul_le_mul (by omega) (by omega) (by omega) (by omega)
  have e2 : (r + 2 * q) * t ≤ 432 * 12 := Int.mul_le_mul (by omega) (by omega) (by omega) (by omega)
  omega
abbrev vSize (h v : Int) : Value := .agg #[.int .i64 h, .int .i64 v]
set_option maxRecDepth 100000 in
theorem sizeOf_c (r c p t q b d l : Int) (w : World) (hr : 1 ≤ r ∧ r ≤ 400) (hc : 1 ≤ c ∧ c ≤ 400) (hq : 0 ≤ q ∧ q ≤ 16) (ht : 1 ≤ t ∧ t ≤ 12) (hp : 1 ≤ p ∧ p ≤ 12) :
    Calls Try.prog 42 #[vPrint p t q b d l, .int .i64 r, .int .i64 c] w fun e w' => e = .returned (vSize (szF r q t) (szF c q p)) ∧ Ext w w' := by
  have b1 := szF_bd hr hq ht
  have b2 := szF_bd hc hq hp
  have e1 := IntWalk.i64_in (2 * q) (by omega)
  have e2 := IntWalk.i64_in (r + 2 * q) (by omega)
  have e3 := IntWalk.i64_in (c + 2 * q) (by omega)
  have e4 : IntKind.i64.wrap ((r + 2 * q) * t) = szF r q t := IntWalk.i64_in (szF r q t) (by omega)
  have e5 : IntKind.i64.wrap ((c + 2 * q) * p) = szF c q p := IntWalk.i64_in (szF c q p) (by omega)
  generalize szF r q t = H at *
  generalize szF c q p = V at *
  go_enter Try.func42, Try.ntmps42
  go_wp2
  exact bodyPost_ret (v := vSize H V) (by simp [results, Try.results42, go_sem]) rfl ⟨rfl, (by repeat (first | exact Ext.refl _ | assumption | refine Ext.drew ?_ | refine Ext.drewN ?_ _ | refine Ext.iter ?_ _ _ | refine Ext.alloc ?_ _ | refine Ext.setCell ?_ (by first | exact Nat.le_refl _ | (simp <;> omega)) _ | refine Ext.trans2 (by assumption) ?_))⟩
set_option maxRecDepth 100000 in
theorem fits_c (h v : Int) (w : World) :
    Calls Try.prog 53 #[vSize h v] w fun e w' => isB e (rasOK h v) ∧ Ext w w' := by
  go_enter Try.func53, Try.ntmps53
  go_wp2_with (go_at_call 88; (with_reducible refine (iRasSize_c _ _ _).mono ?_); rintro e w1 ⟨⟨hP, rfl⟩ | ⟨hP, rfl⟩, rfl⟩)
  · go_ret
    exact ⟨isB_t hP, (by repeat (first | exact Ext.refl _ | assumption | refine Ext.drew ?_ | refine Ext.drewN ?_ _ | refine Ext.iter ?_ _ _ | refine Ext.alloc ?_ _ | refine Ext.setCell ?_ (by first | exact Nat.le_refl _ | (simp <;> omega)) _ | refine Ext.trans2 (by assumption) ?_))⟩
  · go_ret
    exact ⟨isB_f hP, (by repeat (first | exact Ext.refl _ | assumption | refine Ext.drew ?_ | refine Ext.drewN ?_ _ | refine Ext.iter ?_ _ _ | refine Ext.alloc ?_ _ | refine Ext.setCell ?_ (by first | exact Nat.le_refl _ | (simp <;> omega)) _ | refine Ext.trans2 (by assumption) ?_))⟩
def psIn (r c : Int) : Prop := (1 ≤ r ∧ r ≤ 400) ∧ (1 ≤ c ∧ c ≤ 400)
open Classical in
/-- The rows, the columns and the code of a printed raster. -/
noncomputable def psR (r c p t q b d l : Int) : Int × Int × Int :=
  if ¬ IsPrint p t q b d l then (0, 0, 1) else if ¬ psIn r c then (0, 0, 2) else if ¬ rasOK (szF r q t) (szF c q p) then (0, 0, 3) else (szF r q t, szF c q p, 0)
set_option maxHeartbeats 400000 in
set_option maxRecDepth 100000 in
theorem iPrintSize_c (r c p t q b d l : Int) (w : World) :
    Calls Try.prog 14 #[.int .i64 r, .int .i64 c, vPrint p t q b d l] w fun e w' => e = .returned (.tuple #[.int .i64 (psR r c p t q b d l).1, .int .i64 (psR r c p t q b d l).2.1, .int .i64 (psR r c p t q b d l).2.2]) ∧ Ext w w' := by
  have hB := Blk.new w #[.int .i64 p, .int .i64 t, .int .i64 q, .int .i64 b, .int .i64 d, .int .i64 l] 28
  have hx0 : Ext w (w.alloc (.cells #[.int .i64 p, .int .i64 t, .int .i64 q, .int .i64 b, .int .i64 d, .int .i64 l] 28)) := (Ext.refl w).alloc _
  by_cases h1 : IsPrint p t q b d l
  · by_cases h2 : psIn r c
    · have hso := Lib.hid (fun W => sizeOf_c r c p t q b d l W h2.1 h2.2 h1.2.2.1 h1.2.1 h1.1)
      by_cases h3 : rasOK (szF r q t) (szF c q p)
      · have hv : psR r c p t q b d l = (szF r q t, szF c q p, 0) := by unfold psR; rw [if_neg (not_not_intro h1), if_neg (not_not_intro h2), if_neg (not_not_intro h3)]
        rw [hv]; clear hv
        generalize szF r q t = H at *
        generalize szF c q p = V at *
        replace h1 := Lib.hid h1; replace h3 := Lib.hid h3; obtain ⟨h2a, h2b⟩ := h2
        go_enter Try.func14, Try.ntmps14
        go_wp2_with (first | (go_at_call 12; (with_reducible refine (iIsPrint_c p t q b d l _).mono ?_); rintro e w1 ⟨⟨hP, rfl⟩ | ⟨hP, rfl⟩, hx1⟩ <;> (first | exact absurd h1.out hP | exact absurd hP h1.out | skip); have hB1 := hB.ext hx1; have f0 := hB1.cell (i := 0) (v := .int .i64 p) rfl; have f1 := hB1.cell (i := 1) (v := .int .i64 t) rfl; have f2 := hB1.cell (i := 2) (v := .int .i64 q) rfl; have f3 := hB1.cell (i := 3) (v := .int .i64 b) rfl; have f4 := hB1.cell (i := 4) (v := .int .i64 d) rfl; have f5 := hB1.cell (i := 5) (v := .int .i64 l) rfl; clear hP) | (go_at_call 50; (with_reducible refine (inRange_c _ _ _ _).mono ?_); rintro e w1 ⟨⟨hP, rfl⟩ | ⟨hP, rfl⟩, rfl⟩ <;> first | (exfalso; omega) | skip) | (go_at_call 42; (with_reducible refine (hso.out _).mono ?_); rintro e w2 ⟨rfl, hx2⟩) | (go_at_call 53; (with_reducible refine (fits_c _ _ _).mono ?_); rintro e w3 ⟨⟨hP, rfl⟩ | ⟨hP, rfl⟩, hx3⟩ <;> (first | exact absurd h3.out hP | exact absurd hP h3.out | skip); have hS3 := (Blk.new w2 #[.int .i64 H, .int .i64 V] 69).ext hx3; have s0 := hS3.cell (i := 0) (v := .int .i64 H) rfl; have s1 := hS3.cell (i := 1) (v := .int .i64 V) rfl; have sl := hS3.lt; clear hP))
        go_quiet (fail)
        go_wp2
        (refine bodyPost_ret (v := .tuple #[.int .i64 H, .int .i64 V, .int .i64 0]) (by simp [results, Try.results14, go_sem]) rfl ⟨rfl, ?_⟩; exact ((((hx0.trans hx1).trans hx2).alloc _).trans hx3).drewN _)
      · have hv : psR r c p t q b d l = (0, 0, 3) := by unfold psR; rw [if_neg (not_not_intro h1), if_neg (not_not_intro h2), if_pos h3]
        rw [hv]; clear hv
        generalize szF r q t = H at *
        generalize szF c q p = V at *
        replace h1 := Lib.hid h1; replace h3 := Lib.hid h3; obtain ⟨h2a, h2b⟩ := h2
        go_enter Try.func14, Try.ntmps14
        go_wp2_with (first | (go_at_call 12; (with_reducible refine (iIsPrint_c p t q b d l _).mono ?_); rintro e w1 ⟨⟨hP, rfl⟩ | ⟨hP, rfl⟩, hx1⟩ <;> (first | exact absurd h1.out hP | exact absurd hP h1.out | skip); have hB1 := hB.ext hx1; have f0 := hB1.cell (i := 0) (v := .int .i64 p) rfl; have f1 := hB1.cell (i := 1) (v := .int .i64 t) rfl; have f2 := hB1.cell (i := 2) (v := .int .i64 q) rfl; have f3 := hB1.cell (i := 3) (v := .int .i64 b) rfl; have f4 := hB1.cell (i := 4) (v := .int .i64 d) rfl; have f5 := hB1.cell (i := 5) (v := .int .i64 l) rfl; clear hP) | (go_at_call 50; (with_reducible refine (inRange_c _ _ _ _).mono ?_); rintro e w1 ⟨⟨hP, rfl⟩ | ⟨hP, rfl⟩, rfl⟩ <;> first | (exfalso; omega) | skip) | (go_at_call 42; (with_reducible refine (hso.out _).mono ?_); rintro e w2 ⟨rfl, hx2⟩) | (go_at_call 53; (with_reducible refine (fits_c _ _ _).mono ?_); rintro e w3 ⟨⟨hP, rfl⟩ | ⟨hP, rfl⟩, hx3⟩ <;> (first | exact absurd h3.out hP | exact absurd hP h3.out | skip); have hS3 := (Blk.new w2 #[.int .i64 H, .int .i64 V] 69).ext hx3; have s0 := hS3.cell (i := 0) (v := .int .i64 H) rfl; have s1 := hS3.cell (i := 1) (v := .int .i64 V) rfl; have sl := hS3.lt; clear hP))
        (refine bodyPost_ret (v := .tuple #[.int .i64 0, .int .i64 0, .int .i64 3]) (by simp [results, Try.results14, go_sem]) rfl ⟨rfl, ?_⟩; exact (((hx0.trans hx1).trans hx2).alloc _).trans hx3)
    · have hv : psR r c p t q b d l = (0, 0, 2) := by unfold psR; rw [if_neg (not_not_intro h1), if_pos h2]
      rw [hv]; clear hv
      replace h1 := Lib.hid h1; unfold psIn at h2
      by_cases h4 : 1 ≤ r ∧ r ≤ 400
      all_goals
        go_enter Try.func14, Try.ntmps14
        go_wp2_with (first | (go_at_call 12; (with_reducible refine (iIsPrint_c p t q b d l _).mono ?_); rintro e w1 ⟨⟨hP, rfl⟩ | ⟨hP, rfl⟩, hx1⟩ <;> (first | exact absurd h1.out hP | exact absurd hP h1.out | skip); have hB1 := hB.ext hx1; have f0 := hB1.cell (i := 0) (v := .int .i64 p) rfl; have f1 := hB1.cell (i := 1) (v := .int .i64 t) rfl; have f2 := hB1.cell (i := 2) (v := .int .i64 q) rfl; have f3 := hB1.cell (i := 3) (v := .int .i64 b) rfl; have f4 := hB1.cell (i := 4) (v := .int .i64 d) rfl; have f5 := hB1.cell (i := 5) (v := .int .i64 l) rfl; clear hP) | (go_at_call 50; (with_reducible refine (inRange_c _ _ _ _).mono ?_); rintro e w1 ⟨⟨hP, rfl⟩ | ⟨hP, rfl⟩, rfl⟩ <;> first | (exfalso; omega) | skip) | (go_at_call 42; (with_reducible refine (hso.out _).mono ?_); rintro e w2 ⟨rfl, hx2⟩) | (go_at_call 53; (with_reducible refine (fits_c _ _ _).mono ?_); rintro e w3 ⟨⟨hP, rfl⟩ | ⟨hP, rfl⟩, hx3⟩ <;> (first | exact absurd h3.out hP | exact absurd hP h3.out | skip); have hS3 := (Blk.new w2 #[.int .i64 H, .int .i64 V] 69).ext hx3; have s0 := hS3.cell (i := 0) (v := .int .i64 H) rfl; have s1 := hS3.cell (i := 1) (v := .int .i64 V) rfl; have sl := hS3.lt; clear hP))
        (refine bodyPost_ret (v := .tuple #[.int .i64 0, .int .i64 0, .int .i64 2]) (by simp [results, Try.results14, go_sem]) rfl ⟨rfl, ?_⟩; exact hx0.trans hx1)
  · have hv : psR r c p t q b d l = (0, 0, 1) := by unfold psR; rw [if_pos h1]
    rw [hv]; clear hv
    replace h1 := Lib.hid h1
    go_enter Try.func14, Try.ntmps14
    go_wp2_with (first | (go_at_call 12; (with_reducible refine (iIsPrint_c p t q b d l _).mono ?_); rintro e w1 ⟨⟨hP, rfl⟩ | ⟨hP, rfl⟩, hx1⟩ <;> (first | exact absurd h1.out hP | exact absurd hP h1.out | skip); have hB1 := hB.ext hx1; have f0 := hB1.cell (i := 0) (v := .int .i64 p) rfl; have f1 := hB1.cell (i := 1) (v := .int .i64 t) rfl; have f2 := hB1.cell (i := 2) (v := .int .i64 q) rfl; have f3 := hB1.cell (i := 3) (v := .int .i64 b) rfl; have f4 := hB1.cell (i := 4) (v := .int .i64 d) rfl; have f5 := hB1.cell (i := 5) (v := .int .i64 l) rfl; clear hP) | (go_at_call 50; (with_reducible refine (inRange_c _ _ _ _).mono ?_); rintro e w1 ⟨⟨hP, rfl⟩ | ⟨hP, rfl⟩, rfl⟩ <;> first | (exfalso; omega) | skip) | (go_at_call 42; (with_reducible refine (hso.out _).mono ?_); rintro e w2 ⟨rfl, hx2⟩) | (go_at_call 53; (with_reducible refine (fits_c _ _ _).mono ?_); rintro e w3 ⟨⟨hP, rfl⟩ | ⟨hP, rfl⟩, hx3⟩ <;> (first | exact absurd h3.out hP | exact absurd hP h3.out | skip); have hS3 := (Blk.new w2 #[.int .i64 H, .int .i64 V] 69).ext hx3; have s0 := hS3.cell (i := 0) (v := .int .i64 H) rfl; have s1 := hS3.cell (i := 1) (v := .int .i64 V) rfl; have sl := hS3.lt; clear hP))
    (refine bodyPost_ret (v := .tuple #[.int .i64 0, .int .i64 0, .int .i64 1]) (by simp [results, Try.results14, go_sem]) rfl ⟨rfl, ?_⟩; exact hx0.trans hx1)
set_option maxHeartbeats 400000 in
set_option maxRecDepth 100000 in
theorem sPrintSize_c (r c p t q b d l : Int) (w : World) :
    Calls Try.prog 47 #[.int .i64 r, .int .i64 c, vPrint p t q b d l] w fun e w' => e = .returned (.tuple #[.int .i64 (psR r c p t q b d l).1, .int .i64 (psR r c p t q b d l).2.1, .int .i64 (psR r c p t q b d l).2.2]) ∧ Ext w w' := by
  have hB := Blk.new w #[.int .i64 p, .int .i64 t, .int .i64 q, .int .i64 b, .int .i64 d, .int .i64 l] 28
  have hx0 : Ext w (w.alloc (.cells #[.int .i64 p, .int .i64 t, .int .i64 q, .int .i64 b, .int .i64 d, .int .i64 l] 28)) := (Ext.refl w).alloc _
  by_cases h1 : IsPrint p t q b d l
  · by_cases h2 : psIn r c
    · have b1 := szF_bd h2.1 h1.2.2.1 h1.2.1
      have b2 := szF_bd h2.2 h1.2.2.1 h1.1
      have hq := h1.2.2.1
      have e1 := IntWalk.i64_in (2 * q) (by omega)
      have e2 := IntWalk.i64_in (r + 2 * q) (by have := h2.1; omega)
      have e3 := IntWalk.i64_in (c + 2 * q) (by have := h2.2; omega)
      have e4 : IntKind.i64.wrap ((r + 2 * q) * t) = szF r q t := IntWalk.i64_in (szF r q t) (by omega)
      have e5 : IntKind.i64.wrap ((c + 2 * q) * p) = szF c q p := IntWalk.i64_in (szF c q p) (by omega)
      clear hq
      by_cases h3 : rasOK (szF r q t) (szF c q p)
      · have hv : psR r c p t q b d l = (szF r q t, szF c q p, 0) := by unfold psR; rw [if_neg (not_not_intro h1), if_neg (not_not_intro h2), if_neg (not_not_intro h3)]
        rw [hv]; clear hv
        generalize szF r q t = H at *
        generalize szF c q p = V at *
        replace h1 := Lib.hid h1; replace h3 := Lib.hid h3; obtain ⟨h2a, h2b⟩ := h2
        go_enter Try.func47, Try.ntmps47
        go_wp2_with (first | (go_at_call 13; (with_reducible refine (sIsPrint_c p t q b d l _).mono ?_); rintro e w1 ⟨⟨hP, rfl⟩ | ⟨hP, rfl⟩, hx1⟩ <;> (first | exact absurd h1.out hP | exact absurd hP h1.out | skip); have hB1 := hB.ext hx1; have f0 := hB1.cell (i := 0) (v := .int .i64 p) rfl; have f1 := hB1.cell (i := 1) (v := .int .i64 t) rfl; have f2 := hB1.cell (i := 2) (v := .int .i64 q) rfl; have f3 := hB1.cell (i := 3) (v := .int .i64 b) rfl; have f4 := hB1.cell (i := 4) (v := .int .i64 d) rfl; have f5 := hB1.cell (i := 5) (v := .int .i64 l) rfl; clear hP) | (go_at_call 51; (with_reducible refine (l01In_c _ _ _ _).mono ?_); rintro e w1 ⟨⟨hP, rfl⟩ | ⟨hP, rfl⟩, rfl⟩ <;> first | (exfalso; omega) | skip))
        go_quiet (fail)
        go_wp2_with (go_at_call 86; (with_reducible refine (sRasSize_c _ _ _).mono ?_); rintro e w3 ⟨⟨hP, rfl⟩ | ⟨hP, rfl⟩, rfl⟩ <;> (first | exact absurd h3.out hP | exact absurd hP h3.out | skip); clear hP)
        (refine bodyPost_ret (v := .tuple #[.int .i64 H, .int .i64 V, .int .i64 0]) (by simp [results, Try.results47, go_sem]) rfl ⟨rfl, ?_⟩; exact (hx0.trans hx1).drewN _)
      · have hv : psR r c p t q b d l = (0, 0, 3) := by unfold psR; rw [if_neg (not_not_intro h1), if_neg (not_not_intro h2), if_pos h3]
        rw [hv]; clear hv
        generalize szF r q t = H at *
        generalize szF c q p = V at *
        replace h1 := Lib.hid h1; replace h3 := Lib.hid h3; obtain ⟨h2a, h2b⟩ := h2
        go_enter Try.func47, Try.ntmps47
        go_wp2_with (first | (go_at_call 13; (with_reducible refine (sIsPrint_c p t q b d l _).mono ?_); rintro e w1 ⟨⟨hP, rfl⟩ | ⟨hP, rfl⟩, hx1⟩ <;> (first | exact absurd h1.out hP | exact absurd hP h1.out | skip); have hB1 := hB.ext hx1; have f0 := hB1.cell (i := 0) (v := .int .i64 p) rfl; have f1 := hB1.cell (i := 1) (v := .int .i64 t) rfl; have f2 := hB1.cell (i := 2) (v := .int .i64 q) rfl; have f3 := hB1.cell (i := 3) (v := .int .i64 b) rfl; have f4 := hB1.cell (i := 4) (v := .int .i64 d) rfl; have f5 := hB1.cell (i := 5) (v := .int .i64 l) rfl; clear hP) | (go_at_call 51; (with_reducible refine (l01In_c _ _ _ _).mono ?_); rintro e w1 ⟨⟨hP, rfl⟩ | ⟨hP, rfl⟩, rfl⟩ <;> first | (exfalso; omega) | skip))
        go_quiet (fail)
        go_wp2_with (go_at_call 86; (with_reducible refine (sRasSize_c _ _ _).mono ?_); rintro e w3 ⟨⟨hP, rfl⟩ | ⟨hP, rfl⟩, rfl⟩ <;> (first | exact absurd h3.out hP | exact absurd hP h3.out | skip); clear hP)
        (refine bodyPost_ret (v := .tuple #[.int .i64 0, .int .i64 0, .int .i64 3]) (by simp [results, Try.results47, go_sem]) rfl ⟨rfl, ?_⟩; exact (hx0.trans hx1).drewN _)
    · have hv : psR r c p t q b d l = (0, 0, 2) := by unfold psR; rw [if_neg (not_not_intro h1), if_pos h2]
      rw [hv]; clear hv
      replace h1 := Lib.hid h1; unfold psIn at h2
      by_cases h4 : 1 ≤ r ∧ r ≤ 400
      all_goals
        go_enter Try.func47, Try.ntmps47
        go_wp2_with (first | (go_at_call 13; (with_reducible refine (sIsPrint_c p t q b d l _).mono ?_); rintro e w1 ⟨⟨hP, rfl⟩ | ⟨hP, rfl⟩, hx1⟩ <;> (first | exact absurd h1.out hP | exact absurd hP h1.out | skip); have hB1 := hB.ext hx1; have f0 := hB1.cell (i := 0) (v := .int .i64 p) rfl; have f1 := hB1.cell (i := 1) (v := .int .i64 t) rfl; have f2 := hB1.cell (i := 2) (v := .int .i64 q) rfl; have f3 := hB1.cell (i := 3) (v := .int .i64 b) rfl; have f4 := hB1.cell (i := 4) (v := .int .i64 d) rfl; have f5 := hB1.cell (i := 5) (v := .int .i64 l) rfl; clear hP) | (go_at_call 51; (with_reducible refine (l01In_c _ _ _ _).mono ?_); rintro e w1 ⟨⟨hP, rfl⟩ | ⟨hP, rfl⟩, rfl⟩ <;> first | (exfalso; omega) | skip))
        (refine bodyPost_ret (v := .tuple #[.int .i64 0, .int .i64 0, .int .i64 2]) (by simp [results, Try.results47, go_sem]) rfl ⟨rfl, ?_⟩; exact hx0.trans hx1)
  · have hv : psR r c p t q b d l = (0, 0, 1) := by unfold psR; rw [if_pos h1]
    rw [hv]; clear hv
    replace h1 := Lib.hid h1
    go_enter Try.func47, Try.ntmps47
    go_wp2_with (first | (go_at_call 13; (with_reducible refine (sIsPrint_c p t q b d l _).mono ?_); rintro e w1 ⟨⟨hP, rfl⟩ | ⟨hP, rfl⟩, hx1⟩ <;> (first | exact absurd h1.out hP | exact absurd hP h1.out | skip); have hB1 := hB.ext hx1; have f0 := hB1.cell (i := 0) (v := .int .i64 p) rfl; have f1 := hB1.cell (i := 1) (v := .int .i64 t) rfl; have f2 := hB1.cell (i := 2) (v := .int .i64 q) rfl; have f3 := hB1.cell (i := 3) (v := .int .i64 b) rfl; have f4 := hB1.cell (i := 4) (v := .int .i64 d) rfl; have f5 := hB1.cell (i := 5) (v := .int .i64 l) rfl; clear hP) | (go_at_call 51; (with_reducible refine (l01In_c _ _ _ _).mono ?_); rintro e w1 ⟨⟨hP, rfl⟩ | ⟨hP, rfl⟩, rfl⟩ <;> first | (exfalso; omega) | skip))
    (refine bodyPost_ret (v := .tuple #[.int .i64 0, .int .i64 0, .int .i64 1]) (by simp [results, Try.results47, go_sem]) rfl ⟨rfl, ?_⟩; exact hx0.trans hx1)
end Go.Proofs.Ytamgbmoeanmfaaa

/-! The pixels of a printed grid. -/
namespace Go.Proofs.Ytamgbmoeanmfaaa
set_option linter.unusedVariables false
set_option linter.unusedSimpArgs false
open Go.RowKit

/-- Module (r, c) of a grid is dark. -/
def dkP (R C : Nat) (xs : List Int) (r c : Int) : Prop := (0 ≤ r ∧ r < R) ∧ (0 ≤ c ∧ c < C) ∧ xs.getD (r * C + c).toNat 0 = 1
abbrev vPlace (r c : Int) : Value := .agg #[.int .i64 r, .int .i64 c]
set_option maxRecDepth 100000 in
theorem has_c (R C : Nat) (p : Option Addr) (n k : Nat) (r c : Int) (w : World) (hR : R ≤ 40000) (hC : C ≤ 40000) :
    Calls Try.prog 107 #[vGrid R C p n k, vPlace r c] w fun e w' => isB e ((0 ≤ r ∧ r < R) ∧ (0 ≤ c ∧ c < C)) ∧ Ext w w' := by
  have e1 := IntWalk.i64_in ((R : Int) - 1) (by omega)
  have e2 := IntWalk.i64_in ((C : Int) - 1) (by omega)
  go_enter Try.func107, Try.ntmps107
  go_wp2_with (go_at_call 50; (with_reducible refine (inRange_c _ _ _ _).mono ?_); rintro e w1 ⟨⟨hP, rfl⟩ | ⟨hP, rfl⟩, rfl⟩)
  all_goals
    go_ret
    refine ⟨?_, (by repeat (first | exact Ext.refl _ | assumption | refine Ext.drew ?_ | refine Ext.drewN ?_ _ | refine Ext.iter ?_ _ _ | refine Ext.alloc ?_ _ | refine Ext.setCell ?_ (by first | exact Nat.le_refl _ | (simp <;> omega)) _ | refine Ext.trans2 (by assumption) ?_))⟩
    first
      | exact isB_t (by omega)
      | exact isB_f (by omega)
set_option maxRecDepth 100000 in
theorem at_c (R C : Nat) (p : Option Addr) (k : Nat) (xs : List Int) (i j : Nat) (w : World) (hx : IntsAt w p xs) (hl : xs.length = R * C) (h4 : R * C ≤ 40000) (hi : i < R) (hj : j < C) :
    Calls Try.prog 99 #[vGrid R C p xs.length k, vPlace i j] w fun e w' => e = .returned (.int .i64 (xs.getD (i * C + j) 0)) ∧ Ext w w' := by
  have hK : i * C + j < xs.length := by
    have : (i + 1) * C ≤ R * C := Nat.mul_le_mul_right _ hi
    rw [Nat.add_mul, Nat.one_mul] at this
    omega
  obtain ⟨b, o, rfl, hbl, z1⟩ := hx _ hK
  obtain ⟨K, hKe⟩ : ∃ K : Nat, i * C + j = K := ⟨_, rfl⟩
  obtain ⟨M, hM⟩ : ∃ M : Nat, i * C = M := ⟨_, rfl⟩
  rw [hKe] at hK z1 ⊢
  have e1 : (i : Int) * (C : Int) = (M : Int) := by rw [← hM]; simp
  have e2 := IntWalk.i64_in (M : Int) (by omega)
  have e3 : IntKind.i64.wrap ((M : Int) + (j : Int)) = (K : Int) := by rw [show (M : Int) + (j : Int) = (K : Int) by omega]; exact IntWalk.i64_in _ (by omega)
  replace hKe := Lib.hid hKe
  replace hM := Lib.hid hM
  replace hl := Lib.hid hl
  generalize xs.getD K 0 = x at *
  clear hx
  go_enter Try.func99, Try.ntmps99
  go_wp2
  go_ret
  exact ⟨rfl, (by repeat (first | exact Ext.refl _ | assumption | refine Ext.drew ?_ | refine Ext.drewN ?_ _ | refine Ext.iter ?_ _ _ | refine Ext.alloc ?_ _ | refine Ext.setCell ?_ (by first | exact Nat.le_refl _ | (simp <;> omega)) _ | refine Ext.trans2 (by assumption) ?_))⟩
theorem dk_nat {R C : Nat} {xs : List Int} {r c : Int} (h1 : 0 ≤ r ∧ r < R) (h2 : 0 ≤ c ∧ c < C) : ∃ i j : Nat, r = i ∧ c = j ∧ i < R ∧ j < C ∧ (dkP R C xs r c ↔ xs.getD (i * C + j) 0 = 1) := by
  refine ⟨r.toNat, c.toNat, by omega, by omega, by omega, by omega, ?_⟩
  have e : (r * C + c).toNat = r.toNat * C + c.toNat := by
    have : r * C = ((r.toNat * C : Nat) : Int) := by rw [Int.natCast_mul, Int.toNat_of_nonneg h1.1]
    omega
  unfold dkP
  rw [e]
  exact ⟨fun h => h.2.2, fun h => ⟨h1, h2, h⟩⟩
abbrev vPress (h v p t q b d l : Int) (R C : Int) (a : Option Addr) (n k : Nat) : Value := .agg #[.int .i64 h, .int .i64 v, .int .i64 p, .int .i64 t, .int .i64 q, .int .i64 b, .int .i64 d, .int .i64 l, .int .i64 R, .int .i64 C, .slice a n k]
set_option maxRecDepth 100000 in
theorem iDark_c (h v p t q b d l : Int) (R C : Nat) (a : Option Addr) (k : Nat) (xs : List Int) (r c : Int) (w : World) (hx : IntsAt w a xs) (hl : xs.length = R * C) (h4 : R * C ≤ 40000) (hR : 1 ≤ R ∧ R ≤ 40000) (hC : 1 ≤ C ∧ C ≤ 40000) :
    Calls Try.prog 84 #[vPress h v p t q b d l R C a xs.length k, .int .i64 r, .int .i64 c] w fun e w' => isB e (dkP R C xs r c) ∧ Ext w w' := by
  have HX := Lib.hid hx; clear hx
  have hb := (Blk.new w #[.int .i64 h, .int .i64 v, .int .i64 p, .int .i64 t, .int .i64 q, .int .i64 b, .int .i64 d, .int .i64 l, .int .i64 R, .int .i64 C, .slice a xs.length k] 72).alloc (.cells #[.int .i64 r, .int .i64 c] 54)
  have hp := Blk.new (w.alloc (.cells #[.int .i64 h, .int .i64 v, .int .i64 p, .int .i64 t, .int .i64 q, .int .i64 b, .int .i64 d, .int .i64 l, .int .i64 R, .int .i64 C, .slice a xs.length k] 72)) #[.int .i64 r, .int .i64 c] 54
  have hx0 : Ext w ((w.alloc (.cells #[.int .i64 h, .int .i64 v, .int .i64 p, .int .i64 t, .int .i64 q, .int .i64 b, .int .i64 d, .int .i64 l, .int .i64 R, .int .i64 C, .slice a xs.length k] 72)).alloc (.cells #[.int .i64 r, .int .i64 c] 54)) := ((Ext.refl w).alloc _).alloc _
  simp only [World.size_alloc] at hp
  replace hl := Lib.hid hl
  have hhs := Lib.hid (fun W => has_c R C a xs.length k r c W hR.2 hC.2)
  by_cases hin : (0 ≤ r ∧ r < R) ∧ (0 ≤ c ∧ c < C)
  · obtain ⟨i, j, rfl, rfl, hi, hj, hdk⟩ := dk_nat (xs := xs) hin.1 hin.2
    have hat := Lib.hid (fun W (h : IntsAt W a xs) => at_c R C a k xs i j W h hl.out h4 hi hj)
    generalize xs.getD (i * C + j) 0 = x at *
    replace hdk := Lib.hid hdk
    replace hin := Lib.hid hin
    go_enter Try.func84, Try.ntmps84
    go_wp2_with (first
      | (go_at_call 107; (with_reducible refine (hhs.out _).mono ?_); rintro e w1 ⟨⟨hP, rfl⟩ | ⟨hP, rfl⟩, hx1⟩ <;> (first | exact absurd hin.out hP | skip); have hb1 := hb.ext hx1; have hp1 := hp.ext hx1; have f8 := hb1.cell (i := 8) (v := .int .i64 R) rfl; have f9 := hb1.cell (i := 9) (v := .int .i64 C) rfl; have f10 := hb1.cell (i := 10) (v := .slice a xs.length k) rfl; have g0 := hp1.cell (i := 0) (v := .int .i64 i) rfl; have g1 := hp1.cell (i := 1) (v := .int .i64 j) rfl; clear hP)
      | (go_at_call 99; (with_reducible refine (hat.out _ (HX.out.ext (hx0.trans hx1))).mono ?_); rintro e w2 ⟨rfl, hx2⟩))
    go_ret
    exact ⟨isB_m (by simpa using hdk.out.symm), (hx0.trans hx1).trans hx2⟩
  · have hno := Lib.hid (show ¬ dkP R C xs r c from fun h => hin ⟨h.1, h.2.1⟩)
    replace hin := Lib.hid hin
    go_enter Try.func84, Try.ntmps84
    go_wp2_with (go_at_call 107; (with_reducible refine (hhs.out _).mono ?_); rintro e w1 ⟨⟨hP, rfl⟩ | ⟨hP, rfl⟩, hx1⟩ <;> (first | exact absurd hP hin.out | skip))
    go_ret
    exact ⟨isB_f hno.out, hx0.trans hx1⟩
set_option maxRecDepth 100000 in
theorem sDark_c (R C : Nat) (a : Option Addr) (k : Nat) (xs : List Int) (r c : Int) (w : World) (hx : IntsAt w a xs) (hl : xs.length = R * C) (h4 : R * C ≤ 40000) (hR : 1 ≤ R ∧ R ≤ 40000) (hC : 1 ≤ C ∧ C ≤ 40000) :
    Calls Try.prog 87 #[vGrid R C a xs.length k, .int .i64 r, .int .i64 c] w fun e w' => isB e (dkP R C xs r c) ∧ Ext w w' := by
  have hx0 : Ext w (w.alloc (.cells #[.int .i64 R, .int .i64 C, .slice a xs.length k] 26)) := (Ext.refl w).alloc _
  have e1 := IntWalk.i64_in ((R : Int) - 1) (by omega)
  have e2 := IntWalk.i64_in ((C : Int) - 1) (by omega)
  by_cases hin : (0 ≤ r ∧ r < R) ∧ (0 ≤ c ∧ c < C)
  · obtain ⟨i, j, rfl, rfl, hi, hj, hdk⟩ := dk_nat (xs := xs) hin.1 hin.2
    have hK : i * C + j < xs.length := by
      have : (i + 1) * C ≤ R * C := Nat.mul_le_mul_right _ hi
      rw [Nat.add_mul, Nat.one_mul] at this
      omega
    obtain ⟨ba, o, rfl, hbl, z1⟩ := (hx.ext hx0) _ hK
    obtain ⟨K, hKe⟩ : ∃ K : Nat, i * C + j = K := ⟨_, rfl⟩
    obtain ⟨M, hM⟩ : ∃ M : Nat, i * C = M := ⟨_, rfl⟩
    rw [hKe] at hK z1 hdk
    have e4 : (i : Int) * (C : Int) = (M : Int) := by rw [← hM]; simp
    have e5 := IntWalk.i64_in (M : Int) (by omega)
    have e6 : IntKind.i64.wrap ((M : Int) + (j : Int)) = (K : Int) := by rw [show (M : Int) + (j : Int) = (K : Int) by omega]; exact IntWalk.i64_in _ (by omega)
    replace hKe := Lib.hid hKe
    replace hM := Lib.hid hM
    replace hl := Lib.hid hl
    generalize xs.getD K 0 = x at *
    replace hdk := Lib.hid hdk
    clear hx
    go_enter Try.func87, Try.ntmps87
    go_wp2_with (go_at_call 51; (with_reducible refine (l01In_c _ _ _ _).mono ?_); rintro e w1 ⟨⟨hP, rfl⟩ | ⟨hP, rfl⟩, rfl⟩ <;> first | (exfalso; omega) | skip)
    go_ret
    exact ⟨isB_m (by simpa using hdk.out.symm), (by repeat (first | exact Ext.refl _ | assumption | refine Ext.drew ?_ | refine Ext.drewN ?_ _ | refine Ext.iter ?_ _ _ | refine Ext.alloc ?_ _ | refine Ext.setCell ?_ (by first | exact Nat.le_refl _ | (simp <;> omega)) _ | refine Ext.trans2 (by assumption) ?_))⟩
  · have hno := Lib.hid (show ¬ dkP R C xs r c from fun h => hin ⟨h.1, h.2.1⟩)
    clear hx
    replace hl := Lib.hid hl
    have hq : (0 ≤ r ∧ r < R) ∨ ¬ (0 ≤ r ∧ r < R) := by omega
    rcases hq with hq | hq
    all_goals
      go_enter Try.func87, Try.ntmps87
      go_wp2_with (go_at_call 51; (with_reducible refine (l01In_c _ _ _ _).mono ?_); rintro e w1 ⟨⟨hP, rfl⟩ | ⟨hP, rfl⟩, rfl⟩ <;> first | (exfalso; omega) | skip)
      go_ret
      exact ⟨isB_f hno.out, (by repeat (first | exact Ext.refl _ | assumption | refine Ext.drew ?_ | refine Ext.drewN ?_ _ | refine Ext.iter ?_ _ _ | refine Ext.alloc ?_ _ | refine Ext.setCell ?_ (by first | exact Nat.le_refl _ | (simp <;> omega)) _ | refine Ext.trans2 (by assumption) ?_))⟩
/-! The pixels. -/
/-- Pixel (y, x) of a printed grid is dark. -/
def dpP (p t q b : Int) (R C : Nat) (xs : List Int) (y x : Int) : Prop :=
  (dkP R C xs (y / t - q) (x / p - q) ∧ ¬ (p + b ≤ x % p ∧ ¬ dkP R C xs (y / t - q) (x / p - q + 1))) ∨ (¬ dkP R C xs (y / t - q) (x / p - q) ∧ x % p < b ∧ dkP R C xs (y / t - q) (x / p - q - 1))
open Classical in
/-- The grey value of a pixel. -/
noncomputable def pxV (p t q b d l : Int) (R C : Nat) (xs : List Int) (y x : Int) : Int := if dpP p t q b R C xs y x then d else l
set_option maxHeartbeats 1600000 in
set_option maxRecDepth 100000 in
theorem iPixel_c (h v p t q b d l : Int) (R C : Nat) (a : Option Addr) (k : Nat) (xs : List Int) (y x : Int) (w : World) (hx : IntsAt w a xs) (hl : xs.length = R * C) (h4 : R * C ≤ 40000) (hR : 1 ≤ R ∧ R ≤ 40000) (hC : 1 ≤ C ∧ C ≤ 40000) (hpr : IsPrint p t q b d l) (hy : 0 ≤ y ∧ y ≤ 400) (hxx : 0 ≤ x ∧ x ≤ 400) :
    Calls Try.prog 44 #[vPress h v p t q b d l R C a xs.length k, .int .i64 y, .int .i64 x] w fun e w' => e = .returned (.int .i64 (pxV p t q b d l R C xs y x)) ∧ Ext w w' := by
  have HX := Lib.hid hx; clear hx
  obtain ⟨hp, ht, hq, hb, hd, hdl, hl255⟩ := hpr
  have hB := Blk.new w #[.int .i64 h, .int .i64 v, .int .i64 p, .int .i64 t, .int .i64 q, .int .i64 b, .int .i64 d, .int .i64 l, .int .i64 R, .int .i64 C, .slice a xs.length k] 72
  have hx0 : Ext w (w.alloc (.cells #[.int .i64 h, .int .i64 v, .int .i64 p, .int .i64 t, .int .i64 q, .int .i64 b, .int .i64 d, .int .i64 l, .int .i64 R, .int .i64 C, .slice a xs.length k] 72)) := (Ext.refl w).alloc _
  have hdk := Lib.hid (fun W r c (h0 : IntsAt W a xs) => iDark_c h v p t q b d l R C a k xs r c W h0 hl h4 hR hC)
  have hk0 : 0 ≤ x % p := Int.emod_nonneg _ (by omega)
  have hk1 : x % p < p := Int.emod_lt_of_pos _ (by omega)
  have hY : 0 ≤ y / t ∧ y / t ≤ 400 := ⟨Int.ediv_nonneg (by omega) (by omega), Int.le_trans (Int.ediv_le_self _ (by omega)) (by omega)⟩
  have hXX : 0 ≤ x / p ∧ x / p ≤ 400 := ⟨Int.ediv_nonneg (by omega) (by omega), Int.le_trans (Int.ediv_le_self _ (by omega)) (by omega)⟩
  have e1 : y.tdiv t = y / t := Int.tdiv_eq_ediv_of_nonneg (by omega)
  have e2 : x.tdiv p = x / p := Int.tdiv_eq_ediv_of_nonneg (by omega)
  have e3 : x.tmod p = x % p := Int.tmod_eq_emod_of_nonneg (by omega)
  have hdef := Lib.hid (show dpP p t q b R C xs y x ↔ (dkP R C xs (y / t - q) (x / p - q) ∧ ¬ (p + b ≤ x % p ∧ ¬ dkP R C xs (y / t - q) (x / p - q + 1))) ∨ (¬ dkP R C xs (y / t - q) (x / p - q) ∧ x % p < b ∧ dkP R C xs (y / t - q) (x / p - q - 1)) from Iff.rfl)
  have hval : pxV p t q b d l R C xs y x = (open Classical in if dpP p t q b R C xs y x then d else l) := rfl
  rw [hval]; clear hval
  generalize dpP p t q b R C xs y x = DP at *
  obtain ⟨K, hK⟩ : ∃ K : Int, x % p = K := ⟨_, rfl⟩
  obtain ⟨Y, hYe⟩ : ∃ Y : Int, y / t = Y := ⟨_, rfl⟩
  obtain ⟨X, hXe⟩ : ∃ X : Int, x / p = X := ⟨_, rfl⟩
  rw [hK] at hk0 hk1 e3 hdef
  rw [hYe] at hY e1 hdef
  rw [hXe] at hXX e2 hdef
  replace hK := Lib.hid hK; replace hYe := Lib.hid hYe; replace hXe := Lib.hid hXe
  have k1 := IntWalk.i64_in Y (by omega)
  have k2 := IntWalk.i64_in X (by omega)
  have k3 := IntWalk.i64_in K (by omega)
  have k4 := IntWalk.i64_in (Y - q) (by omega)
  have k5 := IntWalk.i64_in (X - q) (by omega)
  have k6 := IntWalk.i64_in (X - q + 1) (by omega)
  have k7 := IntWalk.i64_in (X - q - 1) (by omega)
  have k8 := IntWalk.i64_in (p + b) (by omega)
  have ntz : ¬ t = 0 := by omega
  have npz : ¬ p = 0 := by omega
  have ntb : (t == 0) = false := by simpa using ntz
  have npb : (p == 0) = false := by simpa using npz
  replace hl := Lib.hid hl
  by_cases a1 : dkP R C xs (Y - q) (X - q)
  · by_cases hkb : p + b ≤ K
    · by_cases a2 : dkP R C xs (Y - q) (X - q + 1)
      · skip
        have DT : DP := hdef.out.2 (by exact .inl ⟨a1, fun h => h.2 a2⟩)
        rw [if_pos DT]
        replace DT := Lib.hid DT
        replace a1 := Lib.hid a1; replace a2 := Lib.hid a2
        go_enter Try.func44, Try.ntmps44
        go_wp2
        go_quiet (fail)
        have hxn : Ext w ((w.alloc (.cells #[.int .i64 h, .int .i64 v, .int .i64 p, .int .i64 t, .int .i64 q, .int .i64 b, .int .i64 d, .int .i64 l, .int .i64 R, .int .i64 C, .slice a xs.length k] 72)).drewN nq) := hx0.drewN nq
        have hBn := hB.drewN nq
        generalize (w.alloc (.cells #[.int .i64 h, .int .i64 v, .int .i64 p, .int .i64 t, .int .i64 q, .int .i64 b, .int .i64 d, .int .i64 l, .int .i64 R, .int .i64 C, .slice a xs.length k] 72)).drewN nq = wq at *
        have f0 := hBn.cell (i := 0) (v := .int .i64 h) rfl; have f1 := hBn.cell (i := 1) (v := .int .i64 v) rfl; have f2 := hBn.cell (i := 2) (v := .int .i64 p) rfl; have f3 := hBn.cell (i := 3) (v := .int .i64 t) rfl; have f4 := hBn.cell (i := 4) (v := .int .i64 q) rfl; have f5 := hBn.cell (i := 5) (v := .int .i64 b) rfl; have f6 := hBn.cell (i := 6) (v := .int .i64 d) rfl; have f7 := hBn.cell (i := 7) (v := .int .i64 l) rfl; have f8 := hBn.cell (i := 8) (v := .int .i64 R) rfl; have f9 := hBn.cell (i := 9) (v := .int .i64 C) rfl; have f10 := hBn.cell (i := 10) (v := .slice a xs.length k) rfl
        go_wp2_with (go_at_call 84; (with_reducible refine (hdk.out _ _ _ (HX.out.ext hxn)).mono ?_); rintro e w1 ⟨⟨hP, rfl⟩ | ⟨hP, rfl⟩, hx1⟩ <;> (first | exact absurd a1.out hP | exact absurd hP a1.out | exact absurd a2.out hP | exact absurd hP a2.out | (have hB1 := hBn.ext hx1; have f0 := hB1.cell (i := 0) (v := .int .i64 h) rfl; have f1 := hB1.cell (i := 1) (v := .int .i64 v) rfl; have f2 := hB1.cell (i := 2) (v := .int .i64 p) rfl; have f3 := hB1.cell (i := 3) (v := .int .i64 t) rfl; have f4 := hB1.cell (i := 4) (v := .int .i64 q) rfl; have f5 := hB1.cell (i := 5) (v := .int .i64 b) rfl; have f6 := hB1.cell (i := 6) (v := .int .i64 d) rfl; have f7 := hB1.cell (i := 7) (v := .int .i64 l) rfl; have f8 := hB1.cell (i := 8) (v := .int .i64 R) rfl; have f9 := hB1.cell (i := 9) (v := .int .i64 C) rfl; have f10 := hB1.cell (i := 10) (v := .slice a xs.length k) rfl; replace hxn := hxn.trans hx1; replace hBn := hB1; clear hP)))
        all_goals go_ret
        all_goals exact ⟨rfl, hxn⟩
      · skip
        have DT : ¬ DP := fun h => by have := hdef.out.1 h; exact this.elim (fun z => z.2 ⟨hkb, a2⟩) (fun z => z.1 a1)
        rw [if_neg DT]
        replace DT := Lib.hid DT
        replace a1 := Lib.hid a1; replace a2 := Lib.hid a2
        go_enter Try.func44, Try.ntmps44
        go_wp2
        go_quiet (fail)
        have hxn : Ext w ((w.alloc (.cells #[.int .i64 h, .int .i64 v, .int .i64 p, .int .i64 t, .int .i64 q, .int .i64 b, .int .i64 d, .int .i64 l, .int .i64 R, .int .i64 C, .slice a xs.length k] 72)).drewN nq) := hx0.drewN nq
        have hBn := hB.drewN nq
        generalize (w.alloc (.cells #[.int .i64 h, .int .i64 v, .int .i64 p, .int .i64 t, .int .i64 q, .int .i64 b, .int .i64 d, .int .i64 l, .int .i64 R, .int .i64 C, .slice a xs.length k] 72)).drewN nq = wq at *
        have f0 := hBn.cell (i := 0) (v := .int .i64 h) rfl; have f1 := hBn.cell (i := 1) (v := .int .i64 v) rfl; have f2 := hBn.cell (i := 2) (v := .int .i64 p) rfl; have f3 := hBn.cell (i := 3) (v := .int .i64 t) rfl; have f4 := hBn.cell (i := 4) (v := .int .i64 q) rfl; have f5 := hBn.cell (i := 5) (v := .int .i64 b) rfl; have f6 := hBn.cell (i := 6) (v := .int .i64 d) rfl; have f7 := hBn.cell (i := 7) (v := .int .i64 l) rfl; have f8 := hBn.cell (i := 8) (v := .int .i64 R) rfl; have f9 := hBn.cell (i := 9) (v := .int .i64 C) rfl; have f10 := hBn.cell (i := 10) (v := .slice a xs.length k) rfl
        go_wp2_with (go_at_call 84; (with_reducible refine (hdk.out _ _ _ (HX.out.ext hxn)).mono ?_); rintro e w1 ⟨⟨hP, rfl⟩ | ⟨hP, rfl⟩, hx1⟩ <;> (first | exact absurd a1.out hP | exact absurd hP a1.out | exact absurd a2.out hP | exact absurd hP a2.out | (have hB1 := hBn.ext hx1; have f0 := hB1.cell (i := 0) (v := .int .i64 h) rfl; have f1 := hB1.cell (i := 1) (v := .int .i64 v) rfl; have f2 := hB1.cell (i := 2) (v := .int .i64 p) rfl; have f3 := hB1.cell (i := 3) (v := .int .i64 t) rfl; have f4 := hB1.cell (i := 4) (v := .int .i64 q) rfl; have f5 := hB1.cell (i := 5) (v := .int .i64 b) rfl; have f6 := hB1.cell (i := 6) (v := .int .i64 d) rfl; have f7 := hB1.cell (i := 7) (v := .int .i64 l) rfl; have f8 := hB1.cell (i := 8) (v := .int .i64 R) rfl; have f9 := hB1.cell (i := 9) (v := .int .i64 C) rfl; have f10 := hB1.cell (i := 10) (v := .slice a xs.length k) rfl; replace hxn := hxn.trans hx1; replace hBn := hB1; clear hP)))
        all_goals go_ret
        all_goals exact ⟨rfl, hxn⟩
    · have a2 : True := trivial
      have DT : DP := hdef.out.2 (by exact .inl ⟨a1, fun h => hkb h.1⟩)
      rw [if_pos DT]
      replace DT := Lib.hid DT
      replace a1 := Lib.hid a1; replace a2 := Lib.hid a2
      go_enter Try.func44, Try.ntmps44
      go_wp2
      go_quiet (fail)
      have hxn : Ext w ((w.alloc (.cells #[.int .i64 h, .int .i64 v, .int .i64 p, .int .i64 t, .int .i64 q, .int .i64 b, .int .i64 d, .int .i64 l, .int .i64 R, .int .i64 C, .slice a xs.length k] 72)).drewN nq) := hx0.drewN nq
      have hBn := hB.drewN nq
      generalize (w.alloc (.cells #[.int .i64 h, .int .i64 v, .int .i64 p, .int .i64 t, .int .i64 q, .int .i64 b, .int .i64 d, .int .i64 l, .int .i64 R, .int .i64 C, .slice a xs.length k] 72)).drewN nq = wq at *
      have f0 := hBn.cell (i := 0) (v := .int .i64 h) rfl; have f1 := hBn.cell (i := 1) (v := .int .i64 v) rfl; have f2 := hBn.cell (i := 2) (v := .int .i64 p) rfl; have f3 := hBn.cell (i := 3) (v := .int .i64 t) rfl; have f4 := hBn.cell (i := 4) (v := .int .i64 q) rfl; have f5 := hBn.cell (i := 5) (v := .int .i64 b) rfl; have f6 := hBn.cell (i := 6) (v := .int .i64 d) rfl; have f7 := hBn.cell (i := 7) (v := .int .i64 l) rfl; have f8 := hBn.cell (i := 8) (v := .int .i64 R) rfl; have f9 := hBn.cell (i := 9) (v := .int .i64 C) rfl; have f10 := hBn.cell (i := 10) (v := .slice a xs.length k) rfl
      go_wp2_with (go_at_call 84; (with_reducible refine (hdk.out _ _ _ (HX.out.ext hxn)).mono ?_); rintro e w1 ⟨⟨hP, rfl⟩ | ⟨hP, rfl⟩, hx1⟩ <;> (first | exact absurd a1.out hP | exact absurd hP a1.out | exact absurd a2.out hP | exact absurd hP a2.out | (have hB1 := hBn.ext hx1; have f0 := hB1.cell (i := 0) (v := .int .i64 h) rfl; have f1 := hB1.cell (i := 1) (v := .int .i64 v) rfl; have f2 := hB1.cell (i := 2) (v := .int .i64 p) rfl; have f3 := hB1.cell (i := 3) (v := .int .i64 t) rfl; have f4 := hB1.cell (i := 4) (v := .int .i64 q) rfl; have f5 := hB1.cell (i := 5) (v := .int .i64 b) rfl; have f6 := hB1.cell (i := 6) (v := .int .i64 d) rfl; have f7 := hB1.cell (i := 7) (v := .int .i64 l) rfl; have f8 := hB1.cell (i := 8) (v := .int .i64 R) rfl; have f9 := hB1.cell (i := 9) (v := .int .i64 C) rfl; have f10 := hB1.cell (i := 10) (v := .slice a xs.length k) rfl; replace hxn := hxn.trans hx1; replace hBn := hB1; clear hP)))
      all_goals go_ret
      all_goals exact ⟨rfl, hxn⟩
  · by_cases hkb : K < b
    · by_cases a2 : dkP R C xs (Y - q) (X - q - 1)
      · skip
        have DT : DP := hdef.out.2 (by exact .inr ⟨a1, hkb, a2⟩)
        rw [if_pos DT]
        replace DT := Lib.hid DT
        replace a1 := Lib.hid a1; replace a2 := Lib.hid a2
        go_enter Try.func44, Try.ntmps44
        go_wp2
        go_quiet (fail)
        have hxn : Ext w ((w.alloc (.cells #[.int .i64 h, .int .i64 v, .int .i64 p, .int .i64 t, .int .i64 q, .int .i64 b, .int .i64 d, .int .i64 l, .int .i64 R, .int .i64 C, .slice a xs.length k] 72)).drewN nq) := hx0.drewN nq
        have hBn := hB.drewN nq
        generalize (w.alloc (.cells #[.int .i64 h, .int .i64 v, .int .i64 p, .int .i64 t, .int .i64 q, .int .i64 b, .int .i64 d, .int .i64 l, .int .i64 R, .int .i64 C, .slice a xs.length k] 72)).drewN nq = wq at *
        have f0 := hBn.cell (i := 0) (v := .int .i64 h) rfl; have f1 := hBn.cell (i := 1) (v := .int .i64 v) rfl; have f2 := hBn.cell (i := 2) (v := .int .i64 p) rfl; have f3 := hBn.cell (i := 3) (v := .int .i64 t) rfl; have f4 := hBn.cell (i := 4) (v := .int .i64 q) rfl; have f5 := hBn.cell (i := 5) (v := .int .i64 b) rfl; have f6 := hBn.cell (i := 6) (v := .int .i64 d) rfl; have f7 := hBn.cell (i := 7) (v := .int .i64 l) rfl; have f8 := hBn.cell (i := 8) (v := .int .i64 R) rfl; have f9 := hBn.cell (i := 9) (v := .int .i64 C) rfl; have f10 := hBn.cell (i := 10) (v := .slice a xs.length k) rfl
        go_wp2_with (go_at_call 84; (with_reducible refine (hdk.out _ _ _ (HX.out.ext hxn)).mono ?_); rintro e w1 ⟨⟨hP, rfl⟩ | ⟨hP, rfl⟩, hx1⟩ <;> (first | exact absurd a1.out hP | exact absurd hP a1.out | exact absurd a2.out hP | exact absurd hP a2.out | (have hB1 := hBn.ext hx1; have f0 := hB1.cell (i := 0) (v := .int .i64 h) rfl; have f1 := hB1.cell (i := 1) (v := .int .i64 v) rfl; have f2 := hB1.cell (i := 2) (v := .int .i64 p) rfl; have f3 := hB1.cell (i := 3) (v := .int .i64 t) rfl; have f4 := hB1.cell (i := 4) (v := .int .i64 q) rfl; have f5 := hB1.cell (i := 5) (v := .int .i64 b) rfl; have f6 := hB1.cell (i := 6) (v := .int .i64 d) rfl; have f7 := hB1.cell (i := 7) (v := .int .i64 l) rfl; have f8 := hB1.cell (i := 8) (v := .int .i64 R) rfl; have f9 := hB1.cell (i := 9) (v := .int .i64 C) rfl; have f10 := hB1.cell (i := 10) (v := .slice a xs.length k) rfl; replace hxn := hxn.trans hx1; replace hBn := hB1; clear hP)))
        all_goals go_ret
        all_goals exact ⟨rfl, hxn⟩
      · skip
        have DT : ¬ DP := fun h => by have := hdef.out.1 h; exact this.elim (fun z => a1 z.1) (fun z => a2 z.2.2)
        rw [if_neg DT]
        replace DT := Lib.hid DT
        replace a1 := Lib.hid a1; replace a2 := Lib.hid a2
        go_enter Try.func44, Try.ntmps44
        go_wp2
        go_quiet (fail)
        have hxn : Ext w ((w.alloc (.cells #[.int .i64 h, .int .i64 v, .int .i64 p, .int .i64 t, .int .i64 q, .int .i64 b, .int .i64 d, .int .i64 l, .int .i64 R, .int .i64 C, .slice a xs.length k] 72)).drewN nq) := hx0.drewN nq
        have hBn := hB.drewN nq
        generalize (w.alloc (.cells #[.int .i64 h, .int .i64 v, .int .i64 p, .int .i64 t, .int .i64 q, .int .i64 b, .int .i64 d, .int .i64 l, .int .i64 R, .int .i64 C, .slice a xs.length k] 72)).drewN nq = wq at *
        have f0 := hBn.cell (i := 0) (v := .int .i64 h) rfl; have f1 := hBn.cell (i := 1) (v := .int .i64 v) rfl; have f2 := hBn.cell (i := 2) (v := .int .i64 p) rfl; have f3 := hBn.cell (i := 3) (v := .int .i64 t) rfl; have f4 := hBn.cell (i := 4) (v := .int .i64 q) rfl; have f5 := hBn.cell (i := 5) (v := .int .i64 b) rfl; have f6 := hBn.cell (i := 6) (v := .int .i64 d) rfl; have f7 := hBn.cell (i := 7) (v := .int .i64 l) rfl; have f8 := hBn.cell (i := 8) (v := .int .i64 R) rfl; have f9 := hBn.cell (i := 9) (v := .int .i64 C) rfl; have f10 := hBn.cell (i := 10) (v := .slice a xs.length k) rfl
        go_wp2_with (go_at_call 84; (with_reducible refine (hdk.out _ _ _ (HX.out.ext hxn)).mono ?_); rintro e w1 ⟨⟨hP, rfl⟩ | ⟨hP, rfl⟩, hx1⟩ <;> (first | exact absurd a1.out hP | exact absurd hP a1.out | exact absurd a2.out hP | exact absurd hP a2.out | (have hB1 := hBn.ext hx1; have f0 := hB1.cell (i := 0) (v := .int .i64 h) rfl; have f1 := hB1.cell (i := 1) (v := .int .i64 v) rfl; have f2 := hB1.cell (i := 2) (v := .int .i64 p) rfl; have f3 := hB1.cell (i := 3) (v := .int .i64 t) rfl; have f4 := hB1.cell (i := 4) (v := .int .i64 q) rfl; have f5 := hB1.cell (i := 5) (v := .int .i64 b) rfl; have f6 := hB1.cell (i := 6) (v := .int .i64 d) rfl; have f7 := hB1.cell (i := 7) (v := .int .i64 l) rfl; have f8 := hB1.cell (i := 8) (v := .int .i64 R) rfl; have f9 := hB1.cell (i := 9) (v := .int .i64 C) rfl; have f10 := hB1.cell (i := 10) (v := .slice a xs.length k) rfl; replace hxn := hxn.trans hx1; replace hBn := hB1; clear hP)))
        all_goals go_ret
        all_goals exact ⟨rfl, hxn⟩
    · have a2 : True := trivial
      have DT : ¬ DP := fun h => by have := hdef.out.1 h; exact this.elim (fun z => a1 z.1) (fun z => hkb z.2.1)
      rw [if_neg DT]
      replace DT := Lib.hid DT
      replace a1 := Lib.hid a1; replace a2 := Lib.hid a2
      go_enter Try.func44, Try.ntmps44
      go_wp2
      go_quiet (fail)
      have hxn : Ext w ((w.alloc (.cells #[.int .i64 h, .int .i64 v, .int .i64 p, .int .i64 t, .int .i64 q, .int .i64 b, .int .i64 d, .int .i64 l, .int .i64 R, .int .i64 C, .slice a xs.length k] 72)).drewN nq) := hx0.drewN nq
      have hBn := hB.drewN nq
      generalize (w.alloc (.cells #[.int .i64 h, .int .i64 v, .int .i64 p, .int .i64 t, .int .i64 q, .int .i64 b, .int .i64 d, .int .i64 l, .int .i64 R, .int .i64 C, .slice a xs.length k] 72)).drewN nq = wq at *
      have f0 := hBn.cell (i := 0) (v := .int .i64 h) rfl; have f1 := hBn.cell (i := 1) (v := .int .i64 v) rfl; have f2 := hBn.cell (i := 2) (v := .int .i64 p) rfl; have f3 := hBn.cell (i := 3) (v := .int .i64 t) rfl; have f4 := hBn.cell (i := 4) (v := .int .i64 q) rfl; have f5 := hBn.cell (i := 5) (v := .int .i64 b) rfl; have f6 := hBn.cell (i := 6) (v := .int .i64 d) rfl; have f7 := hBn.cell (i := 7) (v := .int .i64 l) rfl; have f8 := hBn.cell (i := 8) (v := .int .i64 R) rfl; have f9 := hBn.cell (i := 9) (v := .int .i64 C) rfl; have f10 := hBn.cell (i := 10) (v := .slice a xs.length k) rfl
      go_wp2_with (go_at_call 84; (with_reducible refine (hdk.out _ _ _ (HX.out.ext hxn)).mono ?_); rintro e w1 ⟨⟨hP, rfl⟩ | ⟨hP, rfl⟩, hx1⟩ <;> (first | exact absurd a1.out hP | exact absurd hP a1.out | exact absurd a2.out hP | exact absurd hP a2.out | (have hB1 := hBn.ext hx1; have f0 := hB1.cell (i := 0) (v := .int .i64 h) rfl; have f1 := hB1.cell (i := 1) (v := .int .i64 v) rfl; have f2 := hB1.cell (i := 2) (v := .int .i64 p) rfl; have f3 := hB1.cell (i := 3) (v := .int .i64 t) rfl; have f4 := hB1.cell (i := 4) (v := .int .i64 q) rfl; have f5 := hB1.cell (i := 5) (v := .int .i64 b) rfl; have f6 := hB1.cell (i := 6) (v := .int .i64 d) rfl; have f7 := hB1.cell (i := 7) (v := .int .i64 l) rfl; have f8 := hB1.cell (i := 8) (v := .int .i64 R) rfl; have f9 := hB1.cell (i := 9) (v := .int .i64 C) rfl; have f10 := hB1.cell (i := 10) (v := .slice a xs.length k) rfl; replace hxn := hxn.trans hx1; replace hBn := hB1; clear hP)))
      all_goals go_ret
      all_goals exact ⟨rfl, hxn⟩
set_option maxHeartbeats 1600000 in
set_option maxRecDepth 100000 in
theorem sPixel_c (p t q b d l : Int) (R C : Nat) (a : Option Addr) (k : Nat) (xs : List Int) (y x : Int) (w : World) (hx : IntsAt w a xs) (hl : xs.length = R * C) (h4 : R * C ≤ 40000) (hR : 1 ≤ R ∧ R ≤ 40000) (hC : 1 ≤ C ∧ C ≤ 40000) (hpr : IsPrint p t q b d l) (hy : 0 ≤ y ∧ y ≤ 400) (hxx : 0 ≤ x ∧ x ≤ 400) :
    Calls Try.prog 48 #[vGrid R C a xs.length k, vPrint p t q b d l, .int .i64 y, .int .i64 x] w fun e w' => isB e (dpP p t q b R C xs y x) ∧ Ext w w' := by
  have HX := Lib.hid hx; clear hx
  obtain ⟨hp, ht, hq, hb, hd, hdl, hl255⟩ := hpr
  have hG := (Blk.new w #[.int .i64 R, .int .i64 C, .slice a xs.length k] 26).alloc (.cells #[.int .i64 p, .int .i64 t, .int .i64 q, .int .i64 b, .int .i64 d, .int .i64 l] 28)
  have hB := Blk.new (w.alloc (.cells #[.int .i64 R, .int .i64 C, .slice a xs.length k] 26)) #[.int .i64 p, .int .i64 t, .int .i64 q, .int .i64 b, .int .i64 d, .int .i64 l] 28
  have hx0 : Ext w ((w.alloc (.cells #[.int .i64 R, .int .i64 C, .slice a xs.length k] 26)).alloc (.cells #[.int .i64 p, .int .i64 t, .int .i64 q, .int .i64 b, .int .i64 d, .int .i64 l] 28)) := ((Ext.refl w).alloc _).alloc _
  simp only [World.size_alloc] at hB
  have hdk := Lib.hid (fun W r c (h0 : IntsAt W a xs) => sDark_c R C a k xs r c W h0 hl h4 hR hC)
  have hk0 : 0 ≤ x % p := Int.emod_nonneg _ (by omega)
  have hk1 : x % p < p := Int.emod_lt_of_pos _ (by omega)
  have hY : 0 ≤ y / t ∧ y / t ≤ 400 := ⟨Int.ediv_nonneg (by omega) (by omega), Int.le_trans (Int.ediv_le_self _ (by omega)) (by omega)⟩
  have hXX : 0 ≤ x / p ∧ x / p ≤ 400 := ⟨Int.ediv_nonneg (by omega) (by omega), Int.le_trans (Int.ediv_le_self _ (by omega)) (by omega)⟩
  have e1 : y.tdiv t = y / t := Int.tdiv_eq_ediv_of_nonneg (by omega)
  have e2 : x.tdiv p = x / p := Int.tdiv_eq_ediv_of_nonneg (by omega)
  have e3 : x.tmod p = x % p := Int.tmod_eq_emod_of_nonneg (by omega)
  have hdef := Lib.hid (show dpP p t q b R C xs y x ↔ (dkP R C xs (y / t - q) (x / p - q) ∧ ¬ (p + b ≤ x % p ∧ ¬ dkP R C xs (y / t - q) (x / p - q + 1))) ∨ (¬ dkP R C xs (y / t - q) (x / p - q) ∧ x % p < b ∧ dkP R C xs (y / t - q) (x / p - q - 1)) from Iff.rfl)
  generalize dpP p t q b R C xs y x = DP at *
  obtain ⟨K, hK⟩ : ∃ K : Int, x % p = K := ⟨_, rfl⟩
  obtain ⟨Y, hYe⟩ : ∃ Y : Int, y / t = Y := ⟨_, rfl⟩
  obtain ⟨X, hXe⟩ : ∃ X : Int, x / p = X := ⟨_, rfl⟩
  rw [hK] at hk0 hk1 e3 hdef
  rw [hYe] at hY e1 hdef
  rw [hXe] at hXX e2 hdef
  replace hK := Lib.hid hK; replace hYe := Lib.hid hYe; replace hXe := Lib.hid hXe
  have k1 := IntWalk.i64_in Y (by omega)
  have k2 := IntWalk.i64_in X (by omega)
  have k3 := IntWalk.i64_in K (by omega)
  have k4 := IntWalk.i64_in (Y - q) (by omega)
  have k5 := IntWalk.i64_in (X - q) (by omega)
  have k6 := IntWalk.i64_in (X - q + 1) (by omega)
  have k7 := IntWalk.i64_in (X - q - 1) (by omega)
  have k8 := IntWalk.i64_in (p + b) (by omega)
  have ntz : ¬ t = 0 := by omega
  have npz : ¬ p = 0 := by omega
  have ntb : (t == 0) = false := by simpa using ntz
  have npb : (p == 0) = false := by simpa using npz
  replace hl := Lib.hid hl
  obtain ⟨mn, hmn, hm⟩ : ∃ mn : Int, min 0 b = mn ∧ ((b < 0 ∧ mn = b) ∨ (0 ≤ b ∧ mn = 0)) := ⟨_, rfl, by omega⟩
  have k9 := IntWalk.i64_in (p + mn) (by omega)
  by_cases a1 : dkP R C xs (Y - q) (X - q)
  · by_cases hkb : p + b ≤ K
    · by_cases a2 : dkP R C xs (Y - q) (X - q + 1)
      · skip
        have DT : DP := hdef.out.2 (by exact .inl ⟨a1, fun h => h.2 a2⟩)
        have hlt : decide (K < p + mn) = false := decide_eq_false (by omega)
        replace DT := Lib.hid DT
        replace a1 := Lib.hid a1; replace a2 := Lib.hid a2
        go_enter Try.func48, Try.ntmps48
        go_wp2
        go_quiet (fail)
        have hxn : Ext w (((w.alloc (.cells #[.int .i64 R, .int .i64 C, .slice a xs.length k] 26)).alloc (.cells #[.int .i64 p, .int .i64 t, .int .i64 q, .int .i64 b, .int .i64 d, .int .i64 l] 28)).drewN nq) := hx0.drewN nq
        have hBn := hB.drewN nq
        have hGn := hG.drewN nq
        generalize ((w.alloc (.cells #[.int .i64 R, .int .i64 C, .slice a xs.length k] 26)).alloc (.cells #[.int .i64 p, .int .i64 t, .int .i64 q, .int .i64 b, .int .i64 d, .int .i64 l] 28)).drewN nq = wq at *
        have f0 := hBn.cell (i := 0) (v := .int .i64 p) rfl; have f1 := hBn.cell (i := 1) (v := .int .i64 t) rfl; have f2 := hBn.cell (i := 2) (v := .int .i64 q) rfl; have f3 := hBn.cell (i := 3) (v := .int .i64 b) rfl; have f4 := hBn.cell (i := 4) (v := .int .i64 d) rfl; have f5 := hBn.cell (i := 5) (v := .int .i64 l) rfl; have g0 := hGn.cell (i := 0) (v := .int .i64 R) rfl; have g1 := hGn.cell (i := 1) (v := .int .i64 C) rfl; have g2 := hGn.cell (i := 2) (v := .slice a xs.length k) rfl
        go_wp2_with (go_at_call 87; (with_reducible refine (hdk.out _ _ _ (HX.out.ext hxn)).mono ?_); rintro e w1 ⟨⟨hP, rfl⟩ | ⟨hP, rfl⟩, hx1⟩ <;> (first | exact absurd a1.out hP | exact absurd hP a1.out | exact absurd a2.out hP | exact absurd hP a2.out | (have hB1 := hBn.ext hx1; have hG1 := hGn.ext hx1; have f0 := hB1.cell (i := 0) (v := .int .i64 p) rfl; have f1 := hB1.cell (i := 1) (v := .int .i64 t) rfl; have f2 := hB1.cell (i := 2) (v := .int .i64 q) rfl; have f3 := hB1.cell (i := 3) (v := .int .i64 b) rfl; have f4 := hB1.cell (i := 4) (v := .int .i64 d) rfl; have f5 := hB1.cell (i := 5) (v := .int .i64 l) rfl; have g0 := hG1.cell (i := 0) (v := .int .i64 R) rfl; have g1 := hG1.cell (i := 1) (v := .int .i64 C) rfl; have g2 := hG1.cell (i := 2) (v := .slice a xs.length k) rfl; replace hxn := hxn.trans hx1; replace hBn := hB1; replace hGn := hG1; clear hP)))
        all_goals go_ret
        all_goals exact ⟨isB_t DT.out, hxn⟩
      · skip
        have DT : ¬ DP := fun h => by have := hdef.out.1 h; exact this.elim (fun z => z.2 ⟨hkb, a2⟩) (fun z => z.1 a1)
        have hlt : decide (K < p + mn) = false := decide_eq_false (by omega)
        replace DT := Lib.hid DT
        replace a1 := Lib.hid a1; replace a2 := Lib.hid a2
        go_enter Try.func48, Try.ntmps48
        go_wp2
        go_quiet (fail)
        have hxn : Ext w (((w.alloc (.cells #[.int .i64 R, .int .i64 C, .slice a xs.length k] 26)).alloc (.cells #[.int .i64 p, .int .i64 t, .int .i64 q, .int .i64 b, .int .i64 d, .int .i64 l] 28)).drewN nq) := hx0.drewN nq
        have hBn := hB.drewN nq
        have hGn := hG.drewN nq
        generalize ((w.alloc (.cells #[.int .i64 R, .int .i64 C, .slice a xs.length k] 26)).alloc (.cells #[.int .i64 p, .int .i64 t, .int .i64 q, .int .i64 b, .int .i64 d, .int .i64 l] 28)).drewN nq = wq at *
        have f0 := hBn.cell (i := 0) (v := .int .i64 p) rfl; have f1 := hBn.cell (i := 1) (v := .int .i64 t) rfl; have f2 := hBn.cell (i := 2) (v := .int .i64 q) rfl; have f3 := hBn.cell (i := 3) (v := .int .i64 b) rfl; have f4 := hBn.cell (i := 4) (v := .int .i64 d) rfl; have f5 := hBn.cell (i := 5) (v := .int .i64 l) rfl; have g0 := hGn.cell (i := 0) (v := .int .i64 R) rfl; have g1 := hGn.cell (i := 1) (v := .int .i64 C) rfl; have g2 := hGn.cell (i := 2) (v := .slice a xs.length k) rfl
        go_wp2_with (go_at_call 87; (with_reducible refine (hdk.out _ _ _ (HX.out.ext hxn)).mono ?_); rintro e w1 ⟨⟨hP, rfl⟩ | ⟨hP, rfl⟩, hx1⟩ <;> (first | exact absurd a1.out hP | exact absurd hP a1.out | exact absurd a2.out hP | exact absurd hP a2.out | (have hB1 := hBn.ext hx1; have hG1 := hGn.ext hx1; have f0 := hB1.cell (i := 0) (v := .int .i64 p) rfl; have f1 := hB1.cell (i := 1) (v := .int .i64 t) rfl; have f2 := hB1.cell (i := 2) (v := .int .i64 q) rfl; have f3 := hB1.cell (i := 3) (v := .int .i64 b) rfl; have f4 := hB1.cell (i := 4) (v := .int .i64 d) rfl; have f5 := hB1.cell (i := 5) (v := .int .i64 l) rfl; have g0 := hG1.cell (i := 0) (v := .int .i64 R) rfl; have g1 := hG1.cell (i := 1) (v := .int .i64 C) rfl; have g2 := hG1.cell (i := 2) (v := .slice a xs.length k) rfl; replace hxn := hxn.trans hx1; replace hBn := hB1; replace hGn := hG1; clear hP)))
        all_goals go_ret
        all_goals exact ⟨isB_f DT.out, hxn⟩
    · have a2 : True := trivial
      have DT : DP := hdef.out.2 (by exact .inl ⟨a1, fun h => hkb h.1⟩)
      have hlt : K < p + mn := by omega
      replace DT := Lib.hid DT
      replace a1 := Lib.hid a1; replace a2 := Lib.hid a2
      go_enter Try.func48, Try.ntmps48
      go_wp2
      go_quiet (fail)
      have hxn : Ext w (((w.alloc (.cells #[.int .i64 R, .int .i64 C, .slice a xs.length k] 26)).alloc (.cells #[.int .i64 p, .int .i64 t, .int .i64 q, .int .i64 b, .int .i64 d, .int .i64 l] 28)).drewN nq) := hx0.drewN nq
      have hBn := hB.drewN nq
      have hGn := hG.drewN nq
      generalize ((w.alloc (.cells #[.int .i64 R, .int .i64 C, .slice a xs.length k] 26)).alloc (.cells #[.int .i64 p, .int .i64 t, .int .i64 q, .int .i64 b, .int .i64 d, .int .i64 l] 28)).drewN nq = wq at *
      have f0 := hBn.cell (i := 0) (v := .int .i64 p) rfl; have f1 := hBn.cell (i := 1) (v := .int .i64 t) rfl; have f2 := hBn.cell (i := 2) (v := .int .i64 q) rfl; have f3 := hBn.cell (i := 3) (v := .int .i64 b) rfl; have f4 := hBn.cell (i := 4) (v := .int .i64 d) rfl; have f5 := hBn.cell (i := 5) (v := .int .i64 l) rfl; have g0 := hGn.cell (i := 0) (v := .int .i64 R) rfl; have g1 := hGn.cell (i := 1) (v := .int .i64 C) rfl; have g2 := hGn.cell (i := 2) (v := .slice a xs.length k) rfl
      go_wp2_with (go_at_call 87; (with_reducible refine (hdk.out _ _ _ (HX.out.ext hxn)).mono ?_); rintro e w1 ⟨⟨hP, rfl⟩ | ⟨hP, rfl⟩, hx1⟩ <;> (first | exact absurd a1.out hP | exact absurd hP a1.out | exact absurd a2.out hP | (have hB1 := hBn.ext hx1; have hG1 := hGn.ext hx1; have f0 := hB1.cell (i := 0) (v := .int .i64 p) rfl; have f1 := hB1.cell (i := 1) (v := .int .i64 t) rfl; have f2 := hB1.cell (i := 2) (v := .int .i64 q) rfl; have f3 := hB1.cell (i := 3) (v := .int .i64 b) rfl; have f4 := hB1.cell (i := 4) (v := .int .i64 d) rfl; have f5 := hB1.cell (i := 5) (v := .int .i64 l) rfl; have g0 := hG1.cell (i := 0) (v := .int .i64 R) rfl; have g1 := hG1.cell (i := 1) (v := .int .i64 C) rfl; have g2 := hG1.cell (i := 2) (v := .slice a xs.length k) rfl; replace hxn := hxn.trans hx1; replace hBn := hB1; replace hGn := hG1; clear hP)))
      all_goals go_ret
      all_goals exact ⟨isB_t DT.out, hxn⟩
  · by_cases hkb : K < b
    · by_cases a2 : dkP R C xs (Y - q) (X - q - 1)
      · skip
        have DT : DP := hdef.out.2 (by exact .inr ⟨a1, hkb, a2⟩)
        replace DT := Lib.hid DT
        replace a1 := Lib.hid a1; replace a2 := Lib.hid a2
        go_enter Try.func48, Try.ntmps48
        go_wp2
        go_quiet (fail)
        have hxn : Ext w (((w.alloc (.cells #[.int .i64 R, .int .i64 C, .slice a xs.length k] 26)).alloc (.cells #[.int .i64 p, .int .i64 t, .int .i64 q, .int .i64 b, .int .i64 d, .int .i64 l] 28)).drewN nq) := hx0.drewN nq
        have hBn := hB.drewN nq
        have hGn := hG.drewN nq
        generalize ((w.alloc (.cells #[.int .i64 R, .int .i64 C, .slice a xs.length k] 26)).alloc (.cells #[.int .i64 p, .int .i64 t, .int .i64 q, .int .i64 b, .int .i64 d, .int .i64 l] 28)).drewN nq = wq at *
        have f0 := hBn.cell (i := 0) (v := .int .i64 p) rfl; have f1 := hBn.cell (i := 1) (v := .int .i64 t) rfl; have f2 := hBn.cell (i := 2) (v := .int .i64 q) rfl; have f3 := hBn.cell (i := 3) (v := .int .i64 b) rfl; have f4 := hBn.cell (i := 4) (v := .int .i64 d) rfl; have f5 := hBn.cell (i := 5) (v := .int .i64 l) rfl; have g0 := hGn.cell (i := 0) (v := .int .i64 R) rfl; have g1 := hGn.cell (i := 1) (v := .int .i64 C) rfl; have g2 := hGn.cell (i := 2) (v := .slice a xs.length k) rfl
        go_wp2_with (go_at_call 87; (with_reducible refine (hdk.out _ _ _ (HX.out.ext hxn)).mono ?_); rintro e w1 ⟨⟨hP, rfl⟩ | ⟨hP, rfl⟩, hx1⟩ <;> (first | exact absurd a1.out hP | exact absurd hP a1.out | exact absurd a2.out hP | exact absurd hP a2.out | (have hB1 := hBn.ext hx1; have hG1 := hGn.ext hx1; have f0 := hB1.cell (i := 0) (v := .int .i64 p) rfl; have f1 := hB1.cell (i := 1) (v := .int .i64 t) rfl; have f2 := hB1.cell (i := 2) (v := .int .i64 q) rfl; have f3 := hB1.cell (i := 3) (v := .int .i64 b) rfl; have f4 := hB1.cell (i := 4) (v := .int .i64 d) rfl; have f5 := hB1.cell (i := 5) (v := .int .i64 l) rfl; have g0 := hG1.cell (i := 0) (v := .int .i64 R) rfl; have g1 := hG1.cell (i := 1) (v := .int .i64 C) rfl; have g2 := hG1.cell (i := 2) (v := .slice a xs.length k) rfl; replace hxn := hxn.trans hx1; replace hBn := hB1; replace hGn := hG1; clear hP)))
        all_goals go_ret
        all_goals exact ⟨isB_t DT.out, hxn⟩
      · skip
        have DT : ¬ DP := fun h => by have := hdef.out.1 h; exact this.elim (fun z => a1 z.1) (fun z => a2 z.2.2)
        replace DT := Lib.hid DT
        replace a1 := Lib.hid a1; replace a2 := Lib.hid a2
        go_enter Try.func48, Try.ntmps48
        go_wp2
        go_quiet (fail)
        have hxn : Ext w (((w.alloc (.cells #[.int .i64 R, .int .i64 C, .slice a xs.length k] 26)).alloc (.cells #[.int .i64 p, .int .i64 t, .int .i64 q, .int .i64 b, .int .i64 d, .int .i64 l] 28)).drewN nq) := hx0.drewN nq
        have hBn := hB.drewN nq
        have hGn := hG.drewN nq
        generalize ((w.alloc (.cells #[.int .i64 R, .int .i64 C, .slice a xs.length k] 26)).alloc (.cells #[.int .i64 p, .int .i64 t, .int .i64 q, .int .i64 b, .int .i64 d, .int .i64 l] 28)).drewN nq = wq at *
        have f0 := hBn.cell (i := 0) (v := .int .i64 p) rfl; have f1 := hBn.cell (i := 1) (v := .int .i64 t) rfl; have f2 := hBn.cell (i := 2) (v := .int .i64 q) rfl; have f3 := hBn.cell (i := 3) (v := .int .i64 b) rfl; have f4 := hBn.cell (i := 4) (v := .int .i64 d) rfl; have f5 := hBn.cell (i := 5) (v := .int .i64 l) rfl; have g0 := hGn.cell (i := 0) (v := .int .i64 R) rfl; have g1 := hGn.cell (i := 1) (v := .int .i64 C) rfl; have g2 := hGn.cell (i := 2) (v := .slice a xs.length k) rfl
        go_wp2_with (go_at_call 87; (with_reducible refine (hdk.out _ _ _ (HX.out.ext hxn)).mono ?_); rintro e w1 ⟨⟨hP, rfl⟩ | ⟨hP, rfl⟩, hx1⟩ <;> (first | exact absurd a1.out hP | exact absurd hP a1.out | exact absurd a2.out hP | exact absurd hP a2.out | (have hB1 := hBn.ext hx1; have hG1 := hGn.ext hx1; have f0 := hB1.cell (i := 0) (v := .int .i64 p) rfl; have f1 := hB1.cell (i := 1) (v := .int .i64 t) rfl; have f2 := hB1.cell (i := 2) (v := .int .i64 q) rfl; have f3 := hB1.cell (i := 3) (v := .int .i64 b) rfl; have f4 := hB1.cell (i := 4) (v := .int .i64 d) rfl; have f5 := hB1.cell (i := 5) (v := .int .i64 l) rfl; have g0 := hG1.cell (i := 0) (v := .int .i64 R) rfl; have g1 := hG1.cell (i := 1) (v := .int .i64 C) rfl; have g2 := hG1.cell (i := 2) (v := .slice a xs.length k) rfl; replace hxn := hxn.trans hx1; replace hBn := hB1; replace hGn := hG1; clear hP)))
        all_goals go_ret
        all_goals exact ⟨isB_f DT.out, hxn⟩
    · have a2 : True := trivial
      have DT : ¬ DP := fun h => by have := hdef.out.1 h; exact this.elim (fun z => a1 z.1) (fun z => hkb z.2.1)
      replace DT := Lib.hid DT
      replace a1 := Lib.hid a1; replace a2 := Lib.hid a2
      go_enter Try.func48, Try.ntmps48
      go_wp2
      go_quiet (fail)
      have hxn : Ext w (((w.alloc (.cells #[.int .i64 R, .int .i64 C, .slice a xs.length k] 26)).alloc (.cells #[.int .i64 p, .int .i64 t, .int .i64 q, .int .i64 b, .int .i64 d, .int .i64 l] 28)).drewN nq) := hx0.drewN nq
      have hBn := hB.drewN nq
      have hGn := hG.drewN nq
      generalize ((w.alloc (.cells #[.int .i64 R, .int .i64 C, .slice a xs.length k] 26)).alloc (.cells #[.int .i64 p, .int .i64 t, .int .i64 q, .int .i64 b, .int .i64 d, .int .i64 l] 28)).drewN nq = wq at *
      have f0 := hBn.cell (i := 0) (v := .int .i64 p) rfl; have f1 := hBn.cell (i := 1) (v := .int .i64 t) rfl; have f2 := hBn.cell (i := 2) (v := .int .i64 q) rfl; have f3 := hBn.cell (i := 3) (v := .int .i64 b) rfl; have f4 := hBn.cell (i := 4) (v := .int .i64 d) rfl; have f5 := hBn.cell (i := 5) (v := .int .i64 l) rfl; have g0 := hGn.cell (i := 0) (v := .int .i64 R) rfl; have g1 := hGn.cell (i := 1) (v := .int .i64 C) rfl; have g2 := hGn.cell (i := 2) (v := .slice a xs.length k) rfl
      go_wp2_with (go_at_call 87; (with_reducible refine (hdk.out _ _ _ (HX.out.ext hxn)).mono ?_); rintro e w1 ⟨⟨hP, rfl⟩ | ⟨hP, rfl⟩, hx1⟩ <;> (first | exact absurd a1.out hP | exact absurd hP a1.out | exact absurd a2.out hP | exact absurd hP a2.out | (have hB1 := hBn.ext hx1; have hG1 := hGn.ext hx1; have f0 := hB1.cell (i := 0) (v := .int .i64 p) rfl; have f1 := hB1.cell (i := 1) (v := .int .i64 t) rfl; have f2 := hB1.cell (i := 2) (v := .int .i64 q) rfl; have f3 := hB1.cell (i := 3) (v := .int .i64 b) rfl; have f4 := hB1.cell (i := 4) (v := .int .i64 d) rfl; have f5 := hB1.cell (i := 5) (v := .int .i64 l) rfl; have g0 := hG1.cell (i := 0) (v := .int .i64 R) rfl; have g1 := hG1.cell (i := 1) (v := .int .i64 C) rfl; have g2 := hG1.cell (i := 2) (v := .slice a xs.length k) rfl; replace hxn := hxn.trans hx1; replace hBn := hB1; replace hGn := hG1; clear hP)))
      all_goals go_ret
      all_goals exact ⟨isB_f DT.out, hxn⟩
end Go.Proofs.Ytamgbmoeanmfaaa

/-! Printed rasters. -/
namespace Go.Proofs.Ytamgbmoeanmfaaa
set_option linter.unusedVariables false
set_option linter.unusedSimpArgs false
open Go.RowKit

section
variable {Q : Exit → Act → World → Prop} {K : Act → World → Prop} {a : Act} {dst : Option Tmp} {s x : Operand} {ty : TypeId} {pos : String} {after : Array Edge} {B : Nat} {w0 : World} {v : Value} {xs : List Int} {n : Int}
theorem append1I_op (hown : RowI B w0 v xs) (hlen : xs.length < 1099511627775) (hB : B ≤ w0.heap.size)
    (h : ∀ v' w', RowI B w' v' (xs ++ [n]) → Grew v w0 w' v' → K (a.put dst v') w') (hs : a.eval s = v) (hx : a.eval x = .slice (some ⟨w0.heap.size, 0, none⟩) 1 1) :
    Oper.wp Try.prog ⟨dst, .call { callee := .builtin .append, args := #[s, x], argTypes := #[24, 24] }, ty, pos, after, none⟩ a (w0.alloc (.cells #[.int .i64 n] 2)) K Q := by
  obtain ⟨i0, hi, hz0, hz1, hz2⟩ := info_parts infoInt
  have hnews : ∀ j u, [Value.int .i64 n][j]? = some u → (w0.alloc (.cells #[.int .i64 n] 2)).cell? ((⟨w0.heap.size, 0, none⟩ : Addr).add j) = some u := by
    intro j u hj
    match j, hj with
    | 0, hj =>
      simp at hj
      subst hj
      have : (w0.alloc (.cells #[.int .i64 n] 2)).heap[w0.heap.size]? = some (.cells #[.int .i64 n] 2) := (MapKept.heap_alloc w0 _).1
      simp only [World.cell?, Addr.add, if_true, this]
      rfl
    | j + 1, hj => simp at hj
  have hone : ∀ u ∈ [Value.int .i64 n], u.oneCell' = true := by
    intro u hu
    simp at hu
    subst hu
    rfl
  obtain ⟨v', w', hr, h2, h3⟩ := run_append_own2 (w := w0.alloc (.cells #[.int .i64 n] 2)) B 24 ty 2 i0 (.int .i64 0) 1 8 Try.underlying24 hi hz0 hz1 hz2 rfl (by decide) v xs.length (xs.map (Value.int .i64)) (World.ownsRow.alloc hown _) ⟨w0.heap.size, 0, none⟩ 1 1 [.int .i64 n] rfl hnews hone (by unfold maxLen; omega) (by omega) (by simp; omega)
  unfold Oper.wp execOp
  simp only [resolve, invoke, builtin, Sem.run_bind, Sem.run_pure, Result.andThen_ok, List.map_toArray, List.map_cons, List.map_nil, hs, hx, hr]
  refine h v' w' ?_ h3.alloc
  have e : (xs ++ [n]).length = xs.length + 1 := by simp
  unfold RowI
  rw [e]
  simpa using h2
end
theorem RowI.roomR {B : Nat} {w : World} (hB : B ≤ w.heap.size) (z : Array Value) (n : Nat) (hz : z.size = 1) (hn : n ≤ maxLen) : RowI B (w.alloc (.cells (madeCells z n) 2)) (.slice (some ⟨w.heap.size, 0, none⟩) 0 n) [] :=
  World.ownsRow_made w _ n hB hn (by simp [size_madeCells, hz])
/-- The first n pixels of a raster of v columns. -/
def pxl (f : Int → Int → Int) (v n : Nat) : List Int := (List.range n).map fun i => f ((i / v : Nat) : Int) ((i % v : Nat) : Int)
theorem pxl_len (f : Int → Int → Int) (v n : Nat) : (pxl f v n).length = n := by simp [pxl]
theorem pxl_succ (f : Int → Int → Int) {v r c : Nat} (hc : c < v) : pxl f v (r * v + c + 1) = pxl f v (r * v + c) ++ [f r c] := by
  have h1 : (r * v + c) / v = r := by rw [Nat.add_comm, Nat.add_mul_div_right _ _ (by omega), Nat.div_eq_of_lt hc, Nat.zero_add]
  have h2 : (r * v + c) % v = c := by rw [Nat.add_comm, Nat.add_mul_mod_self_right, Nat.mod_eq_of_lt hc]
  simp only [pxl, List.range_succ, List.map_append, List.map_cons, List.map_nil, h1, h2]
set_option maxHeartbeats 1600000 in
set_option maxRecDepth 100000 in
theorem raster_c (H V : Nat) (p t q b d l : Int) (R C : Nat) (a : Option Addr) (k : Nat) (xs : List Int) (w : World) (hx : IntsAt w a xs) (hl : xs.length = R * C) (h4 : R * C ≤ 40000) (hR : 1 ≤ R ∧ R ≤ 40000) (hC : 1 ≤ C ∧ C ≤ 40000) (hpr : IsPrint p t q b d l) (hH : 1 ≤ H ∧ H ≤ 400) (hV : 1 ≤ V ∧ V ≤ 400) (hM4 : H * V ≤ 40000) :
    Calls Try.prog 43 #[.int .i64 H, .int .i64 V, .func (.func 44) #[vPress H V p t q b d l R C a xs.length k] #[]] w fun e w' => (∃ v, e = .returned (.agg #[.int .i64 H, .int .i64 V, v]) ∧ RowI w.heap.size w' v (pxl (pxV p t q b d l R C xs) V (H * V))) ∧ Ext w w' := by
  have HX := Lib.hid hx; clear hx
  obtain ⟨M, hM⟩ : ∃ M : Nat, H * V = M := ⟨_, rfl⟩
  have e1 : (H : Int) * (V : Int) = (M : Int) := by rw [← hM]; simp
  rw [hM] at hM4 ⊢
  have e2 := IntWalk.i64_in (M : Int) (by omega)
  have hpx := Lib.hid (fun W y x (h0 : IntsAt W a xs) (h1 : 0 ≤ y ∧ y ≤ 400) (h2 : 0 ≤ x ∧ x ≤ 400) => iPixel_c H V p t q b d l R C a k xs y x W h0 hl h4 hR hC hpr h1 h2)
  replace hl := Lib.hid hl
  replace hM := Lib.hid hM
  have hpl := Lib.hid (fun n => pxl_len (pxV p t q b d l R C xs) V n)
  have hps := Lib.hid (fun (r c : Nat) (hc : c < V) => pxl_succ (pxV p t q b d l R C xs) (v := V) (r := r) (c := c) hc)
  have hI1 : Try.prog.underlying 24 = some (.slice 2) := by kernel_rfl
  have hI2 := infoInt
  have hmf : ∀ (fn : Fn) (first cap : Array Value) (w : World), (Instr.makeFunc fn first cap).run Try.prog w = .ok (.func fn first cap) w := fun _ _ _ _ => rfl
  have hres := ((Blk.new w #[.int .i64 0, .int .i64 0, .slice none 0 0] 32).alloc (.cells (madeCells #[.int .i64 0] M) 2)).alloc (.cells #[.int .i64 H, .int .i64 V, .slice (some ⟨w.heap.size + 1, 0, none⟩) 0 M] 32)
  have hbx := Blk.new ((w.alloc (.cells #[.int .i64 0, .int .i64 0, .slice none 0 0] 32)).alloc (.cells (madeCells #[.int .i64 0] M) 2)) #[.int .i64 H, .int .i64 V, .slice (some ⟨w.heap.size + 1, 0, none⟩) 0 M] 32
  have hrow := (RowI.roomR (B := w.heap.size + 1) (w := w.alloc (.cells #[.int .i64 0, .int .i64 0, .slice none 0 0] 32)) (by simp) #[.int .i64 0] M rfl (by unfold maxLen; omega)).alloc (.cells #[.int .i64 H, .int .i64 V, .slice (some ⟨w.heap.size + 1, 0, none⟩) 0 M] 32)
  have hx0 : Ext w (((w.alloc (.cells #[.int .i64 0, .int .i64 0, .slice none 0 0] 32)).alloc (.cells (madeCells #[.int .i64 0] M) 2)).alloc (.cells #[.int .i64 H, .int .i64 V, .slice (some ⟨w.heap.size + 1, 0, none⟩) 0 M] 32)) := (((Ext.refl w).alloc _).alloc _).alloc _
  simp only [World.size_alloc] at hrow hbx
  generalize hf : pxV p t q b d l R C xs = f at *
  replace hf := Lib.hid hf
  go_enter Try.func43, Try.ntmps43
  go_wp2_with (at_make; go_loud (refine make_cap hI1 hI2 M rfl rfl (by omega) (by omega) ?_))
  generalize (((w.alloc (.cells #[.int .i64 0, .int .i64 0, .slice none 0 0] 32)).alloc (.cells (madeCells #[.int .i64 0] M) 2)).alloc (.cells #[.int .i64 H, .int .i64 V, .slice (some ⟨w.heap.size + 1, 0, none⟩) 0 M] 32)) = w0 at *
  have hhv : H ≤ 400 ∧ V ≤ 400 := by omega
  go_loopw [8, 9] (fun i _ wr => ∃ (r : Nat) (out : Value), r ≤ H ∧ i = .int .i64 r ∧ RowI (w.heap.size + 1) wr out (pxl f V (r * V)) ∧ out.ownBlock ≠ some (w.heap.size + 1 + 1) ∧ Blk wr w.heap.size #[.int .i64 0, .int .i64 0, .slice none 0 0] 32 ∧ Blk wr (w.heap.size + 1 + 1) #[.int .i64 H, .int .i64 V, out] 32 ∧ Ext w wr) (fun i _ _ => H - (intOf i).toNat)
  case atStart => exact ⟨0, _, Nat.zero_le _, rfl, by rw [Nat.zero_mul]; exact hrow, by simp [Value.ownBlock], hres, hbx, hx0⟩
  case round =>
    clear hrow hres hbx hx0
    obtain ⟨r, out, hr, rfl, hown, hob, hres, hbx, hext⟩ := hrel
    by_cases hlt : r < H
    · have hri : (r : Int) < H := by omega
      obtain ⟨wo, rfl⟩ : ∃ wo : World, wo = wr := ⟨_, rfl⟩
      go_wp2
      go_loopw [9] (fun j wr => ∃ (c : Nat) (out : Value), c ≤ V ∧ j = .int .i64 c ∧ RowI (w.heap.size + 1) wr out (pxl f V (r * V + c)) ∧ out.ownBlock ≠ some (w.heap.size + 1 + 1) ∧ Blk wr w.heap.size #[.int .i64 0, .int .i64 0, .slice none 0 0] 32 ∧ Blk wr (w.heap.size + 1 + 1) #[.int .i64 H, .int .i64 V, out] 32 ∧ Ext w wr) (fun j _ => V - (intOf j).toNat)
      case atStart => exact ⟨0, out, Nat.zero_le _, rfl, hown, hob, hres, hbx, hext⟩
      case round =>
        clear hown hob hres hbx hext
        obtain ⟨c, out, hc, rfl, hown, hob, hres, hbx, hext⟩ := hrel
        by_cases hlc : c < V
        · have hci : (c : Int) < V := by omega
          have hps1 := hps.out r c hlc
          have hpl1 := hpl.out (r * V + c)
          have hsz : r * V + c < 1099511627775 := by
            have : (r + 1) * V ≤ H * V := Nat.mul_le_mul_right _ hlt
            rw [Nat.add_mul, Nat.one_mul, hM.out] at this
            omega
          generalize pxl f V (r * V + c) = L at *
          replace hps1 := Lib.hid hps1
          replace hpl1 := Lib.hid hpl1
          have hpx1 := Lib.hid (fun W h0 => hpx.out W (r : Int) (c : Int) h0 (by omega) (by omega))
          generalize f r c = fv at *
          have b2 := hbx.cell (i := 2) (v := out) rfl; have bl := hbx.lt; have bf := hbx.free
          have hze := hext.below.size
          go_wp2_with fail
          refine wp_region_ct (fun w' => True) (.st 0 (.st 2 (.st 3 (.st 4 (.two 1 (.one 5 (.one 6 (.one 7 (.st 8 (.one 9 .done))))) 5 (.two 1 (.one 6 (.one 7 (.st 8 (.one 9 .done)))) 6 (.one 1 (.one 7 (.st 8 (.one 9 .done)))))))))) (by kernel_rfl) (by kernel_rfl) (by decide) (by kernel_rfl) ?_ ?_
          · exact trivial
          refine ct_intro fun ops eo => ?_
          have ho0 := canon_at eo 0 rfl
          have ho1 := canon_at eo 1 rfl
          have ho2 := canon_at eo 2 rfl
          have ho3 := canon_at eo 3 rfl
          have ho4 := canon_at eo 4 rfl
          have ho5 := canon_at eo 5 rfl
          have ho6 := canon_at eo 6 rfl
          have ho7 := canon_at eo 7 rfl
          have ho8 := canon_at eo 8 rfl
          have ho9 := canon_at eo 9 rfl
          clear eo
          all_goals (apply ct_st ho0 rfl; (intro w2 hS; first | (go_simp; first | done | rfl) | rfl | (skip; go_simp; first | done | rfl)); simp only [Act.put, List.setIfInBounds_toArray, List.set_cons_zero, List.set_cons_succ])
          all_goals clear ho0
          all_goals (apply ct_st ho2 rfl; (intro w2 hS; first | (go_simp; first | done | rfl) | rfl | (skip; go_simp; first | done | rfl)); simp only [Act.put, List.setIfInBounds_toArray, List.set_cons_zero, List.set_cons_succ])
          all_goals clear ho2
          all_goals (apply ct_st ho3 rfl; (intro w2 hS; first | (go_simp; first | done | rfl) | rfl | (skip; go_simp; first | done | rfl)); simp only [Act.put, List.setIfInBounds_toArray, List.set_cons_zero, List.set_cons_succ])
          all_goals clear ho3
          all_goals (apply ct_st ho4 rfl; (intro w2 hS; first | (go_simp; first | done | rfl) | rfl | (skip; go_simp; first | done | rfl)); simp only [Act.put, List.setIfInBounds_toArray, List.set_cons_zero, List.set_cons_succ])
          all_goals clear ho4
          all_goals
            refine ct_two ?_ ?_
            focus
              all_goals first | (refine ct_op ho1 rfl (fun K hK => ?_); go_simp; ((go_at_call 44; (with_reducible refine (hpx1.out _ (HX.out.ext (hext.trans (by repeat (first | exact Ext.refl _ | assumption | refine Ext.drew ?_ | refine Ext.drewN ?_ _ | refine Ext.iter ?_ _ _ | refine Ext.alloc ?_ _ | refine Ext.setCell ?_ (by first | exact Nat.le_refl _ | (simp <;> omega)) _ | refine Ext.trans2 (by assumption) ?_))))).mono ?_); rintro e w1 ⟨rfl, hx1⟩; have hE1 : Ext wr w1 := Ext.trans2 hx1 (by repeat (first | exact Ext.refl _ | assumption | refine Ext.drew ?_ | refine Ext.drewN ?_ _ | refine Ext.iter ?_ _ _ | refine Ext.alloc ?_ _ | refine Ext.setCell ?_ (by first | exact Nat.le_refl _ | (simp <;> omega)) _ | refine Ext.trans2 (by assumption) ?_)); have hown1 := hown.ext hE1; have hbx1 := hbx.ext hE1; have hres1 := hres.ext hE1; have hext1 := hext.trans hE1; have hze1 := hext1.below.size; have d2 := hbx1.cell (i := 2) (v := out) rfl; have dl := hbx1.lt; have df := hbx1.free)); all_goals (refine hK _ _ ⟨trivial, ?_⟩; clear hK K; go_simp)) | (refine ct_op ho1 rfl (fun K hK => ?_); (refine append1I_op (hown1.ext (by repeat (first | exact Ext.refl _ | assumption | refine Ext.drew ?_ | refine Ext.drewN ?_ _ | refine Ext.iter ?_ _ _ | refine Ext.alloc ?_ _ | refine Ext.setCell ?_ (by first | exact Nat.le_refl _ | (simp <;> omega)) _ | refine Ext.trans2 (by assumption) ?_))) (by have := hpl1.out; omega) (by first | omega | (simp; omega)) ?_ rfl rfl; intro v3 w4 hown3 hg3; have hb3 := hg3.below (B := w.heap.size + 1) (fun k hk => (hown1.lt k hk).1) (by first | omega | (simp; omega)); have hbx4 := Blk.grew (hbx1.ext (by repeat (first | exact Ext.refl _ | assumption | refine Ext.drew ?_ | refine Ext.drewN ?_ _ | refine Ext.iter ?_ _ _ | refine Ext.alloc ?_ _ | refine Ext.setCell ?_ (by first | exact Nat.le_refl _ | (simp <;> omega)) _ | refine Ext.trans2 (by assumption) ?_))) hg3 hob; have hres4 := Blk.low (hres1.ext (by repeat (first | exact Ext.refl _ | assumption | refine Ext.drew ?_ | refine Ext.drewN ?_ _ | refine Ext.iter ?_ _ _ | refine Ext.alloc ?_ _ | refine Ext.setCell ?_ (by first | exact Nat.le_refl _ | (simp <;> omega)) _ | refine Ext.trans2 (by assumption) ?_))) hb3 (by omega); have hext4 := Ext.low (hext1.trans (by repeat (first | exact Ext.refl _ | assumption | refine Ext.drew ?_ | refine Ext.drewN ?_ _ | refine Ext.iter ?_ _ _ | refine Ext.alloc ?_ _ | refine Ext.setCell ?_ (by first | exact Nat.le_refl _ | (simp <;> omega)) _ | refine Ext.trans2 (by assumption) ?_))) hb3 (by omega); have hob4 : v3.ownBlock ≠ some (w.heap.size + 1 + 1) := (fun e => by rcases hg3.own _ e with h9 | h9; exact hob h9; (first | omega | (simp at h9; omega))); generalize L ++ [fv] = L2 at *; obtain ⟨po, co, rfl, -, -⟩ := hown3.ownC; have t2 := hbx4.cell (i := 2) (v := out) rfl; have tl := hbx4.lt; have tf := hbx4.free; clear b2 bl bf d2 dl df); all_goals (refine hK _ _ ⟨trivial, ?_⟩; clear hK K; go_simp)) | (refine ct_op ho1 rfl (fun K hK => ?_); go_simp; (skip); all_goals (refine hK _ _ ⟨trivial, ?_⟩; clear hK K; go_simp))
              all_goals clear ho1
              all_goals refine ct_one ?_
              all_goals first | (refine ct_op ho5 rfl (fun K hK => ?_); go_simp; ((go_at_call 44; (with_reducible refine (hpx1.out _ (HX.out.ext (hext.trans (by repeat (first | exact Ext.refl _ | assumption | refine Ext.drew ?_ | refine Ext.drewN ?_ _ | refine Ext.iter ?_ _ _ | refine Ext.alloc ?_ _ | refine Ext.setCell ?_ (by first | exact Nat.le_refl _ | (simp <;> omega)) _ | refine Ext.trans2 (by assumption) ?_))))).mono ?_); rintro e w1 ⟨rfl, hx1⟩; have hE1 : Ext wr w1 := Ext.trans2 hx1 (by repeat (first | exact Ext.refl _ | assumption | refine Ext.drew ?_ | refine Ext.drewN ?_ _ | refine Ext.iter ?_ _ _ | refine Ext.alloc ?_ _ | refine Ext.setCell ?_ (by first | exact Nat.le_refl _ | (simp <;> omega)) _ | refine Ext.trans2 (by assumption) ?_)); have hown1 := hown.ext hE1; have hbx1 := hbx.ext hE1; have hres1 := hres.ext hE1; have hext1 := hext.trans hE1; have hze1 := hext1.below.size; have d2 := hbx1.cell (i := 2) (v := out) rfl; have dl := hbx1.lt; have df := hbx1.free)); all_goals (refine hK _ _ ⟨trivial, ?_⟩; clear hK K; go_simp)) | (refine ct_op ho5 rfl (fun K hK => ?_); (refine append1I_op (hown1.ext (by repeat (first | exact Ext.refl _ | assumption | refine Ext.drew ?_ | refine Ext.drewN ?_ _ | refine Ext.iter ?_ _ _ | refine Ext.alloc ?_ _ | refine Ext.setCell ?_ (by first | exact Nat.le_refl _ | (simp <;> omega)) _ | refine Ext.trans2 (by assumption) ?_))) (by have := hpl1.out; omega) (by first | omega | (simp; omega)) ?_ rfl rfl; intro v3 w4 hown3 hg3; have hb3 := hg3.below (B := w.heap.size + 1) (fun k hk => (hown1.lt k hk).1) (by first | omega | (simp; omega)); have hbx4 := Blk.grew (hbx1.ext (by repeat (first | exact Ext.refl _ | assumption | refine Ext.drew ?_ | refine Ext.drewN ?_ _ | refine Ext.iter ?_ _ _ | refine Ext.alloc ?_ _ | refine Ext.setCell ?_ (by first | exact Nat.le_refl _ | (simp <;> omega)) _ | refine Ext.trans2 (by assumption) ?_))) hg3 hob; have hres4 := Blk.low (hres1.ext (by repeat (first | exact Ext.refl _ | assumption | refine Ext.drew ?_ | refine Ext.drewN ?_ _ | refine Ext.iter ?_ _ _ | refine Ext.alloc ?_ _ | refine Ext.setCell ?_ (by first | exact Nat.le_refl _ | (simp <;> omega)) _ | refine Ext.trans2 (by assumption) ?_))) hb3 (by omega); have hext4 := Ext.low (hext1.trans (by repeat (first | exact Ext.refl _ | assumption | refine Ext.drew ?_ | refine Ext.drewN ?_ _ | refine Ext.iter ?_ _ _ | refine Ext.alloc ?_ _ | refine Ext.setCell ?_ (by first | exact Nat.le_refl _ | (simp <;> omega)) _ | refine Ext.trans2 (by assumption) ?_))) hb3 (by omega); have hob4 : v3.ownBlock ≠ some (w.heap.size + 1 + 1) := (fun e => by rcases hg3.own _ e with h9 | h9; exact hob h9; (first | omega | (simp at h9; omega))); generalize L ++ [fv] = L2 at *; obtain ⟨po, co, rfl, -, -⟩ := hown3.ownC; have t2 := hbx4.cell (i := 2) (v := out) rfl; have tl := hbx4.lt; have tf := hbx4.free; clear b2 bl bf d2 dl df); all_goals (refine hK _ _ ⟨trivial, ?_⟩; clear hK K; go_simp)) | (refine ct_op ho5 rfl (fun K hK => ?_); go_simp; (skip); all_goals (refine hK _ _ ⟨trivial, ?_⟩; clear hK K; go_simp))
              all_goals clear ho5
              all_goals refine ct_one ?_
              all_goals first | (refine ct_op ho6 rfl (fun K hK => ?_); go_simp; ((go_at_call 44; (with_reducible refine (hpx1.out _ (HX.out.ext (hext.trans (by repeat (first | exact Ext.refl _ | assumption | refine Ext.drew ?_ | refine Ext.drewN ?_ _ | refine Ext.iter ?_ _ _ | refine Ext.alloc ?_ _ | refine Ext.setCell ?_ (by first | exact Nat.le_refl _ | (simp <;> omega)) _ | refine Ext.trans2 (by assumption) ?_))))).mono ?_); rintro e w1 ⟨rfl, hx1⟩; have hE1 : Ext wr w1 := Ext.trans2 hx1 (by repeat (first | exact Ext.refl _ | assumption | refine Ext.drew ?_ | refine Ext.drewN ?_ _ | refine Ext.iter ?_ _ _ | refine Ext.alloc ?_ _ | refine Ext.setCell ?_ (by first | exact Nat.le_refl _ | (simp <;> omega)) _ | refine Ext.trans2 (by assumption) ?_)); have hown1 := hown.ext hE1; have hbx1 := hbx.ext hE1; have hres1 := hres.ext hE1; have hext1 := hext.trans hE1; have hze1 := hext1.below.size; have d2 := hbx1.cell (i := 2) (v := out) rfl; have dl := hbx1.lt; have df := hbx1.free)); all_goals (refine hK _ _ ⟨trivial, ?_⟩; clear hK K; go_simp)) | (refine ct_op ho6 rfl (fun K hK => ?_); (refine append1I_op (hown1.ext (by repeat (first | exact Ext.refl _ | assumption | refine Ext.drew ?_ | refine Ext.drewN ?_ _ | refine Ext.iter ?_ _ _ | refine Ext.alloc ?_ _ | refine Ext.setCell ?_ (by first | exact Nat.le_refl _ | (simp <;> omega)) _ | refine Ext.trans2 (by assumption) ?_))) (by have := hpl1.out; omega) (by first | omega | (simp; omega)) ?_ rfl rfl; intro v3 w4 hown3 hg3; have hb3 := hg3.below (B := w.heap.size + 1) (fun k hk => (hown1.lt k hk).1) (by first | omega | (simp; omega)); have hbx4 := Blk.grew (hbx1.ext (by repeat (first | exact Ext.refl _ | assumption | refine Ext.drew ?_ | refine Ext.drewN ?_ _ | refine Ext.iter ?_ _ _ | refine Ext.alloc ?_ _ | refine Ext.setCell ?_ (by first | exact Nat.le_refl _ | (simp <;> omega)) _ | refine Ext.trans2 (by assumption) ?_))) hg3 hob; have hres4 := Blk.low (hres1.ext (by repeat (first | exact Ext.refl _ | assumption | refine Ext.drew ?_ | refine Ext.drewN ?_ _ | refine Ext.iter ?_ _ _ | refine Ext.alloc ?_ _ | refine Ext.setCell ?_ (by first | exact Nat.le_refl _ | (simp <;> omega)) _ | refine Ext.trans2 (by assumption) ?_))) hb3 (by omega); have hext4 := Ext.low (hext1.trans (by repeat (first | exact Ext.refl _ | assumption | refine Ext.drew ?_ | refine Ext.drewN ?_ _ | refine Ext.iter ?_ _ _ | refine Ext.alloc ?_ _ | refine Ext.setCell ?_ (by first | exact Nat.le_refl _ | (simp <;> omega)) _ | refine Ext.trans2 (by assumption) ?_))) hb3 (by omega); have hob4 : v3.ownBlock ≠ some (w.heap.size + 1 + 1) := (fun e => by rcases hg3.own _ e with h9 | h9; exact hob h9; (first | omega | (simp at h9; omega))); generalize L ++ [fv] = L2 at *; obtain ⟨po, co, rfl, -, -⟩ := hown3.ownC; have t2 := hbx4.cell (i := 2) (v := out) rfl; have tl := hbx4.lt; have tf := hbx4.free; clear b2 bl bf d2 dl df); all_goals (refine hK _ _ ⟨trivial, ?_⟩; clear hK K; go_simp)) | (refine ct_op ho6 rfl (fun K hK => ?_); go_simp; (skip); all_goals (refine hK _ _ ⟨trivial, ?_⟩; clear hK K; go_simp))
              all_goals clear ho6
              all_goals refine ct_one ?_
              all_goals first | (refine ct_op ho7 rfl (fun K hK => ?_); go_simp; ((go_at_call 44; (with_reducible refine (hpx1.out _ (HX.out.ext (hext.trans (by repeat (first | exact Ext.refl _ | assumption | refine Ext.drew ?_ | refine Ext.drewN ?_ _ | refine Ext.iter ?_ _ _ | refine Ext.alloc ?_ _ | refine Ext.setCell ?_ (by first | exact Nat.le_refl _ | (simp <;> omega)) _ | refine Ext.trans2 (by assumption) ?_))))).mono ?_); rintro e w1 ⟨rfl, hx1⟩; have hE1 : Ext wr w1 := Ext.trans2 hx1 (by repeat (first | exact Ext.refl _ | assumption | refine Ext.drew ?_ | refine Ext.drewN ?_ _ | refine Ext.iter ?_ _ _ | refine Ext.alloc ?_ _ | refine Ext.setCell ?_ (by first | exact Nat.le_refl _ | (simp <;> omega)) _ | refine Ext.trans2 (by assumption) ?_)); have hown1 := hown.ext hE1; have hbx1 := hbx.ext hE1; have hres1 := hres.ext hE1; have hext1 := hext.trans hE1; have hze1 := hext1.below.size; have d2 := hbx1.cell (i := 2) (v := out) rfl; have dl := hbx1.lt; have df := hbx1.free)); all_goals (refine hK _ _ ⟨trivial, ?_⟩; clear hK K; go_simp)) | (refine ct_op ho7 rfl (fun K hK => ?_); (refine append1I_op (hown1.ext (by repeat (first | exact Ext.refl _ | assumption | refine Ext.drew ?_ | refine Ext.drewN ?_ _ | refine Ext.iter ?_ _ _ | refine Ext.alloc ?_ _ | refine Ext.setCell ?_ (by first | exact Nat.le_refl _ | (simp <;> omega)) _ | refine Ext.trans2 (by assumption) ?_))) (by have := hpl1.out; omega) (by first | omega | (simp; omega)) ?_ rfl rfl; intro v3 w4 hown3 hg3; have hb3 := hg3.below (B := w.heap.size + 1) (fun k hk => (hown1.lt k hk).1) (by first | omega | (simp; omega)); have hbx4 := Blk.grew (hbx1.ext (by repeat (first | exact Ext.refl _ | assumption | refine Ext.drew ?_ | refine Ext.drewN ?_ _ | refine Ext.iter ?_ _ _ | refine Ext.alloc ?_ _ | refine Ext.setCell ?_ (by first | exact Nat.le_refl _ | (simp <;> omega)) _ | refine Ext.trans2 (by assumption) ?_))) hg3 hob; have hres4 := Blk.low (hres1.ext (by repeat (first | exact Ext.refl _ | assumption | refine Ext.drew ?_ | refine Ext.drewN ?_ _ | refine Ext.iter ?_ _ _ | refine Ext.alloc ?_ _ | refine Ext.setCell ?_ (by first | exact Nat.le_refl _ | (simp <;> omega)) _ | refine Ext.trans2 (by assumption) ?_))) hb3 (by omega); have hext4 := Ext.low (hext1.trans (by repeat (first | exact Ext.refl _ | assumption | refine Ext.drew ?_ | refine Ext.drewN ?_ _ | refine Ext.iter ?_ _ _ | refine Ext.alloc ?_ _ | refine Ext.setCell ?_ (by first | exact Nat.le_refl _ | (simp <;> omega)) _ | refine Ext.trans2 (by assumption) ?_))) hb3 (by omega); have hob4 : v3.ownBlock ≠ some (w.heap.size + 1 + 1) := (fun e => by rcases hg3.own _ e with h9 | h9; exact hob h9; (first | omega | (simp at h9; omega))); generalize L ++ [fv] = L2 at *; obtain ⟨po, co, rfl, -, -⟩ := hown3.ownC; have t2 := hbx4.cell (i := 2) (v := out) rfl; have tl := hbx4.lt; have tf := hbx4.free; clear b2 bl bf d2 dl df); all_goals (refine hK _ _ ⟨trivial, ?_⟩; clear hK K; go_simp)) | (refine ct_op ho7 rfl (fun K hK => ?_); go_simp; (skip); all_goals (refine hK _ _ ⟨trivial, ?_⟩; clear hK K; go_simp))
              all_goals clear ho7
              all_goals (apply ct_st ho8 rfl; (intro w2 hS; first | (go_simp; first | done | rfl) | rfl | (skip; go_simp; first | done | rfl)); simp only [Act.put, List.setIfInBounds_toArray, List.set_cons_zero, List.set_cons_succ])
              all_goals clear ho8
              all_goals refine ct_one ?_
              all_goals first | (refine ct_op ho9 rfl (fun K hK => ?_); go_simp; ((go_at_call 44; (with_reducible refine (hpx1.out _ (HX.out.ext (hext.trans (by repeat (first | exact Ext.refl _ | assumption | refine Ext.drew ?_ | refine Ext.drewN ?_ _ | refine Ext.iter ?_ _ _ | refine Ext.alloc ?_ _ | refine Ext.setCell ?_ (by first | exact Nat.le_refl _ | (simp <;> omega)) _ | refine Ext.trans2 (by assumption) ?_))))).mono ?_); rintro e w1 ⟨rfl, hx1⟩; have hE1 : Ext wr w1 := Ext.trans2 hx1 (by repeat (first | exact Ext.refl _ | assumption | refine Ext.drew ?_ | refine Ext.drewN ?_ _ | refine Ext.iter ?_ _ _ | refine Ext.alloc ?_ _ | refine Ext.setCell ?_ (by first | exact Nat.le_refl _ | (simp <;> omega)) _ | refine Ext.trans2 (by assumption) ?_)); have hown1 := hown.ext hE1; have hbx1 := hbx.ext hE1; have hres1 := hres.ext hE1; have hext1 := hext.trans hE1; have hze1 := hext1.below.size; have d2 := hbx1.cell (i := 2) (v := out) rfl; have dl := hbx1.lt; have df := hbx1.free)); all_goals (refine hK _ _ ⟨trivial, ?_⟩; clear hK K; go_simp)) | (refine ct_op ho9 rfl (fun K hK => ?_); (refine append1I_op (hown1.ext (by repeat (first | exact Ext.refl _ | assumption | refine Ext.drew ?_ | refine Ext.drewN ?_ _ | refine Ext.iter ?_ _ _ | refine Ext.alloc ?_ _ | refine Ext.setCell ?_ (by first | exact Nat.le_refl _ | (simp <;> omega)) _ | refine Ext.trans2 (by assumption) ?_))) (by have := hpl1.out; omega) (by first | omega | (simp; omega)) ?_ rfl rfl; intro v3 w4 hown3 hg3; have hb3 := hg3.below (B := w.heap.size + 1) (fun k hk => (hown1.lt k hk).1) (by first | omega | (simp; omega)); have hbx4 := Blk.grew (hbx1.ext (by repeat (first | exact Ext.refl _ | assumption | refine Ext.drew ?_ | refine Ext.drewN ?_ _ | refine Ext.iter ?_ _ _ | refine Ext.alloc ?_ _ | refine Ext.setCell ?_ (by first | exact Nat.le_refl _ | (simp <;> omega)) _ | refine Ext.trans2 (by assumption) ?_))) hg3 hob; have hres4 := Blk.low (hres1.ext (by repeat (first | exact Ext.refl _ | assumption | refine Ext.drew ?_ | refine Ext.drewN ?_ _ | refine Ext.iter ?_ _ _ | refine Ext.alloc ?_ _ | refine Ext.setCell ?_ (by first | exact Nat.le_refl _ | (simp <;> omega)) _ | refine Ext.trans2 (by assumption) ?_))) hb3 (by omega); have hext4 := Ext.low (hext1.trans (by repeat (first | exact Ext.refl _ | assumption | refine Ext.drew ?_ | refine Ext.drewN ?_ _ | refine Ext.iter ?_ _ _ | refine Ext.alloc ?_ _ | refine Ext.setCell ?_ (by first | exact Nat.le_refl _ | (simp <;> omega)) _ | refine Ext.trans2 (by assumption) ?_))) hb3 (by omega); have hob4 : v3.ownBlock ≠ some (w.heap.size + 1 + 1) := (fun e => by rcases hg3.own _ e with h9 | h9; exact hob h9; (first | omega | (simp at h9; omega))); generalize L ++ [fv] = L2 at *; obtain ⟨po, co, rfl, -, -⟩ := hown3.ownC; have t2 := hbx4.cell (i := 2) (v := out) rfl; have tl := hbx4.lt; have tf := hbx4.free; clear b2 bl bf d2 dl df); all_goals (refine hK _ _ ⟨trivial, ?_⟩; clear hK K; go_simp)) | (refine ct_op ho9 rfl (fun K hK => ?_); go_simp; (skip); all_goals (refine hK _ _ ⟨trivial, ?_⟩; clear hK K; go_simp))
              all_goals clear ho9
              all_goals refine ct_done (NoPanic.normal ?_)
            rotate_right 1
            focus
              all_goals first | (refine ct_op ho5 rfl (fun K hK => ?_); go_simp; ((go_at_call 44; (with_reducible refine (hpx1.out _ (HX.out.ext (hext.trans (by repeat (first | exact Ext.refl _ | assumption | refine Ext.drew ?_ | refine Ext.drewN ?_ _ | refine Ext.iter ?_ _ _ | refine Ext.alloc ?_ _ | refine Ext.setCell ?_ (by first | exact Nat.le_refl _ | (simp <;> omega)) _ | refine Ext.trans2 (by assumption) ?_))))).mono ?_); rintro e w1 ⟨rfl, hx1⟩; have hE1 : Ext wr w1 := Ext.trans2 hx1 (by repeat (first | exact Ext.refl _ | assumption | refine Ext.drew ?_ | refine Ext.drewN ?_ _ | refine Ext.iter ?_ _ _ | refine Ext.alloc ?_ _ | refine Ext.setCell ?_ (by first | exact Nat.le_refl _ | (simp <;> omega)) _ | refine Ext.trans2 (by assumption) ?_)); have hown1 := hown.ext hE1; have hbx1 := hbx.ext hE1; have hres1 := hres.ext hE1; have hext1 := hext.trans hE1; have hze1 := hext1.below.size; have d2 := hbx1.cell (i := 2) (v := out) rfl; have dl := hbx1.lt; have df := hbx1.free)); all_goals (refine hK _ _ ⟨trivial, ?_⟩; clear hK K; go_simp)) | (refine ct_op ho5 rfl (fun K hK => ?_); (refine append1I_op (hown1.ext (by repeat (first | exact Ext.refl _ | assumption | refine Ext.drew ?_ | refine Ext.drewN ?_ _ | refine Ext.iter ?_ _ _ | refine Ext.alloc ?_ _ | refine Ext.setCell ?_ (by first | exact Nat.le_refl _ | (simp <;> omega)) _ | refine Ext.trans2 (by assumption) ?_))) (by have := hpl1.out; omega) (by first | omega | (simp; omega)) ?_ rfl rfl; intro v3 w4 hown3 hg3; have hb3 := hg3.below (B := w.heap.size + 1) (fun k hk => (hown1.lt k hk).1) (by first | omega | (simp; omega)); have hbx4 := Blk.grew (hbx1.ext (by repeat (first | exact Ext.refl _ | assumption | refine Ext.drew ?_ | refine Ext.drewN ?_ _ | refine Ext.iter ?_ _ _ | refine Ext.alloc ?_ _ | refine Ext.setCell ?_ (by first | exact Nat.le_refl _ | (simp <;> omega)) _ | refine Ext.trans2 (by assumption) ?_))) hg3 hob; have hres4 := Blk.low (hres1.ext (by repeat (first | exact Ext.refl _ | assumption | refine Ext.drew ?_ | refine Ext.drewN ?_ _ | refine Ext.iter ?_ _ _ | refine Ext.alloc ?_ _ | refine Ext.setCell ?_ (by first | exact Nat.le_refl _ | (simp <;> omega)) _ | refine Ext.trans2 (by assumption) ?_))) hb3 (by omega); have hext4 := Ext.low (hext1.trans (by repeat (first | exact Ext.refl _ | assumption | refine Ext.drew ?_ | refine Ext.drewN ?_ _ | refine Ext.iter ?_ _ _ | refine Ext.alloc ?_ _ | refine Ext.setCell ?_ (by first | exact Nat.le_refl _ | (simp <;> omega)) _ | refine Ext.trans2 (by assumption) ?_))) hb3 (by omega); have hob4 : v3.ownBlock ≠ some (w.heap.size + 1 + 1) := (fun e => by rcases hg3.own _ e with h9 | h9; exact hob h9; (first | omega | (simp at h9; omega))); generalize L ++ [fv] = L2 at *; obtain ⟨po, co, rfl, -, -⟩ := hown3.ownC; have t2 := hbx4.cell (i := 2) (v := out) rfl; have tl := hbx4.lt; have tf := hbx4.free; clear b2 bl bf d2 dl df); all_goals (refine hK _ _ ⟨trivial, ?_⟩; clear hK K; go_simp)) | (refine ct_op ho5 rfl (fun K hK => ?_); go_simp; (skip); all_goals (refine hK _ _ ⟨trivial, ?_⟩; clear hK K; go_simp))
              all_goals clear ho5
              all_goals
                refine ct_two ?_ ?_
                focus
                  all_goals first | (refine ct_op ho1 rfl (fun K hK => ?_); go_simp; ((go_at_call 44; (with_reducible refine (hpx1.out _ (HX.out.ext (hext.trans (by repeat (first | exact Ext.refl _ | assumption | refine Ext.drew ?_ | refine Ext.drewN ?_ _ | refine Ext.iter ?_ _ _ | refine Ext.alloc ?_ _ | refine Ext.setCell ?_ (by first | exact Nat.le_refl _ | (simp <;> omega)) _ | refine Ext.trans2 (by assumption) ?_))))).mono ?_); rintro e w1 ⟨rfl, hx1⟩; have hE1 : Ext wr w1 := Ext.trans2 hx1 (by repeat (first | exact Ext.refl _ | assumption | refine Ext.drew ?_ | refine Ext.drewN ?_ _ | refine Ext.iter ?_ _ _ | refine Ext.alloc ?_ _ | refine Ext.setCell ?_ (by first | exact Nat.le_refl _ | (simp <;> omega)) _ | refine Ext.trans2 (by assumption) ?_)); have hown1 := hown.ext hE1; have hbx1 := hbx.ext hE1; have hres1 := hres.ext hE1; have hext1 := hext.trans hE1; have hze1 := hext1.below.size; have d2 := hbx1.cell (i := 2) (v := out) rfl; have dl := hbx1.lt; have df := hbx1.free)); all_goals (refine hK _ _ ⟨trivial, ?_⟩; clear hK K; go_simp)) | (refine ct_op ho1 rfl (fun K hK => ?_); (refine append1I_op (hown1.ext (by repeat (first | exact Ext.refl _ | assumption | refine Ext.drew ?_ | refine Ext.drewN ?_ _ | refine Ext.iter ?_ _ _ | refine Ext.alloc ?_ _ | refine Ext.setCell ?_ (by first | exact Nat.le_refl _ | (simp <;> omega)) _ | refine Ext.trans2 (by assumption) ?_))) (by have := hpl1.out; omega) (by first | omega | (simp; omega)) ?_ rfl rfl; intro v3 w4 hown3 hg3; have hb3 := hg3.below (B := w.heap.size + 1) (fun k hk => (hown1.lt k hk).1) (by first | omega | (simp; omega)); have hbx4 := Blk.grew (hbx1.ext (by repeat (first | exact Ext.refl _ | assumption | refine Ext.drew ?_ | refine Ext.drewN ?_ _ | refine Ext.iter ?_ _ _ | refine Ext.alloc ?_ _ | refine Ext.setCell ?_ (by first | exact Nat.le_refl _ | (simp <;> omega)) _ | refine Ext.trans2 (by assumption) ?_))) hg3 hob; have hres4 := Blk.low (hres1.ext (by repeat (first | exact Ext.refl _ | assumption | refine Ext.drew ?_ | refine Ext.drewN ?_ _ | refine Ext.iter ?_ _ _ | refine Ext.alloc ?_ _ | refine Ext.setCell ?_ (by first | exact Nat.le_refl _ | (simp <;> omega)) _ | refine Ext.trans2 (by assumption) ?_))) hb3 (by omega); have hext4 := Ext.low (hext1.trans (by repeat (first | exact Ext.refl _ | assumption | refine Ext.drew ?_ | refine Ext.drewN ?_ _ | refine Ext.iter ?_ _ _ | refine Ext.alloc ?_ _ | refine Ext.setCell ?_ (by first | exact Nat.le_refl _ | (simp <;> omega)) _ | refine Ext.trans2 (by assumption) ?_))) hb3 (by omega); have hob4 : v3.ownBlock ≠ some (w.heap.size + 1 + 1) := (fun e => by rcases hg3.own _ e with h9 | h9; exact hob h9; (first | omega | (simp at h9; omega))); generalize L ++ [fv] = L2 at *; obtain ⟨po, co, rfl, -, -⟩ := hown3.ownC; have t2 := hbx4.cell (i := 2) (v := out) rfl; have tl := hbx4.lt; have tf := hbx4.free; clear b2 bl bf d2 dl df); all_goals (refine hK _ _ ⟨trivial, ?_⟩; clear hK K; go_simp)) | (refine ct_op ho1 rfl (fun K hK => ?_); go_simp; (skip); all_goals (refine hK _ _ ⟨trivial, ?_⟩; clear hK K; go_simp))
                  all_goals clear ho1
                  all_goals refine ct_one ?_
                  all_goals first | (refine ct_op ho6 rfl (fun K hK => ?_); go_simp; ((go_at_call 44; (with_reducible refine (hpx1.out _ (HX.out.ext (hext.trans (by repeat (first | exact Ext.refl _ | assumption | refine Ext.drew ?_ | refine Ext.drewN ?_ _ | refine Ext.iter ?_ _ _ | refine Ext.alloc ?_ _ | refine Ext.setCell ?_ (by first | exact Nat.le_refl _ | (simp <;> omega)) _ | refine Ext.trans2 (by assumption) ?_))))).mono ?_); rintro e w1 ⟨rfl, hx1⟩; have hE1 : Ext wr w1 := Ext.trans2 hx1 (by repeat (first | exact Ext.refl _ | assumption | refine Ext.drew ?_ | refine Ext.drewN ?_ _ | refine Ext.iter ?_ _ _ | refine Ext.alloc ?_ _ | refine Ext.setCell ?_ (by first | exact Nat.le_refl _ | (simp <;> omega)) _ | refine Ext.trans2 (by assumption) ?_)); have hown1 := hown.ext hE1; have hbx1 := hbx.ext hE1; have hres1 := hres.ext hE1; have hext1 := hext.trans hE1; have hze1 := hext1.below.size; have d2 := hbx1.cell (i := 2) (v := out) rfl; have dl := hbx1.lt; have df := hbx1.free)); all_goals (refine hK _ _ ⟨trivial, ?_⟩; clear hK K; go_simp)) | (refine ct_op ho6 rfl (fun K hK => ?_); (refine append1I_op (hown1.ext (by repeat (first | exact Ext.refl _ | assumption | refine Ext.drew ?_ | refine Ext.drewN ?_ _ | refine Ext.iter ?_ _ _ | refine Ext.alloc ?_ _ | refine Ext.setCell ?_ (by first | exact Nat.le_refl _ | (simp <;> omega)) _ | refine Ext.trans2 (by assumption) ?_))) (by have := hpl1.out; omega) (by first | omega | (simp; omega)) ?_ rfl rfl; intro v3 w4 hown3 hg3; have hb3 := hg3.below (B := w.heap.size + 1) (fun k hk => (hown1.lt k hk).1) (by first | omega | (simp; omega)); have hbx4 := Blk.grew (hbx1.ext (by repeat (first | exact Ext.refl _ | assumption | refine Ext.drew ?_ | refine Ext.drewN ?_ _ | refine Ext.iter ?_ _ _ | refine Ext.alloc ?_ _ | refine Ext.setCell ?_ (by first | exact Nat.le_refl _ | (simp <;> omega)) _ | refine Ext.trans2 (by assumption) ?_))) hg3 hob; have hres4 := Blk.low (hres1.ext (by repeat (first | exact Ext.refl _ | assumption | refine Ext.drew ?_ | refine Ext.drewN ?_ _ | refine Ext.iter ?_ _ _ | refine Ext.alloc ?_ _ | refine Ext.setCell ?_ (by first | exact Nat.le_refl _ | (simp <;> omega)) _ | refine Ext.trans2 (by assumption) ?_))) hb3 (by omega); have hext4 := Ext.low (hext1.trans (by repeat (first | exact Ext.refl _ | assumption | refine Ext.drew ?_ | refine Ext.drewN ?_ _ | refine Ext.iter ?_ _ _ | refine Ext.alloc ?_ _ | refine Ext.setCell ?_ (by first | exact Nat.le_refl _ | (simp <;> omega)) _ | refine Ext.trans2 (by assumption) ?_))) hb3 (by omega); have hob4 : v3.ownBlock ≠ some (w.heap.size + 1 + 1) := (fun e => by rcases hg3.own _ e with h9 | h9; exact hob h9; (first | omega | (simp at h9; omega))); generalize L ++ [fv] = L2 at *; obtain ⟨po, co, rfl, -, -⟩ := hown3.ownC; have t2 := hbx4.cell (i := 2) (v := out) rfl; have tl := hbx4.lt; have tf := hbx4.free; clear b2 bl bf d2 dl df); all_goals (refine hK _ _ ⟨trivial, ?_⟩; clear hK K; go_simp)) | (refine ct_op ho6 rfl (fun K hK => ?_); go_simp; (skip); all_goals (refine hK _ _ ⟨trivial, ?_⟩; clear hK K; go_simp))
                  all_goals clear ho6
                  all_goals refine ct_one ?_
                  all_goals first | (refine ct_op ho7 rfl (fun K hK => ?_); go_simp; ((go_at_call 44; (with_reducible refine (hpx1.out _ (HX.out.ext (hext.trans (by repeat (first | exact Ext.refl _ | assumption | refine Ext.drew ?_ | refine Ext.drewN ?_ _ | refine Ext.iter ?_ _ _ | refine Ext.alloc ?_ _ | refine Ext.setCell ?_ (by first | exact Nat.le_refl _ | (simp <;> omega)) _ | refine Ext.trans2 (by assumption) ?_))))).mono ?_); rintro e w1 ⟨rfl, hx1⟩; have hE1 : Ext wr w1 := Ext.trans2 hx1 (by repeat (first | exact Ext.refl _ | assumption | refine Ext.drew ?_ | refine Ext.drewN ?_ _ | refine Ext.iter ?_ _ _ | refine Ext.alloc ?_ _ | refine Ext.setCell ?_ (by first | exact Nat.le_refl _ | (simp <;> omega)) _ | refine Ext.trans2 (by assumption) ?_)); have hown1 := hown.ext hE1; have hbx1 := hbx.ext hE1; have hres1 := hres.ext hE1; have hext1 := hext.trans hE1; have hze1 := hext1.below.size; have d2 := hbx1.cell (i := 2) (v := out) rfl; have dl := hbx1.lt; have df := hbx1.free)); all_goals (refine hK _ _ ⟨trivial, ?_⟩; clear hK K; go_simp)) | (refine ct_op ho7 rfl (fun K hK => ?_); (refine append1I_op (hown1.ext (by repeat (first | exact Ext.refl _ | assumption | refine Ext.drew ?_ | refine Ext.drewN ?_ _ | refine Ext.iter ?_ _ _ | refine Ext.alloc ?_ _ | refine Ext.setCell ?_ (by first | exact Nat.le_refl _ | (simp <;> omega)) _ | refine Ext.trans2 (by assumption) ?_))) (by have := hpl1.out; omega) (by first | omega | (simp; omega)) ?_ rfl rfl; intro v3 w4 hown3 hg3; have hb3 := hg3.below (B := w.heap.size + 1) (fun k hk => (hown1.lt k hk).1) (by first | omega | (simp; omega)); have hbx4 := Blk.grew (hbx1.ext (by repeat (first | exact Ext.refl _ | assumption | refine Ext.drew ?_ | refine Ext.drewN ?_ _ | refine Ext.iter ?_ _ _ | refine Ext.alloc ?_ _ | refine Ext.setCell ?_ (by first | exact Nat.le_refl _ | (simp <;> omega)) _ | refine Ext.trans2 (by assumption) ?_))) hg3 hob; have hres4 := Blk.low (hres1.ext (by repeat (first | exact Ext.refl _ | assumption | refine Ext.drew ?_ | refine Ext.drewN ?_ _ | refine Ext.iter ?_ _ _ | refine Ext.alloc ?_ _ | refine Ext.setCell ?_ (by first | exact Nat.le_refl _ | (simp <;> omega)) _ | refine Ext.trans2 (by assumption) ?_))) hb3 (by omega); have hext4 := Ext.low (hext1.trans (by repeat (first | exact Ext.refl _ | assumption | refine Ext.drew ?_ | refine Ext.drewN ?_ _ | refine Ext.iter ?_ _ _ | refine Ext.alloc ?_ _ | refine Ext.setCell ?_ (by first | exact Nat.le_refl _ | (simp <;> omega)) _ | refine Ext.trans2 (by assumption) ?_))) hb3 (by omega); have hob4 : v3.ownBlock ≠ some (w.heap.size + 1 + 1) := (fun e => by rcases hg3.own _ e with h9 | h9; exact hob h9; (first | omega | (simp at h9; omega))); generalize L ++ [fv] = L2 at *; obtain ⟨po, co, rfl, -, -⟩ := hown3.ownC; have t2 := hbx4.cell (i := 2) (v := out) rfl; have tl := hbx4.lt; have tf := hbx4.free; clear b2 bl bf d2 dl df); all_goals (refine hK _ _ ⟨trivial, ?_⟩; clear hK K; go_simp)) | (refine ct_op ho7 rfl (fun K hK => ?_); go_simp; (skip); all_goals (refine hK _ _ ⟨trivial, ?_⟩; clear hK K; go_simp))
                  all_goals clear ho7
                  all_goals (apply ct_st ho8 rfl; (intro w2 hS; first | (go_simp; first | done | rfl) | rfl | (skip; go_simp; first | done | rfl)); simp only [Act.put, List.setIfInBounds_toArray, List.set_cons_zero, List.set_cons_succ])
                  all_goals clear ho8
                  all_goals refine ct_one ?_
                  all_goals first | (refine ct_op ho9 rfl (fun K hK => ?_); go_simp; ((go_at_call 44; (with_reducible refine (hpx1.out _ (HX.out.ext (hext.trans (by repeat (first | exact Ext.refl _ | assumption | refine Ext.drew ?_ | refine Ext.drewN ?_ _ | refine Ext.iter ?_ _ _ | refine Ext.alloc ?_ _ | refine Ext.setCell ?_ (by first | exact Nat.le_refl _ | (simp <;> omega)) _ | refine Ext.trans2 (by assumption) ?_))))).mono ?_); rintro e w1 ⟨rfl, hx1⟩; have hE1 : Ext wr w1 := Ext.trans2 hx1 (by repeat (first | exact Ext.refl _ | assumption | refine Ext.drew ?_ | refine Ext.drewN ?_ _ | refine Ext.iter ?_ _ _ | refine Ext.alloc ?_ _ | refine Ext.setCell ?_ (by first | exact Nat.le_refl _ | (simp <;> omega)) _ | refine Ext.trans2 (by assumption) ?_)); have hown1 := hown.ext hE1; have hbx1 := hbx.ext hE1; have hres1 := hres.ext hE1; have hext1 := hext.trans hE1; have hze1 := hext1.below.size; have d2 := hbx1.cell (i := 2) (v := out) rfl; have dl := hbx1.lt; have df := hbx1.free)); all_goals (refine hK _ _ ⟨trivial, ?_⟩; clear hK K; go_simp)) | (refine ct_op ho9 rfl (fun K hK => ?_); (refine append1I_op (hown1.ext (by repeat (first | exact Ext.refl _ | assumption | refine Ext.drew ?_ | refine Ext.drewN ?_ _ | refine Ext.iter ?_ _ _ | refine Ext.alloc ?_ _ | refine Ext.setCell ?_ (by first | exact Nat.le_refl _ | (simp <;> omega)) _ | refine Ext.trans2 (by assumption) ?_))) (by have := hpl1.out; omega) (by first | omega | (simp; omega)) ?_ rfl rfl; intro v3 w4 hown3 hg3; have hb3 := hg3.below (B := w.heap.size + 1) (fun k hk => (hown1.lt k hk).1) (by first | omega | (simp; omega)); have hbx4 := Blk.grew (hbx1.ext (by repeat (first | exact Ext.refl _ | assumption | refine Ext.drew ?_ | refine Ext.drewN ?_ _ | refine Ext.iter ?_ _ _ | refine Ext.alloc ?_ _ | refine Ext.setCell ?_ (by first | exact Nat.le_refl _ | (simp <;> omega)) _ | refine Ext.trans2 (by assumption) ?_))) hg3 hob; have hres4 := Blk.low (hres1.ext (by repeat (first | exact Ext.refl _ | assumption | refine Ext.drew ?_ | refine Ext.drewN ?_ _ | refine Ext.iter ?_ _ _ | refine Ext.alloc ?_ _ | refine Ext.setCell ?_ (by first | exact Nat.le_refl _ | (simp <;> omega)) _ | refine Ext.trans2 (by assumption) ?_))) hb3 (by omega); have hext4 := Ext.low (hext1.trans (by repeat (first | exact Ext.refl _ | assumption | refine Ext.drew ?_ | refine Ext.drewN ?_ _ | refine Ext.iter ?_ _ _ | refine Ext.alloc ?_ _ | refine Ext.setCell ?_ (by first | exact Nat.le_refl _ | (simp <;> omega)) _ | refine Ext.trans2 (by assumption) ?_))) hb3 (by omega); have hob4 : v3.ownBlock ≠ some (w.heap.size + 1 + 1) := (fun e => by rcases hg3.own _ e with h9 | h9; exact hob h9; (first | omega | (simp at h9; omega))); generalize L ++ [fv] = L2 at *; obtain ⟨po, co, rfl, -, -⟩ := hown3.ownC; have t2 := hbx4.cell (i := 2) (v := out) rfl; have tl := hbx4.lt; have tf := hbx4.free; clear b2 bl bf d2 dl df); all_goals (refine hK _ _ ⟨trivial, ?_⟩; clear hK K; go_simp)) | (refine ct_op ho9 rfl (fun K hK => ?_); go_simp; (skip); all_goals (refine hK _ _ ⟨trivial, ?_⟩; clear hK K; go_simp))
                  all_goals clear ho9
                  all_goals refine ct_done (NoPanic.normal ?_)
                rotate_right 1
                focus
                  all_goals first | (refine ct_op ho6 rfl (fun K hK => ?_); go_simp; ((go_at_call 44; (with_reducible refine (hpx1.out _ (HX.out.ext (hext.trans (by repeat (first | exact Ext.refl _ | assumption | refine Ext.drew ?_ | refine Ext.drewN ?_ _ | refine Ext.iter ?_ _ _ | refine Ext.alloc ?_ _ | refine Ext.setCell ?_ (by first | exact Nat.le_refl _ | (simp <;> omega)) _ | refine Ext.trans2 (by assumption) ?_))))).mono ?_); rintro e w1 ⟨rfl, hx1⟩; have hE1 : Ext wr w1 := Ext.trans2 hx1 (by repeat (first | exact Ext.refl _ | assumption | refine Ext.drew ?_ | refine Ext.drewN ?_ _ | refine Ext.iter ?_ _ _ | refine Ext.alloc ?_ _ | refine Ext.setCell ?_ (by first | exact Nat.le_refl _ | (simp <;> omega)) _ | refine Ext.trans2 (by assumption) ?_)); have hown1 := hown.ext hE1; have hbx1 := hbx.ext hE1; have hres1 := hres.ext hE1; have hext1 := hext.trans hE1; have hze1 := hext1.below.size; have d2 := hbx1.cell (i := 2) (v := out) rfl; have dl := hbx1.lt; have df := hbx1.free)); all_goals (refine hK _ _ ⟨trivial, ?_⟩; clear hK K; go_simp)) | (refine ct_op ho6 rfl (fun K hK => ?_); (refine append1I_op (hown1.ext (by repeat (first | exact Ext.refl _ | assumption | refine Ext.drew ?_ | refine Ext.drewN ?_ _ | refine Ext.iter ?_ _ _ | refine Ext.alloc ?_ _ | refine Ext.setCell ?_ (by first | exact Nat.le_refl _ | (simp <;> omega)) _ | refine Ext.trans2 (by assumption) ?_))) (by have := hpl1.out; omega) (by first | omega | (simp; omega)) ?_ rfl rfl; intro v3 w4 hown3 hg3; have hb3 := hg3.below (B := w.heap.size + 1) (fun k hk => (hown1.lt k hk).1) (by first | omega | (simp; omega)); have hbx4 := Blk.grew (hbx1.ext (by repeat (first | exact Ext.refl _ | assumption | refine Ext.drew ?_ | refine Ext.drewN ?_ _ | refine Ext.iter ?_ _ _ | refine Ext.alloc ?_ _ | refine Ext.setCell ?_ (by first | exact Nat.le_refl _ | (simp <;> omega)) _ | refine Ext.trans2 (by assumption) ?_))) hg3 hob; have hres4 := Blk.low (hres1.ext (by repeat (first | exact Ext.refl _ | assumption | refine Ext.drew ?_ | refine Ext.drewN ?_ _ | refine Ext.iter ?_ _ _ | refine Ext.alloc ?_ _ | refine Ext.setCell ?_ (by first | exact Nat.le_refl _ | (simp <;> omega)) _ | refine Ext.trans2 (by assumption) ?_))) hb3 (by omega); have hext4 := Ext.low (hext1.trans (by repeat (first | exact Ext.refl _ | assumption | refine Ext.drew ?_ | refine Ext.drewN ?_ _ | refine Ext.iter ?_ _ _ | refine Ext.alloc ?_ _ | refine Ext.setCell ?_ (by first | exact Nat.le_refl _ | (simp <;> omega)) _ | refine Ext.trans2 (by assumption) ?_))) hb3 (by omega); have hob4 : v3.ownBlock ≠ some (w.heap.size + 1 + 1) := (fun e => by rcases hg3.own _ e with h9 | h9; exact hob h9; (first | omega | (simp at h9; omega))); generalize L ++ [fv] = L2 at *; obtain ⟨po, co, rfl, -, -⟩ := hown3.ownC; have t2 := hbx4.cell (i := 2) (v := out) rfl; have tl := hbx4.lt; have tf := hbx4.free; clear b2 bl bf d2 dl df); all_goals (refine hK _ _ ⟨trivial, ?_⟩; clear hK K; go_simp)) | (refine ct_op ho6 rfl (fun K hK => ?_); go_simp; (skip); all_goals (refine hK _ _ ⟨trivial, ?_⟩; clear hK K; go_simp))
                  all_goals clear ho6
                  all_goals refine ct_one ?_
                  all_goals first | (refine ct_op ho1 rfl (fun K hK => ?_); go_simp; ((go_at_call 44; (with_reducible refine (hpx1.out _ (HX.out.ext (hext.trans (by repeat (first | exact Ext.refl _ | assumption | refine Ext.drew ?_ | refine Ext.drewN ?_ _ | refine Ext.iter ?_ _ _ | refine Ext.alloc ?_ _ | refine Ext.setCell ?_ (by first | exact Nat.le_refl _ | (simp <;> omega)) _ | refine Ext.trans2 (by assumption) ?_))))).mono ?_); rintro e w1 ⟨rfl, hx1⟩; have hE1 : Ext wr w1 := Ext.trans2 hx1 (by repeat (first | exact Ext.refl _ | assumption | refine Ext.drew ?_ | refine Ext.drewN ?_ _ | refine Ext.iter ?_ _ _ | refine Ext.alloc ?_ _ | refine Ext.setCell ?_ (by first | exact Nat.le_refl _ | (simp <;> omega)) _ | refine Ext.trans2 (by assumption) ?_)); have hown1 := hown.ext hE1; have hbx1 := hbx.ext hE1; have hres1 := hres.ext hE1; have hext1 := hext.trans hE1; have hze1 := hext1.below.size; have d2 := hbx1.cell (i := 2) (v := out) rfl; have dl := hbx1.lt; have df := hbx1.free)); all_goals (refine hK _ _ ⟨trivial, ?_⟩; clear hK K; go_simp)) | (refine ct_op ho1 rfl (fun K hK => ?_); (refine append1I_op (hown1.ext (by repeat (first | exact Ext.refl _ | assumption | refine Ext.drew ?_ | refine Ext.drewN ?_ _ | refine Ext.iter ?_ _ _ | refine Ext.alloc ?_ _ | refine Ext.setCell ?_ (by first | exact Nat.le_refl _ | (simp <;> omega)) _ | refine Ext.trans2 (by assumption) ?_))) (by have := hpl1.out; omega) (by first | omega | (simp; omega)) ?_ rfl rfl; intro v3 w4 hown3 hg3; have hb3 := hg3.below (B := w.heap.size + 1) (fun k hk => (hown1.lt k hk).1) (by first | omega | (simp; omega)); have hbx4 := Blk.grew (hbx1.ext (by repeat (first | exact Ext.refl _ | assumption | refine Ext.drew ?_ | refine Ext.drewN ?_ _ | refine Ext.iter ?_ _ _ | refine Ext.alloc ?_ _ | refine Ext.setCell ?_ (by first | exact Nat.le_refl _ | (simp <;> omega)) _ | refine Ext.trans2 (by assumption) ?_))) hg3 hob; have hres4 := Blk.low (hres1.ext (by repeat (first | exact Ext.refl _ | assumption | refine Ext.drew ?_ | refine Ext.drewN ?_ _ | refine Ext.iter ?_ _ _ | refine Ext.alloc ?_ _ | refine Ext.setCell ?_ (by first | exact Nat.le_refl _ | (simp <;> omega)) _ | refine Ext.trans2 (by assumption) ?_))) hb3 (by omega); have hext4 := Ext.low (hext1.trans (by repeat (first | exact Ext.refl _ | assumption | refine Ext.drew ?_ | refine Ext.drewN ?_ _ | refine Ext.iter ?_ _ _ | refine Ext.alloc ?_ _ | refine Ext.setCell ?_ (by first | exact Nat.le_refl _ | (simp <;> omega)) _ | refine Ext.trans2 (by assumption) ?_))) hb3 (by omega); have hob4 : v3.ownBlock ≠ some (w.heap.size + 1 + 1) := (fun e => by rcases hg3.own _ e with h9 | h9; exact hob h9; (first | omega | (simp at h9; omega))); generalize L ++ [fv] = L2 at *; obtain ⟨po, co, rfl, -, -⟩ := hown3.ownC; have t2 := hbx4.cell (i := 2) (v := out) rfl; have tl := hbx4.lt; have tf := hbx4.free; clear b2 bl bf d2 dl df); all_goals (refine hK _ _ ⟨trivial, ?_⟩; clear hK K; go_simp)) | (refine ct_op ho1 rfl (fun K hK => ?_); go_simp; (skip); all_goals (refine hK _ _ ⟨trivial, ?_⟩; clear hK K; go_simp))
                  all_goals clear ho1
                  all_goals refine ct_one ?_
                  all_goals first | (refine ct_op ho7 rfl (fun K hK => ?_); go_simp; ((go_at_call 44; (with_reducible refine (hpx1.out _ (HX.out.ext (hext.trans (by repeat (first | exact Ext.refl _ | assumption | refine Ext.drew ?_ | refine Ext.drewN ?_ _ | refine Ext.iter ?_ _ _ | refine Ext.alloc ?_ _ | refine Ext.setCell ?_ (by first | exact Nat.le_refl _ | (simp <;> omega)) _ | refine Ext.trans2 (by assumption) ?_))))).mono ?_); rintro e w1 ⟨rfl, hx1⟩; have hE1 : Ext wr w1 := Ext.trans2 hx1 (by repeat (first | exact Ext.refl _ | assumption | refine Ext.drew ?_ | refine Ext.drewN ?_ _ | refine Ext.iter ?_ _ _ | refine Ext.alloc ?_ _ | refine Ext.setCell ?_ (by first | exact Nat.le_refl _ | (simp <;> omega)) _ | refine Ext.trans2 (by assumption) ?_)); have hown1 := hown.ext hE1; have hbx1 := hbx.ext hE1; have hres1 := hres.ext hE1; have hext1 := hext.trans hE1; have hze1 := hext1.below.size; have d2 := hbx1.cell (i := 2) (v := out) rfl; have dl := hbx1.lt; have df := hbx1.free)); all_goals (refine hK _ _ ⟨trivial, ?_⟩; clear hK K; go_simp)) | (refine ct_op ho7 rfl (fun K hK => ?_); (refine append1I_op (hown1.ext (by repeat (first | exact Ext.refl _ | assumption | refine Ext.drew ?_ | refine Ext.drewN ?_ _ | refine Ext.iter ?_ _ _ | refine Ext.alloc ?_ _ | refine Ext.setCell ?_ (by first | exact Nat.le_refl _ | (simp <;> omega)) _ | refine Ext.trans2 (by assumption) ?_))) (by have := hpl1.out; omega) (by first | omega | (simp; omega)) ?_ rfl rfl; intro v3 w4 hown3 hg3; have hb3 := hg3.below (B := w.heap.size + 1) (fun k hk => (hown1.lt k hk).1) (by first | omega | (simp; omega)); have hbx4 := Blk.grew (hbx1.ext (by repeat (first | exact Ext.refl _ | assumption | refine Ext.drew ?_ | refine Ext.drewN ?_ _ | refine Ext.iter ?_ _ _ | refine Ext.alloc ?_ _ | refine Ext.setCell ?_ (by first | exact Nat.le_refl _ | (simp <;> omega)) _ | refine Ext.trans2 (by assumption) ?_))) hg3 hob; have hres4 := Blk.low (hres1.ext (by repeat (first | exact Ext.refl _ | assumption | refine Ext.drew ?_ | refine Ext.drewN ?_ _ | refine Ext.iter ?_ _ _ | refine Ext.alloc ?_ _ | refine Ext.setCell ?_ (by first | exact Nat.le_refl _ | (simp <;> omega)) _ | refine Ext.trans2 (by assumption) ?_))) hb3 (by omega); have hext4 := Ext.low (hext1.trans (by repeat (first | exact Ext.refl _ | assumption | refine Ext.drew ?_ | refine Ext.drewN ?_ _ | refine Ext.iter ?_ _ _ | refine Ext.alloc ?_ _ | refine Ext.setCell ?_ (by first | exact Nat.le_refl _ | (simp <;> omega)) _ | refine Ext.trans2 (by assumption) ?_))) hb3 (by omega); have hob4 : v3.ownBlock ≠ some (w.heap.size + 1 + 1) := (fun e => by rcases hg3.own _ e with h9 | h9; exact hob h9; (first | omega | (simp at h9; omega))); generalize L ++ [fv] = L2 at *; obtain ⟨po, co, rfl, -, -⟩ := hown3.ownC; have t2 := hbx4.cell (i := 2) (v := out) rfl; have tl := hbx4.lt; have tf := hbx4.free; clear b2 bl bf d2 dl df); all_goals (refine hK _ _ ⟨trivial, ?_⟩; clear hK K; go_simp)) | (refine ct_op ho7 rfl (fun K hK => ?_); go_simp; (skip); all_goals (refine hK _ _ ⟨trivial, ?_⟩; clear hK K; go_simp))
                  all_goals clear ho7
                  all_goals (apply ct_st ho8 rfl; (intro w2 hS; first | (go_simp; first | done | rfl) | rfl | (skip; go_simp; first | done | rfl)); simp only [Act.put, List.setIfInBounds_toArray, List.set_cons_zero, List.set_cons_succ])
                  all_goals clear ho8
                  all_goals refine ct_one ?_
                  all_goals first | (refine ct_op ho9 rfl (fun K hK => ?_); go_simp; ((go_at_call 44; (with_reducible refine (hpx1.out _ (HX.out.ext (hext.trans (by repeat (first | exact Ext.refl _ | assumption | refine Ext.drew ?_ | refine Ext.drewN ?_ _ | refine Ext.iter ?_ _ _ | refine Ext.alloc ?_ _ | refine Ext.setCell ?_ (by first | exact Nat.le_refl _ | (simp <;> omega)) _ | refine Ext.trans2 (by assumption) ?_))))).mono ?_); rintro e w1 ⟨rfl, hx1⟩; have hE1 : Ext wr w1 := Ext.trans2 hx1 (by repeat (first | exact Ext.refl _ | assumption | refine Ext.drew ?_ | refine Ext.drewN ?_ _ | refine Ext.iter ?_ _ _ | refine Ext.alloc ?_ _ | refine Ext.setCell ?_ (by first | exact Nat.le_refl _ | (simp <;> omega)) _ | refine Ext.trans2 (by assumption) ?_)); have hown1 := hown.ext hE1; have hbx1 := hbx.ext hE1; have hres1 := hres.ext hE1; have hext1 := hext.trans hE1; have hze1 := hext1.below.size; have d2 := hbx1.cell (i := 2) (v := out) rfl; have dl := hbx1.lt; have df := hbx1.free)); all_goals (refine hK _ _ ⟨trivial, ?_⟩; clear hK K; go_simp)) | (refine ct_op ho9 rfl (fun K hK => ?_); (refine append1I_op (hown1.ext (by repeat (first | exact Ext.refl _ | assumption | refine Ext.drew ?_ | refine Ext.drewN ?_ _ | refine Ext.iter ?_ _ _ | refine Ext.alloc ?_ _ | refine Ext.setCell ?_ (by first | exact Nat.le_refl _ | (simp <;> omega)) _ | refine Ext.trans2 (by assumption) ?_))) (by have := hpl1.out; omega) (by first | omega | (simp; omega)) ?_ rfl rfl; intro v3 w4 hown3 hg3; have hb3 := hg3.below (B := w.heap.size + 1) (fun k hk => (hown1.lt k hk).1) (by first | omega | (simp; omega)); have hbx4 := Blk.grew (hbx1.ext (by repeat (first | exact Ext.refl _ | assumption | refine Ext.drew ?_ | refine Ext.drewN ?_ _ | refine Ext.iter ?_ _ _ | refine Ext.alloc ?_ _ | refine Ext.setCell ?_ (by first | exact Nat.le_refl _ | (simp <;> omega)) _ | refine Ext.trans2 (by assumption) ?_))) hg3 hob; have hres4 := Blk.low (hres1.ext (by repeat (first | exact Ext.refl _ | assumption | refine Ext.drew ?_ | refine Ext.drewN ?_ _ | refine Ext.iter ?_ _ _ | refine Ext.alloc ?_ _ | refine Ext.setCell ?_ (by first | exact Nat.le_refl _ | (simp <;> omega)) _ | refine Ext.trans2 (by assumption) ?_))) hb3 (by omega); have hext4 := Ext.low (hext1.trans (by repeat (first | exact Ext.refl _ | assumption | refine Ext.drew ?_ | refine Ext.drewN ?_ _ | refine Ext.iter ?_ _ _ | refine Ext.alloc ?_ _ | refine Ext.setCell ?_ (by first | exact Nat.le_refl _ | (simp <;> omega)) _ | refine Ext.trans2 (by assumption) ?_))) hb3 (by omega); have hob4 : v3.ownBlock ≠ some (w.heap.size + 1 + 1) := (fun e => by rcases hg3.own _ e with h9 | h9; exact hob h9; (first | omega | (simp at h9; omega))); generalize L ++ [fv] = L2 at *; obtain ⟨po, co, rfl, -, -⟩ := hown3.ownC; have t2 := hbx4.cell (i := 2) (v := out) rfl; have tl := hbx4.lt; have tf := hbx4.free; clear b2 bl bf d2 dl df); all_goals (refine hK _ _ ⟨trivial, ?_⟩; clear hK K; go_simp)) | (refine ct_op ho9 rfl (fun K hK => ?_); go_simp; (skip); all_goals (refine hK _ _ ⟨trivial, ?_⟩; clear hK K; go_simp))
                  all_goals clear ho9
                  all_goals refine ct_done (NoPanic.normal ?_)
          all_goals
            have hbx5 := hbx4.set 2 (.slice po L2.length co)
            have hres5 := hres4.far (g' := w.heap.size + 1 + 1) (i := 2) (by omega) (.slice po L2.length co)
            have hown5 := hown3.setOther (g := w.heap.size + 1 + 1) (i := 2) (u := .slice po L2.length co) hob4
            have hext5 := hext4.setCell (p := ⟨w.heap.size + 1 + 1, 2, none⟩) (by show _ ≤ _; simp only; omega) (.slice po L2.length co)
            clear t2 tl tf hown hown1 hbx1 hres1 hext1
            go_wp2
            go_roundw
            case rel => exact ⟨c + 1, _, hlc, by go_num, by rw [← Nat.add_assoc, hps1.out]; exact hown5, hob4, hres5, hbx5, hext5⟩
            case measure => simp [intOf]; omega
        · obtain rfl : c = V := by omega
          go_wp2
          go_roundw
          case rel => exact ⟨r + 1, out, hlt, by go_num, by rw [Nat.add_mul, Nat.one_mul]; exact hown, hob, hres, hbx, hext⟩
          case measure => simp [intOf]; omega
    · obtain rfl : r = H := by omega
      have b0 := hbx.cell (i := 0) (v := .int .i64 r) rfl; have b1 := hbx.cell (i := 1) (v := .int .i64 V) rfl; have b2 := hbx.cell (i := 2) (v := out) rfl; have bl := hbx.lt; have bf := hbx.free
      have r0 := hres.cell (i := 0) (v := .int .i64 0) rfl; have r1 := hres.cell (i := 1) (v := .int .i64 0) rfl; have r2 := hres.cell (i := 2) (v := .slice none 0 0) rfl; have rl := hres.lt; have rf := hres.free
      rw [hM.out] at hown
      obtain ⟨po, co, rfl, -, -⟩ := hown.ownC
      have hF := ((hres.set 0 (.int .i64 r)).set 1 (.int .i64 V)).set 2 (.slice po (pxl f V M).length co)
      have c0 := hF.cell (i := 0) (v := .int .i64 r) rfl; have c1 := hF.cell (i := 1) (v := .int .i64 V) rfl; have c2 := hF.cell (i := 2) (v := .slice po (pxl f V M).length co) rfl
      have hr3 := ((hown.setOther (g := w.heap.size) (i := 0) (u := .int .i64 r) (fun e => by have := (hown.lt _ e).1; omega)).setOther (g := w.heap.size) (i := 1) (u := .int .i64 V) (fun e => by have := (hown.lt _ e).1; omega)).setOther (g := w.heap.size) (i := 2) (u := .slice po (pxl f V M).length co) (fun e => by have := (hown.lt _ e).1; omega)
      generalize hLL : pxl f V M = L at *
      replace hLL := Lib.hid hLL
      generalize L.length = n at *
      go_wp2
      exact bodyPost_ret (v := .agg #[.int .i64 r, .int .i64 V, .slice po n co]) (by simp [results, Try.results43, go_sem, c0, c1, c2]) rfl ⟨⟨_, rfl, by rw [hLL.out]; exact hr3.mono (Nat.le_succ _)⟩, ((hext.setCell (Nat.le_refl _) _).setCell (Nat.le_refl _) _).setCell (Nat.le_refl _) _⟩
end Go.Proofs.Ytamgbmoeanmfaaa
