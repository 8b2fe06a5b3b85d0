/- Printing: sizes, pixels, printed rasters. -/
import Derived.Test.YtdnkljpnhmcnpaaGreatLBoundedDamageK12
import Derived.Test.YtdnkljpnhmcnpaaGreatLBoundedDamageK00
set_option linter.unusedVariables false
set_option linter.unusedSimpArgs false
namespace Go.Proofs.YtdnkljpnhmcnpaaGreat
open Go.RowKit

def rasOK (h w : Int) : Prop := (1 ≤ h ∧ h ≤ 400) ∧ (1 ≤ w ∧ w ≤ 400) ∧ h * w ≤ 40000
set_option maxRecDepth 100000 in
theorem iRasSize_c (h v : Int) (w : World) :
  Calls Tryz.prog 214 #[.int .i64 h, .int .i64 v] w fun e w' => isB e (rasOK h v) ∧ w = w' := by
 by_cases h1 : (1 ≤ h ∧ h ≤ 400)
 ·by_cases h2 : (1 ≤ v ∧ v ≤ 400)
  ·obtain ⟨M, hM⟩ : ∃ M : Int, h * v = M := ⟨_, rfl⟩
   have hMb : 1 ≤ M ∧ M ≤ 160000 := by
    rw [← hM]
    have e1 : 1 * 1 ≤ h * v := Int.mul_le_mul (by omega) (by omega) (by omega) (by omega)
    have e2 : h * v ≤ 400 * 400 := Int.mul_le_mul (by omega) (by omega) (by omega) (by omega)
    omega
   have e1 := IntWalk.i64_in M (by omega)
   have hok : rasOK h v ↔ M ≤ 40000 := ⟨fun h => by rw [← hM]; exact h.2.2, fun h => ⟨h1, h2, by rw [hM]; exact h⟩⟩
   have hok := Lib.hid hok
   by_cases h3 : M ≤ 40000
   ·go_enter Tryz.func214, Tryz.ntmps214
    go_wp2_with (go_at_call 35; (with_reducible refine (inRange_c _ _ _ _).mono ?_); rintro e w1 ⟨⟨hP, rfl⟩ | ⟨hP, rfl⟩, rfl⟩ <;> first | (exfalso; omega) | skip)
    go_ret
    exact ⟨isB_t (hok.out.2 h3), rfl⟩
   ·go_enter Tryz.func214, Tryz.ntmps214
    go_wp2_with (go_at_call 35; (with_reducible refine (inRange_c _ _ _ _).mono ?_); rintro e w1 ⟨⟨hP, rfl⟩ | ⟨hP, rfl⟩, rfl⟩ <;> first | (exfalso; omega) | skip)
    go_ret
    exact ⟨isB_m (b := decide (M ≤ 40000)) (by rw [decide_eq_true_iff]; exact hok.out.symm), rfl⟩
  ·have hno := Lib.hid (show ¬ rasOK h v from fun h => h2 h.2.1)
   go_enter Tryz.func214, Tryz.ntmps214
   go_wp2_with (go_at_call 35; (with_reducible refine (inRange_c _ _ _ _).mono ?_); rintro e w1 ⟨⟨hP, rfl⟩ | ⟨hP, rfl⟩, rfl⟩ <;> first | (exfalso; omega) | skip)
   go_ret
   exact ⟨isB_f hno.out, rfl⟩
 ·have hno := Lib.hid (show ¬ rasOK h v from fun h => h1 h.1)
  go_enter Tryz.func214, Tryz.ntmps214
  go_wp2_with (go_at_call 35; (with_reducible refine (inRange_c _ _ _ _).mono ?_); rintro e w1 ⟨⟨hP, rfl⟩ | ⟨hP, rfl⟩, rfl⟩ <;> first | (exfalso; omega) | skip)
  go_ret
  exact ⟨isB_f hno.out, rfl⟩
set_option maxRecDepth 100000 in
theorem sRasSize_c (h v : Int) (w : World) :
  Calls Tryz.prog 165 #[.int .i64 h, .int .i64 v] w fun e w' => isB e (rasOK h v) ∧ w = w' := by
 by_cases h1 : (1 ≤ h ∧ h ≤ 400)
 ·by_cases h2 : (1 ≤ v ∧ v ≤ 400)
  ·obtain ⟨M, hM⟩ : ∃ M : Int, h * v = M := ⟨_, rfl⟩
   have hMb : 1 ≤ M ∧ M ≤ 160000 := by
    rw [← hM]
    have e1 : 1 * 1 ≤ h * v := Int.mul_le_mul (by omega) (by omega) (by omega) (by omega)
    have e2 : h * v ≤ 400 * 400 := Int.mul_le_mul (by omega) (by omega) (by omega) (by omega)
    omega
   have e1 := IntWalk.i64_in M (by omega)
   have hok : rasOK h v ↔ M ≤ 40000 := ⟨fun h => by rw [← hM]; exact h.2.2, fun h => ⟨h1, h2, by rw [hM]; exact h⟩⟩
   have hok := Lib.hid hok
   by_cases h3 : M ≤ 40000
   ·go_enter Tryz.func165, Tryz.ntmps165
    go_wp2_with (go_at_call 29; (with_reducible refine (l01In_c _ _ _ _).mono ?_); rintro e w1 ⟨⟨hP, rfl⟩ | ⟨hP, rfl⟩, rfl⟩ <;> first | (exfalso; omega) | skip)
    go_ret
    exact ⟨isB_t (hok.out.2 h3), rfl⟩
   ·go_enter Tryz.func165, Tryz.ntmps165
    go_wp2_with (go_at_call 29; (with_reducible refine (l01In_c _ _ _ _).mono ?_); rintro e w1 ⟨⟨hP, rfl⟩ | ⟨hP, rfl⟩, rfl⟩ <;> first | (exfalso; omega) | skip)
    go_ret
    exact ⟨isB_m (b := decide (M ≤ 40000)) (by rw [decide_eq_true_iff]; exact hok.out.symm), rfl⟩
  ·have hno := Lib.hid (show ¬ rasOK h v from fun h => h2 h.2.1)
   go_enter Tryz.func165, Tryz.ntmps165
   go_wp2_with (go_at_call 29; (with_reducible refine (l01In_c _ _ _ _).mono ?_); rintro e w1 ⟨⟨hP, rfl⟩ | ⟨hP, rfl⟩, rfl⟩ <;> first | (exfalso; omega) | skip)
   go_ret
   exact ⟨isB_f hno.out, rfl⟩
 ·have hno := Lib.hid (show ¬ rasOK h v from fun h => h1 h.1)
  go_enter Tryz.func165, Tryz.ntmps165
  go_wp2_with (go_at_call 29; (with_reducible refine (l01In_c _ _ _ _).mono ?_); rintro e w1 ⟨⟨hP, rfl⟩ | ⟨hP, rfl⟩, rfl⟩ <;> first | (exfalso; omega) | skip)
  go_ret
  exact ⟨isB_f hno.out, rfl⟩
def szF (r q t : Int) : Int := (r + 2 * q) * t
theorem szF_bd {r q t : Int} (h : 1 ≤ r ∧ r ≤ 400) (hq : 0 ≤ q ∧ q ≤ 16) (ht : 1 ≤ t ∧ t ≤ 12) : 1 ≤ szF r q t ∧ szF r q t ≤ 5184 := by
 unfold szF
 have e1 : 1 * 1 ≤ (r + 2 * q) * t := Int.mul_le_mul (by omega) (by omega) (by omega) (by omega)
 have e2 : (r + 2 * q) * t ≤ 432 * 12 := Int.mul_le_mul (by omega) (by omega) (by omega) (by omega)
 omega
abbrev vSize (h v : Int) : Value := .agg #[.int .i64 h, .int .i64 v]
set_option maxRecDepth 100000 in
theorem sizeOf_c (r c p t q b d l : Int) (w : World) (hr : 1 ≤ r ∧ r ≤ 400) (hc : 1 ≤ c ∧ c ≤ 400) (hq : 0 ≤ q ∧ q ≤ 16) (ht : 1 ≤ t ∧ t ≤ 12) (hp : 1 ≤ p ∧ p ≤ 12) :
  Calls Tryz.prog 179 #[vPrint p t q b d l, .int .i64 r, .int .i64 c] w fun e w' => e = .returned (vSize (szF r q t) (szF c q p)) ∧ Ext w w' := by
 have b1 := szF_bd hr hq ht
 have b2 := szF_bd hc hq hp
 have e1 := IntWalk.i64_in (2 * q) (by omega)
 have e2 := IntWalk.i64_in (r + 2 * q) (by omega)
 have e3 := IntWalk.i64_in (c + 2 * q) (by omega)
 have e4 : IntKind.i64.wrap ((r + 2 * q) * t) = szF r q t := IntWalk.i64_in (szF r q t) (by omega)
 have e5 : IntKind.i64.wrap ((c + 2 * q) * p) = szF c q p := IntWalk.i64_in (szF c q p) (by omega)
 generalize szF r q t = H at *
 generalize szF c q p = V at *
 go_enter Tryz.func179, Tryz.ntmps179
 go_wp2
 exact bodyPost_ret (v := vSize H V) (by simp [results, Tryz.results179, go_sem]) rfl ⟨rfl, eX⟩
set_option maxRecDepth 100000 in
theorem fits_c (h v : Int) (w : World) :
  Calls Tryz.prog 180 #[vSize h v] w fun e w' => isB e (rasOK h v) ∧ Ext w w' := by
 go_enter Tryz.func180, Tryz.ntmps180
 go_wp2_with (go_at_call 214; (with_reducible refine (iRasSize_c _ _ _).mono ?_); rintro e w1 ⟨⟨hP, rfl⟩ | ⟨hP, rfl⟩, rfl⟩)
 ·go_ret
  exact ⟨isB_t hP, eX⟩
 ·go_ret
  exact ⟨isB_f hP, eX⟩
def psIn (r c : Int) : Prop := (1 ≤ r ∧ r ≤ 400) ∧ (1 ≤ c ∧ c ≤ 400)
open Classical in
noncomputable def psR (r c p t q b d l : Int) : Int × Int × Int :=
 if ¬ IsPrint p t q b d l then (0, 0, 1) else if ¬ psIn r c then (0, 0, 2) else if ¬ rasOK (szF r q t) (szF c q p) then (0, 0, 3) else (szF r q t, szF c q p, 0)
set_option maxHeartbeats 400000 in
set_option maxRecDepth 100000 in
theorem iPrintSize_c (r c p t q b d l : Int) (w : World) :
  Calls Tryz.prog 125 #[.int .i64 r, .int .i64 c, vPrint p t q b d l] w fun e w' => e = .returned (.tuple #[.int .i64 (psR r c p t q b d l).1, .int .i64 (psR r c p t q b d l).2.1, .int .i64 (psR r c p t q b d l).2.2]) ∧ Ext w w' := by
 have hB := Blk.new w #[.int .i64 p, .int .i64 t, .int .i64 q, .int .i64 b, .int .i64 d, .int .i64 l] 57
 have hx0 : Ext w (w.alloc (.cells #[.int .i64 p, .int .i64 t, .int .i64 q, .int .i64 b, .int .i64 d, .int .i64 l] 57)) := (Ext.refl w).alloc _
 by_cases h1 : IsPrint p t q b d l
 ·by_cases h2 : psIn r c
  ·have hso := Lib.hid (fun W => sizeOf_c r c p t q b d l W h2.1 h2.2 h1.2.2.1 h1.2.1 h1.1)
   by_cases h3 : rasOK (szF r q t) (szF c q p)
   ·have hv : psR r c p t q b d l = (szF r q t, szF c q p, 0) := by unfold psR; rw [if_neg (not_not_intro h1), if_neg (not_not_intro h2), if_neg (not_not_intro h3)]
    rw [hv]; clear hv
    generalize szF r q t = H at *
    generalize szF c q p = V at *
    replace h1 := Lib.hid h1; replace h3 := Lib.hid h3; obtain ⟨h2a, h2b⟩ := h2
    go_enter Tryz.func125, Tryz.ntmps125
    go_wp2_with (first | (go_at_call 62; (with_reducible refine (iIsPrint_c p t q b d l _).mono ?_); rintro e w1 ⟨⟨hP, rfl⟩ | ⟨hP, rfl⟩, hx1⟩ <;> (first | exact absurd h1.out hP | exact absurd hP h1.out | skip); have hB1 := hB.ext hx1; obtain ⟨f0, f1, f2, f3, f4, f5⟩ := hB1.c6; clear hP) | (go_at_call 35; (with_reducible refine (inRange_c _ _ _ _).mono ?_); rintro e w1 ⟨⟨hP, rfl⟩ | ⟨hP, rfl⟩, rfl⟩ <;> first | (exfalso; omega) | skip) | (go_at_call 179; (with_reducible refine (hso.out _).mono ?_); rintro e w2 ⟨rfl, hx2⟩) | (go_at_call 180; (with_reducible refine (fits_c _ _ _).mono ?_); rintro e w3 ⟨⟨hP, rfl⟩ | ⟨hP, rfl⟩, hx3⟩ <;> (first | exact absurd h3.out hP | exact absurd hP h3.out | skip); have hS3 := (Blk.new w2 #[.int .i64 H, .int .i64 V] 208).ext hx3; have s0 := hS3.cell (i := 0) (v := .int .i64 H) rfl; have s1 := hS3.cell (i := 1) (v := .int .i64 V) rfl; have sl := hS3.lt; clear hP))
    go_quiet (fail)
    go_wp2
    (refine bodyPost_ret (v := .tuple #[.int .i64 H, .int .i64 V, .int .i64 0]) (by simp [results, Tryz.results125, go_sem]) rfl ⟨rfl, ?_⟩; exact ((((hx0.trans hx1).trans hx2).alloc _).trans hx3).drewN _)
   ·have hv : psR r c p t q b d l = (0, 0, 3) := by unfold psR; rw [if_neg (not_not_intro h1), if_neg (not_not_intro h2), if_pos h3]
    rw [hv]; clear hv
    generalize szF r q t = H at *
    generalize szF c q p = V at *
    replace h1 := Lib.hid h1; replace h3 := Lib.hid h3; obtain ⟨h2a, h2b⟩ := h2
    go_enter Tryz.func125, Tryz.ntmps125
    go_wp2_with (first | (go_at_call 62; (with_reducible refine (iIsPrint_c p t q b d l _).mono ?_); rintro e w1 ⟨⟨hP, rfl⟩ | ⟨hP, rfl⟩, hx1⟩ <;> (first | exact absurd h1.out hP | exact absurd hP h1.out | skip); have hB1 := hB.ext hx1; obtain ⟨f0, f1, f2, f3, f4, f5⟩ := hB1.c6; clear hP) | (go_at_call 35; (with_reducible refine (inRange_c _ _ _ _).mono ?_); rintro e w1 ⟨⟨hP, rfl⟩ | ⟨hP, rfl⟩, rfl⟩ <;> first | (exfalso; omega) | skip) | (go_at_call 179; (with_reducible refine (hso.out _).mono ?_); rintro e w2 ⟨rfl, hx2⟩) | (go_at_call 180; (with_reducible refine (fits_c _ _ _).mono ?_); rintro e w3 ⟨⟨hP, rfl⟩ | ⟨hP, rfl⟩, hx3⟩ <;> (first | exact absurd h3.out hP | exact absurd hP h3.out | skip); have hS3 := (Blk.new w2 #[.int .i64 H, .int .i64 V] 208).ext hx3; have s0 := hS3.cell (i := 0) (v := .int .i64 H) rfl; have s1 := hS3.cell (i := 1) (v := .int .i64 V) rfl; have sl := hS3.lt; clear hP))
    (refine bodyPost_ret (v := .tuple #[.int .i64 0, .int .i64 0, .int .i64 3]) (by simp [results, Tryz.results125, go_sem]) rfl ⟨rfl, ?_⟩; exact (((hx0.trans hx1).trans hx2).alloc _).trans hx3)
  ·have hv : psR r c p t q b d l = (0, 0, 2) := by unfold psR; rw [if_neg (not_not_intro h1), if_pos h2]
   rw [hv]; clear hv
   replace h1 := Lib.hid h1; unfold psIn at h2
   by_cases h4 : 1 ≤ r ∧ r ≤ 400
   all_goals
    go_enter Tryz.func125, Tryz.ntmps125
    go_wp2_with (first | (go_at_call 62; (with_reducible refine (iIsPrint_c p t q b d l _).mono ?_); rintro e w1 ⟨⟨hP, rfl⟩ | ⟨hP, rfl⟩, hx1⟩ <;> (first | exact absurd h1.out hP | exact absurd hP h1.out | skip); have hB1 := hB.ext hx1; obtain ⟨f0, f1, f2, f3, f4, f5⟩ := hB1.c6; clear hP) | (go_at_call 35; (with_reducible refine (inRange_c _ _ _ _).mono ?_); rintro e w1 ⟨⟨hP, rfl⟩ | ⟨hP, rfl⟩, rfl⟩ <;> first | (exfalso; omega) | skip) | (go_at_call 179; (with_reducible refine (hso.out _).mono ?_); rintro e w2 ⟨rfl, hx2⟩) | (go_at_call 180; (with_reducible refine (fits_c _ _ _).mono ?_); rintro e w3 ⟨⟨hP, rfl⟩ | ⟨hP, rfl⟩, hx3⟩ <;> (first | exact absurd h3.out hP | exact absurd hP h3.out | skip); have hS3 := (Blk.new w2 #[.int .i64 H, .int .i64 V] 208).ext hx3; have s0 := hS3.cell (i := 0) (v := .int .i64 H) rfl; have s1 := hS3.cell (i := 1) (v := .int .i64 V) rfl; have sl := hS3.lt; clear hP))
    (refine bodyPost_ret (v := .tuple #[.int .i64 0, .int .i64 0, .int .i64 2]) (by simp [results, Tryz.results125, go_sem]) rfl ⟨rfl, ?_⟩; exact hx0.trans hx1)
 ·have hv : psR r c p t q b d l = (0, 0, 1) := by unfold psR; rw [if_pos h1]
  rw [hv]; clear hv
  replace h1 := Lib.hid h1
  go_enter Tryz.func125, Tryz.ntmps125
  go_wp2_with (first | (go_at_call 62; (with_reducible refine (iIsPrint_c p t q b d l _).mono ?_); rintro e w1 ⟨⟨hP, rfl⟩ | ⟨hP, rfl⟩, hx1⟩ <;> (first | exact absurd h1.out hP | exact absurd hP h1.out | skip); have hB1 := hB.ext hx1; obtain ⟨f0, f1, f2, f3, f4, f5⟩ := hB1.c6; clear hP) | (go_at_call 35; (with_reducible refine (inRange_c _ _ _ _).mono ?_); rintro e w1 ⟨⟨hP, rfl⟩ | ⟨hP, rfl⟩, rfl⟩ <;> first | (exfalso; omega) | skip) | (go_at_call 179; (with_reducible refine (hso.out _).mono ?_); rintro e w2 ⟨rfl, hx2⟩) | (go_at_call 180; (with_reducible refine (fits_c _ _ _).mono ?_); rintro e w3 ⟨⟨hP, rfl⟩ | ⟨hP, rfl⟩, hx3⟩ <;> (first | exact absurd h3.out hP | exact absurd hP h3.out | skip); have hS3 := (Blk.new w2 #[.int .i64 H, .int .i64 V] 208).ext hx3; have s0 := hS3.cell (i := 0) (v := .int .i64 H) rfl; have s1 := hS3.cell (i := 1) (v := .int .i64 V) rfl; have sl := hS3.lt; clear hP))
  (refine bodyPost_ret (v := .tuple #[.int .i64 0, .int .i64 0, .int .i64 1]) (by simp [results, Tryz.results125, go_sem]) rfl ⟨rfl, ?_⟩; exact hx0.trans hx1)
set_option maxHeartbeats 400000 in
set_option maxRecDepth 100000 in
theorem sPrintSize_c (r c p t q b d l : Int) (w : World) :
  Calls Tryz.prog 111 #[.int .i64 r, .int .i64 c, vPrint p t q b d l] w fun e w' => e = .returned (.tuple #[.int .i64 (psR r c p t q b d l).1, .int .i64 (psR r c p t q b d l).2.1, .int .i64 (psR r c p t q b d l).2.2]) ∧ Ext w w' := by
 have hB := Blk.new w #[.int .i64 p, .int .i64 t, .int .i64 q, .int .i64 b, .int .i64 d, .int .i64 l] 57
 have hx0 : Ext w (w.alloc (.cells #[.int .i64 p, .int .i64 t, .int .i64 q, .int .i64 b, .int .i64 d, .int .i64 l] 57)) := (Ext.refl w).alloc _
 by_cases h1 : IsPrint p t q b d l
 ·by_cases h2 : psIn r c
  ·have b1 := szF_bd h2.1 h1.2.2.1 h1.2.1
   have b2 := szF_bd h2.2 h1.2.2.1 h1.1
   have hq := h1.2.2.1
   have e1 := IntWalk.i64_in (2 * q) (by omega)
   have e2 := IntWalk.i64_in (r + 2 * q) (by have := h2.1; omega)
   have e3 := IntWalk.i64_in (c + 2 * q) (by have := h2.2; omega)
   have e4 : IntKind.i64.wrap ((r + 2 * q) * t) = szF r q t := IntWalk.i64_in (szF r q t) (by omega)
   have e5 : IntKind.i64.wrap ((c + 2 * q) * p) = szF c q p := IntWalk.i64_in (szF c q p) (by omega)
   clear hq
   by_cases h3 : rasOK (szF r q t) (szF c q p)
   ·have hv : psR r c p t q b d l = (szF r q t, szF c q p, 0) := by unfold psR; rw [if_neg (not_not_intro h1), if_neg (not_not_intro h2), if_neg (not_not_intro h3)]
    rw [hv]; clear hv
    generalize szF r q t = H at *
    generalize szF c q p = V at *
    replace h1 := Lib.hid h1; replace h3 := Lib.hid h3; obtain ⟨h2a, h2b⟩ := h2
    go_enter Tryz.func111, Tryz.ntmps111
    go_wp2_with (first | (go_at_call 54; (with_reducible refine (sIsPrint_c p t q b d l _).mono ?_); rintro e w1 ⟨⟨hP, rfl⟩ | ⟨hP, rfl⟩, hx1⟩ <;> (first | exact absurd h1.out hP | exact absurd hP h1.out | skip); have hB1 := hB.ext hx1; obtain ⟨f0, f1, f2, f3, f4, f5⟩ := hB1.c6; clear hP) | (go_at_call 29; (with_reducible refine (l01In_c _ _ _ _).mono ?_); rintro e w1 ⟨⟨hP, rfl⟩ | ⟨hP, rfl⟩, rfl⟩ <;> first | (exfalso; omega) | skip))
    go_quiet (fail)
    go_wp2_with (go_at_call 165; (with_reducible refine (sRasSize_c _ _ _).mono ?_); rintro e w3 ⟨⟨hP, rfl⟩ | ⟨hP, rfl⟩, rfl⟩ <;> (first | exact absurd h3.out hP | exact absurd hP h3.out | skip); clear hP)
    (refine bodyPost_ret (v := .tuple #[.int .i64 H, .int .i64 V, .int .i64 0]) (by simp [results, Tryz.results111, go_sem]) rfl ⟨rfl, ?_⟩; exact (hx0.trans hx1).drewN _)
   ·have hv : psR r c p t q b d l = (0, 0, 3) := by unfold psR; rw [if_neg (not_not_intro h1), if_neg (not_not_intro h2), if_pos h3]
    rw [hv]; clear hv
    generalize szF r q t = H at *
    generalize szF c q p = V at *
    replace h1 := Lib.hid h1; replace h3 := Lib.hid h3; obtain ⟨h2a, h2b⟩ := h2
    go_enter Tryz.func111, Tryz.ntmps111
    go_wp2_with (first | (go_at_call 54; (with_reducible refine (sIsPrint_c p t q b d l _).mono ?_); rintro e w1 ⟨⟨hP, rfl⟩ | ⟨hP, rfl⟩, hx1⟩ <;> (first | exact absurd h1.out hP | exact absurd hP h1.out | skip); have hB1 := hB.ext hx1; obtain ⟨f0, f1, f2, f3, f4, f5⟩ := hB1.c6; clear hP) | (go_at_call 29; (with_reducible refine (l01In_c _ _ _ _).mono ?_); rintro e w1 ⟨⟨hP, rfl⟩ | ⟨hP, rfl⟩, rfl⟩ <;> first | (exfalso; omega) | skip))
    go_quiet (fail)
    go_wp2_with (go_at_call 165; (with_reducible refine (sRasSize_c _ _ _).mono ?_); rintro e w3 ⟨⟨hP, rfl⟩ | ⟨hP, rfl⟩, rfl⟩ <;> (first | exact absurd h3.out hP | exact absurd hP h3.out | skip); clear hP)
    (refine bodyPost_ret (v := .tuple #[.int .i64 0, .int .i64 0, .int .i64 3]) (by simp [results, Tryz.results111, go_sem]) rfl ⟨rfl, ?_⟩; exact (hx0.trans hx1).drewN _)
  ·have hv : psR r c p t q b d l = (0, 0, 2) := by unfold psR; rw [if_neg (not_not_intro h1), if_pos h2]
   rw [hv]; clear hv
   replace h1 := Lib.hid h1; unfold psIn at h2
   by_cases h4 : 1 ≤ r ∧ r ≤ 400
   all_goals
    go_enter Tryz.func111, Tryz.ntmps111
    go_wp2_with (first | (go_at_call 54; (with_reducible refine (sIsPrint_c p t q b d l _).mono ?_); rintro e w1 ⟨⟨hP, rfl⟩ | ⟨hP, rfl⟩, hx1⟩ <;> (first | exact absurd h1.out hP | exact absurd hP h1.out | skip); have hB1 := hB.ext hx1; obtain ⟨f0, f1, f2, f3, f4, f5⟩ := hB1.c6; clear hP) | (go_at_call 29; (with_reducible refine (l01In_c _ _ _ _).mono ?_); rintro e w1 ⟨⟨hP, rfl⟩ | ⟨hP, rfl⟩, rfl⟩ <;> first | (exfalso; omega) | skip))
    (refine bodyPost_ret (v := .tuple #[.int .i64 0, .int .i64 0, .int .i64 2]) (by simp [results, Tryz.results111, go_sem]) rfl ⟨rfl, ?_⟩; exact hx0.trans hx1)
 ·have hv : psR r c p t q b d l = (0, 0, 1) := by unfold psR; rw [if_pos h1]
  rw [hv]; clear hv
  replace h1 := Lib.hid h1
  go_enter Tryz.func111, Tryz.ntmps111
  go_wp2_with (first | (go_at_call 54; (with_reducible refine (sIsPrint_c p t q b d l _).mono ?_); rintro e w1 ⟨⟨hP, rfl⟩ | ⟨hP, rfl⟩, hx1⟩ <;> (first | exact absurd h1.out hP | exact absurd hP h1.out | skip); have hB1 := hB.ext hx1; obtain ⟨f0, f1, f2, f3, f4, f5⟩ := hB1.c6; clear hP) | (go_at_call 29; (with_reducible refine (l01In_c _ _ _ _).mono ?_); rintro e w1 ⟨⟨hP, rfl⟩ | ⟨hP, rfl⟩, rfl⟩ <;> first | (exfalso; omega) | skip))
  (refine bodyPost_ret (v := .tuple #[.int .i64 0, .int .i64 0, .int .i64 1]) (by simp [results, Tryz.results111, go_sem]) rfl ⟨rfl, ?_⟩; exact hx0.trans hx1)
open Go.RowKit

abbrev vPlace (r c : Int) : Value := .agg #[.int .i64 r, .int .i64 c]
abbrev vPress (h v p t q b d l : Int) (R C : Int) (a : Option Addr) (n k : Nat) : Value := .agg #[.int .i64 h, .int .i64 v, .int .i64 p, .int .i64 t, .int .i64 q, .int .i64 b, .int .i64 d, .int .i64 l, .int .i64 R, .int .i64 C, .slice a n k]
open Go.RowKit

end Go.Proofs.YtdnkljpnhmcnpaaGreat
