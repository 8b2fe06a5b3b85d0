
/- The reference's ReadSegment. -/
import Derived.Test.YtnfbgjgchcgonaaReadS
import Derived.Test.YtnfbgjgchcgonaaSRead
namespace Go.Proofs.Ytnfbgjgchcgonaa
set_option linter.unusedVariables false
set_option linter.unusedSimpArgs false
open Go.RowKit

set_option maxRecDepth 100000 in
theorem sReadSegment_c (p : Option Addr) (c : Nat) (xs : List Int) (a : Int) (w : World) (hx : IntsAt w p xs) (hl : xs.length ≤ 1048576) :
    Calls Try.prog 24 #[.slice p xs.length c, .int .i64 a] w fun e w' => e = .returned (vRs (rsV xs a)) ∧ Ext w w' := by
  have HX := Lib.hid hx; clear hx
  by_cases h1 : isBits xs
  · by_cases h2 : 0 ≤ a ∧ a ≤ xs.length
    · obtain ⟨k, rfl⟩ : ∃ k : Nat, a = k := ⟨a.toNat, by omega⟩
      have hr : rsV xs (k : Int) = match rdS xs k with
        | none => (0, ⟨#[]⟩, 0, 6)
        | some r => (r.1, r.2.1, (r.2.2 : Int), 0) := by
        unfold rsV
        rw [if_neg (not_not_intro h1), if_neg (not_not_intro h2)]
        rfl
      have HR := Lib.hid hr; clear hr
      have hB := Blk.new w #[.int .i64 0, .string ⟨#[]⟩] 26
      have HB := Lib.hid h1.2
      have hd : (0 : Int) ≤ (k : Int) := by omega
      have hd2 : (k : Int) ≤ xs.length := by omega
      go_enter Try.func24, Try.ntmps24
      go_wp2_with (first
        | (go_at_call 80; (with_reducible refine (sIsBits_c _ _ _ _ (HX.out.ext (by repeat (first | exact Ext.refl _ | assumption | refine Ext.drew ?_ | refine Ext.drewN ?_ _ | refine Ext.iter ?_ _ _ | refine Ext.alloc ?_ _ | refine Ext.setCell ?_ (by first | exact Nat.le_refl _ | (simp <;> omega)) _ | refine Ext.trans2 (by assumption) ?_))) hl).mono ?_); rintro e w1 ⟨⟨hP, rfl⟩ | ⟨hP, rfl⟩, rfl⟩ <;> try contradiction)
        | (go_at_call 86; (with_reducible refine (l01In_c _ _ _ _).mono ?_); rintro e w1 ⟨⟨hP, rfl⟩ | ⟨hP, rfl⟩, rfl⟩ <;> try contradiction)
        | (go_at_call 91; (with_reducible refine (l09Read_c p c xs k _ (HX.out.ext (by repeat (first | exact Ext.refl _ | assumption | refine Ext.drew ?_ | refine Ext.drewN ?_ _ | refine Ext.iter ?_ _ _ | refine Ext.alloc ?_ _ | refine Ext.setCell ?_ (by first | exact Nat.le_refl _ | (simp <;> omega)) _ | refine Ext.trans2 (by assumption) ?_))) hl HB.out (by omega)).mono ?_); rintro e w2 ⟨⟨m, t, b, hS, rfl⟩ | ⟨hS, rfl⟩, hb⟩ <;> (have HS := Lib.hid hS; clear hS; obtain ⟨hc2, hf2, hk2, hz2⟩ := ecell hb; simp at hz2; have hB2 := hB.ext hb)))
      · have hr : rsV xs (k : Int) = (m, t, (b : Int), 0) := by rw [HR.out, HS.out]
        have hF := ((hB2.set 0 (.int .i64 m)).set 1 (.string t)).alloc (.cells #[.int .i64 m, .string t] 26)
        have c0 := hF.cell (i := 0) (v := .int .i64 m) rfl
        have c1 := hF.cell (i := 1) (v := .string t) rfl
        rw [hr]
        exact bodyPost_ret (v := vRs (m, t, (b : Int), 0)) (by simp [results, Try.results24, go_sem, c0, c1, vRs, vSeg]) rfl ⟨rfl, (by repeat (first | exact Ext.refl _ | assumption | refine Ext.drew ?_ | refine Ext.drewN ?_ _ | refine Ext.iter ?_ _ _ | refine Ext.alloc ?_ _ | refine Ext.setCell ?_ (by first | exact Nat.le_refl _ | (simp <;> omega)) _ | refine Ext.trans2 (by assumption) ?_))⟩
      · have hr : rsV xs (k : Int) = (0, ⟨#[]⟩, 0, 6) := by rw [HR.out, HS.out]
        have hF := ((hB2.set 0 (.int .i64 0)).set 1 (.string ⟨#[]⟩)).alloc (.cells #[.int .i64 0, .string ⟨#[]⟩] 26)
        have c0 := hF.cell (i := 0) (v := .int .i64 0) rfl
        have c1 := hF.cell (i := 1) (v := .string ⟨#[]⟩) rfl
        rw [hr]
        exact bodyPost_ret (v := vRs (0, ⟨#[]⟩, 0, 6)) (by simp [results, Try.results24, go_sem, c0, c1, vRs, vSeg]) rfl ⟨rfl, (by repeat (first | exact Ext.refl _ | assumption | refine Ext.drew ?_ | refine Ext.drewN ?_ _ | refine Ext.iter ?_ _ _ | refine Ext.alloc ?_ _ | refine Ext.setCell ?_ (by first | exact Nat.le_refl _ | (simp <;> omega)) _ | refine Ext.trans2 (by assumption) ?_))⟩
    · have hr : rsV xs a = (0, ⟨#[]⟩, 0, 2) := by unfold rsV; rw [if_neg (not_not_intro h1), if_pos h2]
      rw [hr]
      clear hr
      go_enter Try.func24, Try.ntmps24
      go_wp2_with (first
        | (go_at_call 80; (with_reducible refine (sIsBits_c _ _ _ _ (HX.out.ext (by repeat (first | exact Ext.refl _ | assumption | refine Ext.drew ?_ | refine Ext.drewN ?_ _ | refine Ext.iter ?_ _ _ | refine Ext.alloc ?_ _ | refine Ext.setCell ?_ (by first | exact Nat.le_refl _ | (simp <;> omega)) _ | refine Ext.trans2 (by assumption) ?_))) hl).mono ?_); rintro e w1 ⟨⟨hP, rfl⟩ | ⟨hP, rfl⟩, rfl⟩ <;> try contradiction)
        | (go_at_call 86; (with_reducible refine (l01In_c _ _ _ _).mono ?_); rintro e w1 ⟨⟨hP, rfl⟩ | ⟨hP, rfl⟩, rfl⟩ <;> try contradiction))
      exact bodyPost_ret (v := vRs (0, ⟨#[]⟩, 0, 2)) (by simp [results, Try.results24, go_sem, vRs, vSeg]) rfl ⟨rfl, (by repeat (first | exact Ext.refl _ | assumption | refine Ext.drew ?_ | refine Ext.drewN ?_ _ | refine Ext.iter ?_ _ _ | refine Ext.alloc ?_ _ | refine Ext.setCell ?_ (by first | exact Nat.le_refl _ | (simp <;> omega)) _ | refine Ext.trans2 (by assumption) ?_))⟩
  · have hr : rsV xs a = (0, ⟨#[]⟩, 0, 1) := by unfold rsV; rw [if_pos h1]
    rw [hr]
    clear hr
    go_enter Try.func24, Try.ntmps24
    go_wp2_with (first
      | (go_at_call 80; (with_reducible refine (sIsBits_c _ _ _ _ (HX.out.ext (by repeat (first | exact Ext.refl _ | assumption | refine Ext.drew ?_ | refine Ext.drewN ?_ _ | refine Ext.iter ?_ _ _ | refine Ext.alloc ?_ _ | refine Ext.setCell ?_ (by first | exact Nat.le_refl _ | (simp <;> omega)) _ | refine Ext.trans2 (by assumption) ?_))) hl).mono ?_); rintro e w1 ⟨⟨hP, rfl⟩ | ⟨hP, rfl⟩, rfl⟩ <;> try contradiction))
    exact bodyPost_ret (v := vRs (0, ⟨#[]⟩, 0, 1)) (by simp [results, Try.results24, go_sem, vRs, vSeg]) rfl ⟨rfl, (by repeat (first | exact Ext.refl _ | assumption | refine Ext.drew ?_ | refine Ext.drewN ?_ _ | refine Ext.iter ?_ _ _ | refine Ext.alloc ?_ _ | refine Ext.setCell ?_ (by first | exact Nat.le_refl _ | (simp <;> omega)) _ | refine Ext.trans2 (by assumption) ?_))⟩
end Go.Proofs.Ytnfbgjgchcgonaa
