
/- Printing (chapter 21): bounds and bleed. Contracts. -/
import Derived.Test.YtamgbmoeanmfaaaA
namespace Go.Proofs.Ytamgbmoeanmfaaa
set_option linter.unusedVariables false
set_option linter.unusedSimpArgs false
open Go.RowKit

def bleedBound (p : Int) : Int × Int := if 1 ≤ p ∧ p ≤ 12 then (p / 2 + 1 - p, p / 2) else (0, 0)
theorem bleedBound_in {p : Int} (h : 1 ≤ p ∧ p ≤ 12) : bleedBound p = (p / 2 + 1 - p, p / 2) := if_pos h
theorem bleedBound_out {p : Int} (h : ¬ (1 ≤ p ∧ p ≤ 12)) : bleedBound p = (0, 0) := if_neg h

theorem iBleedBound_c (p : Int) (w : World) :
    Calls Try.prog 15 #[.int .i64 p] w fun e w' => e = .returned (.tuple #[.int .i64 (bleedBound p).1, .int .i64 (bleedBound p).2]) ∧ w = w' := by
  go_enter Try.func15, Try.ntmps15
  go_wp2_with (first | (go_at_call 50; (with_reducible refine (inRange_c _ _ _ _).mono ?_); rintro e w' ⟨⟨hP, rfl⟩ | ⟨hP, rfl⟩, rfl⟩ <;> go_prune))
  all_goals (go_ret2; exact ⟨ret_2i (by first | (rw [bleedBound_in (by assumption)]; dsimp only; omega) | (rw [bleedBound_out (by assumption)]; dsimp only; omega)), rfl⟩)

abbrev vPrint (p t q b d l : Int) : Value := .agg #[.int .i64 p, .int .i64 t, .int .i64 q, .int .i64 b, .int .i64 d, .int .i64 l]
def IsPrint (p t q b d l : Int) : Prop := (1 ≤ p ∧ p ≤ 12) ∧ (1 ≤ t ∧ t ≤ 12) ∧ (0 ≤ q ∧ q ≤ 16) ∧ (1 - p ≤ b ∧ b ≤ p - 1) ∧ (0 ≤ d ∧ d < l ∧ l ≤ 255)

theorem iIsPrint_c (p t q b d l : Int) (w : World) :
    Calls Try.prog 12 #[vPrint p t q b d l] w fun e w' => isB e (IsPrint p t q b d l) ∧ Ext w w' := by
  go_enter Try.func12, Try.ntmps12
  go_wp2_with (first | (go_at_call 50; (with_reducible refine (inRange_c _ _ _ _).mono ?_); rintro e w' ⟨⟨hP, rfl⟩ | ⟨hP, rfl⟩, rfl⟩ <;> go_prune))
  all_goals (go_ret; exact ⟨(by first | exact isB_t (by (try simp only [IsPrint]); omega) | exact isB_f (by (try simp only [IsPrint]); omega) | exact isB_m (by simp only [IsPrint, decide_eq_true_eq, decide_eq_false_iff_not, Bool.and_eq_true, Bool.or_eq_true]; omega) | exact isB_t (by assumption) | exact isB_f (by assumption) | exact isB_t (by simp [IsPrint, *]; done) | exact isB_f (by simp [IsPrint, *]; done)), (by repeat (first | exact Ext.refl _ | assumption | refine Ext.drew ?_ | refine Ext.drewN ?_ _ | refine Ext.iter ?_ _ _ | refine Ext.alloc ?_ _ | refine Ext.setCell ?_ (by first | exact Nat.le_refl _ | (simp <;> omega)) _ | refine Ext.trans2 (by assumption) ?_))⟩)

theorem sGrey_c (n : Int) (w : World) :
    Calls Try.prog 52 #[.int .i64 n] w fun e w' => isB e (0 ≤ n ∧ n ≤ 255) ∧ w = w' := by
  go_enter Try.func52, Try.ntmps52
  go_wp2_with (first | (go_at_call 51; (with_reducible refine (l01In_c _ _ _ _).mono ?_); rintro e w' ⟨⟨hP, rfl⟩ | ⟨hP, rfl⟩, rfl⟩ <;> go_prune))
  all_goals (go_ret; exact ⟨(by first | exact isB_t (by skip; omega) | exact isB_f (by skip; omega) | exact isB_m (by simp only [decide_eq_true_eq, decide_eq_false_iff_not, Bool.and_eq_true, Bool.or_eq_true]; omega) | exact isB_t (by assumption) | exact isB_f (by assumption) | exact isB_t (by simp [*]; done) | exact isB_f (by simp [*]; done)), rfl⟩)

theorem sIsPrint_c (p t q b d l : Int) (w : World) :
    Calls Try.prog 13 #[vPrint p t q b d l] w fun e w' => isB e (IsPrint p t q b d l) ∧ Ext w w' := by
  go_enter Try.func13, Try.ntmps13
  go_wp2_with (first | (go_at_call 51; (with_reducible refine (l01In_c _ _ _ _).mono ?_); rintro e w' ⟨⟨hP, rfl⟩ | ⟨hP, rfl⟩, rfl⟩ <;> go_prune) | (go_at_call 52; (with_reducible refine (sGrey_c _ _).mono ?_); rintro e w' ⟨⟨hP, rfl⟩ | ⟨hP, rfl⟩, rfl⟩ <;> go_prune))
  all_goals (go_ret; exact ⟨(by first | exact isB_t (by (try simp only [IsPrint]); omega) | exact isB_f (by (try simp only [IsPrint]); omega) | exact isB_m (by simp only [IsPrint, decide_eq_true_eq, decide_eq_false_iff_not, Bool.and_eq_true, Bool.or_eq_true]; omega) | exact isB_t (by assumption) | exact isB_f (by assumption) | exact isB_t (by simp [IsPrint, *]; done) | exact isB_f (by simp [IsPrint, *]; done)), (by repeat (first | exact Ext.refl _ | assumption | refine Ext.drew ?_ | refine Ext.drewN ?_ _ | refine Ext.iter ?_ _ _ | refine Ext.alloc ?_ _ | refine Ext.setCell ?_ (by first | exact Nat.le_refl _ | (simp <;> omega)) _ | refine Ext.trans2 (by assumption) ?_))⟩)

def BoundedBleed (p t q b d l : Int) : Prop := IsPrint p t q b d l ∧ (bleedBound p).1 ≤ b ∧ b ≤ (bleedBound p).2

theorem iBoundedBleed_c (p t q b d l : Int) (w : World) :
    Calls Try.prog 19 #[vPrint p t q b d l] w fun e w' => isB e (BoundedBleed p t q b d l) ∧ Ext w w' := by
  go_enter Try.func19, Try.ntmps19
  go_wp2_with (first | (go_at_call 50; (with_reducible refine (inRange_c _ _ _ _).mono ?_); rintro e w' ⟨⟨hP, rfl⟩ | ⟨hP, rfl⟩, rfl⟩ <;> go_prune) | (go_at_call 15; (with_reducible refine (iBleedBound_c _ _).mono ?_); rintro e w' ⟨rfl, rfl⟩) | (go_at_call 12; (with_reducible refine (iIsPrint_c _ _ _ _ _ _ _).mono ?_); rintro e w' ⟨⟨hP, rfl⟩ | ⟨hP, rfl⟩, hb⟩ <;> go_prune <;> ((obtain ⟨hc, hf, hk, hz⟩ := ecell hb; try (have hx := Ext.trans2 hb (by assumption); obtain ⟨hcx, hfx, hkx, hzx⟩ := ecell hx)); try simp at hz)))
  all_goals (go_ret; exact ⟨(by first | exact isB_t (by (try simp only [BoundedBleed]); omega) | exact isB_f (by (try simp only [BoundedBleed]); omega) | exact isB_m (by simp only [BoundedBleed, decide_eq_true_eq, decide_eq_false_iff_not, Bool.and_eq_true, Bool.or_eq_true]; omega) | exact isB_t (by assumption) | exact isB_f (by assumption) | exact isB_t (by simp [BoundedBleed, *]; done) | exact isB_f (by simp [BoundedBleed, *]; done)), (by repeat (first | exact Ext.refl _ | assumption | refine Ext.drew ?_ | refine Ext.drewN ?_ _ | refine Ext.iter ?_ _ _ | refine Ext.alloc ?_ _ | refine Ext.setCell ?_ (by first | exact Nat.le_refl _ | (simp <;> omega)) _ | refine Ext.trans2 (by assumption) ?_))⟩)

end Go.Proofs.Ytamgbmoeanmfaaa
