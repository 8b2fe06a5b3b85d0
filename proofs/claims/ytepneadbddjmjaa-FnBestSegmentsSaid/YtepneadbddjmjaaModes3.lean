/- Contracts of chapter 9, third part: the narrowest mode; how the laws hand segments on. -/
import Derived.Test.YtepneadbddjmjaaModes2
namespace Go.Proofs.Ytepneadbddjmjaa
set_option linter.unusedVariables false
set_option linter.unusedSimpArgs false
open Go.RowKit

open Classical in
noncomputable def narrowest (s : ByteArray) : Int := if AllIn 1 s then 1 else if AllIn 3 s then 3 else if AllIn 2 s then 2 else 4

theorem sNarrowest_c (s : ByteArray) (w : World) (hs : s.size ≤ 1048576) :
    Calls Try.prog 52 #[.string s] w fun e w' => e = .returned (.int .i64 (narrowest s)) ∧ Ext w w' := by
  go_enter Try.func52, Try.ntmps52
  go_wp2
  go_loopw [7] (fun i wr => ∃ k : Nat, k ≤ 3 ∧ i = .int .i64 k ∧ Ext (w.alloc (.cells #[.int .i64 1, .int .i64 3, .int .i64 2] 2)) wr ∧ (1 ≤ k → ¬ AllIn 1 s) ∧ (2 ≤ k → ¬ AllIn 3 s) ∧ (3 ≤ k → ¬ AllIn 2 s)) (fun i _ => 3 - (intOf i).toNat)
  case atStart => exact ⟨0, by omega, rfl, Ext.refl _, by omega, by omega, by omega⟩
  case round =>
    obtain ⟨k, hk, rfl, hext, h1, h2, h3⟩ := hrel
    obtain ⟨hc, hf, hkk, hz⟩ := ecell hext
    simp at hz
    have H1 := Lib.hid h1; have H2 := Lib.hid h2; have H3 := Lib.hid h3
    clear h1 h2 h3
    have : k = 0 ∨ k = 1 ∨ k = 2 ∨ k = 3 := by omega
    rcases this with rfl | rfl | rfl | rfl
    · go_wp2_with (first | (go_at_call 86; (with_reducible refine (sAll_c _ _ _ hs).mono ?_); rintro e w' ⟨⟨hP, rfl⟩ | ⟨hP, rfl⟩, hb⟩ <;> go_prune <;> ((obtain ⟨hc, hf, hk, hz⟩ := ecell hb; try (have hx := Ext.trans2 hb (by assumption); obtain ⟨hcx, hfx, hkx, hzx⟩ := ecell hx)); try simp at hz)))
      · go_ret
        exact ⟨ret_int (by unfold narrowest; rw [if_pos (by assumption)]), (by repeat (first | exact Ext.refl _ | assumption | refine Ext.drew ?_ | refine Ext.drewN ?_ _ | refine Ext.iter ?_ _ _ | refine Ext.alloc ?_ _ | refine Ext.setCell ?_ (by first | exact Nat.le_refl _ | (simp <;> omega)) _ | refine Ext.trans2 (by assumption) ?_))⟩
      · go_roundw
        case rel => exact ⟨1, by omega, rfl, (by repeat (first | exact Ext.refl _ | assumption | refine Ext.drew ?_ | refine Ext.drewN ?_ _ | refine Ext.iter ?_ _ _ | refine Ext.alloc ?_ _ | refine Ext.setCell ?_ (by first | exact Nat.le_refl _ | (simp <;> omega)) _ | refine Ext.trans2 (by assumption) ?_)), fun _ => by assumption, by omega, by omega⟩
        case measure => simp [intOf]
    · go_wp2_with (first | (go_at_call 86; (with_reducible refine (sAll_c _ _ _ hs).mono ?_); rintro e w' ⟨⟨hP, rfl⟩ | ⟨hP, rfl⟩, hb⟩ <;> go_prune <;> ((obtain ⟨hc, hf, hk, hz⟩ := ecell hb; try (have hx := Ext.trans2 hb (by assumption); obtain ⟨hcx, hfx, hkx, hzx⟩ := ecell hx)); try simp at hz)))
      · go_ret
        exact ⟨ret_int (by unfold narrowest; rw [if_neg (H1.out (by omega)), if_pos (by assumption)]), (by repeat (first | exact Ext.refl _ | assumption | refine Ext.drew ?_ | refine Ext.drewN ?_ _ | refine Ext.iter ?_ _ _ | refine Ext.alloc ?_ _ | refine Ext.setCell ?_ (by first | exact Nat.le_refl _ | (simp <;> omega)) _ | refine Ext.trans2 (by assumption) ?_))⟩
      · go_roundw
        case rel => exact ⟨2, by omega, rfl, (by repeat (first | exact Ext.refl _ | assumption | refine Ext.drew ?_ | refine Ext.drewN ?_ _ | refine Ext.iter ?_ _ _ | refine Ext.alloc ?_ _ | refine Ext.setCell ?_ (by first | exact Nat.le_refl _ | (simp <;> omega)) _ | refine Ext.trans2 (by assumption) ?_)), fun _ => H1.out (by omega), fun _ => by assumption, by omega⟩
        case measure => simp [intOf]
    · go_wp2_with (first | (go_at_call 86; (with_reducible refine (sAll_c _ _ _ hs).mono ?_); rintro e w' ⟨⟨hP, rfl⟩ | ⟨hP, rfl⟩, hb⟩ <;> go_prune <;> ((obtain ⟨hc, hf, hk, hz⟩ := ecell hb; try (have hx := Ext.trans2 hb (by assumption); obtain ⟨hcx, hfx, hkx, hzx⟩ := ecell hx)); try simp at hz)))
      · go_ret
        exact ⟨ret_int (by unfold narrowest; rw [if_neg (H1.out (by omega)), if_neg (H2.out (by omega)), if_pos (by assumption)]), (by repeat (first | exact Ext.refl _ | assumption | refine Ext.drew ?_ | refine Ext.drewN ?_ _ | refine Ext.iter ?_ _ _ | refine Ext.alloc ?_ _ | refine Ext.setCell ?_ (by first | exact Nat.le_refl _ | (simp <;> omega)) _ | refine Ext.trans2 (by assumption) ?_))⟩
      · go_roundw
        case rel => exact ⟨3, by omega, rfl, (by repeat (first | exact Ext.refl _ | assumption | refine Ext.drew ?_ | refine Ext.drewN ?_ _ | refine Ext.iter ?_ _ _ | refine Ext.alloc ?_ _ | refine Ext.setCell ?_ (by first | exact Nat.le_refl _ | (simp <;> omega)) _ | refine Ext.trans2 (by assumption) ?_)), fun _ => H1.out (by omega), fun _ => H2.out (by omega), fun _ => by assumption⟩
        case measure => simp [intOf]
    · go_wp2
      go_ret
      exact ⟨ret_int (by unfold narrowest; rw [if_neg (H1.out (by omega)), if_neg (H2.out (by omega)), if_neg (H3.out (by omega))]), (by repeat (first | exact Ext.refl _ | assumption | refine Ext.drew ?_ | refine Ext.drewN ?_ _ | refine Ext.iter ?_ _ _ | refine Ext.alloc ?_ _ | refine Ext.setCell ?_ (by first | exact Nat.le_refl _ | (simp <;> omega)) _ | refine Ext.trans2 (by assumption) ?_))⟩

theorem iNarrowest_c (s : ByteArray) (w : World) (hs : s.size ≤ 1048576) :
    Calls Try.prog 51 #[.string s] w fun e w' => e = .returned (.int .i64 (narrowest s)) ∧ Ext w w' := by
  have i0 : ∀ w, (Instr.index 97 (.agg #[.int .i64 1, .int .i64 3, .int .i64 2]) (.int .i64 0)).run Try.prog w = .ok (.int .i64 1) w := fun _ => by kernel_rfl
  have i1 : ∀ w, (Instr.index 97 (.agg #[.int .i64 1, .int .i64 3, .int .i64 2]) (.int .i64 1)).run Try.prog w = .ok (.int .i64 3) w := fun _ => by kernel_rfl
  have i2 : ∀ w, (Instr.index 97 (.agg #[.int .i64 1, .int .i64 3, .int .i64 2]) (.int .i64 2)).run Try.prog w = .ok (.int .i64 2) w := fun _ => by kernel_rfl
  go_enter Try.func51, Try.ntmps51
  go_wp2
  go_loopw [8] (fun i wr => ∃ k : Nat, k ≤ 3 ∧ i = .int .i64 k ∧ Ext w wr ∧ (1 ≤ k → ¬ AllIn 1 s) ∧ (2 ≤ k → ¬ AllIn 3 s) ∧ (3 ≤ k → ¬ AllIn 2 s)) (fun i _ => 3 - (intOf i).toNat)
  case atStart => exact ⟨0, by omega, rfl, Ext.refl _, by omega, by omega, by omega⟩
  case round =>
    obtain ⟨k, hk, rfl, hext, h1, h2, h3⟩ := hrel
    have H1 := Lib.hid h1; have H2 := Lib.hid h2; have H3 := Lib.hid h3
    clear h1 h2 h3
    have : k = 0 ∨ k = 1 ∨ k = 2 ∨ k = 3 := by omega
    rcases this with rfl | rfl | rfl | rfl
    · go_wp2_with (first
        | (go_at_call 63; refine (modeOf_c _ _).mono ?_; rintro e w1 ⟨⟨v, ⟨h4, rfl⟩ | ⟨h4, rfl⟩, hv⟩, hb⟩ <;> go_prune <;> (obtain ⟨hc, hf, hk, hz⟩ := ecell hb; try (have hx := Ext.trans2 hb (by assumption); obtain ⟨hcx, hfx, hkx, hzx⟩ := ecell hx)) <;> (try simp at hz))
        | (go_at_call 85; (with_reducible refine (iAllIn_c _ _ _ _ (by omega) (by assumption) hs).mono ?_); rintro e w' ⟨⟨hP, rfl⟩ | ⟨hP, rfl⟩, hb⟩ <;> go_prune <;> ((obtain ⟨hc, hf, hk, hz⟩ := ecell hb; try (have hx := Ext.trans2 hb (by assumption); obtain ⟨hcx, hfx, hkx, hzx⟩ := ecell hx)); try simp at hz)))
      · go_ret
        exact ⟨ret_int (by unfold narrowest; rw [if_pos (by assumption)]), (by repeat (first | exact Ext.refl _ | assumption | refine Ext.drew ?_ | refine Ext.drewN ?_ _ | refine Ext.iter ?_ _ _ | refine Ext.alloc ?_ _ | refine Ext.setCell ?_ (by first | exact Nat.le_refl _ | (simp <;> omega)) _ | refine Ext.trans2 (by assumption) ?_))⟩
      · go_roundw
        case rel => exact ⟨1, by omega, rfl, (by repeat (first | exact Ext.refl _ | assumption | refine Ext.drew ?_ | refine Ext.drewN ?_ _ | refine Ext.iter ?_ _ _ | refine Ext.alloc ?_ _ | refine Ext.setCell ?_ (by first | exact Nat.le_refl _ | (simp <;> omega)) _ | refine Ext.trans2 (by assumption) ?_)), fun _ => by assumption, by omega, by omega⟩
        case measure => simp [intOf]
    · go_wp2_with (first
        | (go_at_call 63; refine (modeOf_c _ _).mono ?_; rintro e w1 ⟨⟨v, ⟨h4, rfl⟩ | ⟨h4, rfl⟩, hv⟩, hb⟩ <;> go_prune <;> (obtain ⟨hc, hf, hk, hz⟩ := ecell hb; try (have hx := Ext.trans2 hb (by assumption); obtain ⟨hcx, hfx, hkx, hzx⟩ := ecell hx)) <;> (try simp at hz))
        | (go_at_call 85; (with_reducible refine (iAllIn_c _ _ _ _ (by omega) (by assumption) hs).mono ?_); rintro e w' ⟨⟨hP, rfl⟩ | ⟨hP, rfl⟩, hb⟩ <;> go_prune <;> ((obtain ⟨hc, hf, hk, hz⟩ := ecell hb; try (have hx := Ext.trans2 hb (by assumption); obtain ⟨hcx, hfx, hkx, hzx⟩ := ecell hx)); try simp at hz)))
      · go_ret
        exact ⟨ret_int (by unfold narrowest; rw [if_neg (H1.out (by omega)), if_pos (by assumption)]), (by repeat (first | exact Ext.refl _ | assumption | refine Ext.drew ?_ | refine Ext.drewN ?_ _ | refine Ext.iter ?_ _ _ | refine Ext.alloc ?_ _ | refine Ext.setCell ?_ (by first | exact Nat.le_refl _ | (simp <;> omega)) _ | refine Ext.trans2 (by assumption) ?_))⟩
      · go_roundw
        case rel => exact ⟨2, by omega, rfl, (by repeat (first | exact Ext.refl _ | assumption | refine Ext.drew ?_ | refine Ext.drewN ?_ _ | refine Ext.iter ?_ _ _ | refine Ext.alloc ?_ _ | refine Ext.setCell ?_ (by first | exact Nat.le_refl _ | (simp <;> omega)) _ | refine Ext.trans2 (by assumption) ?_)), fun _ => H1.out (by omega), fun _ => by assumption, by omega⟩
        case measure => simp [intOf]
    · go_wp2_with (first
        | (go_at_call 63; refine (modeOf_c _ _).mono ?_; rintro e w1 ⟨⟨v, ⟨h4, rfl⟩ | ⟨h4, rfl⟩, hv⟩, hb⟩ <;> go_prune <;> (obtain ⟨hc, hf, hk, hz⟩ := ecell hb; try (have hx := Ext.trans2 hb (by assumption); obtain ⟨hcx, hfx, hkx, hzx⟩ := ecell hx)) <;> (try simp at hz))
        | (go_at_call 85; (with_reducible refine (iAllIn_c _ _ _ _ (by omega) (by assumption) hs).mono ?_); rintro e w' ⟨⟨hP, rfl⟩ | ⟨hP, rfl⟩, hb⟩ <;> go_prune <;> ((obtain ⟨hc, hf, hk, hz⟩ := ecell hb; try (have hx := Ext.trans2 hb (by assumption); obtain ⟨hcx, hfx, hkx, hzx⟩ := ecell hx)); try simp at hz)))
      · go_ret
        exact ⟨ret_int (by unfold narrowest; rw [if_neg (H1.out (by omega)), if_neg (H2.out (by omega)), if_pos (by assumption)]), (by repeat (first | exact Ext.refl _ | assumption | refine Ext.drew ?_ | refine Ext.drewN ?_ _ | refine Ext.iter ?_ _ _ | refine Ext.alloc ?_ _ | refine Ext.setCell ?_ (by first | exact Nat.le_refl _ | (simp <;> omega)) _ | refine Ext.trans2 (by assumption) ?_))⟩
      · go_roundw
        case rel => exact ⟨3, by omega, rfl, (by repeat (first | exact Ext.refl _ | assumption | refine Ext.drew ?_ | refine Ext.drewN ?_ _ | refine Ext.iter ?_ _ _ | refine Ext.alloc ?_ _ | refine Ext.setCell ?_ (by first | exact Nat.le_refl _ | (simp <;> omega)) _ | refine Ext.trans2 (by assumption) ?_)), fun _ => H1.out (by omega), fun _ => H2.out (by omega), fun _ => by assumption⟩
        case measure => simp [intOf]
    · go_wp2
      go_ret
      exact ⟨ret_int (by unfold narrowest; rw [if_neg (H1.out (by omega)), if_neg (H2.out (by omega)), if_neg (H3.out (by omega))]), (by repeat (first | exact Ext.refl _ | assumption | refine Ext.drew ?_ | refine Ext.drewN ?_ _ | refine Ext.iter ?_ _ _ | refine Ext.alloc ?_ _ | refine Ext.setCell ?_ (by first | exact Nat.le_refl _ | (simp <;> omega)) _ | refine Ext.trans2 (by assumption) ?_))⟩

theorem szSegment_c (m left : Int) (s : ByteArray) (w : World) (hl : 0 ≤ left ∧ left ≤ 1048576) (hs : s.size ≤ maxLen) :
    Calls Try.prog 32 #[vSeg m s, .int .i64 left] w fun e w' => (((s.size : Int) ≤ left ∧ e = .returned (.int .i64 (left - s.size))) ∨ (left < s.size ∧ e = .returned (.int .i64 (-1)))) ∧ Ext w w' := by
  unfold maxLen at hs
  go_enter Try.func32, Try.ntmps32
  go_wp2
  · go_ret
    exact ⟨.inr ⟨by omega, rfl⟩, (by repeat (first | exact Ext.refl _ | assumption | refine Ext.drew ?_ | refine Ext.drewN ?_ _ | refine Ext.iter ?_ _ _ | refine Ext.alloc ?_ _ | refine Ext.setCell ?_ (by first | exact Nat.le_refl _ | (simp <;> omega)) _ | refine Ext.trans2 (by assumption) ?_))⟩
  · go_ret
    exact ⟨.inl ⟨by omega, rfl⟩, (by repeat (first | exact Ext.refl _ | assumption | refine Ext.drew ?_ | refine Ext.drewN ?_ _ | refine Ext.iter ?_ _ _ | refine Ext.alloc ?_ _ | refine Ext.setCell ?_ (by first | exact Nat.le_refl _ | (simp <;> omega)) _ | refine Ext.trans2 (by assumption) ?_))⟩

theorem toSegment_c (m : Int) (s : ByteArray) (w : World) :
    Calls Try.prog 35 #[vSeg m s] w fun e w' => e = .returned (vSeg m s) ∧ Ext w w' := by
  go_enter Try.func35, Try.ntmps35
  go_wp2
  exact bodyPost_ret (v := vSeg m s) (by simp [results, Try.results35, go_sem]) rfl ⟨rfl, (by repeat (first | exact Ext.refl _ | assumption | refine Ext.drew ?_ | refine Ext.drewN ?_ _ | refine Ext.iter ?_ _ _ | refine Ext.alloc ?_ _ | refine Ext.setCell ?_ (by first | exact Nat.le_refl _ | (simp <;> omega)) _ | refine Ext.trans2 (by assumption) ?_))⟩

end Go.Proofs.Ytepneadbddjmjaa
