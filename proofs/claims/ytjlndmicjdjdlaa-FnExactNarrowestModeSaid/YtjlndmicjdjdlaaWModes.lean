/- The walks of four laws of chapter 9. -/
import Derived.Test.YtjlndmicjdjdlaaModes3
import Derived.Test.YtjlndmicjdjdlaaRead
namespace Go.Proofs.Ytjlndmicjdjdlaa
set_option linter.unusedVariables false
set_option linter.unusedSimpArgs false
open Go.RowKit Go.ChangeShapes Go.WideShapes Go.ChangeAt

theorem characterValue_law (m b : Int) (w : World) :
    Calls Try.prog 5 #[.int .i64 m, .int .i64 b] w fun e w' => e = .returned (.bool true) ∧ Ext w w' := by
  go_enter Try.func5, Try.ntmps5
  go_wp2_with (first | (go_at_call 15; (with_reducible refine (sCharacterValue_c _ _ _).mono ?_); rintro e w1 ⟨rfl, hb⟩; (obtain ⟨hc, hf, hk, hz⟩ := ecell hb; try (have hx := Ext.trans2 hb (by assumption); obtain ⟨hcx, hfx, hkx, hzx⟩ := ecell hx)); try simp at hz) | (go_at_call 16; (with_reducible refine (iCharacterValue_c _ _ _).mono ?_); rintro e w1 ⟨rfl, hb⟩; (obtain ⟨hc, hf, hk, hz⟩ := ecell hb; try (have hx := Ext.trans2 hb (by assumption); obtain ⟨hcx, hfx, hkx, hzx⟩ := ecell hx)); try simp at hz))
  go_ret
  exact ⟨rfl, (by repeat (first | exact Ext.refl _ | assumption | refine Ext.drew ?_ | refine Ext.drewN ?_ _ | refine Ext.iter ?_ _ _ | refine Ext.alloc ?_ _ | refine Ext.setCell ?_ (by first | exact Nat.le_refl _ | (simp <;> omega)) _ | refine Ext.trans2 (by assumption) ?_))⟩

theorem narrowest_law (s : ByteArray) (w : World) (hs : s.size ≤ maxLen) :
    Calls Try.prog 7 #[.string s] w fun e w' => e = .returned (.bool true) ∧ Ext w w' := by
  unfold maxLen at hs
  by_cases h : s.size ≤ 1048576
  · go_enter Try.func7, Try.ntmps7
    go_wp2_with (first | (go_at_call 22; (with_reducible refine (sNarrowest_c _ _ h).mono ?_); rintro e w1 ⟨rfl, hb⟩; (obtain ⟨hc, hf, hk, hz⟩ := ecell hb; try (have hx := Ext.trans2 hb (by assumption); obtain ⟨hcx, hfx, hkx, hzx⟩ := ecell hx)); try simp at hz) | (go_at_call 23; (with_reducible refine (iNarrowest_c _ _ h).mono ?_); rintro e w1 ⟨rfl, hb⟩; (obtain ⟨hc, hf, hk, hz⟩ := ecell hb; try (have hx := Ext.trans2 hb (by assumption); obtain ⟨hcx, hfx, hkx, hzx⟩ := ecell hx)); try simp at hz))
    go_ret
    exact ⟨rfl, (by repeat (first | exact Ext.refl _ | assumption | refine Ext.drew ?_ | refine Ext.drewN ?_ _ | refine Ext.iter ?_ _ _ | refine Ext.alloc ?_ _ | refine Ext.setCell ?_ (by first | exact Nat.le_refl _ | (simp <;> omega)) _ | refine Ext.trans2 (by assumption) ?_))⟩
  · go_enter Try.func7, Try.ntmps7
    go_wp2
    go_ret
    exact ⟨rfl, (by repeat (first | exact Ext.refl _ | assumption | refine Ext.drew ?_ | refine Ext.drewN ?_ _ | refine Ext.iter ?_ _ _ | refine Ext.alloc ?_ _ | refine Ext.setCell ?_ (by first | exact Nat.le_refl _ | (simp <;> omega)) _ | refine Ext.trans2 (by assumption) ?_))⟩

theorem isSegment_law (m : Int) (s : ByteArray) (w : World) (hs : s.size ≤ maxLen) :
    Calls Try.prog 8 #[vSeg m s] w fun e w' => e = .returned (.bool true) ∧ Ext w w' := by
  by_cases h : s.size ≤ 1048576
  · go_enter Try.func8, Try.ntmps8
    go_wp2_with (first
      | (go_at_call 24; refine (szSegment_c _ _ _ _ (by omega) hs).mono ?_; rintro e w1 ⟨⟨hl, rfl⟩ | ⟨hl, rfl⟩, hb⟩ <;> go_prune <;> (obtain ⟨hc, hf, hk, hz⟩ := ecell hb; try (have hx := Ext.trans2 hb (by assumption); obtain ⟨hcx, hfx, hkx, hzx⟩ := ecell hx)) <;> (try simp at hz))
      | (go_at_call 26; (with_reducible refine (toSegment_c _ _ _).mono ?_); rintro e w1 ⟨rfl, hb⟩; (obtain ⟨hc, hf, hk, hz⟩ := ecell hb; try (have hx := Ext.trans2 hb (by assumption); obtain ⟨hcx, hfx, hkx, hzx⟩ := ecell hx)); try simp at hz)
      | (go_at_call 25; (with_reducible refine (sIsSegment_c _ _ _ h).mono ?_); rintro e w' ⟨⟨hP, rfl⟩ | ⟨hP, rfl⟩, hb⟩ <;> go_prune <;> ((obtain ⟨hc, hf, hk, hz⟩ := ecell hb; try (have hx := Ext.trans2 hb (by assumption); obtain ⟨hcx, hfx, hkx, hzx⟩ := ecell hx)); try simp at hz)) | (go_at_call 27; (with_reducible refine (iIsSegment_c _ _ _ h).mono ?_); rintro e w' ⟨⟨hP, rfl⟩ | ⟨hP, rfl⟩, hb⟩ <;> go_prune <;> ((obtain ⟨hc, hf, hk, hz⟩ := ecell hb; try (have hx := Ext.trans2 hb (by assumption); obtain ⟨hcx, hfx, hkx, hzx⟩ := ecell hx)); try simp at hz)))
    all_goals (go_ret; exact ⟨rfl, (by repeat (first | exact Ext.refl _ | assumption | refine Ext.drew ?_ | refine Ext.drewN ?_ _ | refine Ext.iter ?_ _ _ | refine Ext.alloc ?_ _ | refine Ext.setCell ?_ (by first | exact Nat.le_refl _ | (simp <;> omega)) _ | refine Ext.trans2 (by assumption) ?_))⟩)
  · go_enter Try.func8, Try.ntmps8
    go_wp2_with (first
      | (go_at_call 24; refine (szSegment_c _ _ _ _ (by omega) hs).mono ?_; rintro e w1 ⟨⟨hl, rfl⟩ | ⟨hl, rfl⟩, hb⟩ <;> go_prune <;> (obtain ⟨hc, hf, hk, hz⟩ := ecell hb; try (have hx := Ext.trans2 hb (by assumption); obtain ⟨hcx, hfx, hkx, hzx⟩ := ecell hx)) <;> (try simp at hz)))
    go_ret
    exact ⟨rfl, (by repeat (first | exact Ext.refl _ | assumption | refine Ext.drew ?_ | refine Ext.drewN ?_ _ | refine Ext.iter ?_ _ _ | refine Ext.alloc ?_ _ | refine Ext.setCell ?_ (by first | exact Nat.le_refl _ | (simp <;> omega)) _ | refine Ext.trans2 (by assumption) ?_))⟩

theorem segmentLength_law (m : Int) (s : ByteArray) (w : World) (hs : s.size ≤ maxLen) :
    Calls Try.prog 9 #[vSeg m s] w fun e w' => e = .returned (.bool true) ∧ Ext w w' := by
  by_cases h : s.size ≤ 1048576
  · by_cases hP : IsSeg m s
    all_goals
      go_enter Try.func9, Try.ntmps9
      go_wp2_with (first
        | (go_at_call 24; refine (szSegment_c _ _ _ _ (by omega) hs).mono ?_; rintro e w1 ⟨⟨hl, rfl⟩ | ⟨hl, rfl⟩, hb⟩ <;> go_prune <;> (obtain ⟨hc, hf, hk, hz⟩ := ecell hb; try (have hx := Ext.trans2 hb (by assumption); obtain ⟨hcx, hfx, hkx, hzx⟩ := ecell hx)) <;> (try simp at hz))
        | (go_at_call 26; (with_reducible refine (toSegment_c _ _ _).mono ?_); rintro e w1 ⟨rfl, hb⟩; (obtain ⟨hc, hf, hk, hz⟩ := ecell hb; try (have hx := Ext.trans2 hb (by assumption); obtain ⟨hcx, hfx, hkx, hzx⟩ := ecell hx)); try simp at hz)
        | (go_at_call 28; refine (sSegmentLength_c _ _ _ h).mono ?_; rintro e w1 ⟨⟨hl, rfl⟩ | ⟨hl, rfl⟩, hb⟩ <;> (try contradiction) <;> (obtain ⟨hc, hf, hk, hz⟩ := ecell hb; try (have hx := Ext.trans2 hb (by assumption); obtain ⟨hcx, hfx, hkx, hzx⟩ := ecell hx)) <;> (try simp at hz))
        | (go_at_call 29; refine (iSegmentLength_c _ _ _ h).mono ?_; rintro e w1 ⟨⟨hl, rfl⟩ | ⟨hl, rfl⟩, hb⟩ <;> (try contradiction) <;> (obtain ⟨hc, hf, hk, hz⟩ := ecell hb; try (have hx := Ext.trans2 hb (by assumption); obtain ⟨hcx, hfx, hkx, hzx⟩ := ecell hx)) <;> (try simp at hz)))
      all_goals (go_ret; exact ⟨rfl, (by repeat (first | exact Ext.refl _ | assumption | refine Ext.drew ?_ | refine Ext.drewN ?_ _ | refine Ext.iter ?_ _ _ | refine Ext.alloc ?_ _ | refine Ext.setCell ?_ (by first | exact Nat.le_refl _ | (simp <;> omega)) _ | refine Ext.trans2 (by assumption) ?_))⟩)
  · go_enter Try.func9, Try.ntmps9
    go_wp2_with (first
      | (go_at_call 24; refine (szSegment_c _ _ _ _ (by omega) hs).mono ?_; rintro e w1 ⟨⟨hl, rfl⟩ | ⟨hl, rfl⟩, hb⟩ <;> go_prune <;> (obtain ⟨hc, hf, hk, hz⟩ := ecell hb; try (have hx := Ext.trans2 hb (by assumption); obtain ⟨hcx, hfx, hkx, hzx⟩ := ecell hx)) <;> (try simp at hz)))
    go_ret
    exact ⟨rfl, (by repeat (first | exact Ext.refl _ | assumption | refine Ext.drew ?_ | refine Ext.drewN ?_ _ | refine Ext.iter ?_ _ _ | refine Ext.alloc ?_ _ | refine Ext.setCell ?_ (by first | exact Nat.le_refl _ | (simp <;> omega)) _ | refine Ext.trans2 (by assumption) ?_))⟩

theorem open_Segment {w : World} {cs : List Value} (h : rds w [.i .i64, .str] cs) : ∃ (m : Int) (s : ByteArray), cs = [.int .i64 m, .string s] ∧ s.size ≤ maxLen := by
  obtain ⟨m, _, rfl, _, h⟩ := rds_int h
  obtain ⟨s, _, rfl, hs, h⟩ := rds_str h
  exact ⟨m, s, by rw [rds_nil h], hs⟩

end Go.Proofs.Ytjlndmicjdjdlaa
