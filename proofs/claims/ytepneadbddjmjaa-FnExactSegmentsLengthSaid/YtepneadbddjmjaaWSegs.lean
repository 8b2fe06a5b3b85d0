/- The walks of the laws SegmentsLength, JoinSegments, IsSegmentation. -/
import Derived.Test.YtepneadbddjmjaaJoin
namespace Go.Proofs.Ytepneadbddjmjaa
set_option linter.unusedVariables false
set_option linter.unusedSimpArgs false
open Go.RowKit

open Classical in
noncomputable def slA (xs : List Sg) : Int := if xs.length ≤ 400 ∧ segsOK xs then segsSum xs else 0
open Classical in
noncomputable def slB (xs : List Sg) : Int := if ¬ xs.length ≤ 400 then 3 else if segsOK xs then 0 else 1
theorem slR.fn {xs : List Sg} {e : Ending} (h : slR xs e) : e = .returned (.tuple #[.int .i64 (slA xs), .int .i64 (slB xs)]) := by
  unfold slA slB
  rcases h with ⟨h, rfl⟩ | ⟨h, rfl⟩ | ⟨h, rfl⟩
  · rw [if_pos h, if_neg (by simp; exact h.1), if_pos h.2]
  · rw [if_neg (fun h' => h h'.1), if_pos h]
  · rw [if_neg (fun h' => h.2 h'.2), if_neg (by simp; exact h.1), if_neg h.2]
open Classical in
noncomputable def jnA (xs : List Sg) : ByteArray := if xs.length ≤ 400 ∧ segsOK xs ∧ (joined xs).size ≤ 400 then joined xs else ⟨#[]⟩
open Classical in
noncomputable def jnB (xs : List Sg) : Int := if xs.length ≤ 400 ∧ segsOK xs ∧ (joined xs).size ≤ 400 then 0 else if ¬ xs.length ≤ 400 ∨ (segsOK xs ∧ ¬ (joined xs).size ≤ 400) then 3 else 1
theorem jnR.fn {xs : List Sg} {e : Ending} (h : jnR xs e) : e = .returned (.tuple #[.string (jnA xs), .int .i64 (jnB xs)]) := by
  unfold jnA jnB
  rcases h with ⟨h, rfl⟩ | ⟨h, rfl⟩ | ⟨h, rfl⟩
  · rw [if_pos h, if_pos h]
  · have h0 : ¬ (xs.length ≤ 400 ∧ segsOK xs ∧ (joined xs).size ≤ 400) := fun h' => h.elim (fun h => h h'.1) (fun h => h.2 h'.2.2)
    rw [if_neg h0, if_neg h0, if_pos h]
  · have h0 : ¬ (xs.length ≤ 400 ∧ segsOK xs ∧ (joined xs).size ≤ 400) := fun h' => h.2 h'.2.1
    rw [if_neg h0, if_neg h0, if_neg (fun h' => h'.elim (fun h' => h' h.1) (fun h' => h.2 h'.1))]

theorem segmentsLength_law (p : Option Addr) (c : Nat) (xs : List Sg) (w : World) (hx : SAt segF 2 w p xs) (hl : xs.length ≤ maxLen) (hG : ∀ x ∈ xs, x.2.size ≤ maxLen) :
    Calls Try.prog 5 #[.slice p xs.length c] w fun e w' => e = .returned (.bool true) ∧ Ext w w' := by
  have HX := Lib.hid hx; clear hx
  have HG := Lib.hid hG; clear hG
  go_enter Try.func5, Try.ntmps5
  go_wp2_with (go_at_call 19; refine (szSegmentS_c _ _ _ _ _ HX.out hl HG.out (by omega)).mono ?_; rintro e w1 ⟨⟨r, rfl, rfl | ⟨h0, h1, h2, h3⟩⟩, hb1⟩)
  · go_ret
    exact ⟨rfl, (by repeat (first | exact Ext.refl _ | assumption | refine Ext.drew ?_ | refine Ext.drewN ?_ _ | refine Ext.iter ?_ _ _ | refine Ext.alloc ?_ _ | refine Ext.setCell ?_ (by first | exact Nat.le_refl _ | (simp <;> omega)) _ | refine Ext.trans2 (by assumption) ?_))⟩
  · have hl2 : xs.length ≤ 1048576 := by omega
    have hsz := Lib.hid (show ∀ x ∈ xs, x.2.size ≤ 1048576 from fun x hx => by have := h3 x hx; omega)
    clear h3 HG hl
    have HX1 := Lib.hid (HX.out.ext hb1)
    go_wp2_with fail
    refine (toSegmentS_c _ _ _ _ HX1.out hl2).mono ?_
    rintro e w2 ⟨⟨q2, rfl, ho2⟩, hb2⟩
    go_wp2_with fail
    refine (sSegmentsLength_c _ _ _ _ ho2.sat hsz.out hl2).mono ?_
    rintro e w3 ⟨hr, hb3⟩
    obtain rfl := hr.fn
    clear hr
    go_wp2_with fail
    refine (toSegmentS_c _ _ _ _ ((HX1.out.ext hb2).ext hb3) hl2).mono ?_
    rintro e w4 ⟨⟨q4, rfl, ho4⟩, hb4⟩
    go_wp2_with fail
    refine (iSegmentsLength_c _ _ _ _ ho4.sat hsz.out hl2).mono ?_
    rintro e w5 ⟨hr, hb5⟩
    obtain rfl := hr.fn
    clear hr
    go_wp2_with fail
    refine (toSegmentS_c _ _ _ _ ((((HX1.out.ext hb2).ext hb3).ext hb4).ext hb5) hl2).mono ?_
    rintro e w6 ⟨⟨q6, rfl, ho6⟩, hb6⟩
    go_wp2_with fail
    refine (eqSegmentS_c _ _ _ _ _ _ _ ((ho4.sat.ext hb5).ext hb6) ho6.sat hl2 hl2).mono ?_
    rintro e w7 ⟨⟨_, rfl⟩ | ⟨hne, rfl⟩, hb7⟩
    case inr => exact absurd rfl hne
    go_wp2_with fail
    go_ret
    exact ⟨rfl, ((((((hb1.trans hb2).trans hb3).trans hb4).trans hb5).trans hb6).trans hb7)⟩

theorem joinSegments_law (p : Option Addr) (c : Nat) (xs : List Sg) (w : World) (hx : SAt segF 2 w p xs) (hl : xs.length ≤ maxLen) (hG : ∀ x ∈ xs, x.2.size ≤ maxLen) :
    Calls Try.prog 6 #[.slice p xs.length c] w fun e w' => e = .returned (.bool true) ∧ Ext w w' := by
  have HX := Lib.hid hx; clear hx
  have HG := Lib.hid hG; clear hG
  go_enter Try.func6, Try.ntmps6
  go_wp2_with (go_at_call 19; refine (szSegmentS_c _ _ _ _ _ HX.out hl HG.out (by omega)).mono ?_; rintro e w1 ⟨⟨r, rfl, rfl | ⟨h0, h1, h2, h3⟩⟩, hb1⟩)
  · go_ret
    exact ⟨rfl, (by repeat (first | exact Ext.refl _ | assumption | refine Ext.drew ?_ | refine Ext.drewN ?_ _ | refine Ext.iter ?_ _ _ | refine Ext.alloc ?_ _ | refine Ext.setCell ?_ (by first | exact Nat.le_refl _ | (simp <;> omega)) _ | refine Ext.trans2 (by assumption) ?_))⟩
  · have hl2 : xs.length ≤ 1048576 := by omega
    have hsz := Lib.hid (show ∀ x ∈ xs, x.2.size ≤ 1048576 from fun x hx => by have := h3 x hx; omega)
    clear h3 HG hl
    have HX1 := Lib.hid (HX.out.ext hb1)
    go_wp2_with fail
    refine (toSegmentS_c _ _ _ _ HX1.out hl2).mono ?_
    rintro e w2 ⟨⟨q2, rfl, ho2⟩, hb2⟩
    go_wp2_with fail
    refine (sJoinSegments_c _ _ _ _ ho2.sat hsz.out hl2).mono ?_
    rintro e w3 ⟨hr, hb3⟩
    obtain rfl := hr.fn
    clear hr
    go_wp2_with fail
    refine (toSegmentS_c _ _ _ _ ((HX1.out.ext hb2).ext hb3) hl2).mono ?_
    rintro e w4 ⟨⟨q4, rfl, ho4⟩, hb4⟩
    go_wp2_with fail
    refine (iJoinSegments_c _ _ _ _ ho4.sat hsz.out hl2).mono ?_
    rintro e w5 ⟨hr, hb5⟩
    obtain rfl := hr.fn
    clear hr
    go_wp2_with fail
    refine (toSegmentS_c _ _ _ _ ((((HX1.out.ext hb2).ext hb3).ext hb4).ext hb5) hl2).mono ?_
    rintro e w6 ⟨⟨q6, rfl, ho6⟩, hb6⟩
    go_wp2_with fail
    refine (eqSegmentS_c _ _ _ _ _ _ _ ((ho4.sat.ext hb5).ext hb6) ho6.sat hl2 hl2).mono ?_
    rintro e w7 ⟨⟨_, rfl⟩ | ⟨hne, rfl⟩, hb7⟩
    case inr => exact absurd rfl hne
    go_wp2_with fail
    go_ret
    exact ⟨rfl, ((((((hb1.trans hb2).trans hb3).trans hb4).trans hb5).trans hb6).trans hb7)⟩

theorem isSegmentation_law (p : Option Addr) (c : Nat) (s : ByteArray) (xs : List Sg) (w : World) (hs : s.size ≤ maxLen) (hx : SAt segF 2 w p xs) (hl : xs.length ≤ maxLen) (hG : ∀ x ∈ xs, x.2.size ≤ maxLen) :
    Calls Try.prog 7 #[.string s, .slice p xs.length c] w fun e w' => e = .returned (.bool true) ∧ Ext w w' := by
  have HX := Lib.hid hx; clear hx
  have HG := Lib.hid hG; clear hG
  by_cases hsm : s.size ≤ 1048576
  · have hsd : (s.size : Int) ≤ 1048576 := by omega
    go_enter Try.func7, Try.ntmps7
    go_wp2_with (go_at_call 19; refine (szSegmentS_c _ _ _ _ _ HX.out hl HG.out (by omega)).mono ?_; rintro e w1 ⟨⟨r, rfl, rfl | ⟨h0, h1, h2, h3⟩⟩, hb1⟩)
    · go_ret
      exact ⟨rfl, (by repeat (first | exact Ext.refl _ | assumption | refine Ext.drew ?_ | refine Ext.drewN ?_ _ | refine Ext.iter ?_ _ _ | refine Ext.alloc ?_ _ | refine Ext.setCell ?_ (by first | exact Nat.le_refl _ | (simp <;> omega)) _ | refine Ext.trans2 (by assumption) ?_))⟩
    · have hl2 : xs.length ≤ 1048576 := by omega
      have hsz := Lib.hid (show ∀ x ∈ xs, x.2.size ≤ 1048576 from fun x hx => by have := h3 x hx; omega)
      clear h3 HG hl
      have HX1 := Lib.hid (HX.out.ext hb1)
      go_wp2_with fail
      refine (toSegmentS_c _ _ _ _ HX1.out hl2).mono ?_
      rintro e w2 ⟨⟨q2, rfl, ho2⟩, hb2⟩
      go_wp2_with fail
      refine (sIsSegmentation_c _ _ _ _ _ ho2.sat hsz.out hl2).mono ?_
      rintro e w3 ⟨⟨hP, rfl⟩ | ⟨hP, rfl⟩, hb3⟩
      all_goals
        go_wp2_with fail
        refine (toSegmentS_c _ _ _ _ ((HX1.out.ext hb2).ext hb3) hl2).mono ?_
        rintro e w4 ⟨⟨q4, rfl, ho4⟩, hb4⟩
        go_wp2_with fail
        refine (iIsSegmentation_c _ _ _ _ _ ho4.sat hsz.out hl2).mono ?_
        rintro e w5 ⟨⟨hP2, rfl⟩ | ⟨hP2, rfl⟩, hb5⟩ <;> try contradiction
        go_wp2_with fail
        refine (toSegmentS_c _ _ _ _ ((((HX1.out.ext hb2).ext hb3).ext hb4).ext hb5) hl2).mono ?_
        rintro e w6 ⟨⟨q6, rfl, ho6⟩, hb6⟩
        go_wp2_with fail
        refine (eqSegmentS_c _ _ _ _ _ _ _ ((ho4.sat.ext hb5).ext hb6) ho6.sat hl2 hl2).mono ?_
        rintro e w7 ⟨⟨_, rfl⟩ | ⟨hne, rfl⟩, hb7⟩
        case inr => exact absurd rfl hne
        go_wp2_with fail
        go_ret
        exact ⟨rfl, ((((((hb1.trans hb2).trans hb3).trans hb4).trans hb5).trans hb6).trans hb7)⟩
  · have hsd : 1048576 < (s.size : Int) := by omega
    go_enter Try.func7, Try.ntmps7
    go_wp2
    go_ret
    exact ⟨rfl, (by repeat (first | exact Ext.refl _ | assumption | refine Ext.drew ?_ | refine Ext.drewN ?_ _ | refine Ext.iter ?_ _ _ | refine Ext.alloc ?_ _ | refine Ext.setCell ?_ (by first | exact Nat.le_refl _ | (simp <;> omega)) _ | refine Ext.trans2 (by assumption) ?_))⟩
end Go.Proofs.Ytepneadbddjmjaa
