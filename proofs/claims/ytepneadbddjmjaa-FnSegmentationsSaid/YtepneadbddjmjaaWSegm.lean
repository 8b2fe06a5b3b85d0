/- The walk of the law FnSegmentations. -/
import Derived.Test.YtepneadbddjmjaaDraw10
import Derived.Test.YtepneadbddjmjaaSegOpt
import Derived.Test.YtepneadbddjmjaaWSegsR
namespace Go.Proofs.Ytepneadbddjmjaa
set_option linter.unusedVariables false
set_option linter.unusedSimpArgs false
open Go.RowKit

set_option maxRecDepth 100000 in
theorem segmentations_law (p : Option Addr) (c : Nat) (code : List Int) (w : World) (hx : U8At w p code) (hl : code.length ≤ maxLen) :
    Calls Try.prog 14 #[.slice p code.length c] w fun e w' => e = .returned (.bool true) ∧ Ext w w' := by
  have HX := Lib.hid hx; clear hx
  by_cases h4 : code.length ≤ 4096
  · go_enter Try.func14, Try.ntmps14
    go_wp2_with (first
      | (go_at_call 42; (with_reducible refine (big_c _ _ _ _ hl).mono ?_); rintro e w1 ⟨⟨hP, rfl⟩ | ⟨hP, rfl⟩, rfl⟩ <;> first | (exfalso; omega) | skip)
      | (go_at_call 60; (with_reducible refine (DrawIsSegmentation_c _ _ _ _ HX.out h4).mono ?_); rintro e w2 ⟨t, q, cc, xs, rfl, ht, hxl, hxs, oq2, hx2⟩))
    have hxs := Lib.hid hxs
    go_wp2_with fail
    refine (iIsSegmentation_c q cc t xs w2 oq2 hxs.out (by omega)).mono ?_
    rintro e w3 ⟨⟨hP, rfl⟩ | ⟨hP, rfl⟩, hx3⟩
    · have hsl : slA xs = segsSum xs ∧ slB xs = 0 := by
        obtain ⟨⟨a1, a2, a3⟩, a4⟩ := hP
        exact ⟨if_pos ⟨a1, a2⟩, by unfold slB; rw [if_neg (by omega), if_pos a2]⟩
      have hbl : (cell t t.size).len ≤ segsSum xs := best_le hP.1.2.1 hP.2
      have ht4 : t.size ≤ 400 := by rw [← hP.2]; exact hP.1.2.2
      have HSL := Lib.hid hsl; clear hsl
      have HP := Lib.hid hP; clear hP
      go_wp2_with fail
      refine (sIsSegmentation_c q cc t xs w3 (oq2.ext hx3) hxs.out (by omega)).mono ?_
      rintro e w4 ⟨⟨hP2, rfl⟩ | ⟨hP2, rfl⟩, hx4⟩
      case inr => exact absurd HP.out hP2
      clear hP2
      go_wp2_with fail
      refine (iSegmentsLength_c q cc xs w4 ((oq2.ext hx3).ext hx4) hxs.out (by omega)).mono ?_
      rintro e w5 ⟨hr, hx5⟩
      obtain rfl := hr.fn
      clear hr
      rw [HSL.out.1, HSL.out.2]
      go_wp2_with fail
      refine (sSegmentsLength_c q cc xs w5 (((oq2.ext hx3).ext hx4).ext hx5) hxs.out (by omega)).mono ?_
      rintro e w6 ⟨hr, hx6⟩
      obtain rfl := hr.fn
      clear hr
      rw [HSL.out.1, HSL.out.2]
      go_wp2_with fail
      refine (iBestLength_c t w6 (by omega)).mono ?_
      rintro e w7 ⟨⟨_, rfl⟩ | ⟨h9, rfl⟩, hx7⟩
      case inr => exact absurd ht4 h9
      go_wp2_with fail
      go_ret
      exact ⟨rfl, ((((hx2.trans hx3).trans hx4).trans hx5).trans hx6).trans hx7⟩
    · have HP := Lib.hid hP; clear hP
      go_wp2_with fail
      refine (sIsSegmentation_c q cc t xs w3 (oq2.ext hx3) hxs.out (by omega)).mono ?_
      rintro e w4 ⟨⟨hP2, rfl⟩ | ⟨hP2, rfl⟩, hx4⟩
      case inl => exact absurd hP2 HP.out
      clear hP2
      go_wp2_with fail
      refine (iSegmentsLength_c q cc xs w4 ((oq2.ext hx3).ext hx4) hxs.out (by omega)).mono ?_
      rintro e w5 ⟨hr, hx5⟩
      obtain rfl := hr.fn
      clear hr
      go_wp2_with fail
      refine (sSegmentsLength_c q cc xs w5 (((oq2.ext hx3).ext hx4).ext hx5) hxs.out (by omega)).mono ?_
      rintro e w6 ⟨hr, hx6⟩
      obtain rfl := hr.fn
      clear hr
      go_wp2_with fail
      refine (iBestLength_c t w6 (by omega)).mono ?_
      rintro e w7 ⟨⟨_, rfl⟩ | ⟨h9, rfl⟩, hx7⟩
      all_goals
        go_wp2_with fail
        go_ret
        exact ⟨rfl, ((((hx2.trans hx3).trans hx4).trans hx5).trans hx6).trans hx7⟩
  · go_enter Try.func14, Try.ntmps14
    go_wp2_with (first
      | (go_at_call 42; (with_reducible refine (big_c _ _ _ _ hl).mono ?_); rintro e w1 ⟨⟨hP, rfl⟩ | ⟨hP, rfl⟩, rfl⟩ <;> first | (exfalso; omega) | skip))
    go_ret
    exact ⟨rfl, (by repeat (first | exact Ext.refl _ | assumption | refine Ext.drew ?_ | refine Ext.drewN ?_ _ | refine Ext.iter ?_ _ _ | refine Ext.alloc ?_ _ | refine Ext.setCell ?_ (by first | exact Nat.le_refl _ | (simp <;> omega)) _ | refine Ext.trans2 (by assumption) ?_))⟩
end Go.Proofs.Ytepneadbddjmjaa
