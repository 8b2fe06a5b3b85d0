/- The reference's GlyphRows; the law's walk. -/
import Derived.Test.YtjlndmicjdjdlaaGlyph
import Derived.Test.YtjlndmicjdjdlaaOwn
namespace Go.Proofs.Ytjlndmicjdjdlaa
set_option linter.unusedVariables false
set_option linter.unusedSimpArgs false
open Go.RowKit

theorem glRow_range (A : Nat) : glRow A = (List.range 5).map (gl A) := rfl

set_option maxRecDepth 100000 in
theorem sGlyphRows_c (b : Int) (w : World) :
    Calls Try.prog 17 #[.int .i64 b] w fun e w' => (∃ p c, e = .returned (.tuple #[.slice p (glList b).length c, .int .i64 (glCode b)]) ∧ OwnInts w.heap.size w' p (glList b)) ∧ Ext w w' := by
  by_cases h32 : b = 32
  · subst h32
    go_enter Try.func17, Try.ntmps17
    go_wp2
    go_ret2
    exact ⟨⟨_, _, rfl, OwnInts_alloc w.heap.size w [0, 0, 0, 0, 0] _ (Nat.le_refl _)⟩, (by repeat (first | exact Ext.refl _ | assumption | refine Ext.drew ?_ | refine Ext.drewN ?_ _ | refine Ext.iter ?_ _ _ | refine Ext.alloc ?_ _ | refine Ext.setCell ?_ (by first | exact Nat.le_refl _ | (simp <;> omega)) _ | refine Ext.trans2 (by assumption) ?_))⟩
  · by_cases hin : (48 ≤ b ∧ b ≤ 57) ∨ (65 ≤ b ∧ b ≤ 90)
    · obtain ⟨A, hA, hA2⟩ : ∃ A : Nat, ((48 ≤ b ∧ b ≤ 57 ∧ b = A + 48) ∨ (65 ≤ b ∧ b ≤ 90 ∧ b = A + 55)) ∧ A < 36 := by
        rcases hin with h | h
        · exact ⟨(b - 48).toNat, by omega, by omega⟩
        · exact ⟨(b - 55).toNat, by omega, by omega⟩
      have e : glList b = glRow A := by
        unfold glList glAt
        rcases hA with h | h
        · rw [if_neg (by omega), if_pos (by omega), if_pos (by omega)]; congr 1; omega
        · rw [if_neg (by omega), if_pos (by omega), if_neg (by omega)]; congr 1; omega
      have e2 : glCode b = 0 := if_pos (by omega)
      rw [e, e2]
      clear e e2
      have hA3 : b - 48 = A ∨ b - 65 + 10 = A := by omega
      have H3 := Lib.hid hA3; have HA := Lib.hid hA; clear hA3 hA
      go_enter Try.func17, Try.ntmps17
      go_wp2_with (first | (go_at_call 32; (with_reducible refine (l01In_c _ _ _ _).mono ?_); rintro e w' ⟨⟨hP, rfl⟩ | ⟨hP, rfl⟩, rfl⟩ <;> go_prune))
      all_goals
        first
          | (rw [show b - 48 = A from by have := HA.out; omega])
          | (rw [show b - 65 + 10 = A from by have := HA.out; omega])
        go_loopw [5, 6] (fun out i wr => ∃ k : Nat, k ≤ 5 ∧ i = .int .i64 k ∧ RowI w.heap.size wr out ((List.range k).map (gl A)) ∧ Ext w wr) (fun _ i _ => 5 - (intOf i).toNat)
        case atStart => exact ⟨0, by omega, rfl, RowI.made (Nat.le_refl _), (by repeat (first | exact Ext.refl _ | assumption | refine Ext.drew ?_ | refine Ext.drewN ?_ _ | refine Ext.iter ?_ _ _ | refine Ext.alloc ?_ _ | refine Ext.setCell ?_ (by first | exact Nat.le_refl _ | (simp <;> omega)) _ | refine Ext.trans2 (by assumption) ?_))⟩
        case round =>
          obtain ⟨k, hk, rfl, hown, hext⟩ := hrel
          by_cases hlt : k < 5
          · go_wp2_with (first
              | (go_at_call 41; refine (sGlyphs_c _).mono ?_; rintro e w1 ⟨⟨R, rfl, hT⟩, rfl⟩; have hi : 5 * A + k < R.size := (by have := hT.1; omega); have hb1 := hT.2 A k hA2 hlt; rw [byteAt_eq hi, Nat.zero_add] at hb1; have HB := Lib.hid hb1; have hgb := gl_bd A k hA2 hlt; have h8 : 48 ≤ (R[5 * A + k]'hi).toNat ∧ (R[5 * A + k]'hi).toNat ≤ 60 := (by omega); have hsz := hT.1; clear hT hb1)
              | (at_builtin; refine append1I hown (by simp; omega) hext.below.size ?_ rfl rfl; intro v1 w1 hown1 hb1))
            go_roundw
            case rel =>
              refine ⟨k + 1, by omega, by go_num, ?_, Ext.trans3 hext hb1⟩
              have e : (R[5 * A + k]'hi).toNat - 48 = gl A k := by have := HB.out; omega
              rw [List.range_succ, List.map_append, List.map_singleton, ← e]
              exact hown1
            case measure => simp [intOf]; omega
          · obtain rfl : k = 5 := by omega
            obtain ⟨p, c, rfl, ho⟩ := hown.own
            go_wp2
            go_ret2
            exact ⟨⟨p, c, rfl, ho⟩, hext⟩
    · have e : glList b = [] := by
        unfold glList
        rw [if_neg (by omega), if_neg (by omega)]
      have e2 : glCode b = 4 := if_neg (by omega)
      rw [e, e2]
      clear e e2
      go_enter Try.func17, Try.ntmps17
      go_wp2_with (first | (go_at_call 32; (with_reducible refine (l01In_c _ _ _ _).mono ?_); rintro e w' ⟨⟨hP, rfl⟩ | ⟨hP, rfl⟩, rfl⟩ <;> go_prune))
      go_ret2
      exact ⟨⟨_, _, rfl, OwnInts.nil _ _ _⟩, (by repeat (first | exact Ext.refl _ | assumption | refine Ext.drew ?_ | refine Ext.drewN ?_ _ | refine Ext.iter ?_ _ _ | refine Ext.alloc ?_ _ | refine Ext.setCell ?_ (by first | exact Nat.le_refl _ | (simp <;> omega)) _ | refine Ext.trans2 (by assumption) ?_))⟩

theorem glList_len (b : Int) : (glList b).length ≤ 5 := by
  unfold glList
  (repeat' split) <;> simp [glRow]

theorem glyphRows_law (b : Int) (w : World) :
    Calls Try.prog 6 #[.int .i64 b] w fun e w' => e = .returned (.bool true) ∧ Ext w w' := by
  have hl := glList_len b
  generalize hL : glList b = L at hl
  have HL := Lib.hid hL; clear hL
  have hL2 : (L.length : Int) ≤ 5 := by omega
  go_enter Try.func6, Try.ntmps6
  go_wp2_with fail
  refine (sGlyphRows_c _ _).mono ?_
  rw [HL.out]
  rintro e w1 ⟨⟨p0, c0, rfl, ho0⟩, hb1⟩
  go_wp2_with fail
  refine (iGlyphRows_c _ _).mono ?_
  rw [HL.out]
  rintro e w2 ⟨⟨p1, c1, rfl, ho1⟩, hb2⟩
  go_wp2_with fail
  refine (eqInt64S_c p1 p0 c1 c0 L L w2 ho1.ints (ho0.ints.ext hb2) (by omega) (by omega)).mono ?_
  rintro e w3 ⟨⟨_, rfl⟩ | ⟨hne, rfl⟩, n3, rfl⟩
  case inr => exact absurd rfl hne
  go_wp2_with fail
  refine (markInt64S_c w1.heap.size p1 c1 1 L (w2.drewN n3) ho1 (by omega) (by omega)).mono ?_
  rintro e w4 ⟨rfl, ho4, _, hb4⟩
  go_wp2_with fail
  refine (heldInt64S_c p1 c1 1 L.length w4 ho4.ints (by omega) (by omega)).mono ?_
  rintro e w4' ⟨rfl, rfl⟩
  have hx4 : Ext w1 w4 := (hb2.drewN n3).low hb4 (Nat.le_refl _)
  go_wp2_with fail
  refine (iGlyphRows_c _ _).mono ?_
  rw [HL.out]
  rintro e w5 ⟨⟨p2, c2, rfl, ho2⟩, hb5⟩
  go_wp2_with fail
  refine (eqInt64S_c p2 p0 c2 c0 L L w5 ho2.ints ((ho0.ints.ext hx4).ext hb5) (by omega) (by omega)).mono ?_
  rintro e w6 ⟨⟨_, rfl⟩ | ⟨hne, rfl⟩, n6, rfl⟩
  case inr => exact absurd rfl hne
  go_wp2_with fail
  refine (heldInt64S_c p1 c1 1 L.length (w5.drewN n6) (ho4.ints.ext (hb5.drewN n6)) (by omega) (by omega)).mono ?_
  rintro e w7 ⟨rfl, rfl⟩
  go_wp2_with fail
  go_ret
  exact ⟨rfl, ((hb1.trans hx4).trans hb5).drewN n6⟩

end Go.Proofs.Ytjlndmicjdjdlaa