/- The walk of the law FnCharacters. -/
import Derived.Test.YtepneadbddjmjaaChars
namespace Go.Proofs.Ytepneadbddjmjaa
set_option linter.unusedVariables false
set_option linter.unusedSimpArgs false
open Go.RowKit

theorem idxB_val {s : ByteArray} {b : Int} {i : Nat} (h : idxB s b = i) : ∃ hi : i < s.data.toList.length, ((s.data.toList[i]).toNat : Int) = b := by
  unfold idxB at h
  split at h
  · rename_i j hj
    have e : j = i := by omega
    subst e
    rw [List.findIdx?_eq_some_iff_getElem] at hj
    obtain ⟨h1, h2, _⟩ := hj
    exact ⟨h1, by simpa using h2⟩
  · omega
theorem charVal_dom {m b : Int} (h : 0 ≤ charVal m b) : (1 ≤ m ∧ m ≤ 4) ∧ 0 ≤ b ∧ b ≤ 255 := by
  unfold charVal at h
  split at h
  · omega
  · omega
theorem charVal_inj {m b b' : Int} (h : 0 ≤ charVal m b) (e : charVal m b' = charVal m b) : b' = b := by
  have h2 : 0 ≤ charVal m b' := by omega
  have d1 := charVal_dom h
  have d2 := charVal_dom h2
  by_cases h4 : m = 4
  · rw [charVal_bytes h4 d1.2, charVal_bytes h4 d2.2] at e
    exact e
  · rw [charVal_listed (by omega) d1.2] at h
    rw [charVal_listed (by omega) d1.2, charVal_listed (by omega) d2.2] at e
    obtain ⟨i, hi⟩ : ∃ i : Nat, idxB (modeSet m) b = i := ⟨(idxB (modeSet m) b).toNat, by omega⟩
    obtain ⟨_, e1⟩ := idxB_val hi
    obtain ⟨_, e2⟩ := idxB_val (e.trans hi)
    rw [← e1, ← e2]
theorem narrowest_all (s : ByteArray) : AllIn (narrowest s) s := by
  unfold narrowest
  split
  · assumption
  · split
    · assumption
    · split
      · assumption
      · intro j hj
        have := UInt8.toNat_lt s[j]
        rw [charVal_bytes rfl (by omega)]
        omega

set_option maxRecDepth 100000 in
theorem characters_law (p : Option Addr) (c : Nat) (code : List Int) (w : World) (hx : U8At w p code) (hl : code.length ≤ maxLen) :
    Calls Try.prog 11 #[.slice p code.length c] w fun e w' => e = .returned (.bool true) ∧ Ext w w' := by
  by_cases h4 : code.length ≤ 4096
  · have HX := Lib.hid hx; clear hx
    go_enter Try.func11, Try.ntmps11
    go_wp2_with (first
      | (go_at_call 42; (with_reducible refine (big_c _ _ _ _ hl).mono ?_); rintro e w1 ⟨⟨hP, rfl⟩ | ⟨hP, rfl⟩, rfl⟩ <;> first | (exfalso; omega) | skip)
      | (go_at_call 43; (with_reducible refine (DrawCharacterValue_c _ _ _ _ HX.out h4).mono ?_); rintro e w2 ⟨m, b, rfl, hm1, hm2, hb1, hb2, hx2⟩)
      | (go_at_call 44; (with_reducible refine (iCharacterValue_c _ _ _).mono ?_); rintro e w3 ⟨rfl, hx3⟩)
      | (go_at_call 45; (with_reducible refine (sCharacterValue_c m b _).mono ?_); rintro e w4 ⟨rfl, hx4⟩)
      | (go_at_call 46; (with_reducible refine (iModeName_c m _).mono ?_); rintro e w5 ⟨rfl, hx5⟩)
      | (go_at_call 47; (with_reducible refine (sModeName_c m _).mono ?_); rintro e w6 ⟨rfl, hx6⟩)
      | (go_at_call 48; (with_reducible refine (roll_c _ _ _ _ _ (HX.out.ext ((((hx2.trans hx3).trans hx4).trans hx5).trans hx6)) h4).mono ?_); rintro e w7 ⟨⟨g, rfl, rfl, hd7⟩, hx7⟩)
      | (go_at_call 49; (with_reducible refine (below_c _ _ _ hd7 (by omega)).mono ?_); rintro e w8 ⟨o, rfl, ho0, ho1, hd8, hb8⟩; have hx8 : Ext w w8 := (((((hx2.trans hx3).trans hx4).trans hx5).trans hx6).trans (hx7.but hb8 (Nat.le_refl _)))))
    all_goals first
      | (exfalso
         have q1 : (o != b) = true ∧ (charVal m o == charVal m b) = true := by assumption
         have q2 : 0 ≤ charVal m b := by assumption
         have q3 : ¬ o = b := by assumption
         exact q3 (charVal_inj q2 (by simpa using q1.2)))
      | skip
    all_goals
      refine (DrawNarrowestMode_c _ _ _ _ (HX.out.ext (by first | exact hx8.trans (by assumption) | exact hx8)) h4).mono ?_
      rintro e w9 ⟨t, rfl, ht, hx9⟩
      have hx9' : Ext w w9 := by first | exact hx8.trans hx9 | exact (hx8.trans (by assumption)).trans hx9
      have hna := Lib.hid (narrowest_all t)
      clear hx9
      go_wp2_with (first
        | (go_at_call 51; (with_reducible refine (iNarrowest_c t _ (by omega)).mono ?_); rintro e w10 ⟨rfl, hx10⟩)
        | (go_at_call 52; (with_reducible refine (sNarrowest_c t _ (by omega)).mono ?_); rintro e w11 ⟨rfl, hx11⟩))
      have hx11' := (hx9'.trans hx10).trans hx11
      clear hx9' hx10 hx11 hx8
      go_loopw [9] (fun i wr => ∃ k : Nat, k ≤ t.size ∧ i = .int .i64 k ∧ Ext w wr) (fun i _ => t.size - (intOf i).toNat)
      case atStart => exact ⟨0, Nat.zero_le _, rfl, hx11'⟩
      case round =>
        clear hx11'
        obtain ⟨k, hk, rfl, hext⟩ := hrel
        by_cases hlt : k < t.size
        · have h8 : (t[k]'hlt).toNat < 256 := UInt8.toNat_lt _
          have hpos := hna.out k hlt
          have HPOS := Lib.hid hpos; clear hpos
          go_wp2_with (go_at_call 44; (with_reducible refine (iCharacterValue_c _ _ _).mono ?_); rintro e w12 ⟨rfl, hb⟩; have hpos := HPOS.out)
          go_roundw
          case rel => exact ⟨k + 1, hlt, by go_num, hext.trans hb⟩
          case measure => simp [intOf]; omega
        · go_wp2
          go_ret
          exact ⟨rfl, hext⟩
  · have HX := Lib.hid hx; clear hx
    go_enter Try.func11, Try.ntmps11
    go_wp2_with (first
      | (go_at_call 42; (with_reducible refine (big_c _ _ _ _ hl).mono ?_); rintro e w1 ⟨⟨hP, rfl⟩ | ⟨hP, rfl⟩, rfl⟩ <;> first | (exfalso; omega) | skip))
    go_ret
    exact ⟨rfl, (by repeat (first | exact Ext.refl _ | assumption | refine Ext.drew ?_ | refine Ext.drewN ?_ _ | refine Ext.iter ?_ _ _ | refine Ext.alloc ?_ _ | refine Ext.setCell ?_ (by first | exact Nat.le_refl _ | (simp <;> omega)) _ | refine Ext.trans2 (by assumption) ?_))⟩
end Go.Proofs.Ytepneadbddjmjaa
