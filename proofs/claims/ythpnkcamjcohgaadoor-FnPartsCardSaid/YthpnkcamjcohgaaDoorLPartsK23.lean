/- Parts of a message: validity, bits. -/
import Derived.Test.YthpnkcamjcohgaaDoorLPartsK22
namespace Go.Proofs.YthpnkcamjcohgaaDoor
set_option linter.unusedVariables false
set_option linter.unusedSimpArgs false
open Go.RowKit

abbrev vPart (i n y : Int) (t : ByteArray) : Value := .agg #[.int .i64 i, .int .i64 n, .int .i64 y, .string t]
def partOK (i n y : Int) (t : ByteArray) : Prop := (1 ≤ n ∧ n ≤ 8) ∧ (0 ≤ i ∧ i ≤ n - 1) ∧ (0 ≤ y ∧ y ≤ 255) ∧ t.size ≤ 400
set_option maxRecDepth 100000 in
theorem iIsPart_c (i n y : Int) (t : ByteArray) (w : World) (ht : t.size ≤ 1048576) :
    Calls Tryd.prog 103 #[vPart i n y t] w fun e w' => isB e (partOK i n y t) ∧ Ext w w' := by
  by_cases h1 : 1 ≤ n ∧ n ≤ 8
  · by_cases h2 : 0 ≤ i ∧ i ≤ n - 1
    · by_cases h3 : 0 ≤ y ∧ y ≤ 255
      · by_cases h4 : t.size ≤ 400
        · have HY := Lib.hid (show partOK i n y t from ⟨h1, h2, h3, h4⟩)
          have hd : decide ((t.size : Int) ≤ 400) = true := by simp; omega
          go_enter Tryd.func103, Tryd.ntmps103
          go_wp2_with (first | (go_at_call 51; (with_reducible refine (inRange_c _ _ _ _).mono ?_); rintro e w1 ⟨⟨hP, rfl⟩ | ⟨hP, rfl⟩, rfl⟩ <;> try contradiction) | (go_at_call 53; (with_reducible refine (isMessage_c _ _ ht).mono ?_); rintro e w1 ⟨⟨hP, rfl⟩ | ⟨hP, rfl⟩, rfl⟩ <;> try contradiction))
          go_ret
          exact ⟨isB_t HY.out, (by repeat (first | exact Ext.refl _ | assumption | refine Ext.drew ?_ | refine Ext.drewN ?_ _ | refine Ext.iter ?_ _ _ | refine Ext.alloc ?_ _ | refine Ext.setCell ?_ (by first | exact Nat.le_refl _ | (simp <;> omega)) _ | refine Ext.trans2 (by assumption) ?_))⟩
        · have HY := Lib.hid (show ¬ partOK i n y t from fun h => h4 h.2.2.2)
          have hd : decide ((t.size : Int) ≤ 400) = false := by simp; omega
          go_enter Tryd.func103, Tryd.ntmps103
          go_wp2_with (first | (go_at_call 51; (with_reducible refine (inRange_c _ _ _ _).mono ?_); rintro e w1 ⟨⟨hP, rfl⟩ | ⟨hP, rfl⟩, rfl⟩ <;> try contradiction) | (go_at_call 53; (with_reducible refine (isMessage_c _ _ ht).mono ?_); rintro e w1 ⟨⟨hP, rfl⟩ | ⟨hP, rfl⟩, rfl⟩ <;> try contradiction))
          go_ret
          exact ⟨isB_f HY.out, (by repeat (first | exact Ext.refl _ | assumption | refine Ext.drew ?_ | refine Ext.drewN ?_ _ | refine Ext.iter ?_ _ _ | refine Ext.alloc ?_ _ | refine Ext.setCell ?_ (by first | exact Nat.le_refl _ | (simp <;> omega)) _ | refine Ext.trans2 (by assumption) ?_))⟩
      · have HY := Lib.hid (show ¬ partOK i n y t from fun h => h3 h.2.2.1)
        go_enter Tryd.func103, Tryd.ntmps103
        go_wp2_with (first | (go_at_call 51; (with_reducible refine (inRange_c _ _ _ _).mono ?_); rintro e w1 ⟨⟨hP, rfl⟩ | ⟨hP, rfl⟩, rfl⟩ <;> try contradiction) | (go_at_call 53; (with_reducible refine (isMessage_c _ _ ht).mono ?_); rintro e w1 ⟨⟨hP, rfl⟩ | ⟨hP, rfl⟩, rfl⟩ <;> try contradiction))
        go_ret
        exact ⟨isB_f HY.out, (by repeat (first | exact Ext.refl _ | assumption | refine Ext.drew ?_ | refine Ext.drewN ?_ _ | refine Ext.iter ?_ _ _ | refine Ext.alloc ?_ _ | refine Ext.setCell ?_ (by first | exact Nat.le_refl _ | (simp <;> omega)) _ | refine Ext.trans2 (by assumption) ?_))⟩
    · have HY := Lib.hid (show ¬ partOK i n y t from fun h => h2 h.2.1)
      go_enter Tryd.func103, Tryd.ntmps103
      go_wp2_with (first | (go_at_call 51; (with_reducible refine (inRange_c _ _ _ _).mono ?_); rintro e w1 ⟨⟨hP, rfl⟩ | ⟨hP, rfl⟩, rfl⟩ <;> try contradiction) | (go_at_call 53; (with_reducible refine (isMessage_c _ _ ht).mono ?_); rintro e w1 ⟨⟨hP, rfl⟩ | ⟨hP, rfl⟩, rfl⟩ <;> try contradiction))
      go_ret
      exact ⟨isB_f HY.out, (by repeat (first | exact Ext.refl _ | assumption | refine Ext.drew ?_ | refine Ext.drewN ?_ _ | refine Ext.iter ?_ _ _ | refine Ext.alloc ?_ _ | refine Ext.setCell ?_ (by first | exact Nat.le_refl _ | (simp <;> omega)) _ | refine Ext.trans2 (by assumption) ?_))⟩
  · have HY := Lib.hid (show ¬ partOK i n y t from fun h => h1 h.1)
    go_enter Tryd.func103, Tryd.ntmps103
    go_wp2_with (first | (go_at_call 51; (with_reducible refine (inRange_c _ _ _ _).mono ?_); rintro e w1 ⟨⟨hP, rfl⟩ | ⟨hP, rfl⟩, rfl⟩ <;> try contradiction) | (go_at_call 53; (with_reducible refine (isMessage_c _ _ ht).mono ?_); rintro e w1 ⟨⟨hP, rfl⟩ | ⟨hP, rfl⟩, rfl⟩ <;> try contradiction))
    go_ret
    exact ⟨isB_f HY.out, (by repeat (first | exact Ext.refl _ | assumption | refine Ext.drew ?_ | refine Ext.drewN ?_ _ | refine Ext.iter ?_ _ _ | refine Ext.alloc ?_ _ | refine Ext.setCell ?_ (by first | exact Nat.le_refl _ | (simp <;> omega)) _ | refine Ext.trans2 (by assumption) ?_))⟩
end Go.Proofs.YthpnkcamjcohgaaDoor
