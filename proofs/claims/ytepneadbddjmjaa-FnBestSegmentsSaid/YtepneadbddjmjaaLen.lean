/- The length of the segmentation in one mode. -/
import Derived.Test.YtepneadbddjmjaaTab
namespace Go.Proofs.Ytepneadbddjmjaa
set_option linter.unusedVariables false
set_option linter.unusedSimpArgs false
open Go.RowKit

def mn255 (x : Int) : Int := if 255 < x then 255 else x
theorem mn255_bd (x : Int) (h : 0 < x ∧ x ≤ 400) : 0 ≤ mn255 x ∧ mn255 x ≤ 255 := by
  unfold mn255
  split <;> omega
def limR (s : ByteArray) (e : Ending) (v : Int) : Prop := (s.size ≤ 400 ∧ e = .returned (.tuple #[.int .i64 v, .int .i64 0])) ∨ (¬ s.size ≤ 400 ∧ e = .returned (.tuple #[.int .i64 0, .int .i64 3]))
def lbS (m : Int) (n : Nat) : Nat → Int
  | 0 => 0
  | j + 1 => lbS m n j + (11 + textW m (mn255 ((n : Int) - 255 * j)))
def lbJ (n : Nat) : Nat := (n + 254) / 255
theorem lbS_bd (m : Int) (n : Nat) (hn : n ≤ 400) : ∀ j, j ≤ lbJ n → 0 ≤ lbS m n j ∧ lbS m n j ≤ 10000 * j := by
  intro j
  induction j with
  | zero => intro _; simp [lbS]
  | succ j ih =>
    intro hj
    unfold lbJ at hj ih
    have := ih (by omega)
    have := mn255_bd ((n : Int) - 255 * j) (by omega)
    have := textW_bd m (mn255 ((n : Int) - 255 * j)) (by omega)
    simp only [lbS]
    omega
theorem narrowest_bd (s : ByteArray) : 1 ≤ narrowest s ∧ narrowest s ≤ 4 := by
  unfold narrowest
  (repeat' split) <;> omega
noncomputable def lbV (s : ByteArray) : Int := lbS (narrowest s) s.size (lbJ s.size)

theorem iLengthBound_c (s : ByteArray) (w : World) (hs : s.size ≤ 1048576) :
    Calls Try.prog 16 #[.string s] w fun e w' => limR s e (lbV s) ∧ Ext w w' := by
  by_cases h : s.size ≤ 400
  · have hm := narrowest_bd s
    go_enter Try.func16, Try.ntmps16
    go_wp2_with (first
      | (go_at_call 62; (with_reducible refine (isMessage_c _ _ hs).mono ?_); rintro e w' ⟨⟨hP, rfl⟩ | ⟨hP, rfl⟩, rfl⟩ <;> go_prune)
      | (go_at_call 51; (with_reducible refine (iNarrowest_c _ _ hs).mono ?_); rintro e w1 ⟨rfl, hb⟩; (obtain ⟨hc, hf, hk, hz⟩ := ecell hb; try (have hx := Ext.trans2 hb (by assumption); obtain ⟨hcx, hfx, hkx, hzx⟩ := ecell hx)); try simp at hz)
      | (go_at_call 63; refine (modeOf_c _ _).mono ?_; rintro e w2 ⟨⟨v, ⟨h4, rfl⟩ | ⟨h4, rfl⟩, hv⟩, hb2⟩ <;> go_prune))
    have hx := hb.trans hb2
    clear hc hf hk hz hb hb2
    go_loopw [6, 7] (fun o i wr => ∃ j : Nat, j ≤ lbJ s.size ∧ o = .int .i64 (lbS (narrowest s) s.size j) ∧ i = .int .i64 ((s.size : Int) - 255 * j) ∧ Ext w2 wr) (fun _ i _ => (intOf i).toNat)
    case atStart => exact ⟨0, Nat.zero_le _, rfl, by go_num, (by repeat (first | exact Ext.refl _ | assumption | refine Ext.drew ?_ | refine Ext.drewN ?_ _ | refine Ext.iter ?_ _ _ | refine Ext.alloc ?_ _ | refine Ext.setCell ?_ (by first | exact Nat.le_refl _ | (simp <;> omega)) _ | refine Ext.trans2 (by assumption) ?_))⟩
    case round =>
      obtain ⟨j, hj, rfl, rfl, hext⟩ := hrel
      have hb := lbS_bd (narrowest s) s.size h j hj
      have hv3 := hv.ext hext
      clear hv
      by_cases hlt : 0 < (s.size : Int) - 255 * j
      · have hlb := hj
        unfold lbJ at hlb
        have hmn := mn255_bd ((s.size : Int) - 255 * j) (by omega)
        have htw := textW_bd (narrowest s) (mn255 ((s.size : Int) - 255 * j)) (by omega)
        unfold mn255 at hmn htw
        have HV := Lib.hid hv3; clear hv3
        go_wp2_with (first | (go_at_call 64; (with_reducible refine (iSegmentWidth_c _ _ _ _ hm HV.out (by omega)).mono ?_); rintro e w1 ⟨rfl, hb⟩; (obtain ⟨hc, hf, hk, hz⟩ := ecell hb; try (have hx := Ext.trans2 hb (by assumption); obtain ⟨hcx, hfx, hkx, hzx⟩ := ecell hx)); try simp at hz))
        go_roundw
        case rel => exact ⟨j + 1, by unfold lbJ; omega, by simp [lbS, mn255], by go_num, (by repeat (first | exact Ext.refl _ | assumption | refine Ext.drew ?_ | refine Ext.drewN ?_ _ | refine Ext.iter ?_ _ _ | refine Ext.alloc ?_ _ | refine Ext.setCell ?_ (by first | exact Nat.le_refl _ | (simp <;> omega)) _ | refine Ext.trans2 (by assumption) ?_))⟩
        case measure => simp [intOf]; omega
      · go_wp2
        go_ret2
        have : j = lbJ s.size := by unfold lbJ at *; omega
        subst this
        exact ⟨.inl ⟨h, rfl⟩, hx.trans hext⟩
  · go_enter Try.func16, Try.ntmps16
    go_wp2_with (first | (go_at_call 62; (with_reducible refine (isMessage_c _ _ hs).mono ?_); rintro e w' ⟨⟨hP, rfl⟩ | ⟨hP, rfl⟩, rfl⟩ <;> go_prune))
    go_ret2
    exact ⟨.inr ⟨h, rfl⟩, (by repeat (first | exact Ext.refl _ | assumption | refine Ext.drew ?_ | refine Ext.drewN ?_ _ | refine Ext.iter ?_ _ _ | refine Ext.alloc ?_ _ | refine Ext.setCell ?_ (by first | exact Nat.le_refl _ | (simp <;> omega)) _ | refine Ext.trans2 (by assumption) ?_))⟩

theorem sLengthBound_c (s : ByteArray) (w : World) (hs : s.size ≤ 1048576) :
    Calls Try.prog 15 #[.string s] w fun e w' => limR s e (lbV s) ∧ Ext w w' := by
  by_cases h : s.size ≤ 400
  · have hm := narrowest_bd s
    have hd : (s.size : Int) ≤ 400 := by omega
    go_enter Try.func15, Try.ntmps15
    go_wp2_with (first | (go_at_call 52; (with_reducible refine (sNarrowest_c _ _ hs).mono ?_); rintro e w1 ⟨rfl, hb⟩; (obtain ⟨hc, hf, hk, hz⟩ := ecell hb; try (have hx := Ext.trans2 hb (by assumption); obtain ⟨hcx, hfx, hkx, hzx⟩ := ecell hx)); try simp at hz))
    go_loopw [5, 6] (fun o i wr => ∃ j : Nat, j ≤ lbJ s.size ∧ o = .int .i64 (lbS (narrowest s) s.size j) ∧ i = .int .i64 ((s.size : Int) - 255 * j) ∧ Ext w wr) (fun _ i _ => (intOf i).toNat)
    case atStart => exact ⟨0, Nat.zero_le _, rfl, by go_num, (by repeat (first | exact Ext.refl _ | assumption | refine Ext.drew ?_ | refine Ext.drewN ?_ _ | refine Ext.iter ?_ _ _ | refine Ext.alloc ?_ _ | refine Ext.setCell ?_ (by first | exact Nat.le_refl _ | (simp <;> omega)) _ | refine Ext.trans2 (by assumption) ?_))⟩
    case round =>
      obtain ⟨j, hj, rfl, rfl, hext⟩ := hrel
      have hb := lbS_bd (narrowest s) s.size h j hj
      by_cases hlt : 0 < (s.size : Int) - 255 * j
      · have hlb := hj
        unfold lbJ at hlb
        have hmn := mn255_bd ((s.size : Int) - 255 * j) (by omega)
        have htw := textW_bd (narrowest s) (mn255 ((s.size : Int) - 255 * j)) (by omega)
        unfold mn255 at hmn htw
        go_wp2_with (first | (go_at_call 61; (with_reducible refine (sLength_c _ _ _ hm (by omega)).mono ?_); rintro e w1 ⟨rfl, hb⟩; (obtain ⟨hc, hf, hk, hz⟩ := ecell hb; try (have hx := Ext.trans2 hb (by assumption); obtain ⟨hcx, hfx, hkx, hzx⟩ := ecell hx)); try simp at hz))
        go_roundw
        case rel => exact ⟨j + 1, by unfold lbJ; omega, by simp [lbS, mn255], by go_num, (by repeat (first | exact Ext.refl _ | assumption | refine Ext.drew ?_ | refine Ext.drewN ?_ _ | refine Ext.iter ?_ _ _ | refine Ext.alloc ?_ _ | refine Ext.setCell ?_ (by first | exact Nat.le_refl _ | (simp <;> omega)) _ | refine Ext.trans2 (by assumption) ?_))⟩
        case measure => simp [intOf]; omega
      · go_wp2
        go_ret2
        have : j = lbJ s.size := by unfold lbJ at *; omega
        subst this
        exact ⟨.inl ⟨h, rfl⟩, (by repeat (first | exact Ext.refl _ | assumption | refine Ext.drew ?_ | refine Ext.drewN ?_ _ | refine Ext.iter ?_ _ _ | refine Ext.alloc ?_ _ | refine Ext.setCell ?_ (by first | exact Nat.le_refl _ | (simp <;> omega)) _ | refine Ext.trans2 (by assumption) ?_))⟩
  · have hd : 400 < (s.size : Int) := by omega
    go_enter Try.func15, Try.ntmps15
    go_wp2
    go_ret2
    exact ⟨.inr ⟨h, rfl⟩, (by repeat (first | exact Ext.refl _ | assumption | refine Ext.drew ?_ | refine Ext.drewN ?_ _ | refine Ext.iter ?_ _ _ | refine Ext.alloc ?_ _ | refine Ext.setCell ?_ (by first | exact Nat.le_refl _ | (simp <;> omega)) _ | refine Ext.trans2 (by assumption) ?_))⟩

theorem sBestLength_c (s : ByteArray) (w : World) (hs : s.size ≤ 1048576) :
    Calls Try.prog 17 #[.string s] w fun e w' => limR s e (cell s s.size).len ∧ Ext w w' := by
  by_cases h : s.size ≤ 400
  · have hd : (s.size : Int) ≤ 400 := by omega
    go_enter Try.func17, Try.ntmps17
    go_wp2_with (first
      | (go_at_call 65; refine (sTable_c s _ hs).mono ?_; rintro e w1 ⟨⟨g, cs, rfl, hg, hB, hD⟩, hb⟩; have hz0 := hD.2 s.size (Nat.le_refl _) (Nat.le_refl _) 0 (by omega); rw [Nat.sub_self] at hz0; have hz0 := hB.cell (hz0.trans rfl); clear hD))
    go_ret2
    exact ⟨.inl ⟨h, rfl⟩, (by repeat (first | exact Ext.refl _ | assumption | refine Ext.drew ?_ | refine Ext.drewN ?_ _ | refine Ext.iter ?_ _ _ | refine Ext.alloc ?_ _ | refine Ext.setCell ?_ (by first | exact Nat.le_refl _ | (simp <;> omega)) _ | refine Ext.trans2 (by assumption) ?_))⟩
  · have hd : 400 < (s.size : Int) := by omega
    go_enter Try.func17, Try.ntmps17
    go_wp2
    go_ret2
    exact ⟨.inr ⟨h, rfl⟩, (by repeat (first | exact Ext.refl _ | assumption | refine Ext.drew ?_ | refine Ext.drewN ?_ _ | refine Ext.iter ?_ _ _ | refine Ext.alloc ?_ _ | refine Ext.setCell ?_ (by first | exact Nat.le_refl _ | (simp <;> omega)) _ | refine Ext.trans2 (by assumption) ?_))⟩

theorem iBestLength_c (s : ByteArray) (w : World) (hs : s.size ≤ 1048576) :
    Calls Try.prog 18 #[.string s] w fun e w' => limR s e (cell s s.size).len ∧ Ext w w' := BestLength_c s w hs
end Go.Proofs.Ytepneadbddjmjaa
