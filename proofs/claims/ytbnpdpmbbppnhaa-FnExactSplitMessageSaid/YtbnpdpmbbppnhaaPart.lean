
/- Parts of a message: validity, bits. -/
import Derived.Test.YtbnpdpmbbppnhaaEncode
namespace Go.Proofs.Ytbnpdpmbbppnhaa
set_option linter.unusedVariables false
set_option linter.unusedSimpArgs false
open Go.RowKit

abbrev vPart (i n y : Int) (t : ByteArray) : Value := .agg #[.int .i64 i, .int .i64 n, .int .i64 y, .string t]
def partOK (i n y : Int) (t : ByteArray) : Prop := (1 ≤ n ∧ n ≤ 8) ∧ (0 ≤ i ∧ i ≤ n - 1) ∧ (0 ≤ y ∧ y ≤ 255) ∧ t.size ≤ 400
def headL (i n y : Int) : List Int := bitsOf 5 3 ++ bitsOf i 3 ++ bitsOf (n - 1) 3 ++ bitsOf y 8
def partL (i n y : Int) (t : ByteArray) : List Int := headL i n y ++ mBits (bests t t.size)
theorem headL_len (i n y : Int) : (headL i n y).length = 17 := by simp [headL, bitsOf_len]
theorem partL_len (i n y : Int) (t : ByteArray) : ((partL i n y t).length : Int) = 17 + (cell t t.size).len := by
  have := msg_len t
  simp only [partL, List.length_append, headL_len]
  omega
theorem bitsOf_bit (n wd : Int) : ∀ x ∈ bitsOf n wd, x = 0 ∨ x = 1 := fun x hx => by
  simp only [bitsOf, List.mem_map] at hx
  obtain ⟨j, _, rfl⟩ := hx
  omega
theorem partL_bit (i n y : Int) (t : ByteArray) : ∀ x ∈ partL i n y t, x = 0 ∨ x = 1 := fun x hx => by
  simp only [partL, headL, List.mem_append] at hx
  rcases hx with (((h | h) | h) | h) | h
  · exact bitsOf_bit _ _ x h
  · exact bitsOf_bit _ _ x h
  · exact bitsOf_bit _ _ x h
  · exact bitsOf_bit _ _ x h
  · exact mBits_bit x h

set_option maxRecDepth 100000 in
theorem iIsPart_c (i n y : Int) (t : ByteArray) (w : World) (ht : t.size ≤ 1048576) :
    Calls Try.prog 22 #[vPart i n y t] w fun e w' => isB e (partOK i n y t) ∧ Ext w w' := by
  by_cases h1 : 1 ≤ n ∧ n ≤ 8
  · by_cases h2 : 0 ≤ i ∧ i ≤ n - 1
    · by_cases h3 : 0 ≤ y ∧ y ≤ 255
      · by_cases h4 : t.size ≤ 400
        · have HY := Lib.hid (show partOK i n y t from ⟨h1, h2, h3, h4⟩)
          have hd : decide ((t.size : Int) ≤ 400) = true := by simp; omega
          go_enter Try.func22, Try.ntmps22
          go_wp2_with (first | (go_at_call 85; (with_reducible refine (inRange_c _ _ _ _).mono ?_); rintro e w1 ⟨⟨hP, rfl⟩ | ⟨hP, rfl⟩, rfl⟩ <;> try contradiction) | (go_at_call 98; (with_reducible refine (isMessage_c _ _ ht).mono ?_); rintro e w1 ⟨⟨hP, rfl⟩ | ⟨hP, rfl⟩, rfl⟩ <;> try contradiction))
          go_ret
          exact ⟨isB_t HY.out, (by repeat (first | exact Ext.refl _ | assumption | refine Ext.drew ?_ | refine Ext.drewN ?_ _ | refine Ext.iter ?_ _ _ | refine Ext.alloc ?_ _ | refine Ext.setCell ?_ (by first | exact Nat.le_refl _ | (simp <;> omega)) _ | refine Ext.trans2 (by assumption) ?_))⟩
        · have HY := Lib.hid (show ¬ partOK i n y t from fun h => h4 h.2.2.2)
          have hd : decide ((t.size : Int) ≤ 400) = false := by simp; omega
          go_enter Try.func22, Try.ntmps22
          go_wp2_with (first | (go_at_call 85; (with_reducible refine (inRange_c _ _ _ _).mono ?_); rintro e w1 ⟨⟨hP, rfl⟩ | ⟨hP, rfl⟩, rfl⟩ <;> try contradiction) | (go_at_call 98; (with_reducible refine (isMessage_c _ _ ht).mono ?_); rintro e w1 ⟨⟨hP, rfl⟩ | ⟨hP, rfl⟩, rfl⟩ <;> try contradiction))
          go_ret
          exact ⟨isB_f HY.out, (by repeat (first | exact Ext.refl _ | assumption | refine Ext.drew ?_ | refine Ext.drewN ?_ _ | refine Ext.iter ?_ _ _ | refine Ext.alloc ?_ _ | refine Ext.setCell ?_ (by first | exact Nat.le_refl _ | (simp <;> omega)) _ | refine Ext.trans2 (by assumption) ?_))⟩
      · have HY := Lib.hid (show ¬ partOK i n y t from fun h => h3 h.2.2.1)
        go_enter Try.func22, Try.ntmps22
        go_wp2_with (first | (go_at_call 85; (with_reducible refine (inRange_c _ _ _ _).mono ?_); rintro e w1 ⟨⟨hP, rfl⟩ | ⟨hP, rfl⟩, rfl⟩ <;> try contradiction) | (go_at_call 98; (with_reducible refine (isMessage_c _ _ ht).mono ?_); rintro e w1 ⟨⟨hP, rfl⟩ | ⟨hP, rfl⟩, rfl⟩ <;> try contradiction))
        go_ret
        exact ⟨isB_f HY.out, (by repeat (first | exact Ext.refl _ | assumption | refine Ext.drew ?_ | refine Ext.drewN ?_ _ | refine Ext.iter ?_ _ _ | refine Ext.alloc ?_ _ | refine Ext.setCell ?_ (by first | exact Nat.le_refl _ | (simp <;> omega)) _ | refine Ext.trans2 (by assumption) ?_))⟩
    · have HY := Lib.hid (show ¬ partOK i n y t from fun h => h2 h.2.1)
      go_enter Try.func22, Try.ntmps22
      go_wp2_with (first | (go_at_call 85; (with_reducible refine (inRange_c _ _ _ _).mono ?_); rintro e w1 ⟨⟨hP, rfl⟩ | ⟨hP, rfl⟩, rfl⟩ <;> try contradiction) | (go_at_call 98; (with_reducible refine (isMessage_c _ _ ht).mono ?_); rintro e w1 ⟨⟨hP, rfl⟩ | ⟨hP, rfl⟩, rfl⟩ <;> try contradiction))
      go_ret
      exact ⟨isB_f HY.out, (by repeat (first | exact Ext.refl _ | assumption | refine Ext.drew ?_ | refine Ext.drewN ?_ _ | refine Ext.iter ?_ _ _ | refine Ext.alloc ?_ _ | refine Ext.setCell ?_ (by first | exact Nat.le_refl _ | (simp <;> omega)) _ | refine Ext.trans2 (by assumption) ?_))⟩
  · have HY := Lib.hid (show ¬ partOK i n y t from fun h => h1 h.1)
    go_enter Try.func22, Try.ntmps22
    go_wp2_with (first | (go_at_call 85; (with_reducible refine (inRange_c _ _ _ _).mono ?_); rintro e w1 ⟨⟨hP, rfl⟩ | ⟨hP, rfl⟩, rfl⟩ <;> try contradiction) | (go_at_call 98; (with_reducible refine (isMessage_c _ _ ht).mono ?_); rintro e w1 ⟨⟨hP, rfl⟩ | ⟨hP, rfl⟩, rfl⟩ <;> try contradiction))
    go_ret
    exact ⟨isB_f HY.out, (by repeat (first | exact Ext.refl _ | assumption | refine Ext.drew ?_ | refine Ext.drewN ?_ _ | refine Ext.iter ?_ _ _ | refine Ext.alloc ?_ _ | refine Ext.setCell ?_ (by first | exact Nat.le_refl _ | (simp <;> omega)) _ | refine Ext.trans2 (by assumption) ?_))⟩
set_option maxRecDepth 100000 in
theorem sIsPart_c (i n y : Int) (t : ByteArray) (w : World) (ht : t.size ≤ 1048576) :
    Calls Try.prog 23 #[vPart i n y t] w fun e w' => isB e (partOK i n y t) ∧ Ext w w' := by
  by_cases h1 : 1 ≤ n ∧ n ≤ 8
  · by_cases h2 : 0 ≤ i ∧ i ≤ n - 1
    · by_cases h3 : 0 ≤ y ∧ y ≤ 255
      · by_cases h4 : t.size ≤ 400
        · have HY := Lib.hid (show partOK i n y t from ⟨h1, h2, h3, h4⟩)
          have hd : decide ((t.size : Int) ≤ 400) = true := by simp; omega
          go_enter Try.func23, Try.ntmps23
          go_wp2_with (first | (go_at_call 99; (with_reducible refine (l01In_c _ _ _ _).mono ?_); rintro e w1 ⟨⟨hP, rfl⟩ | ⟨hP, rfl⟩, rfl⟩ <;> try contradiction))
          go_ret
          exact ⟨isB_t HY.out, (by repeat (first | exact Ext.refl _ | assumption | refine Ext.drew ?_ | refine Ext.drewN ?_ _ | refine Ext.iter ?_ _ _ | refine Ext.alloc ?_ _ | refine Ext.setCell ?_ (by first | exact Nat.le_refl _ | (simp <;> omega)) _ | refine Ext.trans2 (by assumption) ?_))⟩
        · have HY := Lib.hid (show ¬ partOK i n y t from fun h => h4 h.2.2.2)
          have hd : decide ((t.size : Int) ≤ 400) = false := by simp; omega
          go_enter Try.func23, Try.ntmps23
          go_wp2_with (first | (go_at_call 99; (with_reducible refine (l01In_c _ _ _ _).mono ?_); rintro e w1 ⟨⟨hP, rfl⟩ | ⟨hP, rfl⟩, rfl⟩ <;> try contradiction))
          go_ret
          exact ⟨isB_f HY.out, (by repeat (first | exact Ext.refl _ | assumption | refine Ext.drew ?_ | refine Ext.drewN ?_ _ | refine Ext.iter ?_ _ _ | refine Ext.alloc ?_ _ | refine Ext.setCell ?_ (by first | exact Nat.le_refl _ | (simp <;> omega)) _ | refine Ext.trans2 (by assumption) ?_))⟩
      · have HY := Lib.hid (show ¬ partOK i n y t from fun h => h3 h.2.2.1)
        go_enter Try.func23, Try.ntmps23
        go_wp2_with (first | (go_at_call 99; (with_reducible refine (l01In_c _ _ _ _).mono ?_); rintro e w1 ⟨⟨hP, rfl⟩ | ⟨hP, rfl⟩, rfl⟩ <;> try contradiction))
        go_ret
        exact ⟨isB_f HY.out, (by repeat (first | exact Ext.refl _ | assumption | refine Ext.drew ?_ | refine Ext.drewN ?_ _ | refine Ext.iter ?_ _ _ | refine Ext.alloc ?_ _ | refine Ext.setCell ?_ (by first | exact Nat.le_refl _ | (simp <;> omega)) _ | refine Ext.trans2 (by assumption) ?_))⟩
    · have HY := Lib.hid (show ¬ partOK i n y t from fun h => h2 h.2.1)
      go_enter Try.func23, Try.ntmps23
      go_wp2_with (first | (go_at_call 99; (with_reducible refine (l01In_c _ _ _ _).mono ?_); rintro e w1 ⟨⟨hP, rfl⟩ | ⟨hP, rfl⟩, rfl⟩ <;> try contradiction))
      go_ret
      exact ⟨isB_f HY.out, (by repeat (first | exact Ext.refl _ | assumption | refine Ext.drew ?_ | refine Ext.drewN ?_ _ | refine Ext.iter ?_ _ _ | refine Ext.alloc ?_ _ | refine Ext.setCell ?_ (by first | exact Nat.le_refl _ | (simp <;> omega)) _ | refine Ext.trans2 (by assumption) ?_))⟩
  · have HY := Lib.hid (show ¬ partOK i n y t from fun h => h1 h.1)
    go_enter Try.func23, Try.ntmps23
    go_wp2_with (first | (go_at_call 99; (with_reducible refine (l01In_c _ _ _ _).mono ?_); rintro e w1 ⟨⟨hP, rfl⟩ | ⟨hP, rfl⟩, rfl⟩ <;> try contradiction))
    go_ret
    exact ⟨isB_f HY.out, (by repeat (first | exact Ext.refl _ | assumption | refine Ext.drew ?_ | refine Ext.drewN ?_ _ | refine Ext.iter ?_ _ _ | refine Ext.alloc ?_ _ | refine Ext.setCell ?_ (by first | exact Nat.le_refl _ | (simp <;> omega)) _ | refine Ext.trans2 (by assumption) ?_))⟩

set_option maxHeartbeats 800000 in
set_option maxRecDepth 100000 in
theorem l12Bits_c (i n y : Int) (t : ByteArray) (w : World) (hok : partOK i n y t) :
    Calls Try.prog 95 #[vPart i n y t] w fun e w' => (∃ v, e = .returned v ∧ RowI w.heap.size w' v (partL i n y t)) ∧ Ext w w' := by
  obtain ⟨h1, h2, h3, h4⟩ := hok
  have hs : t.size ≤ 1048576 := by omega
  have hbl := bests_len t t.size
  have hok2 := Lib.hid (bests_ok t t.size (Nat.le_refl _))
  have hml := msg_len t
  have hcl := cell_len_bd t h4
  have hbx := Blk.new w #[.int .i64 i, .int .i64 n, .int .i64 y, .string t] 36
  have hx0 : Ext w (w.alloc (.cells #[.int .i64 i, .int .i64 n, .int .i64 y, .string t] 36)) := (Ext.refl w).alloc _
  have hap : ∀ W, Calls Try.prog 169 #[.slice none 0 0, .int .i64 5, .int .i64 3] W fun e w' => (∃ v, e = .returned v ∧ RowI W.heap.size w' v (bitsOf 5 3)) ∧ Ext W w' := fun W => sAppend_c none 0 [] 5 3 W (IntsAt_nil _ _) (by simp) (by omega) (by omega)
  have HAP := Lib.hid hap; clear hap
  obtain ⟨B5, hB5⟩ : ∃ B5, B5 = bitsOf 5 3 := ⟨_, rfl⟩
  obtain ⟨B8, hB8⟩ : ∃ B8, B8 = B5 ++ bitsOf i 3 := ⟨_, rfl⟩
  obtain ⟨B11, hB11⟩ : ∃ B11, B11 = B8 ++ bitsOf (n - 1) 3 := ⟨_, rfl⟩
  obtain ⟨B17, hB17⟩ : ∃ B17, B17 = B11 ++ bitsOf y 8 := ⟨_, rfl⟩
  have l5 : B5.length = 3 := by rw [hB5]; simp [bitsOf_len]
  have l8 : B8.length = 6 := by rw [hB8, List.length_append, l5]; simp [bitsOf_len]
  have l11 : B11.length = 9 := by rw [hB11, List.length_append, l8]; simp [bitsOf_len]
  have l17 : B17.length = 17 := by rw [hB17, List.length_append, l11]; simp [bitsOf_len]
  rw [← hB5] at HAP
  have a8 : ∀ W p c, IntsAt W p B5 → Calls Try.prog 169 #[.slice p B5.length c, .int .i64 i, .int .i64 3] W fun e w' => (∃ v, e = .returned v ∧ RowI W.heap.size w' v B8) ∧ Ext W w' := fun W p c h => by rw [hB8]; exact sAppend_c p c B5 i 3 W h (by omega) (by omega) (by omega)
  have a11 : ∀ W p c, IntsAt W p B8 → Calls Try.prog 169 #[.slice p B8.length c, .int .i64 (n - 1), .int .i64 3] W fun e w' => (∃ v, e = .returned v ∧ RowI W.heap.size w' v B11) ∧ Ext W w' := fun W p c h => by rw [hB11]; exact sAppend_c p c B8 (n - 1) 3 W h (by omega) (by omega) (by omega)
  have a17 : ∀ W p c, IntsAt W p B11 → Calls Try.prog 169 #[.slice p B11.length c, .int .i64 y, .int .i64 8] W fun e w' => (∃ v, e = .returned v ∧ RowI W.heap.size w' v B17) ∧ Ext W w' := fun W p c h => by rw [hB17]; exact sAppend_c p c B11 y 8 W h (by omega) (by omega) (by omega)
  have A8 := Lib.hid a8; have A11 := Lib.hid a11; have A17 := Lib.hid a17
  have HEAD := Lib.hid (show headL i n y = B17 by unfold headL; rw [hB17, hB11, hB8, hB5])
  have L17 := Lib.hid l17
  have hck := (cell_ok t t.size).2.1
  have hml2 : (mBits (bests t t.size)).length ≤ 300000 := by omega
  clear hck
  clear a8 a11 a17 l5 l8 l11 l17 hB5 hB8 hB11 hB17 hml hcl
  go_enter Try.func95, Try.ntmps95
  go_wp2_with (first
    | (go_at_call 169; (with_reducible refine (HAP.out _).mono ?_); rintro e w1 ⟨⟨v1, rfl, hr1⟩, hb1⟩; obtain ⟨p1, c1, rfl, oq1⟩ := hr1.own; have hbx1 := hbx.ext hb1; have q0 := hbx1.cell (i := 0) (v := .int .i64 i) rfl; have q1 := hbx1.cell (i := 1) (v := .int .i64 n) rfl; have q2 := hbx1.cell (i := 2) (v := .int .i64 y) rfl; have q3 := hbx1.cell (i := 3) (v := .string t) rfl; have ql := hbx1.lt; have OQ1 := Lib.hid oq1.ints))
  clear hr1 oq1
  have hn1 : 1 ≤ n := h1.1
  have hn2 : n ≤ 8 := h1.2
  have hn3 : IntKind.i64.wrap (n - 1) = n - 1 := IntWalk.i64_in _ (by omega)
  refine wp_region_canon (fun w' => Ext w1 w') [(0, true), (1, true), (2, true), (4, true), (5, true), (6, true), (8, true), (9, true), (3, false), (7, false), (10, false), (11, true)] (by kernel_rfl) (by kernel_rfl) (by decide) (by kernel_rfl) ?_ ?_
  · exact (by repeat (first | exact Ext.refl _ | assumption | refine Ext.drew ?_ | refine Ext.drewN ?_ _ | refine Ext.iter ?_ _ _ | refine Ext.alloc ?_ _ | refine Ext.setCell ?_ (by first | exact Nat.le_refl _ | (simp <;> omega)) _ | refine Ext.trans2 (by assumption) ?_))
  refine canon_intro fun ops eo => ?_
  have ho0 := canon_at eo 0 rfl
  have ho1 := canon_at eo 1 rfl
  have ho2 := canon_at eo 2 rfl
  have ho3 := canon_at eo 3 rfl
  have ho4 := canon_at eo 4 rfl
  have ho5 := canon_at eo 5 rfl
  have ho6 := canon_at eo 6 rfl
  have ho7 := canon_at eo 7 rfl
  have ho8 := canon_at eo 8 rfl
  have ho9 := canon_at eo 9 rfl
  have ho10 := canon_at eo 10 rfl
  have ho11 := canon_at eo 11 rfl
  clear eo
  all_goals (apply canon_st ho0 rfl; (intro w2 hS; first | (go_simp; first | done | rfl) | rfl | (obtain ⟨hc, hf, hk, hz⟩ := ecell hS; go_simp; first | done | rfl)); simp only [Act.put, List.setIfInBounds_toArray, List.set_cons_zero, List.set_cons_succ])
  all_goals clear ho0
  all_goals (apply canon_st ho1 rfl; (intro w2 hS; first | (go_simp; first | done | rfl) | rfl | (obtain ⟨hc, hf, hk, hz⟩ := ecell hS; go_simp; first | done | rfl)); simp only [Act.put, List.setIfInBounds_toArray, List.set_cons_zero, List.set_cons_succ])
  all_goals clear ho1
  all_goals (apply canon_st ho2 rfl; (intro w2 hS; first | (go_simp; first | done | rfl) | rfl | (obtain ⟨hc, hf, hk, hz⟩ := ecell hS; go_simp; first | done | rfl)); simp only [Act.put, List.setIfInBounds_toArray, List.set_cons_zero, List.set_cons_succ])
  all_goals clear ho2
  all_goals (apply canon_st ho4 rfl; (intro w2 hS; first | (go_simp; first | done | rfl) | rfl | (obtain ⟨hc, hf, hk, hz⟩ := ecell hS; go_simp; first | done | rfl)); simp only [Act.put, List.setIfInBounds_toArray, List.set_cons_zero, List.set_cons_succ])
  all_goals clear ho4
  all_goals (apply canon_st ho5 rfl; (intro w2 hS; first | (go_simp; first | done | rfl) | rfl | (obtain ⟨hc, hf, hk, hz⟩ := ecell hS; go_simp; first | done | rfl)); simp only [Act.put, List.setIfInBounds_toArray, List.set_cons_zero, List.set_cons_succ])
  all_goals clear ho5
  all_goals (apply canon_st ho6 rfl; (intro w2 hS; first | (go_simp; first | done | rfl) | rfl | (obtain ⟨hc, hf, hk, hz⟩ := ecell hS; go_simp; first | done | rfl)); simp only [Act.put, List.setIfInBounds_toArray, List.set_cons_zero, List.set_cons_succ])
  all_goals clear ho6
  all_goals (apply canon_st ho8 rfl; (intro w2 hS; first | (go_simp; first | done | rfl) | rfl | (obtain ⟨hc, hf, hk, hz⟩ := ecell hS; go_simp; first | done | rfl)); simp only [Act.put, List.setIfInBounds_toArray, List.set_cons_zero, List.set_cons_succ])
  all_goals clear ho8
  all_goals (apply canon_st ho9 rfl; (intro w2 hS; first | (go_simp; first | done | rfl) | rfl | (obtain ⟨hc, hf, hk, hz⟩ := ecell hS; go_simp; first | done | rfl)); simp only [Act.put, List.setIfInBounds_toArray, List.set_cons_zero, List.set_cons_succ])
  all_goals clear ho9
  all_goals first | (refine canon_ef ho3 rfl (fun K hK => ?_); go_simp; ((go_at_call 169; (with_reducible refine (A8.out _ _ _ (OQ1.out.ext (by repeat (first | exact Ext.refl _ | assumption | refine Ext.drew ?_ | refine Ext.drewN ?_ _ | refine Ext.iter ?_ _ _ | refine Ext.alloc ?_ _ | refine Ext.setCell ?_ (by first | exact Nat.le_refl _ | (simp <;> omega)) _ | refine Ext.trans2 (by assumption) ?_)))).mono ?_); rintro e w2 ⟨⟨v2, rfl, hr2⟩, hb2⟩; obtain ⟨p2, c2, rfl, oq2⟩ := hr2.own; replace oq2 := Lib.hid oq2.ints; clear hr2)); all_goals (refine hK _ _ ⟨(by repeat (first | exact Ext.refl _ | assumption | refine Ext.drew ?_ | refine Ext.drewN ?_ _ | refine Ext.iter ?_ _ _ | refine Ext.alloc ?_ _ | refine Ext.setCell ?_ (by first | exact Nat.le_refl _ | (simp <;> omega)) _ | refine Ext.trans2 (by assumption) ?_)), ?_⟩; clear hK K; go_simp)) | (refine canon_ef ho3 rfl (fun K hK => ?_); go_simp; ((go_at_call 169; (with_reducible refine (A11.out _ _ _ oq2.out).mono ?_); rintro e w3 ⟨⟨v3, rfl, hr3⟩, hb3⟩; obtain ⟨p3, c3, rfl, oq3⟩ := hr3.own; replace oq3 := Lib.hid oq3.ints; clear hr3)); all_goals (refine hK _ _ ⟨(by repeat (first | exact Ext.refl _ | assumption | refine Ext.drew ?_ | refine Ext.drewN ?_ _ | refine Ext.iter ?_ _ _ | refine Ext.alloc ?_ _ | refine Ext.setCell ?_ (by first | exact Nat.le_refl _ | (simp <;> omega)) _ | refine Ext.trans2 (by assumption) ?_)), ?_⟩; clear hK K; go_simp)) | (refine canon_ef ho3 rfl (fun K hK => ?_); go_simp; ((go_at_call 169; (with_reducible refine (A17.out _ _ _ oq3.out).mono ?_); rintro e w4 ⟨⟨v4, rfl, hr4⟩, hb4⟩)); all_goals (refine hK _ _ ⟨(by repeat (first | exact Ext.refl _ | assumption | refine Ext.drew ?_ | refine Ext.drewN ?_ _ | refine Ext.iter ?_ _ _ | refine Ext.alloc ?_ _ | refine Ext.setCell ?_ (by first | exact Nat.le_refl _ | (simp <;> omega)) _ | refine Ext.trans2 (by assumption) ?_)), ?_⟩; clear hK K; go_simp))
  all_goals clear ho3
  all_goals first | (refine canon_ef ho7 rfl (fun K hK => ?_); go_simp; ((go_at_call 169; (with_reducible refine (A8.out _ _ _ (OQ1.out.ext (by repeat (first | exact Ext.refl _ | assumption | refine Ext.drew ?_ | refine Ext.drewN ?_ _ | refine Ext.iter ?_ _ _ | refine Ext.alloc ?_ _ | refine Ext.setCell ?_ (by first | exact Nat.le_refl _ | (simp <;> omega)) _ | refine Ext.trans2 (by assumption) ?_)))).mono ?_); rintro e w2 ⟨⟨v2, rfl, hr2⟩, hb2⟩; obtain ⟨p2, c2, rfl, oq2⟩ := hr2.own; replace oq2 := Lib.hid oq2.ints; clear hr2)); all_goals (refine hK _ _ ⟨(by repeat (first | exact Ext.refl _ | assumption | refine Ext.drew ?_ | refine Ext.drewN ?_ _ | refine Ext.iter ?_ _ _ | refine Ext.alloc ?_ _ | refine Ext.setCell ?_ (by first | exact Nat.le_refl _ | (simp <;> omega)) _ | refine Ext.trans2 (by assumption) ?_)), ?_⟩; clear hK K; go_simp)) | (refine canon_ef ho7 rfl (fun K hK => ?_); go_simp; ((go_at_call 169; (with_reducible refine (A11.out _ _ _ oq2.out).mono ?_); rintro e w3 ⟨⟨v3, rfl, hr3⟩, hb3⟩; obtain ⟨p3, c3, rfl, oq3⟩ := hr3.own; replace oq3 := Lib.hid oq3.ints; clear hr3)); all_goals (refine hK _ _ ⟨(by repeat (first | exact Ext.refl _ | assumption | refine Ext.drew ?_ | refine Ext.drewN ?_ _ | refine Ext.iter ?_ _ _ | refine Ext.alloc ?_ _ | refine Ext.setCell ?_ (by first | exact Nat.le_refl _ | (simp <;> omega)) _ | refine Ext.trans2 (by assumption) ?_)), ?_⟩; clear hK K; go_simp)) | (refine canon_ef ho7 rfl (fun K hK => ?_); go_simp; ((go_at_call 169; (with_reducible refine (A17.out _ _ _ oq3.out).mono ?_); rintro e w4 ⟨⟨v4, rfl, hr4⟩, hb4⟩)); all_goals (refine hK _ _ ⟨(by repeat (first | exact Ext.refl _ | assumption | refine Ext.drew ?_ | refine Ext.drewN ?_ _ | refine Ext.iter ?_ _ _ | refine Ext.alloc ?_ _ | refine Ext.setCell ?_ (by first | exact Nat.le_refl _ | (simp <;> omega)) _ | refine Ext.trans2 (by assumption) ?_)), ?_⟩; clear hK K; go_simp))
  all_goals clear ho7
  all_goals first | (refine canon_ef ho10 rfl (fun K hK => ?_); go_simp; ((go_at_call 169; (with_reducible refine (A8.out _ _ _ (OQ1.out.ext (by repeat (first | exact Ext.refl _ | assumption | refine Ext.drew ?_ | refine Ext.drewN ?_ _ | refine Ext.iter ?_ _ _ | refine Ext.alloc ?_ _ | refine Ext.setCell ?_ (by first | exact Nat.le_refl _ | (simp <;> omega)) _ | refine Ext.trans2 (by assumption) ?_)))).mono ?_); rintro e w2 ⟨⟨v2, rfl, hr2⟩, hb2⟩; obtain ⟨p2, c2, rfl, oq2⟩ := hr2.own; replace oq2 := Lib.hid oq2.ints; clear hr2)); all_goals (refine hK _ _ ⟨(by repeat (first | exact Ext.refl _ | assumption | refine Ext.drew ?_ | refine Ext.drewN ?_ _ | refine Ext.iter ?_ _ _ | refine Ext.alloc ?_ _ | refine Ext.setCell ?_ (by first | exact Nat.le_refl _ | (simp <;> omega)) _ | refine Ext.trans2 (by assumption) ?_)), ?_⟩; clear hK K; go_simp)) | (refine canon_ef ho10 rfl (fun K hK => ?_); go_simp; ((go_at_call 169; (with_reducible refine (A11.out _ _ _ oq2.out).mono ?_); rintro e w3 ⟨⟨v3, rfl, hr3⟩, hb3⟩; obtain ⟨p3, c3, rfl, oq3⟩ := hr3.own; replace oq3 := Lib.hid oq3.ints; clear hr3)); all_goals (refine hK _ _ ⟨(by repeat (first | exact Ext.refl _ | assumption | refine Ext.drew ?_ | refine Ext.drewN ?_ _ | refine Ext.iter ?_ _ _ | refine Ext.alloc ?_ _ | refine Ext.setCell ?_ (by first | exact Nat.le_refl _ | (simp <;> omega)) _ | refine Ext.trans2 (by assumption) ?_)), ?_⟩; clear hK K; go_simp)) | (refine canon_ef ho10 rfl (fun K hK => ?_); go_simp; ((go_at_call 169; (with_reducible refine (A17.out _ _ _ oq3.out).mono ?_); rintro e w4 ⟨⟨v4, rfl, hr4⟩, hb4⟩)); all_goals (refine hK _ _ ⟨(by repeat (first | exact Ext.refl _ | assumption | refine Ext.drew ?_ | refine Ext.drewN ?_ _ | refine Ext.iter ?_ _ _ | refine Ext.alloc ?_ _ | refine Ext.setCell ?_ (by first | exact Nat.le_refl _ | (simp <;> omega)) _ | refine Ext.trans2 (by assumption) ?_)), ?_⟩; clear hK K; go_simp))
  all_goals clear ho10
  all_goals (apply canon_st ho11 rfl; (intro w2 hS; first | (go_simp; first | done | rfl) | rfl | (obtain ⟨hc, hf, hk, hz⟩ := ecell hS; go_simp; first | done | rfl)); simp only [Act.put, List.setIfInBounds_toArray, List.set_cons_zero, List.set_cons_succ])
  all_goals clear ho11
  all_goals refine canon_done (NoPanic.normal ?_)
  clear hn3
  have hx14 : Ext w1 w4 := (((Ext.refl w1).drew.trans hb2).trans hb3).trans hb4
  have hx4 : Ext w w4 := (hx0.trans hb1).trans hx14
  have hbx4 := hbx1.ext hx14
  have q3 := hbx4.cell (i := 3) (v := .string t) rfl
  have ql := hbx4.lt
  have hr4' : RowI w.heap.size w4 v4 B17 := hr4.mono ((hx0.trans hb1).trans ((((Ext.refl w1).drew.trans hb2).trans hb3))).below.size
  clear hr4 oq2 oq3
  go_wp2_with (first
    | (go_at_call 170; (with_reducible refine (sBest_c _ _ hs).mono ?_); rintro e w5 ⟨⟨v5, rfl, hr5⟩, hb5⟩; obtain ⟨p5, c5, rfl, oq5⟩ := hr5.own segF_len; clear hr5))
  have hr5 := hr4'.ext hb5
  have hx5 := hx4.trans hb5
  generalize hbe : bests t t.size = L at *
  have HBE := Lib.hid hbe; clear hbe hr4'
  go_loopw [3, 5] (fun o i wr => ∃ (k : Nat), k ≤ L.length ∧ i = .int .i64 k ∧ RowI w.heap.size wr o (B17 ++ mBits (L.take k)) ∧ Ext w5 wr) (fun _ i _ => L.length - (intOf i).toNat)
  case atStart => exact ⟨0, Nat.zero_le _, rfl, by simpa [mBits] using hr5, Ext.refl _⟩
  case round =>
    clear hr5
    obtain ⟨k, hk, rfl, hown, hext⟩ := hrel
    by_cases hlt : k < L.length
    · obtain ⟨b, o, rfl, hbl, h0, h1⟩ := (oq5.sat.ext hext).two hlt (u := .int .i64 (L[k]'hlt).1) (v := .string (L[k]'hlt).2) rfl
      have hoks := Lib.hid (hok2.out _ (List.getElem_mem hlt))
      have hle := mBits_take_le L k
      obtain ⟨ys, hys⟩ : ∃ ys, ys = B17 ++ mBits (L.take k) := ⟨_, rfl⟩
      rw [← hys] at hown
      have hlx : ys.length ≤ 500000 := by rw [hys, List.length_append, L17.out]; omega
      have HY := Lib.hid hys; clear hys
      have hT := Lib.hid (mBits_take hlt)
      obtain ⟨p6, c6, rfl, oq6⟩ := hown.own
      go_wp2_with (go_at_call 171; (with_reducible refine (sWrite_c _ _ _ _ _ _ oq6.ints hlx hoks.out).mono ?_); rintro e w6 ⟨⟨v6, rfl, hr6⟩, hb6⟩)
      go_roundw
      case rel => exact ⟨k + 1, hlt, by go_num, by rw [hT.out, ← List.append_assoc, ← HY.out]; exact hr6.mono (hx5.trans hext).below.size, hext.trans hb6⟩
      case measure => simp [intOf]; omega
    · obtain rfl : k = L.length := by omega
      rw [List.take_length] at hown
      clear oq5
      go_wp2
      go_ret
      exact ⟨⟨_, rfl, by unfold partL; rw [HEAD.out, HBE.out]; exact hown⟩, hx5.trans hext⟩
end Go.Proofs.Ytbnpdpmbbppnhaa
