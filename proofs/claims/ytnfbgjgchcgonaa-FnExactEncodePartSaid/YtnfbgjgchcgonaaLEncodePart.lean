
/- FnExactEncodePart: for every input the program's EncodePart returns what the reference's returns, in memory of its own. No conditions. -/
import Derived.Test.YtnfbgjgchcgonaaEncPart
import Derived.Test.YtnfbgjgchcgonaaRead
namespace Go.Proofs.Ytnfbgjgchcgonaa
set_option linter.unusedVariables false
set_option linter.unusedSimpArgs false
open Go.RowKit Go.ChangeShapes Go.WideShapes Go.ChangeAt

theorem toField_c (p k q : Int) (w : World) :
    Calls Try.prog 26 #[vFld p k q] w fun e w' => e = .returned (vFld p k q) ∧ Ext w w' := by
  go_enter Try.func26, Try.ntmps26
  go_wp2
  exact bodyPost_ret (v := vFld p k q) (by simp [results, Try.results26, go_sem]) rfl ⟨rfl, (by repeat (first | exact Ext.refl _ | assumption | refine Ext.drew ?_ | refine Ext.drewN ?_ _ | refine Ext.iter ?_ _ _ | refine Ext.alloc ?_ _ | refine Ext.setCell ?_ (by first | exact Nat.le_refl _ | (simp <;> omega)) _ | refine Ext.trans2 (by assumption) ?_))⟩
theorem toPart_c (i n y : Int) (t : ByteArray) (w : World) :
    Calls Try.prog 35 #[vPart i n y t] w fun e w' => e = .returned (vPart i n y t) ∧ Ext w w' := by
  go_enter Try.func35, Try.ntmps35
  go_wp2
  exact bodyPost_ret (v := vPart i n y t) (by simp [results, Try.results35, go_sem]) rfl ⟨rfl, (by repeat (first | exact Ext.refl _ | assumption | refine Ext.drew ?_ | refine Ext.drewN ?_ _ | refine Ext.iter ?_ _ _ | refine Ext.alloc ?_ _ | refine Ext.setCell ?_ (by first | exact Nat.le_refl _ | (simp <;> omega)) _ | refine Ext.trans2 (by assumption) ?_))⟩
def szPR (t : ByteArray) (l : Int) (e : Ending) : Prop := ((t.size : Int) ≤ l ∧ e = .returned (.int .i64 (l - t.size))) ∨ (l < t.size ∧ e = .returned (.int .i64 (-1)))
theorem szPart_c (i n y : Int) (t : ByteArray) (l : Int) (w : World) (ht : t.size ≤ maxLen) (hl : 0 ≤ l ∧ l ≤ 1048576) :
    Calls Try.prog 33 #[vPart i n y t, .int .i64 l] w fun e w' => szPR t l e ∧ Ext w w' := by
  unfold maxLen at ht
  by_cases h : (t.size : Int) ≤ l
  · have hd : ¬ l - (t.size : Int) < 0 := by omega
    go_enter Try.func33, Try.ntmps33
    go_wp2
    go_ret
    exact ⟨.inl ⟨h, rfl⟩, (by repeat (first | exact Ext.refl _ | assumption | refine Ext.drew ?_ | refine Ext.drewN ?_ _ | refine Ext.iter ?_ _ _ | refine Ext.alloc ?_ _ | refine Ext.setCell ?_ (by first | exact Nat.le_refl _ | (simp <;> omega)) _ | refine Ext.trans2 (by assumption) ?_))⟩
  · have hd : l - (t.size : Int) < 0 := by omega
    go_enter Try.func33, Try.ntmps33
    go_wp2
    go_ret
    exact ⟨.inr ⟨by omega, rfl⟩, (by repeat (first | exact Ext.refl _ | assumption | refine Ext.drew ?_ | refine Ext.drewN ?_ _ | refine Ext.iter ?_ _ _ | refine Ext.alloc ?_ _ | refine Ext.setCell ?_ (by first | exact Nat.le_refl _ | (simp <;> omega)) _ | refine Ext.trans2 (by assumption) ?_))⟩

set_option maxHeartbeats 800000 in
set_option maxRecDepth 100000 in
theorem encodePart_law (p k q i n y : Int) (t : ByteArray) (cap : Int) (w : World) (ht : t.size ≤ maxLen) :
    Calls Try.prog 7 #[vFld p k q, vPart i n y t, .int .i64 cap] w fun e w' => e = .returned (.bool true) ∧ Ext w w' := by
  have hbox : Blk ((w.alloc (.cells #[.int .i64 p, .int .i64 k, .int .i64 q] 38)).alloc (.cells #[.int .i64 i, .int .i64 n, .int .i64 y, .string t] 48)) (w.heap.size + 1) #[.int .i64 i, .int .i64 n, .int .i64 y, .string t] 48 := by
    have := Blk.new (w.alloc (.cells #[.int .i64 p, .int .i64 k, .int .i64 q] 38)) #[.int .i64 i, .int .i64 n, .int .i64 y, .string t] 48
    simpa using this
  have fbox := (Blk.new w #[.int .i64 p, .int .i64 k, .int .i64 q] 38).alloc (.cells #[.int .i64 i, .int .i64 n, .int .i64 y, .string t] 48)
  have hx00 : Ext w ((w.alloc (.cells #[.int .i64 p, .int .i64 k, .int .i64 q] 38)).alloc (.cells #[.int .i64 i, .int .i64 n, .int .i64 y, .string t] 48)) := ((Ext.refl w).alloc _).alloc _
  by_cases h : (t.size : Int) ≤ 1048576
  · have h' : t.size ≤ 1048576 := by omega
    have hi := Lib.hid (fun W => iEncodePart_c p k q i n y t cap W h')
    have hs := Lib.hid (fun W => sEncodePart_c p k q i n y t cap W h')
    have hll := edL_len p k q i n y t cap
    generalize edL p k q i n y t cap = L at *
    generalize edC p k q i n y t cap = kc at *
    go_enter Try.func7, Try.ntmps7
    go_wp2_with (go_at_call 33; (with_reducible refine (szPart_c i n y t _ _ ht (by omega)).mono ?_); rintro e w1 ⟨⟨hP, rfl⟩ | ⟨hP, rfl⟩, hx1⟩ <;> (first | (exfalso; omega) | skip))
    have hx01 := hx00.trans hx1
    have hbx1 := hbox.ext hx1
    have fbx1 := fbox.ext hx1
    have q0 := hbx1.cell (i := 0) (v := .int .i64 i) rfl; have q1 := hbx1.cell (i := 1) (v := .int .i64 n) rfl; have q2 := hbx1.cell (i := 2) (v := .int .i64 y) rfl; have q3 := hbx1.cell (i := 3) (v := .string t) rfl; have ql := hbx1.lt
    have f0 := fbx1.cell (i := 0) (v := .int .i64 p) rfl; have f1 := fbx1.cell (i := 1) (v := .int .i64 k) rfl; have f2 := fbx1.cell (i := 2) (v := .int .i64 q) rfl; have fl := fbx1.lt
    refine wp_region_canon (fun w' => Ext w1 w') [(0, true), (2, true), (4, true), (1, false), (3, false), (5, false), (6, true), (7, true), (8, true), (9, true), (10, true)] (by kernel_rfl) (by kernel_rfl) (by decide) (by kernel_rfl) ?_ ?_
    · exact (by repeat (first | exact Ext.refl _ | assumption | refine Ext.drew ?_ | refine Ext.drewN ?_ _ | refine Ext.iter ?_ _ _ | refine Ext.alloc ?_ _ | refine Ext.setCell ?_ (by first | exact Nat.le_refl _ | (simp <;> omega)) _ | refine Ext.trans2 (by assumption) ?_))
    refine canon_intro fun ops eo => ?_
    have ho0 := canon_at eo 0 rfl
    have ho1 := canon_at eo 1 rfl
    have ho2 := canon_at eo 2 rfl
    have ho3 := canon_at eo 3 rfl
    have ho4 := canon_at eo 4 rfl
    have ho5 := canon_at eo 5 rfl
    have ho6 := canon_at eo 6 rfl
    have ho7 := canon_at eo 7 rfl
    have ho8 := canon_at eo 8 rfl
    have ho9 := canon_at eo 9 rfl
    have ho10 := canon_at eo 10 rfl
    clear eo
    all_goals (apply canon_st ho0 rfl; (intro w2 hS; first | (go_simp; first | done | rfl) | rfl | (obtain ⟨hc, hf, hk, hz⟩ := ecell hS; go_simp; first | done | rfl)); simp only [Act.put, List.setIfInBounds_toArray, List.set_cons_zero, List.set_cons_succ])
    all_goals clear ho0
    all_goals (apply canon_st ho2 rfl; (intro w2 hS; first | (go_simp; first | done | rfl) | rfl | (obtain ⟨hc, hf, hk, hz⟩ := ecell hS; go_simp; first | done | rfl)); simp only [Act.put, List.setIfInBounds_toArray, List.set_cons_zero, List.set_cons_succ])
    all_goals clear ho2
    all_goals (apply canon_st ho4 rfl; (intro w2 hS; first | (go_simp; first | done | rfl) | rfl | (obtain ⟨hc, hf, hk, hz⟩ := ecell hS; go_simp; first | done | rfl)); simp only [Act.put, List.setIfInBounds_toArray, List.set_cons_zero, List.set_cons_succ])
    all_goals clear ho4
    all_goals first | (refine canon_ef ho1 rfl (fun K hK => ?_); go_simp; ((go_at_call 26; (with_reducible refine (toField_c _ _ _ _).mono ?_); rintro e wa ⟨rfl, hba⟩)); all_goals (refine hK _ _ ⟨(by repeat (first | exact Ext.refl _ | assumption | refine Ext.drew ?_ | refine Ext.drewN ?_ _ | refine Ext.iter ?_ _ _ | refine Ext.alloc ?_ _ | refine Ext.setCell ?_ (by first | exact Nat.le_refl _ | (simp <;> omega)) _ | refine Ext.trans2 (by assumption) ?_)), ?_⟩; clear hK K; go_simp)) | (refine canon_ef ho1 rfl (fun K hK => ?_); go_simp; ((go_at_call 35; (with_reducible refine (toPart_c _ _ _ _ _).mono ?_); rintro e wb ⟨rfl, hbb⟩)); all_goals (refine hK _ _ ⟨(by repeat (first | exact Ext.refl _ | assumption | refine Ext.drew ?_ | refine Ext.drewN ?_ _ | refine Ext.iter ?_ _ _ | refine Ext.alloc ?_ _ | refine Ext.setCell ?_ (by first | exact Nat.le_refl _ | (simp <;> omega)) _ | refine Ext.trans2 (by assumption) ?_)), ?_⟩; clear hK K; go_simp)) | (refine canon_ef ho1 rfl (fun K hK => ?_); go_simp; ((go_at_call 34; (with_reducible refine (hs.out _).mono ?_); rintro e w2 ⟨⟨p2, c2, rfl, oq2, -⟩, hb2⟩)); all_goals (refine hK _ _ ⟨(by repeat (first | exact Ext.refl _ | assumption | refine Ext.drew ?_ | refine Ext.drewN ?_ _ | refine Ext.iter ?_ _ _ | refine Ext.alloc ?_ _ | refine Ext.setCell ?_ (by first | exact Nat.le_refl _ | (simp <;> omega)) _ | refine Ext.trans2 (by assumption) ?_)), ?_⟩; clear hK K; go_simp))
    all_goals clear ho1
    all_goals first | (refine canon_ef ho3 rfl (fun K hK => ?_); go_simp; ((go_at_call 26; (with_reducible refine (toField_c _ _ _ _).mono ?_); rintro e wa ⟨rfl, hba⟩)); all_goals (refine hK _ _ ⟨(by repeat (first | exact Ext.refl _ | assumption | refine Ext.drew ?_ | refine Ext.drewN ?_ _ | refine Ext.iter ?_ _ _ | refine Ext.alloc ?_ _ | refine Ext.setCell ?_ (by first | exact Nat.le_refl _ | (simp <;> omega)) _ | refine Ext.trans2 (by assumption) ?_)), ?_⟩; clear hK K; go_simp)) | (refine canon_ef ho3 rfl (fun K hK => ?_); go_simp; ((go_at_call 35; (with_reducible refine (toPart_c _ _ _ _ _).mono ?_); rintro e wb ⟨rfl, hbb⟩)); all_goals (refine hK _ _ ⟨(by repeat (first | exact Ext.refl _ | assumption | refine Ext.drew ?_ | refine Ext.drewN ?_ _ | refine Ext.iter ?_ _ _ | refine Ext.alloc ?_ _ | refine Ext.setCell ?_ (by first | exact Nat.le_refl _ | (simp <;> omega)) _ | refine Ext.trans2 (by assumption) ?_)), ?_⟩; clear hK K; go_simp)) | (refine canon_ef ho3 rfl (fun K hK => ?_); go_simp; ((go_at_call 34; (with_reducible refine (hs.out _).mono ?_); rintro e w2 ⟨⟨p2, c2, rfl, oq2, -⟩, hb2⟩)); all_goals (refine hK _ _ ⟨(by repeat (first | exact Ext.refl _ | assumption | refine Ext.drew ?_ | refine Ext.drewN ?_ _ | refine Ext.iter ?_ _ _ | refine Ext.alloc ?_ _ | refine Ext.setCell ?_ (by first | exact Nat.le_refl _ | (simp <;> omega)) _ | refine Ext.trans2 (by assumption) ?_)), ?_⟩; clear hK K; go_simp))
    all_goals clear ho3
    all_goals first | (refine canon_ef ho5 rfl (fun K hK => ?_); go_simp; ((go_at_call 26; (with_reducible refine (toField_c _ _ _ _).mono ?_); rintro e wa ⟨rfl, hba⟩)); all_goals (refine hK _ _ ⟨(by repeat (first | exact Ext.refl _ | assumption | refine Ext.drew ?_ | refine Ext.drewN ?_ _ | refine Ext.iter ?_ _ _ | refine Ext.alloc ?_ _ | refine Ext.setCell ?_ (by first | exact Nat.le_refl _ | (simp <;> omega)) _ | refine Ext.trans2 (by assumption) ?_)), ?_⟩; clear hK K; go_simp)) | (refine canon_ef ho5 rfl (fun K hK => ?_); go_simp; ((go_at_call 35; (with_reducible refine (toPart_c _ _ _ _ _).mono ?_); rintro e wb ⟨rfl, hbb⟩)); all_goals (refine hK _ _ ⟨(by repeat (first | exact Ext.refl _ | assumption | refine Ext.drew ?_ | refine Ext.drewN ?_ _ | refine Ext.iter ?_ _ _ | refine Ext.alloc ?_ _ | refine Ext.setCell ?_ (by first | exact Nat.le_refl _ | (simp <;> omega)) _ | refine Ext.trans2 (by assumption) ?_)), ?_⟩; clear hK K; go_simp)) | (refine canon_ef ho5 rfl (fun K hK => ?_); go_simp; ((go_at_call 34; (with_reducible refine (hs.out _).mono ?_); rintro e w2 ⟨⟨p2, c2, rfl, oq2, -⟩, hb2⟩)); all_goals (refine hK _ _ ⟨(by repeat (first | exact Ext.refl _ | assumption | refine Ext.drew ?_ | refine Ext.drewN ?_ _ | refine Ext.iter ?_ _ _ | refine Ext.alloc ?_ _ | refine Ext.setCell ?_ (by first | exact Nat.le_refl _ | (simp <;> omega)) _ | refine Ext.trans2 (by assumption) ?_)), ?_⟩; clear hK K; go_simp))
    all_goals clear ho5
    all_goals (apply canon_st ho6 rfl; (intro w2 hS; first | (go_simp; first | done | rfl) | rfl | (obtain ⟨hc, hf, hk, hz⟩ := ecell hS; go_simp; first | done | rfl)); simp only [Act.put, List.setIfInBounds_toArray, List.set_cons_zero, List.set_cons_succ])
    all_goals clear ho6
    all_goals (apply canon_st ho7 rfl; (intro w2 hS; first | (go_simp; first | done | rfl) | rfl | (obtain ⟨hc, hf, hk, hz⟩ := ecell hS; go_simp; first | done | rfl)); simp only [Act.put, List.setIfInBounds_toArray, List.set_cons_zero, List.set_cons_succ])
    all_goals clear ho7
    all_goals (apply canon_st ho8 rfl; (intro w2 hS; first | (go_simp; first | done | rfl) | rfl | (obtain ⟨hc, hf, hk, hz⟩ := ecell hS; go_simp; first | done | rfl)); simp only [Act.put, List.setIfInBounds_toArray, List.set_cons_zero, List.set_cons_succ])
    all_goals clear ho8
    all_goals (apply canon_st ho9 rfl; (intro w2 hS; first | (go_simp; first | done | rfl) | rfl | (obtain ⟨hc, hf, hk, hz⟩ := ecell hS; go_simp; first | done | rfl)); simp only [Act.put, List.setIfInBounds_toArray, List.set_cons_zero, List.set_cons_succ])
    all_goals clear ho9
    all_goals (apply canon_st ho10 rfl; (intro w2 hS; first | (go_simp; first | done | rfl) | rfl | (obtain ⟨hc, hf, hk, hz⟩ := ecell hS; go_simp; first | done | rfl)); simp only [Act.put, List.setIfInBounds_toArray, List.set_cons_zero, List.set_cons_succ])
    all_goals clear ho10
    all_goals refine canon_done (NoPanic.normal ?_)
    have hx12 : Ext w1 w2 := (((Ext.refl w1).drew.trans hba).trans hbb).trans hb2
    have hbx2 := hbx1.ext hx12
    have fbx2 := fbx1.ext hx12
    have q0 := hbx2.cell (i := 0) (v := .int .i64 i) rfl; have q1 := hbx2.cell (i := 1) (v := .int .i64 n) rfl; have q2 := hbx2.cell (i := 2) (v := .int .i64 y) rfl; have q3 := hbx2.cell (i := 3) (v := .string t) rfl; have ql := hbx2.lt
    have f0 := fbx2.cell (i := 0) (v := .int .i64 p) rfl; have f1 := fbx2.cell (i := 1) (v := .int .i64 k) rfl; have f2 := fbx2.cell (i := 2) (v := .int .i64 q) rfl; have fl := fbx2.lt
    go_wp2_with fail
    refine wp_region_canon (fun w' => Ext w2 w') [(0, true), (2, true), (4, true), (1, false), (3, false), (5, false), (6, true), (7, true), (8, true), (9, true), (10, true)] (by kernel_rfl) (by kernel_rfl) (by decide) (by kernel_rfl) ?_ ?_
    · exact (by repeat (first | exact Ext.refl _ | assumption | refine Ext.drew ?_ | refine Ext.drewN ?_ _ | refine Ext.iter ?_ _ _ | refine Ext.alloc ?_ _ | refine Ext.setCell ?_ (by first | exact Nat.le_refl _ | (simp <;> omega)) _ | refine Ext.trans2 (by assumption) ?_))
    refine canon_intro fun ops eo => ?_
    have ho0 := canon_at eo 0 rfl
    have ho1 := canon_at eo 1 rfl
    have ho2 := canon_at eo 2 rfl
    have ho3 := canon_at eo 3 rfl
    have ho4 := canon_at eo 4 rfl
    have ho5 := canon_at eo 5 rfl
    have ho6 := canon_at eo 6 rfl
    have ho7 := canon_at eo 7 rfl
    have ho8 := canon_at eo 8 rfl
    have ho9 := canon_at eo 9 rfl
    have ho10 := canon_at eo 10 rfl
    clear eo
    all_goals (apply canon_st ho0 rfl; (intro w2 hS; first | (go_simp; first | done | rfl) | rfl | (obtain ⟨hc, hf, hk, hz⟩ := ecell hS; go_simp; first | done | rfl)); simp only [Act.put, List.setIfInBounds_toArray, List.set_cons_zero, List.set_cons_succ])
    all_goals clear ho0
    all_goals (apply canon_st ho2 rfl; (intro w2 hS; first | (go_simp; first | done | rfl) | rfl | (obtain ⟨hc, hf, hk, hz⟩ := ecell hS; go_simp; first | done | rfl)); simp only [Act.put, List.setIfInBounds_toArray, List.set_cons_zero, List.set_cons_succ])
    all_goals clear ho2
    all_goals (apply canon_st ho4 rfl; (intro w2 hS; first | (go_simp; first | done | rfl) | rfl | (obtain ⟨hc, hf, hk, hz⟩ := ecell hS; go_simp; first | done | rfl)); simp only [Act.put, List.setIfInBounds_toArray, List.set_cons_zero, List.set_cons_succ])
    all_goals clear ho4
    all_goals first | (refine canon_ef ho1 rfl (fun K hK => ?_); go_simp; ((go_at_call 26; (with_reducible refine (toField_c _ _ _ _).mono ?_); rintro e wc ⟨rfl, hbc⟩)); all_goals (refine hK _ _ ⟨(by repeat (first | exact Ext.refl _ | assumption | refine Ext.drew ?_ | refine Ext.drewN ?_ _ | refine Ext.iter ?_ _ _ | refine Ext.alloc ?_ _ | refine Ext.setCell ?_ (by first | exact Nat.le_refl _ | (simp <;> omega)) _ | refine Ext.trans2 (by assumption) ?_)), ?_⟩; clear hK K; go_simp)) | (refine canon_ef ho1 rfl (fun K hK => ?_); go_simp; ((go_at_call 35; (with_reducible refine (toPart_c _ _ _ _ _).mono ?_); rintro e wd ⟨rfl, hbd⟩)); all_goals (refine hK _ _ ⟨(by repeat (first | exact Ext.refl _ | assumption | refine Ext.drew ?_ | refine Ext.drewN ?_ _ | refine Ext.iter ?_ _ _ | refine Ext.alloc ?_ _ | refine Ext.setCell ?_ (by first | exact Nat.le_refl _ | (simp <;> omega)) _ | refine Ext.trans2 (by assumption) ?_)), ?_⟩; clear hK K; go_simp)) | (refine canon_ef ho1 rfl (fun K hK => ?_); go_simp; ((go_at_call 36; (with_reducible refine (hi.out _).mono ?_); rintro e w4 ⟨⟨p4, c4, rfl, oq4, -⟩, hb4⟩)); all_goals (refine hK _ _ ⟨(by repeat (first | exact Ext.refl _ | assumption | refine Ext.drew ?_ | refine Ext.drewN ?_ _ | refine Ext.iter ?_ _ _ | refine Ext.alloc ?_ _ | refine Ext.setCell ?_ (by first | exact Nat.le_refl _ | (simp <;> omega)) _ | refine Ext.trans2 (by assumption) ?_)), ?_⟩; clear hK K; go_simp))
    all_goals clear ho1
    all_goals first | (refine canon_ef ho3 rfl (fun K hK => ?_); go_simp; ((go_at_call 26; (with_reducible refine (toField_c _ _ _ _).mono ?_); rintro e wc ⟨rfl, hbc⟩)); all_goals (refine hK _ _ ⟨(by repeat (first | exact Ext.refl _ | assumption | refine Ext.drew ?_ | refine Ext.drewN ?_ _ | refine Ext.iter ?_ _ _ | refine Ext.alloc ?_ _ | refine Ext.setCell ?_ (by first | exact Nat.le_refl _ | (simp <;> omega)) _ | refine Ext.trans2 (by assumption) ?_)), ?_⟩; clear hK K; go_simp)) | (refine canon_ef ho3 rfl (fun K hK => ?_); go_simp; ((go_at_call 35; (with_reducible refine (toPart_c _ _ _ _ _).mono ?_); rintro e wd ⟨rfl, hbd⟩)); all_goals (refine hK _ _ ⟨(by repeat (first | exact Ext.refl _ | assumption | refine Ext.drew ?_ | refine Ext.drewN ?_ _ | refine Ext.iter ?_ _ _ | refine Ext.alloc ?_ _ | refine Ext.setCell ?_ (by first | exact Nat.le_refl _ | (simp <;> omega)) _ | refine Ext.trans2 (by assumption) ?_)), ?_⟩; clear hK K; go_simp)) | (refine canon_ef ho3 rfl (fun K hK => ?_); go_simp; ((go_at_call 36; (with_reducible refine (hi.out _).mono ?_); rintro e w4 ⟨⟨p4, c4, rfl, oq4, -⟩, hb4⟩)); all_goals (refine hK _ _ ⟨(by repeat (first | exact Ext.refl _ | assumption | refine Ext.drew ?_ | refine Ext.drewN ?_ _ | refine Ext.iter ?_ _ _ | refine Ext.alloc ?_ _ | refine Ext.setCell ?_ (by first | exact Nat.le_refl _ | (simp <;> omega)) _ | refine Ext.trans2 (by assumption) ?_)), ?_⟩; clear hK K; go_simp))
    all_goals clear ho3
    all_goals first | (refine canon_ef ho5 rfl (fun K hK => ?_); go_simp; ((go_at_call 26; (with_reducible refine (toField_c _ _ _ _).mono ?_); rintro e wc ⟨rfl, hbc⟩)); all_goals (refine hK _ _ ⟨(by repeat (first | exact Ext.refl _ | assumption | refine Ext.drew ?_ | refine Ext.drewN ?_ _ | refine Ext.iter ?_ _ _ | refine Ext.alloc ?_ _ | refine Ext.setCell ?_ (by first | exact Nat.le_refl _ | (simp <;> omega)) _ | refine Ext.trans2 (by assumption) ?_)), ?_⟩; clear hK K; go_simp)) | (refine canon_ef ho5 rfl (fun K hK => ?_); go_simp; ((go_at_call 35; (with_reducible refine (toPart_c _ _ _ _ _).mono ?_); rintro e wd ⟨rfl, hbd⟩)); all_goals (refine hK _ _ ⟨(by repeat (first | exact Ext.refl _ | assumption | refine Ext.drew ?_ | refine Ext.drewN ?_ _ | refine Ext.iter ?_ _ _ | refine Ext.alloc ?_ _ | refine Ext.setCell ?_ (by first | exact Nat.le_refl _ | (simp <;> omega)) _ | refine Ext.trans2 (by assumption) ?_)), ?_⟩; clear hK K; go_simp)) | (refine canon_ef ho5 rfl (fun K hK => ?_); go_simp; ((go_at_call 36; (with_reducible refine (hi.out _).mono ?_); rintro e w4 ⟨⟨p4, c4, rfl, oq4, -⟩, hb4⟩)); all_goals (refine hK _ _ ⟨(by repeat (first | exact Ext.refl _ | assumption | refine Ext.drew ?_ | refine Ext.drewN ?_ _ | refine Ext.iter ?_ _ _ | refine Ext.alloc ?_ _ | refine Ext.setCell ?_ (by first | exact Nat.le_refl _ | (simp <;> omega)) _ | refine Ext.trans2 (by assumption) ?_)), ?_⟩; clear hK K; go_simp))
    all_goals clear ho5
    all_goals (apply canon_st ho6 rfl; (intro w2 hS; first | (go_simp; first | done | rfl) | rfl | (obtain ⟨hc, hf, hk, hz⟩ := ecell hS; go_simp; first | done | rfl)); simp only [Act.put, List.setIfInBounds_toArray, List.set_cons_zero, List.set_cons_succ])
    all_goals clear ho6
    all_goals (apply canon_st ho7 rfl; (intro w2 hS; first | (go_simp; first | done | rfl) | rfl | (obtain ⟨hc, hf, hk, hz⟩ := ecell hS; go_simp; first | done | rfl)); simp only [Act.put, List.setIfInBounds_toArray, List.set_cons_zero, List.set_cons_succ])
    all_goals clear ho7
    all_goals (apply canon_st ho8 rfl; (intro w2 hS; first | (go_simp; first | done | rfl) | rfl | (obtain ⟨hc, hf, hk, hz⟩ := ecell hS; go_simp; first | done | rfl)); simp only [Act.put, List.setIfInBounds_toArray, List.set_cons_zero, List.set_cons_succ])
    all_goals clear ho8
    all_goals (apply canon_st ho9 rfl; (intro w2 hS; first | (go_simp; first | done | rfl) | rfl | (obtain ⟨hc, hf, hk, hz⟩ := ecell hS; go_simp; first | done | rfl)); simp only [Act.put, List.setIfInBounds_toArray, List.set_cons_zero, List.set_cons_succ])
    all_goals clear ho9
    all_goals (apply canon_st ho10 rfl; (intro w2 hS; first | (go_simp; first | done | rfl) | rfl | (obtain ⟨hc, hf, hk, hz⟩ := ecell hS; go_simp; first | done | rfl)); simp only [Act.put, List.setIfInBounds_toArray, List.set_cons_zero, List.set_cons_succ])
    all_goals clear ho10
    all_goals refine canon_done (NoPanic.normal ?_)
    have hx2d : Ext w2 wd := ((Ext.refl w2).drew.trans hbc).trans hbd
    go_wp2_with fail
    refine (eqInt64S_c p4 p2 c4 c2 L L w4 oq4.ints (oq2.ints.ext (hx2d.trans hb4)) (by omega) (by omega)).mono ?_
    rintro e w5 ⟨⟨_, rfl⟩ | ⟨hne, rfl⟩, n5, rfl⟩
    case inr => exact absurd rfl hne
    have oq5 : OwnInts wd.heap.size (w4.drewN n5) p4 L := oq4.ext ((Ext.refl w4).drewN n5)
    go_wp2_with fail
    refine (mark_c wd.heap.size p4 c4 1 L (w4.drewN n5) oq5 (by omega) (by omega)).mono ?_
    rintro e w6 ⟨rfl, oq6, hb6, -⟩
    have hx26 : Ext w2 w6 := ((hx2d.trans hb4).drewN n5).low hb6 hx2d.below.size
    have HX26 := Lib.hid hx26
    go_wp2_with fail
    refine (heldInt64S_c p4 c4 1 L.length w6 oq6.ints (by omega) (by omega)).mono ?_
    rintro e w7 ⟨rfl, rfl⟩
    have hbx6 := hbx2.ext hx26
    have fbx6 := fbx2.ext hx26
    have q0 := hbx6.cell (i := 0) (v := .int .i64 i) rfl; have q1 := hbx6.cell (i := 1) (v := .int .i64 n) rfl; have q2 := hbx6.cell (i := 2) (v := .int .i64 y) rfl; have q3 := hbx6.cell (i := 3) (v := .string t) rfl; have ql := hbx6.lt
    have f0 := fbx6.cell (i := 0) (v := .int .i64 p) rfl; have f1 := fbx6.cell (i := 1) (v := .int .i64 k) rfl; have f2 := fbx6.cell (i := 2) (v := .int .i64 q) rfl; have fl := fbx6.lt
    have OQ6 := Lib.hid oq6.ints; have OQ2 := Lib.hid (oq2.ints.ext hx26)
    clear oq6 oq5 oq4 oq2 hb6 hx26 hba hbb hb2 hbc hbd hb4 hx2d
    go_wp2_with fail
    refine wp_region_canon (fun w' => Ext w6 w') [(0, true), (2, true), (4, true), (1, false), (3, false), (5, false), (6, true), (7, true), (8, true), (9, true), (10, true)] (by kernel_rfl) (by kernel_rfl) (by decide) (by kernel_rfl) ?_ ?_
    · exact (by repeat (first | exact Ext.refl _ | assumption | refine Ext.drew ?_ | refine Ext.drewN ?_ _ | refine Ext.iter ?_ _ _ | refine Ext.alloc ?_ _ | refine Ext.setCell ?_ (by first | exact Nat.le_refl _ | (simp <;> omega)) _ | refine Ext.trans2 (by assumption) ?_))
    refine canon_intro fun ops eo => ?_
    have ho0 := canon_at eo 0 rfl
    have ho1 := canon_at eo 1 rfl
    have ho2 := canon_at eo 2 rfl
    have ho3 := canon_at eo 3 rfl
    have ho4 := canon_at eo 4 rfl
    have ho5 := canon_at eo 5 rfl
    have ho6 := canon_at eo 6 rfl
    have ho7 := canon_at eo 7 rfl
    have ho8 := canon_at eo 8 rfl
    have ho9 := canon_at eo 9 rfl
    have ho10 := canon_at eo 10 rfl
    clear eo
    all_goals (apply canon_st ho0 rfl; (intro w2 hS; first | (go_simp; first | done | rfl) | rfl | (obtain ⟨hc, hf, hk, hz⟩ := ecell hS; go_simp; first | done | rfl)); simp only [Act.put, List.setIfInBounds_toArray, List.set_cons_zero, List.set_cons_succ])
    all_goals clear ho0
    all_goals (apply canon_st ho2 rfl; (intro w2 hS; first | (go_simp; first | done | rfl) | rfl | (obtain ⟨hc, hf, hk, hz⟩ := ecell hS; go_simp; first | done | rfl)); simp only [Act.put, List.setIfInBounds_toArray, List.set_cons_zero, List.set_cons_succ])
    all_goals clear ho2
    all_goals (apply canon_st ho4 rfl; (intro w2 hS; first | (go_simp; first | done | rfl) | rfl | (obtain ⟨hc, hf, hk, hz⟩ := ecell hS; go_simp; first | done | rfl)); simp only [Act.put, List.setIfInBounds_toArray, List.set_cons_zero, List.set_cons_succ])
    all_goals clear ho4
    all_goals first | (refine canon_ef ho1 rfl (fun K hK => ?_); go_simp; ((go_at_call 26; (with_reducible refine (toField_c _ _ _ _).mono ?_); rintro e wa ⟨rfl, hba⟩)); all_goals (refine hK _ _ ⟨(by repeat (first | exact Ext.refl _ | assumption | refine Ext.drew ?_ | refine Ext.drewN ?_ _ | refine Ext.iter ?_ _ _ | refine Ext.alloc ?_ _ | refine Ext.setCell ?_ (by first | exact Nat.le_refl _ | (simp <;> omega)) _ | refine Ext.trans2 (by assumption) ?_)), ?_⟩; clear hK K; go_simp)) | (refine canon_ef ho1 rfl (fun K hK => ?_); go_simp; ((go_at_call 35; (with_reducible refine (toPart_c _ _ _ _ _).mono ?_); rintro e wb ⟨rfl, hbb⟩)); all_goals (refine hK _ _ ⟨(by repeat (first | exact Ext.refl _ | assumption | refine Ext.drew ?_ | refine Ext.drewN ?_ _ | refine Ext.iter ?_ _ _ | refine Ext.alloc ?_ _ | refine Ext.setCell ?_ (by first | exact Nat.le_refl _ | (simp <;> omega)) _ | refine Ext.trans2 (by assumption) ?_)), ?_⟩; clear hK K; go_simp)) | (refine canon_ef ho1 rfl (fun K hK => ?_); go_simp; ((go_at_call 36; (with_reducible refine (hi.out _).mono ?_); rintro e w9 ⟨⟨p9, c9, rfl, oq9, -⟩, hb9⟩)); all_goals (refine hK _ _ ⟨(by repeat (first | exact Ext.refl _ | assumption | refine Ext.drew ?_ | refine Ext.drewN ?_ _ | refine Ext.iter ?_ _ _ | refine Ext.alloc ?_ _ | refine Ext.setCell ?_ (by first | exact Nat.le_refl _ | (simp <;> omega)) _ | refine Ext.trans2 (by assumption) ?_)), ?_⟩; clear hK K; go_simp))
    all_goals clear ho1
    all_goals first | (refine canon_ef ho3 rfl (fun K hK => ?_); go_simp; ((go_at_call 26; (with_reducible refine (toField_c _ _ _ _).mono ?_); rintro e wa ⟨rfl, hba⟩)); all_goals (refine hK _ _ ⟨(by repeat (first | exact Ext.refl _ | assumption | refine Ext.drew ?_ | refine Ext.drewN ?_ _ | refine Ext.iter ?_ _ _ | refine Ext.alloc ?_ _ | refine Ext.setCell ?_ (by first | exact Nat.le_refl _ | (simp <;> omega)) _ | refine Ext.trans2 (by assumption) ?_)), ?_⟩; clear hK K; go_simp)) | (refine canon_ef ho3 rfl (fun K hK => ?_); go_simp; ((go_at_call 35; (with_reducible refine (toPart_c _ _ _ _ _).mono ?_); rintro e wb ⟨rfl, hbb⟩)); all_goals (refine hK _ _ ⟨(by repeat (first | exact Ext.refl _ | assumption | refine Ext.drew ?_ | refine Ext.drewN ?_ _ | refine Ext.iter ?_ _ _ | refine Ext.alloc ?_ _ | refine Ext.setCell ?_ (by first | exact Nat.le_refl _ | (simp <;> omega)) _ | refine Ext.trans2 (by assumption) ?_)), ?_⟩; clear hK K; go_simp)) | (refine canon_ef ho3 rfl (fun K hK => ?_); go_simp; ((go_at_call 36; (with_reducible refine (hi.out _).mono ?_); rintro e w9 ⟨⟨p9, c9, rfl, oq9, -⟩, hb9⟩)); all_goals (refine hK _ _ ⟨(by repeat (first | exact Ext.refl _ | assumption | refine Ext.drew ?_ | refine Ext.drewN ?_ _ | refine Ext.iter ?_ _ _ | refine Ext.alloc ?_ _ | refine Ext.setCell ?_ (by first | exact Nat.le_refl _ | (simp <;> omega)) _ | refine Ext.trans2 (by assumption) ?_)), ?_⟩; clear hK K; go_simp))
    all_goals clear ho3
    all_goals first | (refine canon_ef ho5 rfl (fun K hK => ?_); go_simp; ((go_at_call 26; (with_reducible refine (toField_c _ _ _ _).mono ?_); rintro e wa ⟨rfl, hba⟩)); all_goals (refine hK _ _ ⟨(by repeat (first | exact Ext.refl _ | assumption | refine Ext.drew ?_ | refine Ext.drewN ?_ _ | refine Ext.iter ?_ _ _ | refine Ext.alloc ?_ _ | refine Ext.setCell ?_ (by first | exact Nat.le_refl _ | (simp <;> omega)) _ | refine Ext.trans2 (by assumption) ?_)), ?_⟩; clear hK K; go_simp)) | (refine canon_ef ho5 rfl (fun K hK => ?_); go_simp; ((go_at_call 35; (with_reducible refine (toPart_c _ _ _ _ _).mono ?_); rintro e wb ⟨rfl, hbb⟩)); all_goals (refine hK _ _ ⟨(by repeat (first | exact Ext.refl _ | assumption | refine Ext.drew ?_ | refine Ext.drewN ?_ _ | refine Ext.iter ?_ _ _ | refine Ext.alloc ?_ _ | refine Ext.setCell ?_ (by first | exact Nat.le_refl _ | (simp <;> omega)) _ | refine Ext.trans2 (by assumption) ?_)), ?_⟩; clear hK K; go_simp)) | (refine canon_ef ho5 rfl (fun K hK => ?_); go_simp; ((go_at_call 36; (with_reducible refine (hi.out _).mono ?_); rintro e w9 ⟨⟨p9, c9, rfl, oq9, -⟩, hb9⟩)); all_goals (refine hK _ _ ⟨(by repeat (first | exact Ext.refl _ | assumption | refine Ext.drew ?_ | refine Ext.drewN ?_ _ | refine Ext.iter ?_ _ _ | refine Ext.alloc ?_ _ | refine Ext.setCell ?_ (by first | exact Nat.le_refl _ | (simp <;> omega)) _ | refine Ext.trans2 (by assumption) ?_)), ?_⟩; clear hK K; go_simp))
    all_goals clear ho5
    all_goals (apply canon_st ho6 rfl; (intro w2 hS; first | (go_simp; first | done | rfl) | rfl | (obtain ⟨hc, hf, hk, hz⟩ := ecell hS; go_simp; first | done | rfl)); simp only [Act.put, List.setIfInBounds_toArray, List.set_cons_zero, List.set_cons_succ])
    all_goals clear ho6
    all_goals (apply canon_st ho7 rfl; (intro w2 hS; first | (go_simp; first | done | rfl) | rfl | (obtain ⟨hc, hf, hk, hz⟩ := ecell hS; go_simp; first | done | rfl)); simp only [Act.put, List.setIfInBounds_toArray, List.set_cons_zero, List.set_cons_succ])
    all_goals clear ho7
    all_goals (apply canon_st ho8 rfl; (intro w2 hS; first | (go_simp; first | done | rfl) | rfl | (obtain ⟨hc, hf, hk, hz⟩ := ecell hS; go_simp; first | done | rfl)); simp only [Act.put, List.setIfInBounds_toArray, List.set_cons_zero, List.set_cons_succ])
    all_goals clear ho8
    all_goals (apply canon_st ho9 rfl; (intro w2 hS; first | (go_simp; first | done | rfl) | rfl | (obtain ⟨hc, hf, hk, hz⟩ := ecell hS; go_simp; first | done | rfl)); simp only [Act.put, List.setIfInBounds_toArray, List.set_cons_zero, List.set_cons_succ])
    all_goals clear ho9
    all_goals (apply canon_st ho10 rfl; (intro w2 hS; first | (go_simp; first | done | rfl) | rfl | (obtain ⟨hc, hf, hk, hz⟩ := ecell hS; go_simp; first | done | rfl)); simp only [Act.put, List.setIfInBounds_toArray, List.set_cons_zero, List.set_cons_succ])
    all_goals clear ho10
    all_goals refine canon_done (NoPanic.normal ?_)
    have hx69 : Ext w6 w9 := (((Ext.refl w6).drew.trans hba).trans hbb).trans hb9
    go_wp2_with fail
    refine (eqInt64S_c p9 p2 c9 c2 L L w9 oq9.ints (OQ2.out.ext hx69) (by omega) (by omega)).mono ?_
    rintro e w10 ⟨⟨_, rfl⟩ | ⟨hne, rfl⟩, n10, rfl⟩
    case inr => exact absurd rfl hne
    go_wp2_with (go_at_call 32; (with_reducible refine (heldInt64S_c p4 c4 1 L.length _ (OQ6.out.ext (hx69.drewN n10)) (by omega) (by omega)).mono ?_); rintro e w11 ⟨rfl, rfl⟩)
    go_ret
    exact ⟨rfl, (((hx01.trans hx12).trans HX26.out).trans hx69).drewN n10⟩
  · go_enter Try.func7, Try.ntmps7
    go_wp2_with (go_at_call 33; (with_reducible refine (szPart_c i n y t _ _ ht (by omega)).mono ?_); rintro e w1 ⟨⟨hP, rfl⟩ | ⟨hP, rfl⟩, hx1⟩ <;> (first | (exfalso; omega) | skip))
    go_ret
    exact ⟨rfl, (by repeat (first | exact Ext.refl _ | assumption | refine Ext.drew ?_ | refine Ext.drewN ?_ _ | refine Ext.iter ?_ _ _ | refine Ext.alloc ?_ _ | refine Ext.setCell ?_ (by first | exact Nat.le_refl _ | (simp <;> omega)) _ | refine Ext.trans2 (by assumption) ?_))⟩

theorem open_Field {w : World} {cs : List Value} (h : rds w [.i .i64, .i .i64, .i .i64] cs) : ∃ p k q : Int, cs = [.int .i64 p, .int .i64 k, .int .i64 q] := by
  obtain ⟨p, _, rfl, _, h⟩ := rds_int h
  obtain ⟨k, _, rfl, _, h⟩ := rds_int h
  obtain ⟨q, _, rfl, _, h⟩ := rds_int h
  exact ⟨p, k, q, by rw [rds_nil h]⟩
theorem open_Part {w : World} {cs : List Value} (h : rds w [.i .i64, .i .i64, .i .i64, .str] cs) : ∃ (i n y : Int) (t : ByteArray), cs = [.int .i64 i, .int .i64 n, .int .i64 y, .string t] ∧ t.size ≤ maxLen := by
  obtain ⟨i, _, rfl, _, h⟩ := rds_int h
  obtain ⟨n, _, rfl, _, h⟩ := rds_int h
  obtain ⟨y, _, rfl, _, h⟩ := rds_int h
  obtain ⟨t, _, rfl, ht, h⟩ := rds_str h
  exact ⟨i, n, y, t, by rw [rds_nil h], ht⟩
namespace fnExactEncodePart
set_option maxRecDepth 100000 in
theorem lifted (os : Os) (started : os.Started) (H : Type) (enc : TypeId × Value → H) :
    ReturnsInHanded {} Try.checked os 7 .any (Rows.fnExactEncodePartSpec.pre6 enc Try.prog Try.f7 Rows.fnExactEncodePartRow.domain false) (Rows.fnExactEncodePartSpec.post enc Try.prog Try.f7 false true false false) := by
  refine returnsInHanded_of_change (C := Try.checked) lawOwn started (by kernel_rfl) Try.func7
    (ChangeSpec.witness6 (enc := enc) (C := Try.checked) false ⟨#[], #[.agg #[.int .i64 0, .int .i64 0, .int .i64 0], .agg #[.int .i64 0, .int .i64 0, .int .i64 0, .string ByteArray.empty], .int .i64 0], []⟩ 8 (by kernel_rfl) (by kernel_rfl) (by kernel_rfl) (by kernel_rfl)) ?_
  intro W base args ds gs before hval0 hW hcnd _
  have hval : ∀ (j : Nat) t v, Try.f7.params[j]? = some t → args[j]? = some v → Value.okWide Try.prog W .any base t v := hval0
  have hW' := hW
  obtain ⟨p, q, hA0, hV, rfl, hfz, hnd⟩ := hW
  have hA : DataW.TrodAll enc Try.prog W 0 (fun _ => true) true Try.f7.params.toList args.toList ds p := hA0
  rw [Try.params7] at hA hval
  obtain ⟨v0, vs0, d0, ds0, p0, q0, hargs, rfl, rfl, h0, r0⟩ := trodAll_cons hA
  obtain ⟨v1, vs1, d1, ds1, p1, q1, rfl, rfl, rfl, h1, r1⟩ := trodAll_cons r0
  obtain ⟨v2, vs2, d2, ds2, p2, q2, rfl, rfl, rfl, h2, r2⟩ := trodAll_cons r1
  obtain ⟨rfl, rfl, rfl⟩ := trodAll_nil r2
  obtain rfl : args = #[v0, v1, v2] := by cases args; simp_all
  obtain ⟨rfl, rfl⟩ := trodVars_none hV
  have lt0 : ∀ x ∈ p0, x.block < W.heap.size := by obtain ⟨m, hm⟩ := h0; exact DataW.trod_lt m _ _ _ hm
  obtain ⟨a0, rfl, s0⟩ := arg_st 9 [.i .i64, .i .i64, .i .i64] (by kernel_rfl) Try.underlying38 (hval 0 38 v0 rfl rfl) h0
  have lt1 : ∀ x ∈ p1, x.block < W.heap.size := by obtain ⟨m, hm⟩ := h1; exact DataW.trod_lt m _ _ _ hm
  obtain ⟨a1, rfl, s1⟩ := arg_st 9 [.i .i64, .i .i64, .i .i64, .str] (by kernel_rfl) Try.underlying48 (hval 1 48 v1 rfl rfl) h1
  have lt2 : ∀ x ∈ p2, x.block < W.heap.size := by obtain ⟨m, hm⟩ := h2; exact DataW.trod_lt m _ _ _ hm
  obtain ⟨a2, rfl, s2⟩ := arg_int Try.underlying2 (hval 2 2 v2 rfl rfl) h2
  obtain ⟨p, k, q, rfl⟩ := open_Field s0
  obtain ⟨i, n, y, t, rfl, ht⟩ := open_Part s1
  refine (encodePart_law p k q i n y t a2 W ht).mono fun e W' ⟨he, hg⟩ => ?_
  have bel : Below W.heap.size W W' := hg
  subst he
  exact ⟨_, rfl, _, _, _, [], _, [], hW', trodAll_mk1 (shut_bool Try.underlying4 _), (trodAll_cons_mk (Below.trod lawLaid (by kernel_rfl) (of_decide_eq_true (by kernel_rfl)) h0 bel lt0) (trodAll_cons_mk (Below.trod lawLaid (by kernel_rfl) (of_decide_eq_true (by kernel_rfl)) h1 bel lt1) (trodAll_cons_mk (Below.trod lawLaid (by kernel_rfl) (of_decide_eq_true (by kernel_rfl)) h2 bel lt2) trodAll_mk0))), rfl, bel.frame _, fun h => by cases h⟩
theorem over : Rows.fnExactEncodePartRow.holds Try.pinned (OpenSpec.ofChange Rows.fnExactEncodePartSpec) :=
  OpenClaim.holds_of_wide 7 Try.f7 rfl rfl rfl rfl rfl rfl rfl ⟨rfl, rfl, rfl, rfl, rfl⟩ rfl rfl rfl rfl rfl (by kernel_rfl) Try.func7 (by kernel_rfl)
    (of_decide_eq_true (by kernel_rfl)) (by unfold Func.isWrapper; first | (rw [if_pos (by decide +kernel)]; kernel_rfl) | (rw [if_neg (by decide +kernel)]; exact ⟨rfl, rfl⟩))
    (fun os started H enc _ => lifted os started H enc)
theorem proved : Rows.FnExactEncodePartSaid := over
end fnExactEncodePart

end Go.Proofs.Ytnfbgjgchcgonaa
