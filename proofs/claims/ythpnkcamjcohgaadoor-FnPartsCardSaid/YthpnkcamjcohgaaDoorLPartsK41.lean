/- Drawn messages with a field and a capacity, to be split. -/
import Derived.Test.YthpnkcamjcohgaaDoorLPartsK40
import Derived.Test.YthpnkcamjcohgaaDoorLPartsK01
/-! Drawn messages with a field and a capacity, to be split. -/
namespace Go.Proofs.YthpnkcamjcohgaaDoor
set_option linter.unusedVariables false
set_option linter.unusedSimpArgs false
open Go.RowKit

/-- A field, a message and a capacity have been drawn. -/
def SplE (w : World) (e : Ending) (w' : World) : Prop := ∃ (p k q : Int) (t : ByteArray) (cap : Int), e = .returned (.tuple #[vFld p k q, .string t, .int .i64 cap]) ∧ t.size ≤ 500 ∧ Ext w w'
theorem capS (j : Nat) (hj : j < 4) : ∃ v : Int, (#[.int .i64 0, .int .i64 1, .int .i64 1500, .int .i64 1501] : Array Value)[j]? = some (.int .i64 v) := by
  match j, hj with
  | 0, _ => exact ⟨_, rfl⟩
  | 1, _ => exact ⟨_, rfl⟩
  | 2, _ => exact ⟨_, rfl⟩
  | 3, _ => exact ⟨_, rfl⟩
set_option maxHeartbeats 1600000 in
set_option maxRecDepth 100000 in
theorem DrawSplitMessage_c (p : Option Addr) (c : Nat) (code : List Int) (w : World) (hx : U8At w p code) (hl : code.length ≤ 4096) :
    Calls Tryd.prog 13 #[.slice p code.length c] w fun e w' => SplE w e w' := by
  have HX := Lib.hid hx; clear hx
  have hb := Blk.new w #[.int .i64 0, .int .i64 0, .int .i64 0] 32
  go_enter Tryd.func13, Tryd.ntmps13
  go_wp2_with (go_at_call 46; (with_reducible refine (From_c p c code _ (HX.out.ext (by repeat (first | exact Ext.refl _ | assumption | refine Ext.drew ?_ | refine Ext.drewN ?_ _ | refine Ext.iter ?_ _ _ | refine Ext.alloc ?_ _ | refine Ext.setCell ?_ (by first | exact Nat.le_refl _ | (simp <;> omega)) _ | refine Ext.trans2 (by assumption) ?_))) hl).mono ?_); rintro e w1 ⟨⟨g, rfl, hg, hs1⟩, hW1⟩; replace hg := Lib.hid hg)
  replace hg := hg.out
  have hn1 : g < w1.heap.size := hs1.lt
  rw [← hg] at hs1
  simp only [World.size_alloc] at hg
  have hgw : w.heap.size < g := by omega
  have hb1 := hb.ext hW1
  have hE1 : Ext w w1 := ((Ext.refl w).alloc _).trans hW1
  clear hb hW1 hg HX
  refine (l02DrawAny_c (g + 1) g _ hs1 (by omega)).mono ?_
  rintro e w2 ⟨fp, fk, fq, rfl, -, hs2, hb2⟩
  have hz2 := hb2.size
  have hbr2 := (hb1.but hb2 (by omega)).alloc (.cells #[.int .i64 fp, .int .i64 fk, .int .i64 fq] 32)
  have hfl2 := Blk.new w2 #[.int .i64 fp, .int .i64 fk, .int .i64 fq] 32
  have hE2 := (hE1.but hb2 (by omega)).alloc (.cells #[.int .i64 fp, .int .i64 fk, .int .i64 fq] 32)
  have hs2' := hs2.ext ((Ext.refl _).alloc (.cells #[.int .i64 fp, .int .i64 fk, .int .i64 fq] 32))
  have hf : w2.heap.size < (w2.alloc (.cells #[.int .i64 fp, .int .i64 fk, .int .i64 fq] 32)).heap.size := by simp
  have hfg : w2.heap.size ≠ g := by omega
  have hfw : w.heap.size < w2.heap.size := by omega
  have hgf : g < w2.heap.size := by omega
  clear hs1 hs2 hb2 hb1 hE1
  go_wp2_with fail
  generalize w2.alloc (.cells #[.int .i64 fp, .int .i64 fk, .int .i64 fq] 32) = w3 at *
  generalize w2.heap.size = f at *
  refine (Draw10_c (g + 1) g _ hs2' (by omega)).mono ?_
  rintro e w4 ⟨t0, rfl, ht0, hs4, hb4⟩
  have hz4 := hb4.size
  have hbr4 := hbr2.but hb4 (by omega)
  have hfl4 := hfl2.but hb4 hfg
  have hE4 := hE2.but hb4 (by omega)
  clear hs2' hb4 hE2 hbr2 hfl2
  have hcase : ∃ t : ByteArray, t.size ≤ 500 ∧ ((t0.size ≤ 60 ∧ t = t0) ∨ (60 < t0.size ∧ t = t0.extract 0 60)) := by
    rcases Nat.lt_or_ge 60 t0.size with h | h
    · exact ⟨t0.extract 0 60, by rw [ByteArray.size_extract]; omega, .inr ⟨h, rfl⟩⟩
    · exact ⟨t0, ht0, .inl ⟨h, rfl⟩⟩
  obtain ⟨t, ht, hcase⟩ := hcase
  clear ht0
  have x0 := hfl4.cell (i := 0) (v := .int .i64 fp) rfl
  have x1 := hfl4.cell (i := 1) (v := .int .i64 fk) rfl
  have x2 := hfl4.cell (i := 2) (v := .int .i64 fq) rfl
  rcases hcase with ⟨h60, he⟩ | ⟨h60, he⟩
  all_goals
    first
      | (subst he; have h60i : ¬ (60 : Int) < t.size := by omega)
      | have h60i : (60 : Int) < t0.size := by omega
    (try replace he := Lib.hid he)
    go_wp2_with fail
    (try rw [← he.out])
    clear h60i
    (try clear he)
    clear h60
    refine (Next_c (g + 1) g 20 _ hs4 (by omega)).mono ?_
    rintro e w6 ⟨y, rfl, -, -, -, hs6, hb6⟩
    have hz6 := hb6.size
    have hbr6 := hbr4.but hb6 (by omega)
    have hfl6 := hfl4.but hb6 hfg
    have hE6 := hE4.but hb6 (by omega)
    clear x0 x1 x2 hs4 hb6 hbr4 hfl4 hE4
    have hr0 := hbr6.cell (i := 0) (v := .int .i64 0) rfl
    have hr1 := hbr6.cell (i := 1) (v := .int .i64 0) rfl
    have hr2 := hbr6.cell (i := 2) (v := .int .i64 0) rfl
    by_cases h0 : y = 0
    · subst h0
      go_wp2_with fail
      clear hr0 hr1 hr2
      refine wp_region_c3 (fun w' => Blk w' f #[.int .i64 fp, .int .i64 fk, .int .i64 fq] 32) (.st 0 (.st 1 (.st 3 (.two 2 (.one 4 (.st 5 (.two 6 (.one 7 (.st 8 (.st 9 .done))) 7 (.st 8 (.one 6 (.st 9 .done)))))) 4 (.two 2 (.st 5 (.two 6 (.one 7 (.st 8 (.st 9 .done))) 7 (.st 8 (.one 6 (.st 9 .done))))) 7 (.st 8 (.one 2 (.st 5 (.one 6 (.st 9 .done)))))))))) (by kernel_rfl) (by kernel_rfl) (by decide) (by kernel_rfl) ?_ ?_
      · exact hfl6.drew
      refine c3_intro fun ops eo => ?_
      have ho0 := canon_at eo 0 rfl
      have ho1 := canon_at eo 1 rfl
      have ho2 := canon_at eo 2 rfl
      have ho3 := canon_at eo 3 rfl
      have ho4 := canon_at eo 4 rfl
      have ho5 := canon_at eo 5 rfl
      have ho6 := canon_at eo 6 rfl
      have ho7 := canon_at eo 7 rfl
      have ho8 := canon_at eo 8 rfl
      have ho9 := canon_at eo 9 rfl
      clear eo
      all_goals (apply c3_st ho0 rfl; (intro w2 hS; first | (go_simp; first | done | rfl) | rfl | (have x0 := hS.cell (i := 0) (v := .int .i64 fp) rfl; have x1 := hS.cell (i := 1) (v := .int .i64 fk) rfl; have x2 := hS.cell (i := 2) (v := .int .i64 fq) rfl; go_simp; first | done | rfl)); simp only [Act.put, List.setIfInBounds_toArray, List.set_cons_zero, List.set_cons_succ])
      all_goals clear ho0
      all_goals (apply c3_st ho1 rfl; (intro w2 hS; first | (go_simp; first | done | rfl) | rfl | (have x0 := hS.cell (i := 0) (v := .int .i64 fp) rfl; have x1 := hS.cell (i := 1) (v := .int .i64 fk) rfl; have x2 := hS.cell (i := 2) (v := .int .i64 fq) rfl; go_simp; first | done | rfl)); simp only [Act.put, List.setIfInBounds_toArray, List.set_cons_zero, List.set_cons_succ])
      all_goals clear ho1
      all_goals (apply c3_st ho3 rfl; (intro w2 hS; first | (go_simp; first | done | rfl) | rfl | (have x0 := hS.cell (i := 0) (v := .int .i64 fp) rfl; have x1 := hS.cell (i := 1) (v := .int .i64 fk) rfl; have x2 := hS.cell (i := 2) (v := .int .i64 fq) rfl; go_simp; first | done | rfl)); simp only [Act.put, List.setIfInBounds_toArray, List.set_cons_zero, List.set_cons_succ])
      all_goals clear ho3
      all_goals
        refine c3_two ?_ ?_
        rotate_right 1
        focus
          all_goals first | (refine c3_op ho4 rfl (fun K hK => ?_); go_simp; ((go_at_call 49; (with_reducible refine (Next_c (g + 1) g 4 _ (hs6.ext (by repeat (first | exact Ext.refl _ | assumption | refine Ext.drew ?_ | refine Ext.drewN ?_ _ | refine Ext.iter ?_ _ _ | refine Ext.alloc ?_ _ | refine Ext.setCell ?_ (by first | exact Nat.le_refl _ | (simp <;> omega)) _ | refine Ext.trans2 (by assumption) ?_))) (by omega)).mono ?_); rintro e w7 ⟨zz, rfl, hz0, hz3, -, hs7, hb7⟩; replace hz3 := hz3 (by omega); obtain ⟨zn, rfl⟩ : ∃ zn : Nat, zz = zn := ⟨zz.toNat, by omega⟩; have hzn : (zn : Int) < 4 := hz3; obtain ⟨v, hv⟩ := capS zn (by omega); have hfl7 : Blk w7 f #[.int .i64 fp, .int .i64 fk, .int .i64 fq] 32 := Blk.but (Blk.ext hfl6 (by repeat (first | exact Ext.refl _ | assumption | refine Ext.drew ?_ | refine Ext.drewN ?_ _ | refine Ext.iter ?_ _ _ | refine Ext.alloc ?_ _ | refine Ext.setCell ?_ (by first | exact Nat.le_refl _ | (simp <;> omega)) _ | refine Ext.trans2 (by assumption) ?_))) hb7 hfg; have hbr7 : Blk w7 w.heap.size #[.int .i64 0, .int .i64 0, .int .i64 0] 32 := Blk.but (Blk.ext hbr6 (by repeat (first | exact Ext.refl _ | assumption | refine Ext.drew ?_ | refine Ext.drewN ?_ _ | refine Ext.iter ?_ _ _ | refine Ext.alloc ?_ _ | refine Ext.setCell ?_ (by first | exact Nat.le_refl _ | (simp <;> omega)) _ | refine Ext.trans2 (by assumption) ?_))) hb7 (by omega); have hE7 : Ext w w7 := Ext.but (Ext.trans hE6 (by repeat (first | exact Ext.refl _ | assumption | refine Ext.drew ?_ | refine Ext.drewN ?_ _ | refine Ext.iter ?_ _ _ | refine Ext.alloc ?_ _ | refine Ext.setCell ?_ (by first | exact Nat.le_refl _ | (simp <;> omega)) _ | refine Ext.trans2 (by assumption) ?_))) hb7 (by omega); have hl7 := hbr7.lt; have hr0 := hbr7.cell (i := 0) (v := .int .i64 0) rfl; have hr1 := hbr7.cell (i := 1) (v := .int .i64 0) rfl; have hr2 := hbr7.cell (i := 2) (v := .int .i64 0) rfl; have hrf := hbr7.free; have sC := (Blk.new w7 #[.int .i64 0, .int .i64 1, .int .i64 1500, .int .i64 1501] 2).cell hv; have sD := (Blk.new (((w7.setCell ⟨w.heap.size, 0, none⟩ (.int .i64 fp)).setCell ⟨w.heap.size, 1, none⟩ (.int .i64 fk)).setCell ⟨w.heap.size, 2, none⟩ (.int .i64 fq)) #[.int .i64 0, .int .i64 1, .int .i64 1500, .int .i64 1501] 2).cell hv; simp only [World.size_setCell] at sD; try (have sA := (Blk.but (Blk.drew (Blk.new w6 #[.int .i64 0, .int .i64 1, .int .i64 1500, .int .i64 1501] 2)) hb7 (by show w6.heap.size ≠ g; omega)).cell hv; have sB := (Blk.but (Blk.drew (Blk.new w6 #[.int .i64 0, .int .i64 1, .int .i64 1500, .int .i64 1501] 2)) hb7 (by show w6.heap.size ≠ g; omega)).lt))); all_goals ((with_reducible refine hK _ _ ?_); refine ⟨by repeat (first | with_reducible assumption | with_reducible refine Blk.drew ?_ | with_reducible refine Blk.alloc ?_ _ | with_reducible refine Blk.far ?_ (by omega) _), ?_⟩; clear hK K; go_simp))
          all_goals clear ho4
          all_goals
            refine c3_two ?_ ?_
            rotate_right 1
            focus
              all_goals first | (refine c3_op ho7 rfl (fun K hK => ?_); go_simp; (skip); all_goals ((with_reducible refine hK _ _ ?_); refine ⟨by repeat (first | with_reducible assumption | with_reducible refine Blk.drew ?_ | with_reducible refine Blk.alloc ?_ _ | with_reducible refine Blk.far ?_ (by omega) _), ?_⟩; clear hK K; go_simp))
              all_goals clear ho7
              all_goals (apply c3_st ho8 rfl; (intro w2 hS; first | (go_simp; first | done | rfl) | rfl | (have x0 := hS.cell (i := 0) (v := .int .i64 fp) rfl; have x1 := hS.cell (i := 1) (v := .int .i64 fk) rfl; have x2 := hS.cell (i := 2) (v := .int .i64 fq) rfl; go_simp; first | done | rfl)); simp only [Act.put, List.setIfInBounds_toArray, List.set_cons_zero, List.set_cons_succ])
              all_goals clear ho8
              all_goals refine c3_one ?_
              all_goals first | (refine c3_op ho2 rfl (fun K hK => ?_); go_simp; (skip); all_goals ((with_reducible refine hK _ _ ?_); refine ⟨by repeat (first | with_reducible assumption | with_reducible refine Blk.drew ?_ | with_reducible refine Blk.alloc ?_ _ | with_reducible refine Blk.far ?_ (by omega) _), ?_⟩; clear hK K; go_simp))
              all_goals clear ho2
              all_goals (apply c3_st ho5 rfl; (intro w2 hS; first | (go_simp; first | done | rfl) | rfl | (have x0 := hS.cell (i := 0) (v := .int .i64 fp) rfl; have x1 := hS.cell (i := 1) (v := .int .i64 fk) rfl; have x2 := hS.cell (i := 2) (v := .int .i64 fq) rfl; go_simp; first | done | rfl)); simp only [Act.put, List.setIfInBounds_toArray, List.set_cons_zero, List.set_cons_succ])
              all_goals clear ho5
              all_goals refine c3_one ?_
              all_goals first | (refine c3_op ho6 rfl (fun K hK => ?_); go_simp; (skip); all_goals ((with_reducible refine hK _ _ ?_); refine ⟨by repeat (first | with_reducible assumption | with_reducible refine Blk.drew ?_ | with_reducible refine Blk.alloc ?_ _ | with_reducible refine Blk.far ?_ (by omega) _), ?_⟩; clear hK K; go_simp))
              all_goals clear ho6
              all_goals (apply c3_st ho9 rfl; (intro w2 hS; first | (go_simp; first | done | rfl) | rfl | (have x0 := hS.cell (i := 0) (v := .int .i64 fp) rfl; have x1 := hS.cell (i := 1) (v := .int .i64 fk) rfl; have x2 := hS.cell (i := 2) (v := .int .i64 fq) rfl; go_simp; first | done | rfl)); simp only [Act.put, List.setIfInBounds_toArray, List.set_cons_zero, List.set_cons_succ])
              all_goals clear ho9
              all_goals refine c3_done (NoPanic.normal ?_)
            rotate_right 1
            focus
              all_goals first | (refine c3_op ho2 rfl (fun K hK => ?_); go_simp; (skip); all_goals ((with_reducible refine hK _ _ ?_); refine ⟨by repeat (first | with_reducible assumption | with_reducible refine Blk.drew ?_ | with_reducible refine Blk.alloc ?_ _ | with_reducible refine Blk.far ?_ (by omega) _), ?_⟩; clear hK K; go_simp))
              all_goals clear ho2
              all_goals (apply c3_st ho5 rfl; (intro w2 hS; first | (go_simp; first | done | rfl) | rfl | (have x0 := hS.cell (i := 0) (v := .int .i64 fp) rfl; have x1 := hS.cell (i := 1) (v := .int .i64 fk) rfl; have x2 := hS.cell (i := 2) (v := .int .i64 fq) rfl; go_simp; first | done | rfl)); simp only [Act.put, List.setIfInBounds_toArray, List.set_cons_zero, List.set_cons_succ])
              all_goals clear ho5
              all_goals
                refine c3_two ?_ ?_
                rotate_right 1
                focus
                  all_goals first | (refine c3_op ho7 rfl (fun K hK => ?_); go_simp; (skip); all_goals ((with_reducible refine hK _ _ ?_); refine ⟨by repeat (first | with_reducible assumption | with_reducible refine Blk.drew ?_ | with_reducible refine Blk.alloc ?_ _ | with_reducible refine Blk.far ?_ (by omega) _), ?_⟩; clear hK K; go_simp))
                  all_goals clear ho7
                  all_goals (apply c3_st ho8 rfl; (intro w2 hS; first | (go_simp; first | done | rfl) | rfl | (have x0 := hS.cell (i := 0) (v := .int .i64 fp) rfl; have x1 := hS.cell (i := 1) (v := .int .i64 fk) rfl; have x2 := hS.cell (i := 2) (v := .int .i64 fq) rfl; go_simp; first | done | rfl)); simp only [Act.put, List.setIfInBounds_toArray, List.set_cons_zero, List.set_cons_succ])
                  all_goals clear ho8
                  all_goals refine c3_one ?_
                  all_goals first | (refine c3_op ho6 rfl (fun K hK => ?_); go_simp; (skip); all_goals ((with_reducible refine hK _ _ ?_); refine ⟨by repeat (first | with_reducible assumption | with_reducible refine Blk.drew ?_ | with_reducible refine Blk.alloc ?_ _ | with_reducible refine Blk.far ?_ (by omega) _), ?_⟩; clear hK K; go_simp))
                  all_goals clear ho6
                  all_goals (apply c3_st ho9 rfl; (intro w2 hS; first | (go_simp; first | done | rfl) | rfl | (have x0 := hS.cell (i := 0) (v := .int .i64 fp) rfl; have x1 := hS.cell (i := 1) (v := .int .i64 fk) rfl; have x2 := hS.cell (i := 2) (v := .int .i64 fq) rfl; go_simp; first | done | rfl)); simp only [Act.put, List.setIfInBounds_toArray, List.set_cons_zero, List.set_cons_succ])
                  all_goals clear ho9
                  all_goals refine c3_done (NoPanic.normal ?_)
                rotate_right 1
                focus
                  all_goals first | (refine c3_op ho6 rfl (fun K hK => ?_); go_simp; (skip); all_goals ((with_reducible refine hK _ _ ?_); refine ⟨by repeat (first | with_reducible assumption | with_reducible refine Blk.drew ?_ | with_reducible refine Blk.alloc ?_ _ | with_reducible refine Blk.far ?_ (by omega) _), ?_⟩; clear hK K; go_simp))
                  all_goals clear ho6
                  all_goals refine c3_one ?_
                  all_goals first | (refine c3_op ho7 rfl (fun K hK => ?_); go_simp; (skip); all_goals ((with_reducible refine hK _ _ ?_); refine ⟨by repeat (first | with_reducible assumption | with_reducible refine Blk.drew ?_ | with_reducible refine Blk.alloc ?_ _ | with_reducible refine Blk.far ?_ (by omega) _), ?_⟩; clear hK K; go_simp))
                  all_goals clear ho7
                  all_goals (apply c3_st ho8 rfl; (intro w2 hS; first | (go_simp; first | done | rfl) | rfl | (have x0 := hS.cell (i := 0) (v := .int .i64 fp) rfl; have x1 := hS.cell (i := 1) (v := .int .i64 fk) rfl; have x2 := hS.cell (i := 2) (v := .int .i64 fq) rfl; go_simp; first | done | rfl)); simp only [Act.put, List.setIfInBounds_toArray, List.set_cons_zero, List.set_cons_succ])
                  all_goals clear ho8
                  all_goals (apply c3_st ho9 rfl; (intro w2 hS; first | (go_simp; first | done | rfl) | rfl | (have x0 := hS.cell (i := 0) (v := .int .i64 fp) rfl; have x1 := hS.cell (i := 1) (v := .int .i64 fk) rfl; have x2 := hS.cell (i := 2) (v := .int .i64 fq) rfl; go_simp; first | done | rfl)); simp only [Act.put, List.setIfInBounds_toArray, List.set_cons_zero, List.set_cons_succ])
                  all_goals clear ho9
                  all_goals refine c3_done (NoPanic.normal ?_)
        rotate_right 1
        focus
          all_goals first | (refine c3_op ho2 rfl (fun K hK => ?_); go_simp; (skip); all_goals ((with_reducible refine hK _ _ ?_); refine ⟨by repeat (first | with_reducible assumption | with_reducible refine Blk.drew ?_ | with_reducible refine Blk.alloc ?_ _ | with_reducible refine Blk.far ?_ (by omega) _), ?_⟩; clear hK K; go_simp))
          all_goals clear ho2
          all_goals refine c3_one ?_
          all_goals first | (refine c3_op ho4 rfl (fun K hK => ?_); go_simp; ((go_at_call 49; (with_reducible refine (Next_c (g + 1) g 4 _ (hs6.ext (by repeat (first | exact Ext.refl _ | assumption | refine Ext.drew ?_ | refine Ext.drewN ?_ _ | refine Ext.iter ?_ _ _ | refine Ext.alloc ?_ _ | refine Ext.setCell ?_ (by first | exact Nat.le_refl _ | (simp <;> omega)) _ | refine Ext.trans2 (by assumption) ?_))) (by omega)).mono ?_); rintro e w7 ⟨zz, rfl, hz0, hz3, -, hs7, hb7⟩; replace hz3 := hz3 (by omega); obtain ⟨zn, rfl⟩ : ∃ zn : Nat, zz = zn := ⟨zz.toNat, by omega⟩; have hzn : (zn : Int) < 4 := hz3; obtain ⟨v, hv⟩ := capS zn (by omega); have hfl7 : Blk w7 f #[.int .i64 fp, .int .i64 fk, .int .i64 fq] 32 := Blk.but (Blk.ext hfl6 (by repeat (first | exact Ext.refl _ | assumption | refine Ext.drew ?_ | refine Ext.drewN ?_ _ | refine Ext.iter ?_ _ _ | refine Ext.alloc ?_ _ | refine Ext.setCell ?_ (by first | exact Nat.le_refl _ | (simp <;> omega)) _ | refine Ext.trans2 (by assumption) ?_))) hb7 hfg; have hbr7 : Blk w7 w.heap.size #[.int .i64 0, .int .i64 0, .int .i64 0] 32 := Blk.but (Blk.ext hbr6 (by repeat (first | exact Ext.refl _ | assumption | refine Ext.drew ?_ | refine Ext.drewN ?_ _ | refine Ext.iter ?_ _ _ | refine Ext.alloc ?_ _ | refine Ext.setCell ?_ (by first | exact Nat.le_refl _ | (simp <;> omega)) _ | refine Ext.trans2 (by assumption) ?_))) hb7 (by omega); have hE7 : Ext w w7 := Ext.but (Ext.trans hE6 (by repeat (first | exact Ext.refl _ | assumption | refine Ext.drew ?_ | refine Ext.drewN ?_ _ | refine Ext.iter ?_ _ _ | refine Ext.alloc ?_ _ | refine Ext.setCell ?_ (by first | exact Nat.le_refl _ | (simp <;> omega)) _ | refine Ext.trans2 (by assumption) ?_))) hb7 (by omega); have hl7 := hbr7.lt; have hr0 := hbr7.cell (i := 0) (v := .int .i64 0) rfl; have hr1 := hbr7.cell (i := 1) (v := .int .i64 0) rfl; have hr2 := hbr7.cell (i := 2) (v := .int .i64 0) rfl; have hrf := hbr7.free; have sC := (Blk.new w7 #[.int .i64 0, .int .i64 1, .int .i64 1500, .int .i64 1501] 2).cell hv; have sD := (Blk.new (((w7.setCell ⟨w.heap.size, 0, none⟩ (.int .i64 fp)).setCell ⟨w.heap.size, 1, none⟩ (.int .i64 fk)).setCell ⟨w.heap.size, 2, none⟩ (.int .i64 fq)) #[.int .i64 0, .int .i64 1, .int .i64 1500, .int .i64 1501] 2).cell hv; simp only [World.size_setCell] at sD; try (have sA := (Blk.but (Blk.drew (Blk.new w6 #[.int .i64 0, .int .i64 1, .int .i64 1500, .int .i64 1501] 2)) hb7 (by show w6.heap.size ≠ g; omega)).cell hv; have sB := (Blk.but (Blk.drew (Blk.new w6 #[.int .i64 0, .int .i64 1, .int .i64 1500, .int .i64 1501] 2)) hb7 (by show w6.heap.size ≠ g; omega)).lt))); all_goals ((with_reducible refine hK _ _ ?_); refine ⟨by repeat (first | with_reducible assumption | with_reducible refine Blk.drew ?_ | with_reducible refine Blk.alloc ?_ _ | with_reducible refine Blk.far ?_ (by omega) _), ?_⟩; clear hK K; go_simp))
          all_goals clear ho4
          all_goals (apply c3_st ho5 rfl; (intro w2 hS; first | (go_simp; first | done | rfl) | rfl | (have x0 := hS.cell (i := 0) (v := .int .i64 fp) rfl; have x1 := hS.cell (i := 1) (v := .int .i64 fk) rfl; have x2 := hS.cell (i := 2) (v := .int .i64 fq) rfl; go_simp; first | done | rfl)); simp only [Act.put, List.setIfInBounds_toArray, List.set_cons_zero, List.set_cons_succ])
          all_goals clear ho5
          all_goals
            refine c3_two ?_ ?_
            rotate_right 1
            focus
              all_goals first | (refine c3_op ho7 rfl (fun K hK => ?_); go_simp; (skip); all_goals ((with_reducible refine hK _ _ ?_); refine ⟨by repeat (first | with_reducible assumption | with_reducible refine Blk.drew ?_ | with_reducible refine Blk.alloc ?_ _ | with_reducible refine Blk.far ?_ (by omega) _), ?_⟩; clear hK K; go_simp))
              all_goals clear ho7
              all_goals (apply c3_st ho8 rfl; (intro w2 hS; first | (go_simp; first | done | rfl) | rfl | (have x0 := hS.cell (i := 0) (v := .int .i64 fp) rfl; have x1 := hS.cell (i := 1) (v := .int .i64 fk) rfl; have x2 := hS.cell (i := 2) (v := .int .i64 fq) rfl; go_simp; first | done | rfl)); simp only [Act.put, List.setIfInBounds_toArray, List.set_cons_zero, List.set_cons_succ])
              all_goals clear ho8
              all_goals refine c3_one ?_
              all_goals first | (refine c3_op ho6 rfl (fun K hK => ?_); go_simp; (skip); all_goals ((with_reducible refine hK _ _ ?_); refine ⟨by repeat (first | with_reducible assumption | with_reducible refine Blk.drew ?_ | with_reducible refine Blk.alloc ?_ _ | with_reducible refine Blk.far ?_ (by omega) _), ?_⟩; clear hK K; go_simp))
              all_goals clear ho6
              all_goals (apply c3_st ho9 rfl; (intro w2 hS; first | (go_simp; first | done | rfl) | rfl | (have x0 := hS.cell (i := 0) (v := .int .i64 fp) rfl; have x1 := hS.cell (i := 1) (v := .int .i64 fk) rfl; have x2 := hS.cell (i := 2) (v := .int .i64 fq) rfl; go_simp; first | done | rfl)); simp only [Act.put, List.setIfInBounds_toArray, List.set_cons_zero, List.set_cons_succ])
              all_goals clear ho9
              all_goals refine c3_done (NoPanic.normal ?_)
            rotate_right 1
            focus
              all_goals first | (refine c3_op ho6 rfl (fun K hK => ?_); go_simp; (skip); all_goals ((with_reducible refine hK _ _ ?_); refine ⟨by repeat (first | with_reducible assumption | with_reducible refine Blk.drew ?_ | with_reducible refine Blk.alloc ?_ _ | with_reducible refine Blk.far ?_ (by omega) _), ?_⟩; clear hK K; go_simp))
              all_goals clear ho6
              all_goals refine c3_one ?_
              all_goals first | (refine c3_op ho7 rfl (fun K hK => ?_); go_simp; (skip); all_goals ((with_reducible refine hK _ _ ?_); refine ⟨by repeat (first | with_reducible assumption | with_reducible refine Blk.drew ?_ | with_reducible refine Blk.alloc ?_ _ | with_reducible refine Blk.far ?_ (by omega) _), ?_⟩; clear hK K; go_simp))
              all_goals clear ho7
              all_goals (apply c3_st ho8 rfl; (intro w2 hS; first | (go_simp; first | done | rfl) | rfl | (have x0 := hS.cell (i := 0) (v := .int .i64 fp) rfl; have x1 := hS.cell (i := 1) (v := .int .i64 fk) rfl; have x2 := hS.cell (i := 2) (v := .int .i64 fq) rfl; go_simp; first | done | rfl)); simp only [Act.put, List.setIfInBounds_toArray, List.set_cons_zero, List.set_cons_succ])
              all_goals clear ho8
              all_goals (apply c3_st ho9 rfl; (intro w2 hS; first | (go_simp; first | done | rfl) | rfl | (have x0 := hS.cell (i := 0) (v := .int .i64 fp) rfl; have x1 := hS.cell (i := 1) (v := .int .i64 fk) rfl; have x2 := hS.cell (i := 2) (v := .int .i64 fq) rfl; go_simp; first | done | rfl)); simp only [Act.put, List.setIfInBounds_toArray, List.set_cons_zero, List.set_cons_succ])
              all_goals clear ho9
              all_goals refine c3_done (NoPanic.normal ?_)
      all_goals
        clear sC sD hr0 hr1 hr2 hrf hv
        go_wp2_with fail
        first
          | (have hF := (((hbr7).set 0 (.int .i64 fp)).set 1 (.int .i64 fk)).set 2 (.int .i64 fq); have c0 := hF.cell (i := 0) (v := .int .i64 fp) rfl; have c1 := hF.cell (i := 1) (v := .int .i64 fk) rfl; have c2 := hF.cell (i := 2) (v := .int .i64 fq) rfl; refine bodyPost_ret (v := .tuple #[vFld fp fk fq, .string t, .int .i64 v]) ?_ rfl ?_; simp [results, Tryd.results13, go_sem, c0, c1, c2, vFld]; exact ⟨fp, fk, fq, t, _, rfl, by omega, (by repeat (first | exact Ext.refl _ | assumption | refine Ext.drew ?_ | refine Ext.drewN ?_ _ | refine Ext.iter ?_ _ _ | refine Ext.alloc ?_ _ | refine Ext.setCell ?_ (by first | exact Nat.le_refl _ | (simp <;> omega)) _ | refine Ext.trans2 (by assumption) ?_))⟩)
          | (have hF := (((hbr7.alloc (.cells #[.int .i64 0, .int .i64 1, .int .i64 1500, .int .i64 1501] 2)).set 0 (.int .i64 fp)).set 1 (.int .i64 fk)).set 2 (.int .i64 fq); have c0 := hF.cell (i := 0) (v := .int .i64 fp) rfl; have c1 := hF.cell (i := 1) (v := .int .i64 fk) rfl; have c2 := hF.cell (i := 2) (v := .int .i64 fq) rfl; refine bodyPost_ret (v := .tuple #[vFld fp fk fq, .string t, .int .i64 v]) ?_ rfl ?_; simp [results, Tryd.results13, go_sem, c0, c1, c2, vFld]; exact ⟨fp, fk, fq, t, _, rfl, by omega, (by repeat (first | exact Ext.refl _ | assumption | refine Ext.drew ?_ | refine Ext.drewN ?_ _ | refine Ext.iter ?_ _ _ | refine Ext.alloc ?_ _ | refine Ext.setCell ?_ (by first | exact Nat.le_refl _ | (simp <;> omega)) _ | refine Ext.trans2 (by assumption) ?_))⟩)
          | (have hF := ((((hbr7).set 0 (.int .i64 fp)).set 1 (.int .i64 fk)).set 2 (.int .i64 fq)).alloc (.cells #[.int .i64 0, .int .i64 1, .int .i64 1500, .int .i64 1501] 2); have c0 := hF.cell (i := 0) (v := .int .i64 fp) rfl; have c1 := hF.cell (i := 1) (v := .int .i64 fk) rfl; have c2 := hF.cell (i := 2) (v := .int .i64 fq) rfl; refine bodyPost_ret (v := .tuple #[vFld fp fk fq, .string t, .int .i64 v]) ?_ rfl ?_; simp [results, Tryd.results13, go_sem, c0, c1, c2, vFld]; exact ⟨fp, fk, fq, t, _, rfl, by omega, (by repeat (first | exact Ext.refl _ | assumption | refine Ext.drew ?_ | refine Ext.drewN ?_ _ | refine Ext.iter ?_ _ _ | refine Ext.alloc ?_ _ | refine Ext.setCell ?_ (by first | exact Nat.le_refl _ | (simp <;> omega)) _ | refine Ext.trans2 (by assumption) ?_))⟩)
    · have h0b : (y == 0) = false := by simpa using h0
      go_wp2_with fail
      refine wp_region_c3 (fun w' => Blk w' f #[.int .i64 fp, .int .i64 fk, .int .i64 fq] 32) (.st 0 (.st 1 (.st 2 (.one 3 (.st 4 (.one 5 (.st 6 (.st 7 .done)))))))) (by kernel_rfl) (by kernel_rfl) (by decide) (by kernel_rfl) ?_ ?_
      · exact hfl6.drew
      refine c3_intro fun ops eo => ?_
      have ho0 := canon_at eo 0 rfl
      have ho1 := canon_at eo 1 rfl
      have ho2 := canon_at eo 2 rfl
      have ho3 := canon_at eo 3 rfl
      have ho4 := canon_at eo 4 rfl
      have ho5 := canon_at eo 5 rfl
      have ho6 := canon_at eo 6 rfl
      have ho7 := canon_at eo 7 rfl
      clear eo
      all_goals (apply c3_st ho0 rfl; (intro w2 hS; first | (go_simp; first | done | rfl) | rfl | (have x0 := hS.cell (i := 0) (v := .int .i64 fp) rfl; have x1 := hS.cell (i := 1) (v := .int .i64 fk) rfl; have x2 := hS.cell (i := 2) (v := .int .i64 fq) rfl; go_simp; first | done | rfl)); simp only [Act.put, List.setIfInBounds_toArray, List.set_cons_zero, List.set_cons_succ])
      all_goals clear ho0
      all_goals (apply c3_st ho1 rfl; (intro w2 hS; first | (go_simp; first | done | rfl) | rfl | (have x0 := hS.cell (i := 0) (v := .int .i64 fp) rfl; have x1 := hS.cell (i := 1) (v := .int .i64 fk) rfl; have x2 := hS.cell (i := 2) (v := .int .i64 fq) rfl; go_simp; first | done | rfl)); simp only [Act.put, List.setIfInBounds_toArray, List.set_cons_zero, List.set_cons_succ])
      all_goals clear ho1
      all_goals (apply c3_st ho2 rfl; (intro w2 hS; first | (go_simp; first | done | rfl) | rfl | (have x0 := hS.cell (i := 0) (v := .int .i64 fp) rfl; have x1 := hS.cell (i := 1) (v := .int .i64 fk) rfl; have x2 := hS.cell (i := 2) (v := .int .i64 fq) rfl; go_simp; first | done | rfl)); simp only [Act.put, List.setIfInBounds_toArray, List.set_cons_zero, List.set_cons_succ])
      all_goals clear ho2
      all_goals refine c3_one ?_
      all_goals first | (refine c3_op ho3 rfl (fun K hK => ?_); go_simp; ((go_at_call 49; (with_reducible refine (Next_c (g + 1) g 30 _ (hs6.ext (by repeat (first | exact Ext.refl _ | assumption | refine Ext.drew ?_ | refine Ext.drewN ?_ _ | refine Ext.iter ?_ _ _ | refine Ext.alloc ?_ _ | refine Ext.setCell ?_ (by first | exact Nat.le_refl _ | (simp <;> omega)) _ | refine Ext.trans2 (by assumption) ?_))) (by omega)).mono ?_); rintro e w7 ⟨zz, rfl, hz0, hz3, -, hs7, hb7⟩; replace hz3 := hz3 (by omega); have hfl7 : Blk w7 f #[.int .i64 fp, .int .i64 fk, .int .i64 fq] 32 := Blk.but (Blk.ext hfl6 (by repeat (first | exact Ext.refl _ | assumption | refine Ext.drew ?_ | refine Ext.drewN ?_ _ | refine Ext.iter ?_ _ _ | refine Ext.alloc ?_ _ | refine Ext.setCell ?_ (by first | exact Nat.le_refl _ | (simp <;> omega)) _ | refine Ext.trans2 (by assumption) ?_))) hb7 hfg; have hbr7 : Blk w7 w.heap.size #[.int .i64 0, .int .i64 0, .int .i64 0] 32 := Blk.but (Blk.ext hbr6 (by repeat (first | exact Ext.refl _ | assumption | refine Ext.drew ?_ | refine Ext.drewN ?_ _ | refine Ext.iter ?_ _ _ | refine Ext.alloc ?_ _ | refine Ext.setCell ?_ (by first | exact Nat.le_refl _ | (simp <;> omega)) _ | refine Ext.trans2 (by assumption) ?_))) hb7 (by omega); have hE7 : Ext w w7 := Ext.but (Ext.trans hE6 (by repeat (first | exact Ext.refl _ | assumption | refine Ext.drew ?_ | refine Ext.drewN ?_ _ | refine Ext.iter ?_ _ _ | refine Ext.alloc ?_ _ | refine Ext.setCell ?_ (by first | exact Nat.le_refl _ | (simp <;> omega)) _ | refine Ext.trans2 (by assumption) ?_))) hb7 (by omega); have hl7 := hbr7.lt; have hr0 := hbr7.cell (i := 0) (v := .int .i64 0) rfl; have hr1 := hbr7.cell (i := 1) (v := .int .i64 0) rfl; have hr2 := hbr7.cell (i := 2) (v := .int .i64 0) rfl; have hrf := hbr7.free; have e1 := IntWalk.i64_in (4 + zz) (by omega))); all_goals ((with_reducible refine hK _ _ ?_); refine ⟨by repeat (first | with_reducible assumption | with_reducible refine Blk.drew ?_ | with_reducible refine Blk.alloc ?_ _ | with_reducible refine Blk.far ?_ (by omega) _), ?_⟩; clear hK K; go_simp))
      all_goals clear ho3
      all_goals (apply c3_st ho4 rfl; (intro w2 hS; first | (go_simp; first | done | rfl) | rfl | (have x0 := hS.cell (i := 0) (v := .int .i64 fp) rfl; have x1 := hS.cell (i := 1) (v := .int .i64 fk) rfl; have x2 := hS.cell (i := 2) (v := .int .i64 fq) rfl; go_simp; first | done | rfl)); simp only [Act.put, List.setIfInBounds_toArray, List.set_cons_zero, List.set_cons_succ])
      all_goals clear ho4
      all_goals refine c3_one ?_
      all_goals first | (refine c3_op ho5 rfl (fun K hK => ?_); go_simp; (skip); all_goals ((with_reducible refine hK _ _ ?_); refine ⟨by repeat (first | with_reducible assumption | with_reducible refine Blk.drew ?_ | with_reducible refine Blk.alloc ?_ _ | with_reducible refine Blk.far ?_ (by omega) _), ?_⟩; clear hK K; go_simp))
      all_goals clear ho5
      all_goals (apply c3_st ho6 rfl; (intro w2 hS; first | (go_simp; first | done | rfl) | rfl | (have x0 := hS.cell (i := 0) (v := .int .i64 fp) rfl; have x1 := hS.cell (i := 1) (v := .int .i64 fk) rfl; have x2 := hS.cell (i := 2) (v := .int .i64 fq) rfl; go_simp; first | done | rfl)); simp only [Act.put, List.setIfInBounds_toArray, List.set_cons_zero, List.set_cons_succ])
      all_goals clear ho6
      all_goals (apply c3_st ho7 rfl; (intro w2 hS; first | (go_simp; first | done | rfl) | rfl | (have x0 := hS.cell (i := 0) (v := .int .i64 fp) rfl; have x1 := hS.cell (i := 1) (v := .int .i64 fk) rfl; have x2 := hS.cell (i := 2) (v := .int .i64 fq) rfl; go_simp; first | done | rfl)); simp only [Act.put, List.setIfInBounds_toArray, List.set_cons_zero, List.set_cons_succ])
      all_goals clear ho7
      all_goals refine c3_done (NoPanic.normal ?_)
      clear hr0 hr1 hr2 hrf e1
      go_wp2_with fail
      (have hF := (((hbr7).set 0 (.int .i64 fp)).set 1 (.int .i64 fk)).set 2 (.int .i64 fq); have c0 := hF.cell (i := 0) (v := .int .i64 fp) rfl; have c1 := hF.cell (i := 1) (v := .int .i64 fk) rfl; have c2 := hF.cell (i := 2) (v := .int .i64 fq) rfl; refine bodyPost_ret (v := .tuple #[vFld fp fk fq, .string t, .int .i64 (4 + zz)]) ?_ rfl ?_; simp [results, Tryd.results13, go_sem, c0, c1, c2, vFld]; exact ⟨fp, fk, fq, t, _, rfl, by omega, (by repeat (first | exact Ext.refl _ | assumption | refine Ext.drew ?_ | refine Ext.drewN ?_ _ | refine Ext.iter ?_ _ _ | refine Ext.alloc ?_ _ | refine Ext.setCell ?_ (by first | exact Nat.le_refl _ | (simp <;> omega)) _ | refine Ext.trans2 (by assumption) ?_))⟩)
end Go.Proofs.YthpnkcamjcohgaaDoor
