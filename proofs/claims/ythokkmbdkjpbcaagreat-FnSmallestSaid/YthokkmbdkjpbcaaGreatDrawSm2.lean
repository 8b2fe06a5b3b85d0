
/- Drawn levels and inputs of SmallestSize. -/
import Derived.Test.YthokkmbdkjpbcaaGreatDrawSm
namespace Go.Proofs.YthokkmbdkjpbcaaGreat
set_option linter.unusedVariables false
set_option linter.unusedSimpArgs false
open Go.RowKit

/-- A level has been drawn; only the source has turned. -/
def LvR (n0 g : Nat) (w : World) (e : Ending) (w' : World) : Prop := ∃ v : Int, e = .returned (.int .i64 v) ∧ Src n0 w' g ∧ But g w w'
theorem pairB (a b : Int) (j : Nat) (hj : j < 2) : ∃ v : Int, (#[.int .i64 a, .int .i64 b] : Array Value)[j]? = some (.int .i64 v) := by
  match j, hj with
  | 0, _ => exact ⟨_, rfl⟩
  | 1, _ => exact ⟨_, rfl⟩
set_option maxHeartbeats 1600000 in
set_option maxRecDepth 100000 in
theorem l13DrawLevel_c (n0 g : Nat) (nm : ByteArray) (kd p k q co : Int) (ps pl : Option Addr) (ns cs nl cl : Nat) (w : World) (h : Src n0 w g) (hn0 : n0 ≤ w.heap.size) (hnl : nl ≤ 100) :
    Calls Tryz.prog 12 #[.pointer (some ⟨g, 0, none⟩), vFam nm kd p k q ps ns cs co pl nl cl] w fun e w' => LvR n0 g w e w' := by
  have hg : g < n0 := h.1
  have HS := Lib.hid h; clear h
  have hb := Blk.new w #[.string nm, .int .i64 kd, .int .i64 p, .int .i64 k, .int .i64 q, .slice ps ns cs, .int .i64 co, .slice pl nl cl] 28
  have hr0 : But g w (w.alloc (.cells #[.string nm, .int .i64 kd, .int .i64 p, .int .i64 k, .int .i64 q, .slice ps ns cs, .int .i64 co, .slice pl nl cl] 28)) := But.of ((Ext.refl w).alloc _)
  have hs0 := HS.out.ext ((Ext.refl w).alloc (.cells #[.string nm, .int .i64 kd, .int .i64 p, .int .i64 k, .int .i64 q, .slice ps ns cs, .int .i64 co, .slice pl nl cl] 28))
  go_enter Tryz.func12, Tryz.ntmps12
  go_wp2_with fail
  generalize hw0 : w.alloc (.cells #[.string nm, .int .i64 kd, .int .i64 p, .int .i64 k, .int .i64 q, .slice ps ns cs, .int .i64 co, .slice pl nl cl] 28) = w0 at *
  have hz0 := hb.lt
  clear hw0
  refine (Next_c n0 g 20 _ hs0 (by omega)).mono ?_
  rintro e w3 ⟨y, rfl, hy0, hy1, -, hs3, hb3⟩
  have hbx3 := hb.but hb3 (by omega)
  have hr3 := Lib.hid (hr0.trans hb3)
  replace hs3 := Lib.hid hs3
  have hz3 := hb3.size
  clear hb hr0 hs0 hb3
  have x0 := hbx3.cell (i := 0) (v := .string nm) rfl; have x1 := hbx3.cell (i := 1) (v := .int .i64 kd) rfl; have x2 := hbx3.cell (i := 2) (v := .int .i64 p) rfl; have x3 := hbx3.cell (i := 3) (v := .int .i64 k) rfl; have x4 := hbx3.cell (i := 4) (v := .int .i64 q) rfl; have x5 := hbx3.cell (i := 5) (v := .slice ps ns cs) rfl; have x6 := hbx3.cell (i := 6) (v := .int .i64 co) rfl; have x7 := hbx3.cell (i := 7) (v := .slice pl nl cl) rfl; have xL := hbx3.lt; have xF := hbx3.free
  by_cases hy : y = 0
  · subst hy
    go_wp2_with fail
    refine wp_region_c3 (fun w' => True) (.st 0 (.st 4 (.two 1 (.st 2 (.two 3 (.one 5 (.st 6 (.one 7 (.st 8 .done)))) 5 (.one 3 (.st 6 (.one 7 (.st 8 .done)))))) 5 (.one 1 (.st 2 (.one 3 (.st 6 (.one 7 (.st 8 .done))))))))) (by kernel_rfl) (by kernel_rfl) (by decide) (by kernel_rfl) ?_ ?_
    · exact trivial
    refine c3_intro fun ops eo => ?_
    have ho0 := canon_at eo 0 rfl
    have ho1 := canon_at eo 1 rfl
    have ho2 := canon_at eo 2 rfl
    have ho3 := canon_at eo 3 rfl
    have ho4 := canon_at eo 4 rfl
    have ho5 := canon_at eo 5 rfl
    have ho6 := canon_at eo 6 rfl
    have ho7 := canon_at eo 7 rfl
    have ho8 := canon_at eo 8 rfl
    clear eo
    all_goals (apply c3_st ho0 rfl; (intro w2 hS; first | (go_simp; first | done | rfl) | rfl | (skip; go_simp; first | done | rfl)); simp only [Act.put, List.setIfInBounds_toArray, List.set_cons_zero, List.set_cons_succ])
    all_goals clear ho0
    all_goals (apply c3_st ho4 rfl; (intro w2 hS; first | (go_simp; first | done | rfl) | rfl | (skip; go_simp; first | done | rfl)); simp only [Act.put, List.setIfInBounds_toArray, List.set_cons_zero, List.set_cons_succ])
    all_goals clear ho4
    all_goals
      refine c3_two ?_ ?_
      rotate_right 1
      focus
        all_goals first | (refine c3_op ho5 rfl (fun K hK => ?_); go_simp; ((go_at_call 28; (with_reducible refine (Next_c n0 g 2 _ (hs3.out.ext (by repeat (first | exact Ext.refl _ | assumption | refine Ext.drew ?_ | refine Ext.drewN ?_ _ | refine Ext.iter ?_ _ _ | refine Ext.alloc ?_ _ | refine Ext.setCell ?_ (by first | exact Nat.le_refl _ | (simp <;> omega)) _ | refine Ext.trans2 (by assumption) ?_))) (by omega)).mono ?_); rintro e w4 ⟨zz, rfl, hz0, hz9, -, hs4, hb4⟩; replace hz9 := hz9 (by omega); obtain ⟨j, rfl⟩ : ∃ j : Nat, zz = j := ⟨zz.toNat, by omega⟩; have hj9 : (j : Int) < 2 := hz9; obtain ⟨v, hv⟩ := pairB (-1) nl j (by omega); have hbx4 : Blk w4 w.heap.size #[.string nm, .int .i64 kd, .int .i64 p, .int .i64 k, .int .i64 q, .slice ps ns cs, .int .i64 co, .slice pl nl cl] 28 := Blk.but (Blk.ext hbx3 (by repeat (first | exact Ext.refl _ | assumption | refine Ext.drew ?_ | refine Ext.drewN ?_ _ | refine Ext.iter ?_ _ _ | refine Ext.alloc ?_ _ | refine Ext.setCell ?_ (by first | exact Nat.le_refl _ | (simp <;> omega)) _ | refine Ext.trans2 (by assumption) ?_))) hb4 (by omega); have hr4 : But g w w4 := But.trans (But.trans hr3.out (But.of (by repeat (first | exact Ext.refl _ | assumption | refine Ext.drew ?_ | refine Ext.drewN ?_ _ | refine Ext.iter ?_ _ _ | refine Ext.alloc ?_ _ | refine Ext.setCell ?_ (by first | exact Nat.le_refl _ | (simp <;> omega)) _ | refine Ext.trans2 (by assumption) ?_)))) hb4; clear x0 x1 x2 x3 x4 x5 x6 x7 xL xF; have x0 := hbx4.cell (i := 0) (v := .string nm) rfl; have x1 := hbx4.cell (i := 1) (v := .int .i64 kd) rfl; have x2 := hbx4.cell (i := 2) (v := .int .i64 p) rfl; have x3 := hbx4.cell (i := 3) (v := .int .i64 k) rfl; have x4 := hbx4.cell (i := 4) (v := .int .i64 q) rfl; have x5 := hbx4.cell (i := 5) (v := .slice ps ns cs) rfl; have x6 := hbx4.cell (i := 6) (v := .int .i64 co) rfl; have x7 := hbx4.cell (i := 7) (v := .slice pl nl cl) rfl; have xL := hbx4.lt; have xF := hbx4.free; have hv4 := hb4.size; simp only [World.size_alloc, World.size_drew] at hv4; have sC := (Blk.new w4 #[.int .i64 (-1), .int .i64 nl] 2).cell hv; try (have sA := (Blk.but (Blk.drew (Blk.new w3 #[.int .i64 (-1), .int .i64 nl] 2)) hb4 (by show w3.heap.size ≠ g; omega)).cell hv; have sB := (Blk.but (Blk.drew (Blk.new w3 #[.int .i64 (-1), .int .i64 nl] 2)) hb4 (by show w3.heap.size ≠ g; omega)).lt))); all_goals ((with_reducible refine hK _ _ ?_); refine ⟨trivial, ?_⟩; clear hK K; go_simp))
        all_goals clear ho5
        all_goals refine c3_one ?_
        all_goals first | (refine c3_op ho1 rfl (fun K hK => ?_); go_simp; (skip); all_goals ((with_reducible refine hK _ _ ?_); refine ⟨trivial, ?_⟩; clear hK K; go_simp))
        all_goals clear ho1
        all_goals (apply c3_st ho2 rfl; (intro w2 hS; first | (go_simp; first | done | rfl) | rfl | (skip; go_simp; first | done | rfl)); simp only [Act.put, List.setIfInBounds_toArray, List.set_cons_zero, List.set_cons_succ])
        all_goals clear ho2
        all_goals refine c3_one ?_
        all_goals first | (refine c3_op ho3 rfl (fun K hK => ?_); go_simp; (skip); all_goals ((with_reducible refine hK _ _ ?_); refine ⟨trivial, ?_⟩; clear hK K; go_simp))
        all_goals clear ho3
        all_goals (apply c3_st ho6 rfl; (intro w2 hS; first | (go_simp; first | done | rfl) | rfl | (skip; go_simp; first | done | rfl)); simp only [Act.put, List.setIfInBounds_toArray, List.set_cons_zero, List.set_cons_succ])
        all_goals clear ho6
        all_goals refine c3_one ?_
        all_goals first | (refine c3_op ho7 rfl (fun K hK => ?_); go_simp; (skip); all_goals ((with_reducible refine hK _ _ ?_); refine ⟨trivial, ?_⟩; clear hK K; go_simp))
        all_goals clear ho7
        all_goals (apply c3_st ho8 rfl; (intro w2 hS; first | (go_simp; first | done | rfl) | rfl | (skip; go_simp; first | done | rfl)); simp only [Act.put, List.setIfInBounds_toArray, List.set_cons_zero, List.set_cons_succ])
        all_goals clear ho8
        all_goals refine c3_done (NoPanic.normal ?_)
      rotate_right 1
      focus
        all_goals first | (refine c3_op ho1 rfl (fun K hK => ?_); go_simp; (skip); all_goals ((with_reducible refine hK _ _ ?_); refine ⟨trivial, ?_⟩; clear hK K; go_simp))
        all_goals clear ho1
        all_goals (apply c3_st ho2 rfl; (intro w2 hS; first | (go_simp; first | done | rfl) | rfl | (skip; go_simp; first | done | rfl)); simp only [Act.put, List.setIfInBounds_toArray, List.set_cons_zero, List.set_cons_succ])
        all_goals clear ho2
        all_goals
          refine c3_two ?_ ?_
          rotate_right 1
          focus
            all_goals first | (refine c3_op ho5 rfl (fun K hK => ?_); go_simp; ((go_at_call 28; (with_reducible refine (Next_c n0 g 2 _ (hs3.out.ext (by repeat (first | exact Ext.refl _ | assumption | refine Ext.drew ?_ | refine Ext.drewN ?_ _ | refine Ext.iter ?_ _ _ | refine Ext.alloc ?_ _ | refine Ext.setCell ?_ (by first | exact Nat.le_refl _ | (simp <;> omega)) _ | refine Ext.trans2 (by assumption) ?_))) (by omega)).mono ?_); rintro e w4 ⟨zz, rfl, hz0, hz9, -, hs4, hb4⟩; replace hz9 := hz9 (by omega); obtain ⟨j, rfl⟩ : ∃ j : Nat, zz = j := ⟨zz.toNat, by omega⟩; have hj9 : (j : Int) < 2 := hz9; obtain ⟨v, hv⟩ := pairB (-1) nl j (by omega); have hbx4 : Blk w4 w.heap.size #[.string nm, .int .i64 kd, .int .i64 p, .int .i64 k, .int .i64 q, .slice ps ns cs, .int .i64 co, .slice pl nl cl] 28 := Blk.but (Blk.ext hbx3 (by repeat (first | exact Ext.refl _ | assumption | refine Ext.drew ?_ | refine Ext.drewN ?_ _ | refine Ext.iter ?_ _ _ | refine Ext.alloc ?_ _ | refine Ext.setCell ?_ (by first | exact Nat.le_refl _ | (simp <;> omega)) _ | refine Ext.trans2 (by assumption) ?_))) hb4 (by omega); have hr4 : But g w w4 := But.trans (But.trans hr3.out (But.of (by repeat (first | exact Ext.refl _ | assumption | refine Ext.drew ?_ | refine Ext.drewN ?_ _ | refine Ext.iter ?_ _ _ | refine Ext.alloc ?_ _ | refine Ext.setCell ?_ (by first | exact Nat.le_refl _ | (simp <;> omega)) _ | refine Ext.trans2 (by assumption) ?_)))) hb4; clear x0 x1 x2 x3 x4 x5 x6 x7 xL xF; have x0 := hbx4.cell (i := 0) (v := .string nm) rfl; have x1 := hbx4.cell (i := 1) (v := .int .i64 kd) rfl; have x2 := hbx4.cell (i := 2) (v := .int .i64 p) rfl; have x3 := hbx4.cell (i := 3) (v := .int .i64 k) rfl; have x4 := hbx4.cell (i := 4) (v := .int .i64 q) rfl; have x5 := hbx4.cell (i := 5) (v := .slice ps ns cs) rfl; have x6 := hbx4.cell (i := 6) (v := .int .i64 co) rfl; have x7 := hbx4.cell (i := 7) (v := .slice pl nl cl) rfl; have xL := hbx4.lt; have xF := hbx4.free; have hv4 := hb4.size; simp only [World.size_alloc, World.size_drew] at hv4; have sC := (Blk.new w4 #[.int .i64 (-1), .int .i64 nl] 2).cell hv; try (have sA := (Blk.but (Blk.drew (Blk.new w3 #[.int .i64 (-1), .int .i64 nl] 2)) hb4 (by show w3.heap.size ≠ g; omega)).cell hv; have sB := (Blk.but (Blk.drew (Blk.new w3 #[.int .i64 (-1), .int .i64 nl] 2)) hb4 (by show w3.heap.size ≠ g; omega)).lt))); all_goals ((with_reducible refine hK _ _ ?_); refine ⟨trivial, ?_⟩; clear hK K; go_simp))
            all_goals clear ho5
            all_goals refine c3_one ?_
            all_goals first | (refine c3_op ho3 rfl (fun K hK => ?_); go_simp; (skip); all_goals ((with_reducible refine hK _ _ ?_); refine ⟨trivial, ?_⟩; clear hK K; go_simp))
            all_goals clear ho3
            all_goals (apply c3_st ho6 rfl; (intro w2 hS; first | (go_simp; first | done | rfl) | rfl | (skip; go_simp; first | done | rfl)); simp only [Act.put, List.setIfInBounds_toArray, List.set_cons_zero, List.set_cons_succ])
            all_goals clear ho6
            all_goals refine c3_one ?_
            all_goals first | (refine c3_op ho7 rfl (fun K hK => ?_); go_simp; (skip); all_goals ((with_reducible refine hK _ _ ?_); refine ⟨trivial, ?_⟩; clear hK K; go_simp))
            all_goals clear ho7
            all_goals (apply c3_st ho8 rfl; (intro w2 hS; first | (go_simp; first | done | rfl) | rfl | (skip; go_simp; first | done | rfl)); simp only [Act.put, List.setIfInBounds_toArray, List.set_cons_zero, List.set_cons_succ])
            all_goals clear ho8
            all_goals refine c3_done (NoPanic.normal ?_)
          rotate_right 1
          focus
            all_goals first | (refine c3_op ho3 rfl (fun K hK => ?_); go_simp; (skip); all_goals ((with_reducible refine hK _ _ ?_); refine ⟨trivial, ?_⟩; clear hK K; go_simp))
            all_goals clear ho3
            all_goals refine c3_one ?_
            all_goals first | (refine c3_op ho5 rfl (fun K hK => ?_); go_simp; ((go_at_call 28; (with_reducible refine (Next_c n0 g 2 _ (hs3.out.ext (by repeat (first | exact Ext.refl _ | assumption | refine Ext.drew ?_ | refine Ext.drewN ?_ _ | refine Ext.iter ?_ _ _ | refine Ext.alloc ?_ _ | refine Ext.setCell ?_ (by first | exact Nat.le_refl _ | (simp <;> omega)) _ | refine Ext.trans2 (by assumption) ?_))) (by omega)).mono ?_); rintro e w4 ⟨zz, rfl, hz0, hz9, -, hs4, hb4⟩; replace hz9 := hz9 (by omega); obtain ⟨j, rfl⟩ : ∃ j : Nat, zz = j := ⟨zz.toNat, by omega⟩; have hj9 : (j : Int) < 2 := hz9; obtain ⟨v, hv⟩ := pairB (-1) nl j (by omega); have hbx4 : Blk w4 w.heap.size #[.string nm, .int .i64 kd, .int .i64 p, .int .i64 k, .int .i64 q, .slice ps ns cs, .int .i64 co, .slice pl nl cl] 28 := Blk.but (Blk.ext hbx3 (by repeat (first | exact Ext.refl _ | assumption | refine Ext.drew ?_ | refine Ext.drewN ?_ _ | refine Ext.iter ?_ _ _ | refine Ext.alloc ?_ _ | refine Ext.setCell ?_ (by first | exact Nat.le_refl _ | (simp <;> omega)) _ | refine Ext.trans2 (by assumption) ?_))) hb4 (by omega); have hr4 : But g w w4 := But.trans (But.trans hr3.out (But.of (by repeat (first | exact Ext.refl _ | assumption | refine Ext.drew ?_ | refine Ext.drewN ?_ _ | refine Ext.iter ?_ _ _ | refine Ext.alloc ?_ _ | refine Ext.setCell ?_ (by first | exact Nat.le_refl _ | (simp <;> omega)) _ | refine Ext.trans2 (by assumption) ?_)))) hb4; clear x0 x1 x2 x3 x4 x5 x6 x7 xL xF; have x0 := hbx4.cell (i := 0) (v := .string nm) rfl; have x1 := hbx4.cell (i := 1) (v := .int .i64 kd) rfl; have x2 := hbx4.cell (i := 2) (v := .int .i64 p) rfl; have x3 := hbx4.cell (i := 3) (v := .int .i64 k) rfl; have x4 := hbx4.cell (i := 4) (v := .int .i64 q) rfl; have x5 := hbx4.cell (i := 5) (v := .slice ps ns cs) rfl; have x6 := hbx4.cell (i := 6) (v := .int .i64 co) rfl; have x7 := hbx4.cell (i := 7) (v := .slice pl nl cl) rfl; have xL := hbx4.lt; have xF := hbx4.free; have hv4 := hb4.size; simp only [World.size_alloc, World.size_drew] at hv4; have sC := (Blk.new w4 #[.int .i64 (-1), .int .i64 nl] 2).cell hv; try (have sA := (Blk.but (Blk.drew (Blk.new w3 #[.int .i64 (-1), .int .i64 nl] 2)) hb4 (by show w3.heap.size ≠ g; omega)).cell hv; have sB := (Blk.but (Blk.drew (Blk.new w3 #[.int .i64 (-1), .int .i64 nl] 2)) hb4 (by show w3.heap.size ≠ g; omega)).lt))); all_goals ((with_reducible refine hK _ _ ?_); refine ⟨trivial, ?_⟩; clear hK K; go_simp))
            all_goals clear ho5
            all_goals (apply c3_st ho6 rfl; (intro w2 hS; first | (go_simp; first | done | rfl) | rfl | (skip; go_simp; first | done | rfl)); simp only [Act.put, List.setIfInBounds_toArray, List.set_cons_zero, List.set_cons_succ])
            all_goals clear ho6
            all_goals refine c3_one ?_
            all_goals first | (refine c3_op ho7 rfl (fun K hK => ?_); go_simp; (skip); all_goals ((with_reducible refine hK _ _ ?_); refine ⟨trivial, ?_⟩; clear hK K; go_simp))
            all_goals clear ho7
            all_goals (apply c3_st ho8 rfl; (intro w2 hS; first | (go_simp; first | done | rfl) | rfl | (skip; go_simp; first | done | rfl)); simp only [Act.put, List.setIfInBounds_toArray, List.set_cons_zero, List.set_cons_succ])
            all_goals clear ho8
            all_goals refine c3_done (NoPanic.normal ?_)
    all_goals clear hv
    all_goals
      go_wp2_with fail
      go_ret
      first
        | exact ⟨v, rfl, hs4, hr4⟩
        | exact ⟨v, rfl, hs4.ext ((Ext.refl _).alloc _), hr4.trans (But.of ((Ext.refl _).alloc _))⟩
  · have hd : (y == 0) = false := by simpa using hy
    go_wp2_with fail
    refine (Next_c n0 g nl _ hs3.out (by omega)).mono ?_
    rintro e w4 ⟨zz, rfl, -, -, -, hs4, hb4⟩
    go_wp2_with fail
    go_ret
    exact ⟨zz, rfl, hs4, hr3.out.trans hb4⟩
/-- An input of SmallestSize has been drawn. -/
def InR (w : World) (e : Ending) (w' : World) : Prop := ∃ (f : FamV) (v : Int) (t : ByteArray), e = .returned (.tuple #[f.val, .int .i64 v, .string t]) ∧ t.size ≤ 500 ∧ f.ok w.heap.size w' ∧ Ext w w'
set_option maxHeartbeats 1600000 in
set_option maxRecDepth 100000 in
theorem DrawSmallestSize_c (pp : Option Addr) (c : Nat) (code : List Int) (w : World) (hx : U8At w pp code) (hl : code.length ≤ 4096) :
    Calls Tryz.prog 5 #[.slice pp code.length c] w fun e w' => InR w e w' := by
  have hb := Blk.new w fam0 28
  have hx0 := (Ext.refl w).alloc (.cells fam0 28)
  have hu := Lib.hid (hx.ext hx0); clear hx
  go_enter Tryz.func5, Tryz.ntmps5
  go_wp2_with (go_at_call 10; (with_reducible refine (From_c pp c code _ hu.out hl).mono ?_); rintro e w1 ⟨⟨g, rfl, rfl, hs1⟩, hx1⟩)
  have hb1 := hb.ext hx1
  have hE1 := hx0.trans hx1
  have hlt := hs1.lt
  simp only [World.size_alloc] at hs1 hlt
  clear hb hx0 hx1 hu
  generalize hge : w.heap.size + 1 = g at *
  refine (l13DrawAny_c (g + 1) g _ hs1 (by omega)).mono ?_
  rintro e w2 ⟨⟨nm, kd, p, k, q, ps, cs, ss, co, pl, cl, ls⟩, rfl, ⟨hnm, hsl, hll, k5, k6⟩, hs2, hb2⟩
  simp only at hnm hsl hll k5 k6
  simp only [FamV.val]
  have hz2 := hb2.size
  have hbr3 := (hb1.but hb2 (by omega)).alloc (.cells #[.string nm, .int .i64 kd, .int .i64 p, .int .i64 k, .int .i64 q, .slice ps ss.length cs, .int .i64 co, .slice pl ls.length cl] 28)
  have hbx3 := Blk.new w2 #[.string nm, .int .i64 kd, .int .i64 p, .int .i64 k, .int .i64 q, .slice ps ss.length cs, .int .i64 co, .slice pl ls.length cl] 28
  have hr3 : Ext w (w2.alloc (.cells #[.string nm, .int .i64 kd, .int .i64 p, .int .i64 k, .int .i64 q, .slice ps ss.length cs, .int .i64 co, .slice pl ls.length cl] 28)) := (hE1.but hb2 (by omega)).alloc (.cells #[.string nm, .int .i64 kd, .int .i64 p, .int .i64 k, .int .i64 q, .slice ps ss.length cs, .int .i64 co, .slice pl ls.length cl] 28)
  have hs3 := hs2.ext ((Ext.refl _).alloc (.cells #[.string nm, .int .i64 kd, .int .i64 p, .int .i64 k, .int .i64 q, .slice ps ss.length cs, .int .i64 co, .slice pl ls.length cl] 28))
  have o5 := k5.ext ((Ext.refl _).alloc (.cells #[.string nm, .int .i64 kd, .int .i64 p, .int .i64 k, .int .i64 q, .slice ps ss.length cs, .int .i64 co, .slice pl ls.length cl] 28))
  have o6 := k6.ext ((Ext.refl _).alloc (.cells #[.string nm, .int .i64 kd, .int .i64 p, .int .i64 k, .int .i64 q, .slice ps ss.length cs, .int .i64 co, .slice pl ls.length cl] 28))
  clear hs1 hb1 hb2 hE1 k5 k6 hs2
  have hxz : w2.heap.size < (w2.alloc (.cells #[.string nm, .int .i64 kd, .int .i64 p, .int .i64 k, .int .i64 q, .slice ps ss.length cs, .int .i64 co, .slice pl ls.length cl] 28)).heap.size := by simp
  have x0 := hbx3.cell (i := 0) (v := .string nm) rfl; have x1 := hbx3.cell (i := 1) (v := .int .i64 kd) rfl; have x2 := hbx3.cell (i := 2) (v := .int .i64 p) rfl; have x3 := hbx3.cell (i := 3) (v := .int .i64 k) rfl; have x4 := hbx3.cell (i := 4) (v := .int .i64 q) rfl; have x5 := hbx3.cell (i := 5) (v := .slice ps ss.length cs) rfl; have x6 := hbx3.cell (i := 6) (v := .int .i64 co) rfl; have x7 := hbx3.cell (i := 7) (v := .slice pl ls.length cl) rfl; have xL := hbx3.lt; have xF := hbx3.free
  go_wp2_with fail
  generalize w2.alloc (.cells #[.string nm, .int .i64 kd, .int .i64 p, .int .i64 k, .int .i64 q, .slice ps ss.length cs, .int .i64 co, .slice pl ls.length cl] 28) = w3 at *
  generalize w2.heap.size = x at *
  refine (l13DrawLevel_c (g + 1) g nm kd p k q co ps pl ss.length cs ls.length cl _ hs3 (by omega) hll).mono ?_
  rintro e w4 ⟨v, rfl, hs4, hb4⟩
  have hz4 := hb4.size
  have hbr4 := hbr3.but hb4 (by omega)
  have hbx4 := hbx3.but hb4 (by omega)
  have hr4 : Ext w w4 := hr3.but hb4 (by omega)
  have p5 := Lib.hid (o5.but2 hb4 (by omega))
  have p6 := Lib.hid (o6.but2 hb4 (by omega))
  replace hs4 := Lib.hid hs4
  replace hr4 := Lib.hid hr4
  clear hb4 hbr3 hbx3 hr3 o5 o6 hs3 x0 x1 x2 x3 x4 x5 x6 x7 xL xF
  have hne : ¬ x = w.heap.size := by omega
  have hgx : g < x := by omega
  go_wp2_with fail
  refine wp_region_canon (fun w' => Blk w' x #[.string nm, .int .i64 kd, .int .i64 p, .int .i64 k, .int .i64 q, .slice ps ss.length cs, .int .i64 co, .slice pl ls.length cl] 28) [(0, true), (1, true), (2, true), (3, false), (4, false), (5, true), (6, true)] (by kernel_rfl) (by kernel_rfl) (by decide) (by kernel_rfl) ?_ ?_
  · exact hbx4
  refine canon_intro fun ops eo => ?_
  have ho0 := canon_at eo 0 rfl
  have ho1 := canon_at eo 1 rfl
  have ho2 := canon_at eo 2 rfl
  have ho3 := canon_at eo 3 rfl
  have ho4 := canon_at eo 4 rfl
  have ho5 := canon_at eo 5 rfl
  have ho6 := canon_at eo 6 rfl
  clear eo
  all_goals (apply canon_st ho0 rfl; (intro w2 hS; first | (go_simp; first | done | rfl) | rfl | ((have x0 := hS.cell (i := 0) (v := .string nm) rfl; have x1 := hS.cell (i := 1) (v := .int .i64 kd) rfl; have x2 := hS.cell (i := 2) (v := .int .i64 p) rfl; have x3 := hS.cell (i := 3) (v := .int .i64 k) rfl; have x4 := hS.cell (i := 4) (v := .int .i64 q) rfl; have x5 := hS.cell (i := 5) (v := .slice ps ss.length cs) rfl; have x6 := hS.cell (i := 6) (v := .int .i64 co) rfl; have x7 := hS.cell (i := 7) (v := .slice pl ls.length cl) rfl; have xL := hS.lt; have xF := hS.free); go_simp; first | done | rfl)); simp only [Act.put, List.setIfInBounds_toArray, List.set_cons_zero, List.set_cons_succ])
  all_goals clear ho0
  all_goals (apply canon_st ho1 rfl; (intro w2 hS; first | (go_simp; first | done | rfl) | rfl | ((have x0 := hS.cell (i := 0) (v := .string nm) rfl; have x1 := hS.cell (i := 1) (v := .int .i64 kd) rfl; have x2 := hS.cell (i := 2) (v := .int .i64 p) rfl; have x3 := hS.cell (i := 3) (v := .int .i64 k) rfl; have x4 := hS.cell (i := 4) (v := .int .i64 q) rfl; have x5 := hS.cell (i := 5) (v := .slice ps ss.length cs) rfl; have x6 := hS.cell (i := 6) (v := .int .i64 co) rfl; have x7 := hS.cell (i := 7) (v := .slice pl ls.length cl) rfl; have xL := hS.lt; have xF := hS.free); go_simp; first | done | rfl)); simp only [Act.put, List.setIfInBounds_toArray, List.set_cons_zero, List.set_cons_succ])
  all_goals clear ho1
  all_goals (apply canon_st ho2 rfl; (intro w2 hS; first | (go_simp; first | done | rfl) | rfl | ((have x0 := hS.cell (i := 0) (v := .string nm) rfl; have x1 := hS.cell (i := 1) (v := .int .i64 kd) rfl; have x2 := hS.cell (i := 2) (v := .int .i64 p) rfl; have x3 := hS.cell (i := 3) (v := .int .i64 k) rfl; have x4 := hS.cell (i := 4) (v := .int .i64 q) rfl; have x5 := hS.cell (i := 5) (v := .slice ps ss.length cs) rfl; have x6 := hS.cell (i := 6) (v := .int .i64 co) rfl; have x7 := hS.cell (i := 7) (v := .slice pl ls.length cl) rfl; have xL := hS.lt; have xF := hS.free); go_simp; first | done | rfl)); simp only [Act.put, List.setIfInBounds_toArray, List.set_cons_zero, List.set_cons_succ])
  all_goals clear ho2
  all_goals first | (refine canon_ef ho3 rfl (fun K hK => ?_); go_simp; ((go_at_call 13; (with_reducible refine (Draw10_c (g + 1) g _ (hs4.out.ext (by repeat (first | exact Ext.refl _ | assumption | refine Ext.drew ?_ | refine Ext.drewN ?_ _ | refine Ext.iter ?_ _ _ | refine Ext.alloc ?_ _ | refine Ext.setCell ?_ (by first | exact Nat.le_refl _ | (simp <;> omega)) _ | refine Ext.trans2 (by assumption) ?_))) (by first | omega | (simp only [World.size_drew]; omega) | (show g + 1 ≤ w4.heap.size; omega))).mono ?_); rintro e w5 ⟨t, rfl, ht, hs5, hb5⟩; have hbx5 : Blk w5 x #[.string nm, .int .i64 kd, .int .i64 p, .int .i64 k, .int .i64 q, .slice ps ss.length cs, .int .i64 co, .slice pl ls.length cl] 28 := Blk.but (Blk.ext hbx4 (by repeat (first | exact Ext.refl _ | assumption | refine Ext.drew ?_ | refine Ext.drewN ?_ _ | refine Ext.iter ?_ _ _ | refine Ext.alloc ?_ _ | refine Ext.setCell ?_ (by first | exact Nat.le_refl _ | (simp <;> omega)) _ | refine Ext.trans2 (by assumption) ?_))) hb5 (by omega); have hbr5 : Blk w5 w.heap.size fam0 28 := Blk.but (Blk.ext hbr4 (by repeat (first | exact Ext.refl _ | assumption | refine Ext.drew ?_ | refine Ext.drewN ?_ _ | refine Ext.iter ?_ _ _ | refine Ext.alloc ?_ _ | refine Ext.setCell ?_ (by first | exact Nat.le_refl _ | (simp <;> omega)) _ | refine Ext.trans2 (by assumption) ?_))) hb5 (by omega); have hr5 : Ext w w5 := Ext.but (Ext.trans hr4.out (by repeat (first | exact Ext.refl _ | assumption | refine Ext.drew ?_ | refine Ext.drewN ?_ _ | refine Ext.iter ?_ _ _ | refine Ext.alloc ?_ _ | refine Ext.setCell ?_ (by first | exact Nat.le_refl _ | (simp <;> omega)) _ | refine Ext.trans2 (by assumption) ?_))) hb5 (by omega); have q5 : OwnInts w1.heap.size w5 ps ss := OwnInts.but2 (OwnInts.ext p5.out (by repeat (first | exact Ext.refl _ | assumption | refine Ext.drew ?_ | refine Ext.drewN ?_ _ | refine Ext.iter ?_ _ _ | refine Ext.alloc ?_ _ | refine Ext.setCell ?_ (by first | exact Nat.le_refl _ | (simp <;> omega)) _ | refine Ext.trans2 (by assumption) ?_))) hb5 (by omega); have q6 : OwnInts w1.heap.size w5 pl ls := OwnInts.but2 (OwnInts.ext p6.out (by repeat (first | exact Ext.refl _ | assumption | refine Ext.drew ?_ | refine Ext.drewN ?_ _ | refine Ext.iter ?_ _ _ | refine Ext.alloc ?_ _ | refine Ext.setCell ?_ (by first | exact Nat.le_refl _ | (simp <;> omega)) _ | refine Ext.trans2 (by assumption) ?_))) hb5 (by omega); have r0 := hbr5.cell (i := 0) (v := .string ⟨#[]⟩) rfl; have r1 := hbr5.cell (i := 1) (v := .int .i64 0) rfl; have r2 := hbr5.cell (i := 2) (v := .int .i64 0) rfl; have r3 := hbr5.cell (i := 3) (v := .int .i64 0) rfl; have r4 := hbr5.cell (i := 4) (v := .int .i64 0) rfl; have r5 := hbr5.cell (i := 5) (v := .slice none 0 0) rfl; have r6 := hbr5.cell (i := 6) (v := .int .i64 0) rfl; have r7 := hbr5.cell (i := 7) (v := .slice none 0 0) rfl; have rL := hbr5.lt; have rF := hbr5.free)); all_goals (refine hK _ _ ⟨(by first | with_reducible assumption | with_reducible exact ((((((((hbx5.far hne _).far hne _).far hne _).far hne _).far hne _).far hne _).far hne _).far hne _)), ?_⟩; clear hK K; go_simp)) | (refine canon_ef ho3 rfl (fun K hK => ?_); go_simp; (skip); all_goals (refine hK _ _ ⟨(by first | with_reducible assumption | with_reducible exact ((((((((hbx5.far hne _).far hne _).far hne _).far hne _).far hne _).far hne _).far hne _).far hne _)), ?_⟩; clear hK K; go_simp))
  all_goals clear ho3
  all_goals first | (refine canon_ef ho4 rfl (fun K hK => ?_); go_simp; ((go_at_call 13; (with_reducible refine (Draw10_c (g + 1) g _ (hs4.out.ext (by repeat (first | exact Ext.refl _ | assumption | refine Ext.drew ?_ | refine Ext.drewN ?_ _ | refine Ext.iter ?_ _ _ | refine Ext.alloc ?_ _ | refine Ext.setCell ?_ (by first | exact Nat.le_refl _ | (simp <;> omega)) _ | refine Ext.trans2 (by assumption) ?_))) (by first | omega | (simp only [World.size_drew]; omega) | (show g + 1 ≤ w4.heap.size; omega))).mono ?_); rintro e w5 ⟨t, rfl, ht, hs5, hb5⟩; have hbx5 : Blk w5 x #[.string nm, .int .i64 kd, .int .i64 p, .int .i64 k, .int .i64 q, .slice ps ss.length cs, .int .i64 co, .slice pl ls.length cl] 28 := Blk.but (Blk.ext hbx4 (by repeat (first | exact Ext.refl _ | assumption | refine Ext.drew ?_ | refine Ext.drewN ?_ _ | refine Ext.iter ?_ _ _ | refine Ext.alloc ?_ _ | refine Ext.setCell ?_ (by first | exact Nat.le_refl _ | (simp <;> omega)) _ | refine Ext.trans2 (by assumption) ?_))) hb5 (by omega); have hbr5 : Blk w5 w.heap.size fam0 28 := Blk.but (Blk.ext hbr4 (by repeat (first | exact Ext.refl _ | assumption | refine Ext.drew ?_ | refine Ext.drewN ?_ _ | refine Ext.iter ?_ _ _ | refine Ext.alloc ?_ _ | refine Ext.setCell ?_ (by first | exact Nat.le_refl _ | (simp <;> omega)) _ | refine Ext.trans2 (by assumption) ?_))) hb5 (by omega); have hr5 : Ext w w5 := Ext.but (Ext.trans hr4.out (by repeat (first | exact Ext.refl _ | assumption | refine Ext.drew ?_ | refine Ext.drewN ?_ _ | refine Ext.iter ?_ _ _ | refine Ext.alloc ?_ _ | refine Ext.setCell ?_ (by first | exact Nat.le_refl _ | (simp <;> omega)) _ | refine Ext.trans2 (by assumption) ?_))) hb5 (by omega); have q5 : OwnInts w1.heap.size w5 ps ss := OwnInts.but2 (OwnInts.ext p5.out (by repeat (first | exact Ext.refl _ | assumption | refine Ext.drew ?_ | refine Ext.drewN ?_ _ | refine Ext.iter ?_ _ _ | refine Ext.alloc ?_ _ | refine Ext.setCell ?_ (by first | exact Nat.le_refl _ | (simp <;> omega)) _ | refine Ext.trans2 (by assumption) ?_))) hb5 (by omega); have q6 : OwnInts w1.heap.size w5 pl ls := OwnInts.but2 (OwnInts.ext p6.out (by repeat (first | exact Ext.refl _ | assumption | refine Ext.drew ?_ | refine Ext.drewN ?_ _ | refine Ext.iter ?_ _ _ | refine Ext.alloc ?_ _ | refine Ext.setCell ?_ (by first | exact Nat.le_refl _ | (simp <;> omega)) _ | refine Ext.trans2 (by assumption) ?_))) hb5 (by omega); have r0 := hbr5.cell (i := 0) (v := .string ⟨#[]⟩) rfl; have r1 := hbr5.cell (i := 1) (v := .int .i64 0) rfl; have r2 := hbr5.cell (i := 2) (v := .int .i64 0) rfl; have r3 := hbr5.cell (i := 3) (v := .int .i64 0) rfl; have r4 := hbr5.cell (i := 4) (v := .int .i64 0) rfl; have r5 := hbr5.cell (i := 5) (v := .slice none 0 0) rfl; have r6 := hbr5.cell (i := 6) (v := .int .i64 0) rfl; have r7 := hbr5.cell (i := 7) (v := .slice none 0 0) rfl; have rL := hbr5.lt; have rF := hbr5.free)); all_goals (refine hK _ _ ⟨(by first | with_reducible assumption | with_reducible exact ((((((((hbx5.far hne _).far hne _).far hne _).far hne _).far hne _).far hne _).far hne _).far hne _)), ?_⟩; clear hK K; go_simp)) | (refine canon_ef ho4 rfl (fun K hK => ?_); go_simp; (skip); all_goals (refine hK _ _ ⟨(by first | with_reducible assumption | with_reducible exact ((((((((hbx5.far hne _).far hne _).far hne _).far hne _).far hne _).far hne _).far hne _).far hne _)), ?_⟩; clear hK K; go_simp))
  all_goals clear ho4
  all_goals (apply canon_st ho5 rfl; (intro w2 hS; first | (go_simp; first | done | rfl) | rfl | ((have x0 := hS.cell (i := 0) (v := .string nm) rfl; have x1 := hS.cell (i := 1) (v := .int .i64 kd) rfl; have x2 := hS.cell (i := 2) (v := .int .i64 p) rfl; have x3 := hS.cell (i := 3) (v := .int .i64 k) rfl; have x4 := hS.cell (i := 4) (v := .int .i64 q) rfl; have x5 := hS.cell (i := 5) (v := .slice ps ss.length cs) rfl; have x6 := hS.cell (i := 6) (v := .int .i64 co) rfl; have x7 := hS.cell (i := 7) (v := .slice pl ls.length cl) rfl; have xL := hS.lt; have xF := hS.free); go_simp; first | done | rfl)); simp only [Act.put, List.setIfInBounds_toArray, List.set_cons_zero, List.set_cons_succ])
  all_goals clear ho5
  all_goals (apply canon_st ho6 rfl; (intro w2 hS; first | (go_simp; first | done | rfl) | rfl | ((have x0 := hS.cell (i := 0) (v := .string nm) rfl; have x1 := hS.cell (i := 1) (v := .int .i64 kd) rfl; have x2 := hS.cell (i := 2) (v := .int .i64 p) rfl; have x3 := hS.cell (i := 3) (v := .int .i64 k) rfl; have x4 := hS.cell (i := 4) (v := .int .i64 q) rfl; have x5 := hS.cell (i := 5) (v := .slice ps ss.length cs) rfl; have x6 := hS.cell (i := 6) (v := .int .i64 co) rfl; have x7 := hS.cell (i := 7) (v := .slice pl ls.length cl) rfl; have xL := hS.lt; have xF := hS.free); go_simp; first | done | rfl)); simp only [Act.put, List.setIfInBounds_toArray, List.set_cons_zero, List.set_cons_succ])
  all_goals clear ho6
  all_goals refine canon_done (NoPanic.normal ?_)
  go_wp2_with fail
  have hF := hbr5.fam (.string nm) (.int .i64 kd) (.int .i64 p) (.int .i64 k) (.int .i64 q) (.slice ps ss.length cs) (.int .i64 co) (.slice pl ls.length cl)
  have hB9 := But.fam w5 w.heap.size (.string nm) (.int .i64 kd) (.int .i64 p) (.int .i64 k) (.int .i64 q) (.slice ps ss.length cs) (.int .i64 co) (.slice pl ls.length cl)
  have d0 := hF.cell (i := 0) (v := .string nm) rfl; have d1 := hF.cell (i := 1) (v := .int .i64 kd) rfl; have d2 := hF.cell (i := 2) (v := .int .i64 p) rfl; have d3 := hF.cell (i := 3) (v := .int .i64 k) rfl; have d4 := hF.cell (i := 4) (v := .int .i64 q) rfl; have d5 := hF.cell (i := 5) (v := .slice ps ss.length cs) rfl; have d6 := hF.cell (i := 6) (v := .int .i64 co) rfl; have d7 := hF.cell (i := 7) (v := .slice pl ls.length cl) rfl
  have z5 := q5.but2 hB9 (by omega)
  have z6 := q6.but2 hB9 (by omega)
  have hlow : Below w.heap.size w5 (setFam w5 w.heap.size (.string nm) (.int .i64 kd) (.int .i64 p) (.int .i64 k) (.int .i64 q) (.slice ps ss.length cs) (.int .i64 co) (.slice pl ls.length cl)) := by
    unfold setFam
    exact (((((((((Below.refl _ _).setCell (p := ⟨w.heap.size, 0, none⟩) (Nat.le_refl _) _).setCell (p := ⟨w.heap.size, 1, none⟩) (Nat.le_refl _) _).setCell (p := ⟨w.heap.size, 2, none⟩) (Nat.le_refl _) _).setCell (p := ⟨w.heap.size, 3, none⟩) (Nat.le_refl _) _).setCell (p := ⟨w.heap.size, 4, none⟩) (Nat.le_refl _) _).setCell (p := ⟨w.heap.size, 5, none⟩) (Nat.le_refl _) _).setCell (p := ⟨w.heap.size, 6, none⟩) (Nat.le_refl _) _).setCell (p := ⟨w.heap.size, 7, none⟩) (Nat.le_refl _) _)
  unfold setFam at d0 d1 d2 d3 d4 d5 d6 d7 z5 z6 hlow
  exact bodyPost_ret (v := .tuple #[.agg #[.string nm, .int .i64 kd, .int .i64 p, .int .i64 k, .int .i64 q, .slice ps ss.length cs, .int .i64 co, .slice pl ls.length cl], .int .i64 v, .string t]) (by simp [results, Tryz.results5, go_sem, d0, d1, d2, d3, d4, d5, d6, d7]) rfl ⟨⟨nm, kd, p, k, q, ps, cs, ss, co, pl, cl, ls⟩, v, t, rfl, ht, ⟨hnm, hsl, hll, z5.mono (by omega), z6.mono (by omega)⟩, hr5.low hlow (Nat.le_refl _)⟩
end Go.Proofs.YthokkmbdkjpbcaaGreat
