
/- Drawn parts of messages. -/
import Derived.Test.YtbnpdpmbbppnhaaDrawPay
import Derived.Test.YtbnpdpmbbppnhaaCanon3
import Derived.Test.YtbnpdpmbbppnhaaPart
namespace Go.Proofs.Ytbnpdpmbbppnhaa
set_option linter.unusedVariables false
set_option linter.unusedSimpArgs false
open Go.RowKit

theorem Src.set {n0 g x i : Nat} {w : World} {v : Value} (h : Src n0 w g) (hx : n0 ≤ x) : Src n0 (w.setCell ⟨x, i, none⟩ v) g := h.low ((Below.refl n0 w).setCell (p := ⟨x, i, none⟩) hx v) (Nat.le_refl _)
theorem But.setOld {g x i : Nat} {a b : World} {v : Value} (h : But g a b) (hx : a.heap.size ≤ x) : But g a (b.setCell ⟨x, i, none⟩ v) := h.below ((Below.refl a.heap.size b).setCell (p := ⟨x, i, none⟩) hx v) (Nat.le_refl _)
theorem But.alloc {g : Nat} {a b : World} (h : But g a b) (o : Obj) : But g a (b.alloc o) := h.trans (But.of ((Ext.refl b).alloc o))
theorem Src.alloc {n0 g : Nat} {w : World} (h : Src n0 w g) (o : Obj) : Src n0 (w.alloc o) g := h.ext ((Ext.refl w).alloc o)
theorem pairA (a b : Int) (j : Nat) (hj : j < 2) : ∃ v : Int, (#[.int .i64 a, .int .i64 b] : Array Value)[j]? = some (.int .i64 v) ∧ (v = a ∨ v = b) := by
  match j, hj with
  | 0, _ => exact ⟨_, rfl, .inl rfl⟩
  | 1, _ => exact ⟨_, rfl, .inr rfl⟩
/-- A part has been drawn; only the source has turned. -/
def PartR (n0 g : Nat) (w : World) (e : Ending) (w' : World) : Prop := ∃ (i n y : Int) (t : ByteArray), e = .returned (vPart i n y t) ∧ t.size ≤ 500 ∧ Src n0 w' g ∧ But g w w'
set_option maxHeartbeats 1600000 in
set_option maxRecDepth 100000 in
theorem l12Draw_c (n0 g : Nat) (w : World) (h : Src n0 w g) (hn0 : n0 ≤ w.heap.size) :
    Calls Try.prog 82 #[.pointer (some ⟨g, 0, none⟩)] w fun e w' => PartR n0 g w e w' := by
  have hg : g < n0 := h.1
  have HS := Lib.hid h; clear h
  have hb := Blk.new w #[.int .i64 0, .int .i64 0, .int .i64 0, .string ByteArray.empty] 36
  have hr0 : But g w (w.alloc (.cells #[.int .i64 0, .int .i64 0, .int .i64 0, .string ByteArray.empty] 36)) := But.of ((Ext.refl w).alloc _)
  go_enter Try.func82, Try.ntmps82
  go_wp2_with fail
  refine (Next_c n0 g 8 _ (HS.out.ext (by repeat (first | exact Ext.refl _ | assumption | refine Ext.drew ?_ | refine Ext.drewN ?_ _ | refine Ext.iter ?_ _ _ | refine Ext.alloc ?_ _ | refine Ext.setCell ?_ (by first | exact Nat.le_refl _ | (simp <;> omega)) _ | refine Ext.trans2 (by assumption) ?_))) (by omega)).mono ?_
  rintro e w1 ⟨a, rfl, ha0, ha1, -, hs1, hb1⟩
  replace ha1 := ha1 (by omega)
  have hz1 := hb1.size
  simp only [World.size_alloc] at hz1
  have hbr1 := hb.but hb1 (by omega)
  have hr1 := hr0.trans hb1
  have e1 := IntWalk.i64_in (1 + a) (by omega)
  clear hb hr0 hb1 HS
  go_wp2_with fail
  refine (Next_c n0 g 256 _ hs1 (by omega)).mono ?_
  rintro e w2 ⟨y, rfl, hy0, hy1, -, hs2, hb2⟩
  replace hy1 := hy1 (by omega)
  have hz2 := hb2.size
  have hbr2 := hbr1.but hb2 (by omega)
  have hr2 := hr1.trans hb2
  clear hbr1 hr1 hb2 hs1
  go_wp2_with fail
  refine (Draw10_c n0 g _ hs2 (by omega)).mono ?_
  rintro e w3 ⟨t, rfl, ht, hs3, hb3⟩
  have hz3 := hb3.size
  have hbr3 := (hbr2.but hb3 (by omega)).alloc (.cells #[.int .i64 0, .int .i64 (1 + a), .int .i64 y, .string t] 36)
  have hx3 := Blk.new w3 #[.int .i64 0, .int .i64 (1 + a), .int .i64 y, .string t] 36
  have hr3 := (hr2.trans hb3).alloc (.cells #[.int .i64 0, .int .i64 (1 + a), .int .i64 y, .string t] 36)
  have hs3' := hs3.alloc (.cells #[.int .i64 0, .int .i64 (1 + a), .int .i64 y, .string t] 36)
  have hwx : w.heap.size < w3.heap.size := by omega
  have hxg : w3.heap.size ≠ g := by omega
  have hgx : g < w3.heap.size := by omega
  clear hbr2 hr2 hb3 hs2 hs3
  have q0 := hx3.cell (i := 0) (v := .int .i64 0) rfl; have q1 := hx3.cell (i := 1) (v := .int .i64 (1 + a)) rfl; have q2 := hx3.cell (i := 2) (v := .int .i64 y) rfl; have q3 := hx3.cell (i := 3) (v := .string t) rfl; have ql := hx3.lt; have qf := hx3.free
  go_wp2_with fail
  clear q0 q1 q2 q3 ql qf e1
  generalize w3.alloc (.cells #[.int .i64 0, .int .i64 (1 + a), .int .i64 y, .string t] 36) = w4 at *
  generalize w3.heap.size = x at *
  obtain ⟨m, hm⟩ : ∃ m : Int, 1 + a = m := ⟨_, rfl⟩
  have hm1 : 1 ≤ m ∧ m ≤ 8 := by omega
  rw [hm] at hx3 ⊢
  clear hm
  refine (Next_c n0 g m _ hs3' (by omega)).mono ?_
  rintro e w5 ⟨i, rfl, hi0, hi1, hi2, hs5, hb5⟩
  have hib : 0 ≤ i ∧ i ≤ 8 := by omega
  have hz5 := hb5.size
  have hbr5 := hbr3.but hb5 (by omega)
  have hx5 := hx3.but hb5 hxg
  have hr5 := hr3.trans hb5
  clear hbr3 hx3 hr3 hb5 hs3' hi1 hi2
  have q0 := hx5.cell (i := 0) (v := .int .i64 0) rfl; have q1 := hx5.cell (i := 1) (v := .int .i64 m) rfl; have q2 := hx5.cell (i := 2) (v := .int .i64 y) rfl; have q3 := hx5.cell (i := 3) (v := .string t) rfl; have ql := hx5.lt; have qf := hx5.free
  go_wp2_with fail
  clear q0 q1 q2 q3 ql qf
  have hx6 := hx5.set 0 (.int .i64 i)
  have hbr6 := hbr5.far (g' := x) (i := 0) (by omega) (.int .i64 i)
  have hs6 := hs5.set (x := x) (i := 0) (v := .int .i64 i) (by omega)
  have hr6 := hr5.setOld (x := x) (i := 0) (v := .int .i64 i) (by omega)
  have hz6 : x < (w5.setCell ⟨x, 0, none⟩ (.int .i64 i)).heap.size := hx6.lt
  clear hx5 hbr5 hs5 hr5 hz5
  generalize w5.setCell ⟨x, 0, none⟩ (.int .i64 i) = w6 at *
  replace hx6 : Blk w6 x #[.int .i64 i, .int .i64 m, .int .i64 y, .string t] 36 := hx6
  refine (Next_c n0 g 30 _ hs6 (by omega)).mono ?_
  rintro e w7 ⟨z, rfl, -, -, -, hs7, hb7⟩
  have hz7 := hb7.size
  have hbr7 := hbr6.but hb7 (by omega)
  have hx7 := hx6.but hb7 hxg
  have hr7 := hr6.trans hb7
  have hzx7 : x < w7.heap.size := by omega
  clear hbr6 hx6 hr6 hb7 hs6 hz6
  have hz : z = 0 ∨ z = 1 ∨ z = 2 ∨ (z ≠ 0 ∧ z ≠ 1 ∧ z ≠ 2) := by omega
  have q0 := hx7.cell (i := 0) (v := .int .i64 i) rfl; have q1 := hx7.cell (i := 1) (v := .int .i64 m) rfl; have q2 := hx7.cell (i := 2) (v := .int .i64 y) rfl; have q3 := hx7.cell (i := 3) (v := .string t) rfl; have ql := hx7.lt; have qf := hx7.free
  rcases hz with rfl | rfl | rfl | ⟨d0, d1, d2⟩
  · skip
    go_wp2_with fail
    refine wp_region_c3 (fun w' => True) (.st 0 (.st 3 (.two 1 (.two 2 (.one 4 (.st 5 (.one 6 (.st 7 (.one 8 .done))))) 4 (.one 2 (.st 5 (.one 6 (.st 7 (.one 8 .done)))))) 4 (.one 1 (.one 2 (.st 5 (.one 6 (.st 7 (.one 8 .done))))))))) (by kernel_rfl) (by kernel_rfl) (by decide) (by kernel_rfl) ?_ ?_
    · exact trivial
    refine c3_intro fun ops eo => ?_
    have ho0 := canon_at eo 0 rfl
    have ho1 := canon_at eo 1 rfl
    have ho2 := canon_at eo 2 rfl
    have ho3 := canon_at eo 3 rfl
    have ho4 := canon_at eo 4 rfl
    have ho5 := canon_at eo 5 rfl
    have ho6 := canon_at eo 6 rfl
    have ho7 := canon_at eo 7 rfl
    have ho8 := canon_at eo 8 rfl
    clear eo
    all_goals (apply c3_st ho0 rfl; (intro w2 hS; first | (go_simp; first | done | rfl) | rfl | (skip; go_simp; first | done | rfl)); simp only [Act.put, List.setIfInBounds_toArray, List.set_cons_zero, List.set_cons_succ])
    all_goals clear ho0
    all_goals (apply c3_st ho3 rfl; (intro w2 hS; first | (go_simp; first | done | rfl) | rfl | (skip; go_simp; first | done | rfl)); simp only [Act.put, List.setIfInBounds_toArray, List.set_cons_zero, List.set_cons_succ])
    all_goals clear ho3
    all_goals
      refine c3_two ?_ ?_
      rotate_right 1
      focus
        all_goals first | (refine c3_op ho4 rfl (fun K hK => ?_); go_simp; ((go_at_call 83; (with_reducible refine (Next_c n0 g 2 _ (hs7.ext (by repeat (first | exact Ext.refl _ | assumption | refine Ext.drew ?_ | refine Ext.drewN ?_ _ | refine Ext.iter ?_ _ _ | refine Ext.alloc ?_ _ | refine Ext.setCell ?_ (by first | exact Nat.le_refl _ | (simp <;> omega)) _ | refine Ext.trans2 (by assumption) ?_))) (by omega)).mono ?_); rintro e w8 ⟨zz, rfl, hz0, hz3, -, hs8, hb8⟩; replace hz3 := hz3 (by omega); obtain ⟨zn, rfl⟩ : ∃ zn : Nat, zz = zn := ⟨zz.toNat, by omega⟩; have hzn : (zn : Int) < 2 := hz3; obtain ⟨v, hv, hvb⟩ := pairA (-1) m zn (by omega); have hx8 : Blk w8 x #[.int .i64 i, .int .i64 m, .int .i64 y, .string t] 36 := Blk.but (Blk.ext hx7 (by repeat (first | exact Ext.refl _ | assumption | refine Ext.drew ?_ | refine Ext.drewN ?_ _ | refine Ext.iter ?_ _ _ | refine Ext.alloc ?_ _ | refine Ext.setCell ?_ (by first | exact Nat.le_refl _ | (simp <;> omega)) _ | refine Ext.trans2 (by assumption) ?_))) hb8 hxg; have hbr8 : Blk w8 w.heap.size #[.int .i64 0, .int .i64 0, .int .i64 0, .string ByteArray.empty] 36 := Blk.but (Blk.ext hbr7 (by repeat (first | exact Ext.refl _ | assumption | refine Ext.drew ?_ | refine Ext.drewN ?_ _ | refine Ext.iter ?_ _ _ | refine Ext.alloc ?_ _ | refine Ext.setCell ?_ (by first | exact Nat.le_refl _ | (simp <;> omega)) _ | refine Ext.trans2 (by assumption) ?_))) hb8 (by omega); have hr8 : But g w w8 := But.trans (But.trans hr7 (But.of (by repeat (first | exact Ext.refl _ | assumption | refine Ext.drew ?_ | refine Ext.drewN ?_ _ | refine Ext.iter ?_ _ _ | refine Ext.alloc ?_ _ | refine Ext.setCell ?_ (by first | exact Nat.le_refl _ | (simp <;> omega)) _ | refine Ext.trans2 (by assumption) ?_)))) hb8; clear q0 q1 q2 q3 ql qf; have q0 := hx8.cell (i := 0) (v := .int .i64 i) rfl; have q1 := hx8.cell (i := 1) (v := .int .i64 m) rfl; have q2 := hx8.cell (i := 2) (v := .int .i64 y) rfl; have q3 := hx8.cell (i := 3) (v := .string t) rfl; have ql := hx8.lt; have qf := hx8.free; have hv8 := hb8.size; simp only [World.size_alloc, World.size_drew] at hv8; have sC := (Blk.new w8 #[.int .i64 (-1), .int .i64 m] 2).cell hv; try (have sA := (Blk.but (Blk.drew (Blk.new w7 #[.int .i64 (-1), .int .i64 m] 2)) hb8 (by show w7.heap.size ≠ g; omega)).cell hv; have sB := (Blk.but (Blk.drew (Blk.new w7 #[.int .i64 (-1), .int .i64 m] 2)) hb8 (by show w7.heap.size ≠ g; omega)).lt))); all_goals ((with_reducible refine hK _ _ ?_); refine ⟨trivial, ?_⟩; clear hK K; go_simp))
        all_goals clear ho4
        all_goals refine c3_one ?_
        all_goals first | (refine c3_op ho1 rfl (fun K hK => ?_); go_simp; (skip); all_goals ((with_reducible refine hK _ _ ?_); refine ⟨trivial, ?_⟩; clear hK K; go_simp))
        all_goals clear ho1
        all_goals refine c3_one ?_
        all_goals first | (refine c3_op ho2 rfl (fun K hK => ?_); go_simp; (skip); all_goals ((with_reducible refine hK _ _ ?_); refine ⟨trivial, ?_⟩; clear hK K; go_simp))
        all_goals clear ho2
        all_goals (apply c3_st ho5 rfl; (intro w2 hS; first | (go_simp; first | done | rfl) | rfl | (skip; go_simp; first | done | rfl)); simp only [Act.put, List.setIfInBounds_toArray, List.set_cons_zero, List.set_cons_succ])
        all_goals clear ho5
        all_goals refine c3_one ?_
        all_goals first | (refine c3_op ho6 rfl (fun K hK => ?_); go_simp; (skip); all_goals ((with_reducible refine hK _ _ ?_); refine ⟨trivial, ?_⟩; clear hK K; go_simp))
        all_goals clear ho6
        all_goals (apply c3_st ho7 rfl; (intro w2 hS; first | (go_simp; first | done | rfl) | rfl | (skip; go_simp; first | done | rfl)); simp only [Act.put, List.setIfInBounds_toArray, List.set_cons_zero, List.set_cons_succ])
        all_goals clear ho7
        all_goals refine c3_one ?_
        all_goals first | (refine c3_op ho8 rfl (fun K hK => ?_); go_simp; (skip); all_goals ((with_reducible refine hK _ _ ?_); refine ⟨trivial, ?_⟩; clear hK K; go_simp))
        all_goals clear ho8
        all_goals refine c3_done (NoPanic.normal ?_)
      rotate_right 1
      focus
        all_goals first | (refine c3_op ho1 rfl (fun K hK => ?_); go_simp; (skip); all_goals ((with_reducible refine hK _ _ ?_); refine ⟨trivial, ?_⟩; clear hK K; go_simp))
        all_goals clear ho1
        all_goals
          refine c3_two ?_ ?_
          rotate_right 1
          focus
            all_goals first | (refine c3_op ho4 rfl (fun K hK => ?_); go_simp; ((go_at_call 83; (with_reducible refine (Next_c n0 g 2 _ (hs7.ext (by repeat (first | exact Ext.refl _ | assumption | refine Ext.drew ?_ | refine Ext.drewN ?_ _ | refine Ext.iter ?_ _ _ | refine Ext.alloc ?_ _ | refine Ext.setCell ?_ (by first | exact Nat.le_refl _ | (simp <;> omega)) _ | refine Ext.trans2 (by assumption) ?_))) (by omega)).mono ?_); rintro e w8 ⟨zz, rfl, hz0, hz3, -, hs8, hb8⟩; replace hz3 := hz3 (by omega); obtain ⟨zn, rfl⟩ : ∃ zn : Nat, zz = zn := ⟨zz.toNat, by omega⟩; have hzn : (zn : Int) < 2 := hz3; obtain ⟨v, hv, hvb⟩ := pairA (-1) m zn (by omega); have hx8 : Blk w8 x #[.int .i64 i, .int .i64 m, .int .i64 y, .string t] 36 := Blk.but (Blk.ext hx7 (by repeat (first | exact Ext.refl _ | assumption | refine Ext.drew ?_ | refine Ext.drewN ?_ _ | refine Ext.iter ?_ _ _ | refine Ext.alloc ?_ _ | refine Ext.setCell ?_ (by first | exact Nat.le_refl _ | (simp <;> omega)) _ | refine Ext.trans2 (by assumption) ?_))) hb8 hxg; have hbr8 : Blk w8 w.heap.size #[.int .i64 0, .int .i64 0, .int .i64 0, .string ByteArray.empty] 36 := Blk.but (Blk.ext hbr7 (by repeat (first | exact Ext.refl _ | assumption | refine Ext.drew ?_ | refine Ext.drewN ?_ _ | refine Ext.iter ?_ _ _ | refine Ext.alloc ?_ _ | refine Ext.setCell ?_ (by first | exact Nat.le_refl _ | (simp <;> omega)) _ | refine Ext.trans2 (by assumption) ?_))) hb8 (by omega); have hr8 : But g w w8 := But.trans (But.trans hr7 (But.of (by repeat (first | exact Ext.refl _ | assumption | refine Ext.drew ?_ | refine Ext.drewN ?_ _ | refine Ext.iter ?_ _ _ | refine Ext.alloc ?_ _ | refine Ext.setCell ?_ (by first | exact Nat.le_refl _ | (simp <;> omega)) _ | refine Ext.trans2 (by assumption) ?_)))) hb8; clear q0 q1 q2 q3 ql qf; have q0 := hx8.cell (i := 0) (v := .int .i64 i) rfl; have q1 := hx8.cell (i := 1) (v := .int .i64 m) rfl; have q2 := hx8.cell (i := 2) (v := .int .i64 y) rfl; have q3 := hx8.cell (i := 3) (v := .string t) rfl; have ql := hx8.lt; have qf := hx8.free; have hv8 := hb8.size; simp only [World.size_alloc, World.size_drew] at hv8; have sC := (Blk.new w8 #[.int .i64 (-1), .int .i64 m] 2).cell hv; try (have sA := (Blk.but (Blk.drew (Blk.new w7 #[.int .i64 (-1), .int .i64 m] 2)) hb8 (by show w7.heap.size ≠ g; omega)).cell hv; have sB := (Blk.but (Blk.drew (Blk.new w7 #[.int .i64 (-1), .int .i64 m] 2)) hb8 (by show w7.heap.size ≠ g; omega)).lt))); all_goals ((with_reducible refine hK _ _ ?_); refine ⟨trivial, ?_⟩; clear hK K; go_simp))
            all_goals clear ho4
            all_goals refine c3_one ?_
            all_goals first | (refine c3_op ho2 rfl (fun K hK => ?_); go_simp; (skip); all_goals ((with_reducible refine hK _ _ ?_); refine ⟨trivial, ?_⟩; clear hK K; go_simp))
            all_goals clear ho2
            all_goals (apply c3_st ho5 rfl; (intro w2 hS; first | (go_simp; first | done | rfl) | rfl | (skip; go_simp; first | done | rfl)); simp only [Act.put, List.setIfInBounds_toArray, List.set_cons_zero, List.set_cons_succ])
            all_goals clear ho5
            all_goals refine c3_one ?_
            all_goals first | (refine c3_op ho6 rfl (fun K hK => ?_); go_simp; (skip); all_goals ((with_reducible refine hK _ _ ?_); refine ⟨trivial, ?_⟩; clear hK K; go_simp))
            all_goals clear ho6
            all_goals (apply c3_st ho7 rfl; (intro w2 hS; first | (go_simp; first | done | rfl) | rfl | (skip; go_simp; first | done | rfl)); simp only [Act.put, List.setIfInBounds_toArray, List.set_cons_zero, List.set_cons_succ])
            all_goals clear ho7
            all_goals refine c3_one ?_
            all_goals first | (refine c3_op ho8 rfl (fun K hK => ?_); go_simp; (skip); all_goals ((with_reducible refine hK _ _ ?_); refine ⟨trivial, ?_⟩; clear hK K; go_simp))
            all_goals clear ho8
            all_goals refine c3_done (NoPanic.normal ?_)
          rotate_right 1
          focus
            all_goals first | (refine c3_op ho2 rfl (fun K hK => ?_); go_simp; (skip); all_goals ((with_reducible refine hK _ _ ?_); refine ⟨trivial, ?_⟩; clear hK K; go_simp))
            all_goals clear ho2
            all_goals refine c3_one ?_
            all_goals first | (refine c3_op ho4 rfl (fun K hK => ?_); go_simp; ((go_at_call 83; (with_reducible refine (Next_c n0 g 2 _ (hs7.ext (by repeat (first | exact Ext.refl _ | assumption | refine Ext.drew ?_ | refine Ext.drewN ?_ _ | refine Ext.iter ?_ _ _ | refine Ext.alloc ?_ _ | refine Ext.setCell ?_ (by first | exact Nat.le_refl _ | (simp <;> omega)) _ | refine Ext.trans2 (by assumption) ?_))) (by omega)).mono ?_); rintro e w8 ⟨zz, rfl, hz0, hz3, -, hs8, hb8⟩; replace hz3 := hz3 (by omega); obtain ⟨zn, rfl⟩ : ∃ zn : Nat, zz = zn := ⟨zz.toNat, by omega⟩; have hzn : (zn : Int) < 2 := hz3; obtain ⟨v, hv, hvb⟩ := pairA (-1) m zn (by omega); have hx8 : Blk w8 x #[.int .i64 i, .int .i64 m, .int .i64 y, .string t] 36 := Blk.but (Blk.ext hx7 (by repeat (first | exact Ext.refl _ | assumption | refine Ext.drew ?_ | refine Ext.drewN ?_ _ | refine Ext.iter ?_ _ _ | refine Ext.alloc ?_ _ | refine Ext.setCell ?_ (by first | exact Nat.le_refl _ | (simp <;> omega)) _ | refine Ext.trans2 (by assumption) ?_))) hb8 hxg; have hbr8 : Blk w8 w.heap.size #[.int .i64 0, .int .i64 0, .int .i64 0, .string ByteArray.empty] 36 := Blk.but (Blk.ext hbr7 (by repeat (first | exact Ext.refl _ | assumption | refine Ext.drew ?_ | refine Ext.drewN ?_ _ | refine Ext.iter ?_ _ _ | refine Ext.alloc ?_ _ | refine Ext.setCell ?_ (by first | exact Nat.le_refl _ | (simp <;> omega)) _ | refine Ext.trans2 (by assumption) ?_))) hb8 (by omega); have hr8 : But g w w8 := But.trans (But.trans hr7 (But.of (by repeat (first | exact Ext.refl _ | assumption | refine Ext.drew ?_ | refine Ext.drewN ?_ _ | refine Ext.iter ?_ _ _ | refine Ext.alloc ?_ _ | refine Ext.setCell ?_ (by first | exact Nat.le_refl _ | (simp <;> omega)) _ | refine Ext.trans2 (by assumption) ?_)))) hb8; clear q0 q1 q2 q3 ql qf; have q0 := hx8.cell (i := 0) (v := .int .i64 i) rfl; have q1 := hx8.cell (i := 1) (v := .int .i64 m) rfl; have q2 := hx8.cell (i := 2) (v := .int .i64 y) rfl; have q3 := hx8.cell (i := 3) (v := .string t) rfl; have ql := hx8.lt; have qf := hx8.free; have hv8 := hb8.size; simp only [World.size_alloc, World.size_drew] at hv8; have sC := (Blk.new w8 #[.int .i64 (-1), .int .i64 m] 2).cell hv; try (have sA := (Blk.but (Blk.drew (Blk.new w7 #[.int .i64 (-1), .int .i64 m] 2)) hb8 (by show w7.heap.size ≠ g; omega)).cell hv; have sB := (Blk.but (Blk.drew (Blk.new w7 #[.int .i64 (-1), .int .i64 m] 2)) hb8 (by show w7.heap.size ≠ g; omega)).lt))); all_goals ((with_reducible refine hK _ _ ?_); refine ⟨trivial, ?_⟩; clear hK K; go_simp))
            all_goals clear ho4
            all_goals (apply c3_st ho5 rfl; (intro w2 hS; first | (go_simp; first | done | rfl) | rfl | (skip; go_simp; first | done | rfl)); simp only [Act.put, List.setIfInBounds_toArray, List.set_cons_zero, List.set_cons_succ])
            all_goals clear ho5
            all_goals refine c3_one ?_
            all_goals first | (refine c3_op ho6 rfl (fun K hK => ?_); go_simp; (skip); all_goals ((with_reducible refine hK _ _ ?_); refine ⟨trivial, ?_⟩; clear hK K; go_simp))
            all_goals clear ho6
            all_goals (apply c3_st ho7 rfl; (intro w2 hS; first | (go_simp; first | done | rfl) | rfl | (skip; go_simp; first | done | rfl)); simp only [Act.put, List.setIfInBounds_toArray, List.set_cons_zero, List.set_cons_succ])
            all_goals clear ho7
            all_goals refine c3_one ?_
            all_goals first | (refine c3_op ho8 rfl (fun K hK => ?_); go_simp; (skip); all_goals ((with_reducible refine hK _ _ ?_); refine ⟨trivial, ?_⟩; clear hK K; go_simp))
            all_goals clear ho8
            all_goals refine c3_done (NoPanic.normal ?_)
    all_goals
      clear hv
      first
        | (have hsB := sB; have hx9 : Blk _ x #[.int .i64 v, .int .i64 m, .int .i64 y, .string t] 36 := hx8.set 0 (.int .i64 v); have hbr9 := hbr8.far (g' := x) (i := 0) (by omega) (.int .i64 v); have hs9 := hs8.set (x := x) (i := 0) (v := .int .i64 v) (by omega); have hr9 := hr8.setOld (x := x) (i := 0) (v := .int .i64 v) (by omega); have k0 := hx9.cell (i := 0) (v := .int .i64 v) rfl; have k1 := hx9.cell (i := 1) (v := .int .i64 m) rfl; have k2 := hx9.cell (i := 2) (v := .int .i64 y) rfl; have k3 := hx9.cell (i := 3) (v := .string t) rfl; have kl := hx9.lt; have kf := hx9.free; have r0 := hbr9.cell (i := 0) (v := .int .i64 0) rfl; have r1 := hbr9.cell (i := 1) (v := .int .i64 0) rfl; have r2 := hbr9.cell (i := 2) (v := .int .i64 0) rfl; have r3 := hbr9.cell (i := 3) (v := .string ByteArray.empty) rfl; have rl := hbr9.lt; have rf := hbr9.free; go_wp2_with fail; have hF := (((hbr9.set 0 (.int .i64 v)).set 1 (.int .i64 m)).set 2 (.int .i64 y)).set 3 (.string t); have c0 := hF.cell (i := 0) (v := .int .i64 v) rfl; have c1 := hF.cell (i := 1) (v := .int .i64 m) rfl; have c2 := hF.cell (i := 2) (v := .int .i64 y) rfl; have c3 := hF.cell (i := 3) (v := .string t) rfl; clear k0 k1 k2 k3 kl kf r0 r1 r2 r3 rl rf hx9; refine bodyPost_ret (v := vPart v m y t) ?_ rfl ?_; simp [results, Try.results82, go_sem, c0, c1, c2, c3, vPart]; exact ⟨_, _, _, t, rfl, ht, (((hs9.set (by omega)).set (by omega)).set (by omega)).set (by omega), (((hr9.setOld (Nat.le_refl _)).setOld (Nat.le_refl _)).setOld (Nat.le_refl _)).setOld (Nat.le_refl _)⟩)
        | (have hx9 : Blk _ x #[.int .i64 v, .int .i64 m, .int .i64 y, .string t] 36 := (hx8.alloc (.cells #[.int .i64 (-1), .int .i64 m] 2)).set 0 (.int .i64 v); have hbr9 := (hbr8.alloc (.cells #[.int .i64 (-1), .int .i64 m] 2)).far (g' := x) (i := 0) (by omega) (.int .i64 v); have hs9 := (hs8.alloc (.cells #[.int .i64 (-1), .int .i64 m] 2)).set (x := x) (i := 0) (v := .int .i64 v) (by omega); have hr9 := (hr8.alloc (.cells #[.int .i64 (-1), .int .i64 m] 2)).setOld (x := x) (i := 0) (v := .int .i64 v) (by omega); have k0 := hx9.cell (i := 0) (v := .int .i64 v) rfl; have k1 := hx9.cell (i := 1) (v := .int .i64 m) rfl; have k2 := hx9.cell (i := 2) (v := .int .i64 y) rfl; have k3 := hx9.cell (i := 3) (v := .string t) rfl; have kl := hx9.lt; have kf := hx9.free; have r0 := hbr9.cell (i := 0) (v := .int .i64 0) rfl; have r1 := hbr9.cell (i := 1) (v := .int .i64 0) rfl; have r2 := hbr9.cell (i := 2) (v := .int .i64 0) rfl; have r3 := hbr9.cell (i := 3) (v := .string ByteArray.empty) rfl; have rl := hbr9.lt; have rf := hbr9.free; go_wp2_with fail; have hF := (((hbr9.set 0 (.int .i64 v)).set 1 (.int .i64 m)).set 2 (.int .i64 y)).set 3 (.string t); have c0 := hF.cell (i := 0) (v := .int .i64 v) rfl; have c1 := hF.cell (i := 1) (v := .int .i64 m) rfl; have c2 := hF.cell (i := 2) (v := .int .i64 y) rfl; have c3 := hF.cell (i := 3) (v := .string t) rfl; clear k0 k1 k2 k3 kl kf r0 r1 r2 r3 rl rf hx9; refine bodyPost_ret (v := vPart v m y t) ?_ rfl ?_; simp [results, Try.results82, go_sem, c0, c1, c2, c3, vPart]; exact ⟨_, _, _, t, rfl, ht, (((hs9.set (by omega)).set (by omega)).set (by omega)).set (by omega), (((hr9.setOld (Nat.le_refl _)).setOld (Nat.le_refl _)).setOld (Nat.le_refl _)).setOld (Nat.le_refl _)⟩)
        | (have hx9 : Blk _ x #[.int .i64 v, .int .i64 m, .int .i64 y, .string t] 36 := (hx8.set 0 (.int .i64 v)).alloc (.cells #[.int .i64 (-1), .int .i64 m] 2); have hbr9 := (hbr8.far (g' := x) (i := 0) (by omega) (.int .i64 v)).alloc (.cells #[.int .i64 (-1), .int .i64 m] 2); have hs9 := (hs8.set (x := x) (i := 0) (v := .int .i64 v) (by omega)).alloc (.cells #[.int .i64 (-1), .int .i64 m] 2); have hr9 := (hr8.setOld (x := x) (i := 0) (v := .int .i64 v) (by omega)).alloc (.cells #[.int .i64 (-1), .int .i64 m] 2); have k0 := hx9.cell (i := 0) (v := .int .i64 v) rfl; have k1 := hx9.cell (i := 1) (v := .int .i64 m) rfl; have k2 := hx9.cell (i := 2) (v := .int .i64 y) rfl; have k3 := hx9.cell (i := 3) (v := .string t) rfl; have kl := hx9.lt; have kf := hx9.free; have r0 := hbr9.cell (i := 0) (v := .int .i64 0) rfl; have r1 := hbr9.cell (i := 1) (v := .int .i64 0) rfl; have r2 := hbr9.cell (i := 2) (v := .int .i64 0) rfl; have r3 := hbr9.cell (i := 3) (v := .string ByteArray.empty) rfl; have rl := hbr9.lt; have rf := hbr9.free; go_wp2_with fail; have hF := (((hbr9.set 0 (.int .i64 v)).set 1 (.int .i64 m)).set 2 (.int .i64 y)).set 3 (.string t); have c0 := hF.cell (i := 0) (v := .int .i64 v) rfl; have c1 := hF.cell (i := 1) (v := .int .i64 m) rfl; have c2 := hF.cell (i := 2) (v := .int .i64 y) rfl; have c3 := hF.cell (i := 3) (v := .string t) rfl; clear k0 k1 k2 k3 kl kf r0 r1 r2 r3 rl rf hx9; refine bodyPost_ret (v := vPart v m y t) ?_ rfl ?_; simp [results, Try.results82, go_sem, c0, c1, c2, c3, vPart]; exact ⟨_, _, _, t, rfl, ht, (((hs9.set (by omega)).set (by omega)).set (by omega)).set (by omega), (((hr9.setOld (Nat.le_refl _)).setOld (Nat.le_refl _)).setOld (Nat.le_refl _)).setOld (Nat.le_refl _)⟩)
  · skip
    go_wp2_with fail
    refine (Next_c n0 g 2 _ (hs7.ext (by repeat (first | exact Ext.refl _ | assumption | refine Ext.drew ?_ | refine Ext.drewN ?_ _ | refine Ext.iter ?_ _ _ | refine Ext.alloc ?_ _ | refine Ext.setCell ?_ (by first | exact Nat.le_refl _ | (simp <;> omega)) _ | refine Ext.trans2 (by assumption) ?_))) (by omega)).mono ?_; rintro e w8 ⟨zz, rfl, hz0, hz3, -, hs8, hb8⟩; replace hz3 := hz3 (by omega); obtain ⟨zn, rfl⟩ : ∃ zn : Nat, zz = zn := ⟨zz.toNat, by omega⟩; have hzn : (zn : Int) < 2 := hz3; obtain ⟨v, hv, hvb⟩ := pairA 0 9 zn (by omega); have hx8 : Blk w8 x #[.int .i64 i, .int .i64 m, .int .i64 y, .string t] 36 := Blk.but (Blk.ext hx7 (by repeat (first | exact Ext.refl _ | assumption | refine Ext.drew ?_ | refine Ext.drewN ?_ _ | refine Ext.iter ?_ _ _ | refine Ext.alloc ?_ _ | refine Ext.setCell ?_ (by first | exact Nat.le_refl _ | (simp <;> omega)) _ | refine Ext.trans2 (by assumption) ?_))) hb8 hxg; have hbr8 : Blk w8 w.heap.size #[.int .i64 0, .int .i64 0, .int .i64 0, .string ByteArray.empty] 36 := Blk.but (Blk.ext hbr7 (by repeat (first | exact Ext.refl _ | assumption | refine Ext.drew ?_ | refine Ext.drewN ?_ _ | refine Ext.iter ?_ _ _ | refine Ext.alloc ?_ _ | refine Ext.setCell ?_ (by first | exact Nat.le_refl _ | (simp <;> omega)) _ | refine Ext.trans2 (by assumption) ?_))) hb8 (by omega); have hr8 : But g w w8 := But.trans (But.trans hr7 (But.of (by repeat (first | exact Ext.refl _ | assumption | refine Ext.drew ?_ | refine Ext.drewN ?_ _ | refine Ext.iter ?_ _ _ | refine Ext.alloc ?_ _ | refine Ext.setCell ?_ (by first | exact Nat.le_refl _ | (simp <;> omega)) _ | refine Ext.trans2 (by assumption) ?_)))) hb8; clear q0 q1 q2 q3 ql qf; have q0 := hx8.cell (i := 0) (v := .int .i64 i) rfl; have q1 := hx8.cell (i := 1) (v := .int .i64 m) rfl; have q2 := hx8.cell (i := 2) (v := .int .i64 y) rfl; have q3 := hx8.cell (i := 3) (v := .string t) rfl; have ql := hx8.lt; have qf := hx8.free; have hv8 := hb8.size; simp only [World.size_alloc, World.size_drew] at hv8; have sC := (Blk.new w8 #[.int .i64 0, .int .i64 9] 2).cell hv; (have sA := (Blk.but (id (Blk.new w7 #[.int .i64 0, .int .i64 9] 2)) hb8 (by show w7.heap.size ≠ g; omega)).cell hv; have sB := (Blk.but (id (Blk.new w7 #[.int .i64 0, .int .i64 9] 2)) hb8 (by show w7.heap.size ≠ g; omega)).lt); have r0 := hbr8.cell (i := 0) (v := .int .i64 0) rfl; have r1 := hbr8.cell (i := 1) (v := .int .i64 0) rfl; have r2 := hbr8.cell (i := 2) (v := .int .i64 0) rfl; have r3 := hbr8.cell (i := 3) (v := .string ByteArray.empty) rfl; have rl := hbr8.lt; have rf := hbr8.free
    go_wp2_with fail
    clear hv sC sA hx7 hbr7 hr7 hs7 q0 q1 q2 q3 ql qf
    (have hx9 : Blk _ x #[.int .i64 i, .int .i64 v, .int .i64 y, .string t] 36 := hx8.set 1 (.int .i64 v); have hbr9 := hbr8.far (g' := x) (i := 1) (by omega) (.int .i64 v); have hs9 := hs8.set (x := x) (i := 1) (v := .int .i64 v) (by omega); have hr9 := hr8.setOld (x := x) (i := 1) (v := .int .i64 v) (by omega); have k0 := hx9.cell (i := 0) (v := .int .i64 i) rfl; have k1 := hx9.cell (i := 1) (v := .int .i64 v) rfl; have k2 := hx9.cell (i := 2) (v := .int .i64 y) rfl; have k3 := hx9.cell (i := 3) (v := .string t) rfl; have kl := hx9.lt; have kf := hx9.free; have hF := (((hbr9.set 0 (.int .i64 i)).set 1 (.int .i64 v)).set 2 (.int .i64 y)).set 3 (.string t); have c0 := hF.cell (i := 0) (v := .int .i64 i) rfl; have c1 := hF.cell (i := 1) (v := .int .i64 v) rfl; have c2 := hF.cell (i := 2) (v := .int .i64 y) rfl; have c3 := hF.cell (i := 3) (v := .string t) rfl; clear k0 k1 k2 k3 kl kf r0 r1 r2 r3 rl rf hx9; refine bodyPost_ret (v := vPart i v y t) ?_ rfl ?_; simp [results, Try.results82, go_sem, c0, c1, c2, c3, vPart]; exact ⟨_, _, _, t, rfl, ht, (((hs9.set (by omega)).set (by omega)).set (by omega)).set (by omega), (((hr9.setOld (Nat.le_refl _)).setOld (Nat.le_refl _)).setOld (Nat.le_refl _)).setOld (Nat.le_refl _)⟩)
  · skip
    go_wp2_with fail
    refine (Next_c n0 g 2 _ (hs7.ext (by repeat (first | exact Ext.refl _ | assumption | refine Ext.drew ?_ | refine Ext.drewN ?_ _ | refine Ext.iter ?_ _ _ | refine Ext.alloc ?_ _ | refine Ext.setCell ?_ (by first | exact Nat.le_refl _ | (simp <;> omega)) _ | refine Ext.trans2 (by assumption) ?_))) (by omega)).mono ?_; rintro e w8 ⟨zz, rfl, hz0, hz3, -, hs8, hb8⟩; replace hz3 := hz3 (by omega); obtain ⟨zn, rfl⟩ : ∃ zn : Nat, zz = zn := ⟨zz.toNat, by omega⟩; have hzn : (zn : Int) < 2 := hz3; obtain ⟨v, hv, hvb⟩ := pairA (-1) 256 zn (by omega); have hx8 : Blk w8 x #[.int .i64 i, .int .i64 m, .int .i64 y, .string t] 36 := Blk.but (Blk.ext hx7 (by repeat (first | exact Ext.refl _ | assumption | refine Ext.drew ?_ | refine Ext.drewN ?_ _ | refine Ext.iter ?_ _ _ | refine Ext.alloc ?_ _ | refine Ext.setCell ?_ (by first | exact Nat.le_refl _ | (simp <;> omega)) _ | refine Ext.trans2 (by assumption) ?_))) hb8 hxg; have hbr8 : Blk w8 w.heap.size #[.int .i64 0, .int .i64 0, .int .i64 0, .string ByteArray.empty] 36 := Blk.but (Blk.ext hbr7 (by repeat (first | exact Ext.refl _ | assumption | refine Ext.drew ?_ | refine Ext.drewN ?_ _ | refine Ext.iter ?_ _ _ | refine Ext.alloc ?_ _ | refine Ext.setCell ?_ (by first | exact Nat.le_refl _ | (simp <;> omega)) _ | refine Ext.trans2 (by assumption) ?_))) hb8 (by omega); have hr8 : But g w w8 := But.trans (But.trans hr7 (But.of (by repeat (first | exact Ext.refl _ | assumption | refine Ext.drew ?_ | refine Ext.drewN ?_ _ | refine Ext.iter ?_ _ _ | refine Ext.alloc ?_ _ | refine Ext.setCell ?_ (by first | exact Nat.le_refl _ | (simp <;> omega)) _ | refine Ext.trans2 (by assumption) ?_)))) hb8; clear q0 q1 q2 q3 ql qf; have q0 := hx8.cell (i := 0) (v := .int .i64 i) rfl; have q1 := hx8.cell (i := 1) (v := .int .i64 m) rfl; have q2 := hx8.cell (i := 2) (v := .int .i64 y) rfl; have q3 := hx8.cell (i := 3) (v := .string t) rfl; have ql := hx8.lt; have qf := hx8.free; have hv8 := hb8.size; simp only [World.size_alloc, World.size_drew] at hv8; have sC := (Blk.new w8 #[.int .i64 (-1), .int .i64 256] 2).cell hv; (have sA := (Blk.but (id (Blk.new w7 #[.int .i64 (-1), .int .i64 256] 2)) hb8 (by show w7.heap.size ≠ g; omega)).cell hv; have sB := (Blk.but (id (Blk.new w7 #[.int .i64 (-1), .int .i64 256] 2)) hb8 (by show w7.heap.size ≠ g; omega)).lt); have r0 := hbr8.cell (i := 0) (v := .int .i64 0) rfl; have r1 := hbr8.cell (i := 1) (v := .int .i64 0) rfl; have r2 := hbr8.cell (i := 2) (v := .int .i64 0) rfl; have r3 := hbr8.cell (i := 3) (v := .string ByteArray.empty) rfl; have rl := hbr8.lt; have rf := hbr8.free
    go_wp2_with fail
    clear hv sC sA hx7 hbr7 hr7 hs7 q0 q1 q2 q3 ql qf
    (have hx9 : Blk _ x #[.int .i64 i, .int .i64 m, .int .i64 v, .string t] 36 := hx8.set 2 (.int .i64 v); have hbr9 := hbr8.far (g' := x) (i := 2) (by omega) (.int .i64 v); have hs9 := hs8.set (x := x) (i := 2) (v := .int .i64 v) (by omega); have hr9 := hr8.setOld (x := x) (i := 2) (v := .int .i64 v) (by omega); have k0 := hx9.cell (i := 0) (v := .int .i64 i) rfl; have k1 := hx9.cell (i := 1) (v := .int .i64 m) rfl; have k2 := hx9.cell (i := 2) (v := .int .i64 v) rfl; have k3 := hx9.cell (i := 3) (v := .string t) rfl; have kl := hx9.lt; have kf := hx9.free; have hF := (((hbr9.set 0 (.int .i64 i)).set 1 (.int .i64 m)).set 2 (.int .i64 v)).set 3 (.string t); have c0 := hF.cell (i := 0) (v := .int .i64 i) rfl; have c1 := hF.cell (i := 1) (v := .int .i64 m) rfl; have c2 := hF.cell (i := 2) (v := .int .i64 v) rfl; have c3 := hF.cell (i := 3) (v := .string t) rfl; clear k0 k1 k2 k3 kl kf r0 r1 r2 r3 rl rf hx9; refine bodyPost_ret (v := vPart i m v t) ?_ rfl ?_; simp [results, Try.results82, go_sem, c0, c1, c2, c3, vPart]; exact ⟨_, _, _, t, rfl, ht, (((hs9.set (by omega)).set (by omega)).set (by omega)).set (by omega), (((hr9.setOld (Nat.le_refl _)).setOld (Nat.le_refl _)).setOld (Nat.le_refl _)).setOld (Nat.le_refl _)⟩)
  · have n0 : (z == 0) = false := by simpa using d0
    have n1 : (z == 1) = false := by simpa using d1
    have n2 : (z == 2) = false := by simpa using d2
    clear q0 q1 q2 q3 ql qf
    (have hx9 : Blk _ x #[.int .i64 i, .int .i64 m, .int .i64 y, .string t] 36 := hx7; have hbr9 := hbr7; have hs9 := hs7; have hr9 := hr7; have k0 := hx9.cell (i := 0) (v := .int .i64 i) rfl; have k1 := hx9.cell (i := 1) (v := .int .i64 m) rfl; have k2 := hx9.cell (i := 2) (v := .int .i64 y) rfl; have k3 := hx9.cell (i := 3) (v := .string t) rfl; have kl := hx9.lt; have kf := hx9.free; have r0 := hbr9.cell (i := 0) (v := .int .i64 0) rfl; have r1 := hbr9.cell (i := 1) (v := .int .i64 0) rfl; have r2 := hbr9.cell (i := 2) (v := .int .i64 0) rfl; have r3 := hbr9.cell (i := 3) (v := .string ByteArray.empty) rfl; have rl := hbr9.lt; have rf := hbr9.free; go_wp2_with fail; have hF := (((hbr9.set 0 (.int .i64 i)).set 1 (.int .i64 m)).set 2 (.int .i64 y)).set 3 (.string t); have c0 := hF.cell (i := 0) (v := .int .i64 i) rfl; have c1 := hF.cell (i := 1) (v := .int .i64 m) rfl; have c2 := hF.cell (i := 2) (v := .int .i64 y) rfl; have c3 := hF.cell (i := 3) (v := .string t) rfl; clear k0 k1 k2 k3 kl kf r0 r1 r2 r3 rl rf hx9; refine bodyPost_ret (v := vPart i m y t) ?_ rfl ?_; simp [results, Try.results82, go_sem, c0, c1, c2, c3, vPart]; exact ⟨_, _, _, t, rfl, ht, (((hs9.set (by omega)).set (by omega)).set (by omega)).set (by omega), (((hr9.setOld (Nat.le_refl _)).setOld (Nat.le_refl _)).setOld (Nat.le_refl _)).setOld (Nat.le_refl _)⟩)
end Go.Proofs.Ytbnpdpmbbppnhaa
