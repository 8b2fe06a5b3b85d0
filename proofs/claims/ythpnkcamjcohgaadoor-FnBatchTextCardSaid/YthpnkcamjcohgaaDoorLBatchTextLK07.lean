/- Drawn texts that are changed slightly, sometimes. -/
import Derived.Test.YthpnkcamjcohgaaDoorLBatchTextLK06
import Derived.Test.YthpnkcamjcohgaaDoorLBatchTextLK01
/-! Drawn texts that are changed slightly, sometimes. -/
namespace Go.Proofs.YthpnkcamjcohgaaDoor
set_option linter.unusedVariables false
set_option linter.unusedSimpArgs false
open Go.RowKit

/-- A text of at most n bytes has been drawn; only the source has turned. -/
def TxD (n0 g n : Nat) (w : World) (e : Ending) (w' : World) : Prop := ∃ t : ByteArray, e = .returned (.string t) ∧ t.size ≤ n ∧ Src n0 w' g ∧ But g w w'
abbrev strs8 : Array Value := #[.string ⟨#[48]⟩, .string ⟨#[49]⟩, .string ⟨#[32]⟩, .string ⟨#[58]⟩, .string ⟨#[44]⟩, .string ⟨#[45]⟩, .string ⟨#[97]⟩, .string ⟨#[10]⟩]
theorem strsA (j : Nat) (hj : j < 8) : ∃ v : ByteArray, strs8[j]? = some (.string v) ∧ v.size = 1 := by
  match j, hj with
  | 0, _ => exact ⟨_, rfl, rfl⟩
  | 1, _ => exact ⟨_, rfl, rfl⟩
  | 2, _ => exact ⟨_, rfl, rfl⟩
  | 3, _ => exact ⟨_, rfl, rfl⟩
  | 4, _ => exact ⟨_, rfl, rfl⟩
  | 5, _ => exact ⟨_, rfl, rfl⟩
  | 6, _ => exact ⟨_, rfl, rfl⟩
  | 7, _ => exact ⟨_, rfl, rfl⟩
set_option maxHeartbeats 800000 in
set_option maxRecDepth 100000 in
theorem l01Damage_c (n0 g : Nat) (t : ByteArray) (w : World) (h : Src n0 w g) (hn0 : n0 ≤ w.heap.size) (ht : t.size ≤ 1048576) :
    Calls Tryd.prog 69 #[.pointer (some ⟨g, 0, none⟩), .string t] w fun e w' => TxD n0 g (t.size + 1) w e w' := by
  have hg : g < n0 := h.1
  have e0 := IntWalk.i64_in ((t.size : Int) + 1) (by omega)
  go_enter Tryd.func69, Tryd.ntmps69
  go_wp2_with fail
  clear e0
  refine (Next_c n0 g _ _ h (by omega)).mono ?_
  rintro e w1 ⟨k, rfl, hk0, hk1, hk2, hs1, hb1⟩
  obtain ⟨K, rfl⟩ : ∃ K : Nat, k = K := ⟨k.toNat, by omega⟩
  have hK : K ≤ t.size := by
    rcases Nat.eq_zero_or_pos t.size with h0 | h0
    · have := hk2 (by omega); omega
    · have := hk1 (by omega); omega
  have hKi : (K : Int) ≤ t.size := by omega
  have hz1 := hb1.size
  clear hk0 hk1 hk2
  go_wp2_with fail
  refine (Next_c n0 g 8 _ hs1 (by omega)).mono ?_
  rintro e w2 ⟨z, rfl, -, -, -, hs2, hb2⟩
  have hz2 := hb2.size
  have hb02 := hb1.trans hb2
  clear hs1 hb1 hb2 h
  have hz : z = 0 ∨ z = 1 ∨ z = 2 ∨ (z ≠ 0 ∧ z ≠ 1 ∧ z ≠ 2) := by omega
  rcases hz with rfl | rfl | rfl | ⟨d0, d1, d2⟩
  · go_wp2
    go_ret
    exact ⟨_, rfl, by rw [ByteArray.size_extract]; omega, hs2, hb02⟩
  · have hL1 : ¬ 9223372036854775807 < K + 1 := by omega
    have hL2 : ¬ 9223372036854775807 < K + 1 + (t.size - K) := by omega
    go_wp2_with fail
    refine wp_region_c3 (fun w' => True) (.st 0 (.st 1 (.st 2 (.st 4 (.st 9 (.st 10 (.st 11 (.two 3 (.one 5 (.st 6 (.one 7 (.st 8 (.st 12 (.st 13 .done)))))) 5 (.one 3 (.st 6 (.one 7 (.st 8 (.st 12 (.st 13 .done)))))))))))))) (by kernel_rfl) (by kernel_rfl) (by decide) (by kernel_rfl) ?_ ?_
    · exact trivial
    refine c3_intro fun ops eo => ?_
    have ho0 := canon_at eo 0 rfl
    have ho1 := canon_at eo 1 rfl
    have ho2 := canon_at eo 2 rfl
    have ho3 := canon_at eo 3 rfl
    have ho4 := canon_at eo 4 rfl
    have ho5 := canon_at eo 5 rfl
    have ho6 := canon_at eo 6 rfl
    have ho7 := canon_at eo 7 rfl
    have ho8 := canon_at eo 8 rfl
    have ho9 := canon_at eo 9 rfl
    have ho10 := canon_at eo 10 rfl
    have ho11 := canon_at eo 11 rfl
    have ho12 := canon_at eo 12 rfl
    have ho13 := canon_at eo 13 rfl
    clear eo
    all_goals (apply c3_st ho0 rfl; (intro w2 hS; first | (go_simp; first | done | rfl) | rfl | (skip; go_simp; first | done | rfl)); simp only [Act.put, List.setIfInBounds_toArray, List.set_cons_zero, List.set_cons_succ])
    all_goals clear ho0
    all_goals (apply c3_st ho1 rfl; (intro w2 hS; first | (go_simp; first | done | rfl) | rfl | (skip; go_simp; first | done | rfl)); simp only [Act.put, List.setIfInBounds_toArray, List.set_cons_zero, List.set_cons_succ])
    all_goals clear ho1
    all_goals (apply c3_st ho2 rfl; (intro w2 hS; first | (go_simp; first | done | rfl) | rfl | (skip; go_simp; first | done | rfl)); simp only [Act.put, List.setIfInBounds_toArray, List.set_cons_zero, List.set_cons_succ])
    all_goals clear ho2
    all_goals (apply c3_st ho4 rfl; (intro w2 hS; first | (go_simp; first | done | rfl) | rfl | (skip; go_simp; first | done | rfl)); simp only [Act.put, List.setIfInBounds_toArray, List.set_cons_zero, List.set_cons_succ])
    all_goals clear ho4
    all_goals (apply c3_st ho9 rfl; (intro w2 hS; first | (go_simp; first | done | rfl) | rfl | (skip; go_simp; first | done | rfl)); simp only [Act.put, List.setIfInBounds_toArray, List.set_cons_zero, List.set_cons_succ])
    all_goals clear ho9
    all_goals (apply c3_st ho10 rfl; (intro w2 hS; first | (go_simp; first | done | rfl) | rfl | (skip; go_simp; first | done | rfl)); simp only [Act.put, List.setIfInBounds_toArray, List.set_cons_zero, List.set_cons_succ])
    all_goals clear ho10
    all_goals (apply c3_st ho11 rfl; (intro w2 hS; first | (go_simp; first | done | rfl) | rfl | (skip; go_simp; first | done | rfl)); simp only [Act.put, List.setIfInBounds_toArray, List.set_cons_zero, List.set_cons_succ])
    all_goals clear ho11
    all_goals
      refine c3_two ?_ ?_
      rotate_right 1
      focus
        all_goals first | (refine c3_op ho5 rfl (fun K hK => ?_); go_simp; ((go_at_call 49; (with_reducible refine (Next_c n0 g 8 _ (hs2.ext (by repeat (first | exact Ext.refl _ | assumption | refine Ext.drew ?_ | refine Ext.drewN ?_ _ | refine Ext.iter ?_ _ _ | refine Ext.alloc ?_ _ | refine Ext.setCell ?_ (by first | exact Nat.le_refl _ | (simp <;> omega)) _ | refine Ext.trans2 (by assumption) ?_))) (by omega)).mono ?_); rintro e w3 ⟨zz, rfl, hz0, hz3, -, hs3, hb3⟩; replace hz3 := hz3 (by omega); obtain ⟨zn, rfl⟩ : ∃ zn : Nat, zz = zn := ⟨zz.toNat, by omega⟩; have hzn : (zn : Int) < 8 := hz3; obtain ⟨v, hv, hvs⟩ := strsA zn (by omega); have hb3' : But g w w3 := But.trans (But.trans hb02 (But.of (by repeat (first | exact Ext.refl _ | assumption | refine Ext.drew ?_ | refine Ext.drewN ?_ _ | refine Ext.iter ?_ _ _ | refine Ext.alloc ?_ _ | refine Ext.setCell ?_ (by first | exact Nat.le_refl _ | (simp <;> omega)) _ | refine Ext.trans2 (by assumption) ?_)))) hb3; have hv3 := hb3.size; simp only [World.size_alloc, World.size_drew] at hv3; have sC := (Blk.new w3 strs8 9).cell hv; try (have sA := (Blk.but (Blk.drew (Blk.new w2 strs8 9)) hb3 (by show w2.heap.size ≠ g; omega)).cell hv; have sB := (Blk.but (Blk.drew (Blk.new w2 strs8 9)) hb3 (by show w2.heap.size ≠ g; omega)).lt))); all_goals ((with_reducible refine hK _ _ ?_); refine ⟨trivial, ?_⟩; clear hK K; go_simp))
        all_goals clear ho5
        all_goals refine c3_one ?_
        all_goals first | (refine c3_op ho3 rfl (fun K hK => ?_); go_simp; (skip); all_goals ((with_reducible refine hK _ _ ?_); refine ⟨trivial, ?_⟩; clear hK K; go_simp))
        all_goals clear ho3
        all_goals (apply c3_st ho6 rfl; (intro w2 hS; first | (go_simp; first | done | rfl) | rfl | (skip; go_simp; first | done | rfl)); simp only [Act.put, List.setIfInBounds_toArray, List.set_cons_zero, List.set_cons_succ])
        all_goals clear ho6
        all_goals refine c3_one ?_
        all_goals first | (refine c3_op ho7 rfl (fun K hK => ?_); go_simp; (skip); all_goals ((with_reducible refine hK _ _ ?_); refine ⟨trivial, ?_⟩; clear hK K; go_simp))
        all_goals clear ho7
        all_goals (apply c3_st ho8 rfl; (intro w2 hS; first | (go_simp; first | done | rfl) | rfl | (skip; go_simp; first | done | rfl)); simp only [Act.put, List.setIfInBounds_toArray, List.set_cons_zero, List.set_cons_succ])
        all_goals clear ho8
        all_goals (apply c3_st ho12 rfl; (intro w2 hS; first | (go_simp; first | done | rfl) | rfl | (skip; go_simp; first | done | rfl)); simp only [Act.put, List.setIfInBounds_toArray, List.set_cons_zero, List.set_cons_succ])
        all_goals clear ho12
        all_goals (apply c3_st ho13 rfl; (intro w2 hS; first | (go_simp; first | done | rfl) | rfl | (skip; go_simp; first | done | rfl)); simp only [Act.put, List.setIfInBounds_toArray, List.set_cons_zero, List.set_cons_succ])
        all_goals clear ho13
        all_goals refine c3_done (NoPanic.normal ?_)
      rotate_right 1
      focus
        all_goals first | (refine c3_op ho3 rfl (fun K hK => ?_); go_simp; (skip); all_goals ((with_reducible refine hK _ _ ?_); refine ⟨trivial, ?_⟩; clear hK K; go_simp))
        all_goals clear ho3
        all_goals refine c3_one ?_
        all_goals first | (refine c3_op ho5 rfl (fun K hK => ?_); go_simp; ((go_at_call 49; (with_reducible refine (Next_c n0 g 8 _ (hs2.ext (by repeat (first | exact Ext.refl _ | assumption | refine Ext.drew ?_ | refine Ext.drewN ?_ _ | refine Ext.iter ?_ _ _ | refine Ext.alloc ?_ _ | refine Ext.setCell ?_ (by first | exact Nat.le_refl _ | (simp <;> omega)) _ | refine Ext.trans2 (by assumption) ?_))) (by omega)).mono ?_); rintro e w3 ⟨zz, rfl, hz0, hz3, -, hs3, hb3⟩; replace hz3 := hz3 (by omega); obtain ⟨zn, rfl⟩ : ∃ zn : Nat, zz = zn := ⟨zz.toNat, by omega⟩; have hzn : (zn : Int) < 8 := hz3; obtain ⟨v, hv, hvs⟩ := strsA zn (by omega); have hb3' : But g w w3 := But.trans (But.trans hb02 (But.of (by repeat (first | exact Ext.refl _ | assumption | refine Ext.drew ?_ | refine Ext.drewN ?_ _ | refine Ext.iter ?_ _ _ | refine Ext.alloc ?_ _ | refine Ext.setCell ?_ (by first | exact Nat.le_refl _ | (simp <;> omega)) _ | refine Ext.trans2 (by assumption) ?_)))) hb3; have hv3 := hb3.size; simp only [World.size_alloc, World.size_drew] at hv3; have sC := (Blk.new w3 strs8 9).cell hv; try (have sA := (Blk.but (Blk.drew (Blk.new w2 strs8 9)) hb3 (by show w2.heap.size ≠ g; omega)).cell hv; have sB := (Blk.but (Blk.drew (Blk.new w2 strs8 9)) hb3 (by show w2.heap.size ≠ g; omega)).lt))); all_goals ((with_reducible refine hK _ _ ?_); refine ⟨trivial, ?_⟩; clear hK K; go_simp))
        all_goals clear ho5
        all_goals (apply c3_st ho6 rfl; (intro w2 hS; first | (go_simp; first | done | rfl) | rfl | (skip; go_simp; first | done | rfl)); simp only [Act.put, List.setIfInBounds_toArray, List.set_cons_zero, List.set_cons_succ])
        all_goals clear ho6
        all_goals refine c3_one ?_
        all_goals first | (refine c3_op ho7 rfl (fun K hK => ?_); go_simp; (skip); all_goals ((with_reducible refine hK _ _ ?_); refine ⟨trivial, ?_⟩; clear hK K; go_simp))
        all_goals clear ho7
        all_goals (apply c3_st ho8 rfl; (intro w2 hS; first | (go_simp; first | done | rfl) | rfl | (skip; go_simp; first | done | rfl)); simp only [Act.put, List.setIfInBounds_toArray, List.set_cons_zero, List.set_cons_succ])
        all_goals clear ho8
        all_goals (apply c3_st ho12 rfl; (intro w2 hS; first | (go_simp; first | done | rfl) | rfl | (skip; go_simp; first | done | rfl)); simp only [Act.put, List.setIfInBounds_toArray, List.set_cons_zero, List.set_cons_succ])
        all_goals clear ho12
        all_goals (apply c3_st ho13 rfl; (intro w2 hS; first | (go_simp; first | done | rfl) | rfl | (skip; go_simp; first | done | rfl)); simp only [Act.put, List.setIfInBounds_toArray, List.set_cons_zero, List.set_cons_succ])
        all_goals clear ho13
        all_goals refine c3_done (NoPanic.normal ?_)
    all_goals
      go_wp2
      go_ret
      first
        | exact ⟨_, rfl, by simp only [ByteArray.size_append, ByteArray.size_extract]; omega, hs3, hb3'⟩
        | exact ⟨_, rfl, by simp only [ByteArray.size_append, ByteArray.size_extract]; omega, hs3.ext (by repeat (first | exact Ext.refl _ | assumption | refine Ext.drew ?_ | refine Ext.drewN ?_ _ | refine Ext.iter ?_ _ _ | refine Ext.alloc ?_ _ | refine Ext.setCell ?_ (by first | exact Nat.le_refl _ | (simp <;> omega)) _ | refine Ext.trans2 (by assumption) ?_)), hb3'.trans (But.of (by repeat (first | exact Ext.refl _ | assumption | refine Ext.drew ?_ | refine Ext.drewN ?_ _ | refine Ext.iter ?_ _ _ | refine Ext.alloc ?_ _ | refine Ext.setCell ?_ (by first | exact Nat.le_refl _ | (simp <;> omega)) _ | refine Ext.trans2 (by assumption) ?_)))⟩
  · by_cases hlt : K < t.size
    · have hlti : (K : Int) < t.size := by omega
      have e1 := IntWalk.i64_in ((K : Int) + 1) (by omega)
      have e2 : (0 : Int) ≤ (K : Int) + 1 := by omega
      have e3 : ((K : Int) + 1).toNat = K + 1 := by omega
      go_wp2_with fail
      go_quiet (fail)
      go_wp2
      go_ret
      exact ⟨_, rfl, by simp only [ByteArray.size_append, ByteArray.size_extract]; omega, hs2.ext (by repeat (first | exact Ext.refl _ | assumption | refine Ext.drew ?_ | refine Ext.drewN ?_ _ | refine Ext.iter ?_ _ _ | refine Ext.alloc ?_ _ | refine Ext.setCell ?_ (by first | exact Nat.le_refl _ | (simp <;> omega)) _ | refine Ext.trans2 (by assumption) ?_)), hb02.trans (But.of (by repeat (first | exact Ext.refl _ | assumption | refine Ext.drew ?_ | refine Ext.drewN ?_ _ | refine Ext.iter ?_ _ _ | refine Ext.alloc ?_ _ | refine Ext.setCell ?_ (by first | exact Nat.le_refl _ | (simp <;> omega)) _ | refine Ext.trans2 (by assumption) ?_)))⟩
    · have hlti : ¬ (K : Int) < t.size := by omega
      go_wp2
      go_ret
      exact ⟨_, rfl, by omega, hs2, hb02⟩
  · have n0 : (z == 0) = false := by simpa using d0
    have n1 : (z == 1) = false := by simpa using d1
    have n2 : (z == 2) = false := by simpa using d2
    go_wp2
    go_ret
    exact ⟨_, rfl, by omega, hs2, hb02⟩
end Go.Proofs.YthpnkcamjcohgaaDoor
