
/- Damages in the laws: conversions and compare. -/
import Derived.Test.YthpnkcamjcohgaaDoorDamT
namespace Go.Proofs.YthpnkcamjcohgaaDoor
set_option linter.unusedVariables false
set_option linter.unusedSimpArgs false
open Go.RowKit

theorem fD_len (d : Dam) : (fD d).length = 6 := rfl
set_option maxRecDepth 100000 in
theorem toDamage_c (k r c t v g : Int) (W : World) :
    Calls Tryd.prog 40 #[vDm k r c t v g] W fun e w' => e = .returned (vDm k r c t v g) ∧ Ext W w' := by
  go_enter Tryd.func40, Tryd.ntmps40
  go_wp2
  exact bodyPost_ret (v := vDm k r c t v g) (by simp [results, Tryd.results40, go_sem]) rfl ⟨rfl, (by repeat (first | exact Ext.refl _ | assumption | refine Ext.drew ?_ | refine Ext.drewN ?_ _ | refine Ext.iter ?_ _ _ | refine Ext.alloc ?_ _ | refine Ext.setCell ?_ (by first | exact Nat.le_refl _ | (simp <;> omega)) _ | refine Ext.trans2 (by assumption) ?_))⟩
set_option maxRecDepth 100000 in
theorem szDamageS_c (p : Option Addr) (c n : Nat) (W : World) (hn : n ≤ 9223372036854775807) :
    Calls Tryd.prog 7 #[.slice p n c, .int .i64 1048576] W fun e w' => e = .returned (.int .i64 (if 1048576 < n then -1 else 1048576 - n)) ∧ Ext W w' := by
  have e1 := IntWalk.i64_in ((1048576 : Int) - n) (by omega)
  by_cases h : 1048576 < n
  · have hi : (1048576 : Int) - n < 0 := by omega
    rw [if_pos h]
    go_enter Tryd.func7, Tryd.ntmps7
    go_wp2
    go_ret
    exact ⟨rfl, (by repeat (first | exact Ext.refl _ | assumption | refine Ext.drew ?_ | refine Ext.drewN ?_ _ | refine Ext.iter ?_ _ _ | refine Ext.alloc ?_ _ | refine Ext.setCell ?_ (by first | exact Nat.le_refl _ | (simp <;> omega)) _ | refine Ext.trans2 (by assumption) ?_))⟩
  · have hi : ¬ (1048576 : Int) - n < 0 := by omega
    rw [if_neg h]
    go_enter Tryd.func7, Tryd.ntmps7
    go_wp2
    go_ret
    exact ⟨rfl, (by repeat (first | exact Ext.refl _ | assumption | refine Ext.drew ?_ | refine Ext.drewN ?_ _ | refine Ext.iter ?_ _ _ | refine Ext.alloc ?_ _ | refine Ext.setCell ?_ (by first | exact Nat.le_refl _ | (simp <;> omega)) _ | refine Ext.trans2 (by assumption) ?_))⟩
set_option maxRecDepth 100000 in
theorem eqDamage_c (k r c t v g : Int) (W : World) :
    Calls Tryd.prog 45 #[vDm k r c t v g, vDm k r c t v g] W fun e w' => e = .returned (.bool true) ∧ Ext W w' := by
  go_enter Tryd.func45, Tryd.ntmps45
  go_wp2
  go_ret
  exact ⟨rfl, (by repeat (first | exact Ext.refl _ | assumption | refine Ext.drew ?_ | refine Ext.drewN ?_ _ | refine Ext.iter ?_ _ _ | refine Ext.alloc ?_ _ | refine Ext.setCell ?_ (by first | exact Nat.le_refl _ | (simp <;> omega)) _ | refine Ext.trans2 (by assumption) ?_))⟩
set_option maxHeartbeats 1600000 in
set_option maxRecDepth 100000 in
theorem toDamageS_c (p : Option Addr) (c : Nat) (xs : List Dam) (w : World) (hx : SAt fD 6 w p xs) (hl : xs.length ≤ 1048576) :
    Calls Tryd.prog 9 #[.slice p xs.length c] w fun e w' => (∃ q, e = .returned (.slice q xs.length xs.length) ∧ SOwn fD 6 w.heap.size w' q xs) ∧ Ext w w' := by
  have hI1 : Tryd.prog.underlying 25 = some (.slice 72) := by kernel_rfl
  have hI2 : (Tryd.prog.info? 72).map (fun i => (i.zero, i.size, i.bytes)) = some (some (.agg #[.int .i64 0, .int .i64 0, .int .i64 0, .int .i64 0, .int .i64 0, .int .i64 0]), 6, 48) := by kernel_rfl
  go_enter Tryd.func9, Tryd.ntmps9
  go_wp2_with (first | (at_make; go_loud (refine make_blk hI1 hI2 xs.length ?_ ?_ (by omega) (by omega) ?_; rfl; rfl)))
  have hb := Blk.new w (madeCells (Value.agg #[.int .i64 0, .int .i64 0, .int .i64 0, .int .i64 0, .int .i64 0, .int .i64 0]).cells (xs.length * 6)) 72
  clear hI1 hI2
  go_loopw [4] (fun i wr => ∃ (k : Nat) (cs : Array Value), k ≤ xs.length ∧ i = .int .i64 k ∧ Blk wr w.heap.size cs 72 ∧ Hid (TabS fD 6 xs cs k) ∧ Ext w wr) (fun i _ => xs.length - (intOf i).toNat)
  case atStart => exact ⟨0, _, Nat.zero_le _, rfl, hb, Lib.hid ⟨size_madeCells _ _, fun j _ h => by omega⟩, (by repeat (first | exact Ext.refl _ | assumption | refine Ext.drew ?_ | refine Ext.drewN ?_ _ | refine Ext.iter ?_ _ _ | refine Ext.alloc ?_ _ | refine Ext.setCell ?_ (by first | exact Nat.le_refl _ | (simp <;> omega)) _ | refine Ext.trans2 (by assumption) ?_))⟩
  case round =>
    clear hb
    obtain ⟨k, cs, hk, rfl, hb, hT, hext⟩ := hrel
    by_cases hlt : k < xs.length
    · obtain ⟨b, o, rfl, hbl, y⟩ := (hx.ext hext) k hlt
      have hT2 := hT.out.step fD_len hlt
      have hn := hT.out.1
      clear hx
      generalize xs[k]'hlt = X at *
      obtain ⟨k1, r1, c1, t1, w1, g1⟩ := X
      have y0 : wr.cell? ⟨b, o + k * 6, none⟩ = some (.int .i64 k1) := y 0 _ rfl
      have y1 : wr.cell? ⟨b, o + k * 6 + 1, none⟩ = some (.int .i64 r1) := y 1 _ rfl
      have y2 : wr.cell? ⟨b, o + k * 6 + 2, none⟩ = some (.int .i64 c1) := y 2 _ rfl
      have y3 : wr.cell? ⟨b, o + k * 6 + 3, none⟩ = some (.int .i64 t1) := y 3 _ rfl
      have y4 : wr.cell? ⟨b, o + k * 6 + 4, none⟩ = some (.int .i64 w1) := y 4 _ rfl
      have y5 : wr.cell? ⟨b, o + k * 6 + 5, none⟩ = some (.int .i64 g1) := y 5 _ rfl
      clear y
      replace hT2 := Lib.hid hT2
      obtain ⟨z0, z0'⟩ : ∃ v, cs[k * 6]? = some v := ⟨_, Array.getElem?_eq_getElem (by omega)⟩
      obtain ⟨z1, z1'⟩ : ∃ v, cs[k * 6 + 1]? = some v := ⟨_, Array.getElem?_eq_getElem (by omega)⟩
      obtain ⟨z2, z2'⟩ : ∃ v, cs[k * 6 + 2]? = some v := ⟨_, Array.getElem?_eq_getElem (by omega)⟩
      obtain ⟨z3, z3'⟩ : ∃ v, cs[k * 6 + 3]? = some v := ⟨_, Array.getElem?_eq_getElem (by omega)⟩
      obtain ⟨z4, z4'⟩ : ∃ v, cs[k * 6 + 4]? = some v := ⟨_, Array.getElem?_eq_getElem (by omega)⟩
      obtain ⟨z5, z5'⟩ : ∃ v, cs[k * 6 + 5]? = some v := ⟨_, Array.getElem?_eq_getElem (by omega)⟩
      go_wp2_with (first
        | (go_at_call 40; refine (toDamage_c _ _ _ _ _ _ _).mono ?_; rintro e w7 ⟨rfl, hb1⟩; have hbb := hb.ext hb1; have q0 := hbb.cell z0'; have q1 := hbb.cell z1'; have q2 := hbb.cell z2'; have q3 := hbb.cell z3'; have q4 := hbb.cell z4'; have q5 := hbb.cell z5'; have q6 := hbb.lt; have q7 := hbb.free))
      go_roundw
      case rel => exact ⟨k + 1, _, hlt, by go_num, (((((hbb.set _ _).set _ _).set _ _).set _ _).set _ _).set _ _, hT2, ((((((hext.trans hb1).setCell (Nat.le_refl _) _).setCell (Nat.le_refl _) _).setCell (Nat.le_refl _) _).setCell (Nat.le_refl _) _).setCell (Nat.le_refl _) _).setCell (Nat.le_refl _) _⟩
      case measure => simp [intOf]; omega
    · clear hx
      obtain rfl : k = xs.length := by omega
      go_wp2
      go_ret
      exact ⟨⟨_, rfl, hT.out.own fD_len hb (Nat.le_refl _)⟩, hext⟩
set_option maxHeartbeats 800000 in
set_option maxRecDepth 100000 in
theorem eqDamageS_c (p q : Option Addr) (c d : Nat) (xs : List Dam) (w : World) (hx : SAt fD 6 w p xs) (hy : SAt fD 6 w q xs) (hl : xs.length ≤ 1048576) :
    Calls Tryd.prog 11 #[.slice p xs.length c, .slice q xs.length d] w fun e w' => e = .returned (.bool true) ∧ Ext w w' := by
  have HX := Lib.hid hx; have HY := Lib.hid hy; clear hx hy
  go_enter Tryd.func11, Tryd.ntmps11
  go_wp2_with fail
  go_loopw [5] (fun i wr => ∃ k : Nat, k ≤ xs.length ∧ i = .int .i64 k ∧ Ext w wr) (fun i _ => xs.length - (intOf i).toNat)
  case atStart => exact ⟨0, Nat.zero_le _, rfl, (by repeat (first | exact Ext.refl _ | assumption | refine Ext.drew ?_ | refine Ext.drewN ?_ _ | refine Ext.iter ?_ _ _ | refine Ext.alloc ?_ _ | refine Ext.setCell ?_ (by first | exact Nat.le_refl _ | (simp <;> omega)) _ | refine Ext.trans2 (by assumption) ?_))⟩
  case round =>
    obtain ⟨k, hk, rfl, hext⟩ := hrel
    by_cases hlt : k < xs.length
    · obtain ⟨b, o, rfl, hbl, y⟩ := (HX.out.ext hext) k hlt
      obtain ⟨b2, o2, rfl, hbl2, z⟩ := (HY.out.ext hext) k hlt
      generalize xs[k]'hlt = X at *
      obtain ⟨k1, r1, c1, t1, w1, g1⟩ := X
      have y0 : wr.cell? ⟨b, o + k * 6, none⟩ = some (.int .i64 k1) := y 0 _ rfl
      have y1 : wr.cell? ⟨b, o + k * 6 + 1, none⟩ = some (.int .i64 r1) := y 1 _ rfl
      have y2 : wr.cell? ⟨b, o + k * 6 + 2, none⟩ = some (.int .i64 c1) := y 2 _ rfl
      have y3 : wr.cell? ⟨b, o + k * 6 + 3, none⟩ = some (.int .i64 t1) := y 3 _ rfl
      have y4 : wr.cell? ⟨b, o + k * 6 + 4, none⟩ = some (.int .i64 w1) := y 4 _ rfl
      have y5 : wr.cell? ⟨b, o + k * 6 + 5, none⟩ = some (.int .i64 g1) := y 5 _ rfl
      have z0 : wr.cell? ⟨b2, o2 + k * 6, none⟩ = some (.int .i64 k1) := z 0 _ rfl
      have z1 : wr.cell? ⟨b2, o2 + k * 6 + 1, none⟩ = some (.int .i64 r1) := z 1 _ rfl
      have z2 : wr.cell? ⟨b2, o2 + k * 6 + 2, none⟩ = some (.int .i64 c1) := z 2 _ rfl
      have z3 : wr.cell? ⟨b2, o2 + k * 6 + 3, none⟩ = some (.int .i64 t1) := z 3 _ rfl
      have z4 : wr.cell? ⟨b2, o2 + k * 6 + 4, none⟩ = some (.int .i64 w1) := z 4 _ rfl
      have z5 : wr.cell? ⟨b2, o2 + k * 6 + 5, none⟩ = some (.int .i64 g1) := z 5 _ rfl
      clear y z
      have heq := Lib.hid (fun W => eqDamage_c k1 r1 c1 t1 w1 g1 W)
      go_upto_region 6 with (fail)
      refine wp_region_canon (fun w' => Ext wr w') [(0, true), (1, true), (2, true), (3, true), (4, true), (5, true), (6, true), (7, true), (8, false), (9, true)] (by kernel_rfl) (by kernel_rfl) (by decide) (by kernel_rfl) ?_ ?_
      · exact (by repeat (first | exact Ext.refl _ | assumption | refine Ext.drew ?_ | refine Ext.drewN ?_ _ | refine Ext.iter ?_ _ _ | refine Ext.alloc ?_ _ | refine Ext.setCell ?_ (by first | exact Nat.le_refl _ | (simp <;> omega)) _ | refine Ext.trans2 (by assumption) ?_))
      refine canon_intro fun ops eo => ?_
      have ho0 := canon_at eo 0 rfl
      have ho1 := canon_at eo 1 rfl
      have ho2 := canon_at eo 2 rfl
      have ho3 := canon_at eo 3 rfl
      have ho4 := canon_at eo 4 rfl
      have ho5 := canon_at eo 5 rfl
      have ho6 := canon_at eo 6 rfl
      have ho7 := canon_at eo 7 rfl
      have ho8 := canon_at eo 8 rfl
      have ho9 := canon_at eo 9 rfl
      clear eo
      all_goals (apply canon_st ho0 rfl; (intro w2 hS; first | (go_simp; first | done | rfl) | rfl | (obtain ⟨hc', hf', hk', hz⟩ := ecell hS; go_simp; first | done | rfl)); simp only [Act.put, List.setIfInBounds_toArray, List.set_cons_zero, List.set_cons_succ])
      all_goals clear ho0
      all_goals (apply canon_st ho1 rfl; (intro w2 hS; first | (go_simp; first | done | rfl) | rfl | (obtain ⟨hc', hf', hk', hz⟩ := ecell hS; go_simp; first | done | rfl)); simp only [Act.put, List.setIfInBounds_toArray, List.set_cons_zero, List.set_cons_succ])
      all_goals clear ho1
      all_goals (apply canon_st ho2 rfl; (intro w2 hS; first | (go_simp; first | done | rfl) | rfl | (obtain ⟨hc', hf', hk', hz⟩ := ecell hS; go_simp; first | done | rfl)); simp only [Act.put, List.setIfInBounds_toArray, List.set_cons_zero, List.set_cons_succ])
      all_goals clear ho2
      all_goals (apply canon_st ho3 rfl; (intro w2 hS; first | (go_simp; first | done | rfl) | rfl | (obtain ⟨hc', hf', hk', hz⟩ := ecell hS; go_simp; first | done | rfl)); simp only [Act.put, List.setIfInBounds_toArray, List.set_cons_zero, List.set_cons_succ])
      all_goals clear ho3
      all_goals (apply canon_st ho4 rfl; (intro w2 hS; first | (go_simp; first | done | rfl) | rfl | (obtain ⟨hc', hf', hk', hz⟩ := ecell hS; go_simp; first | done | rfl)); simp only [Act.put, List.setIfInBounds_toArray, List.set_cons_zero, List.set_cons_succ])
      all_goals clear ho4
      all_goals (apply canon_st ho5 rfl; (intro w2 hS; first | (go_simp; first | done | rfl) | rfl | (obtain ⟨hc', hf', hk', hz⟩ := ecell hS; go_simp; first | done | rfl)); simp only [Act.put, List.setIfInBounds_toArray, List.set_cons_zero, List.set_cons_succ])
      all_goals clear ho5
      all_goals (apply canon_st ho6 rfl; (intro w2 hS; first | (go_simp; first | done | rfl) | rfl | (obtain ⟨hc', hf', hk', hz⟩ := ecell hS; go_simp; first | done | rfl)); simp only [Act.put, List.setIfInBounds_toArray, List.set_cons_zero, List.set_cons_succ])
      all_goals clear ho6
      all_goals (apply canon_st ho7 rfl; (intro w2 hS; first | (go_simp; first | done | rfl) | rfl | (obtain ⟨hc', hf', hk', hz⟩ := ecell hS; go_simp; first | done | rfl)); simp only [Act.put, List.setIfInBounds_toArray, List.set_cons_zero, List.set_cons_succ])
      all_goals clear ho7
      all_goals first | (refine canon_ef ho8 rfl (fun K hK => ?_); go_simp; ((go_at_call 45; (with_reducible refine (heq.out _).mono ?_); rintro e w7 ⟨rfl, hb⟩)); all_goals (refine hK _ _ ⟨(by first | assumption | exact (by repeat (first | exact Ext.refl _ | assumption | refine Ext.drew ?_ | refine Ext.drewN ?_ _ | refine Ext.iter ?_ _ _ | refine Ext.alloc ?_ _ | refine Ext.setCell ?_ (by first | exact Nat.le_refl _ | (simp <;> omega)) _ | refine Ext.trans2 (by assumption) ?_))), ?_⟩; clear hK K; go_simp))
      all_goals clear ho8
      all_goals (apply canon_st ho9 rfl; (intro w2 hS; first | (go_simp; first | done | rfl) | rfl | (obtain ⟨hc', hf', hk', hz⟩ := ecell hS; go_simp; first | done | rfl)); simp only [Act.put, List.setIfInBounds_toArray, List.set_cons_zero, List.set_cons_succ])
      all_goals clear ho9
      all_goals refine canon_done (NoPanic.normal ?_)
      all_goals go_wp2
      all_goals go_roundw
      case rel => exact ⟨k + 1, hlt, by go_num, (by repeat (first | exact Ext.refl _ | assumption | refine Ext.drew ?_ | refine Ext.drewN ?_ _ | refine Ext.iter ?_ _ _ | refine Ext.alloc ?_ _ | refine Ext.setCell ?_ (by first | exact Nat.le_refl _ | (simp <;> omega)) _ | refine Ext.trans2 (by assumption) ?_))⟩
      case measure => simp [intOf]; omega
    · obtain rfl : k = xs.length := by omega
      go_wp2
      go_ret
      exact ⟨rfl, hext⟩
end Go.Proofs.YthpnkcamjcohgaaDoor
