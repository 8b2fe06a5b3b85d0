/- Batches: the reference's numeral, validity. -/
import Derived.Test.YthpnkcamjcohgaaGreatDoorLJoinedJobsK22
import Derived.Test.YthpnkcamjcohgaaGreatDoorLJoinedJobsK04
import Derived.Test.YthpnkcamjcohgaaGreatDoorLJoinedJobsK01
import Derived.Deep.DeepCutAuto
namespace Go.Proofs.YthpnkcamjcohgaaGreatDoor
set_option linter.unusedVariables false
set_option linter.unusedSimpArgs false
open Go.RowKit

abbrev vBatch (s : ByteArray) (f st c wd : Int) : Value := .agg #[.string s, .int .i64 f, .int .i64 st, .int .i64 c, .int .i64 wd]
def pfxOK (s : ByteArray) : Prop := ∀ i, i < s.size → byteAt s i = 45 ∨ (65 ≤ byteAt s i ∧ byteAt s i ≤ 90)
/-- What is asked of the numbers of a batch. -/
def numOK (f st c wd : Int) : Prop := (1 ≤ st ∧ st ≤ 1000) ∧ (1 ≤ c ∧ c ≤ 200) ∧ (1 ≤ wd ∧ wd ≤ 9) ∧ (0 ≤ f ∧ f ≤ 999999999) ∧ f + (c - 1) * st ≤ 999999999 ∧ ((dec (f + (c - 1) * st)).size : Int) ≤ wd
def batOK (s : ByteArray) (f st c wd : Int) : Prop := pfxOK s ∧ s.size ≤ 12 ∧ numOK f st c wd

set_option maxRecDepth 100000 in
/-- A numeral in the reference. -/
theorem sDec_c : ∀ (n : Nat) (w : World), n < 9223372036854775807 → Calls Tryz.prog 55 #[.int .i64 n] w fun e w' => e = .returned (.string (dec n)) ∧ Ext w w' := by
  intro n
  induction n using Nat.strongRecOn with
  | _ n ih =>
    intro w hn
    by_cases h : n < 10
    · have hcv := (RowB.one (B := w.heap.size) (w := w) (Nat.le_refl _) (UInt8.ofNat (48 + n))).conv
      rw [← dec_small n h] at hcv
      have e1 := IntWalk.i64_in (48 + (n : Int)) (by omega)
      have e2 : ((UInt8.ofNat (48 + n)).toNat : Int) = 48 + (n : Int) := by simp; omega
      rw [e2] at hcv
      have hni : (n : Int) < 10 := by omega
      go_enter Tryz.func55, Tryz.ntmps55
      go_wp2
      go_ret
      exact ⟨rfl, (by repeat (first | exact Ext.refl _ | assumption | refine Ext.drew ?_ | refine Ext.drewN ?_ _ | refine Ext.iter ?_ _ _ | refine Ext.alloc ?_ _ | refine Ext.setCell ?_ (by first | exact Nat.le_refl _ | (simp <;> omega)) _ | refine Ext.trans2 (by assumption) ?_))⟩
    · have hq := Lib.hid (fun W => ih (n / 10) (by omega) W (by omega))
      have q1 : ((n : Nat) : Int).tdiv 10 = ((n / 10 : Nat) : Int) := by rw [Int.tdiv_eq_ediv_of_nonneg (by omega)]; simp
      have q2 : ((n : Nat) : Int).tmod 10 = ((n % 10 : Nat) : Int) := by rw [Int.tmod_eq_emod_of_nonneg (by omega)]; simp
      have hrow := fun (w1 : World) => RowB.one (B := w1.heap.size) (w := w1) (Nat.le_refl _) (UInt8.ofNat (48 + n % 10))
      have hcv := fun (w1 : World) => (hrow w1).conv
      have e2 : ((UInt8.ofNat (48 + n % 10)).toNat : Int) = 48 + ((n % 10 : Nat) : Int) := by simp; omega
      rw [e2] at hcv hrow
      have hd := dec_big n h
      have hrb : n % 10 < 10 := Nat.mod_lt _ (by decide)
      have hqb : n / 10 ≤ n := Nat.div_le_self _ _
      have hni : ¬ (n : Int) < 10 := by omega
      have hone : (ByteArray.mk #[UInt8.ofNat (48 + n % 10)]).size = 1 := rfl
      generalize ByteArray.mk #[UInt8.ofNat (48 + n % 10)] = one at *
      replace hd := Lib.hid hd
      obtain ⟨r, hr⟩ : ∃ r, n % 10 = r := ⟨_, rfl⟩
      obtain ⟨q, hqq⟩ : ∃ q, n / 10 = q := ⟨_, rfl⟩
      rw [hr] at q2 hcv hrow hrb
      rw [hqq] at q1 hq hqb hd
      have e1 := IntWalk.i64_in (48 + (r : Int)) (by omega)
      have e3 := IntWalk.i64_in (q : Int) (by omega)
      have e4 := IntWalk.i64_in (r : Int) (by omega)
      replace hr := Lib.hid hr; replace hqq := Lib.hid hqq
      have hcvw : ∀ r : Nat, r < 10 → IntKind.u8.wrap (48 + (r : Int)) = 48 + (r : Int) := fun r h => by
        have : r = 0 ∨ r = 1 ∨ r = 2 ∨ r = 3 ∨ r = 4 ∨ r = 5 ∨ r = 6 ∨ r = 7 ∨ r = 8 ∨ r = 9 := by omega
        rcases this with rfl | rfl | rfl | rfl | rfl | rfl | rfl | rfl | rfl | rfl <;> rfl
      clear h ih e2
      go_enter Tryz.func55, Tryz.ntmps55
      have e5 : IntKind.u8.wrap (48 + (r : Int)) = 48 + (r : Int) := hcvw r hrb
      have hr2 : ∀ (w1 w2 : World), Ext (w1.alloc (.cells #[.int .u8 (48 + (r : Int))] 5)) w2 → (convert 22 9 (.slice (some ⟨w1.heap.size, 0, none⟩) 1 1)).run Tryz.prog w2 = .ok (.string one) w2 := fun w1 w2 h => ((hrow w1).ext h).conv
      have hr0 : ∀ w1 : World, (convert 22 9 (.slice (some ⟨w1.heap.size, 0, none⟩) 1 1)).run Tryz.prog (w1.alloc (.cells #[.int .u8 (48 + (r : Int))] 5)).drew = .ok (.string one) (w1.alloc (.cells #[.int .u8 (48 + (r : Int))] 5)).drew := fun w1 => hr2 w1 _ ((Ext.refl _).drew)
      have hcv0 := hr0 w
      have hdq := dec_le (q : Int) (by omega) (by omega)
      have hlen : ¬ 9223372036854775807 < (dec (q : Int)).size + one.size := by omega
      clear hone
      go_upto_region 3 with (fail)
      refine wp_region_c3 (fun w' => Ext w w') (.st 0 (.st 1 (.st 3 (.st 4 (.st 5 (.st 6 (.two 2 (.one 7 (.one 8 (.st 9 (.st 10 .done)))) 7 (.two 2 (.one 8 (.st 9 (.st 10 .done))) 8 (.one 2 (.st 9 (.st 10 .done))))))))))) (by kernel_rfl) (by kernel_rfl) (by decide) (by kernel_rfl) ?_ ?_
      · exact (by repeat (first | exact Ext.refl _ | assumption | refine Ext.drew ?_ | refine Ext.drewN ?_ _ | refine Ext.iter ?_ _ _ | refine Ext.alloc ?_ _ | refine Ext.setCell ?_ (by first | exact Nat.le_refl _ | (simp <;> omega)) _ | refine Ext.trans2 (by assumption) ?_))
      refine c3_intro fun ops eo => ?_
      have ho0 := canon_at eo 0 rfl
      have ho1 := canon_at eo 1 rfl
      have ho2 := canon_at eo 2 rfl
      have ho3 := canon_at eo 3 rfl
      have ho4 := canon_at eo 4 rfl
      have ho5 := canon_at eo 5 rfl
      have ho6 := canon_at eo 6 rfl
      have ho7 := canon_at eo 7 rfl
      have ho8 := canon_at eo 8 rfl
      have ho9 := canon_at eo 9 rfl
      have ho10 := canon_at eo 10 rfl
      clear eo
      all_goals (apply c3_st ho0 rfl; (intro w2 hS; first | (go_simp; first | done | rfl) | rfl | (obtain ⟨hc', hf', hk', hz⟩ := ecell hS; go_simp; first | done | rfl)); simp only [Act.put, List.setIfInBounds_toArray, List.set_cons_zero, List.set_cons_succ])
      all_goals clear ho0
      all_goals (apply c3_st ho1 rfl; (intro w2 hS; first | (go_simp; first | done | rfl) | rfl | (obtain ⟨hc', hf', hk', hz⟩ := ecell hS; go_simp; first | done | rfl)); simp only [Act.put, List.setIfInBounds_toArray, List.set_cons_zero, List.set_cons_succ])
      all_goals clear ho1
      all_goals (apply c3_st ho3 rfl; (intro w2 hS; first | (go_simp; first | done | rfl) | rfl | (obtain ⟨hc', hf', hk', hz⟩ := ecell hS; go_simp; first | done | rfl)); simp only [Act.put, List.setIfInBounds_toArray, List.set_cons_zero, List.set_cons_succ])
      all_goals clear ho3
      all_goals (apply c3_st ho4 rfl; (intro w2 hS; first | (go_simp; first | done | rfl) | rfl | (obtain ⟨hc', hf', hk', hz⟩ := ecell hS; go_simp; first | done | rfl)); simp only [Act.put, List.setIfInBounds_toArray, List.set_cons_zero, List.set_cons_succ])
      all_goals clear ho4
      all_goals (apply c3_st ho5 rfl; (intro w2 hS; first | (go_simp; first | done | rfl) | rfl | (obtain ⟨hc', hf', hk', hz⟩ := ecell hS; go_simp; first | done | rfl)); simp only [Act.put, List.setIfInBounds_toArray, List.set_cons_zero, List.set_cons_succ])
      all_goals clear ho5
      all_goals (apply c3_st ho6 rfl; (intro w2 hS; first | (go_simp; first | done | rfl) | rfl | (obtain ⟨hc', hf', hk', hz⟩ := ecell hS; go_simp; first | done | rfl)); simp only [Act.put, List.setIfInBounds_toArray, List.set_cons_zero, List.set_cons_succ])
      all_goals clear ho6
      all_goals
        refine c3_two ?_ ?_
        rotate_right 1
        focus
          all_goals first | (refine c3_op ho7 rfl (fun K hK => ?_); go_simp; (skip); all_goals ((with_reducible refine hK _ _ ?_); refine ⟨(by repeat (first | exact Ext.refl _ | assumption | refine Ext.drew ?_ | refine Ext.drewN ?_ _ | refine Ext.iter ?_ _ _ | refine Ext.alloc ?_ _ | refine Ext.setCell ?_ (by first | exact Nat.le_refl _ | (simp <;> omega)) _ | refine Ext.trans2 (by assumption) ?_)), ?_⟩; clear hK K; go_simp))
          all_goals clear ho7
          all_goals
            refine c3_two ?_ ?_
            rotate_right 1
            focus
              all_goals first | (refine c3_op ho8 rfl (fun K hK => ?_); go_simp; (skip); all_goals ((with_reducible refine hK _ _ ?_); refine ⟨(by repeat (first | exact Ext.refl _ | assumption | refine Ext.drew ?_ | refine Ext.drewN ?_ _ | refine Ext.iter ?_ _ _ | refine Ext.alloc ?_ _ | refine Ext.setCell ?_ (by first | exact Nat.le_refl _ | (simp <;> omega)) _ | refine Ext.trans2 (by assumption) ?_)), ?_⟩; clear hK K; go_simp))
              all_goals clear ho8
              all_goals refine c3_one ?_
              all_goals first | (refine c3_op ho2 rfl (fun K hK => ?_); go_simp; ((go_at_call 55; (with_reducible refine (hq.out _).mono ?_); rintro e w1 ⟨rfl, hx1⟩; have hcv1 := hcv w1; have hcv2 := hr2 w w1; (try replace hcv2 := hcv2 (((Ext.refl _).drew).trans hx1)))); all_goals ((with_reducible refine hK _ _ ?_); refine ⟨(by repeat (first | exact Ext.refl _ | assumption | refine Ext.drew ?_ | refine Ext.drewN ?_ _ | refine Ext.iter ?_ _ _ | refine Ext.alloc ?_ _ | refine Ext.setCell ?_ (by first | exact Nat.le_refl _ | (simp <;> omega)) _ | refine Ext.trans2 (by assumption) ?_)), ?_⟩; clear hK K; go_simp))
              all_goals clear ho2
              all_goals (apply c3_st ho9 rfl; (intro w2 hS; first | (go_simp; first | done | rfl) | rfl | (obtain ⟨hc', hf', hk', hz⟩ := ecell hS; go_simp; first | done | rfl)); simp only [Act.put, List.setIfInBounds_toArray, List.set_cons_zero, List.set_cons_succ])
              all_goals clear ho9
              all_goals (apply c3_st ho10 rfl; (intro w2 hS; first | (go_simp; first | done | rfl) | rfl | (obtain ⟨hc', hf', hk', hz⟩ := ecell hS; go_simp; first | done | rfl)); simp only [Act.put, List.setIfInBounds_toArray, List.set_cons_zero, List.set_cons_succ])
              all_goals clear ho10
              all_goals refine c3_done (NoPanic.normal ?_)
            rotate_right 1
            focus
              all_goals first | (refine c3_op ho2 rfl (fun K hK => ?_); go_simp; ((go_at_call 55; (with_reducible refine (hq.out _).mono ?_); rintro e w1 ⟨rfl, hx1⟩; have hcv1 := hcv w1; have hcv2 := hr2 w w1; (try replace hcv2 := hcv2 (((Ext.refl _).drew).trans hx1)))); all_goals ((with_reducible refine hK _ _ ?_); refine ⟨(by repeat (first | exact Ext.refl _ | assumption | refine Ext.drew ?_ | refine Ext.drewN ?_ _ | refine Ext.iter ?_ _ _ | refine Ext.alloc ?_ _ | refine Ext.setCell ?_ (by first | exact Nat.le_refl _ | (simp <;> omega)) _ | refine Ext.trans2 (by assumption) ?_)), ?_⟩; clear hK K; go_simp))
              all_goals clear ho2
              all_goals refine c3_one ?_
              all_goals first | (refine c3_op ho8 rfl (fun K hK => ?_); go_simp; (skip); all_goals ((with_reducible refine hK _ _ ?_); refine ⟨(by repeat (first | exact Ext.refl _ | assumption | refine Ext.drew ?_ | refine Ext.drewN ?_ _ | refine Ext.iter ?_ _ _ | refine Ext.alloc ?_ _ | refine Ext.setCell ?_ (by first | exact Nat.le_refl _ | (simp <;> omega)) _ | refine Ext.trans2 (by assumption) ?_)), ?_⟩; clear hK K; go_simp))
              all_goals clear ho8
              all_goals (apply c3_st ho9 rfl; (intro w2 hS; first | (go_simp; first | done | rfl) | rfl | (obtain ⟨hc', hf', hk', hz⟩ := ecell hS; go_simp; first | done | rfl)); simp only [Act.put, List.setIfInBounds_toArray, List.set_cons_zero, List.set_cons_succ])
              all_goals clear ho9
              all_goals (apply c3_st ho10 rfl; (intro w2 hS; first | (go_simp; first | done | rfl) | rfl | (obtain ⟨hc', hf', hk', hz⟩ := ecell hS; go_simp; first | done | rfl)); simp only [Act.put, List.setIfInBounds_toArray, List.set_cons_zero, List.set_cons_succ])
              all_goals clear ho10
              all_goals refine c3_done (NoPanic.normal ?_)
        rotate_right 1
        focus
          all_goals first | (refine c3_op ho2 rfl (fun K hK => ?_); go_simp; ((go_at_call 55; (with_reducible refine (hq.out _).mono ?_); rintro e w1 ⟨rfl, hx1⟩; have hcv1 := hcv w1; have hcv2 := hr2 w w1; (try replace hcv2 := hcv2 (((Ext.refl _).drew).trans hx1)))); all_goals ((with_reducible refine hK _ _ ?_); refine ⟨(by repeat (first | exact Ext.refl _ | assumption | refine Ext.drew ?_ | refine Ext.drewN ?_ _ | refine Ext.iter ?_ _ _ | refine Ext.alloc ?_ _ | refine Ext.setCell ?_ (by first | exact Nat.le_refl _ | (simp <;> omega)) _ | refine Ext.trans2 (by assumption) ?_)), ?_⟩; clear hK K; go_simp))
          all_goals clear ho2
          all_goals refine c3_one ?_
          all_goals first | (refine c3_op ho7 rfl (fun K hK => ?_); go_simp; (skip); all_goals ((with_reducible refine hK _ _ ?_); refine ⟨(by repeat (first | exact Ext.refl _ | assumption | refine Ext.drew ?_ | refine Ext.drewN ?_ _ | refine Ext.iter ?_ _ _ | refine Ext.alloc ?_ _ | refine Ext.setCell ?_ (by first | exact Nat.le_refl _ | (simp <;> omega)) _ | refine Ext.trans2 (by assumption) ?_)), ?_⟩; clear hK K; go_simp))
          all_goals clear ho7
          all_goals refine c3_one ?_
          all_goals first | (refine c3_op ho8 rfl (fun K hK => ?_); go_simp; (skip); all_goals ((with_reducible refine hK _ _ ?_); refine ⟨(by repeat (first | exact Ext.refl _ | assumption | refine Ext.drew ?_ | refine Ext.drewN ?_ _ | refine Ext.iter ?_ _ _ | refine Ext.alloc ?_ _ | refine Ext.setCell ?_ (by first | exact Nat.le_refl _ | (simp <;> omega)) _ | refine Ext.trans2 (by assumption) ?_)), ?_⟩; clear hK K; go_simp))
          all_goals clear ho8
          all_goals (apply c3_st ho9 rfl; (intro w2 hS; first | (go_simp; first | done | rfl) | rfl | (obtain ⟨hc', hf', hk', hz⟩ := ecell hS; go_simp; first | done | rfl)); simp only [Act.put, List.setIfInBounds_toArray, List.set_cons_zero, List.set_cons_succ])
          all_goals clear ho9
          all_goals (apply c3_st ho10 rfl; (intro w2 hS; first | (go_simp; first | done | rfl) | rfl | (obtain ⟨hc', hf', hk', hz⟩ := ecell hS; go_simp; first | done | rfl)); simp only [Act.put, List.setIfInBounds_toArray, List.set_cons_zero, List.set_cons_succ])
          all_goals clear ho10
          all_goals refine c3_done (NoPanic.normal ?_)
      all_goals
        go_wp2
        go_ret
        exact ⟨by rw [hd.out]; rfl, (by repeat (first | exact Ext.refl _ | assumption | refine Ext.drew ?_ | refine Ext.drewN ?_ _ | refine Ext.iter ?_ _ _ | refine Ext.alloc ?_ _ | refine Ext.setCell ?_ (by first | exact Nat.le_refl _ | (simp <;> omega)) _ | refine Ext.trans2 (by assumption) ?_))⟩
end Go.Proofs.YthpnkcamjcohgaaGreatDoor
