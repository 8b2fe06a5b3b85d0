/- Batches: the reference's numeral, validity. -/
import Derived.Test.YthpnkcamjcohgaaDoorLBatchTextLK27
import Derived.Test.YthpnkcamjcohgaaDoorLBatchTextLK04
import Derived.Test.YthpnkcamjcohgaaDoorLBatchTextLK01
import Derived.Deep.DeepCutAuto
namespace Go.Proofs.YthpnkcamjcohgaaDoor
set_option linter.unusedVariables false
set_option linter.unusedSimpArgs false
open Go.RowKit

abbrev vBatch (s : ByteArray) (f st c wd : Int) : Value := .agg #[.string s, .int .i64 f, .int .i64 st, .int .i64 c, .int .i64 wd]
def pfxOK (s : ByteArray) : Prop := ∀ i, i < s.size → byteAt s i = 45 ∨ (65 ≤ byteAt s i ∧ byteAt s i ≤ 90)
/-- What is asked of the numbers of a batch. -/
def numOK (f st c wd : Int) : Prop := (1 ≤ st ∧ st ≤ 1000) ∧ (1 ≤ c ∧ c ≤ 200) ∧ (1 ≤ wd ∧ wd ≤ 9) ∧ (0 ≤ f ∧ f ≤ 999999999) ∧ f + (c - 1) * st ≤ 999999999 ∧ ((dec (f + (c - 1) * st)).size : Int) ≤ wd
def batOK (s : ByteArray) (f st c wd : Int) : Prop := pfxOK s ∧ s.size ≤ 12 ∧ numOK f st c wd

set_option maxRecDepth 100000 in
/-- A numeral in the reference. -/
theorem sDec_c : ∀ (n : Nat) (w : World), n < 9223372036854775807 → Calls Tryd.prog 73 #[.int .i64 n] w fun e w' => e = .returned (.string (dec n)) ∧ Ext w w' := by
  intro n
  induction n using Nat.strongRecOn with
  | _ n ih =>
    intro w hn
    by_cases h : n < 10
    · have hcv := (RowB.one (B := w.heap.size) (w := w) (Nat.le_refl _) (UInt8.ofNat (48 + n))).conv
      rw [← dec_small n h] at hcv
      have e1 := IntWalk.i64_in (48 + (n : Int)) (by omega)
      have e2 : ((UInt8.ofNat (48 + n)).toNat : Int) = 48 + (n : Int) := by simp; omega
      rw [e2] at hcv
      have hni : (n : Int) < 10 := by omega
      go_enter Tryd.func73, Tryd.ntmps73
      go_wp2
      go_ret
      exact ⟨rfl, (by repeat (first | exact Ext.refl _ | assumption | refine Ext.drew ?_ | refine Ext.drewN ?_ _ | refine Ext.iter ?_ _ _ | refine Ext.alloc ?_ _ | refine Ext.setCell ?_ (by first | exact Nat.le_refl _ | (simp <;> omega)) _ | refine Ext.trans2 (by assumption) ?_))⟩
    · have hq := Lib.hid (fun W => ih (n / 10) (by omega) W (by omega))
      have q1 : ((n : Nat) : Int).tdiv 10 = ((n / 10 : Nat) : Int) := by rw [Int.tdiv_eq_ediv_of_nonneg (by omega)]; simp
      have q2 : ((n : Nat) : Int).tmod 10 = ((n % 10 : Nat) : Int) := by rw [Int.tmod_eq_emod_of_nonneg (by omega)]; simp
      have hrow := fun (w1 : World) => RowB.one (B := w1.heap.size) (w := w1) (Nat.le_refl _) (UInt8.ofNat (48 + n % 10))
      have hcv := fun (w1 : World) => (hrow w1).conv
      have e2 : ((UInt8.ofNat (48 + n % 10)).toNat : Int) = 48 + ((n % 10 : Nat) : Int) := by simp; omega
      rw [e2] at hcv hrow
      have hd := dec_big n h
      have hrb : n % 10 < 10 := Nat.mod_lt _ (by decide)
      have hqb : n / 10 ≤ n := Nat.div_le_self _ _
      have hni : ¬ (n : Int) < 10 := by omega
      have hone : (ByteArray.mk #[UInt8.ofNat (48 + n % 10)]).size = 1 := rfl
      generalize ByteArray.mk #[UInt8.ofNat (48 + n % 10)] = one at *
      replace hd := Lib.hid hd
      obtain ⟨r, hr⟩ : ∃ r, n % 10 = r := ⟨_, rfl⟩
      obtain ⟨q, hqq⟩ : ∃ q, n / 10 = q := ⟨_, rfl⟩
      rw [hr] at q2 hcv hrow hrb
      rw [hqq] at q1 hq hqb hd
      have e1 := IntWalk.i64_in (48 + (r : Int)) (by omega)
      have e3 := IntWalk.i64_in (q : Int) (by omega)
      have e4 := IntWalk.i64_in (r : Int) (by omega)
      replace hr := Lib.hid hr; replace hqq := Lib.hid hqq
      have hcvw : ∀ r : Nat, r < 10 → IntKind.u8.wrap (48 + (r : Int)) = 48 + (r : Int) := fun r h => by
        have : r = 0 ∨ r = 1 ∨ r = 2 ∨ r = 3 ∨ r = 4 ∨ r = 5 ∨ r = 6 ∨ r = 7 ∨ r = 8 ∨ r = 9 := by omega
        rcases this with rfl | rfl | rfl | rfl | rfl | rfl | rfl | rfl | rfl | rfl <;> rfl
      clear h ih e2
      go_enter Tryd.func73, Tryd.ntmps73
      have e5 : IntKind.u8.wrap (48 + (r : Int)) = 48 + (r : Int) := hcvw r hrb
      have hr2 : ∀ (w1 w2 : World), Ext (w1.alloc (.cells #[.int .u8 (48 + (r : Int))] 5)) w2 → (convert 29 9 (.slice (some ⟨w1.heap.size, 0, none⟩) 1 1)).run Tryd.prog w2 = .ok (.string one) w2 := fun w1 w2 h => ((hrow w1).ext h).conv
      have hr0 : ∀ w1 : World, (convert 29 9 (.slice (some ⟨w1.heap.size, 0, none⟩) 1 1)).run Tryd.prog (w1.alloc (.cells #[.int .u8 (48 + (r : Int))] 5)).drew = .ok (.string one) (w1.alloc (.cells #[.int .u8 (48 + (r : Int))] 5)).drew := fun w1 => hr2 w1 _ ((Ext.refl _).drew)
      have hcv0 := hr0 w
      have hdq := dec_le (q : Int) (by omega) (by omega)
      have hlen : ¬ 9223372036854775807 < (dec (q : Int)).size + one.size := by omega
      clear hone
      go_upto_region 3 with (fail)
      refine wp_region_c3 (fun w' => Ext w w') (.st 0 (.st 1 (.st 3 (.st 4 (.st 5 (.st 6 (.two 2 (.one 7 (.one 8 (.st 9 (.st 10 .done)))) 7 (.two 2 (.one 8 (.st 9 (.st 10 .done))) 8 (.one 2 (.st 9 (.st 10 .done))))))))))) (by kernel_rfl) (by kernel_rfl) (by decide) (by kernel_rfl) ?_ ?_
      · exact (by repeat (first | exact Ext.refl _ | assumption | refine Ext.drew ?_ | refine Ext.drewN ?_ _ | refine Ext.iter ?_ _ _ | refine Ext.alloc ?_ _ | refine Ext.setCell ?_ (by first | exact Nat.le_refl _ | (simp <;> omega)) _ | refine Ext.trans2 (by assumption) ?_))
      refine c3_intro fun ops eo => ?_
      have ho0 := canon_at eo 0 rfl
      have ho1 := canon_at eo 1 rfl
      have ho2 := canon_at eo 2 rfl
      have ho3 := canon_at eo 3 rfl
      have ho4 := canon_at eo 4 rfl
      have ho5 := canon_at eo 5 rfl
      have ho6 := canon_at eo 6 rfl
      have ho7 := canon_at eo 7 rfl
      have ho8 := canon_at eo 8 rfl
      have ho9 := canon_at eo 9 rfl
      have ho10 := canon_at eo 10 rfl
      clear eo
      all_goals (apply c3_st ho0 rfl; (intro w2 hS; first | (go_simp; first | done | rfl) | rfl | (obtain ⟨hc', hf', hk', hz⟩ := ecell hS; go_simp; first | done | rfl)); simp only [Act.put, List.setIfInBounds_toArray, List.set_cons_zero, List.set_cons_succ])
      all_goals clear ho0
      all_goals (apply c3_st ho1 rfl; (intro w2 hS; first | (go_simp; first | done | rfl) | rfl | (obtain ⟨hc', hf', hk', hz⟩ := ecell hS; go_simp; first | done | rfl)); simp only [Act.put, List.setIfInBounds_toArray, List.set_cons_zero, List.set_cons_succ])
      all_goals clear ho1
      all_goals (apply c3_st ho3 rfl; (intro w2 hS; first | (go_simp; first | done | rfl) | rfl | (obtain ⟨hc', hf', hk', hz⟩ := ecell hS; go_simp; first | done | rfl)); simp only [Act.put, List.setIfInBounds_toArray, List.set_cons_zero, List.set_cons_succ])
      all_goals clear ho3
      all_goals (apply c3_st ho4 rfl; (intro w2 hS; first | (go_simp; first | done | rfl) | rfl | (obtain ⟨hc', hf', hk', hz⟩ := ecell hS; go_simp; first | done | rfl)); simp only [Act.put, List.setIfInBounds_toArray, List.set_cons_zero, List.set_cons_succ])
      all_goals clear ho4
      all_goals (apply c3_st ho5 rfl; (intro w2 hS; first | (go_simp; first | done | rfl) | rfl | (obtain ⟨hc', hf', hk', hz⟩ := ecell hS; go_simp; first | done | rfl)); simp only [Act.put, List.setIfInBounds_toArray, List.set_cons_zero, List.set_cons_succ])
      all_goals clear ho5
      all_goals (apply c3_st ho6 rfl; (intro w2 hS; first | (go_simp; first | done | rfl) | rfl | (obtain ⟨hc', hf', hk', hz⟩ := ecell hS; go_simp; first | done | rfl)); simp only [Act.put, List.setIfInBounds_toArray, List.set_cons_zero, List.set_cons_succ])
      all_goals clear ho6
      all_goals
        refine c3_two ?_ ?_
        rotate_right 1
        focus
          all_goals first | (refine c3_op ho7 rfl (fun K hK => ?_); go_simp; (skip); all_goals ((with_reducible refine hK _ _ ?_); refine ⟨(by repeat (first | exact Ext.refl _ | assumption | refine Ext.drew ?_ | refine Ext.drewN ?_ _ | refine Ext.iter ?_ _ _ | refine Ext.alloc ?_ _ | refine Ext.setCell ?_ (by first | exact Nat.le_refl _ | (simp <;> omega)) _ | refine Ext.trans2 (by assumption) ?_)), ?_⟩; clear hK K; go_simp))
          all_goals clear ho7
          all_goals
            refine c3_two ?_ ?_
            rotate_right 1
            focus
              all_goals first | (refine c3_op ho8 rfl (fun K hK => ?_); go_simp; (skip); all_goals ((with_reducible refine hK _ _ ?_); refine ⟨(by repeat (first | exact Ext.refl _ | assumption | refine Ext.drew ?_ | refine Ext.drewN ?_ _ | refine Ext.iter ?_ _ _ | refine Ext.alloc ?_ _ | refine Ext.setCell ?_ (by first | exact Nat.le_refl _ | (simp <;> omega)) _ | refine Ext.trans2 (by assumption) ?_)), ?_⟩; clear hK K; go_simp))
              all_goals clear ho8
              all_goals refine c3_one ?_
              all_goals first | (refine c3_op ho2 rfl (fun K hK => ?_); go_simp; ((go_at_call 73; (with_reducible refine (hq.out _).mono ?_); rintro e w1 ⟨rfl, hx1⟩; have hcv1 := hcv w1; have hcv2 := hr2 w w1; (try replace hcv2 := hcv2 (((Ext.refl _).drew).trans hx1)))); all_goals ((with_reducible refine hK _ _ ?_); refine ⟨(by repeat (first | exact Ext.refl _ | assumption | refine Ext.drew ?_ | refine Ext.drewN ?_ _ | refine Ext.iter ?_ _ _ | refine Ext.alloc ?_ _ | refine Ext.setCell ?_ (by first | exact Nat.le_refl _ | (simp <;> omega)) _ | refine Ext.trans2 (by assumption) ?_)), ?_⟩; clear hK K; go_simp))
              all_goals clear ho2
              all_goals (apply c3_st ho9 rfl; (intro w2 hS; first | (go_simp; first | done | rfl) | rfl | (obtain ⟨hc', hf', hk', hz⟩ := ecell hS; go_simp; first | done | rfl)); simp only [Act.put, List.setIfInBounds_toArray, List.set_cons_zero, List.set_cons_succ])
              all_goals clear ho9
              all_goals (apply c3_st ho10 rfl; (intro w2 hS; first | (go_simp; first | done | rfl) | rfl | (obtain ⟨hc', hf', hk', hz⟩ := ecell hS; go_simp; first | done | rfl)); simp only [Act.put, List.setIfInBounds_toArray, List.set_cons_zero, List.set_cons_succ])
              all_goals clear ho10
              all_goals refine c3_done (NoPanic.normal ?_)
            rotate_right 1
            focus
              all_goals first | (refine c3_op ho2 rfl (fun K hK => ?_); go_simp; ((go_at_call 73; (with_reducible refine (hq.out _).mono ?_); rintro e w1 ⟨rfl, hx1⟩; have hcv1 := hcv w1; have hcv2 := hr2 w w1; (try replace hcv2 := hcv2 (((Ext.refl _).drew).trans hx1)))); all_goals ((with_reducible refine hK _ _ ?_); refine ⟨(by repeat (first | exact Ext.refl _ | assumption | refine Ext.drew ?_ | refine Ext.drewN ?_ _ | refine Ext.iter ?_ _ _ | refine Ext.alloc ?_ _ | refine Ext.setCell ?_ (by first | exact Nat.le_refl _ | (simp <;> omega)) _ | refine Ext.trans2 (by assumption) ?_)), ?_⟩; clear hK K; go_simp))
              all_goals clear ho2
              all_goals refine c3_one ?_
              all_goals first | (refine c3_op ho8 rfl (fun K hK => ?_); go_simp; (skip); all_goals ((with_reducible refine hK _ _ ?_); refine ⟨(by repeat (first | exact Ext.refl _ | assumption | refine Ext.drew ?_ | refine Ext.drewN ?_ _ | refine Ext.iter ?_ _ _ | refine Ext.alloc ?_ _ | refine Ext.setCell ?_ (by first | exact Nat.le_refl _ | (simp <;> omega)) _ | refine Ext.trans2 (by assumption) ?_)), ?_⟩; clear hK K; go_simp))
              all_goals clear ho8
              all_goals (apply c3_st ho9 rfl; (intro w2 hS; first | (go_simp; first | done | rfl) | rfl | (obtain ⟨hc', hf', hk', hz⟩ := ecell hS; go_simp; first | done | rfl)); simp only [Act.put, List.setIfInBounds_toArray, List.set_cons_zero, List.set_cons_succ])
              all_goals clear ho9
              all_goals (apply c3_st ho10 rfl; (intro w2 hS; first | (go_simp; first | done | rfl) | rfl | (obtain ⟨hc', hf', hk', hz⟩ := ecell hS; go_simp; first | done | rfl)); simp only [Act.put, List.setIfInBounds_toArray, List.set_cons_zero, List.set_cons_succ])
              all_goals clear ho10
              all_goals refine c3_done (NoPanic.normal ?_)
        rotate_right 1
        focus
          all_goals first | (refine c3_op ho2 rfl (fun K hK => ?_); go_simp; ((go_at_call 73; (with_reducible refine (hq.out _).mono ?_); rintro e w1 ⟨rfl, hx1⟩; have hcv1 := hcv w1; have hcv2 := hr2 w w1; (try replace hcv2 := hcv2 (((Ext.refl _).drew).trans hx1)))); all_goals ((with_reducible refine hK _ _ ?_); refine ⟨(by repeat (first | exact Ext.refl _ | assumption | refine Ext.drew ?_ | refine Ext.drewN ?_ _ | refine Ext.iter ?_ _ _ | refine Ext.alloc ?_ _ | refine Ext.setCell ?_ (by first | exact Nat.le_refl _ | (simp <;> omega)) _ | refine Ext.trans2 (by assumption) ?_)), ?_⟩; clear hK K; go_simp))
          all_goals clear ho2
          all_goals refine c3_one ?_
          all_goals first | (refine c3_op ho7 rfl (fun K hK => ?_); go_simp; (skip); all_goals ((with_reducible refine hK _ _ ?_); refine ⟨(by repeat (first | exact Ext.refl _ | assumption | refine Ext.drew ?_ | refine Ext.drewN ?_ _ | refine Ext.iter ?_ _ _ | refine Ext.alloc ?_ _ | refine Ext.setCell ?_ (by first | exact Nat.le_refl _ | (simp <;> omega)) _ | refine Ext.trans2 (by assumption) ?_)), ?_⟩; clear hK K; go_simp))
          all_goals clear ho7
          all_goals refine c3_one ?_
          all_goals first | (refine c3_op ho8 rfl (fun K hK => ?_); go_simp; (skip); all_goals ((with_reducible refine hK _ _ ?_); refine ⟨(by repeat (first | exact Ext.refl _ | assumption | refine Ext.drew ?_ | refine Ext.drewN ?_ _ | refine Ext.iter ?_ _ _ | refine Ext.alloc ?_ _ | refine Ext.setCell ?_ (by first | exact Nat.le_refl _ | (simp <;> omega)) _ | refine Ext.trans2 (by assumption) ?_)), ?_⟩; clear hK K; go_simp))
          all_goals clear ho8
          all_goals (apply c3_st ho9 rfl; (intro w2 hS; first | (go_simp; first | done | rfl) | rfl | (obtain ⟨hc', hf', hk', hz⟩ := ecell hS; go_simp; first | done | rfl)); simp only [Act.put, List.setIfInBounds_toArray, List.set_cons_zero, List.set_cons_succ])
          all_goals clear ho9
          all_goals (apply c3_st ho10 rfl; (intro w2 hS; first | (go_simp; first | done | rfl) | rfl | (obtain ⟨hc', hf', hk', hz⟩ := ecell hS; go_simp; first | done | rfl)); simp only [Act.put, List.setIfInBounds_toArray, List.set_cons_zero, List.set_cons_succ])
          all_goals clear ho10
          all_goals refine c3_done (NoPanic.normal ?_)
      all_goals
        go_wp2
        go_ret
        exact ⟨by rw [hd.out]; rfl, (by repeat (first | exact Ext.refl _ | assumption | refine Ext.drew ?_ | refine Ext.drewN ?_ _ | refine Ext.iter ?_ _ _ | refine Ext.alloc ?_ _ | refine Ext.setCell ?_ (by first | exact Nat.le_refl _ | (simp <;> omega)) _ | refine Ext.trans2 (by assumption) ?_))⟩
set_option maxRecDepth 100000 in
theorem sPrefix_c (s : ByteArray) (w : World) (hs : s.size ≤ 1048576) :
    Calls Tryd.prog 111 #[.string s] w fun e w' => isB e (pfxOK s ∧ s.size ≤ 12) ∧ w = w' := by
  have hv := Lib.hid (show pfxOK s ↔ ∀ i, i < s.size → byteAt s i = 45 ∨ (65 ≤ byteAt s i ∧ byteAt s i ≤ 90) from Iff.rfl)
  have hbe := Lib.hid (fun i (h : i < s.size) => byteAt_eq h)
  generalize pfxOK s = M at *
  go_enter Tryd.func111, Tryd.ntmps111
  go_wp2_with fail
  go_loop [3] (fun i => ∃ k : Nat, k ≤ s.size ∧ i = .int .i64 k ∧ Hid (∀ i, i < k → byteAt s i = 45 ∨ (65 ≤ byteAt s i ∧ byteAt s i ≤ 90))) (fun i => s.size - (intOf i).toNat)
  case atStart => exact ⟨0, Nat.zero_le _, rfl, Lib.hid (fun i h => absurd h (Nat.not_lt_zero i))⟩
  case round =>
    obtain ⟨k, hk, rfl, hall⟩ := hrel
    by_cases hlt : k < s.size
    · have hb := hbe.out k hlt
      have hst : (byteAt s k = 45 ∨ (65 ≤ byteAt s k ∧ byteAt s k ≤ 90)) → ∀ i, i < k + 1 → byteAt s i = 45 ∨ (65 ≤ byteAt s i ∧ byteAt s i ≤ 90) := fun h i hi => by
        by_cases e : i = k
        · subst e; exact h
        · exact hall.out i (by omega)
      have hno := Lib.hid (fun h : M => (hv.out.1 h) k hlt)
      rw [hb] at hst hno
      replace hst := Lib.hid hst
      clear hb
      by_cases h0 : ((s[k]'hlt).toNat : Int) = 45
      · have d0 : (((s[k]'hlt).toNat : Int) != 45) = false := by simp [h0]
        replace h0 := Lib.hid h0
        go_wp2
        go_round
        case rel => exact ⟨k + 1, hlt, by go_num, Lib.hid (hst.out (.inl h0.out))⟩
        case measure => simp [intOf]; omega
      · have d0 : (((s[k]'hlt).toNat : Int) != 45) = true := by simp; omega
        replace h0 := Lib.hid h0
        by_cases h1 : ((s[k]'hlt).toNat : Int) < 65
        · go_wp2
          go_ret
          exact ⟨isB_f (fun h => by have := hno.out h.1; have := h0.out; omega), rfl⟩
        · by_cases h2 : (90 : Int) < ((s[k]'hlt).toNat : Int)
          · go_wp2
            go_ret
            exact ⟨isB_f (fun h => by have := hno.out h.1; have := h0.out; omega), rfl⟩
          · go_wp2
            go_round
            case rel => exact ⟨k + 1, hlt, by go_num, Lib.hid (hst.out (by omega))⟩
            case measure => simp [intOf]; omega
    · obtain rfl : k = s.size := by omega
      by_cases h1 : (s.size : Int) ≤ 12
      · go_wp2
        go_ret
        exact ⟨isB_m (by simp [h1, hv.out.2 hall.out]; omega), rfl⟩
      · go_wp2
        go_ret
        exact ⟨isB_m (by simp [h1]; omega), rfl⟩
theorem last_bd {f st c : Int} (hs : 1 ≤ st ∧ st ≤ 1000) (hc : 1 ≤ c ∧ c ≤ 200) (hf : 0 ≤ f ∧ f ≤ 999999999) : 0 ≤ (c - 1) * st ∧ (c - 1) * st ≤ 199000 ∧ 0 ≤ f + (c - 1) * st ∧ f + (c - 1) * st ≤ 1000200000 := by
  have h1 : 0 ≤ (c - 1) * st := Int.mul_nonneg (by omega) (by omega)
  have h2 : (c - 1) * st ≤ 199 * 1000 := Int.mul_le_mul (by omega) hs.2 (by omega) (by omega)
  omega
theorem last_c (s : ByteArray) (f st c wd : Int) (w : World) (hs : 1 ≤ st ∧ st ≤ 1000) (hc : 1 ≤ c ∧ c ≤ 200) (hf : 0 ≤ f ∧ f ≤ 999999999) :
    Calls Tryd.prog 106 #[vBatch s f st c wd] w fun e w' => e = .returned (.int .i64 (f + (c - 1) * st)) ∧ Ext w w' := by
  have hb := last_bd hs hc hf
  have hx0 : Ext w (w.alloc (.cells #[.string s, .int .i64 f, .int .i64 st, .int .i64 c, .int .i64 wd] 51)) := (Ext.refl w).alloc _
  go_enter Tryd.func106, Tryd.ntmps106
  go_wp2
  go_ret
  exact ⟨rfl, hx0⟩
set_option maxHeartbeats 1600000 in
set_option maxRecDepth 100000 in
theorem sIsBatch_c (s : ByteArray) (f st c wd : Int) (w : World) (hs : s.size ≤ 1048576) :
    Calls Tryd.prog 72 #[vBatch s f st c wd] w fun e w' => isB e (batOK s f st c wd) ∧ Ext w w' := by
  have hpx := Lib.hid (fun W => sPrefix_c s W hs)
  have hv := Lib.hid (show batOK s f st c wd ↔ pfxOK s ∧ s.size ≤ 12 ∧ (1 ≤ st ∧ st ≤ 1000) ∧ (1 ≤ c ∧ c ≤ 200) ∧ (1 ≤ wd ∧ wd ≤ 9) ∧ (0 ≤ f ∧ f ≤ 999999999) ∧ f + (c - 1) * st ≤ 999999999 ∧ ((dec (f + (c - 1) * st)).size : Int) ≤ wd from Iff.rfl)
  have hbx := Blk.new w #[.string s, .int .i64 f, .int .i64 st, .int .i64 c, .int .i64 wd] 51
  have hx0 : Ext w (w.alloc (.cells #[.string s, .int .i64 f, .int .i64 st, .int .i64 c, .int .i64 wd] 51)) := (Ext.refl w).alloc _
  generalize pfxOK s = PF at *
  generalize batOK s f st c wd = M at *
  by_cases hr : (1 ≤ st ∧ st ≤ 1000) ∧ (1 ≤ c ∧ c ≤ 200) ∧ (1 ≤ wd ∧ wd ≤ 9) ∧ (0 ≤ f ∧ f ≤ 999999999)
  · obtain ⟨h1, h2, h3, h4⟩ := hr
    have hb := last_bd h1 h2 h4
    obtain ⟨L, hL⟩ : ∃ L : Nat, f + (c - 1) * st = L := ⟨(f + (c - 1) * st).toNat, by omega⟩
    have hdc := Lib.hid (fun W => sDec_c L W (by omega))
    have hdl := dec_le (L : Int) (by omega) (by omega)
    rw [hL] at hv
    generalize dec (L : Int) = DL at *
    go_enter Tryd.func72, Tryd.ntmps72
    go_upto_region 4 with (first
      | (go_at_call 111; (with_reducible refine (hpx.out _).mono ?_); rintro e w1 ⟨⟨hP, rfl⟩ | ⟨hP, rfl⟩, rfl⟩)
      | (go_at_call 98; (with_reducible refine (l01In_c _ _ _ _).mono ?_); rintro e w1' ⟨⟨hP', rfl⟩ | ⟨hP', rfl⟩, rfl⟩ <;> first | (exfalso; omega) | skip))
    · have c4 := hbx.cell (i := 4) (v := .int .i64 wd) rfl; have cL := hbx.lt
      generalize w.alloc (.cells #[.string s, .int .i64 f, .int .i64 st, .int .i64 c, .int .i64 wd] 51) = w0 at *
      by_cases hl : (L : Int) ≤ 999999999
      · by_cases hd : (DL.size : Int) ≤ wd
        · have hM : M := hv.out.2 ⟨hP.1, hP.2, h1, h2, h3, h4, hl, hd⟩
          refine wp_region_canon (fun w' => Ext w0 w') [(0, true), (1, true), (2, true), (3, true), (6, true), (7, true), (4, false), (5, true), (8, true), (9, true), (10, true)] (by kernel_rfl) (by kernel_rfl) (by decide) (by kernel_rfl) ?_ ?_
          · exact (by repeat (first | exact Ext.refl _ | assumption | refine Ext.drew ?_ | refine Ext.drewN ?_ _ | refine Ext.iter ?_ _ _ | refine Ext.alloc ?_ _ | refine Ext.setCell ?_ (by first | exact Nat.le_refl _ | (simp <;> omega)) _ | refine Ext.trans2 (by assumption) ?_))
          refine canon_intro fun ops eo => ?_
          have ho0 := canon_at eo 0 rfl
          have ho1 := canon_at eo 1 rfl
          have ho2 := canon_at eo 2 rfl
          have ho3 := canon_at eo 3 rfl
          have ho4 := canon_at eo 4 rfl
          have ho5 := canon_at eo 5 rfl
          have ho6 := canon_at eo 6 rfl
          have ho7 := canon_at eo 7 rfl
          have ho8 := canon_at eo 8 rfl
          have ho9 := canon_at eo 9 rfl
          have ho10 := canon_at eo 10 rfl
          clear eo
          all_goals first | (apply canon_st ho0 rfl; (intro w2 hS; first | (go_simp; first | done | rfl) | rfl | (obtain ⟨hc', hf', hk', hz⟩ := ecell hS; go_simp; first | done | rfl)); simp only [Act.put, List.setIfInBounds_toArray, List.set_cons_zero, List.set_cons_succ]) | (refine canon_stu ho0 rfl (by assumption) rfl rfl ?_; simp only [Act.put, List.setIfInBounds_toArray, List.set_cons_zero, List.set_cons_succ]) | (refine canon_stx ho0 rfl (by assumption) rfl rfl ?_; simp only [Act.put, List.setIfInBounds_toArray, List.set_cons_zero, List.set_cons_succ]) | (refine canon_stw (v := ?_) ho0 rfl (by assumption) rfl rfl ?_ ?_; rotate_left 1; (intro w2 hS; first | (go_simp; first | done | rfl) | rfl | (obtain ⟨hc', hf', hk', hz⟩ := ecell hS; go_simp; first | done | rfl)); simp only [Act.put, List.setIfInBounds_toArray, List.set_cons_zero, List.set_cons_succ])
          all_goals first | (apply canon_st ho1 rfl; (intro w2 hS; first | (go_simp; first | done | rfl) | rfl | (obtain ⟨hc', hf', hk', hz⟩ := ecell hS; go_simp; first | done | rfl)); simp only [Act.put, List.setIfInBounds_toArray, List.set_cons_zero, List.set_cons_succ]) | (refine canon_stu ho1 rfl (by assumption) rfl rfl ?_; simp only [Act.put, List.setIfInBounds_toArray, List.set_cons_zero, List.set_cons_succ]) | (refine canon_stx ho1 rfl (by assumption) rfl rfl ?_; simp only [Act.put, List.setIfInBounds_toArray, List.set_cons_zero, List.set_cons_succ]) | (refine canon_stw (v := ?_) ho1 rfl (by assumption) rfl rfl ?_ ?_; rotate_left 1; (intro w2 hS; first | (go_simp; first | done | rfl) | rfl | (obtain ⟨hc', hf', hk', hz⟩ := ecell hS; go_simp; first | done | rfl)); simp only [Act.put, List.setIfInBounds_toArray, List.set_cons_zero, List.set_cons_succ])
          all_goals first | (apply canon_st ho2 rfl; (intro w2 hS; first | (go_simp; first | done | rfl) | rfl | (obtain ⟨hc', hf', hk', hz⟩ := ecell hS; go_simp; first | done | rfl)); simp only [Act.put, List.setIfInBounds_toArray, List.set_cons_zero, List.set_cons_succ]) | (refine canon_stu ho2 rfl (by assumption) rfl rfl ?_; simp only [Act.put, List.setIfInBounds_toArray, List.set_cons_zero, List.set_cons_succ]) | (refine canon_stx ho2 rfl (by assumption) rfl rfl ?_; simp only [Act.put, List.setIfInBounds_toArray, List.set_cons_zero, List.set_cons_succ]) | (refine canon_stw (v := ?_) ho2 rfl (by assumption) rfl rfl ?_ ?_; rotate_left 1; (intro w2 hS; first | (go_simp; first | done | rfl) | rfl | (obtain ⟨hc', hf', hk', hz⟩ := ecell hS; go_simp; first | done | rfl)); simp only [Act.put, List.setIfInBounds_toArray, List.set_cons_zero, List.set_cons_succ])
          all_goals first | (apply canon_st ho3 rfl; (intro w2 hS; first | (go_simp; first | done | rfl) | rfl | (obtain ⟨hc', hf', hk', hz⟩ := ecell hS; go_simp; first | done | rfl)); simp only [Act.put, List.setIfInBounds_toArray, List.set_cons_zero, List.set_cons_succ]) | (refine canon_stu ho3 rfl (by assumption) rfl rfl ?_; simp only [Act.put, List.setIfInBounds_toArray, List.set_cons_zero, List.set_cons_succ]) | (refine canon_stx ho3 rfl (by assumption) rfl rfl ?_; simp only [Act.put, List.setIfInBounds_toArray, List.set_cons_zero, List.set_cons_succ]) | (refine canon_stw (v := ?_) ho3 rfl (by assumption) rfl rfl ?_ ?_; rotate_left 1; (intro w2 hS; first | (go_simp; first | done | rfl) | rfl | (obtain ⟨hc', hf', hk', hz⟩ := ecell hS; go_simp; first | done | rfl)); simp only [Act.put, List.setIfInBounds_toArray, List.set_cons_zero, List.set_cons_succ])
          all_goals first | (apply canon_st ho6 rfl; (intro w2 hS; first | (go_simp; first | done | rfl) | rfl | (obtain ⟨hc', hf', hk', hz⟩ := ecell hS; go_simp; first | done | rfl)); simp only [Act.put, List.setIfInBounds_toArray, List.set_cons_zero, List.set_cons_succ]) | (refine canon_stu ho6 rfl (by assumption) rfl rfl ?_; simp only [Act.put, List.setIfInBounds_toArray, List.set_cons_zero, List.set_cons_succ]) | (refine canon_stx ho6 rfl (by assumption) rfl rfl ?_; simp only [Act.put, List.setIfInBounds_toArray, List.set_cons_zero, List.set_cons_succ]) | (refine canon_stw (v := ?_) ho6 rfl (by assumption) rfl rfl ?_ ?_; rotate_left 1; (intro w2 hS; first | (go_simp; first | done | rfl) | rfl | (obtain ⟨hc', hf', hk', hz⟩ := ecell hS; go_simp; first | done | rfl)); simp only [Act.put, List.setIfInBounds_toArray, List.set_cons_zero, List.set_cons_succ])
          all_goals first | (apply canon_st ho7 rfl; (intro w2 hS; first | (go_simp; first | done | rfl) | rfl | (obtain ⟨hc', hf', hk', hz⟩ := ecell hS; go_simp; first | done | rfl)); simp only [Act.put, List.setIfInBounds_toArray, List.set_cons_zero, List.set_cons_succ]) | (refine canon_stu ho7 rfl (by assumption) rfl rfl ?_; simp only [Act.put, List.setIfInBounds_toArray, List.set_cons_zero, List.set_cons_succ]) | (refine canon_stx ho7 rfl (by assumption) rfl rfl ?_; simp only [Act.put, List.setIfInBounds_toArray, List.set_cons_zero, List.set_cons_succ]) | (refine canon_stw (v := ?_) ho7 rfl (by assumption) rfl rfl ?_ ?_; rotate_left 1; (intro w2 hS; first | (go_simp; first | done | rfl) | rfl | (obtain ⟨hc', hf', hk', hz⟩ := ecell hS; go_simp; first | done | rfl)); simp only [Act.put, List.setIfInBounds_toArray, List.set_cons_zero, List.set_cons_succ])
          all_goals first | (refine canon_efu ho4 rfl (by assumption) rfl rfl (by first | assumption | exact (by repeat (first | exact Ext.refl _ | assumption | refine Ext.drew ?_ | refine Ext.drewN ?_ _ | refine Ext.iter ?_ _ _ | refine Ext.alloc ?_ _ | refine Ext.setCell ?_ (by first | exact Nat.le_refl _ | (simp <;> omega)) _ | refine Ext.trans2 (by assumption) ?_))) ?_; simp only [Act.put, List.setIfInBounds_toArray, List.set_cons_zero, List.set_cons_succ]) | (refine canon_efx ho4 rfl (by assumption) rfl rfl (by first | assumption | exact (by repeat (first | exact Ext.refl _ | assumption | refine Ext.drew ?_ | refine Ext.drewN ?_ _ | refine Ext.iter ?_ _ _ | refine Ext.alloc ?_ _ | refine Ext.setCell ?_ (by first | exact Nat.le_refl _ | (simp <;> omega)) _ | refine Ext.trans2 (by assumption) ?_))) ?_; simp only [Act.put, List.setIfInBounds_toArray, List.set_cons_zero, List.set_cons_succ]) | (refine canon_ef ho4 rfl (fun K hK => ?_); go_simp; ((go_at_call 73; (with_reducible refine (hdc.out _).mono ?_); rintro e w2 ⟨rfl, hx2⟩)); all_goals (refine hK _ _ ⟨(by repeat (first | exact Ext.refl _ | assumption | refine Ext.drew ?_ | refine Ext.drewN ?_ _ | refine Ext.iter ?_ _ _ | refine Ext.alloc ?_ _ | refine Ext.setCell ?_ (by first | exact Nat.le_refl _ | (simp <;> omega)) _ | refine Ext.trans2 (by assumption) ?_)), ?_⟩; clear hK K; go_simp)) | (refine canon_efw ho4 rfl (by assumption) rfl rfl (fun K hK => ?_); go_simp; ((go_at_call 73; (with_reducible refine (hdc.out _).mono ?_); rintro e w2 ⟨rfl, hx2⟩)); all_goals (refine hK _ _ ⟨(by repeat (first | exact Ext.refl _ | assumption | refine Ext.drew ?_ | refine Ext.drewN ?_ _ | refine Ext.iter ?_ _ _ | refine Ext.alloc ?_ _ | refine Ext.setCell ?_ (by first | exact Nat.le_refl _ | (simp <;> omega)) _ | refine Ext.trans2 (by assumption) ?_)), ?_⟩; clear hK K; go_simp))
          all_goals first | (apply canon_st ho5 rfl; (intro w2 hS; first | (go_simp; first | done | rfl) | rfl | (obtain ⟨hc', hf', hk', hz⟩ := ecell hS; go_simp; first | done | rfl)); simp only [Act.put, List.setIfInBounds_toArray, List.set_cons_zero, List.set_cons_succ]) | (refine canon_stu ho5 rfl (by assumption) rfl rfl ?_; simp only [Act.put, List.setIfInBounds_toArray, List.set_cons_zero, List.set_cons_succ]) | (refine canon_stx ho5 rfl (by assumption) rfl rfl ?_; simp only [Act.put, List.setIfInBounds_toArray, List.set_cons_zero, List.set_cons_succ]) | (refine canon_stw (v := ?_) ho5 rfl (by assumption) rfl rfl ?_ ?_; rotate_left 1; (intro w2 hS; first | (go_simp; first | done | rfl) | rfl | (obtain ⟨hc', hf', hk', hz⟩ := ecell hS; go_simp; first | done | rfl)); simp only [Act.put, List.setIfInBounds_toArray, List.set_cons_zero, List.set_cons_succ])
          all_goals first | (apply canon_st ho8 rfl; (intro w2 hS; first | (go_simp; first | done | rfl) | rfl | (obtain ⟨hc', hf', hk', hz⟩ := ecell hS; go_simp; first | done | rfl)); simp only [Act.put, List.setIfInBounds_toArray, List.set_cons_zero, List.set_cons_succ]) | (refine canon_stu ho8 rfl (by assumption) rfl rfl ?_; simp only [Act.put, List.setIfInBounds_toArray, List.set_cons_zero, List.set_cons_succ]) | (refine canon_stx ho8 rfl (by assumption) rfl rfl ?_; simp only [Act.put, List.setIfInBounds_toArray, List.set_cons_zero, List.set_cons_succ]) | (refine canon_stw (v := ?_) ho8 rfl (by assumption) rfl rfl ?_ ?_; rotate_left 1; (intro w2 hS; first | (go_simp; first | done | rfl) | rfl | (obtain ⟨hc', hf', hk', hz⟩ := ecell hS; go_simp; first | done | rfl)); simp only [Act.put, List.setIfInBounds_toArray, List.set_cons_zero, List.set_cons_succ])
          all_goals first | (apply canon_st ho9 rfl; (intro w2 hS; first | (go_simp; first | done | rfl) | rfl | (obtain ⟨hc', hf', hk', hz⟩ := ecell hS; go_simp; first | done | rfl)); simp only [Act.put, List.setIfInBounds_toArray, List.set_cons_zero, List.set_cons_succ]) | (refine canon_stu ho9 rfl (by assumption) rfl rfl ?_; simp only [Act.put, List.setIfInBounds_toArray, List.set_cons_zero, List.set_cons_succ]) | (refine canon_stx ho9 rfl (by assumption) rfl rfl ?_; simp only [Act.put, List.setIfInBounds_toArray, List.set_cons_zero, List.set_cons_succ]) | (refine canon_stw (v := ?_) ho9 rfl (by assumption) rfl rfl ?_ ?_; rotate_left 1; (intro w2 hS; first | (go_simp; first | done | rfl) | rfl | (obtain ⟨hc', hf', hk', hz⟩ := ecell hS; go_simp; first | done | rfl)); simp only [Act.put, List.setIfInBounds_toArray, List.set_cons_zero, List.set_cons_succ])
          all_goals first | (apply canon_st ho10 rfl; (intro w2 hS; first | (go_simp; first | done | rfl) | rfl | (obtain ⟨hc', hf', hk', hz⟩ := ecell hS; go_simp; first | done | rfl)); simp only [Act.put, List.setIfInBounds_toArray, List.set_cons_zero, List.set_cons_succ]) | (refine canon_stu ho10 rfl (by assumption) rfl rfl ?_; simp only [Act.put, List.setIfInBounds_toArray, List.set_cons_zero, List.set_cons_succ]) | (refine canon_stx ho10 rfl (by assumption) rfl rfl ?_; simp only [Act.put, List.setIfInBounds_toArray, List.set_cons_zero, List.set_cons_succ]) | (refine canon_stw (v := ?_) ho10 rfl (by assumption) rfl rfl ?_ ?_; rotate_left 1; (intro w2 hS; first | (go_simp; first | done | rfl) | rfl | (obtain ⟨hc', hf', hk', hz⟩ := ecell hS; go_simp; first | done | rfl)); simp only [Act.put, List.setIfInBounds_toArray, List.set_cons_zero, List.set_cons_succ])
          all_goals clear ho0 ho1 ho2 ho3 ho4 ho5 ho6 ho7 ho8 ho9 ho10
          all_goals refine canon_done (NoPanic.normal ?_)
          go_wp2
          go_ret
          exact ⟨isB_t hM, hx0.trans (by repeat (first | exact Ext.refl _ | assumption | refine Ext.drew ?_ | refine Ext.drewN ?_ _ | refine Ext.iter ?_ _ _ | refine Ext.alloc ?_ _ | refine Ext.setCell ?_ (by first | exact Nat.le_refl _ | (simp <;> omega)) _ | refine Ext.trans2 (by assumption) ?_))⟩
        · skip
          refine wp_region_canon (fun w' => Ext w0 w') [(0, true), (1, true), (2, true), (3, true), (6, true), (7, true), (4, false), (5, true), (8, true), (9, true), (10, true)] (by kernel_rfl) (by kernel_rfl) (by decide) (by kernel_rfl) ?_ ?_
          · exact (by repeat (first | exact Ext.refl _ | assumption | refine Ext.drew ?_ | refine Ext.drewN ?_ _ | refine Ext.iter ?_ _ _ | refine Ext.alloc ?_ _ | refine Ext.setCell ?_ (by first | exact Nat.le_refl _ | (simp <;> omega)) _ | refine Ext.trans2 (by assumption) ?_))
          refine canon_intro fun ops eo => ?_
          have ho0 := canon_at eo 0 rfl
          have ho1 := canon_at eo 1 rfl
          have ho2 := canon_at eo 2 rfl
          have ho3 := canon_at eo 3 rfl
          have ho4 := canon_at eo 4 rfl
          have ho5 := canon_at eo 5 rfl
          have ho6 := canon_at eo 6 rfl
          have ho7 := canon_at eo 7 rfl
          have ho8 := canon_at eo 8 rfl
          have ho9 := canon_at eo 9 rfl
          have ho10 := canon_at eo 10 rfl
          clear eo
          all_goals first | (apply canon_st ho0 rfl; (intro w2 hS; first | (go_simp; first | done | rfl) | rfl | (obtain ⟨hc', hf', hk', hz⟩ := ecell hS; go_simp; first | done | rfl)); simp only [Act.put, List.setIfInBounds_toArray, List.set_cons_zero, List.set_cons_succ]) | (refine canon_stu ho0 rfl (by assumption) rfl rfl ?_; simp only [Act.put, List.setIfInBounds_toArray, List.set_cons_zero, List.set_cons_succ]) | (refine canon_stx ho0 rfl (by assumption) rfl rfl ?_; simp only [Act.put, List.setIfInBounds_toArray, List.set_cons_zero, List.set_cons_succ]) | (refine canon_stw (v := ?_) ho0 rfl (by assumption) rfl rfl ?_ ?_; rotate_left 1; (intro w2 hS; first | (go_simp; first | done | rfl) | rfl | (obtain ⟨hc', hf', hk', hz⟩ := ecell hS; go_simp; first | done | rfl)); simp only [Act.put, List.setIfInBounds_toArray, List.set_cons_zero, List.set_cons_succ])
          all_goals first | (apply canon_st ho1 rfl; (intro w2 hS; first | (go_simp; first | done | rfl) | rfl | (obtain ⟨hc', hf', hk', hz⟩ := ecell hS; go_simp; first | done | rfl)); simp only [Act.put, List.setIfInBounds_toArray, List.set_cons_zero, List.set_cons_succ]) | (refine canon_stu ho1 rfl (by assumption) rfl rfl ?_; simp only [Act.put, List.setIfInBounds_toArray, List.set_cons_zero, List.set_cons_succ]) | (refine canon_stx ho1 rfl (by assumption) rfl rfl ?_; simp only [Act.put, List.setIfInBounds_toArray, List.set_cons_zero, List.set_cons_succ]) | (refine canon_stw (v := ?_) ho1 rfl (by assumption) rfl rfl ?_ ?_; rotate_left 1; (intro w2 hS; first | (go_simp; first | done | rfl) | rfl | (obtain ⟨hc', hf', hk', hz⟩ := ecell hS; go_simp; first | done | rfl)); simp only [Act.put, List.setIfInBounds_toArray, List.set_cons_zero, List.set_cons_succ])
          all_goals first | (apply canon_st ho2 rfl; (intro w2 hS; first | (go_simp; first | done | rfl) | rfl | (obtain ⟨hc', hf', hk', hz⟩ := ecell hS; go_simp; first | done | rfl)); simp only [Act.put, List.setIfInBounds_toArray, List.set_cons_zero, List.set_cons_succ]) | (refine canon_stu ho2 rfl (by assumption) rfl rfl ?_; simp only [Act.put, List.setIfInBounds_toArray, List.set_cons_zero, List.set_cons_succ]) | (refine canon_stx ho2 rfl (by assumption) rfl rfl ?_; simp only [Act.put, List.setIfInBounds_toArray, List.set_cons_zero, List.set_cons_succ]) | (refine canon_stw (v := ?_) ho2 rfl (by assumption) rfl rfl ?_ ?_; rotate_left 1; (intro w2 hS; first | (go_simp; first | done | rfl) | rfl | (obtain ⟨hc', hf', hk', hz⟩ := ecell hS; go_simp; first | done | rfl)); simp only [Act.put, List.setIfInBounds_toArray, List.set_cons_zero, List.set_cons_succ])
          all_goals first | (apply canon_st ho3 rfl; (intro w2 hS; first | (go_simp; first | done | rfl) | rfl | (obtain ⟨hc', hf', hk', hz⟩ := ecell hS; go_simp; first | done | rfl)); simp only [Act.put, List.setIfInBounds_toArray, List.set_cons_zero, List.set_cons_succ]) | (refine canon_stu ho3 rfl (by assumption) rfl rfl ?_; simp only [Act.put, List.setIfInBounds_toArray, List.set_cons_zero, List.set_cons_succ]) | (refine canon_stx ho3 rfl (by assumption) rfl rfl ?_; simp only [Act.put, List.setIfInBounds_toArray, List.set_cons_zero, List.set_cons_succ]) | (refine canon_stw (v := ?_) ho3 rfl (by assumption) rfl rfl ?_ ?_; rotate_left 1; (intro w2 hS; first | (go_simp; first | done | rfl) | rfl | (obtain ⟨hc', hf', hk', hz⟩ := ecell hS; go_simp; first | done | rfl)); simp only [Act.put, List.setIfInBounds_toArray, List.set_cons_zero, List.set_cons_succ])
          all_goals first | (apply canon_st ho6 rfl; (intro w2 hS; first | (go_simp; first | done | rfl) | rfl | (obtain ⟨hc', hf', hk', hz⟩ := ecell hS; go_simp; first | done | rfl)); simp only [Act.put, List.setIfInBounds_toArray, List.set_cons_zero, List.set_cons_succ]) | (refine canon_stu ho6 rfl (by assumption) rfl rfl ?_; simp only [Act.put, List.setIfInBounds_toArray, List.set_cons_zero, List.set_cons_succ]) | (refine canon_stx ho6 rfl (by assumption) rfl rfl ?_; simp only [Act.put, List.setIfInBounds_toArray, List.set_cons_zero, List.set_cons_succ]) | (refine canon_stw (v := ?_) ho6 rfl (by assumption) rfl rfl ?_ ?_; rotate_left 1; (intro w2 hS; first | (go_simp; first | done | rfl) | rfl | (obtain ⟨hc', hf', hk', hz⟩ := ecell hS; go_simp; first | done | rfl)); simp only [Act.put, List.setIfInBounds_toArray, List.set_cons_zero, List.set_cons_succ])
          all_goals first | (apply canon_st ho7 rfl; (intro w2 hS; first | (go_simp; first | done | rfl) | rfl | (obtain ⟨hc', hf', hk', hz⟩ := ecell hS; go_simp; first | done | rfl)); simp only [Act.put, List.setIfInBounds_toArray, List.set_cons_zero, List.set_cons_succ]) | (refine canon_stu ho7 rfl (by assumption) rfl rfl ?_; simp only [Act.put, List.setIfInBounds_toArray, List.set_cons_zero, List.set_cons_succ]) | (refine canon_stx ho7 rfl (by assumption) rfl rfl ?_; simp only [Act.put, List.setIfInBounds_toArray, List.set_cons_zero, List.set_cons_succ]) | (refine canon_stw (v := ?_) ho7 rfl (by assumption) rfl rfl ?_ ?_; rotate_left 1; (intro w2 hS; first | (go_simp; first | done | rfl) | rfl | (obtain ⟨hc', hf', hk', hz⟩ := ecell hS; go_simp; first | done | rfl)); simp only [Act.put, List.setIfInBounds_toArray, List.set_cons_zero, List.set_cons_succ])
          all_goals first | (refine canon_efu ho4 rfl (by assumption) rfl rfl (by first | assumption | exact (by repeat (first | exact Ext.refl _ | assumption | refine Ext.drew ?_ | refine Ext.drewN ?_ _ | refine Ext.iter ?_ _ _ | refine Ext.alloc ?_ _ | refine Ext.setCell ?_ (by first | exact Nat.le_refl _ | (simp <;> omega)) _ | refine Ext.trans2 (by assumption) ?_))) ?_; simp only [Act.put, List.setIfInBounds_toArray, List.set_cons_zero, List.set_cons_succ]) | (refine canon_efx ho4 rfl (by assumption) rfl rfl (by first | assumption | exact (by repeat (first | exact Ext.refl _ | assumption | refine Ext.drew ?_ | refine Ext.drewN ?_ _ | refine Ext.iter ?_ _ _ | refine Ext.alloc ?_ _ | refine Ext.setCell ?_ (by first | exact Nat.le_refl _ | (simp <;> omega)) _ | refine Ext.trans2 (by assumption) ?_))) ?_; simp only [Act.put, List.setIfInBounds_toArray, List.set_cons_zero, List.set_cons_succ]) | (refine canon_ef ho4 rfl (fun K hK => ?_); go_simp; ((go_at_call 73; (with_reducible refine (hdc.out _).mono ?_); rintro e w2 ⟨rfl, hx2⟩)); all_goals (refine hK _ _ ⟨(by repeat (first | exact Ext.refl _ | assumption | refine Ext.drew ?_ | refine Ext.drewN ?_ _ | refine Ext.iter ?_ _ _ | refine Ext.alloc ?_ _ | refine Ext.setCell ?_ (by first | exact Nat.le_refl _ | (simp <;> omega)) _ | refine Ext.trans2 (by assumption) ?_)), ?_⟩; clear hK K; go_simp)) | (refine canon_efw ho4 rfl (by assumption) rfl rfl (fun K hK => ?_); go_simp; ((go_at_call 73; (with_reducible refine (hdc.out _).mono ?_); rintro e w2 ⟨rfl, hx2⟩)); all_goals (refine hK _ _ ⟨(by repeat (first | exact Ext.refl _ | assumption | refine Ext.drew ?_ | refine Ext.drewN ?_ _ | refine Ext.iter ?_ _ _ | refine Ext.alloc ?_ _ | refine Ext.setCell ?_ (by first | exact Nat.le_refl _ | (simp <;> omega)) _ | refine Ext.trans2 (by assumption) ?_)), ?_⟩; clear hK K; go_simp))
          all_goals first | (apply canon_st ho5 rfl; (intro w2 hS; first | (go_simp; first | done | rfl) | rfl | (obtain ⟨hc', hf', hk', hz⟩ := ecell hS; go_simp; first | done | rfl)); simp only [Act.put, List.setIfInBounds_toArray, List.set_cons_zero, List.set_cons_succ]) | (refine canon_stu ho5 rfl (by assumption) rfl rfl ?_; simp only [Act.put, List.setIfInBounds_toArray, List.set_cons_zero, List.set_cons_succ]) | (refine canon_stx ho5 rfl (by assumption) rfl rfl ?_; simp only [Act.put, List.setIfInBounds_toArray, List.set_cons_zero, List.set_cons_succ]) | (refine canon_stw (v := ?_) ho5 rfl (by assumption) rfl rfl ?_ ?_; rotate_left 1; (intro w2 hS; first | (go_simp; first | done | rfl) | rfl | (obtain ⟨hc', hf', hk', hz⟩ := ecell hS; go_simp; first | done | rfl)); simp only [Act.put, List.setIfInBounds_toArray, List.set_cons_zero, List.set_cons_succ])
          all_goals first | (apply canon_st ho8 rfl; (intro w2 hS; first | (go_simp; first | done | rfl) | rfl | (obtain ⟨hc', hf', hk', hz⟩ := ecell hS; go_simp; first | done | rfl)); simp only [Act.put, List.setIfInBounds_toArray, List.set_cons_zero, List.set_cons_succ]) | (refine canon_stu ho8 rfl (by assumption) rfl rfl ?_; simp only [Act.put, List.setIfInBounds_toArray, List.set_cons_zero, List.set_cons_succ]) | (refine canon_stx ho8 rfl (by assumption) rfl rfl ?_; simp only [Act.put, List.setIfInBounds_toArray, List.set_cons_zero, List.set_cons_succ]) | (refine canon_stw (v := ?_) ho8 rfl (by assumption) rfl rfl ?_ ?_; rotate_left 1; (intro w2 hS; first | (go_simp; first | done | rfl) | rfl | (obtain ⟨hc', hf', hk', hz⟩ := ecell hS; go_simp; first | done | rfl)); simp only [Act.put, List.setIfInBounds_toArray, List.set_cons_zero, List.set_cons_succ])
          all_goals first | (apply canon_st ho9 rfl; (intro w2 hS; first | (go_simp; first | done | rfl) | rfl | (obtain ⟨hc', hf', hk', hz⟩ := ecell hS; go_simp; first | done | rfl)); simp only [Act.put, List.setIfInBounds_toArray, List.set_cons_zero, List.set_cons_succ]) | (refine canon_stu ho9 rfl (by assumption) rfl rfl ?_; simp only [Act.put, List.setIfInBounds_toArray, List.set_cons_zero, List.set_cons_succ]) | (refine canon_stx ho9 rfl (by assumption) rfl rfl ?_; simp only [Act.put, List.setIfInBounds_toArray, List.set_cons_zero, List.set_cons_succ]) | (refine canon_stw (v := ?_) ho9 rfl (by assumption) rfl rfl ?_ ?_; rotate_left 1; (intro w2 hS; first | (go_simp; first | done | rfl) | rfl | (obtain ⟨hc', hf', hk', hz⟩ := ecell hS; go_simp; first | done | rfl)); simp only [Act.put, List.setIfInBounds_toArray, List.set_cons_zero, List.set_cons_succ])
          all_goals first | (apply canon_st ho10 rfl; (intro w2 hS; first | (go_simp; first | done | rfl) | rfl | (obtain ⟨hc', hf', hk', hz⟩ := ecell hS; go_simp; first | done | rfl)); simp only [Act.put, List.setIfInBounds_toArray, List.set_cons_zero, List.set_cons_succ]) | (refine canon_stu ho10 rfl (by assumption) rfl rfl ?_; simp only [Act.put, List.setIfInBounds_toArray, List.set_cons_zero, List.set_cons_succ]) | (refine canon_stx ho10 rfl (by assumption) rfl rfl ?_; simp only [Act.put, List.setIfInBounds_toArray, List.set_cons_zero, List.set_cons_succ]) | (refine canon_stw (v := ?_) ho10 rfl (by assumption) rfl rfl ?_ ?_; rotate_left 1; (intro w2 hS; first | (go_simp; first | done | rfl) | rfl | (obtain ⟨hc', hf', hk', hz⟩ := ecell hS; go_simp; first | done | rfl)); simp only [Act.put, List.setIfInBounds_toArray, List.set_cons_zero, List.set_cons_succ])
          all_goals clear ho0 ho1 ho2 ho3 ho4 ho5 ho6 ho7 ho8 ho9 ho10
          all_goals refine canon_done (NoPanic.normal ?_)
          go_wp2
          go_ret
          exact ⟨isB_f (fun h => by have := (hv.out.1 h).2.2.2.2.2.2.2; omega), hx0.trans (by repeat (first | exact Ext.refl _ | assumption | refine Ext.drew ?_ | refine Ext.drewN ?_ _ | refine Ext.iter ?_ _ _ | refine Ext.alloc ?_ _ | refine Ext.setCell ?_ (by first | exact Nat.le_refl _ | (simp <;> omega)) _ | refine Ext.trans2 (by assumption) ?_))⟩
      · skip
        refine wp_region_canon (fun w' => Ext w0 w') [(0, true), (1, true), (2, true), (3, true), (6, true), (7, true), (4, false), (5, true), (8, true), (9, true), (10, true)] (by kernel_rfl) (by kernel_rfl) (by decide) (by kernel_rfl) ?_ ?_
        · exact (by repeat (first | exact Ext.refl _ | assumption | refine Ext.drew ?_ | refine Ext.drewN ?_ _ | refine Ext.iter ?_ _ _ | refine Ext.alloc ?_ _ | refine Ext.setCell ?_ (by first | exact Nat.le_refl _ | (simp <;> omega)) _ | refine Ext.trans2 (by assumption) ?_))
        refine canon_intro fun ops eo => ?_
        have ho0 := canon_at eo 0 rfl
        have ho1 := canon_at eo 1 rfl
        have ho2 := canon_at eo 2 rfl
        have ho3 := canon_at eo 3 rfl
        have ho4 := canon_at eo 4 rfl
        have ho5 := canon_at eo 5 rfl
        have ho6 := canon_at eo 6 rfl
        have ho7 := canon_at eo 7 rfl
        have ho8 := canon_at eo 8 rfl
        have ho9 := canon_at eo 9 rfl
        have ho10 := canon_at eo 10 rfl
        clear eo
        all_goals first | (apply canon_st ho0 rfl; (intro w2 hS; first | (go_simp; first | done | rfl) | rfl | (obtain ⟨hc', hf', hk', hz⟩ := ecell hS; go_simp; first | done | rfl)); simp only [Act.put, List.setIfInBounds_toArray, List.set_cons_zero, List.set_cons_succ]) | (refine canon_stu ho0 rfl (by assumption) rfl rfl ?_; simp only [Act.put, List.setIfInBounds_toArray, List.set_cons_zero, List.set_cons_succ]) | (refine canon_stx ho0 rfl (by assumption) rfl rfl ?_; simp only [Act.put, List.setIfInBounds_toArray, List.set_cons_zero, List.set_cons_succ]) | (refine canon_stw (v := ?_) ho0 rfl (by assumption) rfl rfl ?_ ?_; rotate_left 1; (intro w2 hS; first | (go_simp; first | done | rfl) | rfl | (obtain ⟨hc', hf', hk', hz⟩ := ecell hS; go_simp; first | done | rfl)); simp only [Act.put, List.setIfInBounds_toArray, List.set_cons_zero, List.set_cons_succ])
        all_goals first | (apply canon_st ho1 rfl; (intro w2 hS; first | (go_simp; first | done | rfl) | rfl | (obtain ⟨hc', hf', hk', hz⟩ := ecell hS; go_simp; first | done | rfl)); simp only [Act.put, List.setIfInBounds_toArray, List.set_cons_zero, List.set_cons_succ]) | (refine canon_stu ho1 rfl (by assumption) rfl rfl ?_; simp only [Act.put, List.setIfInBounds_toArray, List.set_cons_zero, List.set_cons_succ]) | (refine canon_stx ho1 rfl (by assumption) rfl rfl ?_; simp only [Act.put, List.setIfInBounds_toArray, List.set_cons_zero, List.set_cons_succ]) | (refine canon_stw (v := ?_) ho1 rfl (by assumption) rfl rfl ?_ ?_; rotate_left 1; (intro w2 hS; first | (go_simp; first | done | rfl) | rfl | (obtain ⟨hc', hf', hk', hz⟩ := ecell hS; go_simp; first | done | rfl)); simp only [Act.put, List.setIfInBounds_toArray, List.set_cons_zero, List.set_cons_succ])
        all_goals first | (apply canon_st ho2 rfl; (intro w2 hS; first | (go_simp; first | done | rfl) | rfl | (obtain ⟨hc', hf', hk', hz⟩ := ecell hS; go_simp; first | done | rfl)); simp only [Act.put, List.setIfInBounds_toArray, List.set_cons_zero, List.set_cons_succ]) | (refine canon_stu ho2 rfl (by assumption) rfl rfl ?_; simp only [Act.put, List.setIfInBounds_toArray, List.set_cons_zero, List.set_cons_succ]) | (refine canon_stx ho2 rfl (by assumption) rfl rfl ?_; simp only [Act.put, List.setIfInBounds_toArray, List.set_cons_zero, List.set_cons_succ]) | (refine canon_stw (v := ?_) ho2 rfl (by assumption) rfl rfl ?_ ?_; rotate_left 1; (intro w2 hS; first | (go_simp; first | done | rfl) | rfl | (obtain ⟨hc', hf', hk', hz⟩ := ecell hS; go_simp; first | done | rfl)); simp only [Act.put, List.setIfInBounds_toArray, List.set_cons_zero, List.set_cons_succ])
        all_goals first | (apply canon_st ho3 rfl; (intro w2 hS; first | (go_simp; first | done | rfl) | rfl | (obtain ⟨hc', hf', hk', hz⟩ := ecell hS; go_simp; first | done | rfl)); simp only [Act.put, List.setIfInBounds_toArray, List.set_cons_zero, List.set_cons_succ]) | (refine canon_stu ho3 rfl (by assumption) rfl rfl ?_; simp only [Act.put, List.setIfInBounds_toArray, List.set_cons_zero, List.set_cons_succ]) | (refine canon_stx ho3 rfl (by assumption) rfl rfl ?_; simp only [Act.put, List.setIfInBounds_toArray, List.set_cons_zero, List.set_cons_succ]) | (refine canon_stw (v := ?_) ho3 rfl (by assumption) rfl rfl ?_ ?_; rotate_left 1; (intro w2 hS; first | (go_simp; first | done | rfl) | rfl | (obtain ⟨hc', hf', hk', hz⟩ := ecell hS; go_simp; first | done | rfl)); simp only [Act.put, List.setIfInBounds_toArray, List.set_cons_zero, List.set_cons_succ])
        all_goals first | (apply canon_st ho6 rfl; (intro w2 hS; first | (go_simp; first | done | rfl) | rfl | (obtain ⟨hc', hf', hk', hz⟩ := ecell hS; go_simp; first | done | rfl)); simp only [Act.put, List.setIfInBounds_toArray, List.set_cons_zero, List.set_cons_succ]) | (refine canon_stu ho6 rfl (by assumption) rfl rfl ?_; simp only [Act.put, List.setIfInBounds_toArray, List.set_cons_zero, List.set_cons_succ]) | (refine canon_stx ho6 rfl (by assumption) rfl rfl ?_; simp only [Act.put, List.setIfInBounds_toArray, List.set_cons_zero, List.set_cons_succ]) | (refine canon_stw (v := ?_) ho6 rfl (by assumption) rfl rfl ?_ ?_; rotate_left 1; (intro w2 hS; first | (go_simp; first | done | rfl) | rfl | (obtain ⟨hc', hf', hk', hz⟩ := ecell hS; go_simp; first | done | rfl)); simp only [Act.put, List.setIfInBounds_toArray, List.set_cons_zero, List.set_cons_succ])
        all_goals first | (apply canon_st ho7 rfl; (intro w2 hS; first | (go_simp; first | done | rfl) | rfl | (obtain ⟨hc', hf', hk', hz⟩ := ecell hS; go_simp; first | done | rfl)); simp only [Act.put, List.setIfInBounds_toArray, List.set_cons_zero, List.set_cons_succ]) | (refine canon_stu ho7 rfl (by assumption) rfl rfl ?_; simp only [Act.put, List.setIfInBounds_toArray, List.set_cons_zero, List.set_cons_succ]) | (refine canon_stx ho7 rfl (by assumption) rfl rfl ?_; simp only [Act.put, List.setIfInBounds_toArray, List.set_cons_zero, List.set_cons_succ]) | (refine canon_stw (v := ?_) ho7 rfl (by assumption) rfl rfl ?_ ?_; rotate_left 1; (intro w2 hS; first | (go_simp; first | done | rfl) | rfl | (obtain ⟨hc', hf', hk', hz⟩ := ecell hS; go_simp; first | done | rfl)); simp only [Act.put, List.setIfInBounds_toArray, List.set_cons_zero, List.set_cons_succ])
        all_goals first | (refine canon_efu ho4 rfl (by assumption) rfl rfl (by first | assumption | exact (by repeat (first | exact Ext.refl _ | assumption | refine Ext.drew ?_ | refine Ext.drewN ?_ _ | refine Ext.iter ?_ _ _ | refine Ext.alloc ?_ _ | refine Ext.setCell ?_ (by first | exact Nat.le_refl _ | (simp <;> omega)) _ | refine Ext.trans2 (by assumption) ?_))) ?_; simp only [Act.put, List.setIfInBounds_toArray, List.set_cons_zero, List.set_cons_succ]) | (refine canon_efx ho4 rfl (by assumption) rfl rfl (by first | assumption | exact (by repeat (first | exact Ext.refl _ | assumption | refine Ext.drew ?_ | refine Ext.drewN ?_ _ | refine Ext.iter ?_ _ _ | refine Ext.alloc ?_ _ | refine Ext.setCell ?_ (by first | exact Nat.le_refl _ | (simp <;> omega)) _ | refine Ext.trans2 (by assumption) ?_))) ?_; simp only [Act.put, List.setIfInBounds_toArray, List.set_cons_zero, List.set_cons_succ]) | (refine canon_ef ho4 rfl (fun K hK => ?_); go_simp; ((go_at_call 73; (with_reducible refine (hdc.out _).mono ?_); rintro e w2 ⟨rfl, hx2⟩)); all_goals (refine hK _ _ ⟨(by repeat (first | exact Ext.refl _ | assumption | refine Ext.drew ?_ | refine Ext.drewN ?_ _ | refine Ext.iter ?_ _ _ | refine Ext.alloc ?_ _ | refine Ext.setCell ?_ (by first | exact Nat.le_refl _ | (simp <;> omega)) _ | refine Ext.trans2 (by assumption) ?_)), ?_⟩; clear hK K; go_simp)) | (refine canon_efw ho4 rfl (by assumption) rfl rfl (fun K hK => ?_); go_simp; ((go_at_call 73; (with_reducible refine (hdc.out _).mono ?_); rintro e w2 ⟨rfl, hx2⟩)); all_goals (refine hK _ _ ⟨(by repeat (first | exact Ext.refl _ | assumption | refine Ext.drew ?_ | refine Ext.drewN ?_ _ | refine Ext.iter ?_ _ _ | refine Ext.alloc ?_ _ | refine Ext.setCell ?_ (by first | exact Nat.le_refl _ | (simp <;> omega)) _ | refine Ext.trans2 (by assumption) ?_)), ?_⟩; clear hK K; go_simp))
        all_goals first | (apply canon_st ho5 rfl; (intro w2 hS; first | (go_simp; first | done | rfl) | rfl | (obtain ⟨hc', hf', hk', hz⟩ := ecell hS; go_simp; first | done | rfl)); simp only [Act.put, List.setIfInBounds_toArray, List.set_cons_zero, List.set_cons_succ]) | (refine canon_stu ho5 rfl (by assumption) rfl rfl ?_; simp only [Act.put, List.setIfInBounds_toArray, List.set_cons_zero, List.set_cons_succ]) | (refine canon_stx ho5 rfl (by assumption) rfl rfl ?_; simp only [Act.put, List.setIfInBounds_toArray, List.set_cons_zero, List.set_cons_succ]) | (refine canon_stw (v := ?_) ho5 rfl (by assumption) rfl rfl ?_ ?_; rotate_left 1; (intro w2 hS; first | (go_simp; first | done | rfl) | rfl | (obtain ⟨hc', hf', hk', hz⟩ := ecell hS; go_simp; first | done | rfl)); simp only [Act.put, List.setIfInBounds_toArray, List.set_cons_zero, List.set_cons_succ])
        all_goals first | (apply canon_st ho8 rfl; (intro w2 hS; first | (go_simp; first | done | rfl) | rfl | (obtain ⟨hc', hf', hk', hz⟩ := ecell hS; go_simp; first | done | rfl)); simp only [Act.put, List.setIfInBounds_toArray, List.set_cons_zero, List.set_cons_succ]) | (refine canon_stu ho8 rfl (by assumption) rfl rfl ?_; simp only [Act.put, List.setIfInBounds_toArray, List.set_cons_zero, List.set_cons_succ]) | (refine canon_stx ho8 rfl (by assumption) rfl rfl ?_; simp only [Act.put, List.setIfInBounds_toArray, List.set_cons_zero, List.set_cons_succ]) | (refine canon_stw (v := ?_) ho8 rfl (by assumption) rfl rfl ?_ ?_; rotate_left 1; (intro w2 hS; first | (go_simp; first | done | rfl) | rfl | (obtain ⟨hc', hf', hk', hz⟩ := ecell hS; go_simp; first | done | rfl)); simp only [Act.put, List.setIfInBounds_toArray, List.set_cons_zero, List.set_cons_succ])
        all_goals first | (apply canon_st ho9 rfl; (intro w2 hS; first | (go_simp; first | done | rfl) | rfl | (obtain ⟨hc', hf', hk', hz⟩ := ecell hS; go_simp; first | done | rfl)); simp only [Act.put, List.setIfInBounds_toArray, List.set_cons_zero, List.set_cons_succ]) | (refine canon_stu ho9 rfl (by assumption) rfl rfl ?_; simp only [Act.put, List.setIfInBounds_toArray, List.set_cons_zero, List.set_cons_succ]) | (refine canon_stx ho9 rfl (by assumption) rfl rfl ?_; simp only [Act.put, List.setIfInBounds_toArray, List.set_cons_zero, List.set_cons_succ]) | (refine canon_stw (v := ?_) ho9 rfl (by assumption) rfl rfl ?_ ?_; rotate_left 1; (intro w2 hS; first | (go_simp; first | done | rfl) | rfl | (obtain ⟨hc', hf', hk', hz⟩ := ecell hS; go_simp; first | done | rfl)); simp only [Act.put, List.setIfInBounds_toArray, List.set_cons_zero, List.set_cons_succ])
        all_goals first | (apply canon_st ho10 rfl; (intro w2 hS; first | (go_simp; first | done | rfl) | rfl | (obtain ⟨hc', hf', hk', hz⟩ := ecell hS; go_simp; first | done | rfl)); simp only [Act.put, List.setIfInBounds_toArray, List.set_cons_zero, List.set_cons_succ]) | (refine canon_stu ho10 rfl (by assumption) rfl rfl ?_; simp only [Act.put, List.setIfInBounds_toArray, List.set_cons_zero, List.set_cons_succ]) | (refine canon_stx ho10 rfl (by assumption) rfl rfl ?_; simp only [Act.put, List.setIfInBounds_toArray, List.set_cons_zero, List.set_cons_succ]) | (refine canon_stw (v := ?_) ho10 rfl (by assumption) rfl rfl ?_ ?_; rotate_left 1; (intro w2 hS; first | (go_simp; first | done | rfl) | rfl | (obtain ⟨hc', hf', hk', hz⟩ := ecell hS; go_simp; first | done | rfl)); simp only [Act.put, List.setIfInBounds_toArray, List.set_cons_zero, List.set_cons_succ])
        all_goals clear ho0 ho1 ho2 ho3 ho4 ho5 ho6 ho7 ho8 ho9 ho10
        all_goals refine canon_done (NoPanic.normal ?_)
        go_wp2
        go_ret
        exact ⟨isB_f (fun h => by have := (hv.out.1 h).2.2.2.2.2.2.1; omega), hx0.trans (by repeat (first | exact Ext.refl _ | assumption | refine Ext.drew ?_ | refine Ext.drewN ?_ _ | refine Ext.iter ?_ _ _ | refine Ext.alloc ?_ _ | refine Ext.setCell ?_ (by first | exact Nat.le_refl _ | (simp <;> omega)) _ | refine Ext.trans2 (by assumption) ?_))⟩
    · go_ret
      exact ⟨isB_f (fun h => hP ⟨(hv.out.1 h).1, (hv.out.1 h).2.1⟩), hx0⟩
  · replace hr := Lib.hid hr
    go_enter Tryd.func72, Tryd.ntmps72
    go_wp2_with (first
      | (go_at_call 111; (with_reducible refine (hpx.out _).mono ?_); rintro e w1 ⟨⟨hP, rfl⟩ | ⟨hP, rfl⟩, rfl⟩)
      | (go_at_call 98; (with_reducible refine (l01In_c _ _ _ _).mono ?_); rintro e w1' ⟨⟨hP', rfl⟩ | ⟨hP', rfl⟩, rfl⟩ <;> (try (exfalso; exact hr.out ⟨by assumption, by assumption, by assumption, by assumption⟩))))
    all_goals
      go_ret
      exact ⟨isB_f (fun h => hr.out ⟨(hv.out.1 h).2.2.1, (hv.out.1 h).2.2.2.1, (hv.out.1 h).2.2.2.2.1, (hv.out.1 h).2.2.2.2.2.1⟩), hx0⟩
end Go.Proofs.YthpnkcamjcohgaaDoor
