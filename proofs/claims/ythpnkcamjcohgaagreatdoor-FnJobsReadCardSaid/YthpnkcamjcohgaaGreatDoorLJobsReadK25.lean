/- The runs of a row in the reference. -/
import Derived.Test.YthpnkcamjcohgaaGreatDoorLJobsReadK17
import Derived.Test.YthpnkcamjcohgaaGreatDoorLJobsReadK24
import Derived.Deep.DeepCutAuto
namespace Go.Proofs.YthpnkcamjcohgaaGreatDoor
set_option linter.unusedVariables false
set_option linter.unusedSimpArgs false
open Go.RowKit

theorem rowR_size (xs : List Int) : ∀ k, k ≤ 40000 → (rowR xs k).size ≤ 7 * k := by
  intro k
  induction k with
  | zero => intro _; exact Nat.le_refl _
  | succ k ih =>
    intro hk
    have ih := ih (by omega)
    by_cases hc : k + 1 = xs.length ∨ xs.getD (k + 1) 0 ≠ xs.getD k 0
    · have h2 := penR_le xs k
      have h1 := dec_len 5 (penR xs k + 1) (by omega)
      rw [(rowR_cut hc).1, ByteArray.size_append, ByteArray.size_append, dec_size, Lib.itoa_nonneg]
      have : (letB (xs.getD k 0)).size = 1 := by unfold letB; split <;> rfl
      omega
    · rw [(rowR_go hc).1]; omega
set_option maxHeartbeats 3200000 in
set_option maxRecDepth 100000 in
theorem l30Row_c (p : Option Addr) (c : Nat) (xs : List Int) (w : World) (hx : IntsAt w p xs) (hz : z1 xs) (h4 : xs.length ≤ 40000) :
    Calls Tryz.prog 57 #[.slice p xs.length c] w fun e w' => e = .returned (.string (rowR xs xs.length)) ∧ Ext w w' := by
  have HX := Lib.hid hx; clear hx
  go_enter Tryz.func57, Tryz.ntmps57
  go_upto_region 4 with (fail)
  go_loopw [3, 4, 5] (fun o l i wr => ∃ k : Nat, k ≤ xs.length ∧ i = .int .i64 k ∧ l = .int .i64 (penR xs k) ∧ o = .string (rowR xs k) ∧ Ext w wr) (fun _ _ i _ => xs.length - (intOf i).toNat)
  case atStart => exact ⟨0, Nat.zero_le _, rfl, rfl, rfl, (by repeat (first | exact Ext.refl _ | assumption | refine Ext.drew ?_ | refine Ext.drewN ?_ _ | refine Ext.iter ?_ _ _ | refine Ext.alloc ?_ _ | refine Ext.setCell ?_ (by first | exact Nat.le_refl _ | (simp <;> omega)) _ | refine Ext.trans2 (by assumption) ?_))⟩
  case round =>
    obtain ⟨k, hk, rfl, rfl, rfl, hext⟩ := hrel
    by_cases hlt : k < xs.length
    · have hp := penR_le xs k
      have hsz := rowR_size xs k (by omega)
      obtain ⟨q, o, rfl, hbl, y0⟩ := (HX.out.ext hext) k hlt
      have hz0 := z1_at hz hlt
      have hlti : (k : Int) < xs.length := by omega
      have hdl := dec_len 5 (penR xs k + 1) (by omega)
      have hds : (dec ((penR xs k + 1 : Nat) : Int)).size ≤ 6 := by rw [dec_size, Lib.itoa_nonneg]; exact hdl
      have hdc : Hid (∀ W, Calls Tryz.prog 55 #[.int .i64 ((penR xs k : Int) + 1)] W fun e w' => e = .returned (.string (dec ((penR xs k + 1 : Nat) : Int))) ∧ Ext W w') := Lib.hid (fun W => sDec_c (penR xs k + 1) W (by omega))
      clear hdl
      by_cases hc : k + 1 = xs.length ∨ xs.getD (k + 1) 0 ≠ xs.getD k 0
      · have hrc := rowR_cut hc
        have hend : (k : Int) + 1 = xs.length ∨ ((k : Int) + 1 < xs.length ∧ ∃ u, wr.cell? ⟨q, o + (k + 1), none⟩ = some (.int .i64 u) ∧ ((xs.getD k 0 = 0 ∧ u = 1) ∨ (xs.getD k 0 = 1 ∧ u = 0))) := by
          by_cases he : k + 1 = xs.length
          · exact .inl (by omega)
          · have hl1 : k + 1 < xs.length := by omega
            refine .inr ⟨by omega, xs.getD (k + 1) 0, ?_, ?_⟩
            · obtain ⟨q', o', e, -, y1⟩ := (HX.out.ext hext) (k + 1) hl1
              simp only [Option.some.injEq, Addr.mk.injEq, and_true] at e
              obtain ⟨rfl, rfl⟩ := e
              exact y1
            · have hne : xs.getD (k + 1) 0 ≠ xs.getD k 0 := hc.resolve_left he
              rcases z1_at hz hl1 with h1 | h1 <;> rcases hz0 with h2 | h2
              · exact absurd (h1.trans h2.symm) hne
              · exact .inr ⟨h2, h1⟩
              · exact .inl ⟨h2, h1⟩
              · exact absurd (h1.trans h2.symm) hne
        clear hc
        have hin : letB 0 = ⟨#[97]⟩ ∧ letB 1 = ⟨#[98]⟩ := ⟨rfl, rfl⟩
        have hGX : xs.getD k 0 = xs.getD k 0 := rfl
        generalize hxx : xs.getD k 0 = x at hGX y0 hz0 hrc hend
        replace hGX := Lib.hid hxx
        clear hxx
        generalize hP : penR xs k = PL at *
        generalize hR : rowR xs k = RX at *
        generalize hD : dec ((PL + 1 : Nat) : Int) = DX at *
        replace hP := Lib.hid hP; replace hR := Lib.hid hR; replace hD := Lib.hid hD
        obtain ⟨hrc1, hrc2⟩ := hrc
        replace hrc2 := Lib.hid hrc2
        have hrowA := fun (w1 : World) => RowB.one (B := w1.heap.size) (w := w1) (Nat.le_refl _) 97
        have hrowB := fun (w1 : World) => RowB.one (B := w1.heap.size) (w := w1) (Nat.le_refl _) 98
        have hcvA := fun (w1 : World) => (hrowA w1).conv
        have hcvB := fun (w1 : World) => (hrowB w1).conv
        have eA : (((97 : UInt8).toNat : Nat) : Int) = 97 := rfl
        have eB : (((98 : UInt8).toNat : Nat) : Int) = 98 := rfl
        rw [eA] at hrowA hcvA
        rw [eB] at hrowB hcvB
        have hr2A : ∀ (w1 w2 : World), Ext (w1.alloc (.cells #[.int .u8 97] 5)) w2 → (convert 22 9 (.slice (some ⟨w1.heap.size, 0, none⟩) 1 1)).run Tryz.prog w2 = .ok (.string ⟨#[97]⟩) w2 := fun w1 w2 h => ((hrowA w1).ext h).conv
        have hr2B : ∀ (w1 w2 : World), Ext (w1.alloc (.cells #[.int .u8 98] 5)) w2 → (convert 22 9 (.slice (some ⟨w1.heap.size, 0, none⟩) 1 1)).run Tryz.prog w2 = .ok (.string ⟨#[98]⟩) w2 := fun w1 w2 h => ((hrowB w1).ext h).conv
        have hr0A : ∀ w1 : World, (convert 22 9 (.slice (some ⟨w1.heap.size, 0, none⟩) 1 1)).run Tryz.prog (w1.alloc (.cells #[.int .u8 97] 5)).drew = .ok (.string ⟨#[97]⟩) (w1.alloc (.cells #[.int .u8 97] 5)).drew := fun w1 => hr2A w1 _ ((Ext.refl _).drew)
        have hr0B : ∀ w1 : World, (convert 22 9 (.slice (some ⟨w1.heap.size, 0, none⟩) 1 1)).run Tryz.prog (w1.alloc (.cells #[.int .u8 98] 5)).drew = .ok (.string ⟨#[98]⟩) (w1.alloc (.cells #[.int .u8 98] 5)).drew := fun w1 => hr2B w1 _ ((Ext.refl _).drew)
        clear hrowA hrowB eA eB
        have wA : IntKind.i64.wrap 97 = 97 := rfl
        have wA8 : IntKind.u8.wrap 97 = 97 := rfl
        have wB : IntKind.i64.wrap 98 = 98 := rfl
        have wB8 : IntKind.u8.wrap 98 = 98 := rfl
        have hsA : (⟨#[97]⟩ : ByteArray).size = 1 := rfl
        have hsB : (⟨#[98]⟩ : ByteArray).size = 1 := rfl
        have hl1 : ¬ 9223372036854775807 < RX.size + DX.size := by omega
        have hl2 : ¬ 9223372036854775807 < RX.size + DX.size + 1 := by omega
        rcases hend with he | ⟨h1l, u, y1, hxu⟩
        · have hnl : (((k : Int) + 1) == (xs.length : Int)) = true := by simpa using he
          rcases hz0 with rfl | rfl
          all_goals
            first | rw [hin.1] at hrc1 | rw [hin.2] at hrc1
            replace hrc1 := Lib.hid hrc1
            clear hin
            go_upto_region 7 with (fail)
            go_quiet (fail)
            have hext0 := hext.drewN nq
            generalize wr.drewN nq = w0 at *
            obtain ⟨q', o', e, hbl0, z0⟩ := (HX.out.ext hext0) k hlt
            simp only [Option.some.injEq, Addr.mk.injEq, and_true] at e
            obtain ⟨rfl, rfl⟩ := e
            rw [hGX.out] at z0
            clear y0 hbl
            have hcv0A := hr0A w0; have hcv0B := hr0B w0
            go_upto_region 8 with (fail)
            refine wp_region_c3 (fun w' => Ext w0 w') (.st 0 (.st 1 (.st 4 (.st 5 (.st 6 (.st 7 (.st 8 (.st 9 (.two 2 (.st 3 (.one 10 (.one 11 (.st 12 (.st 13 .done))))) 10 (.two 2 (.st 3 (.one 11 (.st 12 (.st 13 .done)))) 11 (.one 2 (.st 3 (.st 12 (.st 13 .done)))))))))))))) (by kernel_rfl) (by kernel_rfl) (by decide) (by kernel_rfl) ?_ ?_
            · exact (by repeat (first | exact Ext.refl _ | assumption | refine Ext.drew ?_ | refine Ext.drewN ?_ _ | refine Ext.iter ?_ _ _ | refine Ext.alloc ?_ _ | refine Ext.setCell ?_ (by first | exact Nat.le_refl _ | (simp <;> omega)) _ | refine Ext.trans2 (by assumption) ?_))
            refine c3_intro fun ops eo => ?_
            have ho0 := canon_at eo 0 rfl
            have ho1 := canon_at eo 1 rfl
            have ho2 := canon_at eo 2 rfl
            have ho3 := canon_at eo 3 rfl
            have ho4 := canon_at eo 4 rfl
            have ho5 := canon_at eo 5 rfl
            have ho6 := canon_at eo 6 rfl
            have ho7 := canon_at eo 7 rfl
            have ho8 := canon_at eo 8 rfl
            have ho9 := canon_at eo 9 rfl
            have ho10 := canon_at eo 10 rfl
            have ho11 := canon_at eo 11 rfl
            have ho12 := canon_at eo 12 rfl
            have ho13 := canon_at eo 13 rfl
            clear eo
            all_goals (apply c3_st ho0 rfl; (intro w2 hS; first | (go_simp; first | done | rfl) | rfl | (obtain ⟨hc', hf', hk', hz⟩ := ecell hS; go_simp; first | done | rfl)); simp only [Act.put, List.setIfInBounds_toArray, List.set_cons_zero, List.set_cons_succ])
            all_goals clear ho0
            all_goals (apply c3_st ho1 rfl; (intro w2 hS; first | (go_simp; first | done | rfl) | rfl | (obtain ⟨hc', hf', hk', hz⟩ := ecell hS; go_simp; first | done | rfl)); simp only [Act.put, List.setIfInBounds_toArray, List.set_cons_zero, List.set_cons_succ])
            all_goals clear ho1
            all_goals (apply c3_st ho4 rfl; (intro w2 hS; first | (go_simp; first | done | rfl) | rfl | (obtain ⟨hc', hf', hk', hz⟩ := ecell hS; go_simp; first | done | rfl)); simp only [Act.put, List.setIfInBounds_toArray, List.set_cons_zero, List.set_cons_succ])
            all_goals clear ho4
            all_goals (apply c3_st ho5 rfl; (intro w2 hS; first | (go_simp; first | done | rfl) | rfl | (obtain ⟨hc', hf', hk', hz⟩ := ecell hS; go_simp; first | done | rfl)); simp only [Act.put, List.setIfInBounds_toArray, List.set_cons_zero, List.set_cons_succ])
            all_goals clear ho5
            all_goals (apply c3_st ho6 rfl; (intro w2 hS; first | (go_simp; first | done | rfl) | rfl | (obtain ⟨hc', hf', hk', hz⟩ := ecell hS; go_simp; first | done | rfl)); simp only [Act.put, List.setIfInBounds_toArray, List.set_cons_zero, List.set_cons_succ])
            all_goals clear ho6
            all_goals (apply c3_st ho7 rfl; (intro w2 hS; first | (go_simp; first | done | rfl) | rfl | (obtain ⟨hc', hf', hk', hz⟩ := ecell hS; go_simp; first | done | rfl)); simp only [Act.put, List.setIfInBounds_toArray, List.set_cons_zero, List.set_cons_succ])
            all_goals clear ho7
            all_goals (apply c3_st ho8 rfl; (intro w2 hS; first | (go_simp; first | done | rfl) | rfl | (obtain ⟨hc', hf', hk', hz⟩ := ecell hS; go_simp; first | done | rfl)); simp only [Act.put, List.setIfInBounds_toArray, List.set_cons_zero, List.set_cons_succ])
            all_goals clear ho8
            all_goals (apply c3_st ho9 rfl; (intro w2 hS; first | (go_simp; first | done | rfl) | rfl | (obtain ⟨hc', hf', hk', hz⟩ := ecell hS; go_simp; first | done | rfl)); simp only [Act.put, List.setIfInBounds_toArray, List.set_cons_zero, List.set_cons_succ])
            all_goals clear ho9
            all_goals
              refine c3_two ?_ ?_
              rotate_right 1
              focus
                all_goals first | (refine c3_op ho10 rfl (fun K hK => ?_); go_simp; (skip); all_goals ((with_reducible refine hK _ _ ?_); refine ⟨(by repeat (first | exact Ext.refl _ | assumption | refine Ext.drew ?_ | refine Ext.drewN ?_ _ | refine Ext.iter ?_ _ _ | refine Ext.alloc ?_ _ | refine Ext.setCell ?_ (by first | exact Nat.le_refl _ | (simp <;> omega)) _ | refine Ext.trans2 (by assumption) ?_)), ?_⟩; clear hK K; go_simp))
                all_goals clear ho10
                all_goals
                  refine c3_two ?_ ?_
                  rotate_right 1
                  focus
                    all_goals first | (refine c3_op ho11 rfl (fun K hK => ?_); go_simp; (skip); all_goals ((with_reducible refine hK _ _ ?_); refine ⟨(by repeat (first | exact Ext.refl _ | assumption | refine Ext.drew ?_ | refine Ext.drewN ?_ _ | refine Ext.iter ?_ _ _ | refine Ext.alloc ?_ _ | refine Ext.setCell ?_ (by first | exact Nat.le_refl _ | (simp <;> omega)) _ | refine Ext.trans2 (by assumption) ?_)), ?_⟩; clear hK K; go_simp))
                    all_goals clear ho11
                    all_goals refine c3_one ?_
                    all_goals first | (refine c3_op ho2 rfl (fun K hK => ?_); go_simp; ((go_at_call 55; (with_reducible refine (hdc.out _).mono ?_); rintro e w1 ⟨rfl, hx1⟩; have hcvA1 := hcvA w1; have hcvB1 := hcvB w1; have hcvA2 := hr2A w0 w1; have hcvB2 := hr2B w0 w1; (try replace hcvA2 := hcvA2 (((Ext.refl _).drew).trans hx1)); (try replace hcvB2 := hcvB2 (((Ext.refl _).drew).trans hx1)))); all_goals ((with_reducible refine hK _ _ ?_); refine ⟨(by repeat (first | exact Ext.refl _ | assumption | refine Ext.drew ?_ | refine Ext.drewN ?_ _ | refine Ext.iter ?_ _ _ | refine Ext.alloc ?_ _ | refine Ext.setCell ?_ (by first | exact Nat.le_refl _ | (simp <;> omega)) _ | refine Ext.trans2 (by assumption) ?_)), ?_⟩; clear hK K; go_simp))
                    all_goals clear ho2
                    all_goals (apply c3_st ho3 rfl; (intro w2 hS; first | (go_simp; first | done | rfl) | rfl | (obtain ⟨hc', hf', hk', hz⟩ := ecell hS; go_simp; first | done | rfl)); simp only [Act.put, List.setIfInBounds_toArray, List.set_cons_zero, List.set_cons_succ])
                    all_goals clear ho3
                    all_goals (apply c3_st ho12 rfl; (intro w2 hS; first | (go_simp; first | done | rfl) | rfl | (obtain ⟨hc', hf', hk', hz⟩ := ecell hS; go_simp; first | done | rfl)); simp only [Act.put, List.setIfInBounds_toArray, List.set_cons_zero, List.set_cons_succ])
                    all_goals clear ho12
                    all_goals (apply c3_st ho13 rfl; (intro w2 hS; first | (go_simp; first | done | rfl) | rfl | (obtain ⟨hc', hf', hk', hz⟩ := ecell hS; go_simp; first | done | rfl)); simp only [Act.put, List.setIfInBounds_toArray, List.set_cons_zero, List.set_cons_succ])
                    all_goals clear ho13
                    all_goals refine c3_done (NoPanic.normal ?_)
                  rotate_right 1
                  focus
                    all_goals first | (refine c3_op ho2 rfl (fun K hK => ?_); go_simp; ((go_at_call 55; (with_reducible refine (hdc.out _).mono ?_); rintro e w1 ⟨rfl, hx1⟩; have hcvA1 := hcvA w1; have hcvB1 := hcvB w1; have hcvA2 := hr2A w0 w1; have hcvB2 := hr2B w0 w1; (try replace hcvA2 := hcvA2 (((Ext.refl _).drew).trans hx1)); (try replace hcvB2 := hcvB2 (((Ext.refl _).drew).trans hx1)))); all_goals ((with_reducible refine hK _ _ ?_); refine ⟨(by repeat (first | exact Ext.refl _ | assumption | refine Ext.drew ?_ | refine Ext.drewN ?_ _ | refine Ext.iter ?_ _ _ | refine Ext.alloc ?_ _ | refine Ext.setCell ?_ (by first | exact Nat.le_refl _ | (simp <;> omega)) _ | refine Ext.trans2 (by assumption) ?_)), ?_⟩; clear hK K; go_simp))
                    all_goals clear ho2
                    all_goals (apply c3_st ho3 rfl; (intro w2 hS; first | (go_simp; first | done | rfl) | rfl | (obtain ⟨hc', hf', hk', hz⟩ := ecell hS; go_simp; first | done | rfl)); simp only [Act.put, List.setIfInBounds_toArray, List.set_cons_zero, List.set_cons_succ])
                    all_goals clear ho3
                    all_goals refine c3_one ?_
                    all_goals first | (refine c3_op ho11 rfl (fun K hK => ?_); go_simp; (skip); all_goals ((with_reducible refine hK _ _ ?_); refine ⟨(by repeat (first | exact Ext.refl _ | assumption | refine Ext.drew ?_ | refine Ext.drewN ?_ _ | refine Ext.iter ?_ _ _ | refine Ext.alloc ?_ _ | refine Ext.setCell ?_ (by first | exact Nat.le_refl _ | (simp <;> omega)) _ | refine Ext.trans2 (by assumption) ?_)), ?_⟩; clear hK K; go_simp))
                    all_goals clear ho11
                    all_goals (apply c3_st ho12 rfl; (intro w2 hS; first | (go_simp; first | done | rfl) | rfl | (obtain ⟨hc', hf', hk', hz⟩ := ecell hS; go_simp; first | done | rfl)); simp only [Act.put, List.setIfInBounds_toArray, List.set_cons_zero, List.set_cons_succ])
                    all_goals clear ho12
                    all_goals (apply c3_st ho13 rfl; (intro w2 hS; first | (go_simp; first | done | rfl) | rfl | (obtain ⟨hc', hf', hk', hz⟩ := ecell hS; go_simp; first | done | rfl)); simp only [Act.put, List.setIfInBounds_toArray, List.set_cons_zero, List.set_cons_succ])
                    all_goals clear ho13
                    all_goals refine c3_done (NoPanic.normal ?_)
              rotate_right 1
              focus
                all_goals first | (refine c3_op ho2 rfl (fun K hK => ?_); go_simp; ((go_at_call 55; (with_reducible refine (hdc.out _).mono ?_); rintro e w1 ⟨rfl, hx1⟩; have hcvA1 := hcvA w1; have hcvB1 := hcvB w1; have hcvA2 := hr2A w0 w1; have hcvB2 := hr2B w0 w1; (try replace hcvA2 := hcvA2 (((Ext.refl _).drew).trans hx1)); (try replace hcvB2 := hcvB2 (((Ext.refl _).drew).trans hx1)))); all_goals ((with_reducible refine hK _ _ ?_); refine ⟨(by repeat (first | exact Ext.refl _ | assumption | refine Ext.drew ?_ | refine Ext.drewN ?_ _ | refine Ext.iter ?_ _ _ | refine Ext.alloc ?_ _ | refine Ext.setCell ?_ (by first | exact Nat.le_refl _ | (simp <;> omega)) _ | refine Ext.trans2 (by assumption) ?_)), ?_⟩; clear hK K; go_simp))
                all_goals clear ho2
                all_goals (apply c3_st ho3 rfl; (intro w2 hS; first | (go_simp; first | done | rfl) | rfl | (obtain ⟨hc', hf', hk', hz⟩ := ecell hS; go_simp; first | done | rfl)); simp only [Act.put, List.setIfInBounds_toArray, List.set_cons_zero, List.set_cons_succ])
                all_goals clear ho3
                all_goals refine c3_one ?_
                all_goals first | (refine c3_op ho10 rfl (fun K hK => ?_); go_simp; (skip); all_goals ((with_reducible refine hK _ _ ?_); refine ⟨(by repeat (first | exact Ext.refl _ | assumption | refine Ext.drew ?_ | refine Ext.drewN ?_ _ | refine Ext.iter ?_ _ _ | refine Ext.alloc ?_ _ | refine Ext.setCell ?_ (by first | exact Nat.le_refl _ | (simp <;> omega)) _ | refine Ext.trans2 (by assumption) ?_)), ?_⟩; clear hK K; go_simp))
                all_goals clear ho10
                all_goals refine c3_one ?_
                all_goals first | (refine c3_op ho11 rfl (fun K hK => ?_); go_simp; (skip); all_goals ((with_reducible refine hK _ _ ?_); refine ⟨(by repeat (first | exact Ext.refl _ | assumption | refine Ext.drew ?_ | refine Ext.drewN ?_ _ | refine Ext.iter ?_ _ _ | refine Ext.alloc ?_ _ | refine Ext.setCell ?_ (by first | exact Nat.le_refl _ | (simp <;> omega)) _ | refine Ext.trans2 (by assumption) ?_)), ?_⟩; clear hK K; go_simp))
                all_goals clear ho11
                all_goals (apply c3_st ho12 rfl; (intro w2 hS; first | (go_simp; first | done | rfl) | rfl | (obtain ⟨hc', hf', hk', hz⟩ := ecell hS; go_simp; first | done | rfl)); simp only [Act.put, List.setIfInBounds_toArray, List.set_cons_zero, List.set_cons_succ])
                all_goals clear ho12
                all_goals (apply c3_st ho13 rfl; (intro w2 hS; first | (go_simp; first | done | rfl) | rfl | (obtain ⟨hc', hf', hk', hz⟩ := ecell hS; go_simp; first | done | rfl)); simp only [Act.put, List.setIfInBounds_toArray, List.set_cons_zero, List.set_cons_succ])
                all_goals clear ho13
                all_goals refine c3_done (NoPanic.normal ?_)
            all_goals
              go_wp2
              go_roundw
              case rel => exact ⟨k + 1, hlt, by go_num, by rw [hrc2.out]; go_num, by rw [hrc1.out], hext0.trans (by repeat (first | exact Ext.refl _ | assumption | refine Ext.drew ?_ | refine Ext.drewN ?_ _ | refine Ext.iter ?_ _ _ | refine Ext.alloc ?_ _ | refine Ext.setCell ?_ (by first | exact Nat.le_refl _ | (simp <;> omega)) _ | refine Ext.trans2 (by assumption) ?_))⟩
              case measure => simp [intOf]; omega
        · have hnl : (((k : Int) + 1) == (xs.length : Int)) = false := by simp; omega
          rcases hxu with ⟨rfl, rfl⟩ | ⟨rfl, rfl⟩
          all_goals
            first | rw [hin.1] at hrc1 | rw [hin.2] at hrc1
            replace hrc1 := Lib.hid hrc1
            clear hin
            go_upto_region 7 with (fail)
            go_quiet (fail)
            have hext0 := hext.drewN nq
            generalize wr.drewN nq = w0 at *
            obtain ⟨q', o', e, hbl0, z0⟩ := (HX.out.ext hext0) k hlt
            simp only [Option.some.injEq, Addr.mk.injEq, and_true] at e
            obtain ⟨rfl, rfl⟩ := e
            rw [hGX.out] at z0
            clear y0 hbl
            have hcv0A := hr0A w0; have hcv0B := hr0B w0
            go_upto_region 8 with (fail)
            refine wp_region_c3 (fun w' => Ext w0 w') (.st 0 (.st 1 (.st 4 (.st 5 (.st 6 (.st 7 (.st 8 (.st 9 (.two 2 (.st 3 (.one 10 (.one 11 (.st 12 (.st 13 .done))))) 10 (.two 2 (.st 3 (.one 11 (.st 12 (.st 13 .done)))) 11 (.one 2 (.st 3 (.st 12 (.st 13 .done)))))))))))))) (by kernel_rfl) (by kernel_rfl) (by decide) (by kernel_rfl) ?_ ?_
            · exact (by repeat (first | exact Ext.refl _ | assumption | refine Ext.drew ?_ | refine Ext.drewN ?_ _ | refine Ext.iter ?_ _ _ | refine Ext.alloc ?_ _ | refine Ext.setCell ?_ (by first | exact Nat.le_refl _ | (simp <;> omega)) _ | refine Ext.trans2 (by assumption) ?_))
            refine c3_intro fun ops eo => ?_
            have ho0 := canon_at eo 0 rfl
            have ho1 := canon_at eo 1 rfl
            have ho2 := canon_at eo 2 rfl
            have ho3 := canon_at eo 3 rfl
            have ho4 := canon_at eo 4 rfl
            have ho5 := canon_at eo 5 rfl
            have ho6 := canon_at eo 6 rfl
            have ho7 := canon_at eo 7 rfl
            have ho8 := canon_at eo 8 rfl
            have ho9 := canon_at eo 9 rfl
            have ho10 := canon_at eo 10 rfl
            have ho11 := canon_at eo 11 rfl
            have ho12 := canon_at eo 12 rfl
            have ho13 := canon_at eo 13 rfl
            clear eo
            all_goals (apply c3_st ho0 rfl; (intro w2 hS; first | (go_simp; first | done | rfl) | rfl | (obtain ⟨hc', hf', hk', hz⟩ := ecell hS; go_simp; first | done | rfl)); simp only [Act.put, List.setIfInBounds_toArray, List.set_cons_zero, List.set_cons_succ])
            all_goals clear ho0
            all_goals (apply c3_st ho1 rfl; (intro w2 hS; first | (go_simp; first | done | rfl) | rfl | (obtain ⟨hc', hf', hk', hz⟩ := ecell hS; go_simp; first | done | rfl)); simp only [Act.put, List.setIfInBounds_toArray, List.set_cons_zero, List.set_cons_succ])
            all_goals clear ho1
            all_goals (apply c3_st ho4 rfl; (intro w2 hS; first | (go_simp; first | done | rfl) | rfl | (obtain ⟨hc', hf', hk', hz⟩ := ecell hS; go_simp; first | done | rfl)); simp only [Act.put, List.setIfInBounds_toArray, List.set_cons_zero, List.set_cons_succ])
            all_goals clear ho4
            all_goals (apply c3_st ho5 rfl; (intro w2 hS; first | (go_simp; first | done | rfl) | rfl | (obtain ⟨hc', hf', hk', hz⟩ := ecell hS; go_simp; first | done | rfl)); simp only [Act.put, List.setIfInBounds_toArray, List.set_cons_zero, List.set_cons_succ])
            all_goals clear ho5
            all_goals (apply c3_st ho6 rfl; (intro w2 hS; first | (go_simp; first | done | rfl) | rfl | (obtain ⟨hc', hf', hk', hz⟩ := ecell hS; go_simp; first | done | rfl)); simp only [Act.put, List.setIfInBounds_toArray, List.set_cons_zero, List.set_cons_succ])
            all_goals clear ho6
            all_goals (apply c3_st ho7 rfl; (intro w2 hS; first | (go_simp; first | done | rfl) | rfl | (obtain ⟨hc', hf', hk', hz⟩ := ecell hS; go_simp; first | done | rfl)); simp only [Act.put, List.setIfInBounds_toArray, List.set_cons_zero, List.set_cons_succ])
            all_goals clear ho7
            all_goals (apply c3_st ho8 rfl; (intro w2 hS; first | (go_simp; first | done | rfl) | rfl | (obtain ⟨hc', hf', hk', hz⟩ := ecell hS; go_simp; first | done | rfl)); simp only [Act.put, List.setIfInBounds_toArray, List.set_cons_zero, List.set_cons_succ])
            all_goals clear ho8
            all_goals (apply c3_st ho9 rfl; (intro w2 hS; first | (go_simp; first | done | rfl) | rfl | (obtain ⟨hc', hf', hk', hz⟩ := ecell hS; go_simp; first | done | rfl)); simp only [Act.put, List.setIfInBounds_toArray, List.set_cons_zero, List.set_cons_succ])
            all_goals clear ho9
            all_goals
              refine c3_two ?_ ?_
              rotate_right 1
              focus
                all_goals first | (refine c3_op ho10 rfl (fun K hK => ?_); go_simp; (skip); all_goals ((with_reducible refine hK _ _ ?_); refine ⟨(by repeat (first | exact Ext.refl _ | assumption | refine Ext.drew ?_ | refine Ext.drewN ?_ _ | refine Ext.iter ?_ _ _ | refine Ext.alloc ?_ _ | refine Ext.setCell ?_ (by first | exact Nat.le_refl _ | (simp <;> omega)) _ | refine Ext.trans2 (by assumption) ?_)), ?_⟩; clear hK K; go_simp))
                all_goals clear ho10
                all_goals
                  refine c3_two ?_ ?_
                  rotate_right 1
                  focus
                    all_goals first | (refine c3_op ho11 rfl (fun K hK => ?_); go_simp; (skip); all_goals ((with_reducible refine hK _ _ ?_); refine ⟨(by repeat (first | exact Ext.refl _ | assumption | refine Ext.drew ?_ | refine Ext.drewN ?_ _ | refine Ext.iter ?_ _ _ | refine Ext.alloc ?_ _ | refine Ext.setCell ?_ (by first | exact Nat.le_refl _ | (simp <;> omega)) _ | refine Ext.trans2 (by assumption) ?_)), ?_⟩; clear hK K; go_simp))
                    all_goals clear ho11
                    all_goals refine c3_one ?_
                    all_goals first | (refine c3_op ho2 rfl (fun K hK => ?_); go_simp; ((go_at_call 55; (with_reducible refine (hdc.out _).mono ?_); rintro e w1 ⟨rfl, hx1⟩; have hcvA1 := hcvA w1; have hcvB1 := hcvB w1; have hcvA2 := hr2A w0 w1; have hcvB2 := hr2B w0 w1; (try replace hcvA2 := hcvA2 (((Ext.refl _).drew).trans hx1)); (try replace hcvB2 := hcvB2 (((Ext.refl _).drew).trans hx1)))); all_goals ((with_reducible refine hK _ _ ?_); refine ⟨(by repeat (first | exact Ext.refl _ | assumption | refine Ext.drew ?_ | refine Ext.drewN ?_ _ | refine Ext.iter ?_ _ _ | refine Ext.alloc ?_ _ | refine Ext.setCell ?_ (by first | exact Nat.le_refl _ | (simp <;> omega)) _ | refine Ext.trans2 (by assumption) ?_)), ?_⟩; clear hK K; go_simp))
                    all_goals clear ho2
                    all_goals (apply c3_st ho3 rfl; (intro w2 hS; first | (go_simp; first | done | rfl) | rfl | (obtain ⟨hc', hf', hk', hz⟩ := ecell hS; go_simp; first | done | rfl)); simp only [Act.put, List.setIfInBounds_toArray, List.set_cons_zero, List.set_cons_succ])
                    all_goals clear ho3
                    all_goals (apply c3_st ho12 rfl; (intro w2 hS; first | (go_simp; first | done | rfl) | rfl | (obtain ⟨hc', hf', hk', hz⟩ := ecell hS; go_simp; first | done | rfl)); simp only [Act.put, List.setIfInBounds_toArray, List.set_cons_zero, List.set_cons_succ])
                    all_goals clear ho12
                    all_goals (apply c3_st ho13 rfl; (intro w2 hS; first | (go_simp; first | done | rfl) | rfl | (obtain ⟨hc', hf', hk', hz⟩ := ecell hS; go_simp; first | done | rfl)); simp only [Act.put, List.setIfInBounds_toArray, List.set_cons_zero, List.set_cons_succ])
                    all_goals clear ho13
                    all_goals refine c3_done (NoPanic.normal ?_)
                  rotate_right 1
                  focus
                    all_goals first | (refine c3_op ho2 rfl (fun K hK => ?_); go_simp; ((go_at_call 55; (with_reducible refine (hdc.out _).mono ?_); rintro e w1 ⟨rfl, hx1⟩; have hcvA1 := hcvA w1; have hcvB1 := hcvB w1; have hcvA2 := hr2A w0 w1; have hcvB2 := hr2B w0 w1; (try replace hcvA2 := hcvA2 (((Ext.refl _).drew).trans hx1)); (try replace hcvB2 := hcvB2 (((Ext.refl _).drew).trans hx1)))); all_goals ((with_reducible refine hK _ _ ?_); refine ⟨(by repeat (first | exact Ext.refl _ | assumption | refine Ext.drew ?_ | refine Ext.drewN ?_ _ | refine Ext.iter ?_ _ _ | refine Ext.alloc ?_ _ | refine Ext.setCell ?_ (by first | exact Nat.le_refl _ | (simp <;> omega)) _ | refine Ext.trans2 (by assumption) ?_)), ?_⟩; clear hK K; go_simp))
                    all_goals clear ho2
                    all_goals (apply c3_st ho3 rfl; (intro w2 hS; first | (go_simp; first | done | rfl) | rfl | (obtain ⟨hc', hf', hk', hz⟩ := ecell hS; go_simp; first | done | rfl)); simp only [Act.put, List.setIfInBounds_toArray, List.set_cons_zero, List.set_cons_succ])
                    all_goals clear ho3
                    all_goals refine c3_one ?_
                    all_goals first | (refine c3_op ho11 rfl (fun K hK => ?_); go_simp; (skip); all_goals ((with_reducible refine hK _ _ ?_); refine ⟨(by repeat (first | exact Ext.refl _ | assumption | refine Ext.drew ?_ | refine Ext.drewN ?_ _ | refine Ext.iter ?_ _ _ | refine Ext.alloc ?_ _ | refine Ext.setCell ?_ (by first | exact Nat.le_refl _ | (simp <;> omega)) _ | refine Ext.trans2 (by assumption) ?_)), ?_⟩; clear hK K; go_simp))
                    all_goals clear ho11
                    all_goals (apply c3_st ho12 rfl; (intro w2 hS; first | (go_simp; first | done | rfl) | rfl | (obtain ⟨hc', hf', hk', hz⟩ := ecell hS; go_simp; first | done | rfl)); simp only [Act.put, List.setIfInBounds_toArray, List.set_cons_zero, List.set_cons_succ])
                    all_goals clear ho12
                    all_goals (apply c3_st ho13 rfl; (intro w2 hS; first | (go_simp; first | done | rfl) | rfl | (obtain ⟨hc', hf', hk', hz⟩ := ecell hS; go_simp; first | done | rfl)); simp only [Act.put, List.setIfInBounds_toArray, List.set_cons_zero, List.set_cons_succ])
                    all_goals clear ho13
                    all_goals refine c3_done (NoPanic.normal ?_)
              rotate_right 1
              focus
                all_goals first | (refine c3_op ho2 rfl (fun K hK => ?_); go_simp; ((go_at_call 55; (with_reducible refine (hdc.out _).mono ?_); rintro e w1 ⟨rfl, hx1⟩; have hcvA1 := hcvA w1; have hcvB1 := hcvB w1; have hcvA2 := hr2A w0 w1; have hcvB2 := hr2B w0 w1; (try replace hcvA2 := hcvA2 (((Ext.refl _).drew).trans hx1)); (try replace hcvB2 := hcvB2 (((Ext.refl _).drew).trans hx1)))); all_goals ((with_reducible refine hK _ _ ?_); refine ⟨(by repeat (first | exact Ext.refl _ | assumption | refine Ext.drew ?_ | refine Ext.drewN ?_ _ | refine Ext.iter ?_ _ _ | refine Ext.alloc ?_ _ | refine Ext.setCell ?_ (by first | exact Nat.le_refl _ | (simp <;> omega)) _ | refine Ext.trans2 (by assumption) ?_)), ?_⟩; clear hK K; go_simp))
                all_goals clear ho2
                all_goals (apply c3_st ho3 rfl; (intro w2 hS; first | (go_simp; first | done | rfl) | rfl | (obtain ⟨hc', hf', hk', hz⟩ := ecell hS; go_simp; first | done | rfl)); simp only [Act.put, List.setIfInBounds_toArray, List.set_cons_zero, List.set_cons_succ])
                all_goals clear ho3
                all_goals refine c3_one ?_
                all_goals first | (refine c3_op ho10 rfl (fun K hK => ?_); go_simp; (skip); all_goals ((with_reducible refine hK _ _ ?_); refine ⟨(by repeat (first | exact Ext.refl _ | assumption | refine Ext.drew ?_ | refine Ext.drewN ?_ _ | refine Ext.iter ?_ _ _ | refine Ext.alloc ?_ _ | refine Ext.setCell ?_ (by first | exact Nat.le_refl _ | (simp <;> omega)) _ | refine Ext.trans2 (by assumption) ?_)), ?_⟩; clear hK K; go_simp))
                all_goals clear ho10
                all_goals refine c3_one ?_
                all_goals first | (refine c3_op ho11 rfl (fun K hK => ?_); go_simp; (skip); all_goals ((with_reducible refine hK _ _ ?_); refine ⟨(by repeat (first | exact Ext.refl _ | assumption | refine Ext.drew ?_ | refine Ext.drewN ?_ _ | refine Ext.iter ?_ _ _ | refine Ext.alloc ?_ _ | refine Ext.setCell ?_ (by first | exact Nat.le_refl _ | (simp <;> omega)) _ | refine Ext.trans2 (by assumption) ?_)), ?_⟩; clear hK K; go_simp))
                all_goals clear ho11
                all_goals (apply c3_st ho12 rfl; (intro w2 hS; first | (go_simp; first | done | rfl) | rfl | (obtain ⟨hc', hf', hk', hz⟩ := ecell hS; go_simp; first | done | rfl)); simp only [Act.put, List.setIfInBounds_toArray, List.set_cons_zero, List.set_cons_succ])
                all_goals clear ho12
                all_goals (apply c3_st ho13 rfl; (intro w2 hS; first | (go_simp; first | done | rfl) | rfl | (obtain ⟨hc', hf', hk', hz⟩ := ecell hS; go_simp; first | done | rfl)); simp only [Act.put, List.setIfInBounds_toArray, List.set_cons_zero, List.set_cons_succ])
                all_goals clear ho13
                all_goals refine c3_done (NoPanic.normal ?_)
            all_goals
              go_wp2
              go_roundw
              case rel => exact ⟨k + 1, hlt, by go_num, by rw [hrc2.out]; go_num, by rw [hrc1.out], hext0.trans (by repeat (first | exact Ext.refl _ | assumption | refine Ext.drew ?_ | refine Ext.drewN ?_ _ | refine Ext.iter ?_ _ _ | refine Ext.alloc ?_ _ | refine Ext.setCell ?_ (by first | exact Nat.le_refl _ | (simp <;> omega)) _ | refine Ext.trans2 (by assumption) ?_))⟩
              case measure => simp [intOf]; omega
      · have hgo := rowR_go hc
        simp only [not_or, Classical.not_not] at hc
        obtain ⟨he, heq⟩ := hc
        have hl1 : k + 1 < xs.length := by omega
        have hl1i : (k : Int) + 1 < xs.length := by omega
        have hnl : (((k : Int) + 1) == (xs.length : Int)) = false := by simp; omega
        obtain ⟨q', o', e, -, y1⟩ := (HX.out.ext hext) (k + 1) hl1
        simp only [Option.some.injEq, Addr.mk.injEq, and_true] at e
        obtain ⟨rfl, rfl⟩ := e
        rw [heq] at y1
        replace hgo := Lib.hid hgo; replace heq := Lib.hid heq
        generalize xs.getD k 0 = x at *
        rcases hz0 with rfl | rfl
        all_goals
          go_upto_region 7 with (fail)
          go_quiet (fail)
          go_wp2
          go_roundw
          case rel => exact ⟨k + 1, hlt, by go_num, by rw [hgo.out.2]; go_num, by rw [hgo.out.1], hext.trans (by repeat (first | exact Ext.refl _ | assumption | refine Ext.drew ?_ | refine Ext.drewN ?_ _ | refine Ext.iter ?_ _ _ | refine Ext.alloc ?_ _ | refine Ext.setCell ?_ (by first | exact Nat.le_refl _ | (simp <;> omega)) _ | refine Ext.trans2 (by assumption) ?_))⟩
          case measure => simp [intOf]; omega
    · obtain rfl : k = xs.length := by omega
      go_wp2
      go_ret
      exact ⟨rfl, hext⟩
end Go.Proofs.YthpnkcamjcohgaaGreatDoor
