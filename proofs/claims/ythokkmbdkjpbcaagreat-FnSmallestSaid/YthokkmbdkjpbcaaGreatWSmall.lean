
/- The walk of the law on the smallest size. -/
import Derived.Test.YthokkmbdkjpbcaaGreatDrawSm2
namespace Go.Proofs.YthokkmbdkjpbcaaGreat
set_option linter.unusedVariables false
set_option linter.unusedSimpArgs false
open Go.RowKit

theorem first_of {P : Nat → Prop} (n : Nat) (h : ∃ j, j < n ∧ P j) : ∃ j, j < n ∧ P j ∧ ∀ i, i < j → ¬ P i := by
  induction n with
  | zero => obtain ⟨j, hj, _⟩ := h; omega
  | succ n ih =>
    by_cases h' : ∃ j, j < n ∧ P j
    · obtain ⟨j, h1, h2, h3⟩ := ih h'
      exact ⟨j, by omega, h2, h3⟩
    · obtain ⟨j, h1, h2⟩ := h
      exact ⟨j, h1, h2, fun i hi hp => h' ⟨i, by omega, hp⟩⟩
theorem ris_lt {lo hi : Int} {xs : List Int} (h : risOK lo hi xs) {i j : Nat} (hij : i < j) (hj : j < xs.length) : xs.getD i 0 < xs.getD j 0 := by
  induction j with
  | zero => omega
  | succ j ih =>
    have h1 := (h (j + 1) hj).2 (by omega)
    simp only [Nat.add_sub_cancel] at h1
    by_cases e : i = j
    · subst e; exact h1
    · have := ih (by omega) (by omega)
      omega
theorem fam_lt {nm : ByteArray} {K p k q co : Int} {ss ls : List Int} (h : famOK nm K p k q ss co ls) {i j : Nat} (hij : i < j) (hj : j < ss.length) : ss.getD i 0 < ss.getD j 0 := by
  obtain ⟨_, _, _, _, ⟨_, _, _, _, h, _⟩ | ⟨_, _, _, h⟩⟩ := h
  · exact ris_lt h hij hj
  · exact ris_lt h hij hj
/-- What a size found says. -/
theorem ssV_ok {nm : ByteArray} {K p k q co : Int} {ss ls : List Int} {lv : Int} {t : ByteArray} {V1 : Int} (h : ssV nm K p k q co ss ls lv t = (V1, 0)) :
    famOK nm K p k q ss co ls ∧ ∃ (l : Nat) (need : Int), lv = l ∧ l < ls.length ∧ psV p k q t = (need, 0) ∧ ∃ j, j < ss.length ∧ V1 = ss.getD j 0 ∧ fitP p k q K co (ls.getD l 0) need (ss.getD j 0) ∧ ∀ i, i < j → ¬ fitP p k q K co (ls.getD l 0) need (ss.getD i 0) := by
  by_cases hF : famOK nm K p k q ss co ls
  · by_cases hl : 0 ≤ lv ∧ lv ≤ (ls.length : Int) - 1
    · obtain ⟨l, rfl⟩ : ∃ l : Nat, lv = l := ⟨lv.toNat, by omega⟩
      have hl' : l < ls.length := by omega
      by_cases ht : t.size ≤ 400
      · by_cases hp : (psV p k q t).2 = 0
        · have hq : psV p k q t = ((psV p k q t).1, 0) := by rw [← hp]
          by_cases hj : ∃ j, j < ss.length ∧ fitP p k q K co (ls.getD l 0) (psV p k q t).1 (ss.getD j 0)
          · obtain ⟨j, h1, h2, h3⟩ := first_of _ hj
            rw [ssV_hit hF hl' ht hq h1 h3 h2] at h
            exact ⟨hF, l, _, rfl, hl', hq, j, h1, by simpa using h.symm, h2, h3⟩
          · rw [ssV_none hF hl' ht hq (fun i hi hn => hj ⟨i, hi, hn⟩)] at h
            simp at h
        · rw [ssV_code hF hl' ht hp] at h
          simp at h
      · rw [ssV_long hF hl' ht] at h
        simp at h
    · rw [ssV_level hF hl] at h
      simp at h
  · rw [ssV_fam hF] at h
    simp at h
set_option maxHeartbeats 1600000 in
set_option maxRecDepth 100000 in
theorem fnSmallest_law (pp : Option Addr) (c : Nat) (code : List Int) (w : World) (hx : U8At w pp code) (hl : code.length ≤ maxLen) :
    Calls Tryz.prog 3 #[.slice pp code.length c] w fun e w' => e = .returned (.bool true) ∧ Ext w w' := by
  have HX := Lib.hid hx; clear hx
  by_cases h4 : code.length ≤ 4096
  · go_enter Tryz.func3, Tryz.ntmps3
    go_wp2_with (first
      | (go_at_call 4; (with_reducible refine (big_c _ _ _ _ hl).mono ?_); rintro e w1 ⟨⟨hP, rfl⟩ | ⟨hP, rfl⟩, rfl⟩ <;> first | (exfalso; omega) | skip))
    refine (DrawSmallestSize_c _ _ _ _ HX.out h4).mono ?_
    rintro e w2 ⟨⟨nm, kd, p, k, q, ps, cs, ss, co, pl, cl, ls⟩, v, t, rfl, ht, ⟨hnm, hsl, hll, k5, k6⟩, hx2⟩
    simp only at hnm hsl hll k5 k6
    simp only [FamV.val]
    have I5 := Lib.hid k5.ints; have I6 := Lib.hid k6.ints; clear k5 k6
    go_upto_region 4 with fail
    have him := Lib.hid (fun W (a : IntsAt W ps ss) (b : IntsAt W pl ls) => iSmallest_c nm kd p k q co ps pl cs cl ss ls v t W a b (by omega) (by omega) (by omega) (by omega))
    have hsp := Lib.hid (fun W (a : IntsAt W ps ss) (b : IntsAt W pl ls) => sSmallest_c nm kd p k q co ps pl cs cl ss ls v t W a b (by omega) (by omega) (by omega) (by omega))
    have hip := Lib.hid (fun W => iPayloadSize_c p k q t W (by omega))
    generalize hV : ssV nm kd p k q co ss ls v t = V at *
    obtain ⟨V1, V2⟩ := V
    simp only at him hsp
    replace hV := Lib.hid hV
    have hb3 := Blk.new w2 #[.string nm, .int .i64 kd, .int .i64 p, .int .i64 k, .int .i64 q, .slice ps ss.length cs, .int .i64 co, .slice pl ls.length cl] 28
    have hx3 := hx2.alloc (.cells #[.string nm, .int .i64 kd, .int .i64 p, .int .i64 k, .int .i64 q, .slice ps ss.length cs, .int .i64 co, .slice pl ls.length cl] 28)
    replace I5 := Lib.hid (I5.out.ext ((Ext.refl w2).alloc (.cells #[.string nm, .int .i64 kd, .int .i64 p, .int .i64 k, .int .i64 q, .slice ps ss.length cs, .int .i64 co, .slice pl ls.length cl] 28)))
    replace I6 := Lib.hid (I6.out.ext ((Ext.refl w2).alloc (.cells #[.string nm, .int .i64 kd, .int .i64 p, .int .i64 k, .int .i64 q, .slice ps ss.length cs, .int .i64 co, .slice pl ls.length cl] 28)))
    generalize w2.alloc (.cells #[.string nm, .int .i64 kd, .int .i64 p, .int .i64 k, .int .i64 q, .slice ps ss.length cs, .int .i64 co, .slice pl ls.length cl] 28) = w3 at *
    generalize w2.heap.size = x at *
    have x0 := hb3.cell (i := 0) (v := .string nm) rfl; have x1 := hb3.cell (i := 1) (v := .int .i64 kd) rfl; have x2 := hb3.cell (i := 2) (v := .int .i64 p) rfl; have x3 := hb3.cell (i := 3) (v := .int .i64 k) rfl; have x4 := hb3.cell (i := 4) (v := .int .i64 q) rfl; have x5 := hb3.cell (i := 5) (v := .slice ps ss.length cs) rfl; have x6 := hb3.cell (i := 6) (v := .int .i64 co) rfl; have x7 := hb3.cell (i := 7) (v := .slice pl ls.length cl) rfl; have xL := hb3.lt
    go_upto_region 5 with (go_at_call 6; (with_reducible refine (him.out _ I5.out I6.out).mono ?_); rintro e w4 ⟨rfl, hx4⟩)
    have hb4 := hb3.ext hx4
    clear x0 x1 x2 x3 x4 x5 x6 x7 xL
    have x0 := hb4.cell (i := 0) (v := .string nm) rfl; have x1 := hb4.cell (i := 1) (v := .int .i64 kd) rfl; have x2 := hb4.cell (i := 2) (v := .int .i64 p) rfl; have x3 := hb4.cell (i := 3) (v := .int .i64 k) rfl; have x4 := hb4.cell (i := 4) (v := .int .i64 q) rfl; have x5 := hb4.cell (i := 5) (v := .slice ps ss.length cs) rfl; have x6 := hb4.cell (i := 6) (v := .int .i64 co) rfl; have x7 := hb4.cell (i := 7) (v := .slice pl ls.length cl) rfl; have xL := hb4.lt
    go_upto_region 6 with (go_at_call 7; (with_reducible refine (hsp.out _ (I5.out.ext hx4) (I6.out.ext hx4)).mono ?_); rintro e w5 ⟨rfl, hx5⟩)
    have hE5 := (hx3.trans hx4).trans hx5
    have hb5 := hb4.ext hx5
    replace I5 := Lib.hid ((I5.out.ext hx4).ext hx5)
    replace I6 := Lib.hid ((I6.out.ext hx4).ext hx5)
    clear x0 x1 x2 x3 x4 x5 x6 x7 xL hb3 hb4 hx3 hx4 hx5 hx2 him hsp
    have x0 := hb5.cell (i := 0) (v := .string nm) rfl; have x1 := hb5.cell (i := 1) (v := .int .i64 kd) rfl; have x2 := hb5.cell (i := 2) (v := .int .i64 p) rfl; have x3 := hb5.cell (i := 3) (v := .int .i64 k) rfl; have x4 := hb5.cell (i := 4) (v := .int .i64 q) rfl; have x5 := hb5.cell (i := 5) (v := .slice ps ss.length cs) rfl; have x6 := hb5.cell (i := 6) (v := .int .i64 co) rfl; have x7 := hb5.cell (i := 7) (v := .slice pl ls.length cl) rfl; have xL := hb5.lt
    by_cases h2 : V2 = 0
    · subst h2
      obtain ⟨hF, l, need, rfl, hll2, hps, j, hj, hVy, hfit, hno⟩ := ssV_ok hV.out
      replace hVy := Lib.hid hVy
      replace hip := Lib.hid (fun W => hps ▸ hip.out W)
      go_upto_region 11 with (go_at_call 8; (with_reducible refine (hip.out _).mono ?_); rintro e w6 ⟨rfl, hx6⟩)
      have hE6 := hE5.trans hx6
      have hb6 := hb5.ext hx6
      replace I5 := Lib.hid (I5.out.ext hx6); replace I6 := Lib.hid (I6.out.ext hx6)
      clear x0 x1 x2 x3 x4 x5 x6 x7 xL hb5 hE5 hx6 hip
      have hlt2 := Lib.hid (fun i j => fam_lt hF (i := i) (j := j))
      go_wp2
      go_loopw [12] (fun i wr => ∃ m : Nat, m ≤ j + 1 ∧ i = .int .i64 m ∧ Ext w6 wr) (fun i _ => ss.length - (intOf i).toNat)
      case atStart => exact ⟨0, Nat.zero_le _, rfl, Ext.refl w6⟩
      case round =>
        obtain ⟨m, hm, rfl, hext⟩ := hrel
        have hbr := hb6.ext hext
        have x0 := hbr.cell (i := 0) (v := .string nm) rfl; have x1 := hbr.cell (i := 1) (v := .int .i64 kd) rfl; have x2 := hbr.cell (i := 2) (v := .int .i64 p) rfl; have x3 := hbr.cell (i := 3) (v := .int .i64 k) rfl; have x4 := hbr.cell (i := 4) (v := .int .i64 q) rfl; have x5 := hbr.cell (i := 5) (v := .slice ps ss.length cs) rfl; have x6 := hbr.cell (i := 6) (v := .int .i64 co) rfl; have x7 := hbr.cell (i := 7) (v := .slice pl ls.length cl) rfl; have xL := hbr.lt
        by_cases hlt : m < ss.length
        · have hml : (m : Int) < ss.length := by omega
          obtain ⟨b, o, rfl, hbl, y1⟩ := (I5.out.ext hext) m hlt
          have hloj := Lib.hid (fun W (a : IntsAt W (some ⟨b, o, none⟩) ss) (c : IntsAt W pl ls) => iLayoutOf_c nm kd p k q co (some ⟨b, o, none⟩) pl cs cl l ss ls W a c (by omega) (by omega) (by omega) hF hlt hll2)
          by_cases hmj : m ≤ j
          · have hle : ss.getD m 0 ≤ V1 := by
              rw [hVy.out]
              rcases Nat.lt_or_eq_of_le hmj with h | rfl
              · exact Int.le_of_lt (hlt2.out m j h hj)
              · exact Int.le_refl _
            have hyx := Lib.hid (fun W (h : Ext wr W) => (I5.out.ext (hext.trans h)) m hlt)
            have hcase : (m < j ∧ ss.getD m 0 < V1 ∧ ¬ fitP p k q kd co (ls.getD l 0) need (ss.getD m 0)) ∨ (m = j ∧ ss.getD m 0 = V1 ∧ fitP p k q kd co (ls.getD l 0) need (ss.getD m 0)) := by
              rw [hVy.out]
              rcases Nat.lt_or_eq_of_le hmj with h | rfl
              · exact .inl ⟨h, hlt2.out m j h hj, hno m h⟩
              · exact .inr ⟨rfl, rfl, hfit⟩
            replace hcase := Lib.hid hcase
            clear hno hfit hV
            generalize ss.getD m 0 = n at *
            have hdt : decide (n ≤ V1) = true := by simp; omega
            go_upto_region 16 with fail
            have hT : Ext wr wr.drew := (Ext.refl wr).drew
            refine wp_region_c3 (fun w' => Ext wr w') (.st 0 (.st 1 (.st 2 (.st 3 (.st 4 (.st 5 (.st 6 (.two 7 (.st 8 (.st 9 (.st 10 (.one 11 (.one 12 (.st 13 .done)))))) 11 (.one 7 (.st 8 (.st 9 (.st 10 (.one 12 (.st 13 .done)))))))))))))) (by kernel_rfl) (by kernel_rfl) (by decide) (by kernel_rfl) ?_ ?_
            · exact hT
            refine c3_intro fun ops eo => ?_
            have ho0 := canon_at eo 0 rfl
            have ho1 := canon_at eo 1 rfl
            have ho2 := canon_at eo 2 rfl
            have ho3 := canon_at eo 3 rfl
            have ho4 := canon_at eo 4 rfl
            have ho5 := canon_at eo 5 rfl
            have ho6 := canon_at eo 6 rfl
            have ho7 := canon_at eo 7 rfl
            have ho8 := canon_at eo 8 rfl
            have ho9 := canon_at eo 9 rfl
            have ho10 := canon_at eo 10 rfl
            have ho11 := canon_at eo 11 rfl
            have ho12 := canon_at eo 12 rfl
            have ho13 := canon_at eo 13 rfl
            clear eo
            all_goals (apply c3_st ho0 rfl; (intro w2 hS; first | (go_simp; first | done | rfl) | rfl | (obtain ⟨hc', hf', hk', hz⟩ := ecell hS; go_simp; first | done | rfl)); simp only [Act.put, List.setIfInBounds_toArray, List.set_cons_zero, List.set_cons_succ])
            all_goals clear ho0
            all_goals (apply c3_st ho1 rfl; (intro w2 hS; first | (go_simp; first | done | rfl) | rfl | (obtain ⟨hc', hf', hk', hz⟩ := ecell hS; go_simp; first | done | rfl)); simp only [Act.put, List.setIfInBounds_toArray, List.set_cons_zero, List.set_cons_succ])
            all_goals clear ho1
            all_goals (apply c3_st ho2 rfl; (intro w2 hS; first | (go_simp; first | done | rfl) | rfl | (obtain ⟨hc', hf', hk', hz⟩ := ecell hS; go_simp; first | done | rfl)); simp only [Act.put, List.setIfInBounds_toArray, List.set_cons_zero, List.set_cons_succ])
            all_goals clear ho2
            all_goals (apply c3_st ho3 rfl; (intro w2 hS; first | (go_simp; first | done | rfl) | rfl | (obtain ⟨hc', hf', hk', hz⟩ := ecell hS; go_simp; first | done | rfl)); simp only [Act.put, List.setIfInBounds_toArray, List.set_cons_zero, List.set_cons_succ])
            all_goals clear ho3
            all_goals (apply c3_st ho4 rfl; (intro w2 hS; first | (go_simp; first | done | rfl) | rfl | (obtain ⟨hc', hf', hk', hz⟩ := ecell hS; go_simp; first | done | rfl)); simp only [Act.put, List.setIfInBounds_toArray, List.set_cons_zero, List.set_cons_succ])
            all_goals clear ho4
            all_goals (apply c3_st ho5 rfl; (intro w2 hS; first | (go_simp; first | done | rfl) | rfl | (obtain ⟨hc', hf', hk', hz⟩ := ecell hS; go_simp; first | done | rfl)); simp only [Act.put, List.setIfInBounds_toArray, List.set_cons_zero, List.set_cons_succ])
            all_goals clear ho5
            all_goals (apply c3_st ho6 rfl; (intro w2 hS; first | (go_simp; first | done | rfl) | rfl | (obtain ⟨hc', hf', hk', hz⟩ := ecell hS; go_simp; first | done | rfl)); simp only [Act.put, List.setIfInBounds_toArray, List.set_cons_zero, List.set_cons_succ])
            all_goals clear ho6
            all_goals
              refine c3_two ?_ ?_
              rotate_right 1
              focus
                all_goals first | (refine c3_op ho11 rfl (fun K hK => ?_); (refine allocL_op ?_; intro w8 g9 e9 l9 x9 q9; have m9 : wr.heap.size ≤ g9 := (by have := hT.below.size; omega); replace hT := hT.trans x9; clear e9 x9); all_goals ((with_reducible refine hK _ _ ?_); refine ⟨hT, ?_⟩; clear hK K; go_simp))
                all_goals clear ho11
                all_goals refine c3_one ?_
                all_goals first | (refine c3_op ho7 rfl (fun K hK => ?_); go_simp; ((go_at_call 9; (with_reducible refine (hloj.out _ (I5.out.ext (hext.trans (by repeat (first | exact Ext.refl _ | assumption | refine Ext.drew ?_ | refine Ext.drewN ?_ _ | refine Ext.iter ?_ _ _ | refine Ext.alloc ?_ _ | refine Ext.setCell ?_ (by first | exact Nat.le_refl _ | (simp <;> omega)) _ | refine Ext.trans2 (by assumption) ?_)))) (I6.out.ext (hext.trans (by repeat (first | exact Ext.refl _ | assumption | refine Ext.drew ?_ | refine Ext.drewN ?_ _ | refine Ext.iter ?_ _ _ | refine Ext.alloc ?_ _ | refine Ext.setCell ?_ (by first | exact Nat.le_refl _ | (simp <;> omega)) _ | refine Ext.trans2 (by assumption) ?_))))).mono ?_); rintro e w7 ⟨⟨q0, q1, q2, q3, q4, q5, c9, rfl, hlr⟩, hx7⟩; replace hT := hT.trans hx7; (try replace q9 := q9.ext hx7); replace hlr := Lib.hid hlr; clear hx7)); all_goals ((with_reducible refine hK _ _ ?_); refine ⟨hT, ?_⟩; clear hK K; go_simp))
                all_goals clear ho7
                all_goals (apply c3_st ho8 rfl; (intro w2 hS; first | (go_simp; first | done | rfl) | rfl | (obtain ⟨hc', hf', hk', hz⟩ := ecell hS; go_simp; first | done | rfl)); simp only [Act.put, List.setIfInBounds_toArray, List.set_cons_zero, List.set_cons_succ])
                all_goals clear ho8
                all_goals (apply c3_st ho9 rfl; (intro w2 hS; first | (go_simp; first | done | rfl) | rfl | (obtain ⟨hc', hf', hk', hz⟩ := ecell hS; go_simp; first | done | rfl)); simp only [Act.put, List.setIfInBounds_toArray, List.set_cons_zero, List.set_cons_succ])
                all_goals clear ho9
                all_goals (apply c3_st ho10 rfl; (intro w2 hS; first | (go_simp; first | done | rfl) | rfl | (obtain ⟨hc', hf', hk', hz⟩ := ecell hS; go_simp; first | done | rfl)); simp only [Act.put, List.setIfInBounds_toArray, List.set_cons_zero, List.set_cons_succ])
                all_goals clear ho10
                all_goals refine c3_one ?_
                all_goals first | (refine c3_op ho12 rfl (fun K hK => ?_); (refine storeL_op q9 rfl rfl ?_; intro w9 s7 b7 q7; replace hT := s7 _ hT m9; replace q9 := q7; clear s7 b7 q7); all_goals ((with_reducible refine hK _ _ ?_); refine ⟨hT, ?_⟩; clear hK K; go_simp))
                all_goals clear ho12
                all_goals (apply c3_st ho13 rfl; (intro w2 hS; first | (go_simp; first | done | rfl) | rfl | (obtain ⟨hc', hf', hk', hz⟩ := ecell hS; go_simp; first | done | rfl)); simp only [Act.put, List.setIfInBounds_toArray, List.set_cons_zero, List.set_cons_succ])
                all_goals clear ho13
                all_goals refine c3_done (NoPanic.normal ?_)
              rotate_right 1
              focus
                all_goals first | (refine c3_op ho7 rfl (fun K hK => ?_); go_simp; ((go_at_call 9; (with_reducible refine (hloj.out _ (I5.out.ext (hext.trans (by repeat (first | exact Ext.refl _ | assumption | refine Ext.drew ?_ | refine Ext.drewN ?_ _ | refine Ext.iter ?_ _ _ | refine Ext.alloc ?_ _ | refine Ext.setCell ?_ (by first | exact Nat.le_refl _ | (simp <;> omega)) _ | refine Ext.trans2 (by assumption) ?_)))) (I6.out.ext (hext.trans (by repeat (first | exact Ext.refl _ | assumption | refine Ext.drew ?_ | refine Ext.drewN ?_ _ | refine Ext.iter ?_ _ _ | refine Ext.alloc ?_ _ | refine Ext.setCell ?_ (by first | exact Nat.le_refl _ | (simp <;> omega)) _ | refine Ext.trans2 (by assumption) ?_))))).mono ?_); rintro e w7 ⟨⟨q0, q1, q2, q3, q4, q5, c9, rfl, hlr⟩, hx7⟩; replace hT := hT.trans hx7; (try replace q9 := q9.ext hx7); replace hlr := Lib.hid hlr; clear hx7)); all_goals ((with_reducible refine hK _ _ ?_); refine ⟨hT, ?_⟩; clear hK K; go_simp))
                all_goals clear ho7
                all_goals (apply c3_st ho8 rfl; (intro w2 hS; first | (go_simp; first | done | rfl) | rfl | (obtain ⟨hc', hf', hk', hz⟩ := ecell hS; go_simp; first | done | rfl)); simp only [Act.put, List.setIfInBounds_toArray, List.set_cons_zero, List.set_cons_succ])
                all_goals clear ho8
                all_goals (apply c3_st ho9 rfl; (intro w2 hS; first | (go_simp; first | done | rfl) | rfl | (obtain ⟨hc', hf', hk', hz⟩ := ecell hS; go_simp; first | done | rfl)); simp only [Act.put, List.setIfInBounds_toArray, List.set_cons_zero, List.set_cons_succ])
                all_goals clear ho9
                all_goals (apply c3_st ho10 rfl; (intro w2 hS; first | (go_simp; first | done | rfl) | rfl | (obtain ⟨hc', hf', hk', hz⟩ := ecell hS; go_simp; first | done | rfl)); simp only [Act.put, List.setIfInBounds_toArray, List.set_cons_zero, List.set_cons_succ])
                all_goals clear ho10
                all_goals refine c3_one ?_
                all_goals first | (refine c3_op ho11 rfl (fun K hK => ?_); (refine allocL_op ?_; intro w8 g9 e9 l9 x9 q9; have m9 : wr.heap.size ≤ g9 := (by have := hT.below.size; omega); replace hT := hT.trans x9; clear e9 x9); all_goals ((with_reducible refine hK _ _ ?_); refine ⟨hT, ?_⟩; clear hK K; go_simp))
                all_goals clear ho11
                all_goals refine c3_one ?_
                all_goals first | (refine c3_op ho12 rfl (fun K hK => ?_); (refine storeL_op q9 rfl rfl ?_; intro w9 s7 b7 q7; replace hT := s7 _ hT m9; replace q9 := q7; clear s7 b7 q7); all_goals ((with_reducible refine hK _ _ ?_); refine ⟨hT, ?_⟩; clear hK K; go_simp))
                all_goals clear ho12
                all_goals (apply c3_st ho13 rfl; (intro w2 hS; first | (go_simp; first | done | rfl) | rfl | (obtain ⟨hc', hf', hk', hz⟩ := ecell hS; go_simp; first | done | rfl)); simp only [Act.put, List.setIfInBounds_toArray, List.set_cons_zero, List.set_cons_succ])
                all_goals clear ho13
                all_goals refine c3_done (NoPanic.normal ?_)
            all_goals
              have f3 := q9.cell (i := 3) (v := .int .i64 q3) rfl; have fL := q9.lt
              have hb7 := hbr.ext hT
              clear x0 x1 x2 x3 x4 x5 x6 x7 xL y1
              have x0 := hb7.cell (i := 0) (v := .string nm) rfl; have x1 := hb7.cell (i := 1) (v := .int .i64 kd) rfl; have x2 := hb7.cell (i := 2) (v := .int .i64 p) rfl; have x3 := hb7.cell (i := 3) (v := .int .i64 k) rfl; have x4 := hb7.cell (i := 4) (v := .int .i64 q) rfl; have x5 := hb7.cell (i := 5) (v := .slice (some ⟨b, o, none⟩) ss.length cs) rfl; have x6 := hb7.cell (i := 6) (v := .int .i64 co) rfl; have x7 := hb7.cell (i := 7) (v := .slice pl ls.length cl) rfl; have xL := hb7.lt
              obtain ⟨b', o', e', hbl7, y7⟩ := hyx.out _ hT
              simp only [Option.some.injEq, Addr.mk.injEq, and_true] at e'
              obtain ⟨rfl, rfl⟩ := e'
              rcases hcase.out with ⟨h1, h2, h3⟩ | ⟨h1, h2, h3⟩
              · have hne : (n == V1) = false := by simp; omega
                rcases hlr.out with ⟨hP, ⟨-, -, -, hq, -, -⟩, rfl⟩ | ⟨hP, -, rfl⟩
                · have hlt3 : ¬ need ≤ q3 := fun h => h3 ⟨hP, by rw [← hq]; exact h⟩
                  have hd3 : decide (need ≤ q3) = false := by simp; omega
                  replace h3 := Lib.hid h3; replace hP := Lib.hid hP; clear hq
                  go_upto_region 17 with fail
                  go_quiet (fail)
                  go_wp2
                  go_roundw
                  case rel => exact ⟨m + 1, by omega, by go_num, (by first | exact hext.trans hT | exact hext.trans (by repeat (first | exact Ext.refl _ | assumption | refine Ext.drew ?_ | refine Ext.drewN ?_ _ | refine Ext.iter ?_ _ _ | refine Ext.alloc ?_ _ | refine Ext.setCell ?_ (by first | exact Nat.le_refl _ | (simp <;> omega)) _ | refine Ext.trans2 (by assumption) ?_)) | exact (hext.trans hT).drewN _)⟩
                  case measure => simp [intOf]; omega
                · replace h3 := Lib.hid h3; replace hP := Lib.hid hP
                  go_upto_region 17 with fail
                  go_quiet (fail)
                  go_wp2
                  go_roundw
                  case rel => exact ⟨m + 1, by omega, by go_num, (by first | exact hext.trans hT | exact hext.trans (by repeat (first | exact Ext.refl _ | assumption | refine Ext.drew ?_ | refine Ext.drewN ?_ _ | refine Ext.iter ?_ _ _ | refine Ext.alloc ?_ _ | refine Ext.setCell ?_ (by first | exact Nat.le_refl _ | (simp <;> omega)) _ | refine Ext.trans2 (by assumption) ?_)) | exact (hext.trans hT).drewN _)⟩
                  case measure => simp [intOf]; omega
              · rcases hlr.out with ⟨hP, ⟨-, -, -, hq, -, -⟩, rfl⟩ | ⟨hP, -, rfl⟩
                · subst h1
                  have hle3 : need ≤ q3 := by rw [hq]; exact h3.2
                  have hd3 : decide (need ≤ q3) = true := by simp; exact hle3
                  have hne : (n == V1) = true := by simp; exact h2
                  replace h2 := Lib.hid h2; replace hle3 := Lib.hid hle3
                  replace h3 := Lib.hid h3; replace hP := Lib.hid hP; clear hq
                  go_upto_region 17 with fail
                  go_quiet (fail)
                  go_wp2
                  go_roundw
                  case rel => exact ⟨m + 1, by omega, by go_num, (by first | exact hext.trans hT | exact hext.trans (by repeat (first | exact Ext.refl _ | assumption | refine Ext.drew ?_ | refine Ext.drewN ?_ _ | refine Ext.iter ?_ _ _ | refine Ext.alloc ?_ _ | refine Ext.setCell ?_ (by first | exact Nat.le_refl _ | (simp <;> omega)) _ | refine Ext.trans2 (by assumption) ?_)) | exact (hext.trans hT).drewN _)⟩
                  case measure => simp [intOf]; omega
                · exact absurd h3.1 hP
          · have hgt : V1 < ss.getD m 0 := by rw [hVy.out]; exact hlt2.out j m (by omega) hlt
            generalize ss.getD m 0 = n at *
            have hnl : ¬ n ≤ V1 := by omega
            have hnd : decide (n ≤ V1) = false := by simp; omega
            go_wp2_with fail
            go_ret
            exact ⟨rfl, hE6.trans hext⟩
        · have hml : ¬ (m : Int) < ss.length := by omega
          go_wp2
          go_ret
          exact ⟨rfl, hE6.trans hext⟩
    · have hd2 : (V2 == 0) = false := by simpa using h2
      go_wp2
      go_ret
      exact ⟨rfl, hE5⟩
  · go_enter Tryz.func3, Tryz.ntmps3
    go_wp2_with (go_at_call 4; (with_reducible refine (big_c _ _ _ _ hl).mono ?_); rintro e w1 ⟨⟨hP, rfl⟩ | ⟨hP, rfl⟩, rfl⟩ <;> first | (exfalso; omega) | skip)
    go_ret
    exact ⟨rfl, Ext.refl _⟩
end Go.Proofs.YthokkmbdkjpbcaaGreat
