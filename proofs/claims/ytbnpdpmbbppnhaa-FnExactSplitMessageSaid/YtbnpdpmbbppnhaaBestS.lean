
/- The reference's best segments; marking lists of segments. -/
import Derived.Test.YtbnpdpmbbppnhaaSegs
import Derived.Test.YtbnpdpmbbppnhaaTab
namespace Go.Proofs.Ytbnpdpmbbppnhaa
set_option linter.unusedVariables false
set_option linter.unusedSimpArgs false
open Go.RowKit

set_option maxRecDepth 100000 in
theorem sBest_c (s : ByteArray) (w : World) (hs : s.size ≤ 1048576) :
    Calls Try.prog 170 #[.string s] w fun e w' => (∃ v, e = .returned v ∧ RowS 107 segF 2 w.heap.size w' v (bests s s.size)) ∧ Ext w w' := by
  have hI1 : Try.prog.underlying 31 = some (.slice 107) := by kernel_rfl
  have hI2 : (Try.prog.info? 107).map (fun i => (i.zero, i.size, i.bytes)) = some (some (.agg #[.int .i64 0, .string ByteArray.empty]), 2, 24) := by kernel_rfl
  have hst : Try.prog.underlying 9 = some .string := by kernel_rfl
  go_enter Try.func170, Try.ntmps170
  go_wp2_with (first
    | (go_at_call 176; refine (sTable_c s _ hs).mono ?_; rintro e w1 ⟨⟨g, cs, rfl, hg, hB, hD⟩, hb⟩; replace hD := Lib.hid hD))
  have hlt0 := hB.lt
  go_loopw [4, 5] (fun o i wr => ∃ (k : Nat) (acc : List Sg), k ≤ s.size ∧ i = .int .i64 k ∧ Ext w wr ∧ Below w1.heap.size w1 wr ∧ acc.length ≤ k ∧ RowS 107 segF 2 w1.heap.size wr o acc ∧ Hid (acc ++ bests s (s.size - k) = bests s s.size)) (fun _ i _ => s.size - (intOf i).toNat)
  case atStart => exact ⟨0, [], Nat.zero_le _, rfl, hb.alloc _, (Ext.refl w1).alloc _, Nat.le_refl _, RowS.made _ (Nat.le_refl _), Lib.hid rfl⟩
  case round =>
    obtain ⟨k, acc, hk, rfl, hext, hlow, hal, hown, hA⟩ := hrel
    by_cases hlt : k < s.size
    · obtain ⟨k0, k1, k2, k3⟩ := hD.out.atK hk
      have k0c := k0
      have k2c := k2
      have k3c := k3
      have hBr := hB.low hlow hlt0
      have k0 := hBr.cell k0
      have k1 := hBr.cell k1
      have k2 := hBr.cell k2
      have k3 := hBr.cell k3
      have hlt1 := hBr.lt
      have hgood := cell_good s (s.size - k) (by omega)
      have hok := cell_ok s (s.size - k)
      simp only [Cell.good, Cell.ok, show ((s.size - k : Nat) : Int) = s.size - k by omega] at hgood hok
      have hstep := Lib.hid (bests_step s (s.size - k) (by omega))
      generalize hcc : cell s (s.size - k) = c at *
      have hltx := hown.lt
      have hd9 : (k : Int) < s.size + 1 := by omega
      have hd8 : k < s.size + 1 := by omega
      have e1 := IntWalk.i64_in ((k : Int) + c.size) (by omega)
      have e2 : ((k : Int) + c.size).toNat = k + c.size.toNat := by omega
      have hsl : ∀ wx, (Instr.slice 9 (.string s) (some (.int .i64 k)) (some (.int .i64 ((k : Int) + c.size))) none).run Try.prog wx = .ok (.string (s.extract k (k + c.size.toNat))) wx := fun wx => by
        rw [run_slice_string (P := Try.prog) wx 9 s .i64 .i64 k ((k : Int) + c.size) hst (by omega) (by omega) (by omega), e2, Int.toNat_natCast]
      have hlw : w1.heap.size ≤ wr.heap.size := hlow.size
      have HX := Lib.hid hext; have HO := Lib.hid hown; have HLO := Lib.hid hlow; have HLT := Lib.hid hltx
      clear hext hown hlow hltx e2
      go_wp2_with fail
      refine wp_region_canon (fun w' => Ext w w' ∧ Blk w' g cs 194) [(0, true), (1, true), (2, true), (3, true), (4, true), (5, true), (6, true), (7, true), (8, true), (9, true), (10, true), (11, true), (12, true), (13, true), (14, true), (15, true), (16, true), (17, false), (18, false), (19, true)] (by kernel_rfl) (by kernel_rfl) (by decide) (by kernel_rfl) ?_ ?_
      · exact ⟨HX.out.drew, hBr⟩
      refine canon_intro fun ops eo => ?_
      have ho0 := canon_at eo 0 rfl
      have ho1 := canon_at eo 1 rfl
      have ho2 := canon_at eo 2 rfl
      have ho3 := canon_at eo 3 rfl
      have ho4 := canon_at eo 4 rfl
      have ho5 := canon_at eo 5 rfl
      have ho6 := canon_at eo 6 rfl
      have ho7 := canon_at eo 7 rfl
      have ho8 := canon_at eo 8 rfl
      have ho9 := canon_at eo 9 rfl
      have ho10 := canon_at eo 10 rfl
      have ho11 := canon_at eo 11 rfl
      have ho12 := canon_at eo 12 rfl
      have ho13 := canon_at eo 13 rfl
      have ho14 := canon_at eo 14 rfl
      have ho15 := canon_at eo 15 rfl
      have ho16 := canon_at eo 16 rfl
      have ho17 := canon_at eo 17 rfl
      have ho18 := canon_at eo 18 rfl
      have ho19 := canon_at eo 19 rfl
      clear eo
      all_goals (apply canon_st ho0 rfl; (intro w2 hS; first | (go_simp; first | done | rfl) | rfl | (have q0 := hS.2.cell k0c; have q2 := hS.2.cell k2c; have q3 := hS.2.cell k3c; have q4 := hS.2.lt; go_simp; first | done | rfl)); simp only [Act.put, List.setIfInBounds_toArray, List.set_cons_zero, List.set_cons_succ])
      all_goals clear ho0
      all_goals (apply canon_st ho1 rfl; (intro w2 hS; first | (go_simp; first | done | rfl) | rfl | (have q0 := hS.2.cell k0c; have q2 := hS.2.cell k2c; have q3 := hS.2.cell k3c; have q4 := hS.2.lt; go_simp; first | done | rfl)); simp only [Act.put, List.setIfInBounds_toArray, List.set_cons_zero, List.set_cons_succ])
      all_goals clear ho1
      all_goals (apply canon_st ho2 rfl; (intro w2 hS; first | (go_simp; first | done | rfl) | rfl | (have q0 := hS.2.cell k0c; have q2 := hS.2.cell k2c; have q3 := hS.2.cell k3c; have q4 := hS.2.lt; go_simp; first | done | rfl)); simp only [Act.put, List.setIfInBounds_toArray, List.set_cons_zero, List.set_cons_succ])
      all_goals clear ho2
      all_goals (apply canon_st ho3 rfl; (intro w2 hS; first | (go_simp; first | done | rfl) | rfl | (have q0 := hS.2.cell k0c; have q2 := hS.2.cell k2c; have q3 := hS.2.cell k3c; have q4 := hS.2.lt; go_simp; first | done | rfl)); simp only [Act.put, List.setIfInBounds_toArray, List.set_cons_zero, List.set_cons_succ])
      all_goals clear ho3
      all_goals (apply canon_st ho4 rfl; (intro w2 hS; first | (go_simp; first | done | rfl) | rfl | (have q0 := hS.2.cell k0c; have q2 := hS.2.cell k2c; have q3 := hS.2.cell k3c; have q4 := hS.2.lt; go_simp; first | done | rfl)); simp only [Act.put, List.setIfInBounds_toArray, List.set_cons_zero, List.set_cons_succ])
      all_goals clear ho4
      all_goals (apply canon_st ho5 rfl; (intro w2 hS; first | (go_simp; first | done | rfl) | rfl | (have q0 := hS.2.cell k0c; have q2 := hS.2.cell k2c; have q3 := hS.2.cell k3c; have q4 := hS.2.lt; go_simp; first | done | rfl)); simp only [Act.put, List.setIfInBounds_toArray, List.set_cons_zero, List.set_cons_succ])
      all_goals clear ho5
      all_goals (apply canon_st ho6 rfl; (intro w2 hS; first | (go_simp; first | done | rfl) | rfl | (have q0 := hS.2.cell k0c; have q2 := hS.2.cell k2c; have q3 := hS.2.cell k3c; have q4 := hS.2.lt; go_simp; first | done | rfl)); simp only [Act.put, List.setIfInBounds_toArray, List.set_cons_zero, List.set_cons_succ])
      all_goals clear ho6
      all_goals (apply canon_st ho7 rfl; (intro w2 hS; first | (go_simp; first | done | rfl) | rfl | (have q0 := hS.2.cell k0c; have q2 := hS.2.cell k2c; have q3 := hS.2.cell k3c; have q4 := hS.2.lt; go_simp; first | done | rfl)); simp only [Act.put, List.setIfInBounds_toArray, List.set_cons_zero, List.set_cons_succ])
      all_goals clear ho7
      all_goals (apply canon_st ho8 rfl; (intro w2 hS; first | (go_simp; first | done | rfl) | rfl | (have q0 := hS.2.cell k0c; have q2 := hS.2.cell k2c; have q3 := hS.2.cell k3c; have q4 := hS.2.lt; go_simp; first | done | rfl)); simp only [Act.put, List.setIfInBounds_toArray, List.set_cons_zero, List.set_cons_succ])
      all_goals clear ho8
      all_goals (apply canon_st ho9 rfl; (intro w2 hS; first | (go_simp; first | done | rfl) | rfl | (have q0 := hS.2.cell k0c; have q2 := hS.2.cell k2c; have q3 := hS.2.cell k3c; have q4 := hS.2.lt; go_simp; first | done | rfl)); simp only [Act.put, List.setIfInBounds_toArray, List.set_cons_zero, List.set_cons_succ])
      all_goals clear ho9
      all_goals (apply canon_st ho10 rfl; (intro w2 hS; first | (go_simp; first | done | rfl) | rfl | (have q0 := hS.2.cell k0c; have q2 := hS.2.cell k2c; have q3 := hS.2.cell k3c; have q4 := hS.2.lt; go_simp; first | done | rfl)); simp only [Act.put, List.setIfInBounds_toArray, List.set_cons_zero, List.set_cons_succ])
      all_goals clear ho10
      all_goals (apply canon_st ho11 rfl; (intro w2 hS; first | (go_simp; first | done | rfl) | rfl | (have q0 := hS.2.cell k0c; have q2 := hS.2.cell k2c; have q3 := hS.2.cell k3c; have q4 := hS.2.lt; go_simp; first | done | rfl)); simp only [Act.put, List.setIfInBounds_toArray, List.set_cons_zero, List.set_cons_succ])
      all_goals clear ho11
      all_goals (apply canon_st ho12 rfl; (intro w2 hS; first | (go_simp; first | done | rfl) | rfl | (have q0 := hS.2.cell k0c; have q2 := hS.2.cell k2c; have q3 := hS.2.cell k3c; have q4 := hS.2.lt; go_simp; first | done | rfl)); simp only [Act.put, List.setIfInBounds_toArray, List.set_cons_zero, List.set_cons_succ])
      all_goals clear ho12
      all_goals (apply canon_st ho13 rfl; (intro w2 hS; first | (go_simp; first | done | rfl) | rfl | (have q0 := hS.2.cell k0c; have q2 := hS.2.cell k2c; have q3 := hS.2.cell k3c; have q4 := hS.2.lt; go_simp; first | done | rfl)); simp only [Act.put, List.setIfInBounds_toArray, List.set_cons_zero, List.set_cons_succ])
      all_goals clear ho13
      all_goals (apply canon_st ho14 rfl; (intro w2 hS; first | (go_simp; first | done | rfl) | rfl | (have q0 := hS.2.cell k0c; have q2 := hS.2.cell k2c; have q3 := hS.2.cell k3c; have q4 := hS.2.lt; go_simp; first | done | rfl)); simp only [Act.put, List.setIfInBounds_toArray, List.set_cons_zero, List.set_cons_succ])
      all_goals clear ho14
      all_goals (apply canon_st ho15 rfl; (intro w2 hS; first | (go_simp; first | done | rfl) | rfl | (have q0 := hS.2.cell k0c; have q2 := hS.2.cell k2c; have q3 := hS.2.cell k3c; have q4 := hS.2.lt; go_simp; first | done | rfl)); simp only [Act.put, List.setIfInBounds_toArray, List.set_cons_zero, List.set_cons_succ])
      all_goals clear ho15
      all_goals (apply canon_st ho16 rfl; (intro w2 hS; first | (go_simp; first | done | rfl) | rfl | (have q0 := hS.2.cell k0c; have q2 := hS.2.cell k2c; have q3 := hS.2.cell k3c; have q4 := hS.2.lt; go_simp; first | done | rfl)); simp only [Act.put, List.setIfInBounds_toArray, List.set_cons_zero, List.set_cons_succ])
      all_goals clear ho16
      all_goals first | (refine canon_ef ho17 rfl (fun K hK => ?_); ((refine append1S_op (w0 := wr.drew) hI1 hI2 rfl (by omega) (by omega) segF_len segF_one (n := (c.mode, s.extract k (k + c.size.toNat))) (show RowS 107 segF 2 w1.heap.size wr.drew _ acc from HO.out) (by omega) HLO.out.size rfl ?_ rfl rfl); intro v1 w6 hown6 hlow6 hoth; have hr6 := (hoth g hlt1 (fun e => by have := (HLT.out _ e).1; omega)).trans (show Blk wr g cs _ from hBr); have hx6 : Ext w w6 := HX.out.drew.low hlow6 hb.below.size; have hl6 : Below w1.heap.size w1 w6 := HLO.out.drew.trans hlow6); all_goals (refine hK _ _ ⟨⟨by first | assumption | exact HX.out.drew.alloc _ | exact (HX.out.alloc _).drew, by first | assumption | exact (hBr.alloc _).drew⟩, ?_⟩; clear hK K; go_simp)) | (refine canon_ef ho17 rfl (fun K hK => ?_); go_simp; (skip); all_goals (refine hK _ _ ⟨⟨by first | assumption | exact HX.out.drew.alloc _ | exact (HX.out.alloc _).drew, by first | assumption | exact (hBr.alloc _).drew⟩, ?_⟩; clear hK K; go_simp))
      all_goals clear ho17
      all_goals first | (refine canon_ef ho18 rfl (fun K hK => ?_); ((refine append1S_op (w0 := wr.drew) hI1 hI2 rfl (by omega) (by omega) segF_len segF_one (n := (c.mode, s.extract k (k + c.size.toNat))) (show RowS 107 segF 2 w1.heap.size wr.drew _ acc from HO.out) (by omega) HLO.out.size rfl ?_ rfl rfl); intro v1 w6 hown6 hlow6 hoth; have hr6 := (hoth g hlt1 (fun e => by have := (HLT.out _ e).1; omega)).trans (show Blk wr g cs _ from hBr); have hx6 : Ext w w6 := HX.out.drew.low hlow6 hb.below.size; have hl6 : Below w1.heap.size w1 w6 := HLO.out.drew.trans hlow6); all_goals (refine hK _ _ ⟨⟨by first | assumption | exact HX.out.drew.alloc _ | exact (HX.out.alloc _).drew, by first | assumption | exact (hBr.alloc _).drew⟩, ?_⟩; clear hK K; go_simp)) | (refine canon_ef ho18 rfl (fun K hK => ?_); go_simp; (skip); all_goals (refine hK _ _ ⟨⟨by first | assumption | exact HX.out.drew.alloc _ | exact (HX.out.alloc _).drew, by first | assumption | exact (hBr.alloc _).drew⟩, ?_⟩; clear hK K; go_simp))
      all_goals clear ho18
      all_goals (apply canon_st ho19 rfl; (intro w2 hS; first | (go_simp; first | done | rfl) | rfl | (have q0 := hS.2.cell k0c; have q2 := hS.2.cell k2c; have q3 := hS.2.cell k3c; have q4 := hS.2.lt; go_simp; first | done | rfl)); simp only [Act.put, List.setIfInBounds_toArray, List.set_cons_zero, List.set_cons_succ])
      all_goals clear ho19
      all_goals refine canon_done (NoPanic.normal ?_)
      clear e1 hsl
      have q2 := (show Blk w6 g _ _ from hr6).cell k2c
      have q4 := (show Blk w6 g _ _ from hr6).lt
      have e3 := IntWalk.i64_in ((k : Int) + c.size) (by omega)
      go_wp2
      go_roundw
      case rel =>
        refine ⟨k + c.size.toNat, acc ++ [(c.mode, s.extract k (k + c.size.toNat))], by omega, by go_num, hx6, hl6, by simp; omega, hown6, Lib.hid ?_⟩
        have h1 := hstep.out
        rw [show s.size - (s.size - k) = k by omega, show s.size - k - c.size.toNat = s.size - (k + c.size.toNat) by omega] at h1
        rw [← hA.out, h1, List.append_assoc]
        rfl
      case measure => simp [intOf]; omega
    · go_wp2
      go_ret
      obtain rfl : k = s.size := by omega
      have := hA.out
      rw [Nat.sub_self, bests_zero, List.append_nil] at this
      subst this
      exact ⟨⟨_, rfl, RowS.mono hown hb.below.size⟩, hext⟩
end Go.Proofs.Ytbnpdpmbbppnhaa
