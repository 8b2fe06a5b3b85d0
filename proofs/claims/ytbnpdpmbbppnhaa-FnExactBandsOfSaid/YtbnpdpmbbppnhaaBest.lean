
/- The best length and the best segments. -/
import Derived.Test.YtbnpdpmbbppnhaaChoices
import Derived.Test.YtbnpdpmbbppnhaaSegMath
import Derived.Test.YtbnpdpmbbppnhaaStructs
namespace Go.Proofs.Ytbnpdpmbbppnhaa
set_option linter.unusedVariables false
set_option linter.unusedSimpArgs false
open Go.RowKit

theorem bestLength_c (s : ByteArray) (w : World) (hs : s.size ≤ 1048576) :
    Calls Try.prog 87 #[.string s] w fun e w' => e = .returned (.int .i64 (cell s s.size).len) ∧ Ext w w' := by
  go_enter Try.func87, Try.ntmps87
  go_wp2_with (first
    | (go_at_call 164; refine (choices_c s _ hs).mono ?_; rintro e w1 ⟨⟨g, cs, rfl, hg, hB, hD⟩, hb⟩; have hz0 := hD.2 s.size (Nat.le_refl _) (Nat.le_refl _) 0 (by omega); rw [Nat.sub_self] at hz0; have hz0 := hB.cell (hz0.trans rfl); clear hD))
  go_ret
  exact ⟨rfl, (by repeat (first | exact Ext.refl _ | assumption | refine Ext.drew ?_ | refine Ext.drewN ?_ _ | refine Ext.iter ?_ _ _ | refine Ext.alloc ?_ _ | refine Ext.setCell ?_ (by first | exact Nat.le_refl _ | (simp <;> omega)) _ | refine Ext.trans2 (by assumption) ?_))⟩

/-- Two whole numbers given back. -/
def ret2 (a b : Int) : Ending := .returned (.tuple #[.int .i64 a, .int .i64 b])

theorem isMessage_c (s : ByteArray) (w : World) (hs : s.size ≤ 1048576) :
    Calls Try.prog 98 #[.string s] w fun e w' => isB e (s.size ≤ 400) ∧ w = w' := by
  go_enter Try.func98, Try.ntmps98
  go_wp2
  go_ret
  exact ⟨isB_m (by simp; omega), rfl⟩

theorem DTab.atK {s : ByteArray} {cs : Array Value} {k : Nat} (h : DTab s cs s.size) (hk : k ≤ s.size) :
    cs[k * 4]? = some (.int .i64 (cell s (s.size - k)).len) ∧ cs[k * 4 + 1]? = some (.int .i64 (cell s (s.size - k)).cnt) ∧
    cs[k * 4 + 2]? = some (.int .i64 (cell s (s.size - k)).size) ∧ cs[k * 4 + 3]? = some (.int .i64 (cell s (s.size - k)).mode) := by
  have := h.2 (s.size - k) (by omega) (by omega)
  rw [show s.size - (s.size - k) = k by omega] at this
  exact ⟨this 0 (by omega), this 1 (by omega), this 2 (by omega), this 3 (by omega)⟩
theorem RowS.mono {α : Type} {f : α → List Value} {k B B' : Nat} {e : TypeId} {w : World} {v : Value} {xs : List α} (h : RowS e f k B w v xs) (hB : B' ≤ B) : RowS e f k B' w v xs := by
  refine ⟨h.1, ?_⟩
  rcases h.2 with h2 | ⟨g, cap, cur, hv, hg, r⟩
  · exact .inl h2
  · exact .inr ⟨g, cap, cur, hv, Nat.le_trans hB hg, r⟩
theorem segF_len (x : Sg) : (segF x).length = 2 := rfl
theorem segF_one (x : Sg) : ∀ u ∈ segF x, u.oneCell' = true := by
  intro u hu
  simp only [segF, List.mem_cons, List.not_mem_nil, or_false] at hu
  rcases hu with rfl | rfl <;> rfl

set_option maxRecDepth 100000 in
theorem bestSegments_c (s : ByteArray) (w : World) (hs : s.size ≤ 1048576) :
    Calls Try.prog 165 #[.string s] w fun e w' => (∃ v, e = .returned v ∧ RowS 107 segF 2 w.heap.size w' v (bests s s.size)) ∧ Ext w w' := by
  have hI1 : Try.prog.underlying 31 = some (.slice 107) := by kernel_rfl
  have hI2 : (Try.prog.info? 107).map (fun i => (i.zero, i.size, i.bytes)) = some (some (.agg #[.int .i64 0, .string ByteArray.empty]), 2, 24) := by kernel_rfl
  have hst : Try.prog.underlying 9 = some .string := by kernel_rfl
  go_enter Try.func165, Try.ntmps165
  go_wp2_with (first
    | (go_at_call 164; refine (choices_c s _ hs).mono ?_; rintro e w1 ⟨⟨g, cs, rfl, hg, hB, hD⟩, hb⟩; replace hD := Lib.hid hD))
  have hlt0 := hB.lt
  go_loopw [4, 5] (fun o i wr => ∃ (k : Nat) (acc : List Sg), k ≤ s.size ∧ i = .int .i64 k ∧ Ext w wr ∧ Below w1.heap.size w1 wr ∧ acc.length ≤ k ∧ RowS 107 segF 2 w1.heap.size wr o acc ∧ Hid (acc ++ bests s (s.size - k) = bests s s.size)) (fun _ i _ => s.size - (intOf i).toNat)
  case atStart => exact ⟨0, [], Nat.zero_le _, rfl, hb.alloc _, (Ext.refl w1).alloc _, Nat.le_refl _, RowS.made _ (Nat.le_refl _), Lib.hid rfl⟩
  case round =>
    obtain ⟨k, acc, hk, rfl, hext, hlow, hal, hown, hA⟩ := hrel
    by_cases hlt : k < s.size
    · obtain ⟨k0, k1, k2, k3⟩ := hD.out.atK hk
      have hBr := hB.low hlow hlt0
      have k0 := hBr.cell k0
      have k1 := hBr.cell k1
      have k2 := hBr.cell k2
      have k3 := hBr.cell k3
      have hlt1 := hBr.lt
      have hgood := cell_good s (s.size - k) (by omega)
      have hok := cell_ok s (s.size - k)
      simp only [Cell.good, Cell.ok, show ((s.size - k : Nat) : Int) = s.size - k by omega] at hgood hok
      have hstep := Lib.hid (bests_step s (s.size - k) (by omega))
      go_wp2_with fail
      generalize hcc : cell s (s.size - k) = c at *
      have hX := (Ext.refl wr).alloc (.cells #[.int .i64 c.len, .int .i64 c.cnt, .int .i64 c.size, .int .i64 c.mode] 184)
      have hrest := Blk.new wr #[.int .i64 c.len, .int .i64 c.cnt, .int .i64 c.size, .int .i64 c.mode] 184
      have hown2 := hown.alloc (.cells #[.int .i64 c.len, .int .i64 c.cnt, .int .i64 c.size, .int .i64 c.mode] 184)
      have hext2 := hext.trans hX
      have hlow2 := hlow.trans (hX.below.mono hlow.size)
      have hltx := hown.lt
      clear k0 k1 k2 k3 hX hBr hB hown hext
      have hw1 : w1.heap.size ≤ wr.heap.size := hlow.size
      clear hlow
      generalize wr.alloc (.cells #[.int .i64 c.len, .int .i64 c.cnt, .int .i64 c.size, .int .i64 c.mode] 184) = w5 at *
      generalize wr.heap.size = gx at *
      have hxl := hrest.lt
      have e1 := IntWalk.i64_in ((k : Int) + c.size) (by omega)
      have e2 : ((k : Int) + c.size).toNat = k + c.size.toNat := by omega
      have hsl : ∀ wx, (Instr.slice 9 (.string s) (some (.int .i64 k)) (some (.int .i64 ((k : Int) + c.size))) none).run Try.prog wx = .ok (.string (s.extract k (k + c.size.toNat))) wx := fun wx => by
        rw [run_slice_string (P := Try.prog) wx 9 s .i64 .i64 k ((k : Int) + c.size) hst (by omega) (by omega) (by omega), e2, Int.toNat_natCast]
      refine wp_region_canon (fun w' => Ext w w' ∧ Blk w' gx #[.int .i64 c.len, .int .i64 c.cnt, .int .i64 c.size, .int .i64 c.mode] 184) [(0, true), (1, true), (2, true), (3, true), (4, true), (5, true), (6, true), (7, true), (8, true), (9, true), (10, true), (11, false), (12, false), (13, true)] (by kernel_rfl) (by kernel_rfl) (by decide) (by kernel_rfl) ?_ ?_
      · exact ⟨(by repeat (first | exact Ext.refl _ | assumption | refine Ext.drew ?_ | refine Ext.drewN ?_ _ | refine Ext.iter ?_ _ _ | refine Ext.alloc ?_ _ | refine Ext.setCell ?_ (by first | exact Nat.le_refl _ | (simp <;> omega)) _ | refine Ext.trans2 (by assumption) ?_)), hrest⟩
      refine canon_intro fun ops eo => ?_
      have ho0 := canon_at eo 0 rfl
      have ho1 := canon_at eo 1 rfl
      have ho2 := canon_at eo 2 rfl
      have ho3 := canon_at eo 3 rfl
      have ho4 := canon_at eo 4 rfl
      have ho5 := canon_at eo 5 rfl
      have ho6 := canon_at eo 6 rfl
      have ho7 := canon_at eo 7 rfl
      have ho8 := canon_at eo 8 rfl
      have ho9 := canon_at eo 9 rfl
      have ho10 := canon_at eo 10 rfl
      have ho11 := canon_at eo 11 rfl
      have ho12 := canon_at eo 12 rfl
      have ho13 := canon_at eo 13 rfl
      clear eo
      all_goals (apply canon_st ho0 rfl; (intro w2 hS; first | (go_simp; first | done | rfl) | rfl | (have q0 := hS.2.cell (i := 0) rfl; have q1 := hS.2.cell (i := 1) rfl; have q2 := hS.2.cell (i := 2) rfl; have q3 := hS.2.cell (i := 3) rfl; have q4 := hS.2.lt; go_simp; first | done | rfl)); simp only [Act.put, List.setIfInBounds_toArray, List.set_cons_zero, List.set_cons_succ])
      all_goals clear ho0
      all_goals (apply canon_st ho1 rfl; (intro w2 hS; first | (go_simp; first | done | rfl) | rfl | (have q0 := hS.2.cell (i := 0) rfl; have q1 := hS.2.cell (i := 1) rfl; have q2 := hS.2.cell (i := 2) rfl; have q3 := hS.2.cell (i := 3) rfl; have q4 := hS.2.lt; go_simp; first | done | rfl)); simp only [Act.put, List.setIfInBounds_toArray, List.set_cons_zero, List.set_cons_succ])
      all_goals clear ho1
      all_goals (apply canon_st ho2 rfl; (intro w2 hS; first | (go_simp; first | done | rfl) | rfl | (have q0 := hS.2.cell (i := 0) rfl; have q1 := hS.2.cell (i := 1) rfl; have q2 := hS.2.cell (i := 2) rfl; have q3 := hS.2.cell (i := 3) rfl; have q4 := hS.2.lt; go_simp; first | done | rfl)); simp only [Act.put, List.setIfInBounds_toArray, List.set_cons_zero, List.set_cons_succ])
      all_goals clear ho2
      all_goals (apply canon_st ho3 rfl; (intro w2 hS; first | (go_simp; first | done | rfl) | rfl | (have q0 := hS.2.cell (i := 0) rfl; have q1 := hS.2.cell (i := 1) rfl; have q2 := hS.2.cell (i := 2) rfl; have q3 := hS.2.cell (i := 3) rfl; have q4 := hS.2.lt; go_simp; first | done | rfl)); simp only [Act.put, List.setIfInBounds_toArray, List.set_cons_zero, List.set_cons_succ])
      all_goals clear ho3
      all_goals (apply canon_st ho4 rfl; (intro w2 hS; first | (go_simp; first | done | rfl) | rfl | (have q0 := hS.2.cell (i := 0) rfl; have q1 := hS.2.cell (i := 1) rfl; have q2 := hS.2.cell (i := 2) rfl; have q3 := hS.2.cell (i := 3) rfl; have q4 := hS.2.lt; go_simp; first | done | rfl)); simp only [Act.put, List.setIfInBounds_toArray, List.set_cons_zero, List.set_cons_succ])
      all_goals clear ho4
      all_goals (apply canon_st ho5 rfl; (intro w2 hS; first | (go_simp; first | done | rfl) | rfl | (have q0 := hS.2.cell (i := 0) rfl; have q1 := hS.2.cell (i := 1) rfl; have q2 := hS.2.cell (i := 2) rfl; have q3 := hS.2.cell (i := 3) rfl; have q4 := hS.2.lt; go_simp; first | done | rfl)); simp only [Act.put, List.setIfInBounds_toArray, List.set_cons_zero, List.set_cons_succ])
      all_goals clear ho5
      all_goals (apply canon_st ho6 rfl; (intro w2 hS; first | (go_simp; first | done | rfl) | rfl | (have q0 := hS.2.cell (i := 0) rfl; have q1 := hS.2.cell (i := 1) rfl; have q2 := hS.2.cell (i := 2) rfl; have q3 := hS.2.cell (i := 3) rfl; have q4 := hS.2.lt; go_simp; first | done | rfl)); simp only [Act.put, List.setIfInBounds_toArray, List.set_cons_zero, List.set_cons_succ])
      all_goals clear ho6
      all_goals (apply canon_st ho7 rfl; (intro w2 hS; first | (go_simp; first | done | rfl) | rfl | (have q0 := hS.2.cell (i := 0) rfl; have q1 := hS.2.cell (i := 1) rfl; have q2 := hS.2.cell (i := 2) rfl; have q3 := hS.2.cell (i := 3) rfl; have q4 := hS.2.lt; go_simp; first | done | rfl)); simp only [Act.put, List.setIfInBounds_toArray, List.set_cons_zero, List.set_cons_succ])
      all_goals clear ho7
      all_goals (apply canon_st ho8 rfl; (intro w2 hS; first | (go_simp; first | done | rfl) | rfl | (have q0 := hS.2.cell (i := 0) rfl; have q1 := hS.2.cell (i := 1) rfl; have q2 := hS.2.cell (i := 2) rfl; have q3 := hS.2.cell (i := 3) rfl; have q4 := hS.2.lt; go_simp; first | done | rfl)); simp only [Act.put, List.setIfInBounds_toArray, List.set_cons_zero, List.set_cons_succ])
      all_goals clear ho8
      all_goals (apply canon_st ho9 rfl; (intro w2 hS; first | (go_simp; first | done | rfl) | rfl | (have q0 := hS.2.cell (i := 0) rfl; have q1 := hS.2.cell (i := 1) rfl; have q2 := hS.2.cell (i := 2) rfl; have q3 := hS.2.cell (i := 3) rfl; have q4 := hS.2.lt; go_simp; first | done | rfl)); simp only [Act.put, List.setIfInBounds_toArray, List.set_cons_zero, List.set_cons_succ])
      all_goals clear ho9
      all_goals (apply canon_st ho10 rfl; (intro w2 hS; first | (go_simp; first | done | rfl) | rfl | (have q0 := hS.2.cell (i := 0) rfl; have q1 := hS.2.cell (i := 1) rfl; have q2 := hS.2.cell (i := 2) rfl; have q3 := hS.2.cell (i := 3) rfl; have q4 := hS.2.lt; go_simp; first | done | rfl)); simp only [Act.put, List.setIfInBounds_toArray, List.set_cons_zero, List.set_cons_succ])
      all_goals clear ho10
      all_goals first | (refine canon_ef ho11 rfl (fun K hK => ?_); (refine append1S_op (w0 := w5.drew) hI1 hI2 rfl (by omega) (by omega) segF_len segF_one (n := (c.mode, s.extract k (k + c.size.toNat))) (show RowS 107 segF 2 w1.heap.size w5.drew _ acc from hown2) (by omega) hlow2.size rfl ?_ rfl rfl; intro v1 w6 hown6 hlow6 hoth; have hr6 := (hoth gx hxl (fun e => by have := (hltx _ e).2; omega)).trans hrest; have hx6 : Ext w w6 := hext2.drew.low hlow6 hb.below.size; have hl6 : Below w1.heap.size w1 w6 := hlow2.drew.trans hlow6); all_goals (refine hK _ _ ⟨⟨(by repeat (first | exact Ext.refl _ | assumption | refine Ext.drew ?_ | refine Ext.drewN ?_ _ | refine Ext.iter ?_ _ _ | refine Ext.alloc ?_ _ | refine Ext.setCell ?_ (by first | exact Nat.le_refl _ | (simp <;> omega)) _ | refine Ext.trans2 (by assumption) ?_)), by first | assumption | exact (hrest.alloc _).drew⟩, ?_⟩; clear hK K; go_simp)) | (refine canon_ef ho11 rfl (fun K hK => ?_); go_simp; (skip); all_goals (refine hK _ _ ⟨⟨(by repeat (first | exact Ext.refl _ | assumption | refine Ext.drew ?_ | refine Ext.drewN ?_ _ | refine Ext.iter ?_ _ _ | refine Ext.alloc ?_ _ | refine Ext.setCell ?_ (by first | exact Nat.le_refl _ | (simp <;> omega)) _ | refine Ext.trans2 (by assumption) ?_)), by first | assumption | exact (hrest.alloc _).drew⟩, ?_⟩; clear hK K; go_simp))
      all_goals clear ho11
      all_goals first | (refine canon_ef ho12 rfl (fun K hK => ?_); (refine append1S_op (w0 := w5.drew) hI1 hI2 rfl (by omega) (by omega) segF_len segF_one (n := (c.mode, s.extract k (k + c.size.toNat))) (show RowS 107 segF 2 w1.heap.size w5.drew _ acc from hown2) (by omega) hlow2.size rfl ?_ rfl rfl; intro v1 w6 hown6 hlow6 hoth; have hr6 := (hoth gx hxl (fun e => by have := (hltx _ e).2; omega)).trans hrest; have hx6 : Ext w w6 := hext2.drew.low hlow6 hb.below.size; have hl6 : Below w1.heap.size w1 w6 := hlow2.drew.trans hlow6); all_goals (refine hK _ _ ⟨⟨(by repeat (first | exact Ext.refl _ | assumption | refine Ext.drew ?_ | refine Ext.drewN ?_ _ | refine Ext.iter ?_ _ _ | refine Ext.alloc ?_ _ | refine Ext.setCell ?_ (by first | exact Nat.le_refl _ | (simp <;> omega)) _ | refine Ext.trans2 (by assumption) ?_)), by first | assumption | exact (hrest.alloc _).drew⟩, ?_⟩; clear hK K; go_simp)) | (refine canon_ef ho12 rfl (fun K hK => ?_); go_simp; (skip); all_goals (refine hK _ _ ⟨⟨(by repeat (first | exact Ext.refl _ | assumption | refine Ext.drew ?_ | refine Ext.drewN ?_ _ | refine Ext.iter ?_ _ _ | refine Ext.alloc ?_ _ | refine Ext.setCell ?_ (by first | exact Nat.le_refl _ | (simp <;> omega)) _ | refine Ext.trans2 (by assumption) ?_)), by first | assumption | exact (hrest.alloc _).drew⟩, ?_⟩; clear hK K; go_simp))
      all_goals clear ho12
      all_goals (apply canon_st ho13 rfl; (intro w2 hS; first | (go_simp; first | done | rfl) | rfl | (have q0 := hS.2.cell (i := 0) rfl; have q1 := hS.2.cell (i := 1) rfl; have q2 := hS.2.cell (i := 2) rfl; have q3 := hS.2.cell (i := 3) rfl; have q4 := hS.2.lt; go_simp; first | done | rfl)); simp only [Act.put, List.setIfInBounds_toArray, List.set_cons_zero, List.set_cons_succ])
      all_goals clear ho13
      all_goals refine canon_done (NoPanic.normal ?_)
      clear e1 hsl
      have q2 := (show Blk w6 gx _ _ from hr6).cell (i := 2) (v := .int .i64 c.size) rfl
      go_wp2
      go_roundw
      case rel =>
        refine ⟨k + c.size.toNat, acc ++ [(c.mode, s.extract k (k + c.size.toNat))], by omega, by go_num, hx6, hl6, by simp; omega, hown6, Lib.hid ?_⟩
        have h1 := hstep.out
        rw [show s.size - (s.size - k) = k by omega, show s.size - k - c.size.toNat = s.size - (k + c.size.toNat) by omega] at h1
        rw [← hA.out, h1, List.append_assoc]
        rfl
      case measure => simp [intOf]; omega
    · go_wp2
      go_ret
      obtain rfl : k = s.size := by omega
      have := hA.out
      rw [Nat.sub_self, bests_zero, List.append_nil] at this
      subst this
      exact ⟨⟨_, rfl, RowS.mono hown hb.below.size⟩, hext⟩
end Go.Proofs.Ytbnpdpmbbppnhaa
