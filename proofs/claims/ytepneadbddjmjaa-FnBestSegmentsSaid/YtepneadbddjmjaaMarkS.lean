/- Marking and holding lists of segments. -/
import Derived.Test.YtepneadbddjmjaaCells
import Derived.Test.YtepneadbddjmjaaMark
import Derived.Test.YtepneadbddjmjaaSegs
namespace Go.Proofs.Ytepneadbddjmjaa
set_option linter.unusedVariables false
set_option linter.unusedSimpArgs false
open Go.RowKit

def mkSg (k0 : Nat) (n : Nat) : List Sg := (List.range n).map fun i => (((k0 + 2 * i : Nat) : Int), mText (k0 + 2 * i + 1))
theorem mkSg_len (k0 n : Nat) : (mkSg k0 n).length = n := by simp [mkSg]
theorem mkSg_succ (k0 n : Nat) : mkSg k0 (n + 1) = mkSg k0 n ++ [(((k0 + 2 * n : Nat) : Int), mText (k0 + 2 * n + 1))] := by simp [mkSg, List.range_succ]
theorem OwnCells.at {B : Nat} {w : World} {p : Option Addr} {P c R : List Value} (h : OwnCells B w p (P ++ (c ++ R))) {j n : Nat} (hn : n = P.length + j) (hj : j < c.length) :
    ∃ b o, p = some ⟨b, o, none⟩ ∧ B ≤ b ∧ b < w.heap.size ∧ w.cell? ⟨b, o + n, none⟩ = some (c[j]'hj) ∧ w.frozen? ⟨b, o + n, none⟩ = false := by
  subst hn
  obtain ⟨b, o, h1, h2, h3, h4, h5⟩ := h (P.length + j) (by simp; omega)
  refine ⟨b, o, h1, h2, h3, ?_, h5⟩
  rw [h4, List.getElem_append_right (by omega)]
  simp only [Nat.add_sub_cancel_left]
  rw [List.getElem_append_left hj]

theorem markText1_c (q : Nat) (w : World) (hk : q + 1 ≤ 1099511627776) :
    Calls Try.prog 71 #[.int .i64 ((q : Int) + 1)] w fun e w' => e = .returned (.string (mText (q + 1))) ∧ Ext w w' := markText_c (q + 1) w hk
set_option maxRecDepth 100000 in
theorem markSegmentS_c (B : Nat) (p : Option Addr) (c : Nat) (k0 : Nat) (xs : List Sg) (w : World) (hx : SOwn segF 2 B w p xs) (hl : xs.length ≤ 1048576) (hk : k0 ≤ 1048576) (hB0 : B ≤ w.heap.size) :
    Calls Try.prog 30 #[.slice p xs.length c, .int .i64 k0] w fun e w' => e = .returned (.int .i64 ((k0 + 2 * xs.length : Nat) : Int)) ∧ OwnCells B w' p ((mkSg k0 xs.length).flatMap segF) ∧ Marked B p xs.length w w' := by
  have hx0 := hx.cells segF_len
  clear hx
  go_enter Try.func30, Try.ntmps30
  go_wp2
  go_loopw [1, 5] (fun kk i wr => ∃ n q : Nat, n ≤ xs.length ∧ i = .int .i64 n ∧ kk = .int .i64 q ∧ q = k0 + 2 * n ∧ OwnCells B wr p ((mkSg k0 n).flatMap segF ++ (xs.drop n).flatMap segF) ∧ Marked B p xs.length w wr) (fun _ i _ => xs.length - (intOf i).toNat)
  case atStart => exact ⟨0, k0, Nat.zero_le _, rfl, rfl, by omega, by simpa [mkSg] using hx0, Marked.refl _ _ _ _⟩
  case round =>
    clear hx0
    obtain ⟨n, q, hn, rfl, rfl, hq, hown, hM⟩ := hrel
    have hBr : B ≤ wr.heap.size := Nat.le_trans hB0 hM.1.size
    by_cases hlt : n < xs.length
    · have hP : ((mkSg k0 n).flatMap segF).length = n * 2 := by rw [flat_len segF_len, mkSg_len]
      rw [List.drop_eq_getElem_cons hlt, List.flatMap_cons] at hown
      obtain ⟨b, o, rfl, hbB, hbl, h0, g0⟩ := hown.at (j := 0) (n := n * 2) (by omega) (by simp [segF])
      have hs1 := hown.setAt (j := 0) (n := n * 2) rfl (by omega) (by simp [segF]) (.int .i64 q)
      have hM1 := hM.set (j := o + n * 2) rfl (by omega) hbB (.int .i64 q)
      have HQ := Lib.hid hq; have HP := Lib.hid hP; clear hP
      have hq1 : q ≤ 4000000 := by omega
      clear hq hown hM
      go_wp2_with (go_at_call 71; (with_reducible refine (markText1_c q _ (by omega)).mono ?_); rintro e w1 ⟨rfl, hb1⟩; have hs2 := hs1.ext hb1; obtain ⟨b', o', e1, hbB2, hbl2, z0, z1⟩ := hs2.at (j := 1) (n := n * 2 + 1) (by have := HP.out; omega) (by simp [segF]); obtain ⟨rfl, rfl⟩ : b = b' ∧ o = o' := (by simpa using e1); rw [← Nat.add_assoc] at z0 z1; have hM2 := hM1.ext hb1 (by simpa [World.setCell] using hBr))
      have hs3 := hs2.setAt (j := 1) (n := n * 2 + 1) rfl (by have := HP.out; omega) (by simp [segF]) (.string (mText (q + 1)))
      have hM3 := hM2.set (j := o + n * 2 + 1) rfl (by omega) hbB (.string (mText (q + 1)))
      go_roundw
      case rel =>
        refine ⟨n + 1, q + 2, hlt, by go_num, by go_num, by have := HQ.out; omega, ?_, hM3⟩
        rw [mkSg_succ, List.flatMap_append, ← HQ.out, List.append_assoc]
        exact hs3
      case measure => simp [intOf]; omega
    · obtain rfl : n = xs.length := by omega
      simp only [List.drop_length, List.flatMap_nil, List.append_nil] at hown
      subst hq
      go_wp2
      go_ret
      exact ⟨rfl, hown, hM⟩

set_option maxRecDepth 100000 in
theorem heldSegmentS_c (p : Option Addr) (c : Nat) (k0 n0 : Nat) (w : World) (hx : SAt segF 2 w p (mkSg k0 n0)) (hl : n0 ≤ 1048576) (hk : k0 ≤ 1048576) :
    Calls Try.prog 31 #[.slice p n0 c, .int .i64 k0] w fun e w' => e = .returned (.int .i64 ((k0 + 2 * n0 : Nat) : Int)) ∧ Ext w w' := by
  go_enter Try.func31, Try.ntmps31
  go_wp2
  go_loopw [1, 5] (fun kk i wr => ∃ n q : Nat, n ≤ n0 ∧ i = .int .i64 n ∧ kk = .int .i64 q ∧ q = k0 + 2 * n ∧ Ext w wr) (fun _ i _ => n0 - (intOf i).toNat)
  case atStart => exact ⟨0, k0, Nat.zero_le _, rfl, rfl, by omega, (by repeat (first | exact Ext.refl _ | assumption | refine Ext.drew ?_ | refine Ext.drewN ?_ _ | refine Ext.iter ?_ _ _ | refine Ext.alloc ?_ _ | refine Ext.setCell ?_ (by first | exact Nat.le_refl _ | (simp <;> omega)) _ | refine Ext.trans2 (by assumption) ?_))⟩
  case round =>
    obtain ⟨n, q, hn, rfl, rfl, hq, hext⟩ := hrel
    by_cases hlt : n < n0
    · obtain ⟨b, o, rfl, hbl, h0, h1⟩ := (hx.ext hext).two (i := n) (by rw [mkSg_len]; exact hlt) (u := .int .i64 q) (v := .string (mText (q + 1))) (by simp [mkSg, segF, hq])
      have HQ := Lib.hid hq
      have hq1 : q ≤ 4000000 := by omega
      clear hx hq
      have e1 := IntWalk.i64_in ((q : Int) + 1) (by omega)
      go_wp2
      refine wp_region_canon (fun w' => Ext wr w') [(0, true), (1, true), (2, true), (3, true), (4, true), (5, true), (6, false), (7, true)] (by kernel_rfl) (by kernel_rfl) (by decide) (by kernel_rfl) ?_ ?_
      · exact (by repeat (first | exact Ext.refl _ | assumption | refine Ext.drew ?_ | refine Ext.drewN ?_ _ | refine Ext.iter ?_ _ _ | refine Ext.alloc ?_ _ | refine Ext.setCell ?_ (by first | exact Nat.le_refl _ | (simp <;> omega)) _ | refine Ext.trans2 (by assumption) ?_))
      refine canon_intro fun ops eo => ?_
      have ho0 := canon_at eo 0 rfl
      have ho1 := canon_at eo 1 rfl
      have ho2 := canon_at eo 2 rfl
      have ho3 := canon_at eo 3 rfl
      have ho4 := canon_at eo 4 rfl
      have ho5 := canon_at eo 5 rfl
      have ho6 := canon_at eo 6 rfl
      have ho7 := canon_at eo 7 rfl
      clear eo
      all_goals (apply canon_st ho0 rfl; (intro w2 hS; first | (go_simp; first | done | rfl) | rfl | (obtain ⟨hc, hf, hk, hz⟩ := ecell hS; go_simp; first | done | rfl)); simp only [Act.put, List.setIfInBounds_toArray, List.set_cons_zero, List.set_cons_succ])
      all_goals clear ho0
      all_goals (apply canon_st ho1 rfl; (intro w2 hS; first | (go_simp; first | done | rfl) | rfl | (obtain ⟨hc, hf, hk, hz⟩ := ecell hS; go_simp; first | done | rfl)); simp only [Act.put, List.setIfInBounds_toArray, List.set_cons_zero, List.set_cons_succ])
      all_goals clear ho1
      all_goals (apply canon_st ho2 rfl; (intro w2 hS; first | (go_simp; first | done | rfl) | rfl | (obtain ⟨hc, hf, hk, hz⟩ := ecell hS; go_simp; first | done | rfl)); simp only [Act.put, List.setIfInBounds_toArray, List.set_cons_zero, List.set_cons_succ])
      all_goals clear ho2
      all_goals (apply canon_st ho3 rfl; (intro w2 hS; first | (go_simp; first | done | rfl) | rfl | (obtain ⟨hc, hf, hk, hz⟩ := ecell hS; go_simp; first | done | rfl)); simp only [Act.put, List.setIfInBounds_toArray, List.set_cons_zero, List.set_cons_succ])
      all_goals clear ho3
      all_goals (apply canon_st ho4 rfl; (intro w2 hS; first | (go_simp; first | done | rfl) | rfl | (obtain ⟨hc, hf, hk, hz⟩ := ecell hS; go_simp; first | done | rfl)); simp only [Act.put, List.setIfInBounds_toArray, List.set_cons_zero, List.set_cons_succ])
      all_goals clear ho4
      all_goals (apply canon_st ho5 rfl; (intro w2 hS; first | (go_simp; first | done | rfl) | rfl | (obtain ⟨hc, hf, hk, hz⟩ := ecell hS; go_simp; first | done | rfl)); simp only [Act.put, List.setIfInBounds_toArray, List.set_cons_zero, List.set_cons_succ])
      all_goals clear ho5
      all_goals first | (refine canon_ef ho6 rfl (fun K hK => ?_); go_simp; ((go_at_call 71; (with_reducible refine (markText1_c q _ (by omega)).mono ?_); rintro e w1 ⟨rfl, hb1⟩)); all_goals (refine hK _ _ ⟨(by repeat (first | exact Ext.refl _ | assumption | refine Ext.drew ?_ | refine Ext.drewN ?_ _ | refine Ext.iter ?_ _ _ | refine Ext.alloc ?_ _ | refine Ext.setCell ?_ (by first | exact Nat.le_refl _ | (simp <;> omega)) _ | refine Ext.trans2 (by assumption) ?_)), ?_⟩; clear hK K; go_simp))
      all_goals clear ho6
      all_goals (apply canon_st ho7 rfl; (intro w2 hS; first | (go_simp; first | done | rfl) | rfl | (obtain ⟨hc, hf, hk, hz⟩ := ecell hS; go_simp; first | done | rfl)); simp only [Act.put, List.setIfInBounds_toArray, List.set_cons_zero, List.set_cons_succ])
      all_goals clear ho7
      all_goals refine canon_done (NoPanic.normal ?_)
      clear e1
      go_wp2
      go_roundw
      case rel => exact ⟨n + 1, q + 2, hlt, by go_num, by go_num, by have := HQ.out; omega, (hext.drew.trans hb1)⟩
      case measure => simp [intOf]; omega
    · obtain rfl : n = n0 := by omega
      clear hx
      subst hq
      go_wp2
      go_ret
      exact ⟨rfl, hext⟩
end Go.Proofs.Ytepneadbddjmjaa
