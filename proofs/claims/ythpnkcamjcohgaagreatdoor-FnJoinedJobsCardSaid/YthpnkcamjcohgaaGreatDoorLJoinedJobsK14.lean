/- Drawn grids. -/
import Derived.Test.YthpnkcamjcohgaaGreatDoorLJoinedJobsK11
import Derived.Test.YthpnkcamjcohgaaGreatDoorLJoinedJobsK12
import Derived.Test.YthpnkcamjcohgaaGreatDoorLJoinedJobsK13
import Derived.Test.YthpnkcamjcohgaaGreatDoorLJoinedJobsK00
import Derived.Deep.DeepCutAuto
import Derived.Deep.CutBlock
/-! Drawn grids. -/
namespace Go.Proofs.YthpnkcamjcohgaaGreatDoor
set_option linter.unusedVariables false
set_option linter.unusedSimpArgs false
open Go.RowKit

/-- A grid has been drawn; only the source has turned. -/
def GrR (n0 g : Nat) (w : World) (e : Ending) (w' : World) : Prop := ∃ (r c : Int) (p : Option Addr) (k : Nat) (xs : List Int), e = .returned (vGrid r c p xs.length k) ∧ xs.length ≤ 100 ∧ xs.length ≤ k ∧ OwnInts w.heap.size w' p xs ∧ Src n0 w' g ∧ But g w w'
theorem grr_fin {n0 g B : Nat} {w w' : World} {r c : Int} {p : Option Addr} {k : Nat} {xs : List Int} (hl : xs.length ≤ 100) (h : RowI B w' (.slice p xs.length k) xs) (hB : w.heap.size < B) (hs : Src n0 w' g) (hn0 : n0 ≤ w.heap.size) (hb : But g w w') :
    GrR n0 g w (.returned (vGrid r c p xs.length k)) (((w'.setCell ⟨w.heap.size, 0, none⟩ (.int .i64 r)).setCell ⟨w.heap.size, 1, none⟩ (.int .i64 c)).setCell ⟨w.heap.size, 2, none⟩ (.slice p xs.length k)) := by
  have ho : (Value.slice p xs.length k).ownBlock ≠ some w.heap.size := fun e => by have := (h.lt _ e).1; omega
  have h3 := ((h.setOther (i := 0) (u := .int .i64 r) ho).setOther (i := 1) (u := .int .i64 c) ho).setOther (i := 2) (u := .slice p xs.length k) ho
  obtain ⟨p', k', e, oq, hk⟩ := h3.ownC
  simp at e
  obtain ⟨rfl, rfl⟩ := e
  exact ⟨r, c, p, k, xs, rfl, hl, hk, oq.mono (Nat.le_of_lt hB), ((hs.set hn0).set hn0).set hn0, ((hb.setOld (Nat.le_refl _)).setOld (Nat.le_refl _)).setOld (Nat.le_refl _)⟩
theorem rowsA (j : Nat) (hj : j < 3) : ∃ v : Int, (#[.int .i64 0, .int .i64 (-1), .int .i64 40001] : Array Value)[j]? = some (.int .i64 v) := by
  match j, hj with
  | 0, _ => exact ⟨_, rfl⟩
  | 1, _ => exact ⟨_, rfl⟩
  | 2, _ => exact ⟨_, rfl⟩
set_option maxHeartbeats 1600000 in
set_option maxRecDepth 100000 in
theorem l14DrawGrid_c (n0 g : Nat) (w : World) (h : Src n0 w g) (hn0 : n0 ≤ w.heap.size) :
    Calls Tryz.prog 60 #[.pointer (some ⟨g, 0, none⟩)] w fun e w' => GrR n0 g w e w' := by
  have hg : g < n0 := h.1
  have HS := Lib.hid h; clear h
  have hb := Blk.new w #[.int .i64 0, .int .i64 0, .slice none 0 0] 30
  have hr0 : But g w (w.alloc (.cells #[.int .i64 0, .int .i64 0, .slice none 0 0] 30)) := But.of ((Ext.refl w).alloc _)
  go_enter Tryz.func60, Tryz.ntmps60
  go_wp2_with fail
  refine (Next_c n0 g 6 _ (HS.out.ext (by repeat (first | exact Ext.refl _ | assumption | refine Ext.drew ?_ | refine Ext.drewN ?_ _ | refine Ext.iter ?_ _ _ | refine Ext.alloc ?_ _ | refine Ext.setCell ?_ (by first | exact Nat.le_refl _ | (simp <;> omega)) _ | refine Ext.trans2 (by assumption) ?_))) (by omega)).mono ?_
  rintro e w1 ⟨a, rfl, ha0, ha1, -, hs1, hb1⟩
  replace ha1 := ha1 (by omega)
  have hz1 := hb1.size
  simp only [World.size_alloc] at hz1
  have hbr1 := hb.but hb1 (by omega)
  have hr1 := hr0.trans hb1
  obtain ⟨R, hR⟩ : ∃ R : Nat, 1 + a = R := ⟨(1 + a).toNat, by omega⟩
  have e1 : IntKind.i64.wrap (1 + a) = R := by rw [hR]; exact IntWalk.i64_in _ (by omega)
  have hR1 : 1 ≤ R ∧ R ≤ 6 := by omega
  replace hR := Lib.hid hR
  clear hb hr0 hb1 HS ha0 ha1
  go_wp2_with fail
  refine (Next_c n0 g 6 _ hs1 (by omega)).mono ?_
  rintro e w2 ⟨c, rfl, hc0, hc1, -, hs2, hb2⟩
  replace hc1 := hc1 (by omega)
  have hz2 := hb2.size
  have hbr2 := hbr1.but hb2 (by omega)
  have hr2 := hr1.trans hb2
  obtain ⟨C, hC⟩ : ∃ C : Nat, 1 + c = C := ⟨(1 + c).toNat, by omega⟩
  have e2 : IntKind.i64.wrap (1 + c) = C := by rw [hC]; exact IntWalk.i64_in _ (by omega)
  have hC1 : 1 ≤ C ∧ C ≤ 6 := by omega
  clear hbr1 hr1 hb2 hs1 hc0 hc1
  have hx3 := Blk.new w2 #[.int .i64 R, .int .i64 C, .slice none 0 0] 30
  have hbr3 := hbr2.alloc (.cells #[.int .i64 R, .int .i64 C, .slice none 0 0] 30)
  have hr3 := hr2.alloc (.cells #[.int .i64 R, .int .i64 C, .slice none 0 0] 30)
  have hs3 := hs2.alloc (.cells #[.int .i64 R, .int .i64 C, .slice none 0 0] 30)
  have hwx : w.heap.size < w2.heap.size := by omega
  have hxg : w2.heap.size ≠ g := by omega
  have hz3 : w2.heap.size + 1 ≤ (w2.alloc (.cells #[.int .i64 R, .int .i64 C, .slice none 0 0] 30)).heap.size := by simp
  replace hC := Lib.hid hC
  obtain ⟨M, hM⟩ : ∃ M : Nat, R * C = M := ⟨_, rfl⟩
  have hM1 : 1 ≤ M ∧ M ≤ 36 := by
    rw [← hM]
    have e1 : 1 * 1 ≤ R * C := Nat.mul_le_mul (by omega) (by omega)
    have e2 : R * C ≤ 6 * 6 := Nat.mul_le_mul (by omega) (by omega)
    omega
  have e3 : (R : Int) * (C : Int) = (M : Int) := by rw [← hM]; simp
  have e4 := IntWalk.i64_in (M : Int) (by omega)
  replace hM := Lib.hid hM
  have hrow0 := RowI.made (B := w2.heap.size + 1) (w := (w2.alloc (.cells #[.int .i64 R, .int .i64 C, .slice none 0 0] 30))) (by simp)
  simp only [World.size_alloc] at hrow0
  go_wp2_with fail
  generalize w2.alloc (.cells #[.int .i64 R, .int .i64 C, .slice none 0 0] 30) = w3 at *
  clear hs2 hbr2 hr2
  generalize w2.heap.size = x at *
  go_loopw [4, 5] (fun out i wr => ∃ (k : Nat) (xs : List Int), k ≤ M ∧ i = .int .i64 k ∧ xs.length = k ∧ RowI (x + 1) wr out xs ∧ Blk wr w.heap.size #[.int .i64 0, .int .i64 0, .slice none 0 0] 30 ∧ Blk wr x #[.int .i64 R, .int .i64 C, .slice none 0 0] 30 ∧ Src n0 wr g ∧ But g w wr ∧ x + 1 ≤ wr.heap.size) (fun _ i _ => M - (intOf i).toNat)
  case atStart => exact ⟨0, [], Nat.zero_le _, rfl, rfl, hrow0, hbr3.alloc _, hx3.alloc _, hs3.alloc _, hr3.alloc _, by simp; omega⟩
  case round =>
    clear hrow0 hbr3 hx3 hs3 hr3
    obtain ⟨k, xs, hk, rfl, hlk, hown, hbr, hxr, hsr, hbt, hzr⟩ := hrel
    have f0 := hxr.cell (i := 0) (v := .int .i64 R) rfl
    have f1 := hxr.cell (i := 1) (v := .int .i64 C) rfl
    have fl := hxr.lt
    by_cases hlt : k < M
    · have hki : (k : Int) < M := by omega
      replace hlk := Lib.hid hlk
      go_wp2_with (first
        | (go_at_call 20; (with_reducible refine (Next_c n0 g 3 _ hsr (by omega)).mono ?_); rintro e wa ⟨y, rfl, hy0, hy1, -, hsa, hba⟩; replace hy1 := hy1 (by omega); have ey := IntWalk.i64_in (y - 1) (by omega); have hza := hba.size; have howna := hown.but hba (by omega); have hbra := hbr.but hba (by omega); have hxra := hxr.but hba (by omega); have hbta := hbt.trans hba)
        | (at_builtin; go_loud (refine append1IG howna (by have := hlk.out; omega) (by omega) ?_ rfl rfl); intro v3 w4 hown3 hg3; have hb3 := hg3.below (B := x + 1) (fun k hk => (howna.lt k hk).1) (by omega)))
      go_roundw
      case rel => exact ⟨k + 1, _, hlt, by go_num, by rw [List.length_append, hlk.out]; rfl, hown3, hbra.low hb3 (by omega), hxra.low hb3 (by omega), hsa.low hb3 (by omega), hbta.below hb3 (by omega), by have := hb3.size; omega⟩
      case measure => simp [intOf]; omega
    · obtain rfl : k = M := by omega
      clear hlt hk
      go_wp2_with fail
      refine (Next_c n0 g 20 _ hsr (by omega)).mono ?_
      rintro e w5 ⟨z, rfl, -, -, -, hs5, hb5⟩
      have hz5 := hb5.size
      have hbr5 := hbr.but hb5 (by omega)
      have hx5 := hxr.but hb5 (by omega)
      have hr5 := hbt.trans hb5
      have hown5 := hown.but hb5 (by omega)
      clear hown hbr hxr hsr hbt f0 f1 fl hb5
      have hzz : z = 0 ∨ z = 1 ∨ z = 2 ∨ (z ≠ 0 ∧ z ≠ 1 ∧ z ≠ 2) := by omega
      have q0 := hx5.cell (i := 0) (v := .int .i64 R) rfl; have q1 := hx5.cell (i := 1) (v := .int .i64 C) rfl; have q2 := hx5.cell (i := 2) (v := .slice none 0 0) rfl; have ql := hx5.lt; have qf := hx5.free
      have r0 := hbr5.cell (i := 0) (v := .int .i64 0) rfl; have r1 := hbr5.cell (i := 1) (v := .int .i64 0) rfl; have r2 := hbr5.cell (i := 2) (v := .slice none 0 0) rfl; have rl := hbr5.lt; have rf := hbr5.free
      rcases hzz with rfl | rfl | rfl | ⟨d0, d1, d2⟩
      · replace hlk := Lib.hid hlk
        go_wp2_with (at_builtin; go_loud (refine append1IG hown5 (by have := hlk.out; omega) (by omega) ?_ rfl rfl); intro v3 w6 hown6 hg6; have hb6 := hg6.below (B := x + 1) (fun k hk => (hown5.lt k hk).1) (by omega); have hbr6 := hbr5.low hb6 (by omega); have hx6 := hx5.low hb6 (by omega); have hs6 := hs5.low hb6 (by omega); have hr6 := hr5.below hb6 (by omega); obtain ⟨p, kc, rfl, -, -⟩ := hown6.ownC; have hL := Lib.hid (show (xs ++ [0]).length = xs.length + 1 by simp); have q0 := hx6.cell (i := 0) (v := .int .i64 R) rfl; have q1 := hx6.cell (i := 1) (v := .int .i64 C) rfl; have ql := hx6.lt; have rl := hbr6.lt; have rf := hbr6.free; have r0 := hbr6.cell (i := 0) (v := .int .i64 0) rfl; have r1 := hbr6.cell (i := 1) (v := .int .i64 0) rfl; have r2 := hbr6.cell (i := 2) (v := .slice none 0 0) rfl; generalize xs ++ [0] = ys at *)
        have hfin := grr_fin (r := R) (c := C) (by have := hL.out; have := hlk.out; omega) hown6 (by omega) hs6 hn0 hr6
        have hF := ((hbr6.set 0 (.int .i64 R)).set 1 (.int .i64 C)).set 2 (.slice p ys.length kc)
        have c0 := hF.cell (i := 0) (v := .int .i64 R) rfl; have c1 := hF.cell (i := 1) (v := .int .i64 C) rfl; have c2 := hF.cell (i := 2) (v := .slice p ys.length kc) rfl
        exact bodyPost_ret (v := vGrid R C p ys.length kc) (by simp [results, Tryz.results60, go_sem, c0, c1, c2]) rfl hfin
      · obtain ⟨gx, kc, rfl, hgx, hgl, z0, z1, -, hset⟩ := hown5.stored (k := 0) (by omega)
        have hs6 := hs5.set (x := gx) (i := 0) (v := .int .i64 2) (by omega)
        have hr6 := hr5.setOld (x := gx) (i := 0) (v := .int .i64 2) (by omega)
        have hbr6 := hbr5.far (g' := gx) (i := 0) (by omega) (.int .i64 2)
        have hx6 := hx5.far (g' := gx) (i := 0) (by omega) (.int .i64 2)
        have hown6 := hset 2
        have hL := Lib.hid (show (xs.set 0 2).length = xs.length by simp)
        have hpos : 0 < (xs.set 0 2).length := by simp; omega
        replace hlk := Lib.hid hlk
        generalize xs.getD 0 0 = y0 at *
        generalize xs.set 0 2 = ys at *
        rw [← hL.out] at hown6
        have hfin := grr_fin (r := R) (c := C) (by have := hL.out; have := hlk.out; omega) hown6 (by omega) hs6 hn0 hr6
        have q0 := hx6.cell (i := 0) (v := .int .i64 R) rfl; have q1 := hx6.cell (i := 1) (v := .int .i64 C) rfl; have ql := hx6.lt; have rl := hbr6.lt; have rf := hbr6.free; have r0 := hbr6.cell (i := 0) (v := .int .i64 0) rfl; have r1 := hbr6.cell (i := 1) (v := .int .i64 0) rfl; have r2 := hbr6.cell (i := 2) (v := .slice none 0 0) rfl
        have hF := ((hbr6.set 0 (.int .i64 R)).set 1 (.int .i64 C)).set 2 (.slice (some ⟨gx, 0, none⟩) ys.length kc)
        have c0 := hF.cell (i := 0) (v := .int .i64 R) rfl; have c1 := hF.cell (i := 1) (v := .int .i64 C) rfl; have c2 := hF.cell (i := 2) (v := .slice (some ⟨gx, 0, none⟩) ys.length kc) rfl
        rw [← hL.out]
        go_wp2_with fail
        exact bodyPost_ret (v := vGrid R C (some ⟨gx, 0, none⟩) ys.length kc) (by simp [results, Tryz.results60, go_sem, c0, c1, c2]) rfl hfin
      · go_wp2_with fail
        refine (Next_c n0 g 3 _ (hs5.ext (by repeat (first | exact Ext.refl _ | assumption | refine Ext.drew ?_ | refine Ext.drewN ?_ _ | refine Ext.iter ?_ _ _ | refine Ext.alloc ?_ _ | refine Ext.setCell ?_ (by first | exact Nat.le_refl _ | (simp <;> omega)) _ | refine Ext.trans2 (by assumption) ?_))) (by omega)).mono ?_
        rintro e w6 ⟨zz, rfl, hz0, hz3', -, hs6, hb6⟩
        replace hz3' := hz3' (by omega)
        obtain ⟨zn, rfl⟩ : ∃ zn : Nat, zz = zn := ⟨zz.toNat, by omega⟩
        have hzn : (zn : Int) < 3 := hz3'
        obtain ⟨v, hv⟩ := rowsA zn (by omega)
        have hsz := (Blk.new w5 #[.int .i64 0, .int .i64 (-1), .int .i64 40001] 2).but hb6 (by show w5.heap.size ≠ g; omega)
        have sA := hsz.cell hv
        have sB := hsz.lt
        have hz6 := hb6.size
        simp only [World.size_alloc] at hz6
        have hown6 := (hown5.alloc (.cells #[.int .i64 0, .int .i64 (-1), .int .i64 40001] 2)).but hb6 (by omega)
        have hx6 := ((hx5.alloc (.cells #[.int .i64 0, .int .i64 (-1), .int .i64 40001] 2)).but hb6 (by omega)).set 0 (.int .i64 v)
        have hbr6 := ((hbr5.alloc (.cells #[.int .i64 0, .int .i64 (-1), .int .i64 40001] 2)).but hb6 (by omega)).far (g' := x) (i := 0) (by omega) (.int .i64 v)
        have hr6 := ((hr5.alloc (.cells #[.int .i64 0, .int .i64 (-1), .int .i64 40001] 2)).trans hb6).setOld (x := x) (i := 0) (v := .int .i64 v) (by omega)
        replace hs6 := hs6.set (x := x) (i := 0) (v := .int .i64 v) (by omega)
        replace hown6 := hown6.setOther (g := x) (i := 0) (u := .int .i64 v) (fun e => by have := (hown6.lt _ e).1; omega)
        have hxl : x < w6.heap.size := by omega
        have hxf := ((hx5.alloc (.cells #[.int .i64 0, .int .i64 (-1), .int .i64 40001] 2)).but hb6 (by omega)).free
        have hxq := ((hx5.alloc (.cells #[.int .i64 0, .int .i64 (-1), .int .i64 40001] 2)).but hb6 (by omega)).cell (i := 0) (v := .int .i64 R) rfl
        clear hv hsz q0 q1 q2 ql qf r0 r1 r2 rl rf hb6 hz0 hz3'
        obtain ⟨p, kc, rfl, -, -⟩ := hown6.ownC
        have q0 := hx6.cell (i := 0) (v := .int .i64 v) rfl; have q1 := hx6.cell (i := 1) (v := .int .i64 C) rfl; have q2 := hx6.cell (i := 2) (v := .slice none 0 0) rfl; have ql := hx6.lt; have qf := hx6.free
        have r0 := hbr6.cell (i := 0) (v := .int .i64 0) rfl; have r1 := hbr6.cell (i := 1) (v := .int .i64 0) rfl; have r2 := hbr6.cell (i := 2) (v := .slice none 0 0) rfl; have rl := hbr6.lt; have rf := hbr6.free
        have hfin := grr_fin (r := v) (c := C) (by omega) hown6 (by omega) hs6 hn0 hr6
        replace hlk := Lib.hid hlk
        have hF := ((hbr6.set 0 (.int .i64 v)).set 1 (.int .i64 C)).set 2 (.slice p xs.length kc)
        have c0 := hF.cell (i := 0) (v := .int .i64 v) rfl; have c1 := hF.cell (i := 1) (v := .int .i64 C) rfl; have c2 := hF.cell (i := 2) (v := .slice p xs.length kc) rfl
        go_wp2_with fail
        exact bodyPost_ret (v := vGrid v C p xs.length kc) (by simp [results, Tryz.results60, go_sem, c0, c1, c2]) rfl hfin
      · have n0 : (z == 0) = false := by simpa using d0
        have n1 : (z == 1) = false := by simpa using d1
        have n2 : (z == 2) = false := by simpa using d2
        obtain ⟨p, kc, rfl, -, -⟩ := hown5.ownC
        have hfin := grr_fin (r := R) (c := C) (by omega) hown5 (by omega) hs5 hn0 hr5
        replace hlk := Lib.hid hlk
        have hF := ((hbr5.set 0 (.int .i64 R)).set 1 (.int .i64 C)).set 2 (.slice p xs.length kc)
        have c0 := hF.cell (i := 0) (v := .int .i64 R) rfl; have c1 := hF.cell (i := 1) (v := .int .i64 C) rfl; have c2 := hF.cell (i := 2) (v := .slice p xs.length kc) rfl
        go_wp2_with fail
        exact bodyPost_ret (v := vGrid R C p xs.length kc) (by simp [results, Tryz.results60, go_sem, c0, c1, c2]) rfl hfin
theorem grr_far {n0 g : Nat} {w w' : World} {r c : Int} {p : Option Addr} {k : Nat} {xs : List Int} {g0 : Nat} (hg0 : g0 < n0) (hl : xs.length ≤ 100) (hk : xs.length ≤ k) (h : OwnInts (w.heap.size + 1) w' p xs) (hs : Src n0 w' g) (hn0 : n0 ≤ w.heap.size) (hb : But g w w') :
    GrR n0 g w (.returned (vGrid r c p xs.length k)) (((w'.setCell ⟨w.heap.size, 0, none⟩ (.int .i64 r)).setCell ⟨w.heap.size, 1, none⟩ (.int .i64 c)).setCell ⟨w.heap.size, 2, none⟩ (.slice p xs.length k)) :=
  ⟨r, c, p, k, xs, rfl, hl, hk, (((h.setFar (Nat.lt_succ_self _)).setFar (Nat.lt_succ_self _)).setFar (Nat.lt_succ_self _)).mono (Nat.le_succ _), ((hs.set hn0).set hn0).set hn0, ((hb.setOld (Nat.le_refl _)).setOld (Nat.le_refl _)).setOld (Nat.le_refl _)⟩
set_option maxHeartbeats 1600000 in
set_option maxRecDepth 100000 in
theorem l16Draw_c (n0 g : Nat) (w : World) (h : Src n0 w g) (hn0 : n0 ≤ w.heap.size) :
    Calls Tryz.prog 42 #[.pointer (some ⟨g, 0, none⟩)] w fun e w' => GrR n0 g w e w' := by
  have hg : g < n0 := h.1
  have HS := Lib.hid h; clear h
  have hb := Blk.new w #[.int .i64 0, .int .i64 0, .slice none 0 0] 30
  have hr0 : But g w (w.alloc (.cells #[.int .i64 0, .int .i64 0, .slice none 0 0] 30)) := But.of ((Ext.refl w).alloc _)
  go_enter Tryz.func42, Tryz.ntmps42
  go_wp2_with fail
  refine (Next_c n0 g 6 _ (HS.out.ext (by repeat (first | exact Ext.refl _ | assumption | refine Ext.drew ?_ | refine Ext.drewN ?_ _ | refine Ext.iter ?_ _ _ | refine Ext.alloc ?_ _ | refine Ext.setCell ?_ (by first | exact Nat.le_refl _ | (simp <;> omega)) _ | refine Ext.trans2 (by assumption) ?_))) (by omega)).mono ?_
  rintro e w1 ⟨a, rfl, -, -, -, hs1, hb1⟩
  have hz1 := hb1.size
  simp only [World.size_alloc] at hz1
  have hbr1 := hb.but hb1 (by omega)
  have hr1 := hr0.trans hb1
  clear hb hr0 hb1 HS
  by_cases h0 : a = 0
  · subst h0
    have hlg := Lib.hid (l14DrawGrid_c n0 g w1 hs1 (by omega))
    go_wp2_with (go_at_call 60; (with_reducible refine hlg.out.mono ?_); rintro e w2 ⟨r, c, p, k, xs, rfl, hl, hk, oq, hs2, hb2⟩; have hbr2 := hbr1.but hb2 (by omega); have r0 := hbr2.cell (i := 0) (v := .int .i64 0) rfl; have r1 := hbr2.cell (i := 1) (v := .int .i64 0) rfl; have r2 := hbr2.cell (i := 2) (v := .slice none 0 0) rfl; have rl := hbr2.lt; have rf := hbr2.free)
    have hfin := grr_far (r := r) (c := c) hg hl hk (oq.mono hz1) hs2 hn0 (hr1.trans hb2)
    have hF := ((hbr2.set 0 (.int .i64 r)).set 1 (.int .i64 c)).set 2 (.slice p xs.length k)
    have c0 := hF.cell (i := 0) (v := .int .i64 r) rfl; have c1 := hF.cell (i := 1) (v := .int .i64 c) rfl; have c2 := hF.cell (i := 2) (v := .slice p xs.length k) rfl
    exact bodyPost_ret (v := vGrid r c p xs.length k) (by simp [results, Tryz.results42, go_sem, c0, c1, c2]) rfl hfin
  have h0b : (a == 0) = false := by simpa using h0
  go_wp2_with fail
  refine (Next_c n0 g 9 _ hs1 (by omega)).mono ?_
  rintro e w2 ⟨a2, rfl, ha0, ha1, -, hs2, hb2⟩
  replace ha1 := ha1 (by omega)
  have hz2 := hb2.size
  have hbr2 := hbr1.but hb2 (by omega)
  have hr2 := hr1.trans hb2
  obtain ⟨R, hR⟩ : ∃ R : Nat, 1 + a2 = R := ⟨(1 + a2).toNat, by omega⟩
  have e1 : IntKind.i64.wrap (1 + a2) = R := by rw [hR]; exact IntWalk.i64_in _ (by omega)
  have hR1 : 1 ≤ R ∧ R ≤ 9 := by omega
  replace hR := Lib.hid hR
  clear hbr1 hr1 hs1 hb2 ha0 ha1 h0b h0
  go_wp2_with fail
  refine (Next_c n0 g 9 _ hs2 (by omega)).mono ?_
  rintro e w3 ⟨c, rfl, hc0, hc1, -, hs3, hb3⟩
  replace hc1 := hc1 (by omega)
  have hz3 := hb3.size
  have hbr3 := hbr2.but hb3 (by omega)
  have hr3 := hr2.trans hb3
  obtain ⟨C, hC⟩ : ∃ C : Nat, 1 + c = C := ⟨(1 + c).toNat, by omega⟩
  have e2 : IntKind.i64.wrap (1 + c) = C := by rw [hC]; exact IntWalk.i64_in _ (by omega)
  have hC1 : 1 ≤ C ∧ C ≤ 9 := by omega
  clear hbr2 hr2 hb3 hs2 hc0 hc1
  have hx4 := Blk.new w3 #[.int .i64 R, .int .i64 C, .slice none 0 0] 30
  have hbr4 := hbr3.alloc (.cells #[.int .i64 R, .int .i64 C, .slice none 0 0] 30)
  have hr4 := hr3.alloc (.cells #[.int .i64 R, .int .i64 C, .slice none 0 0] 30)
  have hs4 := hs3.alloc (.cells #[.int .i64 R, .int .i64 C, .slice none 0 0] 30)
  have hwx : w.heap.size < w3.heap.size := by omega
  have hxg : w3.heap.size ≠ g := by omega
  have hz4 : w3.heap.size + 1 ≤ (w3.alloc (.cells #[.int .i64 R, .int .i64 C, .slice none 0 0] 30)).heap.size := by simp
  replace hC := Lib.hid hC
  obtain ⟨M, hM⟩ : ∃ M : Nat, R * C = M := ⟨_, rfl⟩
  have hM1 : 1 ≤ M ∧ M ≤ 81 := by
    rw [← hM]
    have e1 : 1 * 1 ≤ R * C := Nat.mul_le_mul (by omega) (by omega)
    have e2 : R * C ≤ 9 * 9 := Nat.mul_le_mul (by omega) (by omega)
    omega
  have e3 : (R : Int) * (C : Int) = (M : Int) := by rw [← hM]; simp
  have e4 := IntWalk.i64_in (M : Int) (by omega)
  replace hM := Lib.hid hM
  have hrow0 := RowI.made (B := w3.heap.size + 1) (w := (w3.alloc (.cells #[.int .i64 R, .int .i64 C, .slice none 0 0] 30))) (by simp)
  simp only [World.size_alloc] at hrow0
  go_wp2_with fail
  generalize w3.alloc (.cells #[.int .i64 R, .int .i64 C, .slice none 0 0] 30) = w4 at *
  clear hs3 hbr3 hr3
  generalize w3.heap.size = x at *
  go_loopw [4, 5] (fun out i wr => ∃ (k : Nat) (xs : List Int), k ≤ M ∧ i = .int .i64 k ∧ xs.length = k ∧ RowI (x + 1) wr out xs ∧ Blk wr w.heap.size #[.int .i64 0, .int .i64 0, .slice none 0 0] 30 ∧ Blk wr x #[.int .i64 R, .int .i64 C, .slice none 0 0] 30 ∧ Src n0 wr g ∧ But g w wr ∧ x + 1 ≤ wr.heap.size) (fun _ i _ => M - (intOf i).toNat)
  case atStart => exact ⟨0, [], Nat.zero_le _, rfl, rfl, hrow0, hbr4.alloc _, hx4.alloc _, hs4.alloc _, hr4.alloc _, by simp; omega⟩
  case round =>
    clear hrow0 hbr4 hx4 hs4 hr4
    obtain ⟨k, xs, hk, rfl, hlk, hown, hbr, hxr, hsr, hbt, hzr⟩ := hrel
    have f0 := hxr.cell (i := 0) (v := .int .i64 R) rfl
    have f1 := hxr.cell (i := 1) (v := .int .i64 C) rfl
    have fl := hxr.lt
    by_cases hlt : k < M
    · have hki : (k : Int) < M := by omega
      rcases Nat.eq_zero_or_pos k with rfl | hk0
      · obtain rfl : xs = [] := by simpa using hlk
        clear hlk
        obtain ⟨p, kc, rfl, -, -⟩ := hown.ownC
        go_wp2_with (first
          | (go_at_call 20; (with_reducible refine (Next_c n0 g 2 _ hsr (by omega)).mono ?_); rintro e wa ⟨y, rfl, hy0, hy1, -, hsa, hba⟩; have hza := hba.size; have howna := hown.but hba (by omega); have hbra := hbr.but hba (by omega); have hxra := hxr.but hba (by omega); have hbta := hbt.trans hba)
          | (at_builtin; go_loud (refine append1IG howna (by simp) (by omega) ?_ rfl rfl); intro v3 w4 hown3 hg3; have hb3 := hg3.below (B := x + 1) (fun k hk => (howna.lt k hk).1) (by omega)))
        go_roundw
        case rel => exact ⟨1, _, hlt, by go_num, rfl, hown3, hbra.low hb3 (by omega), hxra.low hb3 (by omega), hsa.low hb3 (by omega), hbta.below hb3 (by omega), by have := hb3.size; omega⟩
        case measure => simp [intOf]; omega
      · obtain ⟨m, rfl⟩ : ∃ m, k = m + 1 := ⟨k - 1, by omega⟩
        obtain ⟨p, kc, rfl, -, -⟩ := hown.ownC
        have en : (xs.length : Int) - 1 = (m : Int) := by omega
        have hmn : m < xs.length := by omega
        have hpos : 0 < xs.length := by omega
        replace hlk := Lib.hid hlk
        have ekk := IntWalk.i64_in ((m : Int) + 1) (by omega)
        have ekm := IntWalk.i64_in (m : Int) (by omega)
        go_wp2_with (first
          | (go_at_call 20; (with_reducible refine (Next_c n0 g 3 _ hsr (by omega)).mono ?_); rintro e wa ⟨y, rfl, hy0, hy1, -, hsa, hba⟩; have hza := hba.size; have howna := hown.but hba (by omega); have hbra := hbr.but hba (by omega); have hxra := hxr.but hba (by omega); have hbta := hbt.trans hba; obtain ⟨gx, kc', hv, hgx, hgl, z0, z1, -, -⟩ := howna.stored (k := m) (by omega); simp only [Value.slice.injEq, true_and] at hv; obtain ⟨rfl, rfl⟩ := hv; generalize xs.getD m 0 = y0 at *; clear hba; rcases (show y = 0 ∨ 0 < y by omega) with rfl | hyp)
          | (go_at_call 20; (with_reducible refine (Next_c n0 g 2 _ hsa (by omega)).mono ?_); rintro e wb ⟨y, rfl, hy0, hy1, -, hsb, hbb⟩; have hzb := hbb.size; replace howna := howna.but hbb (by omega); replace hbra := hbra.but hbb (by omega); replace hxra := hxra.but hbb (by omega); replace hbta := hbta.trans hbb; replace hsa := hsb; replace hza := Nat.le_trans hza hzb; clear hbb)
          | (at_builtin; go_loud (refine append1IG howna (by have := hlk.out; omega) (by omega) ?_ rfl rfl); intro v3 w4 hown3 hg3; have hb3 := hg3.below (B := x + 1) (fun k hk => (howna.lt k hk).1) (by omega)))
        all_goals
          go_roundw
          case rel => exact ⟨m + 1 + 1, _, hlt, by go_num, by rw [List.length_append, hlk.out]; rfl, hown3, hbra.low hb3 (by omega), hxra.low hb3 (by omega), hsa.low hb3 (by omega), hbta.below hb3 (by omega), by have := hb3.size; omega⟩
          case measure => simp [intOf]; omega
    · obtain rfl : k = M := by omega
      clear hlt hk
      obtain ⟨p, kc, rfl, -, -⟩ := hown.ownC
      have hfin := grr_fin (r := R) (c := C) (by omega) hown (by omega) hsr hn0 hbt
      replace hlk := Lib.hid hlk
      have q0 := f0; have q1 := f1
      have r0 := hbr.cell (i := 0) (v := .int .i64 0) rfl; have r1 := hbr.cell (i := 1) (v := .int .i64 0) rfl; have r2 := hbr.cell (i := 2) (v := .slice none 0 0) rfl; have rl := hbr.lt; have rf := hbr.free
      have hF := ((hbr.set 0 (.int .i64 R)).set 1 (.int .i64 C)).set 2 (.slice p xs.length kc)
      have c0 := hF.cell (i := 0) (v := .int .i64 R) rfl; have c1 := hF.cell (i := 1) (v := .int .i64 C) rfl; have c2 := hF.cell (i := 2) (v := .slice p xs.length kc) rfl
      go_wp2_with fail
      exact bodyPost_ret (v := vGrid R C p xs.length kc) (by simp [results, Tryz.results42, go_sem, c0, c1, c2]) rfl hfin
end Go.Proofs.YthpnkcamjcohgaaGreatDoor

/-! Drawn prints. -/
namespace Go.Proofs.YthpnkcamjcohgaaGreatDoor
set_option linter.unusedVariables false
set_option linter.unusedSimpArgs false
open Go.RowKit

end Go.Proofs.YthpnkcamjcohgaaGreatDoor
