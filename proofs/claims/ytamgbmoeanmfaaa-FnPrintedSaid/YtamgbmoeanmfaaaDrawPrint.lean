
/- Drawn grids. -/
import Derived.Test.YtamgbmoeanmfaaaDrawPart
import Derived.Test.YtamgbmoeanmfaaaBands
import Derived.Test.YtamgbmoeanmfaaaGridLaw
import Derived.Test.YtamgbmoeanmfaaaPrint
import Derived.Deep.DeepCutAuto
import Derived.Deep.CutBlock
/-! Drawn grids. -/
namespace Go.Proofs.Ytamgbmoeanmfaaa
set_option linter.unusedVariables false
set_option linter.unusedSimpArgs false
open Go.RowKit

/-- A grid has been drawn; only the source has turned. -/
def GrR (n0 g : Nat) (w : World) (e : Ending) (w' : World) : Prop := ∃ (r c : Int) (p : Option Addr) (k : Nat) (xs : List Int), e = .returned (vGrid r c p xs.length k) ∧ xs.length ≤ 100 ∧ xs.length ≤ k ∧ OwnInts w.heap.size w' p xs ∧ Src n0 w' g ∧ But g w w'
theorem grr_fin {n0 g B : Nat} {w w' : World} {r c : Int} {p : Option Addr} {k : Nat} {xs : List Int} (hl : xs.length ≤ 100) (h : RowI B w' (.slice p xs.length k) xs) (hB : w.heap.size < B) (hs : Src n0 w' g) (hn0 : n0 ≤ w.heap.size) (hb : But g w w') :
    GrR n0 g w (.returned (vGrid r c p xs.length k)) (((w'.setCell ⟨w.heap.size, 0, none⟩ (.int .i64 r)).setCell ⟨w.heap.size, 1, none⟩ (.int .i64 c)).setCell ⟨w.heap.size, 2, none⟩ (.slice p xs.length k)) := by
  have ho : (Value.slice p xs.length k).ownBlock ≠ some w.heap.size := fun e => by have := (h.lt _ e).1; omega
  have h3 := ((h.setOther (i := 0) (u := .int .i64 r) ho).setOther (i := 1) (u := .int .i64 c) ho).setOther (i := 2) (u := .slice p xs.length k) ho
  obtain ⟨p', k', e, oq, hk⟩ := h3.ownC
  simp at e
  obtain ⟨rfl, rfl⟩ := e
  exact ⟨r, c, p, k, xs, rfl, hl, hk, oq.mono (Nat.le_of_lt hB), ((hs.set hn0).set hn0).set hn0, ((hb.setOld (Nat.le_refl _)).setOld (Nat.le_refl _)).setOld (Nat.le_refl _)⟩
theorem rowsA (j : Nat) (hj : j < 3) : ∃ v : Int, (#[.int .i64 0, .int .i64 (-1), .int .i64 40001] : Array Value)[j]? = some (.int .i64 v) := by
  match j, hj with
  | 0, _ => exact ⟨_, rfl⟩
  | 1, _ => exact ⟨_, rfl⟩
  | 2, _ => exact ⟨_, rfl⟩
set_option maxHeartbeats 1600000 in
set_option maxRecDepth 100000 in
theorem l14DrawGrid_c (n0 g : Nat) (w : World) (h : Src n0 w g) (hn0 : n0 ≤ w.heap.size) :
    Calls Try.prog 83 #[.pointer (some ⟨g, 0, none⟩)] w fun e w' => GrR n0 g w e w' := by
  have hg : g < n0 := h.1
  have HS := Lib.hid h; clear h
  have hb := Blk.new w #[.int .i64 0, .int .i64 0, .slice none 0 0] 26
  have hr0 : But g w (w.alloc (.cells #[.int .i64 0, .int .i64 0, .slice none 0 0] 26)) := But.of ((Ext.refl w).alloc _)
  go_enter Try.func83, Try.ntmps83
  go_wp2_with fail
  refine (Next_c n0 g 6 _ (HS.out.ext (by repeat (first | exact Ext.refl _ | assumption | refine Ext.drew ?_ | refine Ext.drewN ?_ _ | refine Ext.iter ?_ _ _ | refine Ext.alloc ?_ _ | refine Ext.setCell ?_ (by first | exact Nat.le_refl _ | (simp <;> omega)) _ | refine Ext.trans2 (by assumption) ?_))) (by omega)).mono ?_
  rintro e w1 ⟨a, rfl, ha0, ha1, -, hs1, hb1⟩
  replace ha1 := ha1 (by omega)
  have hz1 := hb1.size
  simp only [World.size_alloc] at hz1
  have hbr1 := hb.but hb1 (by omega)
  have hr1 := hr0.trans hb1
  obtain ⟨R, hR⟩ : ∃ R : Nat, 1 + a = R := ⟨(1 + a).toNat, by omega⟩
  have e1 : IntKind.i64.wrap (1 + a) = R := by rw [hR]; exact IntWalk.i64_in _ (by omega)
  have hR1 : 1 ≤ R ∧ R ≤ 6 := by omega
  replace hR := Lib.hid hR
  clear hb hr0 hb1 HS ha0 ha1
  go_wp2_with fail
  refine (Next_c n0 g 6 _ hs1 (by omega)).mono ?_
  rintro e w2 ⟨c, rfl, hc0, hc1, -, hs2, hb2⟩
  replace hc1 := hc1 (by omega)
  have hz2 := hb2.size
  have hbr2 := hbr1.but hb2 (by omega)
  have hr2 := hr1.trans hb2
  obtain ⟨C, hC⟩ : ∃ C : Nat, 1 + c = C := ⟨(1 + c).toNat, by omega⟩
  have e2 : IntKind.i64.wrap (1 + c) = C := by rw [hC]; exact IntWalk.i64_in _ (by omega)
  have hC1 : 1 ≤ C ∧ C ≤ 6 := by omega
  clear hbr1 hr1 hb2 hs1 hc0 hc1
  have hx3 := Blk.new w2 #[.int .i64 R, .int .i64 C, .slice none 0 0] 26
  have hbr3 := hbr2.alloc (.cells #[.int .i64 R, .int .i64 C, .slice none 0 0] 26)
  have hr3 := hr2.alloc (.cells #[.int .i64 R, .int .i64 C, .slice none 0 0] 26)
  have hs3 := hs2.alloc (.cells #[.int .i64 R, .int .i64 C, .slice none 0 0] 26)
  have hwx : w.heap.size < w2.heap.size := by omega
  have hxg : w2.heap.size ≠ g := by omega
  have hz3 : w2.heap.size + 1 ≤ (w2.alloc (.cells #[.int .i64 R, .int .i64 C, .slice none 0 0] 26)).heap.size := by simp
  replace hC := Lib.hid hC
  obtain ⟨M, hM⟩ : ∃ M : Nat, R * C = M := ⟨_, rfl⟩
  have hM1 : 1 ≤ M ∧ M ≤ 36 := by
    rw [← hM]
    have e1 : 1 * 1 ≤ R * C := Nat.mul_le_mul (by omega) (by omega)
    have e2 : R * C ≤ 6 * 6 := Nat.mul_le_mul (by omega) (by omega)
    omega
  have e3 : (R : Int) * (C : Int) = (M : Int) := by rw [← hM]; simp
  have e4 := IntWalk.i64_in (M : Int) (by omega)
  replace hM := Lib.hid hM
  have hrow0 := RowI.made (B := w2.heap.size + 1) (w := (w2.alloc (.cells #[.int .i64 R, .int .i64 C, .slice none 0 0] 26))) (by simp)
  simp only [World.size_alloc] at hrow0
  go_wp2_with fail
  generalize w2.alloc (.cells #[.int .i64 R, .int .i64 C, .slice none 0 0] 26) = w3 at *
  clear hs2 hbr2 hr2
  generalize w2.heap.size = x at *
  go_loopw [4, 5] (fun out i wr => ∃ (k : Nat) (xs : List Int), k ≤ M ∧ i = .int .i64 k ∧ xs.length = k ∧ RowI (x + 1) wr out xs ∧ Blk wr w.heap.size #[.int .i64 0, .int .i64 0, .slice none 0 0] 26 ∧ Blk wr x #[.int .i64 R, .int .i64 C, .slice none 0 0] 26 ∧ Src n0 wr g ∧ But g w wr ∧ x + 1 ≤ wr.heap.size) (fun _ i _ => M - (intOf i).toNat)
  case atStart => exact ⟨0, [], Nat.zero_le _, rfl, rfl, hrow0, hbr3.alloc _, hx3.alloc _, hs3.alloc _, hr3.alloc _, by simp; omega⟩
  case round =>
    clear hrow0 hbr3 hx3 hs3 hr3
    obtain ⟨k, xs, hk, rfl, hlk, hown, hbr, hxr, hsr, hbt, hzr⟩ := hrel
    have f0 := hxr.cell (i := 0) (v := .int .i64 R) rfl
    have f1 := hxr.cell (i := 1) (v := .int .i64 C) rfl
    have fl := hxr.lt
    by_cases hlt : k < M
    · have hki : (k : Int) < M := by omega
      replace hlk := Lib.hid hlk
      go_wp2_with (first
        | (go_at_call 58; (with_reducible refine (Next_c n0 g 3 _ hsr (by omega)).mono ?_); rintro e wa ⟨y, rfl, hy0, hy1, -, hsa, hba⟩; replace hy1 := hy1 (by omega); have ey := IntWalk.i64_in (y - 1) (by omega); have hza := hba.size; have howna := hown.but hba (by omega); have hbra := hbr.but hba (by omega); have hxra := hxr.but hba (by omega); have hbta := hbt.trans hba)
        | (at_builtin; go_loud (refine append1IG howna (by have := hlk.out; omega) (by omega) ?_ rfl rfl); intro v3 w4 hown3 hg3; have hb3 := hg3.below (B := x + 1) (fun k hk => (howna.lt k hk).1) (by omega)))
      go_roundw
      case rel => exact ⟨k + 1, _, hlt, by go_num, by rw [List.length_append, hlk.out]; rfl, hown3, hbra.low hb3 (by omega), hxra.low hb3 (by omega), hsa.low hb3 (by omega), hbta.below hb3 (by omega), by have := hb3.size; omega⟩
      case measure => simp [intOf]; omega
    · obtain rfl : k = M := by omega
      clear hlt hk
      go_wp2_with fail
      refine (Next_c n0 g 20 _ hsr (by omega)).mono ?_
      rintro e w5 ⟨z, rfl, -, -, -, hs5, hb5⟩
      have hz5 := hb5.size
      have hbr5 := hbr.but hb5 (by omega)
      have hx5 := hxr.but hb5 (by omega)
      have hr5 := hbt.trans hb5
      have hown5 := hown.but hb5 (by omega)
      clear hown hbr hxr hsr hbt f0 f1 fl hb5
      have hzz : z = 0 ∨ z = 1 ∨ z = 2 ∨ (z ≠ 0 ∧ z ≠ 1 ∧ z ≠ 2) := by omega
      have q0 := hx5.cell (i := 0) (v := .int .i64 R) rfl; have q1 := hx5.cell (i := 1) (v := .int .i64 C) rfl; have q2 := hx5.cell (i := 2) (v := .slice none 0 0) rfl; have ql := hx5.lt; have qf := hx5.free
      have r0 := hbr5.cell (i := 0) (v := .int .i64 0) rfl; have r1 := hbr5.cell (i := 1) (v := .int .i64 0) rfl; have r2 := hbr5.cell (i := 2) (v := .slice none 0 0) rfl; have rl := hbr5.lt; have rf := hbr5.free
      rcases hzz with rfl | rfl | rfl | ⟨d0, d1, d2⟩
      · replace hlk := Lib.hid hlk
        go_wp2_with (at_builtin; go_loud (refine append1IG hown5 (by have := hlk.out; omega) (by omega) ?_ rfl rfl); intro v3 w6 hown6 hg6; have hb6 := hg6.below (B := x + 1) (fun k hk => (hown5.lt k hk).1) (by omega); have hbr6 := hbr5.low hb6 (by omega); have hx6 := hx5.low hb6 (by omega); have hs6 := hs5.low hb6 (by omega); have hr6 := hr5.below hb6 (by omega); obtain ⟨p, kc, rfl, -, -⟩ := hown6.ownC; have hL := Lib.hid (show (xs ++ [0]).length = xs.length + 1 by simp); have q0 := hx6.cell (i := 0) (v := .int .i64 R) rfl; have q1 := hx6.cell (i := 1) (v := .int .i64 C) rfl; have ql := hx6.lt; have rl := hbr6.lt; have rf := hbr6.free; have r0 := hbr6.cell (i := 0) (v := .int .i64 0) rfl; have r1 := hbr6.cell (i := 1) (v := .int .i64 0) rfl; have r2 := hbr6.cell (i := 2) (v := .slice none 0 0) rfl; generalize xs ++ [0] = ys at *)
        have hfin := grr_fin (r := R) (c := C) (by have := hL.out; have := hlk.out; omega) hown6 (by omega) hs6 hn0 hr6
        have hF := ((hbr6.set 0 (.int .i64 R)).set 1 (.int .i64 C)).set 2 (.slice p ys.length kc)
        have c0 := hF.cell (i := 0) (v := .int .i64 R) rfl; have c1 := hF.cell (i := 1) (v := .int .i64 C) rfl; have c2 := hF.cell (i := 2) (v := .slice p ys.length kc) rfl
        exact bodyPost_ret (v := vGrid R C p ys.length kc) (by simp [results, Try.results83, go_sem, c0, c1, c2]) rfl hfin
      · obtain ⟨gx, kc, rfl, hgx, hgl, z0, z1, -, hset⟩ := hown5.stored (k := 0) (by omega)
        have hs6 := hs5.set (x := gx) (i := 0) (v := .int .i64 2) (by omega)
        have hr6 := hr5.setOld (x := gx) (i := 0) (v := .int .i64 2) (by omega)
        have hbr6 := hbr5.far (g' := gx) (i := 0) (by omega) (.int .i64 2)
        have hx6 := hx5.far (g' := gx) (i := 0) (by omega) (.int .i64 2)
        have hown6 := hset 2
        have hL := Lib.hid (show (xs.set 0 2).length = xs.length by simp)
        have hpos : 0 < (xs.set 0 2).length := by simp; omega
        replace hlk := Lib.hid hlk
        generalize xs.getD 0 0 = y0 at *
        generalize xs.set 0 2 = ys at *
        rw [← hL.out] at hown6
        have hfin := grr_fin (r := R) (c := C) (by have := hL.out; have := hlk.out; omega) hown6 (by omega) hs6 hn0 hr6
        have q0 := hx6.cell (i := 0) (v := .int .i64 R) rfl; have q1 := hx6.cell (i := 1) (v := .int .i64 C) rfl; have ql := hx6.lt; have rl := hbr6.lt; have rf := hbr6.free; have r0 := hbr6.cell (i := 0) (v := .int .i64 0) rfl; have r1 := hbr6.cell (i := 1) (v := .int .i64 0) rfl; have r2 := hbr6.cell (i := 2) (v := .slice none 0 0) rfl
        have hF := ((hbr6.set 0 (.int .i64 R)).set 1 (.int .i64 C)).set 2 (.slice (some ⟨gx, 0, none⟩) ys.length kc)
        have c0 := hF.cell (i := 0) (v := .int .i64 R) rfl; have c1 := hF.cell (i := 1) (v := .int .i64 C) rfl; have c2 := hF.cell (i := 2) (v := .slice (some ⟨gx, 0, none⟩) ys.length kc) rfl
        rw [← hL.out]
        go_wp2_with fail
        exact bodyPost_ret (v := vGrid R C (some ⟨gx, 0, none⟩) ys.length kc) (by simp [results, Try.results83, go_sem, c0, c1, c2]) rfl hfin
      · go_wp2_with fail
        refine (Next_c n0 g 3 _ (hs5.ext (by repeat (first | exact Ext.refl _ | assumption | refine Ext.drew ?_ | refine Ext.drewN ?_ _ | refine Ext.iter ?_ _ _ | refine Ext.alloc ?_ _ | refine Ext.setCell ?_ (by first | exact Nat.le_refl _ | (simp <;> omega)) _ | refine Ext.trans2 (by assumption) ?_))) (by omega)).mono ?_
        rintro e w6 ⟨zz, rfl, hz0, hz3', -, hs6, hb6⟩
        replace hz3' := hz3' (by omega)
        obtain ⟨zn, rfl⟩ : ∃ zn : Nat, zz = zn := ⟨zz.toNat, by omega⟩
        have hzn : (zn : Int) < 3 := hz3'
        obtain ⟨v, hv⟩ := rowsA zn (by omega)
        have hsz := (Blk.new w5 #[.int .i64 0, .int .i64 (-1), .int .i64 40001] 2).but hb6 (by show w5.heap.size ≠ g; omega)
        have sA := hsz.cell hv
        have sB := hsz.lt
        have hz6 := hb6.size
        simp only [World.size_alloc] at hz6
        have hown6 := (hown5.alloc (.cells #[.int .i64 0, .int .i64 (-1), .int .i64 40001] 2)).but hb6 (by omega)
        have hx6 := ((hx5.alloc (.cells #[.int .i64 0, .int .i64 (-1), .int .i64 40001] 2)).but hb6 (by omega)).set 0 (.int .i64 v)
        have hbr6 := ((hbr5.alloc (.cells #[.int .i64 0, .int .i64 (-1), .int .i64 40001] 2)).but hb6 (by omega)).far (g' := x) (i := 0) (by omega) (.int .i64 v)
        have hr6 := ((hr5.alloc (.cells #[.int .i64 0, .int .i64 (-1), .int .i64 40001] 2)).trans hb6).setOld (x := x) (i := 0) (v := .int .i64 v) (by omega)
        replace hs6 := hs6.set (x := x) (i := 0) (v := .int .i64 v) (by omega)
        replace hown6 := hown6.setOther (g := x) (i := 0) (u := .int .i64 v) (fun e => by have := (hown6.lt _ e).1; omega)
        have hxl : x < w6.heap.size := by omega
        have hxf := ((hx5.alloc (.cells #[.int .i64 0, .int .i64 (-1), .int .i64 40001] 2)).but hb6 (by omega)).free
        have hxq := ((hx5.alloc (.cells #[.int .i64 0, .int .i64 (-1), .int .i64 40001] 2)).but hb6 (by omega)).cell (i := 0) (v := .int .i64 R) rfl
        clear hv hsz q0 q1 q2 ql qf r0 r1 r2 rl rf hb6 hz0 hz3'
        obtain ⟨p, kc, rfl, -, -⟩ := hown6.ownC
        have q0 := hx6.cell (i := 0) (v := .int .i64 v) rfl; have q1 := hx6.cell (i := 1) (v := .int .i64 C) rfl; have q2 := hx6.cell (i := 2) (v := .slice none 0 0) rfl; have ql := hx6.lt; have qf := hx6.free
        have r0 := hbr6.cell (i := 0) (v := .int .i64 0) rfl; have r1 := hbr6.cell (i := 1) (v := .int .i64 0) rfl; have r2 := hbr6.cell (i := 2) (v := .slice none 0 0) rfl; have rl := hbr6.lt; have rf := hbr6.free
        have hfin := grr_fin (r := v) (c := C) (by omega) hown6 (by omega) hs6 hn0 hr6
        replace hlk := Lib.hid hlk
        have hF := ((hbr6.set 0 (.int .i64 v)).set 1 (.int .i64 C)).set 2 (.slice p xs.length kc)
        have c0 := hF.cell (i := 0) (v := .int .i64 v) rfl; have c1 := hF.cell (i := 1) (v := .int .i64 C) rfl; have c2 := hF.cell (i := 2) (v := .slice p xs.length kc) rfl
        go_wp2_with fail
        exact bodyPost_ret (v := vGrid v C p xs.length kc) (by simp [results, Try.results83, go_sem, c0, c1, c2]) rfl hfin
      · have n0 : (z == 0) = false := by simpa using d0
        have n1 : (z == 1) = false := by simpa using d1
        have n2 : (z == 2) = false := by simpa using d2
        obtain ⟨p, kc, rfl, -, -⟩ := hown5.ownC
        have hfin := grr_fin (r := R) (c := C) (by omega) hown5 (by omega) hs5 hn0 hr5
        replace hlk := Lib.hid hlk
        have hF := ((hbr5.set 0 (.int .i64 R)).set 1 (.int .i64 C)).set 2 (.slice p xs.length kc)
        have c0 := hF.cell (i := 0) (v := .int .i64 R) rfl; have c1 := hF.cell (i := 1) (v := .int .i64 C) rfl; have c2 := hF.cell (i := 2) (v := .slice p xs.length kc) rfl
        go_wp2_with fail
        exact bodyPost_ret (v := vGrid R C p xs.length kc) (by simp [results, Try.results83, go_sem, c0, c1, c2]) rfl hfin
theorem grr_far {n0 g : Nat} {w w' : World} {r c : Int} {p : Option Addr} {k : Nat} {xs : List Int} {g0 : Nat} (hg0 : g0 < n0) (hl : xs.length ≤ 100) (hk : xs.length ≤ k) (h : OwnInts (w.heap.size + 1) w' p xs) (hs : Src n0 w' g) (hn0 : n0 ≤ w.heap.size) (hb : But g w w') :
    GrR n0 g w (.returned (vGrid r c p xs.length k)) (((w'.setCell ⟨w.heap.size, 0, none⟩ (.int .i64 r)).setCell ⟨w.heap.size, 1, none⟩ (.int .i64 c)).setCell ⟨w.heap.size, 2, none⟩ (.slice p xs.length k)) :=
  ⟨r, c, p, k, xs, rfl, hl, hk, (((h.setFar (Nat.lt_succ_self _)).setFar (Nat.lt_succ_self _)).setFar (Nat.lt_succ_self _)).mono (Nat.le_succ _), ((hs.set hn0).set hn0).set hn0, ((hb.setOld (Nat.le_refl _)).setOld (Nat.le_refl _)).setOld (Nat.le_refl _)⟩
set_option maxHeartbeats 1600000 in
set_option maxRecDepth 100000 in
theorem l16Draw_c (n0 g : Nat) (w : World) (h : Src n0 w g) (hn0 : n0 ≤ w.heap.size) :
    Calls Try.prog 38 #[.pointer (some ⟨g, 0, none⟩)] w fun e w' => GrR n0 g w e w' := by
  have hg : g < n0 := h.1
  have HS := Lib.hid h; clear h
  have hb := Blk.new w #[.int .i64 0, .int .i64 0, .slice none 0 0] 26
  have hr0 : But g w (w.alloc (.cells #[.int .i64 0, .int .i64 0, .slice none 0 0] 26)) := But.of ((Ext.refl w).alloc _)
  go_enter Try.func38, Try.ntmps38
  go_wp2_with fail
  refine (Next_c n0 g 6 _ (HS.out.ext (by repeat (first | exact Ext.refl _ | assumption | refine Ext.drew ?_ | refine Ext.drewN ?_ _ | refine Ext.iter ?_ _ _ | refine Ext.alloc ?_ _ | refine Ext.setCell ?_ (by first | exact Nat.le_refl _ | (simp <;> omega)) _ | refine Ext.trans2 (by assumption) ?_))) (by omega)).mono ?_
  rintro e w1 ⟨a, rfl, -, -, -, hs1, hb1⟩
  have hz1 := hb1.size
  simp only [World.size_alloc] at hz1
  have hbr1 := hb.but hb1 (by omega)
  have hr1 := hr0.trans hb1
  clear hb hr0 hb1 HS
  by_cases h0 : a = 0
  · subst h0
    have hlg := Lib.hid (l14DrawGrid_c n0 g w1 hs1 (by omega))
    go_wp2_with (go_at_call 83; (with_reducible refine hlg.out.mono ?_); rintro e w2 ⟨r, c, p, k, xs, rfl, hl, hk, oq, hs2, hb2⟩; have hbr2 := hbr1.but hb2 (by omega); have r0 := hbr2.cell (i := 0) (v := .int .i64 0) rfl; have r1 := hbr2.cell (i := 1) (v := .int .i64 0) rfl; have r2 := hbr2.cell (i := 2) (v := .slice none 0 0) rfl; have rl := hbr2.lt; have rf := hbr2.free)
    have hfin := grr_far (r := r) (c := c) hg hl hk (oq.mono hz1) hs2 hn0 (hr1.trans hb2)
    have hF := ((hbr2.set 0 (.int .i64 r)).set 1 (.int .i64 c)).set 2 (.slice p xs.length k)
    have c0 := hF.cell (i := 0) (v := .int .i64 r) rfl; have c1 := hF.cell (i := 1) (v := .int .i64 c) rfl; have c2 := hF.cell (i := 2) (v := .slice p xs.length k) rfl
    exact bodyPost_ret (v := vGrid r c p xs.length k) (by simp [results, Try.results38, go_sem, c0, c1, c2]) rfl hfin
  have h0b : (a == 0) = false := by simpa using h0
  go_wp2_with fail
  refine (Next_c n0 g 9 _ hs1 (by omega)).mono ?_
  rintro e w2 ⟨a2, rfl, ha0, ha1, -, hs2, hb2⟩
  replace ha1 := ha1 (by omega)
  have hz2 := hb2.size
  have hbr2 := hbr1.but hb2 (by omega)
  have hr2 := hr1.trans hb2
  obtain ⟨R, hR⟩ : ∃ R : Nat, 1 + a2 = R := ⟨(1 + a2).toNat, by omega⟩
  have e1 : IntKind.i64.wrap (1 + a2) = R := by rw [hR]; exact IntWalk.i64_in _ (by omega)
  have hR1 : 1 ≤ R ∧ R ≤ 9 := by omega
  replace hR := Lib.hid hR
  clear hbr1 hr1 hs1 hb2 ha0 ha1 h0b h0
  go_wp2_with fail
  refine (Next_c n0 g 9 _ hs2 (by omega)).mono ?_
  rintro e w3 ⟨c, rfl, hc0, hc1, -, hs3, hb3⟩
  replace hc1 := hc1 (by omega)
  have hz3 := hb3.size
  have hbr3 := hbr2.but hb3 (by omega)
  have hr3 := hr2.trans hb3
  obtain ⟨C, hC⟩ : ∃ C : Nat, 1 + c = C := ⟨(1 + c).toNat, by omega⟩
  have e2 : IntKind.i64.wrap (1 + c) = C := by rw [hC]; exact IntWalk.i64_in _ (by omega)
  have hC1 : 1 ≤ C ∧ C ≤ 9 := by omega
  clear hbr2 hr2 hb3 hs2 hc0 hc1
  have hx4 := Blk.new w3 #[.int .i64 R, .int .i64 C, .slice none 0 0] 26
  have hbr4 := hbr3.alloc (.cells #[.int .i64 R, .int .i64 C, .slice none 0 0] 26)
  have hr4 := hr3.alloc (.cells #[.int .i64 R, .int .i64 C, .slice none 0 0] 26)
  have hs4 := hs3.alloc (.cells #[.int .i64 R, .int .i64 C, .slice none 0 0] 26)
  have hwx : w.heap.size < w3.heap.size := by omega
  have hxg : w3.heap.size ≠ g := by omega
  have hz4 : w3.heap.size + 1 ≤ (w3.alloc (.cells #[.int .i64 R, .int .i64 C, .slice none 0 0] 26)).heap.size := by simp
  replace hC := Lib.hid hC
  obtain ⟨M, hM⟩ : ∃ M : Nat, R * C = M := ⟨_, rfl⟩
  have hM1 : 1 ≤ M ∧ M ≤ 81 := by
    rw [← hM]
    have e1 : 1 * 1 ≤ R * C := Nat.mul_le_mul (by omega) (by omega)
    have e2 : R * C ≤ 9 * 9 := Nat.mul_le_mul (by omega) (by omega)
    omega
  have e3 : (R : Int) * (C : Int) = (M : Int) := by rw [← hM]; simp
  have e4 := IntWalk.i64_in (M : Int) (by omega)
  replace hM := Lib.hid hM
  have hrow0 := RowI.made (B := w3.heap.size + 1) (w := (w3.alloc (.cells #[.int .i64 R, .int .i64 C, .slice none 0 0] 26))) (by simp)
  simp only [World.size_alloc] at hrow0
  go_wp2_with fail
  generalize w3.alloc (.cells #[.int .i64 R, .int .i64 C, .slice none 0 0] 26) = w4 at *
  clear hs3 hbr3 hr3
  generalize w3.heap.size = x at *
  go_loopw [4, 5] (fun out i wr => ∃ (k : Nat) (xs : List Int), k ≤ M ∧ i = .int .i64 k ∧ xs.length = k ∧ RowI (x + 1) wr out xs ∧ Blk wr w.heap.size #[.int .i64 0, .int .i64 0, .slice none 0 0] 26 ∧ Blk wr x #[.int .i64 R, .int .i64 C, .slice none 0 0] 26 ∧ Src n0 wr g ∧ But g w wr ∧ x + 1 ≤ wr.heap.size) (fun _ i _ => M - (intOf i).toNat)
  case atStart => exact ⟨0, [], Nat.zero_le _, rfl, rfl, hrow0, hbr4.alloc _, hx4.alloc _, hs4.alloc _, hr4.alloc _, by simp; omega⟩
  case round =>
    clear hrow0 hbr4 hx4 hs4 hr4
    obtain ⟨k, xs, hk, rfl, hlk, hown, hbr, hxr, hsr, hbt, hzr⟩ := hrel
    have f0 := hxr.cell (i := 0) (v := .int .i64 R) rfl
    have f1 := hxr.cell (i := 1) (v := .int .i64 C) rfl
    have fl := hxr.lt
    by_cases hlt : k < M
    · have hki : (k : Int) < M := by omega
      rcases Nat.eq_zero_or_pos k with rfl | hk0
      · obtain rfl : xs = [] := by simpa using hlk
        clear hlk
        obtain ⟨p, kc, rfl, -, -⟩ := hown.ownC
        go_wp2_with (first
          | (go_at_call 58; (with_reducible refine (Next_c n0 g 2 _ hsr (by omega)).mono ?_); rintro e wa ⟨y, rfl, hy0, hy1, -, hsa, hba⟩; have hza := hba.size; have howna := hown.but hba (by omega); have hbra := hbr.but hba (by omega); have hxra := hxr.but hba (by omega); have hbta := hbt.trans hba)
          | (at_builtin; go_loud (refine append1IG howna (by simp) (by omega) ?_ rfl rfl); intro v3 w4 hown3 hg3; have hb3 := hg3.below (B := x + 1) (fun k hk => (howna.lt k hk).1) (by omega)))
        go_roundw
        case rel => exact ⟨1, _, hlt, by go_num, rfl, hown3, hbra.low hb3 (by omega), hxra.low hb3 (by omega), hsa.low hb3 (by omega), hbta.below hb3 (by omega), by have := hb3.size; omega⟩
        case measure => simp [intOf]; omega
      · obtain ⟨m, rfl⟩ : ∃ m, k = m + 1 := ⟨k - 1, by omega⟩
        obtain ⟨p, kc, rfl, -, -⟩ := hown.ownC
        have en : (xs.length : Int) - 1 = (m : Int) := by omega
        have hmn : m < xs.length := by omega
        have hpos : 0 < xs.length := by omega
        replace hlk := Lib.hid hlk
        have ekk := IntWalk.i64_in ((m : Int) + 1) (by omega)
        have ekm := IntWalk.i64_in (m : Int) (by omega)
        go_wp2_with (first
          | (go_at_call 58; (with_reducible refine (Next_c n0 g 3 _ hsr (by omega)).mono ?_); rintro e wa ⟨y, rfl, hy0, hy1, -, hsa, hba⟩; have hza := hba.size; have howna := hown.but hba (by omega); have hbra := hbr.but hba (by omega); have hxra := hxr.but hba (by omega); have hbta := hbt.trans hba; obtain ⟨gx, kc', hv, hgx, hgl, z0, z1, -, -⟩ := howna.stored (k := m) (by omega); simp only [Value.slice.injEq, true_and] at hv; obtain ⟨rfl, rfl⟩ := hv; generalize xs.getD m 0 = y0 at *; clear hba; rcases (show y = 0 ∨ 0 < y by omega) with rfl | hyp)
          | (go_at_call 58; (with_reducible refine (Next_c n0 g 2 _ hsa (by omega)).mono ?_); rintro e wb ⟨y, rfl, hy0, hy1, -, hsb, hbb⟩; have hzb := hbb.size; replace howna := howna.but hbb (by omega); replace hbra := hbra.but hbb (by omega); replace hxra := hxra.but hbb (by omega); replace hbta := hbta.trans hbb; replace hsa := hsb; replace hza := Nat.le_trans hza hzb; clear hbb)
          | (at_builtin; go_loud (refine append1IG howna (by have := hlk.out; omega) (by omega) ?_ rfl rfl); intro v3 w4 hown3 hg3; have hb3 := hg3.below (B := x + 1) (fun k hk => (howna.lt k hk).1) (by omega)))
        all_goals
          go_roundw
          case rel => exact ⟨m + 1 + 1, _, hlt, by go_num, by rw [List.length_append, hlk.out]; rfl, hown3, hbra.low hb3 (by omega), hxra.low hb3 (by omega), hsa.low hb3 (by omega), hbta.below hb3 (by omega), by have := hb3.size; omega⟩
          case measure => simp [intOf]; omega
    · obtain rfl : k = M := by omega
      clear hlt hk
      obtain ⟨p, kc, rfl, -, -⟩ := hown.ownC
      have hfin := grr_fin (r := R) (c := C) (by omega) hown (by omega) hsr hn0 hbt
      replace hlk := Lib.hid hlk
      have q0 := f0; have q1 := f1
      have r0 := hbr.cell (i := 0) (v := .int .i64 0) rfl; have r1 := hbr.cell (i := 1) (v := .int .i64 0) rfl; have r2 := hbr.cell (i := 2) (v := .slice none 0 0) rfl; have rl := hbr.lt; have rf := hbr.free
      have hF := ((hbr.set 0 (.int .i64 R)).set 1 (.int .i64 C)).set 2 (.slice p xs.length kc)
      have c0 := hF.cell (i := 0) (v := .int .i64 R) rfl; have c1 := hF.cell (i := 1) (v := .int .i64 C) rfl; have c2 := hF.cell (i := 2) (v := .slice p xs.length kc) rfl
      go_wp2_with fail
      exact bodyPost_ret (v := vGrid R C p xs.length kc) (by simp [results, Try.results38, go_sem, c0, c1, c2]) rfl hfin
end Go.Proofs.Ytamgbmoeanmfaaa

/-! Drawn prints. -/
namespace Go.Proofs.Ytamgbmoeanmfaaa
set_option linter.unusedVariables false
set_option linter.unusedSimpArgs false
open Go.RowKit

/-- A print has been drawn; only the source has turned. -/
def PrR (n0 g : Nat) (w : World) (e : Ending) (w' : World) : Prop := ∃ (p t q b d l : Int), e = .returned (vPrint p t q b d l) ∧ ((-1000 ≤ p ∧ p ≤ 1000) ∧ (-1000 ≤ t ∧ t ≤ 1000) ∧ (-1000 ≤ q ∧ q ≤ 1000) ∧ (-1000 ≤ b ∧ b ≤ 1000) ∧ (-1000 ≤ d ∧ d ≤ 1000) ∧ (-1000 ≤ l ∧ l ≤ 1000)) ∧ Src n0 w' g ∧ But g w w'
theorem prr_fin {n0 g : Nat} {w w' : World} {p t q b d l : Int} (hbd : (-1000 ≤ p ∧ p ≤ 1000) ∧ (-1000 ≤ t ∧ t ≤ 1000) ∧ (-1000 ≤ q ∧ q ≤ 1000) ∧ (-1000 ≤ b ∧ b ≤ 1000) ∧ (-1000 ≤ d ∧ d ≤ 1000) ∧ (-1000 ≤ l ∧ l ≤ 1000)) (hs : Src n0 w' g) (hn0 : n0 ≤ w.heap.size) (hb : But g w w') :
    PrR n0 g w (.returned (vPrint p t q b d l)) ((((((w'.setCell ⟨w.heap.size, 0, none⟩ (.int .i64 p)).setCell ⟨w.heap.size, 1, none⟩ (.int .i64 t)).setCell ⟨w.heap.size, 2, none⟩ (.int .i64 q)).setCell ⟨w.heap.size, 3, none⟩ (.int .i64 b)).setCell ⟨w.heap.size, 4, none⟩ (.int .i64 d)).setCell ⟨w.heap.size, 5, none⟩ (.int .i64 l)) :=
  ⟨p, t, q, b, d, l, rfl, hbd, (((((hs.set hn0).set hn0).set hn0).set hn0).set hn0).set hn0, (((((hb.setOld (Nat.le_refl _)).setOld (Nat.le_refl _)).setOld (Nat.le_refl _)).setOld (Nat.le_refl _)).setOld (Nat.le_refl _)).setOld (Nat.le_refl _)⟩
/-- The print that is under way. -/
def PrAt (n0 g x : Nat) (w wx : World) : Prop := ∃ (p t q b d l : Int), ((-1000 ≤ p ∧ p ≤ 1000) ∧ (-1000 ≤ t ∧ t ≤ 1000) ∧ (-1000 ≤ q ∧ q ≤ 1000) ∧ (-1000 ≤ b ∧ b ≤ 1000) ∧ (-1000 ≤ d ∧ d ≤ 1000) ∧ (-1000 ≤ l ∧ l ≤ 1000)) ∧ Blk wx x #[.int .i64 p, .int .i64 t, .int .i64 q, .int .i64 b, .int .i64 d, .int .i64 l] 28 ∧ Blk wx w.heap.size #[.int .i64 0, .int .i64 0, .int .i64 0, .int .i64 0, .int .i64 0, .int .i64 0] 28 ∧ Src n0 wx g ∧ But g w wx
theorem tripA (a b c : Int) (j : Nat) (hj : j < 3) : ∃ v : Int, (#[.int .i64 a, .int .i64 b, .int .i64 c] : Array Value)[j]? = some (.int .i64 v) ∧ (v = a ∨ v = b ∨ v = c) := by
  match j, hj with
  | 0, _ => exact ⟨_, rfl, .inl rfl⟩
  | 1, _ => exact ⟨_, rfl, .inr (.inl rfl)⟩
  | 2, _ => exact ⟨_, rfl, .inr (.inr rfl)⟩
set_option maxHeartbeats 12800000 in
set_option maxRecDepth 100000 in
theorem l21Draw_c (n0 g : Nat) (w : World) (h : Src n0 w g) (hn0 : n0 ≤ w.heap.size) :
    Calls Try.prog 39 #[.pointer (some ⟨g, 0, none⟩)] w fun e w' => PrR n0 g w e w' := by
  have hg : g < n0 := h.1
  have HS := Lib.hid h; clear h
  have hb := Blk.new w #[.int .i64 0, .int .i64 0, .int .i64 0, .int .i64 0, .int .i64 0, .int .i64 0] 28
  have hr0 : But g w (w.alloc (.cells #[.int .i64 0, .int .i64 0, .int .i64 0, .int .i64 0, .int .i64 0, .int .i64 0] 28)) := But.of ((Ext.refl w).alloc _)
  have hs0 : Src n0 (w.alloc (.cells #[.int .i64 0, .int .i64 0, .int .i64 0, .int .i64 0, .int .i64 0, .int .i64 0] 28)) g := HS.out.alloc _
  have hz0 : w.heap.size + 1 ≤ (w.alloc (.cells #[.int .i64 0, .int .i64 0, .int .i64 0, .int .i64 0, .int .i64 0, .int .i64 0] 28)).heap.size := by simp
  go_enter Try.func39, Try.ntmps39
  go_wp2_with fail
  generalize w.alloc (.cells #[.int .i64 0, .int .i64 0, .int .i64 0, .int .i64 0, .int .i64 0, .int .i64 0] 28) = w0 at *
  have hbr0 := hb; clear hb HS
  refine (Next_c n0 g 4 _ hs0 (by omega)).mono ?_
  rintro e w1 ⟨a, rfl, la, ua, -, hs1, hb1⟩
  replace ua := ua (by omega)
  have hz1 := Nat.le_trans hz0 hb1.size
  have hbr1 := hbr0.but hb1 (by omega)
  have hr1 := hr0.trans hb1
  clear hbr0 hr0 hb1 hs0 hz0
  obtain ⟨P, hP⟩ : ∃ P : Int, 1 + a = P := ⟨_, rfl⟩
  have eP : IntKind.i64.wrap (1 + a) = P := by rw [hP]; exact IntWalk.i64_in _ (by omega)
  have bP : 1 ≤ P ∧ P ≤ 4 := by omega
  replace hP := Lib.hid hP
  clear la ua
  go_wp2_with fail
  refine (Next_c n0 g 4 _ hs1 (by omega)).mono ?_
  rintro e w2 ⟨c, rfl, lc, uc, -, hs2, hb2⟩
  replace uc := uc (by omega)
  have hz2 := Nat.le_trans hz1 hb2.size
  have hbr2 := hbr1.but hb2 (by omega)
  have hr2 := hr1.trans hb2
  clear hbr1 hr1 hb2 hs1 hz1
  obtain ⟨T, hT⟩ : ∃ T : Int, 1 + c = T := ⟨_, rfl⟩
  have eT : IntKind.i64.wrap (1 + c) = T := by rw [hT]; exact IntWalk.i64_in _ (by omega)
  have bT : 1 ≤ T ∧ T ≤ 4 := by omega
  replace hT := Lib.hid hT
  clear lc uc
  go_wp2_with fail
  refine (Next_c n0 g 4 _ hs2 (by omega)).mono ?_
  rintro e w3 ⟨Q, rfl, lQ, uQ, -, hs3, hb3⟩
  replace uQ := uQ (by omega)
  have hz3 := Nat.le_trans hz2 hb3.size
  have hbr3 := hbr2.but hb3 (by omega)
  have hr3 := hr2.trans hb3
  clear hbr2 hr2 hb3 hs2 hz2
  go_wp2_with fail
  refine (Next_c n0 g 60 _ hs3 (by omega)).mono ?_
  rintro e w4 ⟨d, rfl, ld, ud, -, hs4, hb4⟩
  replace ud := ud (by omega)
  have hz4 := Nat.le_trans hz3 hb4.size
  have hbr4 := hbr3.but hb4 (by omega)
  have hr4 := hr3.trans hb4
  clear hbr3 hr3 hb4 hs3 hz3
  go_wp2_with fail
  refine (Next_c n0 g 106 _ hs4 (by omega)).mono ?_
  rintro e w5 ⟨l, rfl, ll, ul, -, hs5, hb5⟩
  replace ul := ul (by omega)
  have hz5 := Nat.le_trans hz4 hb5.size
  have hbr5 := hbr4.but hb5 (by omega)
  have hr5 := hr4.trans hb5
  clear hbr4 hr4 hb5 hs4 hz4
  obtain ⟨L, hL⟩ : ∃ L : Int, 150 + l = L := ⟨_, rfl⟩
  have eL : IntKind.i64.wrap (150 + l) = L := by rw [hL]; exact IntWalk.i64_in _ (by omega)
  have bL : 150 ≤ L ∧ L ≤ 255 := by omega
  replace hL := Lib.hid hL
  clear ll ul
  have hx6 := Blk.new w5 #[.int .i64 P, .int .i64 T, .int .i64 Q, .int .i64 0, .int .i64 d, .int .i64 L] 28
  have hbr6 := hbr5.alloc (.cells #[.int .i64 P, .int .i64 T, .int .i64 Q, .int .i64 0, .int .i64 d, .int .i64 L] 28)
  have hr6 := hr5.alloc (.cells #[.int .i64 P, .int .i64 T, .int .i64 Q, .int .i64 0, .int .i64 d, .int .i64 L] 28)
  have hs6 := hs5.alloc (.cells #[.int .i64 P, .int .i64 T, .int .i64 Q, .int .i64 0, .int .i64 d, .int .i64 L] 28)
  have hwx : w.heap.size < w5.heap.size := by omega
  have hxg : w5.heap.size ≠ g := by omega
  have hgx : g < w5.heap.size := by omega
  have hz6 : w5.heap.size + 1 ≤ (w5.alloc (.cells #[.int .i64 P, .int .i64 T, .int .i64 Q, .int .i64 0, .int .i64 d, .int .i64 L] 28)).heap.size := by simp
  go_wp2_with fail
  clear eP eT eL
  generalize w5.alloc (.cells #[.int .i64 P, .int .i64 T, .int .i64 Q, .int .i64 0, .int .i64 d, .int .i64 L] 28) = w6 at *
  clear hs5 hbr5 hr5
  generalize w5.heap.size = x at *
  have k1 := IntWalk.i64_in (2 * P) (by omega)
  have k2 := IntWalk.i64_in (2 * P - 1) (by omega)
  refine wp_region_canon (fun w' => ∃ b : Int, Blk w' x #[.int .i64 P, .int .i64 T, .int .i64 Q, .int .i64 b, .int .i64 d, .int .i64 L] 28) [(0, true), (1, true), (2, true), (3, true), (4, true), (6, true), (7, true), (5, false), (8, true), (9, true), (10, true), (11, false)] (by kernel_rfl) (by kernel_rfl) (by decide) (by kernel_rfl) ?_ ?_
  · exact ⟨_, hx6⟩
  refine canon_intro fun ops eo => ?_
  have ho0 := canon_at eo 0 rfl
  have ho1 := canon_at eo 1 rfl
  have ho2 := canon_at eo 2 rfl
  have ho3 := canon_at eo 3 rfl
  have ho4 := canon_at eo 4 rfl
  have ho5 := canon_at eo 5 rfl
  have ho6 := canon_at eo 6 rfl
  have ho7 := canon_at eo 7 rfl
  have ho8 := canon_at eo 8 rfl
  have ho9 := canon_at eo 9 rfl
  have ho10 := canon_at eo 10 rfl
  have ho11 := canon_at eo 11 rfl
  clear eo
  all_goals (apply canon_st ho0 rfl; (intro w2 hS; first | (go_simp; first | done | rfl) | rfl | (obtain ⟨b, hS⟩ := hS; have x0 := hS.cell (i := 0) (v := .int .i64 P) rfl; go_simp; first | done | rfl)); simp only [Act.put, List.setIfInBounds_toArray, List.set_cons_zero, List.set_cons_succ])
  all_goals clear ho0
  all_goals (apply canon_st ho1 rfl; (intro w2 hS; first | (go_simp; first | done | rfl) | rfl | (obtain ⟨b, hS⟩ := hS; have x0 := hS.cell (i := 0) (v := .int .i64 P) rfl; go_simp; first | done | rfl)); simp only [Act.put, List.setIfInBounds_toArray, List.set_cons_zero, List.set_cons_succ])
  all_goals clear ho1
  all_goals (apply canon_st ho2 rfl; (intro w2 hS; first | (go_simp; first | done | rfl) | rfl | (obtain ⟨b, hS⟩ := hS; have x0 := hS.cell (i := 0) (v := .int .i64 P) rfl; go_simp; first | done | rfl)); simp only [Act.put, List.setIfInBounds_toArray, List.set_cons_zero, List.set_cons_succ])
  all_goals clear ho2
  all_goals (apply canon_st ho3 rfl; (intro w2 hS; first | (go_simp; first | done | rfl) | rfl | (obtain ⟨b, hS⟩ := hS; have x0 := hS.cell (i := 0) (v := .int .i64 P) rfl; go_simp; first | done | rfl)); simp only [Act.put, List.setIfInBounds_toArray, List.set_cons_zero, List.set_cons_succ])
  all_goals clear ho3
  all_goals (apply canon_st ho4 rfl; (intro w2 hS; first | (go_simp; first | done | rfl) | rfl | (obtain ⟨b, hS⟩ := hS; have x0 := hS.cell (i := 0) (v := .int .i64 P) rfl; go_simp; first | done | rfl)); simp only [Act.put, List.setIfInBounds_toArray, List.set_cons_zero, List.set_cons_succ])
  all_goals clear ho4
  all_goals (apply canon_st ho6 rfl; (intro w2 hS; first | (go_simp; first | done | rfl) | rfl | (obtain ⟨b, hS⟩ := hS; have x0 := hS.cell (i := 0) (v := .int .i64 P) rfl; go_simp; first | done | rfl)); simp only [Act.put, List.setIfInBounds_toArray, List.set_cons_zero, List.set_cons_succ])
  all_goals clear ho6
  all_goals (apply canon_st ho7 rfl; (intro w2 hS; first | (go_simp; first | done | rfl) | rfl | (obtain ⟨b, hS⟩ := hS; have x0 := hS.cell (i := 0) (v := .int .i64 P) rfl; go_simp; first | done | rfl)); simp only [Act.put, List.setIfInBounds_toArray, List.set_cons_zero, List.set_cons_succ])
  all_goals clear ho7
  all_goals first | (refine canon_ef ho5 rfl (fun K hK => ?_); go_simp; ((go_at_call 58; (with_reducible refine (Next_c n0 g (2 * P - 1) _ (hs6.ext (by repeat (first | exact Ext.refl _ | assumption | refine Ext.drew ?_ | refine Ext.drewN ?_ _ | refine Ext.iter ?_ _ _ | refine Ext.alloc ?_ _ | refine Ext.setCell ?_ (by first | exact Nat.le_refl _ | (simp <;> omega)) _ | refine Ext.trans2 (by assumption) ?_))) (by omega)).mono ?_); rintro e w7 ⟨y, rfl, ly, uy, vy, hs7, hb7⟩; have hx7 : Blk w7 x #[.int .i64 P, .int .i64 T, .int .i64 Q, .int .i64 0, .int .i64 d, .int .i64 L] 28 := Blk.but (Blk.ext hx6 (by repeat (first | exact Ext.refl _ | assumption | refine Ext.drew ?_ | refine Ext.drewN ?_ _ | refine Ext.iter ?_ _ _ | refine Ext.alloc ?_ _ | refine Ext.setCell ?_ (by first | exact Nat.le_refl _ | (simp <;> omega)) _ | refine Ext.trans2 (by assumption) ?_))) hb7 hxg; have hbr7 : Blk w7 w.heap.size #[.int .i64 0, .int .i64 0, .int .i64 0, .int .i64 0, .int .i64 0, .int .i64 0] 28 := Blk.but (Blk.ext hbr6 (by repeat (first | exact Ext.refl _ | assumption | refine Ext.drew ?_ | refine Ext.drewN ?_ _ | refine Ext.iter ?_ _ _ | refine Ext.alloc ?_ _ | refine Ext.setCell ?_ (by first | exact Nat.le_refl _ | (simp <;> omega)) _ | refine Ext.trans2 (by assumption) ?_))) hb7 (by omega); have hr7 : But g w w7 := But.trans (But.trans hr6 (But.of (by repeat (first | exact Ext.refl _ | assumption | refine Ext.drew ?_ | refine Ext.drewN ?_ _ | refine Ext.iter ?_ _ _ | refine Ext.alloc ?_ _ | refine Ext.setCell ?_ (by first | exact Nat.le_refl _ | (simp <;> omega)) _ | refine Ext.trans2 (by assumption) ?_)))) hb7; have hz7 := hb7.size; (try simp only [World.size_drew] at hz7); clear hb7; have k3 := IntWalk.i64_in (y - P) (by omega); have k4 := IntWalk.i64_in (y - P + 1) (by omega))); all_goals (refine hK _ _ ⟨(by first | exact ⟨_, by assumption⟩ | exact ⟨_, (by assumption : Blk _ x #[.int .i64 P, .int .i64 T, .int .i64 Q, .int .i64 0, .int .i64 d, .int .i64 L] 28).set 3 _⟩), ?_⟩; clear hK K; go_simp)) | (refine canon_ef ho5 rfl (fun K hK => ?_); go_simp; ((have x3 := hx7.cell (i := 3) (v := .int .i64 0) rfl; have x3l := hx7.lt; have x3f := hx7.free; go_simp)); all_goals (refine hK _ _ ⟨(by first | exact ⟨_, by assumption⟩ | exact ⟨_, (by assumption : Blk _ x #[.int .i64 P, .int .i64 T, .int .i64 Q, .int .i64 0, .int .i64 d, .int .i64 L] 28).set 3 _⟩), ?_⟩; clear hK K; go_simp))
  all_goals clear ho5
  all_goals (apply canon_st ho8 rfl; (intro w2 hS; first | (go_simp; first | done | rfl) | rfl | (obtain ⟨b, hS⟩ := hS; have x0 := hS.cell (i := 0) (v := .int .i64 P) rfl; go_simp; first | done | rfl)); simp only [Act.put, List.setIfInBounds_toArray, List.set_cons_zero, List.set_cons_succ])
  all_goals clear ho8
  all_goals (apply canon_st ho9 rfl; (intro w2 hS; first | (go_simp; first | done | rfl) | rfl | (obtain ⟨b, hS⟩ := hS; have x0 := hS.cell (i := 0) (v := .int .i64 P) rfl; go_simp; first | done | rfl)); simp only [Act.put, List.setIfInBounds_toArray, List.set_cons_zero, List.set_cons_succ])
  all_goals clear ho9
  all_goals (apply canon_st ho10 rfl; (intro w2 hS; first | (go_simp; first | done | rfl) | rfl | (obtain ⟨b, hS⟩ := hS; have x0 := hS.cell (i := 0) (v := .int .i64 P) rfl; go_simp; first | done | rfl)); simp only [Act.put, List.setIfInBounds_toArray, List.set_cons_zero, List.set_cons_succ])
  all_goals clear ho10
  all_goals first | (refine canon_ef ho11 rfl (fun K hK => ?_); go_simp; ((go_at_call 58; (with_reducible refine (Next_c n0 g (2 * P - 1) _ (hs6.ext (by repeat (first | exact Ext.refl _ | assumption | refine Ext.drew ?_ | refine Ext.drewN ?_ _ | refine Ext.iter ?_ _ _ | refine Ext.alloc ?_ _ | refine Ext.setCell ?_ (by first | exact Nat.le_refl _ | (simp <;> omega)) _ | refine Ext.trans2 (by assumption) ?_))) (by omega)).mono ?_); rintro e w7 ⟨y, rfl, ly, uy, vy, hs7, hb7⟩; have hx7 : Blk w7 x #[.int .i64 P, .int .i64 T, .int .i64 Q, .int .i64 0, .int .i64 d, .int .i64 L] 28 := Blk.but (Blk.ext hx6 (by repeat (first | exact Ext.refl _ | assumption | refine Ext.drew ?_ | refine Ext.drewN ?_ _ | refine Ext.iter ?_ _ _ | refine Ext.alloc ?_ _ | refine Ext.setCell ?_ (by first | exact Nat.le_refl _ | (simp <;> omega)) _ | refine Ext.trans2 (by assumption) ?_))) hb7 hxg; have hbr7 : Blk w7 w.heap.size #[.int .i64 0, .int .i64 0, .int .i64 0, .int .i64 0, .int .i64 0, .int .i64 0] 28 := Blk.but (Blk.ext hbr6 (by repeat (first | exact Ext.refl _ | assumption | refine Ext.drew ?_ | refine Ext.drewN ?_ _ | refine Ext.iter ?_ _ _ | refine Ext.alloc ?_ _ | refine Ext.setCell ?_ (by first | exact Nat.le_refl _ | (simp <;> omega)) _ | refine Ext.trans2 (by assumption) ?_))) hb7 (by omega); have hr7 : But g w w7 := But.trans (But.trans hr6 (But.of (by repeat (first | exact Ext.refl _ | assumption | refine Ext.drew ?_ | refine Ext.drewN ?_ _ | refine Ext.iter ?_ _ _ | refine Ext.alloc ?_ _ | refine Ext.setCell ?_ (by first | exact Nat.le_refl _ | (simp <;> omega)) _ | refine Ext.trans2 (by assumption) ?_)))) hb7; have hz7 := hb7.size; (try simp only [World.size_drew] at hz7); clear hb7; have k3 := IntWalk.i64_in (y - P) (by omega); have k4 := IntWalk.i64_in (y - P + 1) (by omega))); all_goals (refine hK _ _ ⟨(by first | exact ⟨_, by assumption⟩ | exact ⟨_, (by assumption : Blk _ x #[.int .i64 P, .int .i64 T, .int .i64 Q, .int .i64 0, .int .i64 d, .int .i64 L] 28).set 3 _⟩), ?_⟩; clear hK K; go_simp)) | (refine canon_ef ho11 rfl (fun K hK => ?_); go_simp; ((have x3 := hx7.cell (i := 3) (v := .int .i64 0) rfl; have x3l := hx7.lt; have x3f := hx7.free; go_simp)); all_goals (refine hK _ _ ⟨(by first | exact ⟨_, by assumption⟩ | exact ⟨_, (by assumption : Blk _ x #[.int .i64 P, .int .i64 T, .int .i64 Q, .int .i64 0, .int .i64 d, .int .i64 L] 28).set 3 _⟩), ?_⟩; clear hK K; go_simp))
  all_goals clear ho11
  all_goals refine canon_done (NoPanic.normal ?_)
  have hx8 := hx7.set 3 (.int .i64 (y - P + 1))
  have hbr8 := hbr7.far (g' := x) (i := 3) (by omega) (.int .i64 (y - P + 1))
  have hr8 := hr7.setOld (x := x) (i := 3) (v := .int .i64 (y - P + 1)) (by omega)
  have hs8 := hs7.set (x := x) (i := 3) (v := .int .i64 (y - P + 1)) (by omega)
  have hz8 : x < (w7.setCell ⟨x, 3, none⟩ (.int .i64 (y - P + 1))).heap.size := hx8.lt
  obtain ⟨b, hB⟩ : ∃ b : Int, y - P + 1 = b := ⟨_, rfl⟩
  have bb : -4 ≤ b ∧ b ≤ 4 := by
    rcases (show 2 * P - 1 ≤ 1 ∨ 1 < 2 * P - 1 by omega) with h | h
    · have := vy h; omega
    · have := uy h; omega
  rw [hB] at hx8 hbr8 hr8 hs8 hz8 ⊢
  clear hx6 hbr6 hr6 hs6 hx7 hbr7 hr7 hs7 k1 k2 k3 k4 x3 x3l x3f hz7 hB ly uy vy hz6
  generalize w7.setCell ⟨x, 3, none⟩ (.int .i64 b) = w8 at *
  replace hx8 : Blk w8 x #[.int .i64 P, .int .i64 T, .int .i64 Q, .int .i64 b, .int .i64 d, .int .i64 L] 28 := hx8
  go_upto_block 0 with (go_at_call 58; (with_reducible refine (Next_c n0 g 30 _ hs8 (by omega)).mono ?_); rintro e w9 ⟨z, rfl, -, -, -, hs9, hb9⟩)
  have hz9 : x < w9.heap.size := Nat.lt_of_lt_of_le hz8 hb9.size
  have hbr9 := hbr8.but hb9 (by omega)
  have hx9 := hx8.but hb9 hxg
  have hr9 := hr8.trans hb9
  clear hbr8 hx8 hr8 hb9 hs8 hz8
  go_cut [] (fun wx => PrAt n0 g x w wx)
  case rest =>
    obtain ⟨p1, t1, q1, b1, d1, l1, hbd, hx9, hbr9, hs9, hr9⟩ := hcut
    have k0 := hx9.cell (i := 0) (v := .int .i64 p1) rfl; have k1 := hx9.cell (i := 1) (v := .int .i64 t1) rfl; have k2 := hx9.cell (i := 2) (v := .int .i64 q1) rfl; have k3 := hx9.cell (i := 3) (v := .int .i64 b1) rfl; have k4 := hx9.cell (i := 4) (v := .int .i64 d1) rfl; have k5 := hx9.cell (i := 5) (v := .int .i64 l1) rfl; have kl := hx9.lt; have kf := hx9.free
    have r0 := hbr9.cell (i := 0) (v := .int .i64 0) rfl; have r1 := hbr9.cell (i := 1) (v := .int .i64 0) rfl; have r2 := hbr9.cell (i := 2) (v := .int .i64 0) rfl; have r3 := hbr9.cell (i := 3) (v := .int .i64 0) rfl; have r4 := hbr9.cell (i := 4) (v := .int .i64 0) rfl; have r5 := hbr9.cell (i := 5) (v := .int .i64 0) rfl; have rl := hbr9.lt; have rf := hbr9.free
    have hfin := prr_fin (p := p1) (t := t1) (q := q1) (b := b1) (d := d1) (l := l1) (by omega) hs9 hn0 hr9
    have hF := (((((hbr9.set 0 (.int .i64 p1)).set 1 (.int .i64 t1)).set 2 (.int .i64 q1)).set 3 (.int .i64 b1)).set 4 (.int .i64 d1)).set 5 (.int .i64 l1)
    have c0 := hF.cell (i := 0) (v := .int .i64 p1) rfl; have c1 := hF.cell (i := 1) (v := .int .i64 t1) rfl; have c2 := hF.cell (i := 2) (v := .int .i64 q1) rfl; have c3 := hF.cell (i := 3) (v := .int .i64 b1) rfl; have c4 := hF.cell (i := 4) (v := .int .i64 d1) rfl; have c5 := hF.cell (i := 5) (v := .int .i64 l1) rfl
    go_wp2_with fail
    refine bodyPost_ret (v := vPrint p1 t1 q1 b1 d1 l1) ?_ rfl hfin
    simp [results, Try.results39, go_sem, c0, c1, c2, c3, c4, c5]
  case first =>
  have hz : z = 0 ∨ z = 1 ∨ z = 2 ∨ z = 3 ∨ (z ≠ 0 ∧ z ≠ 1 ∧ z ≠ 2 ∧ z ≠ 3) := by omega
  have q0 := hx9.cell (i := 0) (v := .int .i64 P) rfl; have q1 := hx9.cell (i := 1) (v := .int .i64 T) rfl; have q2 := hx9.cell (i := 2) (v := .int .i64 Q) rfl; have q3 := hx9.cell (i := 3) (v := .int .i64 b) rfl; have q4 := hx9.cell (i := 4) (v := .int .i64 d) rfl; have q5 := hx9.cell (i := 5) (v := .int .i64 L) rfl; have ql := hx9.lt; have qf := hx9.free
  rcases hz with rfl | rfl | rfl | rfl | ⟨d0, d1, d2, d3⟩
  · go_wp2_with fail
    refine (Next_c n0 g 3 _ (hs9.ext (by repeat (first | exact Ext.refl _ | assumption | refine Ext.drew ?_ | refine Ext.drewN ?_ _ | refine Ext.iter ?_ _ _ | refine Ext.alloc ?_ _ | refine Ext.setCell ?_ (by first | exact Nat.le_refl _ | (simp <;> omega)) _ | refine Ext.trans2 (by assumption) ?_))) (by omega)).mono ?_
    rintro e w10 ⟨zz, rfl, hz0, hz3, -, hs10, hb10⟩
    replace hz3 := hz3 (by omega)
    obtain ⟨zn, rfl⟩ : ∃ zn : Nat, zz = zn := ⟨zz.toNat, by omega⟩
    have hzn : (zn : Int) < 3 := hz3
    obtain ⟨v, hv, hvb⟩ := tripA 0 12 13 zn (by omega)
    have sA := (Blk.but (Blk.new w9 #[.int .i64 0, .int .i64 12, .int .i64 13] 2) hb10 (by show w9.heap.size ≠ g; omega)).cell hv; have sB := (Blk.but (Blk.new w9 #[.int .i64 0, .int .i64 12, .int .i64 13] 2) hb10 (by show w9.heap.size ≠ g; omega)).lt
    have hx10 : Blk w10 x #[.int .i64 P, .int .i64 T, .int .i64 Q, .int .i64 b, .int .i64 d, .int .i64 L] 28 := Blk.but (Blk.ext hx9 (by repeat (first | exact Ext.refl _ | assumption | refine Ext.drew ?_ | refine Ext.drewN ?_ _ | refine Ext.iter ?_ _ _ | refine Ext.alloc ?_ _ | refine Ext.setCell ?_ (by first | exact Nat.le_refl _ | (simp <;> omega)) _ | refine Ext.trans2 (by assumption) ?_))) hb10 hxg
    have hbr10 : Blk w10 w.heap.size #[.int .i64 0, .int .i64 0, .int .i64 0, .int .i64 0, .int .i64 0, .int .i64 0] 28 := Blk.but (Blk.ext hbr9 (by repeat (first | exact Ext.refl _ | assumption | refine Ext.drew ?_ | refine Ext.drewN ?_ _ | refine Ext.iter ?_ _ _ | refine Ext.alloc ?_ _ | refine Ext.setCell ?_ (by first | exact Nat.le_refl _ | (simp <;> omega)) _ | refine Ext.trans2 (by assumption) ?_))) hb10 (by omega)
    have hr10 : But g w w10 := But.trans (But.trans hr9 (But.of (by repeat (first | exact Ext.refl _ | assumption | refine Ext.drew ?_ | refine Ext.drewN ?_ _ | refine Ext.iter ?_ _ _ | refine Ext.alloc ?_ _ | refine Ext.setCell ?_ (by first | exact Nat.le_refl _ | (simp <;> omega)) _ | refine Ext.trans2 (by assumption) ?_)))) hb10
    clear q0 q1 q2 q3 q4 q5 ql qf hv
    have q0 := hx10.cell (i := 0) (v := .int .i64 P) rfl; have q1 := hx10.cell (i := 1) (v := .int .i64 T) rfl; have q2 := hx10.cell (i := 2) (v := .int .i64 Q) rfl; have q3 := hx10.cell (i := 3) (v := .int .i64 b) rfl; have q4 := hx10.cell (i := 4) (v := .int .i64 d) rfl; have q5 := hx10.cell (i := 5) (v := .int .i64 L) rfl; have ql := hx10.lt; have qf := hx10.free
    have hx11 := hx10.set 0 (.int .i64 v)
    have hbr11 := hbr10.far (g' := x) (i := 0) (by omega) (.int .i64 v)
    have hs11 := hs10.set (x := x) (i := 0) (v := .int .i64 v) (by omega)
    have hr11 := hr10.setOld (x := x) (i := 0) (v := .int .i64 v) (by omega)
    go_wp2_with fail
    go_meet
    exact ⟨v, T, Q, b, d, L, (by omega), hx11, hbr11, hs11, hr11⟩
  · have kn : IntKind.i64.wrap (-P) = -P := IntWalk.i64_in _ (by omega)
    go_wp2_with fail
    refine wp_region_c3 (fun w' => True) (.st 0 (.st 2 (.st 6 (.three 1 (.two 3 (.st 4 (.two 5 (.one 7 (.st 8 (.one 9 (.st 10 (.one 11 .done))))) 7 (.one 5 (.st 8 (.one 9 (.st 10 (.one 11 .done))))))) 7 (.one 3 (.st 4 (.one 5 (.st 8 (.one 9 (.st 10 (.one 11 .done)))))))) 3 (.st 4 (.two 1 (.two 5 (.one 7 (.st 8 (.one 9 (.st 10 (.one 11 .done))))) 7 (.one 5 (.st 8 (.one 9 (.st 10 (.one 11 .done)))))) 7 (.one 1 (.one 5 (.st 8 (.one 9 (.st 10 (.one 11 .done)))))))) 7 (.two 1 (.one 3 (.st 4 (.one 5 (.st 8 (.one 9 (.st 10 (.one 11 .done))))))) 3 (.st 4 (.one 1 (.one 5 (.st 8 (.one 9 (.st 10 (.one 11 .done)))))))))))) (by kernel_rfl) (by kernel_rfl) (by decide) (by kernel_rfl) ?_ ?_
    · exact trivial
    refine c3_intro fun ops eo => ?_
    have ho0 := canon_at eo 0 rfl
    have ho1 := canon_at eo 1 rfl
    have ho2 := canon_at eo 2 rfl
    have ho3 := canon_at eo 3 rfl
    have ho4 := canon_at eo 4 rfl
    have ho5 := canon_at eo 5 rfl
    have ho6 := canon_at eo 6 rfl
    have ho7 := canon_at eo 7 rfl
    have ho8 := canon_at eo 8 rfl
    have ho9 := canon_at eo 9 rfl
    have ho10 := canon_at eo 10 rfl
    have ho11 := canon_at eo 11 rfl
    clear eo
    all_goals (apply c3_st ho0 rfl; (intro w2 hS; first | (go_simp; first | done | rfl) | rfl | (skip; go_simp; first | done | rfl)); simp only [Act.put, List.setIfInBounds_toArray, List.set_cons_zero, List.set_cons_succ])
    all_goals clear ho0
    all_goals (apply c3_st ho2 rfl; (intro w2 hS; first | (go_simp; first | done | rfl) | rfl | (skip; go_simp; first | done | rfl)); simp only [Act.put, List.setIfInBounds_toArray, List.set_cons_zero, List.set_cons_succ])
    all_goals clear ho2
    all_goals (apply c3_st ho6 rfl; (intro w2 hS; first | (go_simp; first | done | rfl) | rfl | (skip; go_simp; first | done | rfl)); simp only [Act.put, List.setIfInBounds_toArray, List.set_cons_zero, List.set_cons_succ])
    all_goals clear ho6
    all_goals
      refine c3_three ?_ ?_ ?_
      rotate_right 1
      focus
        all_goals first | (refine c3_op ho7 rfl (fun K hK => ?_); go_simp; ((go_at_call 58; (with_reducible refine (Next_c n0 g 2 _ (hs9.ext (by repeat (first | exact Ext.refl _ | assumption | refine Ext.drew ?_ | refine Ext.drewN ?_ _ | refine Ext.iter ?_ _ _ | refine Ext.alloc ?_ _ | refine Ext.setCell ?_ (by first | exact Nat.le_refl _ | (simp <;> omega)) _ | refine Ext.trans2 (by assumption) ?_))) (by omega)).mono ?_); rintro e w10 ⟨zz, rfl, hz0, hz3, -, hs10, hb10⟩; replace hz3 := hz3 (by omega); obtain ⟨zn, rfl⟩ : ∃ zn : Nat, zz = zn := ⟨zz.toNat, by omega⟩; have hzn : (zn : Int) < 2 := hz3; obtain ⟨v, hv, hvb⟩ := pairA P (-P) zn (by omega); have hx10 : Blk w10 x #[.int .i64 P, .int .i64 T, .int .i64 Q, .int .i64 b, .int .i64 d, .int .i64 L] 28 := Blk.but (Blk.ext hx9 (by repeat (first | exact Ext.refl _ | assumption | refine Ext.drew ?_ | refine Ext.drewN ?_ _ | refine Ext.iter ?_ _ _ | refine Ext.alloc ?_ _ | refine Ext.setCell ?_ (by first | exact Nat.le_refl _ | (simp <;> omega)) _ | refine Ext.trans2 (by assumption) ?_))) hb10 hxg; have hbr10 : Blk w10 w.heap.size #[.int .i64 0, .int .i64 0, .int .i64 0, .int .i64 0, .int .i64 0, .int .i64 0] 28 := Blk.but (Blk.ext hbr9 (by repeat (first | exact Ext.refl _ | assumption | refine Ext.drew ?_ | refine Ext.drewN ?_ _ | refine Ext.iter ?_ _ _ | refine Ext.alloc ?_ _ | refine Ext.setCell ?_ (by first | exact Nat.le_refl _ | (simp <;> omega)) _ | refine Ext.trans2 (by assumption) ?_))) hb10 (by omega); have hr10 : But g w w10 := But.trans (But.trans hr9 (But.of (by repeat (first | exact Ext.refl _ | assumption | refine Ext.drew ?_ | refine Ext.drewN ?_ _ | refine Ext.iter ?_ _ _ | refine Ext.alloc ?_ _ | refine Ext.setCell ?_ (by first | exact Nat.le_refl _ | (simp <;> omega)) _ | refine Ext.trans2 (by assumption) ?_)))) hb10; clear q0 q1 q2 q3 q4 q5 ql qf; have q0 := hx10.cell (i := 0) (v := .int .i64 P) rfl; have q1 := hx10.cell (i := 1) (v := .int .i64 T) rfl; have q2 := hx10.cell (i := 2) (v := .int .i64 Q) rfl; have q3 := hx10.cell (i := 3) (v := .int .i64 b) rfl; have q4 := hx10.cell (i := 4) (v := .int .i64 d) rfl; have q5 := hx10.cell (i := 5) (v := .int .i64 L) rfl; have ql := hx10.lt; have qf := hx10.free; have hv10 := hb10.size; simp only [World.size_alloc, World.size_drew] at hv10; have sC := (Blk.new w10 #[.int .i64 P, .int .i64 (-P)] 2).cell hv; try (have sA := (Blk.but (Blk.drew (Blk.new w9 #[.int .i64 P, .int .i64 (-P)] 2)) hb10 (by show w9.heap.size ≠ g; omega)).cell hv; have sB := (Blk.but (Blk.drew (Blk.new w9 #[.int .i64 P, .int .i64 (-P)] 2)) hb10 (by show w9.heap.size ≠ g; omega)).lt))); all_goals ((with_reducible refine hK _ _ ?_); refine ⟨trivial, ?_⟩; clear hK K; go_simp))
        all_goals clear ho7
        all_goals
          refine c3_two ?_ ?_
          rotate_right 1
          focus
            all_goals first | (refine c3_op ho3 rfl (fun K hK => ?_); go_simp; (skip); all_goals ((with_reducible refine hK _ _ ?_); refine ⟨trivial, ?_⟩; clear hK K; go_simp))
            all_goals clear ho3
            all_goals (apply c3_st ho4 rfl; (intro w2 hS; first | (go_simp; first | done | rfl) | rfl | (skip; go_simp; first | done | rfl)); simp only [Act.put, List.setIfInBounds_toArray, List.set_cons_zero, List.set_cons_succ])
            all_goals clear ho4
            all_goals refine c3_one ?_
            all_goals first | (refine c3_op ho1 rfl (fun K hK => ?_); go_simp; (skip); all_goals ((with_reducible refine hK _ _ ?_); refine ⟨trivial, ?_⟩; clear hK K; go_simp))
            all_goals clear ho1
            all_goals refine c3_one ?_
            all_goals first | (refine c3_op ho5 rfl (fun K hK => ?_); go_simp; (skip); all_goals ((with_reducible refine hK _ _ ?_); refine ⟨trivial, ?_⟩; clear hK K; go_simp))
            all_goals clear ho5
            all_goals (apply c3_st ho8 rfl; (intro w2 hS; first | (go_simp; first | done | rfl) | rfl | (skip; go_simp; first | done | rfl)); simp only [Act.put, List.setIfInBounds_toArray, List.set_cons_zero, List.set_cons_succ])
            all_goals clear ho8
            all_goals refine c3_one ?_
            all_goals first | (refine c3_op ho9 rfl (fun K hK => ?_); go_simp; (skip); all_goals ((with_reducible refine hK _ _ ?_); refine ⟨trivial, ?_⟩; clear hK K; go_simp))
            all_goals clear ho9
            all_goals (apply c3_st ho10 rfl; (intro w2 hS; first | (go_simp; first | done | rfl) | rfl | (skip; go_simp; first | done | rfl)); simp only [Act.put, List.setIfInBounds_toArray, List.set_cons_zero, List.set_cons_succ])
            all_goals clear ho10
            all_goals refine c3_one ?_
            all_goals first | (refine c3_op ho11 rfl (fun K hK => ?_); go_simp; (skip); all_goals ((with_reducible refine hK _ _ ?_); refine ⟨trivial, ?_⟩; clear hK K; go_simp))
            all_goals clear ho11
            all_goals refine c3_done (NoPanic.normal ?_)
          rotate_right 1
          focus
            all_goals first | (refine c3_op ho1 rfl (fun K hK => ?_); go_simp; (skip); all_goals ((with_reducible refine hK _ _ ?_); refine ⟨trivial, ?_⟩; clear hK K; go_simp))
            all_goals clear ho1
            all_goals refine c3_one ?_
            all_goals first | (refine c3_op ho3 rfl (fun K hK => ?_); go_simp; (skip); all_goals ((with_reducible refine hK _ _ ?_); refine ⟨trivial, ?_⟩; clear hK K; go_simp))
            all_goals clear ho3
            all_goals (apply c3_st ho4 rfl; (intro w2 hS; first | (go_simp; first | done | rfl) | rfl | (skip; go_simp; first | done | rfl)); simp only [Act.put, List.setIfInBounds_toArray, List.set_cons_zero, List.set_cons_succ])
            all_goals clear ho4
            all_goals refine c3_one ?_
            all_goals first | (refine c3_op ho5 rfl (fun K hK => ?_); go_simp; (skip); all_goals ((with_reducible refine hK _ _ ?_); refine ⟨trivial, ?_⟩; clear hK K; go_simp))
            all_goals clear ho5
            all_goals (apply c3_st ho8 rfl; (intro w2 hS; first | (go_simp; first | done | rfl) | rfl | (skip; go_simp; first | done | rfl)); simp only [Act.put, List.setIfInBounds_toArray, List.set_cons_zero, List.set_cons_succ])
            all_goals clear ho8
            all_goals refine c3_one ?_
            all_goals first | (refine c3_op ho9 rfl (fun K hK => ?_); go_simp; (skip); all_goals ((with_reducible refine hK _ _ ?_); refine ⟨trivial, ?_⟩; clear hK K; go_simp))
            all_goals clear ho9
            all_goals (apply c3_st ho10 rfl; (intro w2 hS; first | (go_simp; first | done | rfl) | rfl | (skip; go_simp; first | done | rfl)); simp only [Act.put, List.setIfInBounds_toArray, List.set_cons_zero, List.set_cons_succ])
            all_goals clear ho10
            all_goals refine c3_one ?_
            all_goals first | (refine c3_op ho11 rfl (fun K hK => ?_); go_simp; (skip); all_goals ((with_reducible refine hK _ _ ?_); refine ⟨trivial, ?_⟩; clear hK K; go_simp))
            all_goals clear ho11
            all_goals refine c3_done (NoPanic.normal ?_)
      rotate_right 1
      focus
        all_goals first | (refine c3_op ho3 rfl (fun K hK => ?_); go_simp; (skip); all_goals ((with_reducible refine hK _ _ ?_); refine ⟨trivial, ?_⟩; clear hK K; go_simp))
        all_goals clear ho3
        all_goals (apply c3_st ho4 rfl; (intro w2 hS; first | (go_simp; first | done | rfl) | rfl | (skip; go_simp; first | done | rfl)); simp only [Act.put, List.setIfInBounds_toArray, List.set_cons_zero, List.set_cons_succ])
        all_goals clear ho4
        all_goals
          refine c3_two ?_ ?_
          rotate_right 1
          focus
            all_goals first | (refine c3_op ho7 rfl (fun K hK => ?_); go_simp; ((go_at_call 58; (with_reducible refine (Next_c n0 g 2 _ (hs9.ext (by repeat (first | exact Ext.refl _ | assumption | refine Ext.drew ?_ | refine Ext.drewN ?_ _ | refine Ext.iter ?_ _ _ | refine Ext.alloc ?_ _ | refine Ext.setCell ?_ (by first | exact Nat.le_refl _ | (simp <;> omega)) _ | refine Ext.trans2 (by assumption) ?_))) (by omega)).mono ?_); rintro e w10 ⟨zz, rfl, hz0, hz3, -, hs10, hb10⟩; replace hz3 := hz3 (by omega); obtain ⟨zn, rfl⟩ : ∃ zn : Nat, zz = zn := ⟨zz.toNat, by omega⟩; have hzn : (zn : Int) < 2 := hz3; obtain ⟨v, hv, hvb⟩ := pairA P (-P) zn (by omega); have hx10 : Blk w10 x #[.int .i64 P, .int .i64 T, .int .i64 Q, .int .i64 b, .int .i64 d, .int .i64 L] 28 := Blk.but (Blk.ext hx9 (by repeat (first | exact Ext.refl _ | assumption | refine Ext.drew ?_ | refine Ext.drewN ?_ _ | refine Ext.iter ?_ _ _ | refine Ext.alloc ?_ _ | refine Ext.setCell ?_ (by first | exact Nat.le_refl _ | (simp <;> omega)) _ | refine Ext.trans2 (by assumption) ?_))) hb10 hxg; have hbr10 : Blk w10 w.heap.size #[.int .i64 0, .int .i64 0, .int .i64 0, .int .i64 0, .int .i64 0, .int .i64 0] 28 := Blk.but (Blk.ext hbr9 (by repeat (first | exact Ext.refl _ | assumption | refine Ext.drew ?_ | refine Ext.drewN ?_ _ | refine Ext.iter ?_ _ _ | refine Ext.alloc ?_ _ | refine Ext.setCell ?_ (by first | exact Nat.le_refl _ | (simp <;> omega)) _ | refine Ext.trans2 (by assumption) ?_))) hb10 (by omega); have hr10 : But g w w10 := But.trans (But.trans hr9 (But.of (by repeat (first | exact Ext.refl _ | assumption | refine Ext.drew ?_ | refine Ext.drewN ?_ _ | refine Ext.iter ?_ _ _ | refine Ext.alloc ?_ _ | refine Ext.setCell ?_ (by first | exact Nat.le_refl _ | (simp <;> omega)) _ | refine Ext.trans2 (by assumption) ?_)))) hb10; clear q0 q1 q2 q3 q4 q5 ql qf; have q0 := hx10.cell (i := 0) (v := .int .i64 P) rfl; have q1 := hx10.cell (i := 1) (v := .int .i64 T) rfl; have q2 := hx10.cell (i := 2) (v := .int .i64 Q) rfl; have q3 := hx10.cell (i := 3) (v := .int .i64 b) rfl; have q4 := hx10.cell (i := 4) (v := .int .i64 d) rfl; have q5 := hx10.cell (i := 5) (v := .int .i64 L) rfl; have ql := hx10.lt; have qf := hx10.free; have hv10 := hb10.size; simp only [World.size_alloc, World.size_drew] at hv10; have sC := (Blk.new w10 #[.int .i64 P, .int .i64 (-P)] 2).cell hv; try (have sA := (Blk.but (Blk.drew (Blk.new w9 #[.int .i64 P, .int .i64 (-P)] 2)) hb10 (by show w9.heap.size ≠ g; omega)).cell hv; have sB := (Blk.but (Blk.drew (Blk.new w9 #[.int .i64 P, .int .i64 (-P)] 2)) hb10 (by show w9.heap.size ≠ g; omega)).lt))); all_goals ((with_reducible refine hK _ _ ?_); refine ⟨trivial, ?_⟩; clear hK K; go_simp))
            all_goals clear ho7
            all_goals refine c3_one ?_
            all_goals first | (refine c3_op ho1 rfl (fun K hK => ?_); go_simp; (skip); all_goals ((with_reducible refine hK _ _ ?_); refine ⟨trivial, ?_⟩; clear hK K; go_simp))
            all_goals clear ho1
            all_goals refine c3_one ?_
            all_goals first | (refine c3_op ho5 rfl (fun K hK => ?_); go_simp; (skip); all_goals ((with_reducible refine hK _ _ ?_); refine ⟨trivial, ?_⟩; clear hK K; go_simp))
            all_goals clear ho5
            all_goals (apply c3_st ho8 rfl; (intro w2 hS; first | (go_simp; first | done | rfl) | rfl | (skip; go_simp; first | done | rfl)); simp only [Act.put, List.setIfInBounds_toArray, List.set_cons_zero, List.set_cons_succ])
            all_goals clear ho8
            all_goals refine c3_one ?_
            all_goals first | (refine c3_op ho9 rfl (fun K hK => ?_); go_simp; (skip); all_goals ((with_reducible refine hK _ _ ?_); refine ⟨trivial, ?_⟩; clear hK K; go_simp))
            all_goals clear ho9
            all_goals (apply c3_st ho10 rfl; (intro w2 hS; first | (go_simp; first | done | rfl) | rfl | (skip; go_simp; first | done | rfl)); simp only [Act.put, List.setIfInBounds_toArray, List.set_cons_zero, List.set_cons_succ])
            all_goals clear ho10
            all_goals refine c3_one ?_
            all_goals first | (refine c3_op ho11 rfl (fun K hK => ?_); go_simp; (skip); all_goals ((with_reducible refine hK _ _ ?_); refine ⟨trivial, ?_⟩; clear hK K; go_simp))
            all_goals clear ho11
            all_goals refine c3_done (NoPanic.normal ?_)
          rotate_right 1
          focus
            all_goals first | (refine c3_op ho1 rfl (fun K hK => ?_); go_simp; (skip); all_goals ((with_reducible refine hK _ _ ?_); refine ⟨trivial, ?_⟩; clear hK K; go_simp))
            all_goals clear ho1
            all_goals
              refine c3_two ?_ ?_
              rotate_right 1
              focus
                all_goals first | (refine c3_op ho7 rfl (fun K hK => ?_); go_simp; ((go_at_call 58; (with_reducible refine (Next_c n0 g 2 _ (hs9.ext (by repeat (first | exact Ext.refl _ | assumption | refine Ext.drew ?_ | refine Ext.drewN ?_ _ | refine Ext.iter ?_ _ _ | refine Ext.alloc ?_ _ | refine Ext.setCell ?_ (by first | exact Nat.le_refl _ | (simp <;> omega)) _ | refine Ext.trans2 (by assumption) ?_))) (by omega)).mono ?_); rintro e w10 ⟨zz, rfl, hz0, hz3, -, hs10, hb10⟩; replace hz3 := hz3 (by omega); obtain ⟨zn, rfl⟩ : ∃ zn : Nat, zz = zn := ⟨zz.toNat, by omega⟩; have hzn : (zn : Int) < 2 := hz3; obtain ⟨v, hv, hvb⟩ := pairA P (-P) zn (by omega); have hx10 : Blk w10 x #[.int .i64 P, .int .i64 T, .int .i64 Q, .int .i64 b, .int .i64 d, .int .i64 L] 28 := Blk.but (Blk.ext hx9 (by repeat (first | exact Ext.refl _ | assumption | refine Ext.drew ?_ | refine Ext.drewN ?_ _ | refine Ext.iter ?_ _ _ | refine Ext.alloc ?_ _ | refine Ext.setCell ?_ (by first | exact Nat.le_refl _ | (simp <;> omega)) _ | refine Ext.trans2 (by assumption) ?_))) hb10 hxg; have hbr10 : Blk w10 w.heap.size #[.int .i64 0, .int .i64 0, .int .i64 0, .int .i64 0, .int .i64 0, .int .i64 0] 28 := Blk.but (Blk.ext hbr9 (by repeat (first | exact Ext.refl _ | assumption | refine Ext.drew ?_ | refine Ext.drewN ?_ _ | refine Ext.iter ?_ _ _ | refine Ext.alloc ?_ _ | refine Ext.setCell ?_ (by first | exact Nat.le_refl _ | (simp <;> omega)) _ | refine Ext.trans2 (by assumption) ?_))) hb10 (by omega); have hr10 : But g w w10 := But.trans (But.trans hr9 (But.of (by repeat (first | exact Ext.refl _ | assumption | refine Ext.drew ?_ | refine Ext.drewN ?_ _ | refine Ext.iter ?_ _ _ | refine Ext.alloc ?_ _ | refine Ext.setCell ?_ (by first | exact Nat.le_refl _ | (simp <;> omega)) _ | refine Ext.trans2 (by assumption) ?_)))) hb10; clear q0 q1 q2 q3 q4 q5 ql qf; have q0 := hx10.cell (i := 0) (v := .int .i64 P) rfl; have q1 := hx10.cell (i := 1) (v := .int .i64 T) rfl; have q2 := hx10.cell (i := 2) (v := .int .i64 Q) rfl; have q3 := hx10.cell (i := 3) (v := .int .i64 b) rfl; have q4 := hx10.cell (i := 4) (v := .int .i64 d) rfl; have q5 := hx10.cell (i := 5) (v := .int .i64 L) rfl; have ql := hx10.lt; have qf := hx10.free; have hv10 := hb10.size; simp only [World.size_alloc, World.size_drew] at hv10; have sC := (Blk.new w10 #[.int .i64 P, .int .i64 (-P)] 2).cell hv; try (have sA := (Blk.but (Blk.drew (Blk.new w9 #[.int .i64 P, .int .i64 (-P)] 2)) hb10 (by show w9.heap.size ≠ g; omega)).cell hv; have sB := (Blk.but (Blk.drew (Blk.new w9 #[.int .i64 P, .int .i64 (-P)] 2)) hb10 (by show w9.heap.size ≠ g; omega)).lt))); all_goals ((with_reducible refine hK _ _ ?_); refine ⟨trivial, ?_⟩; clear hK K; go_simp))
                all_goals clear ho7
                all_goals refine c3_one ?_
                all_goals first | (refine c3_op ho5 rfl (fun K hK => ?_); go_simp; (skip); all_goals ((with_reducible refine hK _ _ ?_); refine ⟨trivial, ?_⟩; clear hK K; go_simp))
                all_goals clear ho5
                all_goals (apply c3_st ho8 rfl; (intro w2 hS; first | (go_simp; first | done | rfl) | rfl | (skip; go_simp; first | done | rfl)); simp only [Act.put, List.setIfInBounds_toArray, List.set_cons_zero, List.set_cons_succ])
                all_goals clear ho8
                all_goals refine c3_one ?_
                all_goals first | (refine c3_op ho9 rfl (fun K hK => ?_); go_simp; (skip); all_goals ((with_reducible refine hK _ _ ?_); refine ⟨trivial, ?_⟩; clear hK K; go_simp))
                all_goals clear ho9
                all_goals (apply c3_st ho10 rfl; (intro w2 hS; first | (go_simp; first | done | rfl) | rfl | (skip; go_simp; first | done | rfl)); simp only [Act.put, List.setIfInBounds_toArray, List.set_cons_zero, List.set_cons_succ])
                all_goals clear ho10
                all_goals refine c3_one ?_
                all_goals first | (refine c3_op ho11 rfl (fun K hK => ?_); go_simp; (skip); all_goals ((with_reducible refine hK _ _ ?_); refine ⟨trivial, ?_⟩; clear hK K; go_simp))
                all_goals clear ho11
                all_goals refine c3_done (NoPanic.normal ?_)
              rotate_right 1
              focus
                all_goals first | (refine c3_op ho5 rfl (fun K hK => ?_); go_simp; (skip); all_goals ((with_reducible refine hK _ _ ?_); refine ⟨trivial, ?_⟩; clear hK K; go_simp))
                all_goals clear ho5
                all_goals refine c3_one ?_
                all_goals first | (refine c3_op ho7 rfl (fun K hK => ?_); go_simp; ((go_at_call 58; (with_reducible refine (Next_c n0 g 2 _ (hs9.ext (by repeat (first | exact Ext.refl _ | assumption | refine Ext.drew ?_ | refine Ext.drewN ?_ _ | refine Ext.iter ?_ _ _ | refine Ext.alloc ?_ _ | refine Ext.setCell ?_ (by first | exact Nat.le_refl _ | (simp <;> omega)) _ | refine Ext.trans2 (by assumption) ?_))) (by omega)).mono ?_); rintro e w10 ⟨zz, rfl, hz0, hz3, -, hs10, hb10⟩; replace hz3 := hz3 (by omega); obtain ⟨zn, rfl⟩ : ∃ zn : Nat, zz = zn := ⟨zz.toNat, by omega⟩; have hzn : (zn : Int) < 2 := hz3; obtain ⟨v, hv, hvb⟩ := pairA P (-P) zn (by omega); have hx10 : Blk w10 x #[.int .i64 P, .int .i64 T, .int .i64 Q, .int .i64 b, .int .i64 d, .int .i64 L] 28 := Blk.but (Blk.ext hx9 (by repeat (first | exact Ext.refl _ | assumption | refine Ext.drew ?_ | refine Ext.drewN ?_ _ | refine Ext.iter ?_ _ _ | refine Ext.alloc ?_ _ | refine Ext.setCell ?_ (by first | exact Nat.le_refl _ | (simp <;> omega)) _ | refine Ext.trans2 (by assumption) ?_))) hb10 hxg; have hbr10 : Blk w10 w.heap.size #[.int .i64 0, .int .i64 0, .int .i64 0, .int .i64 0, .int .i64 0, .int .i64 0] 28 := Blk.but (Blk.ext hbr9 (by repeat (first | exact Ext.refl _ | assumption | refine Ext.drew ?_ | refine Ext.drewN ?_ _ | refine Ext.iter ?_ _ _ | refine Ext.alloc ?_ _ | refine Ext.setCell ?_ (by first | exact Nat.le_refl _ | (simp <;> omega)) _ | refine Ext.trans2 (by assumption) ?_))) hb10 (by omega); have hr10 : But g w w10 := But.trans (But.trans hr9 (But.of (by repeat (first | exact Ext.refl _ | assumption | refine Ext.drew ?_ | refine Ext.drewN ?_ _ | refine Ext.iter ?_ _ _ | refine Ext.alloc ?_ _ | refine Ext.setCell ?_ (by first | exact Nat.le_refl _ | (simp <;> omega)) _ | refine Ext.trans2 (by assumption) ?_)))) hb10; clear q0 q1 q2 q3 q4 q5 ql qf; have q0 := hx10.cell (i := 0) (v := .int .i64 P) rfl; have q1 := hx10.cell (i := 1) (v := .int .i64 T) rfl; have q2 := hx10.cell (i := 2) (v := .int .i64 Q) rfl; have q3 := hx10.cell (i := 3) (v := .int .i64 b) rfl; have q4 := hx10.cell (i := 4) (v := .int .i64 d) rfl; have q5 := hx10.cell (i := 5) (v := .int .i64 L) rfl; have ql := hx10.lt; have qf := hx10.free; have hv10 := hb10.size; simp only [World.size_alloc, World.size_drew] at hv10; have sC := (Blk.new w10 #[.int .i64 P, .int .i64 (-P)] 2).cell hv; try (have sA := (Blk.but (Blk.drew (Blk.new w9 #[.int .i64 P, .int .i64 (-P)] 2)) hb10 (by show w9.heap.size ≠ g; omega)).cell hv; have sB := (Blk.but (Blk.drew (Blk.new w9 #[.int .i64 P, .int .i64 (-P)] 2)) hb10 (by show w9.heap.size ≠ g; omega)).lt))); all_goals ((with_reducible refine hK _ _ ?_); refine ⟨trivial, ?_⟩; clear hK K; go_simp))
                all_goals clear ho7
                all_goals (apply c3_st ho8 rfl; (intro w2 hS; first | (go_simp; first | done | rfl) | rfl | (skip; go_simp; first | done | rfl)); simp only [Act.put, List.setIfInBounds_toArray, List.set_cons_zero, List.set_cons_succ])
                all_goals clear ho8
                all_goals refine c3_one ?_
                all_goals first | (refine c3_op ho9 rfl (fun K hK => ?_); go_simp; (skip); all_goals ((with_reducible refine hK _ _ ?_); refine ⟨trivial, ?_⟩; clear hK K; go_simp))
                all_goals clear ho9
                all_goals (apply c3_st ho10 rfl; (intro w2 hS; first | (go_simp; first | done | rfl) | rfl | (skip; go_simp; first | done | rfl)); simp only [Act.put, List.setIfInBounds_toArray, List.set_cons_zero, List.set_cons_succ])
                all_goals clear ho10
                all_goals refine c3_one ?_
                all_goals first | (refine c3_op ho11 rfl (fun K hK => ?_); go_simp; (skip); all_goals ((with_reducible refine hK _ _ ?_); refine ⟨trivial, ?_⟩; clear hK K; go_simp))
                all_goals clear ho11
                all_goals refine c3_done (NoPanic.normal ?_)
      rotate_right 1
      focus
        all_goals first | (refine c3_op ho1 rfl (fun K hK => ?_); go_simp; (skip); all_goals ((with_reducible refine hK _ _ ?_); refine ⟨trivial, ?_⟩; clear hK K; go_simp))
        all_goals clear ho1
        all_goals
          refine c3_two ?_ ?_
          rotate_right 1
          focus
            all_goals first | (refine c3_op ho7 rfl (fun K hK => ?_); go_simp; ((go_at_call 58; (with_reducible refine (Next_c n0 g 2 _ (hs9.ext (by repeat (first | exact Ext.refl _ | assumption | refine Ext.drew ?_ | refine Ext.drewN ?_ _ | refine Ext.iter ?_ _ _ | refine Ext.alloc ?_ _ | refine Ext.setCell ?_ (by first | exact Nat.le_refl _ | (simp <;> omega)) _ | refine Ext.trans2 (by assumption) ?_))) (by omega)).mono ?_); rintro e w10 ⟨zz, rfl, hz0, hz3, -, hs10, hb10⟩; replace hz3 := hz3 (by omega); obtain ⟨zn, rfl⟩ : ∃ zn : Nat, zz = zn := ⟨zz.toNat, by omega⟩; have hzn : (zn : Int) < 2 := hz3; obtain ⟨v, hv, hvb⟩ := pairA P (-P) zn (by omega); have hx10 : Blk w10 x #[.int .i64 P, .int .i64 T, .int .i64 Q, .int .i64 b, .int .i64 d, .int .i64 L] 28 := Blk.but (Blk.ext hx9 (by repeat (first | exact Ext.refl _ | assumption | refine Ext.drew ?_ | refine Ext.drewN ?_ _ | refine Ext.iter ?_ _ _ | refine Ext.alloc ?_ _ | refine Ext.setCell ?_ (by first | exact Nat.le_refl _ | (simp <;> omega)) _ | refine Ext.trans2 (by assumption) ?_))) hb10 hxg; have hbr10 : Blk w10 w.heap.size #[.int .i64 0, .int .i64 0, .int .i64 0, .int .i64 0, .int .i64 0, .int .i64 0] 28 := Blk.but (Blk.ext hbr9 (by repeat (first | exact Ext.refl _ | assumption | refine Ext.drew ?_ | refine Ext.drewN ?_ _ | refine Ext.iter ?_ _ _ | refine Ext.alloc ?_ _ | refine Ext.setCell ?_ (by first | exact Nat.le_refl _ | (simp <;> omega)) _ | refine Ext.trans2 (by assumption) ?_))) hb10 (by omega); have hr10 : But g w w10 := But.trans (But.trans hr9 (But.of (by repeat (first | exact Ext.refl _ | assumption | refine Ext.drew ?_ | refine Ext.drewN ?_ _ | refine Ext.iter ?_ _ _ | refine Ext.alloc ?_ _ | refine Ext.setCell ?_ (by first | exact Nat.le_refl _ | (simp <;> omega)) _ | refine Ext.trans2 (by assumption) ?_)))) hb10; clear q0 q1 q2 q3 q4 q5 ql qf; have q0 := hx10.cell (i := 0) (v := .int .i64 P) rfl; have q1 := hx10.cell (i := 1) (v := .int .i64 T) rfl; have q2 := hx10.cell (i := 2) (v := .int .i64 Q) rfl; have q3 := hx10.cell (i := 3) (v := .int .i64 b) rfl; have q4 := hx10.cell (i := 4) (v := .int .i64 d) rfl; have q5 := hx10.cell (i := 5) (v := .int .i64 L) rfl; have ql := hx10.lt; have qf := hx10.free; have hv10 := hb10.size; simp only [World.size_alloc, World.size_drew] at hv10; have sC := (Blk.new w10 #[.int .i64 P, .int .i64 (-P)] 2).cell hv; try (have sA := (Blk.but (Blk.drew (Blk.new w9 #[.int .i64 P, .int .i64 (-P)] 2)) hb10 (by show w9.heap.size ≠ g; omega)).cell hv; have sB := (Blk.but (Blk.drew (Blk.new w9 #[.int .i64 P, .int .i64 (-P)] 2)) hb10 (by show w9.heap.size ≠ g; omega)).lt))); all_goals ((with_reducible refine hK _ _ ?_); refine ⟨trivial, ?_⟩; clear hK K; go_simp))
            all_goals clear ho7
            all_goals refine c3_one ?_
            all_goals first | (refine c3_op ho3 rfl (fun K hK => ?_); go_simp; (skip); all_goals ((with_reducible refine hK _ _ ?_); refine ⟨trivial, ?_⟩; clear hK K; go_simp))
            all_goals clear ho3
            all_goals (apply c3_st ho4 rfl; (intro w2 hS; first | (go_simp; first | done | rfl) | rfl | (skip; go_simp; first | done | rfl)); simp only [Act.put, List.setIfInBounds_toArray, List.set_cons_zero, List.set_cons_succ])
            all_goals clear ho4
            all_goals refine c3_one ?_
            all_goals first | (refine c3_op ho5 rfl (fun K hK => ?_); go_simp; (skip); all_goals ((with_reducible refine hK _ _ ?_); refine ⟨trivial, ?_⟩; clear hK K; go_simp))
            all_goals clear ho5
            all_goals (apply c3_st ho8 rfl; (intro w2 hS; first | (go_simp; first | done | rfl) | rfl | (skip; go_simp; first | done | rfl)); simp only [Act.put, List.setIfInBounds_toArray, List.set_cons_zero, List.set_cons_succ])
            all_goals clear ho8
            all_goals refine c3_one ?_
            all_goals first | (refine c3_op ho9 rfl (fun K hK => ?_); go_simp; (skip); all_goals ((with_reducible refine hK _ _ ?_); refine ⟨trivial, ?_⟩; clear hK K; go_simp))
            all_goals clear ho9
            all_goals (apply c3_st ho10 rfl; (intro w2 hS; first | (go_simp; first | done | rfl) | rfl | (skip; go_simp; first | done | rfl)); simp only [Act.put, List.setIfInBounds_toArray, List.set_cons_zero, List.set_cons_succ])
            all_goals clear ho10
            all_goals refine c3_one ?_
            all_goals first | (refine c3_op ho11 rfl (fun K hK => ?_); go_simp; (skip); all_goals ((with_reducible refine hK _ _ ?_); refine ⟨trivial, ?_⟩; clear hK K; go_simp))
            all_goals clear ho11
            all_goals refine c3_done (NoPanic.normal ?_)
          rotate_right 1
          focus
            all_goals first | (refine c3_op ho3 rfl (fun K hK => ?_); go_simp; (skip); all_goals ((with_reducible refine hK _ _ ?_); refine ⟨trivial, ?_⟩; clear hK K; go_simp))
            all_goals clear ho3
            all_goals (apply c3_st ho4 rfl; (intro w2 hS; first | (go_simp; first | done | rfl) | rfl | (skip; go_simp; first | done | rfl)); simp only [Act.put, List.setIfInBounds_toArray, List.set_cons_zero, List.set_cons_succ])
            all_goals clear ho4
            all_goals
              refine c3_two ?_ ?_
              rotate_right 1
              focus
                all_goals first | (refine c3_op ho7 rfl (fun K hK => ?_); go_simp; ((go_at_call 58; (with_reducible refine (Next_c n0 g 2 _ (hs9.ext (by repeat (first | exact Ext.refl _ | assumption | refine Ext.drew ?_ | refine Ext.drewN ?_ _ | refine Ext.iter ?_ _ _ | refine Ext.alloc ?_ _ | refine Ext.setCell ?_ (by first | exact Nat.le_refl _ | (simp <;> omega)) _ | refine Ext.trans2 (by assumption) ?_))) (by omega)).mono ?_); rintro e w10 ⟨zz, rfl, hz0, hz3, -, hs10, hb10⟩; replace hz3 := hz3 (by omega); obtain ⟨zn, rfl⟩ : ∃ zn : Nat, zz = zn := ⟨zz.toNat, by omega⟩; have hzn : (zn : Int) < 2 := hz3; obtain ⟨v, hv, hvb⟩ := pairA P (-P) zn (by omega); have hx10 : Blk w10 x #[.int .i64 P, .int .i64 T, .int .i64 Q, .int .i64 b, .int .i64 d, .int .i64 L] 28 := Blk.but (Blk.ext hx9 (by repeat (first | exact Ext.refl _ | assumption | refine Ext.drew ?_ | refine Ext.drewN ?_ _ | refine Ext.iter ?_ _ _ | refine Ext.alloc ?_ _ | refine Ext.setCell ?_ (by first | exact Nat.le_refl _ | (simp <;> omega)) _ | refine Ext.trans2 (by assumption) ?_))) hb10 hxg; have hbr10 : Blk w10 w.heap.size #[.int .i64 0, .int .i64 0, .int .i64 0, .int .i64 0, .int .i64 0, .int .i64 0] 28 := Blk.but (Blk.ext hbr9 (by repeat (first | exact Ext.refl _ | assumption | refine Ext.drew ?_ | refine Ext.drewN ?_ _ | refine Ext.iter ?_ _ _ | refine Ext.alloc ?_ _ | refine Ext.setCell ?_ (by first | exact Nat.le_refl _ | (simp <;> omega)) _ | refine Ext.trans2 (by assumption) ?_))) hb10 (by omega); have hr10 : But g w w10 := But.trans (But.trans hr9 (But.of (by repeat (first | exact Ext.refl _ | assumption | refine Ext.drew ?_ | refine Ext.drewN ?_ _ | refine Ext.iter ?_ _ _ | refine Ext.alloc ?_ _ | refine Ext.setCell ?_ (by first | exact Nat.le_refl _ | (simp <;> omega)) _ | refine Ext.trans2 (by assumption) ?_)))) hb10; clear q0 q1 q2 q3 q4 q5 ql qf; have q0 := hx10.cell (i := 0) (v := .int .i64 P) rfl; have q1 := hx10.cell (i := 1) (v := .int .i64 T) rfl; have q2 := hx10.cell (i := 2) (v := .int .i64 Q) rfl; have q3 := hx10.cell (i := 3) (v := .int .i64 b) rfl; have q4 := hx10.cell (i := 4) (v := .int .i64 d) rfl; have q5 := hx10.cell (i := 5) (v := .int .i64 L) rfl; have ql := hx10.lt; have qf := hx10.free; have hv10 := hb10.size; simp only [World.size_alloc, World.size_drew] at hv10; have sC := (Blk.new w10 #[.int .i64 P, .int .i64 (-P)] 2).cell hv; try (have sA := (Blk.but (Blk.drew (Blk.new w9 #[.int .i64 P, .int .i64 (-P)] 2)) hb10 (by show w9.heap.size ≠ g; omega)).cell hv; have sB := (Blk.but (Blk.drew (Blk.new w9 #[.int .i64 P, .int .i64 (-P)] 2)) hb10 (by show w9.heap.size ≠ g; omega)).lt))); all_goals ((with_reducible refine hK _ _ ?_); refine ⟨trivial, ?_⟩; clear hK K; go_simp))
                all_goals clear ho7
                all_goals refine c3_one ?_
                all_goals first | (refine c3_op ho5 rfl (fun K hK => ?_); go_simp; (skip); all_goals ((with_reducible refine hK _ _ ?_); refine ⟨trivial, ?_⟩; clear hK K; go_simp))
                all_goals clear ho5
                all_goals (apply c3_st ho8 rfl; (intro w2 hS; first | (go_simp; first | done | rfl) | rfl | (skip; go_simp; first | done | rfl)); simp only [Act.put, List.setIfInBounds_toArray, List.set_cons_zero, List.set_cons_succ])
                all_goals clear ho8
                all_goals refine c3_one ?_
                all_goals first | (refine c3_op ho9 rfl (fun K hK => ?_); go_simp; (skip); all_goals ((with_reducible refine hK _ _ ?_); refine ⟨trivial, ?_⟩; clear hK K; go_simp))
                all_goals clear ho9
                all_goals (apply c3_st ho10 rfl; (intro w2 hS; first | (go_simp; first | done | rfl) | rfl | (skip; go_simp; first | done | rfl)); simp only [Act.put, List.setIfInBounds_toArray, List.set_cons_zero, List.set_cons_succ])
                all_goals clear ho10
                all_goals refine c3_one ?_
                all_goals first | (refine c3_op ho11 rfl (fun K hK => ?_); go_simp; (skip); all_goals ((with_reducible refine hK _ _ ?_); refine ⟨trivial, ?_⟩; clear hK K; go_simp))
                all_goals clear ho11
                all_goals refine c3_done (NoPanic.normal ?_)
              rotate_right 1
              focus
                all_goals first | (refine c3_op ho5 rfl (fun K hK => ?_); go_simp; (skip); all_goals ((with_reducible refine hK _ _ ?_); refine ⟨trivial, ?_⟩; clear hK K; go_simp))
                all_goals clear ho5
                all_goals refine c3_one ?_
                all_goals first | (refine c3_op ho7 rfl (fun K hK => ?_); go_simp; ((go_at_call 58; (with_reducible refine (Next_c n0 g 2 _ (hs9.ext (by repeat (first | exact Ext.refl _ | assumption | refine Ext.drew ?_ | refine Ext.drewN ?_ _ | refine Ext.iter ?_ _ _ | refine Ext.alloc ?_ _ | refine Ext.setCell ?_ (by first | exact Nat.le_refl _ | (simp <;> omega)) _ | refine Ext.trans2 (by assumption) ?_))) (by omega)).mono ?_); rintro e w10 ⟨zz, rfl, hz0, hz3, -, hs10, hb10⟩; replace hz3 := hz3 (by omega); obtain ⟨zn, rfl⟩ : ∃ zn : Nat, zz = zn := ⟨zz.toNat, by omega⟩; have hzn : (zn : Int) < 2 := hz3; obtain ⟨v, hv, hvb⟩ := pairA P (-P) zn (by omega); have hx10 : Blk w10 x #[.int .i64 P, .int .i64 T, .int .i64 Q, .int .i64 b, .int .i64 d, .int .i64 L] 28 := Blk.but (Blk.ext hx9 (by repeat (first | exact Ext.refl _ | assumption | refine Ext.drew ?_ | refine Ext.drewN ?_ _ | refine Ext.iter ?_ _ _ | refine Ext.alloc ?_ _ | refine Ext.setCell ?_ (by first | exact Nat.le_refl _ | (simp <;> omega)) _ | refine Ext.trans2 (by assumption) ?_))) hb10 hxg; have hbr10 : Blk w10 w.heap.size #[.int .i64 0, .int .i64 0, .int .i64 0, .int .i64 0, .int .i64 0, .int .i64 0] 28 := Blk.but (Blk.ext hbr9 (by repeat (first | exact Ext.refl _ | assumption | refine Ext.drew ?_ | refine Ext.drewN ?_ _ | refine Ext.iter ?_ _ _ | refine Ext.alloc ?_ _ | refine Ext.setCell ?_ (by first | exact Nat.le_refl _ | (simp <;> omega)) _ | refine Ext.trans2 (by assumption) ?_))) hb10 (by omega); have hr10 : But g w w10 := But.trans (But.trans hr9 (But.of (by repeat (first | exact Ext.refl _ | assumption | refine Ext.drew ?_ | refine Ext.drewN ?_ _ | refine Ext.iter ?_ _ _ | refine Ext.alloc ?_ _ | refine Ext.setCell ?_ (by first | exact Nat.le_refl _ | (simp <;> omega)) _ | refine Ext.trans2 (by assumption) ?_)))) hb10; clear q0 q1 q2 q3 q4 q5 ql qf; have q0 := hx10.cell (i := 0) (v := .int .i64 P) rfl; have q1 := hx10.cell (i := 1) (v := .int .i64 T) rfl; have q2 := hx10.cell (i := 2) (v := .int .i64 Q) rfl; have q3 := hx10.cell (i := 3) (v := .int .i64 b) rfl; have q4 := hx10.cell (i := 4) (v := .int .i64 d) rfl; have q5 := hx10.cell (i := 5) (v := .int .i64 L) rfl; have ql := hx10.lt; have qf := hx10.free; have hv10 := hb10.size; simp only [World.size_alloc, World.size_drew] at hv10; have sC := (Blk.new w10 #[.int .i64 P, .int .i64 (-P)] 2).cell hv; try (have sA := (Blk.but (Blk.drew (Blk.new w9 #[.int .i64 P, .int .i64 (-P)] 2)) hb10 (by show w9.heap.size ≠ g; omega)).cell hv; have sB := (Blk.but (Blk.drew (Blk.new w9 #[.int .i64 P, .int .i64 (-P)] 2)) hb10 (by show w9.heap.size ≠ g; omega)).lt))); all_goals ((with_reducible refine hK _ _ ?_); refine ⟨trivial, ?_⟩; clear hK K; go_simp))
                all_goals clear ho7
                all_goals (apply c3_st ho8 rfl; (intro w2 hS; first | (go_simp; first | done | rfl) | rfl | (skip; go_simp; first | done | rfl)); simp only [Act.put, List.setIfInBounds_toArray, List.set_cons_zero, List.set_cons_succ])
                all_goals clear ho8
                all_goals refine c3_one ?_
                all_goals first | (refine c3_op ho9 rfl (fun K hK => ?_); go_simp; (skip); all_goals ((with_reducible refine hK _ _ ?_); refine ⟨trivial, ?_⟩; clear hK K; go_simp))
                all_goals clear ho9
                all_goals (apply c3_st ho10 rfl; (intro w2 hS; first | (go_simp; first | done | rfl) | rfl | (skip; go_simp; first | done | rfl)); simp only [Act.put, List.setIfInBounds_toArray, List.set_cons_zero, List.set_cons_succ])
                all_goals clear ho10
                all_goals refine c3_one ?_
                all_goals first | (refine c3_op ho11 rfl (fun K hK => ?_); go_simp; (skip); all_goals ((with_reducible refine hK _ _ ?_); refine ⟨trivial, ?_⟩; clear hK K; go_simp))
                all_goals clear ho11
                all_goals refine c3_done (NoPanic.normal ?_)
    all_goals
      clear hv
      first
        | (have hsB := sB; have hx11 : Blk (w10.setCell ⟨x, 3, none⟩ (.int .i64 v)) x #[.int .i64 P, .int .i64 T, .int .i64 Q, .int .i64 v, .int .i64 d, .int .i64 L] 28 := hx10.set 3 (.int .i64 v); have hbr11 : Blk (w10.setCell ⟨x, 3, none⟩ (.int .i64 v)) w.heap.size #[.int .i64 0, .int .i64 0, .int .i64 0, .int .i64 0, .int .i64 0, .int .i64 0] 28 := hbr10.far (g' := x) (i := 3) (by omega) (.int .i64 v); have hs11 : Src n0 (w10.setCell ⟨x, 3, none⟩ (.int .i64 v)) g := hs10.set (x := x) (i := 3) (v := .int .i64 v) (by omega); have hr11 : But g w (w10.setCell ⟨x, 3, none⟩ (.int .i64 v)) := hr10.setOld (x := x) (i := 3) (v := .int .i64 v) (by omega); generalize (w10.setCell ⟨x, 3, none⟩ (.int .i64 v)) = w12 at *; clear q0 q1 q2 q3 q4 q5 ql qf hx10 hbr10 hr10 hs10; (try clear sC); (try clear sA sB); (try clear hsB); clear hv10 hb10; (try generalize w10.heap.size = z10 at *); clear w10; go_wp2_with fail; go_meet; exact ⟨P, T, Q, v, d, L, (by omega), hx11, hbr11, hs11, hr11⟩)
        | (have hx11 : Blk ((w10.alloc (.cells #[.int .i64 P, .int .i64 (-P)] 2)).setCell ⟨x, 3, none⟩ (.int .i64 v)) x #[.int .i64 P, .int .i64 T, .int .i64 Q, .int .i64 v, .int .i64 d, .int .i64 L] 28 := (hx10.alloc (.cells #[.int .i64 P, .int .i64 (-P)] 2)).set 3 (.int .i64 v); have hbr11 : Blk ((w10.alloc (.cells #[.int .i64 P, .int .i64 (-P)] 2)).setCell ⟨x, 3, none⟩ (.int .i64 v)) w.heap.size #[.int .i64 0, .int .i64 0, .int .i64 0, .int .i64 0, .int .i64 0, .int .i64 0] 28 := (hbr10.alloc (.cells #[.int .i64 P, .int .i64 (-P)] 2)).far (g' := x) (i := 3) (by omega) (.int .i64 v); have hs11 : Src n0 ((w10.alloc (.cells #[.int .i64 P, .int .i64 (-P)] 2)).setCell ⟨x, 3, none⟩ (.int .i64 v)) g := (hs10.alloc (.cells #[.int .i64 P, .int .i64 (-P)] 2)).set (x := x) (i := 3) (v := .int .i64 v) (by omega); have hr11 : But g w ((w10.alloc (.cells #[.int .i64 P, .int .i64 (-P)] 2)).setCell ⟨x, 3, none⟩ (.int .i64 v)) := (hr10.alloc (.cells #[.int .i64 P, .int .i64 (-P)] 2)).setOld (x := x) (i := 3) (v := .int .i64 v) (by omega); generalize ((w10.alloc (.cells #[.int .i64 P, .int .i64 (-P)] 2)).setCell ⟨x, 3, none⟩ (.int .i64 v)) = w12 at *; clear q0 q1 q2 q3 q4 q5 ql qf hx10 hbr10 hr10 hs10; (try clear sC); (try clear sA sB); (try clear hsB); clear hv10 hb10; (try generalize w10.heap.size = z10 at *); clear w10; go_wp2_with fail; go_meet; exact ⟨P, T, Q, v, d, L, (by omega), hx11, hbr11, hs11, hr11⟩)
        | (have hx11 : Blk ((w10.setCell ⟨x, 3, none⟩ (.int .i64 v)).alloc (.cells #[.int .i64 P, .int .i64 (-P)] 2)) x #[.int .i64 P, .int .i64 T, .int .i64 Q, .int .i64 v, .int .i64 d, .int .i64 L] 28 := (hx10.set 3 (.int .i64 v)).alloc (.cells #[.int .i64 P, .int .i64 (-P)] 2); have hbr11 : Blk ((w10.setCell ⟨x, 3, none⟩ (.int .i64 v)).alloc (.cells #[.int .i64 P, .int .i64 (-P)] 2)) w.heap.size #[.int .i64 0, .int .i64 0, .int .i64 0, .int .i64 0, .int .i64 0, .int .i64 0] 28 := (hbr10.far (g' := x) (i := 3) (by omega) (.int .i64 v)).alloc (.cells #[.int .i64 P, .int .i64 (-P)] 2); have hs11 : Src n0 ((w10.setCell ⟨x, 3, none⟩ (.int .i64 v)).alloc (.cells #[.int .i64 P, .int .i64 (-P)] 2)) g := (hs10.set (x := x) (i := 3) (v := .int .i64 v) (by omega)).alloc (.cells #[.int .i64 P, .int .i64 (-P)] 2); have hr11 : But g w ((w10.setCell ⟨x, 3, none⟩ (.int .i64 v)).alloc (.cells #[.int .i64 P, .int .i64 (-P)] 2)) := (hr10.setOld (x := x) (i := 3) (v := .int .i64 v) (by omega)).alloc (.cells #[.int .i64 P, .int .i64 (-P)] 2); generalize ((w10.setCell ⟨x, 3, none⟩ (.int .i64 v)).alloc (.cells #[.int .i64 P, .int .i64 (-P)] 2)) = w12 at *; clear q0 q1 q2 q3 q4 q5 ql qf hx10 hbr10 hr10 hs10; (try clear sC); (try clear sA sB); (try clear hsB); clear hv10 hb10; (try generalize w10.heap.size = z10 at *); clear w10; go_wp2_with fail; go_meet; exact ⟨P, T, Q, v, d, L, (by omega), hx11, hbr11, hs11, hr11⟩)
  · skip
    go_wp2_with fail
    refine wp_region_c3 (fun w' => True) (.st 0 (.st 3 (.two 1 (.two 2 (.one 4 (.st 5 (.one 6 (.st 7 (.one 8 .done))))) 4 (.one 2 (.st 5 (.one 6 (.st 7 (.one 8 .done)))))) 4 (.one 1 (.one 2 (.st 5 (.one 6 (.st 7 (.one 8 .done))))))))) (by kernel_rfl) (by kernel_rfl) (by decide) (by kernel_rfl) ?_ ?_
    · exact trivial
    refine c3_intro fun ops eo => ?_
    have ho0 := canon_at eo 0 rfl
    have ho1 := canon_at eo 1 rfl
    have ho2 := canon_at eo 2 rfl
    have ho3 := canon_at eo 3 rfl
    have ho4 := canon_at eo 4 rfl
    have ho5 := canon_at eo 5 rfl
    have ho6 := canon_at eo 6 rfl
    have ho7 := canon_at eo 7 rfl
    have ho8 := canon_at eo 8 rfl
    clear eo
    all_goals (apply c3_st ho0 rfl; (intro w2 hS; first | (go_simp; first | done | rfl) | rfl | (skip; go_simp; first | done | rfl)); simp only [Act.put, List.setIfInBounds_toArray, List.set_cons_zero, List.set_cons_succ])
    all_goals clear ho0
    all_goals (apply c3_st ho3 rfl; (intro w2 hS; first | (go_simp; first | done | rfl) | rfl | (skip; go_simp; first | done | rfl)); simp only [Act.put, List.setIfInBounds_toArray, List.set_cons_zero, List.set_cons_succ])
    all_goals clear ho3
    all_goals
      refine c3_two ?_ ?_
      rotate_right 1
      focus
        all_goals first | (refine c3_op ho4 rfl (fun K hK => ?_); go_simp; ((go_at_call 58; (with_reducible refine (Next_c n0 g 2 _ (hs9.ext (by repeat (first | exact Ext.refl _ | assumption | refine Ext.drew ?_ | refine Ext.drewN ?_ _ | refine Ext.iter ?_ _ _ | refine Ext.alloc ?_ _ | refine Ext.setCell ?_ (by first | exact Nat.le_refl _ | (simp <;> omega)) _ | refine Ext.trans2 (by assumption) ?_))) (by omega)).mono ?_); rintro e w10 ⟨zz, rfl, hz0, hz3, -, hs10, hb10⟩; replace hz3 := hz3 (by omega); obtain ⟨zn, rfl⟩ : ∃ zn : Nat, zz = zn := ⟨zz.toNat, by omega⟩; have hzn : (zn : Int) < 2 := hz3; obtain ⟨v, hv, hvb⟩ := pairA d 256 zn (by omega); have hx10 : Blk w10 x #[.int .i64 P, .int .i64 T, .int .i64 Q, .int .i64 b, .int .i64 d, .int .i64 L] 28 := Blk.but (Blk.ext hx9 (by repeat (first | exact Ext.refl _ | assumption | refine Ext.drew ?_ | refine Ext.drewN ?_ _ | refine Ext.iter ?_ _ _ | refine Ext.alloc ?_ _ | refine Ext.setCell ?_ (by first | exact Nat.le_refl _ | (simp <;> omega)) _ | refine Ext.trans2 (by assumption) ?_))) hb10 hxg; have hbr10 : Blk w10 w.heap.size #[.int .i64 0, .int .i64 0, .int .i64 0, .int .i64 0, .int .i64 0, .int .i64 0] 28 := Blk.but (Blk.ext hbr9 (by repeat (first | exact Ext.refl _ | assumption | refine Ext.drew ?_ | refine Ext.drewN ?_ _ | refine Ext.iter ?_ _ _ | refine Ext.alloc ?_ _ | refine Ext.setCell ?_ (by first | exact Nat.le_refl _ | (simp <;> omega)) _ | refine Ext.trans2 (by assumption) ?_))) hb10 (by omega); have hr10 : But g w w10 := But.trans (But.trans hr9 (But.of (by repeat (first | exact Ext.refl _ | assumption | refine Ext.drew ?_ | refine Ext.drewN ?_ _ | refine Ext.iter ?_ _ _ | refine Ext.alloc ?_ _ | refine Ext.setCell ?_ (by first | exact Nat.le_refl _ | (simp <;> omega)) _ | refine Ext.trans2 (by assumption) ?_)))) hb10; clear q0 q1 q2 q3 q4 q5 ql qf; have q0 := hx10.cell (i := 0) (v := .int .i64 P) rfl; have q1 := hx10.cell (i := 1) (v := .int .i64 T) rfl; have q2 := hx10.cell (i := 2) (v := .int .i64 Q) rfl; have q3 := hx10.cell (i := 3) (v := .int .i64 b) rfl; have q4 := hx10.cell (i := 4) (v := .int .i64 d) rfl; have q5 := hx10.cell (i := 5) (v := .int .i64 L) rfl; have ql := hx10.lt; have qf := hx10.free; have hv10 := hb10.size; simp only [World.size_alloc, World.size_drew] at hv10; have sC := (Blk.new w10 #[.int .i64 d, .int .i64 256] 2).cell hv; try (have sA := (Blk.but (Blk.drew (Blk.new w9 #[.int .i64 d, .int .i64 256] 2)) hb10 (by show w9.heap.size ≠ g; omega)).cell hv; have sB := (Blk.but (Blk.drew (Blk.new w9 #[.int .i64 d, .int .i64 256] 2)) hb10 (by show w9.heap.size ≠ g; omega)).lt))); all_goals ((with_reducible refine hK _ _ ?_); refine ⟨trivial, ?_⟩; clear hK K; go_simp))
        all_goals clear ho4
        all_goals refine c3_one ?_
        all_goals first | (refine c3_op ho1 rfl (fun K hK => ?_); go_simp; (skip); all_goals ((with_reducible refine hK _ _ ?_); refine ⟨trivial, ?_⟩; clear hK K; go_simp))
        all_goals clear ho1
        all_goals refine c3_one ?_
        all_goals first | (refine c3_op ho2 rfl (fun K hK => ?_); go_simp; (skip); all_goals ((with_reducible refine hK _ _ ?_); refine ⟨trivial, ?_⟩; clear hK K; go_simp))
        all_goals clear ho2
        all_goals (apply c3_st ho5 rfl; (intro w2 hS; first | (go_simp; first | done | rfl) | rfl | (skip; go_simp; first | done | rfl)); simp only [Act.put, List.setIfInBounds_toArray, List.set_cons_zero, List.set_cons_succ])
        all_goals clear ho5
        all_goals refine c3_one ?_
        all_goals first | (refine c3_op ho6 rfl (fun K hK => ?_); go_simp; (skip); all_goals ((with_reducible refine hK _ _ ?_); refine ⟨trivial, ?_⟩; clear hK K; go_simp))
        all_goals clear ho6
        all_goals (apply c3_st ho7 rfl; (intro w2 hS; first | (go_simp; first | done | rfl) | rfl | (skip; go_simp; first | done | rfl)); simp only [Act.put, List.setIfInBounds_toArray, List.set_cons_zero, List.set_cons_succ])
        all_goals clear ho7
        all_goals refine c3_one ?_
        all_goals first | (refine c3_op ho8 rfl (fun K hK => ?_); go_simp; (skip); all_goals ((with_reducible refine hK _ _ ?_); refine ⟨trivial, ?_⟩; clear hK K; go_simp))
        all_goals clear ho8
        all_goals refine c3_done (NoPanic.normal ?_)
      rotate_right 1
      focus
        all_goals first | (refine c3_op ho1 rfl (fun K hK => ?_); go_simp; (skip); all_goals ((with_reducible refine hK _ _ ?_); refine ⟨trivial, ?_⟩; clear hK K; go_simp))
        all_goals clear ho1
        all_goals
          refine c3_two ?_ ?_
          rotate_right 1
          focus
            all_goals first | (refine c3_op ho4 rfl (fun K hK => ?_); go_simp; ((go_at_call 58; (with_reducible refine (Next_c n0 g 2 _ (hs9.ext (by repeat (first | exact Ext.refl _ | assumption | refine Ext.drew ?_ | refine Ext.drewN ?_ _ | refine Ext.iter ?_ _ _ | refine Ext.alloc ?_ _ | refine Ext.setCell ?_ (by first | exact Nat.le_refl _ | (simp <;> omega)) _ | refine Ext.trans2 (by assumption) ?_))) (by omega)).mono ?_); rintro e w10 ⟨zz, rfl, hz0, hz3, -, hs10, hb10⟩; replace hz3 := hz3 (by omega); obtain ⟨zn, rfl⟩ : ∃ zn : Nat, zz = zn := ⟨zz.toNat, by omega⟩; have hzn : (zn : Int) < 2 := hz3; obtain ⟨v, hv, hvb⟩ := pairA d 256 zn (by omega); have hx10 : Blk w10 x #[.int .i64 P, .int .i64 T, .int .i64 Q, .int .i64 b, .int .i64 d, .int .i64 L] 28 := Blk.but (Blk.ext hx9 (by repeat (first | exact Ext.refl _ | assumption | refine Ext.drew ?_ | refine Ext.drewN ?_ _ | refine Ext.iter ?_ _ _ | refine Ext.alloc ?_ _ | refine Ext.setCell ?_ (by first | exact Nat.le_refl _ | (simp <;> omega)) _ | refine Ext.trans2 (by assumption) ?_))) hb10 hxg; have hbr10 : Blk w10 w.heap.size #[.int .i64 0, .int .i64 0, .int .i64 0, .int .i64 0, .int .i64 0, .int .i64 0] 28 := Blk.but (Blk.ext hbr9 (by repeat (first | exact Ext.refl _ | assumption | refine Ext.drew ?_ | refine Ext.drewN ?_ _ | refine Ext.iter ?_ _ _ | refine Ext.alloc ?_ _ | refine Ext.setCell ?_ (by first | exact Nat.le_refl _ | (simp <;> omega)) _ | refine Ext.trans2 (by assumption) ?_))) hb10 (by omega); have hr10 : But g w w10 := But.trans (But.trans hr9 (But.of (by repeat (first | exact Ext.refl _ | assumption | refine Ext.drew ?_ | refine Ext.drewN ?_ _ | refine Ext.iter ?_ _ _ | refine Ext.alloc ?_ _ | refine Ext.setCell ?_ (by first | exact Nat.le_refl _ | (simp <;> omega)) _ | refine Ext.trans2 (by assumption) ?_)))) hb10; clear q0 q1 q2 q3 q4 q5 ql qf; have q0 := hx10.cell (i := 0) (v := .int .i64 P) rfl; have q1 := hx10.cell (i := 1) (v := .int .i64 T) rfl; have q2 := hx10.cell (i := 2) (v := .int .i64 Q) rfl; have q3 := hx10.cell (i := 3) (v := .int .i64 b) rfl; have q4 := hx10.cell (i := 4) (v := .int .i64 d) rfl; have q5 := hx10.cell (i := 5) (v := .int .i64 L) rfl; have ql := hx10.lt; have qf := hx10.free; have hv10 := hb10.size; simp only [World.size_alloc, World.size_drew] at hv10; have sC := (Blk.new w10 #[.int .i64 d, .int .i64 256] 2).cell hv; try (have sA := (Blk.but (Blk.drew (Blk.new w9 #[.int .i64 d, .int .i64 256] 2)) hb10 (by show w9.heap.size ≠ g; omega)).cell hv; have sB := (Blk.but (Blk.drew (Blk.new w9 #[.int .i64 d, .int .i64 256] 2)) hb10 (by show w9.heap.size ≠ g; omega)).lt))); all_goals ((with_reducible refine hK _ _ ?_); refine ⟨trivial, ?_⟩; clear hK K; go_simp))
            all_goals clear ho4
            all_goals refine c3_one ?_
            all_goals first | (refine c3_op ho2 rfl (fun K hK => ?_); go_simp; (skip); all_goals ((with_reducible refine hK _ _ ?_); refine ⟨trivial, ?_⟩; clear hK K; go_simp))
            all_goals clear ho2
            all_goals (apply c3_st ho5 rfl; (intro w2 hS; first | (go_simp; first | done | rfl) | rfl | (skip; go_simp; first | done | rfl)); simp only [Act.put, List.setIfInBounds_toArray, List.set_cons_zero, List.set_cons_succ])
            all_goals clear ho5
            all_goals refine c3_one ?_
            all_goals first | (refine c3_op ho6 rfl (fun K hK => ?_); go_simp; (skip); all_goals ((with_reducible refine hK _ _ ?_); refine ⟨trivial, ?_⟩; clear hK K; go_simp))
            all_goals clear ho6
            all_goals (apply c3_st ho7 rfl; (intro w2 hS; first | (go_simp; first | done | rfl) | rfl | (skip; go_simp; first | done | rfl)); simp only [Act.put, List.setIfInBounds_toArray, List.set_cons_zero, List.set_cons_succ])
            all_goals clear ho7
            all_goals refine c3_one ?_
            all_goals first | (refine c3_op ho8 rfl (fun K hK => ?_); go_simp; (skip); all_goals ((with_reducible refine hK _ _ ?_); refine ⟨trivial, ?_⟩; clear hK K; go_simp))
            all_goals clear ho8
            all_goals refine c3_done (NoPanic.normal ?_)
          rotate_right 1
          focus
            all_goals first | (refine c3_op ho2 rfl (fun K hK => ?_); go_simp; (skip); all_goals ((with_reducible refine hK _ _ ?_); refine ⟨trivial, ?_⟩; clear hK K; go_simp))
            all_goals clear ho2
            all_goals refine c3_one ?_
            all_goals first | (refine c3_op ho4 rfl (fun K hK => ?_); go_simp; ((go_at_call 58; (with_reducible refine (Next_c n0 g 2 _ (hs9.ext (by repeat (first | exact Ext.refl _ | assumption | refine Ext.drew ?_ | refine Ext.drewN ?_ _ | refine Ext.iter ?_ _ _ | refine Ext.alloc ?_ _ | refine Ext.setCell ?_ (by first | exact Nat.le_refl _ | (simp <;> omega)) _ | refine Ext.trans2 (by assumption) ?_))) (by omega)).mono ?_); rintro e w10 ⟨zz, rfl, hz0, hz3, -, hs10, hb10⟩; replace hz3 := hz3 (by omega); obtain ⟨zn, rfl⟩ : ∃ zn : Nat, zz = zn := ⟨zz.toNat, by omega⟩; have hzn : (zn : Int) < 2 := hz3; obtain ⟨v, hv, hvb⟩ := pairA d 256 zn (by omega); have hx10 : Blk w10 x #[.int .i64 P, .int .i64 T, .int .i64 Q, .int .i64 b, .int .i64 d, .int .i64 L] 28 := Blk.but (Blk.ext hx9 (by repeat (first | exact Ext.refl _ | assumption | refine Ext.drew ?_ | refine Ext.drewN ?_ _ | refine Ext.iter ?_ _ _ | refine Ext.alloc ?_ _ | refine Ext.setCell ?_ (by first | exact Nat.le_refl _ | (simp <;> omega)) _ | refine Ext.trans2 (by assumption) ?_))) hb10 hxg; have hbr10 : Blk w10 w.heap.size #[.int .i64 0, .int .i64 0, .int .i64 0, .int .i64 0, .int .i64 0, .int .i64 0] 28 := Blk.but (Blk.ext hbr9 (by repeat (first | exact Ext.refl _ | assumption | refine Ext.drew ?_ | refine Ext.drewN ?_ _ | refine Ext.iter ?_ _ _ | refine Ext.alloc ?_ _ | refine Ext.setCell ?_ (by first | exact Nat.le_refl _ | (simp <;> omega)) _ | refine Ext.trans2 (by assumption) ?_))) hb10 (by omega); have hr10 : But g w w10 := But.trans (But.trans hr9 (But.of (by repeat (first | exact Ext.refl _ | assumption | refine Ext.drew ?_ | refine Ext.drewN ?_ _ | refine Ext.iter ?_ _ _ | refine Ext.alloc ?_ _ | refine Ext.setCell ?_ (by first | exact Nat.le_refl _ | (simp <;> omega)) _ | refine Ext.trans2 (by assumption) ?_)))) hb10; clear q0 q1 q2 q3 q4 q5 ql qf; have q0 := hx10.cell (i := 0) (v := .int .i64 P) rfl; have q1 := hx10.cell (i := 1) (v := .int .i64 T) rfl; have q2 := hx10.cell (i := 2) (v := .int .i64 Q) rfl; have q3 := hx10.cell (i := 3) (v := .int .i64 b) rfl; have q4 := hx10.cell (i := 4) (v := .int .i64 d) rfl; have q5 := hx10.cell (i := 5) (v := .int .i64 L) rfl; have ql := hx10.lt; have qf := hx10.free; have hv10 := hb10.size; simp only [World.size_alloc, World.size_drew] at hv10; have sC := (Blk.new w10 #[.int .i64 d, .int .i64 256] 2).cell hv; try (have sA := (Blk.but (Blk.drew (Blk.new w9 #[.int .i64 d, .int .i64 256] 2)) hb10 (by show w9.heap.size ≠ g; omega)).cell hv; have sB := (Blk.but (Blk.drew (Blk.new w9 #[.int .i64 d, .int .i64 256] 2)) hb10 (by show w9.heap.size ≠ g; omega)).lt))); all_goals ((with_reducible refine hK _ _ ?_); refine ⟨trivial, ?_⟩; clear hK K; go_simp))
            all_goals clear ho4
            all_goals (apply c3_st ho5 rfl; (intro w2 hS; first | (go_simp; first | done | rfl) | rfl | (skip; go_simp; first | done | rfl)); simp only [Act.put, List.setIfInBounds_toArray, List.set_cons_zero, List.set_cons_succ])
            all_goals clear ho5
            all_goals refine c3_one ?_
            all_goals first | (refine c3_op ho6 rfl (fun K hK => ?_); go_simp; (skip); all_goals ((with_reducible refine hK _ _ ?_); refine ⟨trivial, ?_⟩; clear hK K; go_simp))
            all_goals clear ho6
            all_goals (apply c3_st ho7 rfl; (intro w2 hS; first | (go_simp; first | done | rfl) | rfl | (skip; go_simp; first | done | rfl)); simp only [Act.put, List.setIfInBounds_toArray, List.set_cons_zero, List.set_cons_succ])
            all_goals clear ho7
            all_goals refine c3_one ?_
            all_goals first | (refine c3_op ho8 rfl (fun K hK => ?_); go_simp; (skip); all_goals ((with_reducible refine hK _ _ ?_); refine ⟨trivial, ?_⟩; clear hK K; go_simp))
            all_goals clear ho8
            all_goals refine c3_done (NoPanic.normal ?_)
    all_goals
      clear hv
      first
        | (have hsB := sB; have hx11 : Blk (w10.setCell ⟨x, 5, none⟩ (.int .i64 v)) x #[.int .i64 P, .int .i64 T, .int .i64 Q, .int .i64 b, .int .i64 d, .int .i64 v] 28 := hx10.set 5 (.int .i64 v); have hbr11 : Blk (w10.setCell ⟨x, 5, none⟩ (.int .i64 v)) w.heap.size #[.int .i64 0, .int .i64 0, .int .i64 0, .int .i64 0, .int .i64 0, .int .i64 0] 28 := hbr10.far (g' := x) (i := 5) (by omega) (.int .i64 v); have hs11 : Src n0 (w10.setCell ⟨x, 5, none⟩ (.int .i64 v)) g := hs10.set (x := x) (i := 5) (v := .int .i64 v) (by omega); have hr11 : But g w (w10.setCell ⟨x, 5, none⟩ (.int .i64 v)) := hr10.setOld (x := x) (i := 5) (v := .int .i64 v) (by omega); generalize (w10.setCell ⟨x, 5, none⟩ (.int .i64 v)) = w12 at *; clear q0 q1 q2 q3 q4 q5 ql qf hx10 hbr10 hr10 hs10; (try clear sC); (try clear sA sB); (try clear hsB); clear hv10 hb10; (try generalize w10.heap.size = z10 at *); clear w10; go_wp2_with fail; go_meet; exact ⟨P, T, Q, b, d, v, (by omega), hx11, hbr11, hs11, hr11⟩)
        | (have hx11 : Blk ((w10.alloc (.cells #[.int .i64 d, .int .i64 256] 2)).setCell ⟨x, 5, none⟩ (.int .i64 v)) x #[.int .i64 P, .int .i64 T, .int .i64 Q, .int .i64 b, .int .i64 d, .int .i64 v] 28 := (hx10.alloc (.cells #[.int .i64 d, .int .i64 256] 2)).set 5 (.int .i64 v); have hbr11 : Blk ((w10.alloc (.cells #[.int .i64 d, .int .i64 256] 2)).setCell ⟨x, 5, none⟩ (.int .i64 v)) w.heap.size #[.int .i64 0, .int .i64 0, .int .i64 0, .int .i64 0, .int .i64 0, .int .i64 0] 28 := (hbr10.alloc (.cells #[.int .i64 d, .int .i64 256] 2)).far (g' := x) (i := 5) (by omega) (.int .i64 v); have hs11 : Src n0 ((w10.alloc (.cells #[.int .i64 d, .int .i64 256] 2)).setCell ⟨x, 5, none⟩ (.int .i64 v)) g := (hs10.alloc (.cells #[.int .i64 d, .int .i64 256] 2)).set (x := x) (i := 5) (v := .int .i64 v) (by omega); have hr11 : But g w ((w10.alloc (.cells #[.int .i64 d, .int .i64 256] 2)).setCell ⟨x, 5, none⟩ (.int .i64 v)) := (hr10.alloc (.cells #[.int .i64 d, .int .i64 256] 2)).setOld (x := x) (i := 5) (v := .int .i64 v) (by omega); generalize ((w10.alloc (.cells #[.int .i64 d, .int .i64 256] 2)).setCell ⟨x, 5, none⟩ (.int .i64 v)) = w12 at *; clear q0 q1 q2 q3 q4 q5 ql qf hx10 hbr10 hr10 hs10; (try clear sC); (try clear sA sB); (try clear hsB); clear hv10 hb10; (try generalize w10.heap.size = z10 at *); clear w10; go_wp2_with fail; go_meet; exact ⟨P, T, Q, b, d, v, (by omega), hx11, hbr11, hs11, hr11⟩)
        | (have hx11 : Blk ((w10.setCell ⟨x, 5, none⟩ (.int .i64 v)).alloc (.cells #[.int .i64 d, .int .i64 256] 2)) x #[.int .i64 P, .int .i64 T, .int .i64 Q, .int .i64 b, .int .i64 d, .int .i64 v] 28 := (hx10.set 5 (.int .i64 v)).alloc (.cells #[.int .i64 d, .int .i64 256] 2); have hbr11 : Blk ((w10.setCell ⟨x, 5, none⟩ (.int .i64 v)).alloc (.cells #[.int .i64 d, .int .i64 256] 2)) w.heap.size #[.int .i64 0, .int .i64 0, .int .i64 0, .int .i64 0, .int .i64 0, .int .i64 0] 28 := (hbr10.far (g' := x) (i := 5) (by omega) (.int .i64 v)).alloc (.cells #[.int .i64 d, .int .i64 256] 2); have hs11 : Src n0 ((w10.setCell ⟨x, 5, none⟩ (.int .i64 v)).alloc (.cells #[.int .i64 d, .int .i64 256] 2)) g := (hs10.set (x := x) (i := 5) (v := .int .i64 v) (by omega)).alloc (.cells #[.int .i64 d, .int .i64 256] 2); have hr11 : But g w ((w10.setCell ⟨x, 5, none⟩ (.int .i64 v)).alloc (.cells #[.int .i64 d, .int .i64 256] 2)) := (hr10.setOld (x := x) (i := 5) (v := .int .i64 v) (by omega)).alloc (.cells #[.int .i64 d, .int .i64 256] 2); generalize ((w10.setCell ⟨x, 5, none⟩ (.int .i64 v)).alloc (.cells #[.int .i64 d, .int .i64 256] 2)) = w12 at *; clear q0 q1 q2 q3 q4 q5 ql qf hx10 hbr10 hr10 hs10; (try clear sC); (try clear sA sB); (try clear hsB); clear hv10 hb10; (try generalize w10.heap.size = z10 at *); clear w10; go_wp2_with fail; go_meet; exact ⟨P, T, Q, b, d, v, (by omega), hx11, hbr11, hs11, hr11⟩)
  · go_wp2_with fail
    refine (Next_c n0 g 3 _ (hs9.ext (by repeat (first | exact Ext.refl _ | assumption | refine Ext.drew ?_ | refine Ext.drewN ?_ _ | refine Ext.iter ?_ _ _ | refine Ext.alloc ?_ _ | refine Ext.setCell ?_ (by first | exact Nat.le_refl _ | (simp <;> omega)) _ | refine Ext.trans2 (by assumption) ?_))) (by omega)).mono ?_
    rintro e w10 ⟨zz, rfl, hz0, hz3, -, hs10, hb10⟩
    replace hz3 := hz3 (by omega)
    obtain ⟨zn, rfl⟩ : ∃ zn : Nat, zz = zn := ⟨zz.toNat, by omega⟩
    have hzn : (zn : Int) < 3 := hz3
    obtain ⟨v, hv, hvb⟩ := tripA (-1) 16 17 zn (by omega)
    have sA := (Blk.but (Blk.new w9 #[.int .i64 (-1), .int .i64 16, .int .i64 17] 2) hb10 (by show w9.heap.size ≠ g; omega)).cell hv; have sB := (Blk.but (Blk.new w9 #[.int .i64 (-1), .int .i64 16, .int .i64 17] 2) hb10 (by show w9.heap.size ≠ g; omega)).lt
    have hx10 : Blk w10 x #[.int .i64 P, .int .i64 T, .int .i64 Q, .int .i64 b, .int .i64 d, .int .i64 L] 28 := Blk.but (Blk.ext hx9 (by repeat (first | exact Ext.refl _ | assumption | refine Ext.drew ?_ | refine Ext.drewN ?_ _ | refine Ext.iter ?_ _ _ | refine Ext.alloc ?_ _ | refine Ext.setCell ?_ (by first | exact Nat.le_refl _ | (simp <;> omega)) _ | refine Ext.trans2 (by assumption) ?_))) hb10 hxg
    have hbr10 : Blk w10 w.heap.size #[.int .i64 0, .int .i64 0, .int .i64 0, .int .i64 0, .int .i64 0, .int .i64 0] 28 := Blk.but (Blk.ext hbr9 (by repeat (first | exact Ext.refl _ | assumption | refine Ext.drew ?_ | refine Ext.drewN ?_ _ | refine Ext.iter ?_ _ _ | refine Ext.alloc ?_ _ | refine Ext.setCell ?_ (by first | exact Nat.le_refl _ | (simp <;> omega)) _ | refine Ext.trans2 (by assumption) ?_))) hb10 (by omega)
    have hr10 : But g w w10 := But.trans (But.trans hr9 (But.of (by repeat (first | exact Ext.refl _ | assumption | refine Ext.drew ?_ | refine Ext.drewN ?_ _ | refine Ext.iter ?_ _ _ | refine Ext.alloc ?_ _ | refine Ext.setCell ?_ (by first | exact Nat.le_refl _ | (simp <;> omega)) _ | refine Ext.trans2 (by assumption) ?_)))) hb10
    clear q0 q1 q2 q3 q4 q5 ql qf hv
    have q0 := hx10.cell (i := 0) (v := .int .i64 P) rfl; have q1 := hx10.cell (i := 1) (v := .int .i64 T) rfl; have q2 := hx10.cell (i := 2) (v := .int .i64 Q) rfl; have q3 := hx10.cell (i := 3) (v := .int .i64 b) rfl; have q4 := hx10.cell (i := 4) (v := .int .i64 d) rfl; have q5 := hx10.cell (i := 5) (v := .int .i64 L) rfl; have ql := hx10.lt; have qf := hx10.free
    have hx11 := hx10.set 2 (.int .i64 v)
    have hbr11 := hbr10.far (g' := x) (i := 2) (by omega) (.int .i64 v)
    have hs11 := hs10.set (x := x) (i := 2) (v := .int .i64 v) (by omega)
    have hr11 := hr10.setOld (x := x) (i := 2) (v := .int .i64 v) (by omega)
    go_wp2_with fail
    go_meet
    exact ⟨P, T, v, b, d, L, (by omega), hx11, hbr11, hs11, hr11⟩
  · have n0 : (z == 0) = false := by simpa using d0
    have n1 : (z == 1) = false := by simpa using d1
    have n2 : (z == 2) = false := by simpa using d2
    have n3 : (z == 3) = false := by simpa using d3
    clear q0 q1 q2 q3 q4 q5 ql qf
    go_wp2_with fail
    go_meet
    exact ⟨P, T, Q, b, d, L, (by omega), hx9, hbr9, hs9, hr9⟩
end Go.Proofs.Ytamgbmoeanmfaaa
