/- Drawn jobs, and grids that have jobs. -/
import Derived.Test.YthpnkcamjcohgaaDoorLJobsK07
import Derived.Test.YthpnkcamjcohgaaDoorLJobsK15
import Derived.Test.YthpnkcamjcohgaaDoorLJobsK33
/-! Drawn jobs, and grids that have jobs. -/
namespace Go.Proofs.YthpnkcamjcohgaaDoor
set_option linter.unusedVariables false
set_option linter.unusedSimpArgs false
open Go.RowKit

/-- A grid has been drawn and nothing old turned. -/
def GrJ (w : World) (e : Ending) (w' : World) : Prop := ∃ (r c : Int) (p : Option Addr) (k : Nat) (xs : List Int), e = .returned (vGrid r c p xs.length k) ∧ xs.length ≤ 10000 ∧ xs.length ≤ k ∧ OwnInts w.heap.size w' p xs ∧ Ext w w'
set_option maxHeartbeats 800000 in
set_option maxRecDepth 100000 in
theorem DrawJobOf_c (p : Option Addr) (c : Nat) (code : List Int) (w : World) (hx : U8At w p code) (hl : code.length ≤ 4096) :
    Calls Tryd.prog 27 #[.slice p code.length c] w fun e w' => GrJ w e w' := by
  have HX := Lib.hid hx; clear hx
  have hb := Blk.new w #[.int .i64 0, .int .i64 0, .slice none 0 0] 58
  go_enter Tryd.func27, Tryd.ntmps27
  go_wp2_with (go_at_call 46; (with_reducible refine (From_c p c code _ (HX.out.ext (by repeat (first | exact Ext.refl _ | assumption | refine Ext.drew ?_ | refine Ext.drewN ?_ _ | refine Ext.iter ?_ _ _ | refine Ext.alloc ?_ _ | refine Ext.setCell ?_ (by first | exact Nat.le_refl _ | (simp <;> omega)) _ | refine Ext.trans2 (by assumption) ?_))) hl).mono ?_); rintro e w1 ⟨⟨g, rfl, hg, hs1⟩, hW1⟩; replace hg := Lib.hid hg)
  replace hg := hg.out
  have hn1 : g < w1.heap.size := hs1.lt
  rw [← hg] at hs1
  simp only [World.size_alloc] at hg
  have hgw : w.heap.size < g := by omega
  have hb1 := hb.ext hW1
  have hE1 : Ext w w1 := ((Ext.refl w).alloc _).trans hW1
  clear hb hW1 hg HX
  refine (Next_c (g + 1) g 60 _ hs1 (by omega)).mono ?_
  rintro e w2 ⟨a, rfl, -, -, -, hs2, hb2⟩
  have hz2 := hb2.size
  have hbr2 := hb1.but hb2 (by omega)
  have hE2 := hE1.but hb2 (by omega)
  clear hs1 hb1 hE1 hb2
  by_cases h0 : a = 0
  · subst h0
    have hrow0 := RowI.made (B := w.heap.size + 1) (w := w2) (by omega)
    clear hs2
    go_wp2_with fail
    go_loopw [4, 5] (fun out i wr => ∃ (k : Nat) (xs : List Int), k ≤ 10000 ∧ i = .int .i64 k ∧ xs.length = k ∧ RowI (w.heap.size + 1) wr out xs ∧ Blk wr w.heap.size #[.int .i64 0, .int .i64 0, .slice none 0 0] 58 ∧ Ext w wr ∧ w.heap.size + 1 ≤ wr.heap.size) (fun _ i _ => 10000 - (intOf i).toNat)
    case atStart => exact ⟨0, [], Nat.zero_le _, rfl, rfl, hrow0, hbr2.alloc _, hE2.alloc _, by simp; omega⟩
    case round =>
      clear hrow0 hbr2 hE2
      obtain ⟨k, xs, hk, rfl, hlk, hown, hbr, hE, hzr⟩ := hrel
      by_cases hlt : k < 10000
      · have hki : (k : Int) < 10000 := by omega
        obtain ⟨p, kc, rfl, -, -⟩ := hown.ownC
        replace hlk := Lib.hid hlk
        go_wp2_with (at_builtin; go_loud (refine append1IG hown (by have := hlk.out; omega) (by omega) ?_ rfl rfl); intro v3 w4 hown3 hg3; have hb3 := hg3.below (B := w.heap.size + 1) (fun k hk => (hown.lt k hk).1) (by omega))
        go_roundw
        case rel => exact ⟨k + 1, _, hlt, by go_num, by rw [List.length_append, hlk.out]; rfl, hown3, hbr.low hb3 (by omega), hE.low hb3 (by omega), by have := hb3.size; omega⟩
        case measure => simp [intOf]; omega
      · obtain rfl : k = 10000 := by omega
        clear hlt hk
        obtain ⟨p, kc, rfl, ho, hkc⟩ := hown.ownC
        have r0 := hbr.cell (i := 0) (v := .int .i64 0) rfl; have r1 := hbr.cell (i := 1) (v := .int .i64 0) rfl; have r2 := hbr.cell (i := 2) (v := .slice none 0 0) rfl; have rl := hbr.lt; have rf := hbr.free
        have hF := ((hbr.set 0 (.int .i64 1)).set 1 (.int .i64 10000)).set 2 (.slice p xs.length kc)
        have c0 := hF.cell (i := 0) (v := .int .i64 1) rfl; have c1 := hF.cell (i := 1) (v := .int .i64 10000) rfl; have c2 := hF.cell (i := 2) (v := .slice p xs.length kc) rfl
        have hfin : GrJ w (.returned (vGrid 1 10000 p xs.length kc)) (((wr.setCell ⟨w.heap.size, 0, none⟩ (.int .i64 1)).setCell ⟨w.heap.size, 1, none⟩ (.int .i64 10000)).setCell ⟨w.heap.size, 2, none⟩ (.slice p xs.length kc)) :=
          ⟨1, 10000, p, kc, xs, rfl, by omega, hkc, (((ho.setFar (by omega)).setFar (by omega)).setFar (by omega)).mono (by omega), ((hE.setCell (p := ⟨w.heap.size, 0, none⟩) (Nat.le_refl _) _).setCell (p := ⟨w.heap.size, 1, none⟩) (Nat.le_refl _) _).setCell (p := ⟨w.heap.size, 2, none⟩) (Nat.le_refl _) _⟩
        replace hlk := Lib.hid hlk
        clear ho hown hF hE
        go_wp2_with fail
        exact bodyPost_ret (v := vGrid 1 10000 p xs.length kc) (by simp [results, Tryd.results27, go_sem, c0, c1, c2]) rfl hfin
  · have h0b : (a == 0) = false := by simpa using h0
    go_wp2_with fail
    refine (l16Draw_c (g + 1) g _ hs2 (by omega)).mono ?_
    rintro e w3 ⟨r, c, q, k, xs, rfl, hlx, hkx, ho3, hs3, hb3⟩
    have hz3 := hb3.size
    have hbr3 := hbr2.but hb3 (by omega)
    have hE3 := hE2.but hb3 (by omega)
    have r0 := hbr3.cell (i := 0) (v := .int .i64 0) rfl; have r1 := hbr3.cell (i := 1) (v := .int .i64 0) rfl; have r2 := hbr3.cell (i := 2) (v := .slice none 0 0) rfl; have rl := hbr3.lt; have rf := hbr3.free
    have hF := ((hbr3.set 0 (.int .i64 r)).set 1 (.int .i64 c)).set 2 (.slice q xs.length k)
    have c0 := hF.cell (i := 0) (v := .int .i64 r) rfl; have c1 := hF.cell (i := 1) (v := .int .i64 c) rfl; have c2 := hF.cell (i := 2) (v := .slice q xs.length k) rfl
    have hfin : GrJ w (.returned (vGrid r c q xs.length k)) (((w3.setCell ⟨w.heap.size, 0, none⟩ (.int .i64 r)).setCell ⟨w.heap.size, 1, none⟩ (.int .i64 c)).setCell ⟨w.heap.size, 2, none⟩ (.slice q xs.length k)) :=
      ⟨r, c, q, k, xs, rfl, by omega, hkx, (((ho3.setFar (by omega)).setFar (by omega)).setFar (by omega)).mono (by omega), ((hE3.setCell (p := ⟨w.heap.size, 0, none⟩) (Nat.le_refl _) _).setCell (p := ⟨w.heap.size, 1, none⟩) (Nat.le_refl _) _).setCell (p := ⟨w.heap.size, 2, none⟩) (Nat.le_refl _) _⟩
    clear hs2 hs3 hb3 hbr2 hE2 hE3 ho3 hF h0 h0b
    go_wp2_with fail
    exact bodyPost_ret (v := vGrid r c q xs.length k) (by simp [results, Tryd.results27, go_sem, c0, c1, c2]) rfl hfin
end Go.Proofs.YthpnkcamjcohgaaDoor
