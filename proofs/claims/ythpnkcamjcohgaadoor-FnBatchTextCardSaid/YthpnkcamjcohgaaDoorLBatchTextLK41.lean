/- Drawn batches and texts of batches. -/
import Derived.Test.YthpnkcamjcohgaaDoorLBatchTextLK34
import Derived.Test.YthpnkcamjcohgaaDoorLBatchTextLK40
/-! Drawn batches and texts of batches. -/
namespace Go.Proofs.YthpnkcamjcohgaaDoor
set_option linter.unusedVariables false
set_option linter.unusedSimpArgs false
open Go.RowKit

/-- A batch has been drawn and nothing old turned. -/
def BatE (w : World) (e : Ending) (w' : World) : Prop := ∃ (s : ByteArray) (f st c wd : Int), e = .returned (vBatch s f st c wd) ∧ s.size ≤ 20 ∧ Ext w w'
set_option maxHeartbeats 800000 in
set_option maxRecDepth 100000 in
theorem DrawBatchText_c (p : Option Addr) (c : Nat) (code : List Int) (w : World) (hx : U8At w p code) (hl : code.length ≤ 4096) :
    Calls Tryd.prog 21 #[.slice p code.length c] w fun e w' => BatE w e w' := by
  have HX := Lib.hid hx; clear hx
  have hb := Blk.new w #[.string ⟨#[]⟩, .int .i64 0, .int .i64 0, .int .i64 0, .int .i64 0] 51
  go_enter Tryd.func21, Tryd.ntmps21
  go_wp2_with (go_at_call 46; (with_reducible refine (From_c p c code _ (HX.out.ext (by repeat (first | exact Ext.refl _ | assumption | refine Ext.drew ?_ | refine Ext.drewN ?_ _ | refine Ext.iter ?_ _ _ | refine Ext.alloc ?_ _ | refine Ext.setCell ?_ (by first | exact Nat.le_refl _ | (simp <;> omega)) _ | refine Ext.trans2 (by assumption) ?_))) hl).mono ?_); rintro e w1 ⟨⟨g, rfl, hg, hs1⟩, hW1⟩; replace hg := Lib.hid hg)
  replace hg := hg.out
  have hn1 : g < w1.heap.size := hs1.lt
  rw [← hg] at hs1
  simp only [World.size_alloc] at hg
  have hgw : w.heap.size < g := by omega
  have hb1 := hb.ext hW1
  have hE1 : Ext w w1 := ((Ext.refl w).alloc _).trans hW1
  clear hb hW1 hg HX
  refine (l31Draw_c (g + 1) g _ hs1 (by omega)).mono ?_
  rintro e w2 ⟨s, f, st, ct, wd, rfl, hsz, hs2, hb2⟩
  have hbr2 := hb1.but hb2 (by omega)
  have hE2 := hE1.but hb2 (by omega)
  have r0 := hbr2.cell (i := 0) (v := .string ⟨#[]⟩) rfl; have r1 := hbr2.cell (i := 1) (v := .int .i64 0) rfl; have r2 := hbr2.cell (i := 2) (v := .int .i64 0) rfl; have r3 := hbr2.cell (i := 3) (v := .int .i64 0) rfl; have r4 := hbr2.cell (i := 4) (v := .int .i64 0) rfl; have rl := hbr2.lt; have rf := hbr2.free
  have hF := Blk.bat5 hbr2 s f st ct wd
  have c0 := hF.cell (i := 0) (v := .string s) rfl; have c1 := hF.cell (i := 1) (v := .int .i64 f) rfl; have c2 := hF.cell (i := 2) (v := .int .i64 st) rfl; have c3 := hF.cell (i := 3) (v := .int .i64 ct) rfl; have c4 := hF.cell (i := 4) (v := .int .i64 wd) rfl
  have hfin := ((((hE2.setCell (p := ⟨w.heap.size, 0, none⟩) (Nat.le_refl _) (.string s)).setCell (p := ⟨w.heap.size, 1, none⟩) (Nat.le_refl _) (.int .i64 f)).setCell (p := ⟨w.heap.size, 2, none⟩) (Nat.le_refl _) (.int .i64 st)).setCell (p := ⟨w.heap.size, 3, none⟩) (Nat.le_refl _) (.int .i64 ct)).setCell (p := ⟨w.heap.size, 4, none⟩) (Nat.le_refl _) (.int .i64 wd)
  clear hs1 hs2 hb2 hb1 hE1 hE2 hF
  go_wp2_with fail
  exact bodyPost_ret (v := vBatch s f st ct wd) (by simp [results, Tryd.results21, go_sem, c0, c1, c2, c3, c4]) rfl ⟨s, f, st, ct, wd, rfl, hsz, hfin⟩
theorem btV_size (s : ByteArray) (f st c wd : Int) : (btV s f st c wd).size ≤ 200 := by
  unfold btV
  split
  · rename_i h
    obtain ⟨na, nb, nd, ne, rfl, rfl, rfl, rfl, h1⟩ := bat_nat h.2.2
    obtain ⟨h2, h3, h4, h5, h6, h7⟩ := h.2.2
    have hs := h.2.1
    have e1 := dec_le na (by omega) (by omega); have e2 := dec_le nb (by omega) (by omega); have e3 := dec_le nd (by omega) (by omega); have e4 := dec_le ne (by omega) (by omega)
    have e5 : slB.size = 1 := rfl
    unfold batT
    simp only [ByteArray.size_append]
    omega
  · show ByteArray.empty.size ≤ 200
    decide
/-- A text has been drawn and nothing old turned. -/
def TxF (n : Nat) (w : World) (e : Ending) (w' : World) : Prop := ∃ t : ByteArray, e = .returned (.string t) ∧ t.size ≤ n ∧ Ext w w'
set_option maxHeartbeats 800000 in
set_option maxRecDepth 100000 in
theorem DrawReadBatch_c (p : Option Addr) (c : Nat) (code : List Int) (w : World) (hx : U8At w p code) (hl : code.length ≤ 4096) :
    Calls Tryd.prog 24 #[.slice p code.length c] w fun e w' => TxF 201 w e w' := by
  have HX := Lib.hid hx; clear hx
  go_enter Tryd.func24, Tryd.ntmps24
  go_wp2_with (go_at_call 46; (with_reducible refine (From_c p c code _ (HX.out.ext (by repeat (first | exact Ext.refl _ | assumption | refine Ext.drew ?_ | refine Ext.drewN ?_ _ | refine Ext.iter ?_ _ _ | refine Ext.alloc ?_ _ | refine Ext.setCell ?_ (by first | exact Nat.le_refl _ | (simp <;> omega)) _ | refine Ext.trans2 (by assumption) ?_))) hl).mono ?_); rintro e w1 ⟨⟨g, rfl, hg, hs1⟩, hW1⟩; replace hg := Lib.hid hg)
  replace hg := hg.out
  have hn1 : g < w1.heap.size := hs1.lt
  rw [← hg] at hs1
  have hgw : w.heap.size ≤ g := by omega
  clear hg HX
  refine (l31Draw_c (g + 1) g _ hs1 (by omega)).mono ?_
  rintro e w2 ⟨s, f, st, ct, wd, rfl, hsz, hs2, hb2⟩
  have hE2 := hW1.but hb2 (by omega)
  have hz2 := hb2.size
  have hbt := Lib.hid (fun W => sBatchText_c s f st ct wd W (by omega))
  have hts := btV_size s f st ct wd
  generalize btV s f st ct wd = t at *
  clear hs1 hb2 hW1
  go_wp2_with fail
  refine (hbt.out _).mono ?_
  rintro e w3 ⟨rfl, hx3⟩
  have hs3 := hs2.ext hx3
  have hE3 := hE2.trans hx3
  have hz3 := hx3.below.size
  clear hs2 hE2 hx3 hbt
  go_wp2_with fail
  refine (Next_c (g + 1) g 3 _ hs3 (by omega)).mono ?_
  rintro e w4 ⟨z, rfl, -, -, -, hs4, hb4⟩
  have hE4 := hE3.but hb4 (by omega)
  have hz4 := hb4.size
  clear hs3 hE3 hb4
  by_cases h0 : z = 0
  · subst h0
    go_wp2_with fail
    refine (l01Damage_c (g + 1) g t _ hs4 (by omega) (by omega)).mono ?_
    rintro e w5 ⟨u, rfl, hu, hs5, hb5⟩
    have hE5 := hE4.but hb5 (by omega)
    clear hs4 hs5 hb5 hE4
    go_wp2
    go_ret
    exact ⟨u, rfl, by omega, hE5⟩
  · have h0b : (z == 0) = false := by simpa using h0
    go_wp2
    go_ret
    exact ⟨t, rfl, by omega, hE4⟩
end Go.Proofs.YthpnkcamjcohgaaDoor
