
/- Drawn parts with a field and a capacity. -/
import Derived.Test.YtbnpdpmbbppnhaaDrawPart
namespace Go.Proofs.Ytbnpdpmbbppnhaa
set_option linter.unusedVariables false
set_option linter.unusedSimpArgs false
open Go.RowKit

/-- A field, a part and a capacity have been drawn. -/
def PartE (w : World) (e : Ending) (w' : World) : Prop := ∃ (p k q i n y : Int) (t : ByteArray) (cap : Int), e = .returned (.tuple #[vFld p k q, vPart i n y t, .int .i64 cap]) ∧ t.size ≤ 500 ∧ Ext w w'
theorem capB (j : Nat) (hj : j < 3) : ∃ v : Int, (#[.int .i64 0, .int .i64 1500, .int .i64 1501] : Array Value)[j]? = some (.int .i64 v) := by
  match j, hj with
  | 0, _ => exact ⟨_, rfl⟩
  | 1, _ => exact ⟨_, rfl⟩
  | 2, _ => exact ⟨_, rfl⟩
set_option maxHeartbeats 1600000 in
set_option maxRecDepth 100000 in
theorem DrawEncodePart_c (p : Option Addr) (c : Nat) (code : List Int) (w : World) (hx : U8At w p code) (hl : code.length ≤ 4096) :
    Calls Try.prog 18 #[.slice p code.length c] w fun e w' => PartE w e w' := by
  have HX := Lib.hid hx; clear hx
  have hb := (Blk.new w #[.int .i64 0, .int .i64 0, .int .i64 0] 25).alloc (.cells #[.int .i64 0, .int .i64 0, .int .i64 0, .string ByteArray.empty] 36)
  have hp := Blk.new (w.alloc (.cells #[.int .i64 0, .int .i64 0, .int .i64 0] 25)) #[.int .i64 0, .int .i64 0, .int .i64 0, .string ByteArray.empty] 36
  simp only [World.size_alloc] at hp
  go_enter Try.func18, Try.ntmps18
  go_wp2_with (go_at_call 74; (with_reducible refine (From_c p c code _ (HX.out.ext (by repeat (first | exact Ext.refl _ | assumption | refine Ext.drew ?_ | refine Ext.drewN ?_ _ | refine Ext.iter ?_ _ _ | refine Ext.alloc ?_ _ | refine Ext.setCell ?_ (by first | exact Nat.le_refl _ | (simp <;> omega)) _ | refine Ext.trans2 (by assumption) ?_))) hl).mono ?_); rintro e w1 ⟨⟨g, rfl, hg, hs1⟩, hW1⟩; replace hg := Lib.hid hg)
  replace hg := hg.out
  have hn1 : g < w1.heap.size := hs1.lt
  rw [← hg] at hs1
  simp only [World.size_alloc] at hg
  have hgw : w.heap.size + 1 < g := by omega
  have hb1 := hb.ext hW1
  have hp1 := hp.ext hW1
  have hE1 : Ext w w1 := (((Ext.refl w).alloc _).alloc _).trans hW1
  clear hb hp hW1 hg HX
  refine (l02DrawAny_c (g + 1) g _ hs1 (by omega)).mono ?_
  rintro e w2 ⟨fp, fk, fq, rfl, hbd, hs2, hb2⟩
  have hz2 := hb2.size
  have hbr2 := (hb1.but hb2 (by omega)).alloc (.cells #[.int .i64 fp, .int .i64 fk, .int .i64 fq] 25)
  have hbp2 := (hp1.but hb2 (by omega)).alloc (.cells #[.int .i64 fp, .int .i64 fk, .int .i64 fq] 25)
  have hfl2 := Blk.new w2 #[.int .i64 fp, .int .i64 fk, .int .i64 fq] 25
  have hE2 := (hE1.but hb2 (by omega)).alloc (.cells #[.int .i64 fp, .int .i64 fk, .int .i64 fq] 25)
  have hs2' := hs2.alloc (.cells #[.int .i64 fp, .int .i64 fk, .int .i64 fq] 25)
  have hf : w2.heap.size < (w2.alloc (.cells #[.int .i64 fp, .int .i64 fk, .int .i64 fq] 25)).heap.size := by simp
  have hfg : w2.heap.size ≠ g := by omega
  have hfw : w.heap.size + 1 < w2.heap.size := by omega
  have hgf : g < w2.heap.size := by omega
  clear hs1 hs2 hb2 hb1 hE1 hp1
  go_wp2_with fail
  generalize w2.alloc (.cells #[.int .i64 fp, .int .i64 fk, .int .i64 fq] 25) = w3 at *
  generalize w2.heap.size = f at *
  refine (l12Draw_c (g + 1) g _ hs2' (by omega)).mono ?_
  rintro e w4 ⟨i, n, y, t, rfl, ht, hs4, hb4⟩
  have hz4 := hb4.size
  have hbr4 := (hbr2.but hb4 (by omega)).alloc (.cells #[.int .i64 i, .int .i64 n, .int .i64 y, .string t] 36)
  have hbp4 := (hbp2.but hb4 (by omega)).alloc (.cells #[.int .i64 i, .int .i64 n, .int .i64 y, .string t] 36)
  have hfl4 := (hfl2.but hb4 hfg).alloc (.cells #[.int .i64 i, .int .i64 n, .int .i64 y, .string t] 36)
  have hxl4 := Blk.new w4 #[.int .i64 i, .int .i64 n, .int .i64 y, .string t] 36
  have hE4 := (hE2.but hb4 (by omega)).alloc (.cells #[.int .i64 i, .int .i64 n, .int .i64 y, .string t] 36)
  have hs4' := hs4.alloc (.cells #[.int .i64 i, .int .i64 n, .int .i64 y, .string t] 36)
  have hxg : w4.heap.size ≠ g := by omega
  have hxw : w.heap.size + 1 < w4.heap.size := by omega
  have hxz : w4.heap.size < (w4.alloc (.cells #[.int .i64 i, .int .i64 n, .int .i64 y, .string t] 36)).heap.size := by simp
  clear hs2' hb4 hE2 hbr2 hbp2 hfl2 hs4
  have x0 := hfl4.cell (i := 0) (v := .int .i64 fp) rfl; have x1 := hfl4.cell (i := 1) (v := .int .i64 fk) rfl; have x2 := hfl4.cell (i := 2) (v := .int .i64 fq) rfl; have y0 := hxl4.cell (i := 0) (v := .int .i64 i) rfl; have y1 := hxl4.cell (i := 1) (v := .int .i64 n) rfl; have y2 := hxl4.cell (i := 2) (v := .int .i64 y) rfl; have y3 := hxl4.cell (i := 3) (v := .string t) rfl
  have xl := hfl4.lt; have yl := hxl4.lt
  have ht2 : t.size ≤ 1048576 := by omega
  have hps := Lib.hid (fun W => sPayloadSize_c fp fk fq t W ht2)
  have hpv := psV_bd fp fk fq t
  generalize (psV fp fk fq t).1 = R at *
  generalize (psV fp fk fq t).2 = RC at *
  go_wp2_with fail
  clear x0 x1 x2 y0 y1 y2 y3 xl yl
  generalize w4.alloc (.cells #[.int .i64 i, .int .i64 n, .int .i64 y, .string t] 36) = w5 at *
  generalize w4.heap.size = x at *
  refine (hps.out _).mono ?_
  rintro e w6 ⟨rfl, hx6⟩
  have hs6 := hs4'.ext hx6
  have hz6 := hx6.below.size
  go_wp2_with fail
  refine (Next_c (g + 1) g 24 _ hs6 (by omega)).mono ?_
  rintro e w7 ⟨nn, rfl, -, -, -, hs7, hb7⟩
  have hz7 := hb7.size
  have hbr6 := (hbr4.ext hx6).but hb7 (by omega)
  have hbp6 := (hbp4.ext hx6).but hb7 (by omega)
  have hfl6 := (hfl4.ext hx6).but hb7 hfg
  have hxl6 := (hxl4.ext hx6).but hb7 hxg
  have hE6 := (hE4.trans hx6).but hb7 (by omega)
  have hxz7 : x < w7.heap.size := by omega
  clear hbr4 hbp4 hfl4 hxl4 hE4 hx6 hb7 hs6 hs4' hps
  go_wp2_with fail
  · skip
    refine wp_region_c3 (fun w' => Blk w' f #[.int .i64 fp, .int .i64 fk, .int .i64 fq] 25 ∧ Blk w' x #[.int .i64 i, .int .i64 n, .int .i64 y, .string t] 36) (.st 0 (.st 1 (.st 3 (.two 2 (.one 4 (.st 5 (.two 6 (.one 7 (.one 8 (.st 9 .done))) 7 (.two 6 (.one 8 (.st 9 .done)) 8 (.one 6 (.st 9 .done)))))) 4 (.two 2 (.st 5 (.two 6 (.one 7 (.one 8 (.st 9 .done))) 7 (.two 6 (.one 8 (.st 9 .done)) 8 (.one 6 (.st 9 .done))))) 7 (.two 2 (.st 5 (.two 6 (.one 8 (.st 9 .done)) 8 (.one 6 (.st 9 .done)))) 8 (.one 2 (.st 5 (.one 6 (.st 9 .done)))))))))) (by kernel_rfl) (by kernel_rfl) (by decide) (by kernel_rfl) ?_ ?_
    · exact ⟨hfl6.drew, hxl6.drew⟩
    refine c3_intro fun ops eo => ?_
    have ho0 := canon_at eo 0 rfl
    have ho1 := canon_at eo 1 rfl
    have ho2 := canon_at eo 2 rfl
    have ho3 := canon_at eo 3 rfl
    have ho4 := canon_at eo 4 rfl
    have ho5 := canon_at eo 5 rfl
    have ho6 := canon_at eo 6 rfl
    have ho7 := canon_at eo 7 rfl
    have ho8 := canon_at eo 8 rfl
    have ho9 := canon_at eo 9 rfl
    clear eo
    all_goals (apply c3_st ho0 rfl; (intro w2 hS; first | (go_simp; first | done | rfl) | rfl | (obtain ⟨hS1, hS2⟩ := hS; have x0 := hS1.cell (i := 0) (v := .int .i64 fp) rfl; have x1 := hS1.cell (i := 1) (v := .int .i64 fk) rfl; have x2 := hS1.cell (i := 2) (v := .int .i64 fq) rfl; have y0 := hS2.cell (i := 0) (v := .int .i64 i) rfl; have y1 := hS2.cell (i := 1) (v := .int .i64 n) rfl; have y2 := hS2.cell (i := 2) (v := .int .i64 y) rfl; have y3 := hS2.cell (i := 3) (v := .string t) rfl; go_simp; first | done | rfl)); simp only [Act.put, List.setIfInBounds_toArray, List.set_cons_zero, List.set_cons_succ])
    all_goals clear ho0
    all_goals (apply c3_st ho1 rfl; (intro w2 hS; first | (go_simp; first | done | rfl) | rfl | (obtain ⟨hS1, hS2⟩ := hS; have x0 := hS1.cell (i := 0) (v := .int .i64 fp) rfl; have x1 := hS1.cell (i := 1) (v := .int .i64 fk) rfl; have x2 := hS1.cell (i := 2) (v := .int .i64 fq) rfl; have y0 := hS2.cell (i := 0) (v := .int .i64 i) rfl; have y1 := hS2.cell (i := 1) (v := .int .i64 n) rfl; have y2 := hS2.cell (i := 2) (v := .int .i64 y) rfl; have y3 := hS2.cell (i := 3) (v := .string t) rfl; go_simp; first | done | rfl)); simp only [Act.put, List.setIfInBounds_toArray, List.set_cons_zero, List.set_cons_succ])
    all_goals clear ho1
    all_goals (apply c3_st ho3 rfl; (intro w2 hS; first | (go_simp; first | done | rfl) | rfl | (obtain ⟨hS1, hS2⟩ := hS; have x0 := hS1.cell (i := 0) (v := .int .i64 fp) rfl; have x1 := hS1.cell (i := 1) (v := .int .i64 fk) rfl; have x2 := hS1.cell (i := 2) (v := .int .i64 fq) rfl; have y0 := hS2.cell (i := 0) (v := .int .i64 i) rfl; have y1 := hS2.cell (i := 1) (v := .int .i64 n) rfl; have y2 := hS2.cell (i := 2) (v := .int .i64 y) rfl; have y3 := hS2.cell (i := 3) (v := .string t) rfl; go_simp; first | done | rfl)); simp only [Act.put, List.setIfInBounds_toArray, List.set_cons_zero, List.set_cons_succ])
    all_goals clear ho3
    all_goals
      refine c3_two ?_ ?_
      rotate_right 1
      focus
        all_goals first | (refine c3_op ho4 rfl (fun K hK => ?_); go_simp; ((go_at_call 83; (with_reducible refine (Next_c (g + 1) g 3 _ (hs7.ext (by repeat (first | exact Ext.refl _ | assumption | refine Ext.drew ?_ | refine Ext.drewN ?_ _ | refine Ext.iter ?_ _ _ | refine Ext.alloc ?_ _ | refine Ext.setCell ?_ (by first | exact Nat.le_refl _ | (simp <;> omega)) _ | refine Ext.trans2 (by assumption) ?_))) (by omega)).mono ?_); rintro e w8 ⟨zz, rfl, hz0, hz3, -, hs8, hb8⟩; replace hz3 := hz3 (by omega); have hfl7 : Blk w8 f #[.int .i64 fp, .int .i64 fk, .int .i64 fq] 25 := Blk.but (Blk.ext hfl6 (by repeat (first | exact Ext.refl _ | assumption | refine Ext.drew ?_ | refine Ext.drewN ?_ _ | refine Ext.iter ?_ _ _ | refine Ext.alloc ?_ _ | refine Ext.setCell ?_ (by first | exact Nat.le_refl _ | (simp <;> omega)) _ | refine Ext.trans2 (by assumption) ?_))) hb8 hfg; have hxl7 : Blk w8 x #[.int .i64 i, .int .i64 n, .int .i64 y, .string t] 36 := Blk.but (Blk.ext hxl6 (by repeat (first | exact Ext.refl _ | assumption | refine Ext.drew ?_ | refine Ext.drewN ?_ _ | refine Ext.iter ?_ _ _ | refine Ext.alloc ?_ _ | refine Ext.setCell ?_ (by first | exact Nat.le_refl _ | (simp <;> omega)) _ | refine Ext.trans2 (by assumption) ?_))) hb8 hxg; have hbr7 : Blk w8 w.heap.size #[.int .i64 0, .int .i64 0, .int .i64 0] 25 := Blk.but (Blk.ext hbr6 (by repeat (first | exact Ext.refl _ | assumption | refine Ext.drew ?_ | refine Ext.drewN ?_ _ | refine Ext.iter ?_ _ _ | refine Ext.alloc ?_ _ | refine Ext.setCell ?_ (by first | exact Nat.le_refl _ | (simp <;> omega)) _ | refine Ext.trans2 (by assumption) ?_))) hb8 (by omega); have hbp7 : Blk w8 (w.heap.size + 1) #[.int .i64 0, .int .i64 0, .int .i64 0, .string ByteArray.empty] 36 := Blk.but (Blk.ext hbp6 (by repeat (first | exact Ext.refl _ | assumption | refine Ext.drew ?_ | refine Ext.drewN ?_ _ | refine Ext.iter ?_ _ _ | refine Ext.alloc ?_ _ | refine Ext.setCell ?_ (by first | exact Nat.le_refl _ | (simp <;> omega)) _ | refine Ext.trans2 (by assumption) ?_))) hb8 (by omega); have hE7 : Ext w w8 := Ext.but (Ext.trans hE6 (by repeat (first | exact Ext.refl _ | assumption | refine Ext.drew ?_ | refine Ext.drewN ?_ _ | refine Ext.iter ?_ _ _ | refine Ext.alloc ?_ _ | refine Ext.setCell ?_ (by first | exact Nat.le_refl _ | (simp <;> omega)) _ | refine Ext.trans2 (by assumption) ?_))) hb8 (by omega); have hl7 := hbr7.lt; have hm7 := hbp7.lt; have r0 := hbr7.cell (i := 0) (v := .int .i64 0) rfl; have r1 := hbr7.cell (i := 1) (v := .int .i64 0) rfl; have r2 := hbr7.cell (i := 2) (v := .int .i64 0) rfl; have s0 := hbp7.cell (i := 0) (v := .int .i64 0) rfl; have s1 := hbp7.cell (i := 1) (v := .int .i64 0) rfl; have s2 := hbp7.cell (i := 2) (v := .int .i64 0) rfl; have s3 := hbp7.cell (i := 3) (v := .string ByteArray.empty) rfl; have hrf := hbr7.free; have hsf := hbp7.free; obtain ⟨zn, rfl⟩ : ∃ zn : Nat, zz = zn := ⟨zz.toNat, by omega⟩; have hzn : (zn : Int) < 3 := hz3; obtain ⟨v, hv⟩ := capB zn (by omega); have sC := (Blk.new w8 #[.int .i64 0, .int .i64 1500, .int .i64 1501] 2).cell hv; (try simp only [World.size_setCell] at sC); have sD := (Blk.new (((w8.setCell ⟨w.heap.size, 0, none⟩ (.int .i64 fp)).setCell ⟨w.heap.size, 1, none⟩ (.int .i64 fk)).setCell ⟨w.heap.size, 2, none⟩ (.int .i64 fq)) #[.int .i64 0, .int .i64 1500, .int .i64 1501] 2).cell hv; (try simp only [World.size_setCell] at sD); have sE := (Blk.new (((((((w8.setCell ⟨w.heap.size, 0, none⟩ (.int .i64 fp)).setCell ⟨w.heap.size, 1, none⟩ (.int .i64 fk)).setCell ⟨w.heap.size, 2, none⟩ (.int .i64 fq)).setCell ⟨w.heap.size + 1, 0, none⟩ (.int .i64 i)).setCell ⟨w.heap.size + 1, 1, none⟩ (.int .i64 n)).setCell ⟨w.heap.size + 1, 2, none⟩ (.int .i64 y)).setCell ⟨w.heap.size + 1, 3, none⟩ (.string t)) #[.int .i64 0, .int .i64 1500, .int .i64 1501] 2).cell hv; (try simp only [World.size_setCell] at sE); try (have sA := (Blk.but (Blk.drew (Blk.new w7 #[.int .i64 0, .int .i64 1500, .int .i64 1501] 2)) hb8 (by show w7.heap.size ≠ g; omega)).cell hv; have sB := (Blk.but (Blk.drew (Blk.new w7 #[.int .i64 0, .int .i64 1500, .int .i64 1501] 2)) hb8 (by show w7.heap.size ≠ g; omega)).lt))); all_goals ((with_reducible refine hK _ _ ?_); refine ⟨by constructor <;> repeat (first | with_reducible assumption | with_reducible refine Blk.drew ?_ | with_reducible refine Blk.alloc ?_ _ | with_reducible refine Blk.far ?_ (by omega) _), ?_⟩; clear hK K; go_simp))
        all_goals clear ho4
        all_goals
          refine c3_two ?_ ?_
          rotate_right 1
          focus
            all_goals first | (refine c3_op ho7 rfl (fun K hK => ?_); go_simp; (skip); all_goals ((with_reducible refine hK _ _ ?_); refine ⟨by constructor <;> repeat (first | with_reducible assumption | with_reducible refine Blk.drew ?_ | with_reducible refine Blk.alloc ?_ _ | with_reducible refine Blk.far ?_ (by omega) _), ?_⟩; clear hK K; go_simp))
            all_goals clear ho7
            all_goals
              refine c3_two ?_ ?_
              rotate_right 1
              focus
                all_goals first | (refine c3_op ho8 rfl (fun K hK => ?_); go_simp; (skip); all_goals ((with_reducible refine hK _ _ ?_); refine ⟨by constructor <;> repeat (first | with_reducible assumption | with_reducible refine Blk.drew ?_ | with_reducible refine Blk.alloc ?_ _ | with_reducible refine Blk.far ?_ (by omega) _), ?_⟩; clear hK K; go_simp))
                all_goals clear ho8
                all_goals refine c3_one ?_
                all_goals first | (refine c3_op ho2 rfl (fun K hK => ?_); go_simp; (skip); all_goals ((with_reducible refine hK _ _ ?_); refine ⟨by constructor <;> repeat (first | with_reducible assumption | with_reducible refine Blk.drew ?_ | with_reducible refine Blk.alloc ?_ _ | with_reducible refine Blk.far ?_ (by omega) _), ?_⟩; clear hK K; go_simp))
                all_goals clear ho2
                all_goals (apply c3_st ho5 rfl; (intro w2 hS; first | (go_simp; first | done | rfl) | rfl | (obtain ⟨hS1, hS2⟩ := hS; have x0 := hS1.cell (i := 0) (v := .int .i64 fp) rfl; have x1 := hS1.cell (i := 1) (v := .int .i64 fk) rfl; have x2 := hS1.cell (i := 2) (v := .int .i64 fq) rfl; have y0 := hS2.cell (i := 0) (v := .int .i64 i) rfl; have y1 := hS2.cell (i := 1) (v := .int .i64 n) rfl; have y2 := hS2.cell (i := 2) (v := .int .i64 y) rfl; have y3 := hS2.cell (i := 3) (v := .string t) rfl; go_simp; first | done | rfl)); simp only [Act.put, List.setIfInBounds_toArray, List.set_cons_zero, List.set_cons_succ])
                all_goals clear ho5
                all_goals refine c3_one ?_
                all_goals first | (refine c3_op ho6 rfl (fun K hK => ?_); go_simp; (skip); all_goals ((with_reducible refine hK _ _ ?_); refine ⟨by constructor <;> repeat (first | with_reducible assumption | with_reducible refine Blk.drew ?_ | with_reducible refine Blk.alloc ?_ _ | with_reducible refine Blk.far ?_ (by omega) _), ?_⟩; clear hK K; go_simp))
                all_goals clear ho6
                all_goals (apply c3_st ho9 rfl; (intro w2 hS; first | (go_simp; first | done | rfl) | rfl | (obtain ⟨hS1, hS2⟩ := hS; have x0 := hS1.cell (i := 0) (v := .int .i64 fp) rfl; have x1 := hS1.cell (i := 1) (v := .int .i64 fk) rfl; have x2 := hS1.cell (i := 2) (v := .int .i64 fq) rfl; have y0 := hS2.cell (i := 0) (v := .int .i64 i) rfl; have y1 := hS2.cell (i := 1) (v := .int .i64 n) rfl; have y2 := hS2.cell (i := 2) (v := .int .i64 y) rfl; have y3 := hS2.cell (i := 3) (v := .string t) rfl; go_simp; first | done | rfl)); simp only [Act.put, List.setIfInBounds_toArray, List.set_cons_zero, List.set_cons_succ])
                all_goals clear ho9
                all_goals refine c3_done (NoPanic.normal ?_)
              rotate_right 1
              focus
                all_goals first | (refine c3_op ho2 rfl (fun K hK => ?_); go_simp; (skip); all_goals ((with_reducible refine hK _ _ ?_); refine ⟨by constructor <;> repeat (first | with_reducible assumption | with_reducible refine Blk.drew ?_ | with_reducible refine Blk.alloc ?_ _ | with_reducible refine Blk.far ?_ (by omega) _), ?_⟩; clear hK K; go_simp))
                all_goals clear ho2
                all_goals (apply c3_st ho5 rfl; (intro w2 hS; first | (go_simp; first | done | rfl) | rfl | (obtain ⟨hS1, hS2⟩ := hS; have x0 := hS1.cell (i := 0) (v := .int .i64 fp) rfl; have x1 := hS1.cell (i := 1) (v := .int .i64 fk) rfl; have x2 := hS1.cell (i := 2) (v := .int .i64 fq) rfl; have y0 := hS2.cell (i := 0) (v := .int .i64 i) rfl; have y1 := hS2.cell (i := 1) (v := .int .i64 n) rfl; have y2 := hS2.cell (i := 2) (v := .int .i64 y) rfl; have y3 := hS2.cell (i := 3) (v := .string t) rfl; go_simp; first | done | rfl)); simp only [Act.put, List.setIfInBounds_toArray, List.set_cons_zero, List.set_cons_succ])
                all_goals clear ho5
                all_goals
                  refine c3_two ?_ ?_
                  rotate_right 1
                  focus
                    all_goals first | (refine c3_op ho8 rfl (fun K hK => ?_); go_simp; (skip); all_goals ((with_reducible refine hK _ _ ?_); refine ⟨by constructor <;> repeat (first | with_reducible assumption | with_reducible refine Blk.drew ?_ | with_reducible refine Blk.alloc ?_ _ | with_reducible refine Blk.far ?_ (by omega) _), ?_⟩; clear hK K; go_simp))
                    all_goals clear ho8
                    all_goals refine c3_one ?_
                    all_goals first | (refine c3_op ho6 rfl (fun K hK => ?_); go_simp; (skip); all_goals ((with_reducible refine hK _ _ ?_); refine ⟨by constructor <;> repeat (first | with_reducible assumption | with_reducible refine Blk.drew ?_ | with_reducible refine Blk.alloc ?_ _ | with_reducible refine Blk.far ?_ (by omega) _), ?_⟩; clear hK K; go_simp))
                    all_goals clear ho6
                    all_goals (apply c3_st ho9 rfl; (intro w2 hS; first | (go_simp; first | done | rfl) | rfl | (obtain ⟨hS1, hS2⟩ := hS; have x0 := hS1.cell (i := 0) (v := .int .i64 fp) rfl; have x1 := hS1.cell (i := 1) (v := .int .i64 fk) rfl; have x2 := hS1.cell (i := 2) (v := .int .i64 fq) rfl; have y0 := hS2.cell (i := 0) (v := .int .i64 i) rfl; have y1 := hS2.cell (i := 1) (v := .int .i64 n) rfl; have y2 := hS2.cell (i := 2) (v := .int .i64 y) rfl; have y3 := hS2.cell (i := 3) (v := .string t) rfl; go_simp; first | done | rfl)); simp only [Act.put, List.setIfInBounds_toArray, List.set_cons_zero, List.set_cons_succ])
                    all_goals clear ho9
                    all_goals refine c3_done (NoPanic.normal ?_)
                  rotate_right 1
                  focus
                    all_goals first | (refine c3_op ho6 rfl (fun K hK => ?_); go_simp; (skip); all_goals ((with_reducible refine hK _ _ ?_); refine ⟨by constructor <;> repeat (first | with_reducible assumption | with_reducible refine Blk.drew ?_ | with_reducible refine Blk.alloc ?_ _ | with_reducible refine Blk.far ?_ (by omega) _), ?_⟩; clear hK K; go_simp))
                    all_goals clear ho6
                    all_goals refine c3_one ?_
                    all_goals first | (refine c3_op ho8 rfl (fun K hK => ?_); go_simp; (skip); all_goals ((with_reducible refine hK _ _ ?_); refine ⟨by constructor <;> repeat (first | with_reducible assumption | with_reducible refine Blk.drew ?_ | with_reducible refine Blk.alloc ?_ _ | with_reducible refine Blk.far ?_ (by omega) _), ?_⟩; clear hK K; go_simp))
                    all_goals clear ho8
                    all_goals (apply c3_st ho9 rfl; (intro w2 hS; first | (go_simp; first | done | rfl) | rfl | (obtain ⟨hS1, hS2⟩ := hS; have x0 := hS1.cell (i := 0) (v := .int .i64 fp) rfl; have x1 := hS1.cell (i := 1) (v := .int .i64 fk) rfl; have x2 := hS1.cell (i := 2) (v := .int .i64 fq) rfl; have y0 := hS2.cell (i := 0) (v := .int .i64 i) rfl; have y1 := hS2.cell (i := 1) (v := .int .i64 n) rfl; have y2 := hS2.cell (i := 2) (v := .int .i64 y) rfl; have y3 := hS2.cell (i := 3) (v := .string t) rfl; go_simp; first | done | rfl)); simp only [Act.put, List.setIfInBounds_toArray, List.set_cons_zero, List.set_cons_succ])
                    all_goals clear ho9
                    all_goals refine c3_done (NoPanic.normal ?_)
          rotate_right 1
          focus
            all_goals first | (refine c3_op ho2 rfl (fun K hK => ?_); go_simp; (skip); all_goals ((with_reducible refine hK _ _ ?_); refine ⟨by constructor <;> repeat (first | with_reducible assumption | with_reducible refine Blk.drew ?_ | with_reducible refine Blk.alloc ?_ _ | with_reducible refine Blk.far ?_ (by omega) _), ?_⟩; clear hK K; go_simp))
            all_goals clear ho2
            all_goals (apply c3_st ho5 rfl; (intro w2 hS; first | (go_simp; first | done | rfl) | rfl | (obtain ⟨hS1, hS2⟩ := hS; have x0 := hS1.cell (i := 0) (v := .int .i64 fp) rfl; have x1 := hS1.cell (i := 1) (v := .int .i64 fk) rfl; have x2 := hS1.cell (i := 2) (v := .int .i64 fq) rfl; have y0 := hS2.cell (i := 0) (v := .int .i64 i) rfl; have y1 := hS2.cell (i := 1) (v := .int .i64 n) rfl; have y2 := hS2.cell (i := 2) (v := .int .i64 y) rfl; have y3 := hS2.cell (i := 3) (v := .string t) rfl; go_simp; first | done | rfl)); simp only [Act.put, List.setIfInBounds_toArray, List.set_cons_zero, List.set_cons_succ])
            all_goals clear ho5
            all_goals
              refine c3_two ?_ ?_
              rotate_right 1
              focus
                all_goals first | (refine c3_op ho7 rfl (fun K hK => ?_); go_simp; (skip); all_goals ((with_reducible refine hK _ _ ?_); refine ⟨by constructor <;> repeat (first | with_reducible assumption | with_reducible refine Blk.drew ?_ | with_reducible refine Blk.alloc ?_ _ | with_reducible refine Blk.far ?_ (by omega) _), ?_⟩; clear hK K; go_simp))
                all_goals clear ho7
                all_goals
                  refine c3_two ?_ ?_
                  rotate_right 1
                  focus
                    all_goals first | (refine c3_op ho8 rfl (fun K hK => ?_); go_simp; (skip); all_goals ((with_reducible refine hK _ _ ?_); refine ⟨by constructor <;> repeat (first | with_reducible assumption | with_reducible refine Blk.drew ?_ | with_reducible refine Blk.alloc ?_ _ | with_reducible refine Blk.far ?_ (by omega) _), ?_⟩; clear hK K; go_simp))
                    all_goals clear ho8
                    all_goals refine c3_one ?_
                    all_goals first | (refine c3_op ho6 rfl (fun K hK => ?_); go_simp; (skip); all_goals ((with_reducible refine hK _ _ ?_); refine ⟨by constructor <;> repeat (first | with_reducible assumption | with_reducible refine Blk.drew ?_ | with_reducible refine Blk.alloc ?_ _ | with_reducible refine Blk.far ?_ (by omega) _), ?_⟩; clear hK K; go_simp))
                    all_goals clear ho6
                    all_goals (apply c3_st ho9 rfl; (intro w2 hS; first | (go_simp; first | done | rfl) | rfl | (obtain ⟨hS1, hS2⟩ := hS; have x0 := hS1.cell (i := 0) (v := .int .i64 fp) rfl; have x1 := hS1.cell (i := 1) (v := .int .i64 fk) rfl; have x2 := hS1.cell (i := 2) (v := .int .i64 fq) rfl; have y0 := hS2.cell (i := 0) (v := .int .i64 i) rfl; have y1 := hS2.cell (i := 1) (v := .int .i64 n) rfl; have y2 := hS2.cell (i := 2) (v := .int .i64 y) rfl; have y3 := hS2.cell (i := 3) (v := .string t) rfl; go_simp; first | done | rfl)); simp only [Act.put, List.setIfInBounds_toArray, List.set_cons_zero, List.set_cons_succ])
                    all_goals clear ho9
                    all_goals refine c3_done (NoPanic.normal ?_)
                  rotate_right 1
                  focus
                    all_goals first | (refine c3_op ho6 rfl (fun K hK => ?_); go_simp; (skip); all_goals ((with_reducible refine hK _ _ ?_); refine ⟨by constructor <;> repeat (first | with_reducible assumption | with_reducible refine Blk.drew ?_ | with_reducible refine Blk.alloc ?_ _ | with_reducible refine Blk.far ?_ (by omega) _), ?_⟩; clear hK K; go_simp))
                    all_goals clear ho6
                    all_goals refine c3_one ?_
                    all_goals first | (refine c3_op ho8 rfl (fun K hK => ?_); go_simp; (skip); all_goals ((with_reducible refine hK _ _ ?_); refine ⟨by constructor <;> repeat (first | with_reducible assumption | with_reducible refine Blk.drew ?_ | with_reducible refine Blk.alloc ?_ _ | with_reducible refine Blk.far ?_ (by omega) _), ?_⟩; clear hK K; go_simp))
                    all_goals clear ho8
                    all_goals (apply c3_st ho9 rfl; (intro w2 hS; first | (go_simp; first | done | rfl) | rfl | (obtain ⟨hS1, hS2⟩ := hS; have x0 := hS1.cell (i := 0) (v := .int .i64 fp) rfl; have x1 := hS1.cell (i := 1) (v := .int .i64 fk) rfl; have x2 := hS1.cell (i := 2) (v := .int .i64 fq) rfl; have y0 := hS2.cell (i := 0) (v := .int .i64 i) rfl; have y1 := hS2.cell (i := 1) (v := .int .i64 n) rfl; have y2 := hS2.cell (i := 2) (v := .int .i64 y) rfl; have y3 := hS2.cell (i := 3) (v := .string t) rfl; go_simp; first | done | rfl)); simp only [Act.put, List.setIfInBounds_toArray, List.set_cons_zero, List.set_cons_succ])
                    all_goals clear ho9
                    all_goals refine c3_done (NoPanic.normal ?_)
              rotate_right 1
              focus
                all_goals first | (refine c3_op ho6 rfl (fun K hK => ?_); go_simp; (skip); all_goals ((with_reducible refine hK _ _ ?_); refine ⟨by constructor <;> repeat (first | with_reducible assumption | with_reducible refine Blk.drew ?_ | with_reducible refine Blk.alloc ?_ _ | with_reducible refine Blk.far ?_ (by omega) _), ?_⟩; clear hK K; go_simp))
                all_goals clear ho6
                all_goals refine c3_one ?_
                all_goals first | (refine c3_op ho7 rfl (fun K hK => ?_); go_simp; (skip); all_goals ((with_reducible refine hK _ _ ?_); refine ⟨by constructor <;> repeat (first | with_reducible assumption | with_reducible refine Blk.drew ?_ | with_reducible refine Blk.alloc ?_ _ | with_reducible refine Blk.far ?_ (by omega) _), ?_⟩; clear hK K; go_simp))
                all_goals clear ho7
                all_goals refine c3_one ?_
                all_goals first | (refine c3_op ho8 rfl (fun K hK => ?_); go_simp; (skip); all_goals ((with_reducible refine hK _ _ ?_); refine ⟨by constructor <;> repeat (first | with_reducible assumption | with_reducible refine Blk.drew ?_ | with_reducible refine Blk.alloc ?_ _ | with_reducible refine Blk.far ?_ (by omega) _), ?_⟩; clear hK K; go_simp))
                all_goals clear ho8
                all_goals (apply c3_st ho9 rfl; (intro w2 hS; first | (go_simp; first | done | rfl) | rfl | (obtain ⟨hS1, hS2⟩ := hS; have x0 := hS1.cell (i := 0) (v := .int .i64 fp) rfl; have x1 := hS1.cell (i := 1) (v := .int .i64 fk) rfl; have x2 := hS1.cell (i := 2) (v := .int .i64 fq) rfl; have y0 := hS2.cell (i := 0) (v := .int .i64 i) rfl; have y1 := hS2.cell (i := 1) (v := .int .i64 n) rfl; have y2 := hS2.cell (i := 2) (v := .int .i64 y) rfl; have y3 := hS2.cell (i := 3) (v := .string t) rfl; go_simp; first | done | rfl)); simp only [Act.put, List.setIfInBounds_toArray, List.set_cons_zero, List.set_cons_succ])
                all_goals clear ho9
                all_goals refine c3_done (NoPanic.normal ?_)
      rotate_right 1
      focus
        all_goals first | (refine c3_op ho2 rfl (fun K hK => ?_); go_simp; (skip); all_goals ((with_reducible refine hK _ _ ?_); refine ⟨by constructor <;> repeat (first | with_reducible assumption | with_reducible refine Blk.drew ?_ | with_reducible refine Blk.alloc ?_ _ | with_reducible refine Blk.far ?_ (by omega) _), ?_⟩; clear hK K; go_simp))
        all_goals clear ho2
        all_goals refine c3_one ?_
        all_goals first | (refine c3_op ho4 rfl (fun K hK => ?_); go_simp; ((go_at_call 83; (with_reducible refine (Next_c (g + 1) g 3 _ (hs7.ext (by repeat (first | exact Ext.refl _ | assumption | refine Ext.drew ?_ | refine Ext.drewN ?_ _ | refine Ext.iter ?_ _ _ | refine Ext.alloc ?_ _ | refine Ext.setCell ?_ (by first | exact Nat.le_refl _ | (simp <;> omega)) _ | refine Ext.trans2 (by assumption) ?_))) (by omega)).mono ?_); rintro e w8 ⟨zz, rfl, hz0, hz3, -, hs8, hb8⟩; replace hz3 := hz3 (by omega); have hfl7 : Blk w8 f #[.int .i64 fp, .int .i64 fk, .int .i64 fq] 25 := Blk.but (Blk.ext hfl6 (by repeat (first | exact Ext.refl _ | assumption | refine Ext.drew ?_ | refine Ext.drewN ?_ _ | refine Ext.iter ?_ _ _ | refine Ext.alloc ?_ _ | refine Ext.setCell ?_ (by first | exact Nat.le_refl _ | (simp <;> omega)) _ | refine Ext.trans2 (by assumption) ?_))) hb8 hfg; have hxl7 : Blk w8 x #[.int .i64 i, .int .i64 n, .int .i64 y, .string t] 36 := Blk.but (Blk.ext hxl6 (by repeat (first | exact Ext.refl _ | assumption | refine Ext.drew ?_ | refine Ext.drewN ?_ _ | refine Ext.iter ?_ _ _ | refine Ext.alloc ?_ _ | refine Ext.setCell ?_ (by first | exact Nat.le_refl _ | (simp <;> omega)) _ | refine Ext.trans2 (by assumption) ?_))) hb8 hxg; have hbr7 : Blk w8 w.heap.size #[.int .i64 0, .int .i64 0, .int .i64 0] 25 := Blk.but (Blk.ext hbr6 (by repeat (first | exact Ext.refl _ | assumption | refine Ext.drew ?_ | refine Ext.drewN ?_ _ | refine Ext.iter ?_ _ _ | refine Ext.alloc ?_ _ | refine Ext.setCell ?_ (by first | exact Nat.le_refl _ | (simp <;> omega)) _ | refine Ext.trans2 (by assumption) ?_))) hb8 (by omega); have hbp7 : Blk w8 (w.heap.size + 1) #[.int .i64 0, .int .i64 0, .int .i64 0, .string ByteArray.empty] 36 := Blk.but (Blk.ext hbp6 (by repeat (first | exact Ext.refl _ | assumption | refine Ext.drew ?_ | refine Ext.drewN ?_ _ | refine Ext.iter ?_ _ _ | refine Ext.alloc ?_ _ | refine Ext.setCell ?_ (by first | exact Nat.le_refl _ | (simp <;> omega)) _ | refine Ext.trans2 (by assumption) ?_))) hb8 (by omega); have hE7 : Ext w w8 := Ext.but (Ext.trans hE6 (by repeat (first | exact Ext.refl _ | assumption | refine Ext.drew ?_ | refine Ext.drewN ?_ _ | refine Ext.iter ?_ _ _ | refine Ext.alloc ?_ _ | refine Ext.setCell ?_ (by first | exact Nat.le_refl _ | (simp <;> omega)) _ | refine Ext.trans2 (by assumption) ?_))) hb8 (by omega); have hl7 := hbr7.lt; have hm7 := hbp7.lt; have r0 := hbr7.cell (i := 0) (v := .int .i64 0) rfl; have r1 := hbr7.cell (i := 1) (v := .int .i64 0) rfl; have r2 := hbr7.cell (i := 2) (v := .int .i64 0) rfl; have s0 := hbp7.cell (i := 0) (v := .int .i64 0) rfl; have s1 := hbp7.cell (i := 1) (v := .int .i64 0) rfl; have s2 := hbp7.cell (i := 2) (v := .int .i64 0) rfl; have s3 := hbp7.cell (i := 3) (v := .string ByteArray.empty) rfl; have hrf := hbr7.free; have hsf := hbp7.free; obtain ⟨zn, rfl⟩ : ∃ zn : Nat, zz = zn := ⟨zz.toNat, by omega⟩; have hzn : (zn : Int) < 3 := hz3; obtain ⟨v, hv⟩ := capB zn (by omega); have sC := (Blk.new w8 #[.int .i64 0, .int .i64 1500, .int .i64 1501] 2).cell hv; (try simp only [World.size_setCell] at sC); have sD := (Blk.new (((w8.setCell ⟨w.heap.size, 0, none⟩ (.int .i64 fp)).setCell ⟨w.heap.size, 1, none⟩ (.int .i64 fk)).setCell ⟨w.heap.size, 2, none⟩ (.int .i64 fq)) #[.int .i64 0, .int .i64 1500, .int .i64 1501] 2).cell hv; (try simp only [World.size_setCell] at sD); have sE := (Blk.new (((((((w8.setCell ⟨w.heap.size, 0, none⟩ (.int .i64 fp)).setCell ⟨w.heap.size, 1, none⟩ (.int .i64 fk)).setCell ⟨w.heap.size, 2, none⟩ (.int .i64 fq)).setCell ⟨w.heap.size + 1, 0, none⟩ (.int .i64 i)).setCell ⟨w.heap.size + 1, 1, none⟩ (.int .i64 n)).setCell ⟨w.heap.size + 1, 2, none⟩ (.int .i64 y)).setCell ⟨w.heap.size + 1, 3, none⟩ (.string t)) #[.int .i64 0, .int .i64 1500, .int .i64 1501] 2).cell hv; (try simp only [World.size_setCell] at sE); try (have sA := (Blk.but (Blk.drew (Blk.new w7 #[.int .i64 0, .int .i64 1500, .int .i64 1501] 2)) hb8 (by show w7.heap.size ≠ g; omega)).cell hv; have sB := (Blk.but (Blk.drew (Blk.new w7 #[.int .i64 0, .int .i64 1500, .int .i64 1501] 2)) hb8 (by show w7.heap.size ≠ g; omega)).lt))); all_goals ((with_reducible refine hK _ _ ?_); refine ⟨by constructor <;> repeat (first | with_reducible assumption | with_reducible refine Blk.drew ?_ | with_reducible refine Blk.alloc ?_ _ | with_reducible refine Blk.far ?_ (by omega) _), ?_⟩; clear hK K; go_simp))
        all_goals clear ho4
        all_goals (apply c3_st ho5 rfl; (intro w2 hS; first | (go_simp; first | done | rfl) | rfl | (obtain ⟨hS1, hS2⟩ := hS; have x0 := hS1.cell (i := 0) (v := .int .i64 fp) rfl; have x1 := hS1.cell (i := 1) (v := .int .i64 fk) rfl; have x2 := hS1.cell (i := 2) (v := .int .i64 fq) rfl; have y0 := hS2.cell (i := 0) (v := .int .i64 i) rfl; have y1 := hS2.cell (i := 1) (v := .int .i64 n) rfl; have y2 := hS2.cell (i := 2) (v := .int .i64 y) rfl; have y3 := hS2.cell (i := 3) (v := .string t) rfl; go_simp; first | done | rfl)); simp only [Act.put, List.setIfInBounds_toArray, List.set_cons_zero, List.set_cons_succ])
        all_goals clear ho5
        all_goals
          refine c3_two ?_ ?_
          rotate_right 1
          focus
            all_goals first | (refine c3_op ho7 rfl (fun K hK => ?_); go_simp; (skip); all_goals ((with_reducible refine hK _ _ ?_); refine ⟨by constructor <;> repeat (first | with_reducible assumption | with_reducible refine Blk.drew ?_ | with_reducible refine Blk.alloc ?_ _ | with_reducible refine Blk.far ?_ (by omega) _), ?_⟩; clear hK K; go_simp))
            all_goals clear ho7
            all_goals
              refine c3_two ?_ ?_
              rotate_right 1
              focus
                all_goals first | (refine c3_op ho8 rfl (fun K hK => ?_); go_simp; (skip); all_goals ((with_reducible refine hK _ _ ?_); refine ⟨by constructor <;> repeat (first | with_reducible assumption | with_reducible refine Blk.drew ?_ | with_reducible refine Blk.alloc ?_ _ | with_reducible refine Blk.far ?_ (by omega) _), ?_⟩; clear hK K; go_simp))
                all_goals clear ho8
                all_goals refine c3_one ?_
                all_goals first | (refine c3_op ho6 rfl (fun K hK => ?_); go_simp; (skip); all_goals ((with_reducible refine hK _ _ ?_); refine ⟨by constructor <;> repeat (first | with_reducible assumption | with_reducible refine Blk.drew ?_ | with_reducible refine Blk.alloc ?_ _ | with_reducible refine Blk.far ?_ (by omega) _), ?_⟩; clear hK K; go_simp))
                all_goals clear ho6
                all_goals (apply c3_st ho9 rfl; (intro w2 hS; first | (go_simp; first | done | rfl) | rfl | (obtain ⟨hS1, hS2⟩ := hS; have x0 := hS1.cell (i := 0) (v := .int .i64 fp) rfl; have x1 := hS1.cell (i := 1) (v := .int .i64 fk) rfl; have x2 := hS1.cell (i := 2) (v := .int .i64 fq) rfl; have y0 := hS2.cell (i := 0) (v := .int .i64 i) rfl; have y1 := hS2.cell (i := 1) (v := .int .i64 n) rfl; have y2 := hS2.cell (i := 2) (v := .int .i64 y) rfl; have y3 := hS2.cell (i := 3) (v := .string t) rfl; go_simp; first | done | rfl)); simp only [Act.put, List.setIfInBounds_toArray, List.set_cons_zero, List.set_cons_succ])
                all_goals clear ho9
                all_goals refine c3_done (NoPanic.normal ?_)
              rotate_right 1
              focus
                all_goals first | (refine c3_op ho6 rfl (fun K hK => ?_); go_simp; (skip); all_goals ((with_reducible refine hK _ _ ?_); refine ⟨by constructor <;> repeat (first | with_reducible assumption | with_reducible refine Blk.drew ?_ | with_reducible refine Blk.alloc ?_ _ | with_reducible refine Blk.far ?_ (by omega) _), ?_⟩; clear hK K; go_simp))
                all_goals clear ho6
                all_goals refine c3_one ?_
                all_goals first | (refine c3_op ho8 rfl (fun K hK => ?_); go_simp; (skip); all_goals ((with_reducible refine hK _ _ ?_); refine ⟨by constructor <;> repeat (first | with_reducible assumption | with_reducible refine Blk.drew ?_ | with_reducible refine Blk.alloc ?_ _ | with_reducible refine Blk.far ?_ (by omega) _), ?_⟩; clear hK K; go_simp))
                all_goals clear ho8
                all_goals (apply c3_st ho9 rfl; (intro w2 hS; first | (go_simp; first | done | rfl) | rfl | (obtain ⟨hS1, hS2⟩ := hS; have x0 := hS1.cell (i := 0) (v := .int .i64 fp) rfl; have x1 := hS1.cell (i := 1) (v := .int .i64 fk) rfl; have x2 := hS1.cell (i := 2) (v := .int .i64 fq) rfl; have y0 := hS2.cell (i := 0) (v := .int .i64 i) rfl; have y1 := hS2.cell (i := 1) (v := .int .i64 n) rfl; have y2 := hS2.cell (i := 2) (v := .int .i64 y) rfl; have y3 := hS2.cell (i := 3) (v := .string t) rfl; go_simp; first | done | rfl)); simp only [Act.put, List.setIfInBounds_toArray, List.set_cons_zero, List.set_cons_succ])
                all_goals clear ho9
                all_goals refine c3_done (NoPanic.normal ?_)
          rotate_right 1
          focus
            all_goals first | (refine c3_op ho6 rfl (fun K hK => ?_); go_simp; (skip); all_goals ((with_reducible refine hK _ _ ?_); refine ⟨by constructor <;> repeat (first | with_reducible assumption | with_reducible refine Blk.drew ?_ | with_reducible refine Blk.alloc ?_ _ | with_reducible refine Blk.far ?_ (by omega) _), ?_⟩; clear hK K; go_simp))
            all_goals clear ho6
            all_goals refine c3_one ?_
            all_goals first | (refine c3_op ho7 rfl (fun K hK => ?_); go_simp; (skip); all_goals ((with_reducible refine hK _ _ ?_); refine ⟨by constructor <;> repeat (first | with_reducible assumption | with_reducible refine Blk.drew ?_ | with_reducible refine Blk.alloc ?_ _ | with_reducible refine Blk.far ?_ (by omega) _), ?_⟩; clear hK K; go_simp))
            all_goals clear ho7
            all_goals refine c3_one ?_
            all_goals first | (refine c3_op ho8 rfl (fun K hK => ?_); go_simp; (skip); all_goals ((with_reducible refine hK _ _ ?_); refine ⟨by constructor <;> repeat (first | with_reducible assumption | with_reducible refine Blk.drew ?_ | with_reducible refine Blk.alloc ?_ _ | with_reducible refine Blk.far ?_ (by omega) _), ?_⟩; clear hK K; go_simp))
            all_goals clear ho8
            all_goals (apply c3_st ho9 rfl; (intro w2 hS; first | (go_simp; first | done | rfl) | rfl | (obtain ⟨hS1, hS2⟩ := hS; have x0 := hS1.cell (i := 0) (v := .int .i64 fp) rfl; have x1 := hS1.cell (i := 1) (v := .int .i64 fk) rfl; have x2 := hS1.cell (i := 2) (v := .int .i64 fq) rfl; have y0 := hS2.cell (i := 0) (v := .int .i64 i) rfl; have y1 := hS2.cell (i := 1) (v := .int .i64 n) rfl; have y2 := hS2.cell (i := 2) (v := .int .i64 y) rfl; have y3 := hS2.cell (i := 3) (v := .string t) rfl; go_simp; first | done | rfl)); simp only [Act.put, List.setIfInBounds_toArray, List.set_cons_zero, List.set_cons_succ])
            all_goals clear ho9
            all_goals refine c3_done (NoPanic.normal ?_)
    all_goals
      clear sC sD sE r0 r1 r2 s0 s1 s2 s3 hrf hsf hv
      go_wp2_with fail
      first
        | (have hsB := sB; (have hF := (((((((hbr7).set 0 (.int .i64 fp)).set 1 (.int .i64 fk)).set 2 (.int .i64 fq)).far (g' := w.heap.size + 1) (i := 0) (by omega) (.int .i64 i)).far (g' := w.heap.size + 1) (i := 1) (by omega) (.int .i64 n)).far (g' := w.heap.size + 1) (i := 2) (by omega) (.int .i64 y)).far (g' := w.heap.size + 1) (i := 3) (by omega) (.string t); have hP := (((((((hbp7).far (g' := w.heap.size) (i := 0) (by omega) (.int .i64 fp)).far (g' := w.heap.size) (i := 1) (by omega) (.int .i64 fk)).far (g' := w.heap.size) (i := 2) (by omega) (.int .i64 fq)).set 0 (.int .i64 i)).set 1 (.int .i64 n)).set 2 (.int .i64 y)).set 3 (.string t); have c0 := hF.cell (i := 0) (v := .int .i64 fp) rfl; have c1 := hF.cell (i := 1) (v := .int .i64 fk) rfl; have c2 := hF.cell (i := 2) (v := .int .i64 fq) rfl; have d0 := hP.cell (i := 0) (v := .int .i64 i) rfl; have d1 := hP.cell (i := 1) (v := .int .i64 n) rfl; have d2 := hP.cell (i := 2) (v := .int .i64 y) rfl; have d3 := hP.cell (i := 3) (v := .string t) rfl; refine bodyPost_ret (v := .tuple #[vFld fp fk fq, vPart i n y t, .int .i64 v]) ?_ rfl ?_; simp [results, Try.results18, go_sem, c0, c1, c2, d0, d1, d2, d3, vFld, vPart]; exact ⟨fp, fk, fq, i, n, y, t, _, rfl, ht, (by repeat (first | with_reducible exact Ext.refl _ | with_reducible assumption | with_reducible refine Ext.drew ?_ | with_reducible refine Ext.drewN ?_ _ | with_reducible refine Ext.alloc ?_ _ | with_reducible refine Ext.setCell ?_ (by first | exact Nat.le_refl _ | exact Nat.le_succ _ | (simp <;> omega)) _ | with_reducible refine Ext.trans2 (by with_reducible assumption) ?_))⟩))
        | (have hF := ((((((((hbr7).alloc (.cells #[.int .i64 0, .int .i64 1500, .int .i64 1501] 2)).set 0 (.int .i64 fp)).set 1 (.int .i64 fk)).set 2 (.int .i64 fq)).far (g' := w.heap.size + 1) (i := 0) (by omega) (.int .i64 i)).far (g' := w.heap.size + 1) (i := 1) (by omega) (.int .i64 n)).far (g' := w.heap.size + 1) (i := 2) (by omega) (.int .i64 y)).far (g' := w.heap.size + 1) (i := 3) (by omega) (.string t); have hP := ((((((((hbp7).alloc (.cells #[.int .i64 0, .int .i64 1500, .int .i64 1501] 2)).far (g' := w.heap.size) (i := 0) (by omega) (.int .i64 fp)).far (g' := w.heap.size) (i := 1) (by omega) (.int .i64 fk)).far (g' := w.heap.size) (i := 2) (by omega) (.int .i64 fq)).set 0 (.int .i64 i)).set 1 (.int .i64 n)).set 2 (.int .i64 y)).set 3 (.string t); have c0 := hF.cell (i := 0) (v := .int .i64 fp) rfl; have c1 := hF.cell (i := 1) (v := .int .i64 fk) rfl; have c2 := hF.cell (i := 2) (v := .int .i64 fq) rfl; have d0 := hP.cell (i := 0) (v := .int .i64 i) rfl; have d1 := hP.cell (i := 1) (v := .int .i64 n) rfl; have d2 := hP.cell (i := 2) (v := .int .i64 y) rfl; have d3 := hP.cell (i := 3) (v := .string t) rfl; refine bodyPost_ret (v := .tuple #[vFld fp fk fq, vPart i n y t, .int .i64 v]) ?_ rfl ?_; simp [results, Try.results18, go_sem, c0, c1, c2, d0, d1, d2, d3, vFld, vPart]; exact ⟨fp, fk, fq, i, n, y, t, _, rfl, ht, (by repeat (first | with_reducible exact Ext.refl _ | with_reducible assumption | with_reducible refine Ext.drew ?_ | with_reducible refine Ext.drewN ?_ _ | with_reducible refine Ext.alloc ?_ _ | with_reducible refine Ext.setCell ?_ (by first | exact Nat.le_refl _ | exact Nat.le_succ _ | (simp <;> omega)) _ | with_reducible refine Ext.trans2 (by with_reducible assumption) ?_))⟩)
        | (have hF := ((((((((hbr7).set 0 (.int .i64 fp)).set 1 (.int .i64 fk)).set 2 (.int .i64 fq)).alloc (.cells #[.int .i64 0, .int .i64 1500, .int .i64 1501] 2)).far (g' := w.heap.size + 1) (i := 0) (by omega) (.int .i64 i)).far (g' := w.heap.size + 1) (i := 1) (by omega) (.int .i64 n)).far (g' := w.heap.size + 1) (i := 2) (by omega) (.int .i64 y)).far (g' := w.heap.size + 1) (i := 3) (by omega) (.string t); have hP := ((((((((hbp7).far (g' := w.heap.size) (i := 0) (by omega) (.int .i64 fp)).far (g' := w.heap.size) (i := 1) (by omega) (.int .i64 fk)).far (g' := w.heap.size) (i := 2) (by omega) (.int .i64 fq)).alloc (.cells #[.int .i64 0, .int .i64 1500, .int .i64 1501] 2)).set 0 (.int .i64 i)).set 1 (.int .i64 n)).set 2 (.int .i64 y)).set 3 (.string t); have c0 := hF.cell (i := 0) (v := .int .i64 fp) rfl; have c1 := hF.cell (i := 1) (v := .int .i64 fk) rfl; have c2 := hF.cell (i := 2) (v := .int .i64 fq) rfl; have d0 := hP.cell (i := 0) (v := .int .i64 i) rfl; have d1 := hP.cell (i := 1) (v := .int .i64 n) rfl; have d2 := hP.cell (i := 2) (v := .int .i64 y) rfl; have d3 := hP.cell (i := 3) (v := .string t) rfl; refine bodyPost_ret (v := .tuple #[vFld fp fk fq, vPart i n y t, .int .i64 v]) ?_ rfl ?_; simp [results, Try.results18, go_sem, c0, c1, c2, d0, d1, d2, d3, vFld, vPart]; exact ⟨fp, fk, fq, i, n, y, t, _, rfl, ht, (by repeat (first | with_reducible exact Ext.refl _ | with_reducible assumption | with_reducible refine Ext.drew ?_ | with_reducible refine Ext.drewN ?_ _ | with_reducible refine Ext.alloc ?_ _ | with_reducible refine Ext.setCell ?_ (by first | exact Nat.le_refl _ | exact Nat.le_succ _ | (simp <;> omega)) _ | with_reducible refine Ext.trans2 (by with_reducible assumption) ?_))⟩)
        | (have hF := ((((((((hbr7).set 0 (.int .i64 fp)).set 1 (.int .i64 fk)).set 2 (.int .i64 fq)).far (g' := w.heap.size + 1) (i := 0) (by omega) (.int .i64 i)).far (g' := w.heap.size + 1) (i := 1) (by omega) (.int .i64 n)).far (g' := w.heap.size + 1) (i := 2) (by omega) (.int .i64 y)).far (g' := w.heap.size + 1) (i := 3) (by omega) (.string t)).alloc (.cells #[.int .i64 0, .int .i64 1500, .int .i64 1501] 2); have hP := ((((((((hbp7).far (g' := w.heap.size) (i := 0) (by omega) (.int .i64 fp)).far (g' := w.heap.size) (i := 1) (by omega) (.int .i64 fk)).far (g' := w.heap.size) (i := 2) (by omega) (.int .i64 fq)).set 0 (.int .i64 i)).set 1 (.int .i64 n)).set 2 (.int .i64 y)).set 3 (.string t)).alloc (.cells #[.int .i64 0, .int .i64 1500, .int .i64 1501] 2); have c0 := hF.cell (i := 0) (v := .int .i64 fp) rfl; have c1 := hF.cell (i := 1) (v := .int .i64 fk) rfl; have c2 := hF.cell (i := 2) (v := .int .i64 fq) rfl; have d0 := hP.cell (i := 0) (v := .int .i64 i) rfl; have d1 := hP.cell (i := 1) (v := .int .i64 n) rfl; have d2 := hP.cell (i := 2) (v := .int .i64 y) rfl; have d3 := hP.cell (i := 3) (v := .string t) rfl; refine bodyPost_ret (v := .tuple #[vFld fp fk fq, vPart i n y t, .int .i64 v]) ?_ rfl ?_; simp [results, Try.results18, go_sem, c0, c1, c2, d0, d1, d2, d3, vFld, vPart]; exact ⟨fp, fk, fq, i, n, y, t, _, rfl, ht, (by repeat (first | with_reducible exact Ext.refl _ | with_reducible assumption | with_reducible refine Ext.drew ?_ | with_reducible refine Ext.drewN ?_ _ | with_reducible refine Ext.alloc ?_ _ | with_reducible refine Ext.setCell ?_ (by first | exact Nat.le_refl _ | exact Nat.le_succ _ | (simp <;> omega)) _ | with_reducible refine Ext.trans2 (by with_reducible assumption) ?_))⟩)
  · skip
    refine wp_region_c3 (fun w' => Blk w' f #[.int .i64 fp, .int .i64 fk, .int .i64 fq] 25 ∧ Blk w' x #[.int .i64 i, .int .i64 n, .int .i64 y, .string t] 36) (.st 0 (.st 1 (.st 2 (.st 3 (.one 4 (.st 5 (.one 6 (.one 7 (.st 8 .done))))))))) (by kernel_rfl) (by kernel_rfl) (by decide) (by kernel_rfl) ?_ ?_
    · exact ⟨hfl6.drew, hxl6.drew⟩
    refine c3_intro fun ops eo => ?_
    have ho0 := canon_at eo 0 rfl
    have ho1 := canon_at eo 1 rfl
    have ho2 := canon_at eo 2 rfl
    have ho3 := canon_at eo 3 rfl
    have ho4 := canon_at eo 4 rfl
    have ho5 := canon_at eo 5 rfl
    have ho6 := canon_at eo 6 rfl
    have ho7 := canon_at eo 7 rfl
    have ho8 := canon_at eo 8 rfl
    clear eo
    all_goals (apply c3_st ho0 rfl; (intro w2 hS; first | (go_simp; first | done | rfl) | rfl | (obtain ⟨hS1, hS2⟩ := hS; have x0 := hS1.cell (i := 0) (v := .int .i64 fp) rfl; have x1 := hS1.cell (i := 1) (v := .int .i64 fk) rfl; have x2 := hS1.cell (i := 2) (v := .int .i64 fq) rfl; have y0 := hS2.cell (i := 0) (v := .int .i64 i) rfl; have y1 := hS2.cell (i := 1) (v := .int .i64 n) rfl; have y2 := hS2.cell (i := 2) (v := .int .i64 y) rfl; have y3 := hS2.cell (i := 3) (v := .string t) rfl; go_simp; first | done | rfl)); simp only [Act.put, List.setIfInBounds_toArray, List.set_cons_zero, List.set_cons_succ])
    all_goals clear ho0
    all_goals (apply c3_st ho1 rfl; (intro w2 hS; first | (go_simp; first | done | rfl) | rfl | (obtain ⟨hS1, hS2⟩ := hS; have x0 := hS1.cell (i := 0) (v := .int .i64 fp) rfl; have x1 := hS1.cell (i := 1) (v := .int .i64 fk) rfl; have x2 := hS1.cell (i := 2) (v := .int .i64 fq) rfl; have y0 := hS2.cell (i := 0) (v := .int .i64 i) rfl; have y1 := hS2.cell (i := 1) (v := .int .i64 n) rfl; have y2 := hS2.cell (i := 2) (v := .int .i64 y) rfl; have y3 := hS2.cell (i := 3) (v := .string t) rfl; go_simp; first | done | rfl)); simp only [Act.put, List.setIfInBounds_toArray, List.set_cons_zero, List.set_cons_succ])
    all_goals clear ho1
    all_goals (apply c3_st ho2 rfl; (intro w2 hS; first | (go_simp; first | done | rfl) | rfl | (obtain ⟨hS1, hS2⟩ := hS; have x0 := hS1.cell (i := 0) (v := .int .i64 fp) rfl; have x1 := hS1.cell (i := 1) (v := .int .i64 fk) rfl; have x2 := hS1.cell (i := 2) (v := .int .i64 fq) rfl; have y0 := hS2.cell (i := 0) (v := .int .i64 i) rfl; have y1 := hS2.cell (i := 1) (v := .int .i64 n) rfl; have y2 := hS2.cell (i := 2) (v := .int .i64 y) rfl; have y3 := hS2.cell (i := 3) (v := .string t) rfl; go_simp; first | done | rfl)); simp only [Act.put, List.setIfInBounds_toArray, List.set_cons_zero, List.set_cons_succ])
    all_goals clear ho2
    all_goals (apply c3_st ho3 rfl; (intro w2 hS; first | (go_simp; first | done | rfl) | rfl | (obtain ⟨hS1, hS2⟩ := hS; have x0 := hS1.cell (i := 0) (v := .int .i64 fp) rfl; have x1 := hS1.cell (i := 1) (v := .int .i64 fk) rfl; have x2 := hS1.cell (i := 2) (v := .int .i64 fq) rfl; have y0 := hS2.cell (i := 0) (v := .int .i64 i) rfl; have y1 := hS2.cell (i := 1) (v := .int .i64 n) rfl; have y2 := hS2.cell (i := 2) (v := .int .i64 y) rfl; have y3 := hS2.cell (i := 3) (v := .string t) rfl; go_simp; first | done | rfl)); simp only [Act.put, List.setIfInBounds_toArray, List.set_cons_zero, List.set_cons_succ])
    all_goals clear ho3
    all_goals refine c3_one ?_
    all_goals first | (refine c3_op ho4 rfl (fun K hK => ?_); go_simp; ((go_at_call 83; (with_reducible refine (Next_c (g + 1) g 9 _ (hs7.ext (by repeat (first | exact Ext.refl _ | assumption | refine Ext.drew ?_ | refine Ext.drewN ?_ _ | refine Ext.iter ?_ _ _ | refine Ext.alloc ?_ _ | refine Ext.setCell ?_ (by first | exact Nat.le_refl _ | (simp <;> omega)) _ | refine Ext.trans2 (by assumption) ?_))) (by omega)).mono ?_); rintro e w8 ⟨zz, rfl, hz0, hz3, -, hs8, hb8⟩; replace hz3 := hz3 (by omega); have hfl7 : Blk w8 f #[.int .i64 fp, .int .i64 fk, .int .i64 fq] 25 := Blk.but (Blk.ext hfl6 (by repeat (first | exact Ext.refl _ | assumption | refine Ext.drew ?_ | refine Ext.drewN ?_ _ | refine Ext.iter ?_ _ _ | refine Ext.alloc ?_ _ | refine Ext.setCell ?_ (by first | exact Nat.le_refl _ | (simp <;> omega)) _ | refine Ext.trans2 (by assumption) ?_))) hb8 hfg; have hxl7 : Blk w8 x #[.int .i64 i, .int .i64 n, .int .i64 y, .string t] 36 := Blk.but (Blk.ext hxl6 (by repeat (first | exact Ext.refl _ | assumption | refine Ext.drew ?_ | refine Ext.drewN ?_ _ | refine Ext.iter ?_ _ _ | refine Ext.alloc ?_ _ | refine Ext.setCell ?_ (by first | exact Nat.le_refl _ | (simp <;> omega)) _ | refine Ext.trans2 (by assumption) ?_))) hb8 hxg; have hbr7 : Blk w8 w.heap.size #[.int .i64 0, .int .i64 0, .int .i64 0] 25 := Blk.but (Blk.ext hbr6 (by repeat (first | exact Ext.refl _ | assumption | refine Ext.drew ?_ | refine Ext.drewN ?_ _ | refine Ext.iter ?_ _ _ | refine Ext.alloc ?_ _ | refine Ext.setCell ?_ (by first | exact Nat.le_refl _ | (simp <;> omega)) _ | refine Ext.trans2 (by assumption) ?_))) hb8 (by omega); have hbp7 : Blk w8 (w.heap.size + 1) #[.int .i64 0, .int .i64 0, .int .i64 0, .string ByteArray.empty] 36 := Blk.but (Blk.ext hbp6 (by repeat (first | exact Ext.refl _ | assumption | refine Ext.drew ?_ | refine Ext.drewN ?_ _ | refine Ext.iter ?_ _ _ | refine Ext.alloc ?_ _ | refine Ext.setCell ?_ (by first | exact Nat.le_refl _ | (simp <;> omega)) _ | refine Ext.trans2 (by assumption) ?_))) hb8 (by omega); have hE7 : Ext w w8 := Ext.but (Ext.trans hE6 (by repeat (first | exact Ext.refl _ | assumption | refine Ext.drew ?_ | refine Ext.drewN ?_ _ | refine Ext.iter ?_ _ _ | refine Ext.alloc ?_ _ | refine Ext.setCell ?_ (by first | exact Nat.le_refl _ | (simp <;> omega)) _ | refine Ext.trans2 (by assumption) ?_))) hb8 (by omega); have hl7 := hbr7.lt; have hm7 := hbp7.lt; have r0 := hbr7.cell (i := 0) (v := .int .i64 0) rfl; have r1 := hbr7.cell (i := 1) (v := .int .i64 0) rfl; have r2 := hbr7.cell (i := 2) (v := .int .i64 0) rfl; have s0 := hbp7.cell (i := 0) (v := .int .i64 0) rfl; have s1 := hbp7.cell (i := 1) (v := .int .i64 0) rfl; have s2 := hbp7.cell (i := 2) (v := .int .i64 0) rfl; have s3 := hbp7.cell (i := 3) (v := .string ByteArray.empty) rfl; have hrf := hbr7.free; have hsf := hbp7.free; have e2 := IntWalk.i64_in (R + zz) (by omega))); all_goals ((with_reducible refine hK _ _ ?_); refine ⟨by constructor <;> repeat (first | with_reducible assumption | with_reducible refine Blk.drew ?_ | with_reducible refine Blk.alloc ?_ _ | with_reducible refine Blk.far ?_ (by omega) _), ?_⟩; clear hK K; go_simp))
    all_goals clear ho4
    all_goals (apply c3_st ho5 rfl; (intro w2 hS; first | (go_simp; first | done | rfl) | rfl | (obtain ⟨hS1, hS2⟩ := hS; have x0 := hS1.cell (i := 0) (v := .int .i64 fp) rfl; have x1 := hS1.cell (i := 1) (v := .int .i64 fk) rfl; have x2 := hS1.cell (i := 2) (v := .int .i64 fq) rfl; have y0 := hS2.cell (i := 0) (v := .int .i64 i) rfl; have y1 := hS2.cell (i := 1) (v := .int .i64 n) rfl; have y2 := hS2.cell (i := 2) (v := .int .i64 y) rfl; have y3 := hS2.cell (i := 3) (v := .string t) rfl; go_simp; first | done | rfl)); simp only [Act.put, List.setIfInBounds_toArray, List.set_cons_zero, List.set_cons_succ])
    all_goals clear ho5
    all_goals refine c3_one ?_
    all_goals first | (refine c3_op ho6 rfl (fun K hK => ?_); go_simp; (skip); all_goals ((with_reducible refine hK _ _ ?_); refine ⟨by constructor <;> repeat (first | with_reducible assumption | with_reducible refine Blk.drew ?_ | with_reducible refine Blk.alloc ?_ _ | with_reducible refine Blk.far ?_ (by omega) _), ?_⟩; clear hK K; go_simp))
    all_goals clear ho6
    all_goals refine c3_one ?_
    all_goals first | (refine c3_op ho7 rfl (fun K hK => ?_); go_simp; (skip); all_goals ((with_reducible refine hK _ _ ?_); refine ⟨by constructor <;> repeat (first | with_reducible assumption | with_reducible refine Blk.drew ?_ | with_reducible refine Blk.alloc ?_ _ | with_reducible refine Blk.far ?_ (by omega) _), ?_⟩; clear hK K; go_simp))
    all_goals clear ho7
    all_goals (apply c3_st ho8 rfl; (intro w2 hS; first | (go_simp; first | done | rfl) | rfl | (obtain ⟨hS1, hS2⟩ := hS; have x0 := hS1.cell (i := 0) (v := .int .i64 fp) rfl; have x1 := hS1.cell (i := 1) (v := .int .i64 fk) rfl; have x2 := hS1.cell (i := 2) (v := .int .i64 fq) rfl; have y0 := hS2.cell (i := 0) (v := .int .i64 i) rfl; have y1 := hS2.cell (i := 1) (v := .int .i64 n) rfl; have y2 := hS2.cell (i := 2) (v := .int .i64 y) rfl; have y3 := hS2.cell (i := 3) (v := .string t) rfl; go_simp; first | done | rfl)); simp only [Act.put, List.setIfInBounds_toArray, List.set_cons_zero, List.set_cons_succ])
    all_goals clear ho8
    all_goals refine c3_done (NoPanic.normal ?_)
    clear r0 r1 r2 s0 s1 s2 s3 hrf hsf e2
    go_wp2_with fail
    (have hF := (((((((hbr7).set 0 (.int .i64 fp)).set 1 (.int .i64 fk)).set 2 (.int .i64 fq)).far (g' := w.heap.size + 1) (i := 0) (by omega) (.int .i64 i)).far (g' := w.heap.size + 1) (i := 1) (by omega) (.int .i64 n)).far (g' := w.heap.size + 1) (i := 2) (by omega) (.int .i64 y)).far (g' := w.heap.size + 1) (i := 3) (by omega) (.string t); have hP := (((((((hbp7).far (g' := w.heap.size) (i := 0) (by omega) (.int .i64 fp)).far (g' := w.heap.size) (i := 1) (by omega) (.int .i64 fk)).far (g' := w.heap.size) (i := 2) (by omega) (.int .i64 fq)).set 0 (.int .i64 i)).set 1 (.int .i64 n)).set 2 (.int .i64 y)).set 3 (.string t); have c0 := hF.cell (i := 0) (v := .int .i64 fp) rfl; have c1 := hF.cell (i := 1) (v := .int .i64 fk) rfl; have c2 := hF.cell (i := 2) (v := .int .i64 fq) rfl; have d0 := hP.cell (i := 0) (v := .int .i64 i) rfl; have d1 := hP.cell (i := 1) (v := .int .i64 n) rfl; have d2 := hP.cell (i := 2) (v := .int .i64 y) rfl; have d3 := hP.cell (i := 3) (v := .string t) rfl; refine bodyPost_ret (v := .tuple #[vFld fp fk fq, vPart i n y t, .int .i64 (R + zz)]) ?_ rfl ?_; simp [results, Try.results18, go_sem, c0, c1, c2, d0, d1, d2, d3, vFld, vPart]; exact ⟨fp, fk, fq, i, n, y, t, _, rfl, ht, (by repeat (first | with_reducible exact Ext.refl _ | with_reducible assumption | with_reducible refine Ext.drew ?_ | with_reducible refine Ext.drewN ?_ _ | with_reducible refine Ext.alloc ?_ _ | with_reducible refine Ext.setCell ?_ (by first | exact Nat.le_refl _ | exact Nat.le_succ _ | (simp <;> omega)) _ | with_reducible refine Ext.trans2 (by with_reducible assumption) ?_))⟩)
end Go.Proofs.Ytbnpdpmbbppnhaa
