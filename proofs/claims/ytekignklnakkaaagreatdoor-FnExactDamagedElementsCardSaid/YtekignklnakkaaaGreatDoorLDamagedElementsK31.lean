/- The size of a symbol, on both sides. -/
import Derived.Test.YtekignklnakkaaaGreatDoorLDamagedElementsK25
set_option linter.unusedVariables false
set_option linter.unusedSimpArgs false
namespace Go.Proofs.YtekignklnakkaaaGreatDoor
open Go.RowKit

def colsV (K co n : Int) : Int := if K = 2 then 15 + 11 * (co + 2) else n
theorem colsV_st {K co n : Int} (h : K = 2) : colsV K co n = 15 + 11 * (co + 2) := if_pos h
theorem colsV_mx {K co n : Int} (h : ¬ K = 2) : colsV K co n = n := if_neg h
theorem rowWidth_c (n : Int) (w : World) (hn : -1000 ≤ n ∧ n ≤ 1000) : Calls Tryz.prog 291 #[.int .i64 n] w fun e w' => e = .returned (.int .i64 (15 + 11 * n)) ∧ Ext w w' := by
  go_enter Tryz.func291, Tryz.ntmps291
  go_wp2
  go_ret
  exact ⟨ret_int (by omega), eX⟩
abbrev fam8 (nm : ByteArray) (K p k q : Int) (ps : Option Addr) (ns cs : Nat) (co : Int) (pl : Option Addr) (nl cl : Nat) : Array Value := #[.string nm, .int .i64 K, .int .i64 p, .int .i64 k, .int .i64 q, .slice ps ns cs, .int .i64 co, .slice pl nl cl]
set_option maxRecDepth 100000 in
theorem kind_c (nm : ByteArray) (K p k q co : Int) (ps pl : Option Addr) (ns cs nl cl : Nat) (w : World) :
    Calls Tryz.prog 166 #[vFam nm K p k q ps ns cs co pl nl cl] w fun e w' => e = .returned (if K = 2 then .iface 243 (vFam nm K p k q ps ns cs co pl nl cl) else .iface 244 (vFam nm K p k q ps ns cs co pl nl cl)) ∧ Ext w w' := by
  have hx0 : Ext w (w.alloc (.cells (fam8 nm K p k q ps ns cs co pl nl cl) 35)) := (Ext.refl w).alloc _
  by_cases hK : K = 2
  · rw [if_pos hK]
    subst hK
    go_enter Tryz.func166, Tryz.ntmps166
    go_wp2
    go_ret
    exact ⟨rfl, hx0⟩
  · rw [if_neg hK]
    have hKb : (K == 2) = false := by simpa using hK
    go_enter Tryz.func166, Tryz.ntmps166
    go_wp2
    go_ret
    exact ⟨rfl, hx0⟩
set_option maxRecDepth 100000 in
theorem stackedCols_c (nm : ByteArray) (K p k q co n : Int) (ps pl : Option Addr) (ns cs nl cl : Nat) (w : World) (hco : 0 ≤ co ∧ co ≤ 100) :
    Calls Tryz.prog 290 #[vFam nm K p k q ps ns cs co pl nl cl, .int .i64 n] w fun e w' => e = .returned (.int .i64 (15 + 11 * (co + 2))) ∧ Ext w w' := by
  have hx0 : Ext w (w.alloc (.cells (fam8 nm K p k q ps ns cs co pl nl cl) 243)) := (Ext.refl w).alloc _
  go_enter Tryz.func290, Tryz.ntmps290
  go_wp2_with (go_at_call 291; (with_reducible refine (rowWidth_c _ _ (by omega)).mono ?_); rintro e w1 ⟨rfl, hx1⟩)
  go_ret
  exact ⟨rfl, hx0.trans hx1⟩
set_option maxRecDepth 100000 in
theorem matrixCols_c (nm : ByteArray) (K p k q co n : Int) (ps pl : Option Addr) (ns cs nl cl : Nat) (w : World) :
    Calls Tryz.prog 292 #[vFam nm K p k q ps ns cs co pl nl cl, .int .i64 n] w fun e w' => e = .returned (.int .i64 n) ∧ Ext w w' := by
  have hx0 : Ext w (w.alloc (.cells (fam8 nm K p k q ps ns cs co pl nl cl) 244)) := (Ext.refl w).alloc _
  go_enter Tryz.func292, Tryz.ntmps292
  go_wp2
  go_ret
  exact ⟨rfl, hx0⟩
set_option maxRecDepth 100000 in
theorem l18Cols_c (nm : ByteArray) (K p k q co n : Int) (ps pl : Option Addr) (ns cs nl cl : Nat) (w : World) (hco : 0 ≤ co ∧ co ≤ 100) (hK : K = 1 ∨ K = 2) :
    Calls Tryz.prog 114 #[vFam nm K p k q ps ns cs co pl nl cl, .int .i64 n] w fun e w' => e = .returned (.int .i64 (colsV K co n)) ∧ Ext w w' := by
  have hx0 : Ext w (w.alloc (.cells (fam8 nm K p k q ps ns cs co pl nl cl) 35)) := (Ext.refl w).alloc _
  rcases hK with rfl | rfl
  · rw [colsV_mx (by decide)]
    go_enter Tryz.func114, Tryz.ntmps114
    go_wp2
    go_ret
    exact ⟨rfl, hx0⟩
  · rw [colsV_st rfl]
    go_enter Tryz.func114, Tryz.ntmps114
    go_wp2
    go_ret
    exact ⟨rfl, hx0⟩
theorem mCols_m (v : Array Value) (w : World) : (Go.method 425 244 (.agg v) "loop.example/g00879/impl.cols").run Tryz.prog w = .ok (292, .agg v) w := by kernel_rfl
theorem sCols_m (v : Array Value) (w : World) : (Go.method 425 243 (.agg v) "loop.example/g00879/impl.cols").run Tryz.prog w = .ok (290, .agg v) w := by kernel_rfl
set_option maxHeartbeats 800000 in
set_option maxRecDepth 100000 in
theorem isSymbolSize_c (nm : ByteArray) (K p k q co r c : Int) (ps pl pg : Option Addr) (cs nl cl ng cg : Nat) (ss : List Int) (w : World) (hs : IntsAt w ps ss) (hl1 : ss.length ≤ 1048576) (hco : 0 ≤ co ∧ co ≤ 100) (hK : K = 1 ∨ K = 2) :
    Calls Tryz.prog 119 #[vFam nm K p k q ps ss.length cs co pl nl cl, vGrid r c pg ng cg] w fun e w' => isB e (r ∈ ss ∧ c = colsV K co r) ∧ Ext w w' := by
  have HS := Lib.hid hs; clear hs
  have hx0 : Ext w ((w.alloc (.cells #[.string nm, .int .i64 K, .int .i64 p, .int .i64 k, .int .i64 q, .slice ps ss.length cs, .int .i64 co, .slice pl nl cl] 35)).alloc (.cells #[.int .i64 r, .int .i64 c, .slice pg ng cg] 37)) := ((Ext.refl w).alloc _).alloc _
  have hb0 := (Blk.new w #[.string nm, .int .i64 K, .int .i64 p, .int .i64 k, .int .i64 q, .slice ps ss.length cs, .int .i64 co, .slice pl nl cl] 35).alloc (.cells #[.int .i64 r, .int .i64 c, .slice pg ng cg] 37)
  have hb1 := Blk.new1 w (.cells #[.string nm, .int .i64 K, .int .i64 p, .int .i64 k, .int .i64 q, .slice ps ss.length cs, .int .i64 co, .slice pl nl cl] 35) #[.int .i64 r, .int .i64 c, .slice pg ng cg] 37
  obtain ⟨a0, a1, a2, a3, a4, a5, a6, a7⟩ := hb0.c8; have aL := hb0.lt
  have c0 := hb1.cell (i := 0) (v := .int .i64 r) rfl; have c1 := hb1.cell (i := 1) (v := .int .i64 c) rfl; have cL := hb1.lt
  have hhs := Lib.hid (fun W (h : IntsAt W ps ss) => hasSize_c nm K p k q co ps pl cs nl cl ss r W h hl1)
  have hkd := Lib.hid (fun W => kind_c nm K p k q co ps pl ss.length cs nl cl W)
  go_enter Tryz.func119, Tryz.ntmps119
  go_upto_region 1 with (fail)
  obtain ⟨gF, hgF⟩ : ∃ g, w.heap.size = g := ⟨_, rfl⟩
  obtain ⟨gG, hgG⟩ : ∃ g, w.heap.size + 1 = g := ⟨_, rfl⟩
  rw [hgG] at c0 c1 cL ⊢
  rw [hgF] at a0 a1 a2 a3 a4 a5 a6 a7 aL ⊢
  clear hb0 hb1 hgF hgG
  generalize ((w.alloc (.cells #[.string nm, .int .i64 K, .int .i64 p, .int .i64 k, .int .i64 q, .slice ps ss.length cs, .int .i64 co, .slice pl nl cl] 35)).alloc (.cells #[.int .i64 r, .int .i64 c, .slice pg ng cg] 37)) = w0 at *
  by_cases hin : r ∈ ss
  · rcases hK with rfl | rfl
    · rw [if_neg (by decide : ¬ (1 : Int) = 2)] at hkd
      have hmm := mCols_m
      have hmc := Lib.hid (fun W => matrixCols_c nm 1 p k q co r ps pl ss.length cs nl cl W)
      have hfin := Lib.hid (show (c == r) = true ↔ r ∈ ss ∧ c = colsV 1 co r from by rw [colsV_mx (by decide)]; simp [hin])
      refine wp_region_canon (fun w' => Ext w0 w') [(0, true), (1, true), (2, true), (3, false), (4, true), (5, true), (6, true), (7, true), (9, true), (10, true), (8, false), (11, false), (12, true), (13, true), (14, true)] (by kernel_rfl) (by kernel_rfl) (by decide) (by kernel_rfl) ?_ ?_
      · exact eX
      refine canon_intro fun ops eo => ?_
      have ho0 := canon_at eo 0 rfl
      have ho1 := canon_at eo 1 rfl
      have ho2 := canon_at eo 2 rfl
      have ho3 := canon_at eo 3 rfl
      have ho4 := canon_at eo 4 rfl
      have ho5 := canon_at eo 5 rfl
      have ho6 := canon_at eo 6 rfl
      have ho7 := canon_at eo 7 rfl
      have ho8 := canon_at eo 8 rfl
      have ho9 := canon_at eo 9 rfl
      have ho10 := canon_at eo 10 rfl
      have ho11 := canon_at eo 11 rfl
      have ho12 := canon_at eo 12 rfl
      have ho13 := canon_at eo 13 rfl
      have ho14 := canon_at eo 14 rfl
      clear eo
      all_goals (apply canon_st ho0 rfl; exact evE; simp only [ptN])
      all_goals (apply canon_st ho1 rfl; exact evE; simp only [ptN])
      all_goals (apply canon_st ho2 rfl; exact evE; simp only [ptN])
      all_goals first | (refine canon_ef ho3 rfl (fun K hK => ?_); go_simp; ((go_at_call 165; (with_reducible refine (hhs.out _ (HS.out.ext (hx0.trans eX))).mono ?_); rintro e w1 ⟨⟨hP, rfl⟩ | ⟨hP, rfl⟩, hb⟩ <;> (first | exact absurd hin hP | skip))); all_goals (refine hK _ _ ⟨(by first | assumption | exact eX), ?_⟩; clear hK K; go_simp))
      all_goals (apply canon_st ho4 rfl; exact evE; simp only [ptN])
      all_goals first | (refine canon_stu ho5 rfl (by assumption) rfl rfl ?_; simp only [ptN]) | (refine canon_stx ho5 rfl (by assumption) rfl rfl ?_; simp only [ptN]) | (refine canon_stw (v := ?_) ho5 rfl (by assumption) rfl rfl ?_ ?_; rotate_left 1; exact evE; simp only [ptN])
      all_goals first | (refine canon_stu ho6 rfl (by assumption) rfl rfl ?_; simp only [ptN]) | (refine canon_stx ho6 rfl (by assumption) rfl rfl ?_; simp only [ptN]) | (refine canon_stw (v := ?_) ho6 rfl (by assumption) rfl rfl ?_ ?_; rotate_left 1; exact evE; simp only [ptN])
      all_goals first | (refine canon_stu ho7 rfl (by assumption) rfl rfl ?_; simp only [ptN]) | (refine canon_stx ho7 rfl (by assumption) rfl rfl ?_; simp only [ptN]) | (refine canon_stw (v := ?_) ho7 rfl (by assumption) rfl rfl ?_ ?_; rotate_left 1; exact evE; simp only [ptN])
      all_goals first | (refine canon_stu ho9 rfl (by assumption) rfl rfl ?_; simp only [ptN]) | (refine canon_stx ho9 rfl (by assumption) rfl rfl ?_; simp only [ptN]) | (refine canon_stw (v := ?_) ho9 rfl (by assumption) rfl rfl ?_ ?_; rotate_left 1; exact evE; simp only [ptN])
      all_goals first | (refine canon_stu ho10 rfl (by assumption) rfl rfl ?_; simp only [ptN]) | (refine canon_stx ho10 rfl (by assumption) rfl rfl ?_; simp only [ptN]) | (refine canon_stw (v := ?_) ho10 rfl (by assumption) rfl rfl ?_ ?_; rotate_left 1; exact evE; simp only [ptN])
      all_goals first | (refine canon_efu ho8 rfl (by assumption) rfl rfl (by first | assumption | exact (by first | assumption | exact eX)) ?_; simp only [ptN]) | (refine canon_efx ho8 rfl (by assumption) rfl rfl (by first | assumption | exact (by first | assumption | exact eX)) ?_; simp only [ptN]) | (refine canon_efw ho8 rfl (by assumption) rfl rfl (fun K hK => ?_); go_simp; ((go_at_call 166; (with_reducible refine (hkd.out _).mono ?_); rintro e w2 ⟨rfl, hb2⟩)); all_goals (refine hK _ _ ⟨(by first | assumption | exact eX), ?_⟩; clear hK K; go_simp))
      all_goals first | (refine canon_efu ho11 rfl (by assumption) rfl rfl (by first | assumption | exact (by first | assumption | exact eX)) ?_; simp only [ptN]) | (refine canon_efx ho11 rfl (by assumption) rfl rfl (by first | assumption | exact (by first | assumption | exact eX)) ?_; simp only [ptN]) | (refine canon_efw ho11 rfl (by assumption) rfl rfl (fun K hK => ?_); go_simp; ((go_at_call 292; (with_reducible refine (hmc.out _).mono ?_); rintro e w3 ⟨rfl, hb3⟩)); all_goals (refine hK _ _ ⟨(by first | assumption | exact eX), ?_⟩; clear hK K; go_simp))
      all_goals first | (refine canon_stu ho12 rfl (by assumption) rfl rfl ?_; simp only [ptN]) | (refine canon_stx ho12 rfl (by assumption) rfl rfl ?_; simp only [ptN]) | (refine canon_stw (v := ?_) ho12 rfl (by assumption) rfl rfl ?_ ?_; rotate_left 1; exact evE; simp only [ptN])
      all_goals (apply canon_st ho13 rfl; exact evE; simp only [ptN])
      all_goals (apply canon_st ho14 rfl; exact evE; simp only [ptN])
      all_goals clear ho0 ho1 ho2 ho3 ho4 ho5 ho6 ho7 ho8 ho9 ho10 ho11 ho12 ho13 ho14
      all_goals refine canon_done (NoPanic.normal ?_)
      go_wp2
      go_ret
      exact ⟨isB_m hfin.out, hx0.trans eX⟩
    · rw [if_pos rfl] at hkd
      have hmm := sCols_m
      have hmc := Lib.hid (fun W => stackedCols_c nm 2 p k q co r ps pl ss.length cs nl cl W hco)
      have hfin := Lib.hid (show (c == 15 + 11 * (co + 2)) = true ↔ r ∈ ss ∧ c = colsV 2 co r from by rw [colsV_st rfl]; simp [hin])
      refine wp_region_canon (fun w' => Ext w0 w') [(0, true), (1, true), (2, true), (3, false), (4, true), (5, true), (6, true), (7, true), (9, true), (10, true), (8, false), (11, false), (12, true), (13, true), (14, true)] (by kernel_rfl) (by kernel_rfl) (by decide) (by kernel_rfl) ?_ ?_
      · exact eX
      refine canon_intro fun ops eo => ?_
      have ho0 := canon_at eo 0 rfl
      have ho1 := canon_at eo 1 rfl
      have ho2 := canon_at eo 2 rfl
      have ho3 := canon_at eo 3 rfl
      have ho4 := canon_at eo 4 rfl
      have ho5 := canon_at eo 5 rfl
      have ho6 := canon_at eo 6 rfl
      have ho7 := canon_at eo 7 rfl
      have ho8 := canon_at eo 8 rfl
      have ho9 := canon_at eo 9 rfl
      have ho10 := canon_at eo 10 rfl
      have ho11 := canon_at eo 11 rfl
      have ho12 := canon_at eo 12 rfl
      have ho13 := canon_at eo 13 rfl
      have ho14 := canon_at eo 14 rfl
      clear eo
      all_goals (apply canon_st ho0 rfl; exact evE; simp only [ptN])
      all_goals (apply canon_st ho1 rfl; exact evE; simp only [ptN])
      all_goals (apply canon_st ho2 rfl; exact evE; simp only [ptN])
      all_goals first | (refine canon_ef ho3 rfl (fun K hK => ?_); go_simp; ((go_at_call 165; (with_reducible refine (hhs.out _ (HS.out.ext (hx0.trans eX))).mono ?_); rintro e w1 ⟨⟨hP, rfl⟩ | ⟨hP, rfl⟩, hb⟩ <;> (first | exact absurd hin hP | skip))); all_goals (refine hK _ _ ⟨(by first | assumption | exact eX), ?_⟩; clear hK K; go_simp))
      all_goals (apply canon_st ho4 rfl; exact evE; simp only [ptN])
      all_goals first | (refine canon_stu ho5 rfl (by assumption) rfl rfl ?_; simp only [ptN]) | (refine canon_stx ho5 rfl (by assumption) rfl rfl ?_; simp only [ptN]) | (refine canon_stw (v := ?_) ho5 rfl (by assumption) rfl rfl ?_ ?_; rotate_left 1; exact evE; simp only [ptN])
      all_goals first | (refine canon_stu ho6 rfl (by assumption) rfl rfl ?_; simp only [ptN]) | (refine canon_stx ho6 rfl (by assumption) rfl rfl ?_; simp only [ptN]) | (refine canon_stw (v := ?_) ho6 rfl (by assumption) rfl rfl ?_ ?_; rotate_left 1; exact evE; simp only [ptN])
      all_goals first | (refine canon_stu ho7 rfl (by assumption) rfl rfl ?_; simp only [ptN]) | (refine canon_stx ho7 rfl (by assumption) rfl rfl ?_; simp only [ptN]) | (refine canon_stw (v := ?_) ho7 rfl (by assumption) rfl rfl ?_ ?_; rotate_left 1; exact evE; simp only [ptN])
      all_goals first | (refine canon_stu ho9 rfl (by assumption) rfl rfl ?_; simp only [ptN]) | (refine canon_stx ho9 rfl (by assumption) rfl rfl ?_; simp only [ptN]) | (refine canon_stw (v := ?_) ho9 rfl (by assumption) rfl rfl ?_ ?_; rotate_left 1; exact evE; simp only [ptN])
      all_goals first | (refine canon_stu ho10 rfl (by assumption) rfl rfl ?_; simp only [ptN]) | (refine canon_stx ho10 rfl (by assumption) rfl rfl ?_; simp only [ptN]) | (refine canon_stw (v := ?_) ho10 rfl (by assumption) rfl rfl ?_ ?_; rotate_left 1; exact evE; simp only [ptN])
      all_goals first | (refine canon_efu ho8 rfl (by assumption) rfl rfl (by first | assumption | exact (by first | assumption | exact eX)) ?_; simp only [ptN]) | (refine canon_efx ho8 rfl (by assumption) rfl rfl (by first | assumption | exact (by first | assumption | exact eX)) ?_; simp only [ptN]) | (refine canon_efw ho8 rfl (by assumption) rfl rfl (fun K hK => ?_); go_simp; ((go_at_call 166; (with_reducible refine (hkd.out _).mono ?_); rintro e w2 ⟨rfl, hb2⟩)); all_goals (refine hK _ _ ⟨(by first | assumption | exact eX), ?_⟩; clear hK K; go_simp))
      all_goals first | (refine canon_efu ho11 rfl (by assumption) rfl rfl (by first | assumption | exact (by first | assumption | exact eX)) ?_; simp only [ptN]) | (refine canon_efx ho11 rfl (by assumption) rfl rfl (by first | assumption | exact (by first | assumption | exact eX)) ?_; simp only [ptN]) | (refine canon_efw ho11 rfl (by assumption) rfl rfl (fun K hK => ?_); go_simp; ((go_at_call 290; (with_reducible refine (hmc.out _).mono ?_); rintro e w3 ⟨rfl, hb3⟩)); all_goals (refine hK _ _ ⟨(by first | assumption | exact eX), ?_⟩; clear hK K; go_simp))
      all_goals first | (refine canon_stu ho12 rfl (by assumption) rfl rfl ?_; simp only [ptN]) | (refine canon_stx ho12 rfl (by assumption) rfl rfl ?_; simp only [ptN]) | (refine canon_stw (v := ?_) ho12 rfl (by assumption) rfl rfl ?_ ?_; rotate_left 1; exact evE; simp only [ptN])
      all_goals (apply canon_st ho13 rfl; exact evE; simp only [ptN])
      all_goals (apply canon_st ho14 rfl; exact evE; simp only [ptN])
      all_goals clear ho0 ho1 ho2 ho3 ho4 ho5 ho6 ho7 ho8 ho9 ho10 ho11 ho12 ho13 ho14
      all_goals refine canon_done (NoPanic.normal ?_)
      go_wp2
      go_ret
      exact ⟨isB_m hfin.out, hx0.trans eX⟩
  · skip
    refine wp_region_canon (fun w' => Ext w0 w') [(0, true), (1, true), (2, true), (3, false), (4, true), (5, true), (6, true), (7, true), (9, true), (10, true), (8, false), (11, false), (12, true), (13, true), (14, true)] (by kernel_rfl) (by kernel_rfl) (by decide) (by kernel_rfl) ?_ ?_
    · exact eX
    refine canon_intro fun ops eo => ?_
    have ho0 := canon_at eo 0 rfl
    have ho1 := canon_at eo 1 rfl
    have ho2 := canon_at eo 2 rfl
    have ho3 := canon_at eo 3 rfl
    have ho4 := canon_at eo 4 rfl
    have ho5 := canon_at eo 5 rfl
    have ho6 := canon_at eo 6 rfl
    have ho7 := canon_at eo 7 rfl
    have ho8 := canon_at eo 8 rfl
    have ho9 := canon_at eo 9 rfl
    have ho10 := canon_at eo 10 rfl
    have ho11 := canon_at eo 11 rfl
    have ho12 := canon_at eo 12 rfl
    have ho13 := canon_at eo 13 rfl
    have ho14 := canon_at eo 14 rfl
    clear eo
    all_goals (apply canon_st ho0 rfl; exact evE; simp only [ptN])
    all_goals (apply canon_st ho1 rfl; exact evE; simp only [ptN])
    all_goals (apply canon_st ho2 rfl; exact evE; simp only [ptN])
    all_goals first | (refine canon_ef ho3 rfl (fun K hK => ?_); go_simp; ((go_at_call 165; (with_reducible refine (hhs.out _ (HS.out.ext (hx0.trans eX))).mono ?_); rintro e w1 ⟨⟨hP, rfl⟩ | ⟨hP, rfl⟩, hb⟩ <;> (first | exact absurd hP hin | skip))); all_goals (refine hK _ _ ⟨(by first | assumption | exact eX), ?_⟩; clear hK K; go_simp))
    all_goals (apply canon_st ho4 rfl; exact evE; simp only [ptN])
    all_goals first | (refine canon_stu ho5 rfl (by assumption) rfl rfl ?_; simp only [ptN]) | (refine canon_stx ho5 rfl (by assumption) rfl rfl ?_; simp only [ptN]) | (refine canon_stw (v := ?_) ho5 rfl (by assumption) rfl rfl ?_ ?_; rotate_left 1; exact evE; simp only [ptN])
    all_goals first | (refine canon_stu ho6 rfl (by assumption) rfl rfl ?_; simp only [ptN]) | (refine canon_stx ho6 rfl (by assumption) rfl rfl ?_; simp only [ptN]) | (refine canon_stw (v := ?_) ho6 rfl (by assumption) rfl rfl ?_ ?_; rotate_left 1; exact evE; simp only [ptN])
    all_goals first | (refine canon_stu ho7 rfl (by assumption) rfl rfl ?_; simp only [ptN]) | (refine canon_stx ho7 rfl (by assumption) rfl rfl ?_; simp only [ptN]) | (refine canon_stw (v := ?_) ho7 rfl (by assumption) rfl rfl ?_ ?_; rotate_left 1; exact evE; simp only [ptN])
    all_goals first | (refine canon_stu ho9 rfl (by assumption) rfl rfl ?_; simp only [ptN]) | (refine canon_stx ho9 rfl (by assumption) rfl rfl ?_; simp only [ptN]) | (refine canon_stw (v := ?_) ho9 rfl (by assumption) rfl rfl ?_ ?_; rotate_left 1; exact evE; simp only [ptN])
    all_goals first | (refine canon_stu ho10 rfl (by assumption) rfl rfl ?_; simp only [ptN]) | (refine canon_stx ho10 rfl (by assumption) rfl rfl ?_; simp only [ptN]) | (refine canon_stw (v := ?_) ho10 rfl (by assumption) rfl rfl ?_ ?_; rotate_left 1; exact evE; simp only [ptN])
    all_goals first | (refine canon_efu ho8 rfl (by assumption) rfl rfl (by first | assumption | exact (by first | assumption | exact eX)) ?_; simp only [ptN]) | (refine canon_efx ho8 rfl (by assumption) rfl rfl (by first | assumption | exact (by first | assumption | exact eX)) ?_; simp only [ptN])
    all_goals first | (refine canon_efu ho11 rfl (by assumption) rfl rfl (by first | assumption | exact (by first | assumption | exact eX)) ?_; simp only [ptN]) | (refine canon_efx ho11 rfl (by assumption) rfl rfl (by first | assumption | exact (by first | assumption | exact eX)) ?_; simp only [ptN])
    all_goals first | (refine canon_stu ho12 rfl (by assumption) rfl rfl ?_; simp only [ptN]) | (refine canon_stx ho12 rfl (by assumption) rfl rfl ?_; simp only [ptN]) | (refine canon_stw (v := ?_) ho12 rfl (by assumption) rfl rfl ?_ ?_; rotate_left 1; exact evE; simp only [ptN])
    all_goals (apply canon_st ho13 rfl; exact evE; simp only [ptN])
    all_goals (apply canon_st ho14 rfl; exact evE; simp only [ptN])
    all_goals clear ho0 ho1 ho2 ho3 ho4 ho5 ho6 ho7 ho8 ho9 ho10 ho11 ho12 ho13 ho14
    all_goals refine canon_done (NoPanic.normal ?_)
    go_wp2
    go_ret
    exact ⟨isB_f (fun h => hin h.1), hx0.trans eX⟩
end Go.Proofs.YtekignklnakkaaaGreatDoor
