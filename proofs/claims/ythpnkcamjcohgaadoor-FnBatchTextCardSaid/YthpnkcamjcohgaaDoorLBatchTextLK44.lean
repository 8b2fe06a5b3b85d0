/- The walk of the law on texts of batches. -/
import Derived.Test.YthpnkcamjcohgaaDoorLBatchTextLK41
import Derived.Test.YthpnkcamjcohgaaDoorLBatchTextLK43
/-! The walk of the law on texts of batches. -/
namespace Go.Proofs.YthpnkcamjcohgaaDoor
set_option linter.unusedVariables false
set_option linter.unusedSimpArgs false
open Go.RowKit

open Classical in
/-- What ReadBatch tells. -/
noncomputable def rbV (s : ByteArray) : ByteArray × Int × Int × Int × Int × Bool := if h : ∃ t : ByteArray × Int × Int × Int × Int, batOK t.1 t.2.1 t.2.2.1 t.2.2.2.1 t.2.2.2.2 ∧ s = batT t.1 t.2.1 t.2.2.1 t.2.2.2.1 t.2.2.2.2 then ((Classical.choose h).1, (Classical.choose h).2.1, (Classical.choose h).2.2.1, (Classical.choose h).2.2.2.1, (Classical.choose h).2.2.2.2, true) else (ByteArray.empty, 0, 0, 0, 0, false)
theorem rbV_yes {a : ByteArray} {f st c wd : Int} (h : batOK a f st c wd) : rbV (batT a f st c wd) = (a, f, st, c, wd, true) := by
  have he : ∃ t : ByteArray × Int × Int × Int × Int, batOK t.1 t.2.1 t.2.2.1 t.2.2.2.1 t.2.2.2.2 ∧ batT a f st c wd = batT t.1 t.2.1 t.2.2.1 t.2.2.2.1 t.2.2.2.2 := ⟨(a, f, st, c, wd), h, rfl⟩
  unfold rbV
  rw [dif_pos he]
  obtain ⟨h1, h2, h3, h4, h5⟩ := rb_one (Classical.choose_spec he).1 h (Classical.choose_spec he).2.symm
  rw [h1, h2, h3, h4, h5]
theorem rbV_no {s : ByteArray} (h : ∀ (a : ByteArray) (f st c wd : Int), batOK a f st c wd → s ≠ batT a f st c wd) : rbV s = (ByteArray.empty, 0, 0, 0, 0, false) := by
  unfold rbV
  rw [dif_neg (fun ⟨t, h1, h2⟩ => h _ _ _ _ _ h1 h2)]
theorem RbE.form {s : ByteArray} {e : Ending} (h : RbE s e) : e = .returned (.tuple #[vBatch (rbV s).1 (rbV s).2.1 (rbV s).2.2.1 (rbV s).2.2.2.1 (rbV s).2.2.2.2.1, .bool (rbV s).2.2.2.2.2]) := by
  rcases h with ⟨a, f, st, c, wd, rfl, h, rfl⟩ | ⟨rfl, h⟩
  · rw [rbV_yes h]
  · rw [rbV_no h]
theorem rbV_back {s : ByteArray} (h : (rbV s).2.2.2.2.2 = true) : btV (rbV s).1 (rbV s).2.1 (rbV s).2.2.1 (rbV s).2.2.2.1 (rbV s).2.2.2.2.1 = s := by
  by_cases he : ∃ t : ByteArray × Int × Int × Int × Int, batOK t.1 t.2.1 t.2.2.1 t.2.2.2.1 t.2.2.2.2 ∧ s = batT t.1 t.2.1 t.2.2.1 t.2.2.2.1 t.2.2.2.2
  · obtain ⟨⟨a, f, st, c, wd⟩, h1, rfl⟩ := he
    rw [rbV_yes h1]
    exact if_pos h1
  · rw [rbV_no (fun a f st c wd h1 h2 => he ⟨(a, f, st, c, wd), h1, h2⟩)] at h
    cases h
theorem batT_ne (a : ByteArray) (f st c wd : Int) : batT a f st c wd ≠ ByteArray.empty := fun h => by
  have := congrArg ByteArray.size h
  have e5 : slB.size = 1 := rfl
  unfold batT at this
  simp only [ByteArray.size_append] at this
  have e6 : ByteArray.empty.size = 0 := rfl
  omega
theorem rbV_empty : rbV ByteArray.empty = (ByteArray.empty, 0, 0, 0, 0, false) := rbV_no fun a f st c wd _ h => batT_ne a f st c wd h.symm
theorem toList_nil {a : ByteArray} : a.toList = [] ↔ a = ByteArray.empty := by
  rw [show ([] : List UInt8) = ByteArray.empty.toList from by unfold ByteArray.toList ByteArray.toList.loop; rfl]
  exact bytes_eq
theorem rbV_size (s : ByteArray) : (rbV s).1.size ≤ 20 := by
  by_cases he : ∃ t : ByteArray × Int × Int × Int × Int, batOK t.1 t.2.1 t.2.2.1 t.2.2.2.1 t.2.2.2.2 ∧ s = batT t.1 t.2.1 t.2.2.1 t.2.2.2.1 t.2.2.2.2
  · obtain ⟨⟨a, f, st, c, wd⟩, h1, rfl⟩ := he
    rw [rbV_yes h1]
    have := h1.2.1
    show a.size ≤ 20
    simp only at this
    omega
  · rw [rbV_no (fun a f st c wd h1 h2 => he ⟨(a, f, st, c, wd), h1, h2⟩)]
    decide
set_option maxHeartbeats 1600000 in
set_option maxRecDepth 100000 in
theorem fnBatchText_law (pp : Option Addr) (c : Nat) (code : List Int) (w : World) (hx : U8At w pp code) (hl : code.length ≤ maxLen) (hT : Tab10 w) (hM : MaxC w) (hE : ErrC w) :
    Calls Tryd.prog 5 #[.slice pp code.length c] w fun e w' => e = .returned (.bool true) ∧ Ext w w' := by
  have HX := Lib.hid hx; clear hx
  have HT := Lib.hid hT; have HM := Lib.hid hM; have HE := Lib.hid hE; clear hT hM hE
  by_cases h4 : code.length ≤ 4096
  · go_enter Tryd.func5, Tryd.ntmps5
    go_wp2_with (first
      | (go_at_call 12; (with_reducible refine (big_c _ _ _ _ hl).mono ?_); rintro e w1 ⟨⟨hP, rfl⟩ | ⟨hP, rfl⟩, rfl⟩ <;> first | (exfalso; omega) | skip))
    refine (DrawBatchText_c _ _ _ _ HX.out h4).mono ?_
    rintro e w2 ⟨s, f, st, ct, wd, rfl, hsz, hx2⟩
    have hA := Blk.new w2 #[.string s, .int .i64 f, .int .i64 st, .int .i64 ct, .int .i64 wd] 51
    have hxa : Ext w2 (w2.alloc (.cells #[.string s, .int .i64 f, .int .i64 st, .int .i64 ct, .int .i64 wd] 51)) := (Ext.refl w2).alloc _
    have hx3 := hx2.trans hxa
    have hbi := Lib.hid (fun W (hx : Ext w W) => iBatchText_c s f st ct wd W (by omega) (HT.out.ext hx) (HM.out.ext hx))
    have hbs := Lib.hid (fun W => sBatchText_c s f st ct wd W (by omega))
    have htz := btV_size s f st ct wd
    have hri := Lib.hid (fun W (hx : Ext w W) => (iReadBatch_c (btV s f st ct wd) W (by omega) (HT.out.ext hx) (HM.out.ext hx) (HE.out.ext hx)).mono (fun e w' (h : RbE _ _ ∧ _) => (And.intro h.1.form h.2)))
    clear hx2 hxa
    go_wp2_with fail
    generalize w2.alloc (.cells #[.string s, .int .i64 f, .int .i64 st, .int .i64 ct, .int .i64 wd] 51) = w3 at *
    generalize w2.heap.size = gA at *
    have hcase : (rbV (btV s f st ct wd) = (s, f, st, ct, wd, true) ∧ (btV s f st ct wd).toList.isEmpty = false) ∨ (rbV (btV s f st ct wd) = (ByteArray.empty, 0, 0, 0, 0, false) ∧ (btV s f st ct wd).toList.isEmpty = true) := by
      by_cases hok : batOK s f st ct wd
      · have e1 : btV s f st ct wd = batT s f st ct wd := if_pos hok
        rw [e1]
        refine .inl ⟨rbV_yes hok, ?_⟩
        have := batT_ne s f st ct wd
        rw [← Bool.not_eq_true, List.isEmpty_iff, toList_nil]
        exact this
      · have e1 : btV s f st ct wd = ByteArray.empty := if_neg hok
        rw [e1]
        refine .inr ⟨rbV_empty, ?_⟩
        rw [List.isEmpty_iff, toList_nil]
    generalize btV s f st ct wd = t at *
    generalize rbV t = V at *
    obtain ⟨s1, f1, st1, c1, wd1, ok⟩ := V
    simp only [Prod.mk.injEq] at hcase hri
    have htt : (t.toList == t.toList) = true := by simp
    obtain ⟨B, hB⟩ : ∃ B, t.toList.isEmpty = B := ⟨_, rfl⟩
    rw [hB] at hcase
    replace hB := Lib.hid hB
    replace hcase := Lib.hid hcase
    refine (hbi.out _ hx3).mono ?_
    rintro e w4 ⟨rfl, hx4⟩
    have a4 := hA.ext hx4; have hx04 := hx3.trans hx4
    clear hbi hA hx3 hx4
    go_wp2_with fail
    refine (hri.out _ hx04).mono ?_
    rintro e w5 ⟨rfl, hx5⟩
    have hXb := Blk.new w5 #[.string s1, .int .i64 f1, .int .i64 st1, .int .i64 c1, .int .i64 wd1] 51
    have hxx : Ext w5 (w5.alloc (.cells #[.string s1, .int .i64 f1, .int .i64 st1, .int .i64 c1, .int .i64 wd1] 51)) := (Ext.refl w5).alloc _
    have hx46 := hx5.trans hxx
    have a6 := a4.ext hx46; have hx06 := hx04.trans hx46
    clear hri a4 hx04 hx5 hxx hx46
    go_wp2_with fail
    generalize w5.alloc (.cells #[.string s1, .int .i64 f1, .int .i64 st1, .int .i64 c1, .int .i64 wd1] 51) = w6 at *
    generalize w5.heap.size = gX at *
    refine (DrawReadBatch_c _ _ _ _ (HX.out.ext hx06) h4).mono ?_
    rintro e w7 ⟨u, rfl, hu, hx7⟩
    have a7 := a6.ext hx7; have x7 := hXb.ext hx7; have hx07 := hx06.trans hx7
    have hri := Lib.hid (fun W (hx : Ext w W) => (iReadBatch_c u W (by omega) (HT.out.ext hx) (HM.out.ext hx) (HE.out.ext hx)).mono (fun e w' (h : RbE _ _ ∧ _) => (And.intro h.1.form h.2)))
    have hrs := Lib.hid (fun W => (sReadBatch_c u W (by omega)).mono (fun e w' (h : RbE _ _ ∧ _) => (And.intro h.1.form h.2)))
    have hbk := Lib.hid (rbV_back (s := u))
    have hsu := rbV_size u
    generalize rbV u = U at *
    obtain ⟨s2, f2, st2, c2, wd2, ok2⟩ := U
    simp only at hri hrs hbk hsu
    have hbu := Lib.hid (fun W (hx : Ext w W) => iBatchText_c s2 f2 st2 c2 wd2 W (by omega) (HT.out.ext hx) (HM.out.ext hx))
    have huu : (u.toList == u.toList) = true := by simp
    clear a6 hXb hx06 hx7 HX
    go_wp2_with fail
    refine (hri.out _ hx07).mono ?_
    rintro e w8 ⟨rfl, hx8⟩
    have hY := Blk.new w8 #[.string s2, .int .i64 f2, .int .i64 st2, .int .i64 c2, .int .i64 wd2] 51
    have hxy : Ext w8 (w8.alloc (.cells #[.string s2, .int .i64 f2, .int .i64 st2, .int .i64 c2, .int .i64 wd2] 51)) := (Ext.refl w8).alloc _
    have hx79 := hx8.trans hxy
    have a9 := a7.ext hx79; have x9 := x7.ext hx79; have hx09 := hx07.trans hx79
    clear hri a7 x7 hx07 hx8 hxy hx79
    go_wp2_with fail
    generalize w8.alloc (.cells #[.string s2, .int .i64 f2, .int .i64 st2, .int .i64 c2, .int .i64 wd2] 51) = w9 at *
    generalize w8.heap.size = gY at *
    refine (hrs.out _).mono ?_
    rintro e w10 ⟨rfl, hx10⟩
    have hZ := Blk.new w10 #[.string s2, .int .i64 f2, .int .i64 st2, .int .i64 c2, .int .i64 wd2] 51
    have hxz : Ext w10 (w10.alloc (.cells #[.string s2, .int .i64 f2, .int .i64 st2, .int .i64 c2, .int .i64 wd2] 51)) := (Ext.refl w10).alloc _
    have hx911 := hx10.trans hxz
    have a11 := a9.ext hx911; have x11 := x9.ext hx911; have y11 := hY.ext hx911; have hx011 := hx09.trans hx911
    clear hrs a9 x9 hY hx09 hx10 hxz hx911
    go_upto_region 9 with fail
    generalize w10.alloc (.cells #[.string s2, .int .i64 f2, .int .i64 st2, .int .i64 c2, .int .i64 wd2] 51) = w11 at *
    generalize w10.heap.size = gZ at *
    have q0 := a11.cell (i := 0) (v := .string s) rfl; have q1 := a11.cell (i := 1) (v := .int .i64 f) rfl; have q2 := a11.cell (i := 2) (v := .int .i64 st) rfl; have q3 := a11.cell (i := 3) (v := .int .i64 ct) rfl; have q4 := a11.cell (i := 4) (v := .int .i64 wd) rfl; have ql := a11.lt
    go_wp2_with fail
    refine (hbs.out _).mono ?_
    rintro e w12 ⟨rfl, hx12⟩
    have a12 := a11.ext hx12; have x12 := x11.ext hx12; have y12 := y11.ext hx12; have z12 := hZ.ext hx12; have hx012 := hx011.trans hx12
    clear hbs q0 q1 q2 q3 q4 ql a11 x11 y11 hZ hx011 hx12
    have q0 := a12.cell (i := 0) (v := .string s) rfl; have q1 := a12.cell (i := 1) (v := .int .i64 f) rfl; have q2 := a12.cell (i := 2) (v := .int .i64 st) rfl; have q3 := a12.cell (i := 3) (v := .int .i64 ct) rfl; have q4 := a12.cell (i := 4) (v := .int .i64 wd) rfl; have ql := a12.lt
    have x0 := x12.cell (i := 0) (v := .string s1) rfl; have x1 := x12.cell (i := 1) (v := .int .i64 f1) rfl; have x2 := x12.cell (i := 2) (v := .int .i64 st1) rfl; have x3 := x12.cell (i := 3) (v := .int .i64 c1) rfl; have x4 := x12.cell (i := 4) (v := .int .i64 wd1) rfl; have xl := x12.lt
    have y0 := y12.cell (i := 0) (v := .string s2) rfl; have y1 := y12.cell (i := 1) (v := .int .i64 f2) rfl; have y2 := y12.cell (i := 2) (v := .int .i64 st2) rfl; have y3 := y12.cell (i := 3) (v := .int .i64 c2) rfl; have y4 := y12.cell (i := 4) (v := .int .i64 wd2) rfl; have yl := y12.lt
    have z0 := z12.cell (i := 0) (v := .string s2) rfl; have z1 := z12.cell (i := 1) (v := .int .i64 f2) rfl; have z2 := z12.cell (i := 2) (v := .int .i64 st2) rfl; have z3 := z12.cell (i := 3) (v := .int .i64 c2) rfl; have z4 := z12.cell (i := 4) (v := .int .i64 wd2) rfl; have zl := z12.lt
    clear a12 x12 y12 z12
    cases ok2
    · rcases hcase.out with ⟨⟨rfl, rfl, rfl, rfl, rfl, rfl⟩, rfl⟩ | ⟨⟨rfl, rfl, rfl, rfl, rfl, rfl⟩, rfl⟩
      all_goals
        have hB' := hB.out
        clear hcase hB hbu hbk
        go_wp2
        go_ret
        exact ⟨rfl, hx012⟩
    · have hb2 := hbk.out rfl
      rw [hb2] at hbu
      clear hbk hb2
      rcases hcase.out with ⟨⟨rfl, rfl, rfl, rfl, rfl, rfl⟩, rfl⟩ | ⟨⟨rfl, rfl, rfl, rfl, rfl, rfl⟩, rfl⟩
      all_goals
        have hB' := hB.out
        clear hcase hB
        go_wp2_with (go_at_call 22; (with_reducible refine (hbu.out _ hx012).mono ?_); rintro e w13 ⟨rfl, hx13⟩)
        go_ret
        exact ⟨rfl, hx012.trans hx13⟩
  · go_enter Tryd.func5, Tryd.ntmps5
    go_wp2_with (go_at_call 12; (with_reducible refine (big_c _ _ _ _ hl).mono ?_); rintro e w1 ⟨⟨hP, rfl⟩ | ⟨hP, rfl⟩, rfl⟩ <;> first | (exfalso; omega) | skip)
    go_ret
    exact ⟨rfl, Ext.refl _⟩
end Go.Proofs.YthpnkcamjcohgaaDoor
