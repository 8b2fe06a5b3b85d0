/- The text of a batch, on both sides. -/
import Derived.Test.YthpnkcamjcohgaaDoorLBatchTextLK30
import Derived.Test.YthpnkcamjcohgaaDoorLBatchTextLK32
import Derived.Test.YthpnkcamjcohgaaDoorLBatchTextLK02
import Derived.Shelf.Vars
namespace Go.Proofs.YthpnkcamjcohgaaDoor
set_option linter.unusedVariables false
set_option linter.unusedSimpArgs false
open Go.RowKit

/-- The text of a batch that is valid. -/
def batT (s : ByteArray) (f st c wd : Int) : ByteArray := s ++ slB ++ dec f ++ slB ++ dec st ++ slB ++ dec c ++ slB ++ dec wd
open Classical in
noncomputable def btV (s : ByteArray) (f st c wd : Int) : ByteArray := if batOK s f st c wd then batT s f st c wd else ByteArray.empty
theorem decT_four (f st c wd : Int) : decT [f, st, c, wd] [f, st, c, wd].length = dec f ++ spB ++ dec st ++ spB ++ dec c ++ spB ++ dec wd := by
  show (if 3 = 0 then _ else (if 2 = 0 then _ else (if 1 = 0 then _ else (if 0 = 0 then ByteArray.empty else _) ++ dec f ++ spB) ++ dec st ++ spB) ++ dec c ++ spB) ++ dec wd = _
  rw [if_neg (by decide), if_neg (by decide), if_neg (by decide), if_pos rfl]
  have : ByteArray.empty ++ dec f = dec f := by apply ByteArray.ext; simp
  rw [this]
theorem bat_nat {f st c wd : Int} (h : numOK f st c wd) : ∃ a b d e : Nat, f = a ∧ st = b ∧ c = d ∧ wd = e ∧ a ≤ 999999999 ∧ b ≤ 1000 ∧ d ≤ 200 ∧ e ≤ 9 := by
  obtain ⟨h1, h2, h3, h4, _⟩ := h
  exact ⟨f.toNat, st.toNat, c.toNat, wd.toNat, by omega, by omega, by omega, by omega, by omega, by omega, by omega, by omega⟩
set_option maxHeartbeats 1600000 in
set_option maxRecDepth 100000 in
theorem sBatchText_c (s : ByteArray) (f st c wd : Int) (w : World) (hs : s.size ≤ 1048576) :
    Calls Tryd.prog 26 #[vBatch s f st c wd] w fun e w' => e = .returned (.string (btV s f st c wd)) ∧ Ext w w' := by
  have hib := Lib.hid (fun W => sIsBatch_c s f st c wd W hs)
  have hbx := Blk.new w #[.string s, .int .i64 f, .int .i64 st, .int .i64 c, .int .i64 wd] 51
  have hx0 : Ext w (w.alloc (.cells #[.string s, .int .i64 f, .int .i64 st, .int .i64 c, .int .i64 wd] 51)) := (Ext.refl w).alloc _
  by_cases hok : batOK s f st c wd
  · have hv : btV s f st c wd = batT s f st c wd := if_pos hok
    rw [hv]
    clear hv
    have hs12 := hok.2.1
    obtain ⟨na, nb, nd, ne, rfl, rfl, rfl, rfl, ba, bb, bd, be⟩ := bat_nat hok.2.2
    replace hok := Lib.hid hok
    have e1 := Lib.hid (fun W => sDec_c na W (by omega)); have e2 := Lib.hid (fun W => sDec_c nb W (by omega)); have e3 := Lib.hid (fun W => sDec_c nd W (by omega)); have e4 := Lib.hid (fun W => sDec_c ne W (by omega))
    have l1 := dec_le (na : Int) (by omega) (by omega); have l2 := dec_le (nb : Int) (by omega) (by omega); have l3 := dec_le (nd : Int) (by omega) (by omega); have l4 := dec_le (ne : Int) (by omega) (by omega)
    have hbt := Lib.hid (show batT s na nb nd ne = s ++ slB ++ dec na ++ slB ++ dec nb ++ slB ++ dec nd ++ slB ++ dec ne from rfl)
    have hsl : slB = ⟨#[47]⟩ := rfl
    generalize batT s na nb nd ne = BT at *
    generalize dec (na : Int) = D1 at *
    generalize dec (nb : Int) = D2 at *
    generalize dec (nd : Int) = D3 at *
    generalize dec (ne : Int) = D4 at *
    rw [hsl] at hbt
    clear hsl
    have g1 : ¬ 9223372036854775807 < s.size + 1 := by omega
    have g2 : ¬ 9223372036854775807 < s.size + 1 + D1.size := by omega
    have g3 : ¬ 9223372036854775807 < s.size + 1 + D1.size + 1 := by omega
    have g4 : ¬ 9223372036854775807 < s.size + 1 + D1.size + 1 + D2.size := by omega
    have g5 : ¬ 9223372036854775807 < s.size + 1 + D1.size + 1 + D2.size + 1 := by omega
    have g6 : ¬ 9223372036854775807 < s.size + 1 + D1.size + 1 + D2.size + 1 + D3.size := by omega
    have g7 : ¬ 9223372036854775807 < s.size + 1 + D1.size + 1 + D2.size + 1 + D3.size + 1 := by omega
    have g8 : ¬ 9223372036854775807 < s.size + 1 + D1.size + 1 + D2.size + 1 + D3.size + 1 + D4.size := by omega
    go_enter Tryd.func26, Tryd.ntmps26
    go_upto_region 3 with (go_at_call 72; (with_reducible refine (hib.out _).mono ?_); rintro e w1 ⟨⟨hP, rfl⟩ | ⟨hP, rfl⟩, hx1⟩ <;> (first | exact absurd hok.out hP | skip); have hb1 := hbx.ext hx1; have a0 := hb1.cell (i := 0) (v := .string s) rfl; have a1 := hb1.cell (i := 1) (v := .int .i64 na) rfl; have a2 := hb1.cell (i := 2) (v := .int .i64 nb) rfl; have a3 := hb1.cell (i := 3) (v := .int .i64 nd) rfl; have a4 := hb1.cell (i := 4) (v := .int .i64 ne) rfl; have aL := hb1.lt)
    refine wp_region_c3 (fun w' => Ext w1 w') (.st 0 (.st 1 (.st 2 (.st 3 (.st 4 (.st 8 (.st 9 (.st 13 (.st 14 (.st 18 (.st 19 (.one 5 (.st 6 (.st 7 (.one 10 (.st 11 (.st 12 (.one 15 (.st 16 (.st 17 (.one 20 (.st 21 (.st 22 .done))))))))))))))))))))))) (by kernel_rfl) (by kernel_rfl) (by decide) (by kernel_rfl) ?_ ?_
    · exact (by repeat (first | exact Ext.refl _ | assumption | refine Ext.drew ?_ | refine Ext.drewN ?_ _ | refine Ext.iter ?_ _ _ | refine Ext.alloc ?_ _ | refine Ext.setCell ?_ (by first | exact Nat.le_refl _ | (simp <;> omega)) _ | refine Ext.trans2 (by assumption) ?_))
    refine c3_intro fun ops eo => ?_
    have ho0 := canon_at eo 0 rfl
    have ho1 := canon_at eo 1 rfl
    have ho2 := canon_at eo 2 rfl
    have ho3 := canon_at eo 3 rfl
    have ho4 := canon_at eo 4 rfl
    have ho5 := canon_at eo 5 rfl
    have ho6 := canon_at eo 6 rfl
    have ho7 := canon_at eo 7 rfl
    have ho8 := canon_at eo 8 rfl
    have ho9 := canon_at eo 9 rfl
    have ho10 := canon_at eo 10 rfl
    have ho11 := canon_at eo 11 rfl
    have ho12 := canon_at eo 12 rfl
    have ho13 := canon_at eo 13 rfl
    have ho14 := canon_at eo 14 rfl
    have ho15 := canon_at eo 15 rfl
    have ho16 := canon_at eo 16 rfl
    have ho17 := canon_at eo 17 rfl
    have ho18 := canon_at eo 18 rfl
    have ho19 := canon_at eo 19 rfl
    have ho20 := canon_at eo 20 rfl
    have ho21 := canon_at eo 21 rfl
    have ho22 := canon_at eo 22 rfl
    clear eo
    all_goals (apply c3_st ho0 rfl; (intro w2 hS; first | (go_simp; first | done | rfl) | rfl | (obtain ⟨hc', hf', hk', hz⟩ := ecell hS; go_simp; first | done | rfl)); simp only [Act.put, List.setIfInBounds_toArray, List.set_cons_zero, List.set_cons_succ])
    all_goals clear ho0
    all_goals (apply c3_st ho1 rfl; (intro w2 hS; first | (go_simp; first | done | rfl) | rfl | (obtain ⟨hc', hf', hk', hz⟩ := ecell hS; go_simp; first | done | rfl)); simp only [Act.put, List.setIfInBounds_toArray, List.set_cons_zero, List.set_cons_succ])
    all_goals clear ho1
    all_goals (apply c3_st ho2 rfl; (intro w2 hS; first | (go_simp; first | done | rfl) | rfl | (obtain ⟨hc', hf', hk', hz⟩ := ecell hS; go_simp; first | done | rfl)); simp only [Act.put, List.setIfInBounds_toArray, List.set_cons_zero, List.set_cons_succ])
    all_goals clear ho2
    all_goals (apply c3_st ho3 rfl; (intro w2 hS; first | (go_simp; first | done | rfl) | rfl | (obtain ⟨hc', hf', hk', hz⟩ := ecell hS; go_simp; first | done | rfl)); simp only [Act.put, List.setIfInBounds_toArray, List.set_cons_zero, List.set_cons_succ])
    all_goals clear ho3
    all_goals (apply c3_st ho4 rfl; (intro w2 hS; first | (go_simp; first | done | rfl) | rfl | (obtain ⟨hc', hf', hk', hz⟩ := ecell hS; go_simp; first | done | rfl)); simp only [Act.put, List.setIfInBounds_toArray, List.set_cons_zero, List.set_cons_succ])
    all_goals clear ho4
    all_goals (apply c3_st ho8 rfl; (intro w2 hS; first | (go_simp; first | done | rfl) | rfl | (obtain ⟨hc', hf', hk', hz⟩ := ecell hS; go_simp; first | done | rfl)); simp only [Act.put, List.setIfInBounds_toArray, List.set_cons_zero, List.set_cons_succ])
    all_goals clear ho8
    all_goals (apply c3_st ho9 rfl; (intro w2 hS; first | (go_simp; first | done | rfl) | rfl | (obtain ⟨hc', hf', hk', hz⟩ := ecell hS; go_simp; first | done | rfl)); simp only [Act.put, List.setIfInBounds_toArray, List.set_cons_zero, List.set_cons_succ])
    all_goals clear ho9
    all_goals (apply c3_st ho13 rfl; (intro w2 hS; first | (go_simp; first | done | rfl) | rfl | (obtain ⟨hc', hf', hk', hz⟩ := ecell hS; go_simp; first | done | rfl)); simp only [Act.put, List.setIfInBounds_toArray, List.set_cons_zero, List.set_cons_succ])
    all_goals clear ho13
    all_goals (apply c3_st ho14 rfl; (intro w2 hS; first | (go_simp; first | done | rfl) | rfl | (obtain ⟨hc', hf', hk', hz⟩ := ecell hS; go_simp; first | done | rfl)); simp only [Act.put, List.setIfInBounds_toArray, List.set_cons_zero, List.set_cons_succ])
    all_goals clear ho14
    all_goals (apply c3_st ho18 rfl; (intro w2 hS; first | (go_simp; first | done | rfl) | rfl | (obtain ⟨hc', hf', hk', hz⟩ := ecell hS; go_simp; first | done | rfl)); simp only [Act.put, List.setIfInBounds_toArray, List.set_cons_zero, List.set_cons_succ])
    all_goals clear ho18
    all_goals (apply c3_st ho19 rfl; (intro w2 hS; first | (go_simp; first | done | rfl) | rfl | (obtain ⟨hc', hf', hk', hz⟩ := ecell hS; go_simp; first | done | rfl)); simp only [Act.put, List.setIfInBounds_toArray, List.set_cons_zero, List.set_cons_succ])
    all_goals clear ho19
    all_goals refine c3_one ?_
    all_goals first | (refine c3_op ho5 rfl (fun K hK => ?_); go_simp; ((go_at_call 73; (with_reducible refine (e1.out _).mono ?_); rintro e w2 ⟨rfl, hx2⟩)); all_goals ((with_reducible refine hK _ _ ?_); refine ⟨(by repeat (first | exact Ext.refl _ | assumption | refine Ext.drew ?_ | refine Ext.drewN ?_ _ | refine Ext.iter ?_ _ _ | refine Ext.alloc ?_ _ | refine Ext.setCell ?_ (by first | exact Nat.le_refl _ | (simp <;> omega)) _ | refine Ext.trans2 (by assumption) ?_)), ?_⟩; clear hK K; go_simp))
    all_goals clear ho5
    all_goals (apply c3_st ho6 rfl; (intro w2 hS; first | (go_simp; first | done | rfl) | rfl | (obtain ⟨hc', hf', hk', hz⟩ := ecell hS; go_simp; first | done | rfl)); simp only [Act.put, List.setIfInBounds_toArray, List.set_cons_zero, List.set_cons_succ])
    all_goals clear ho6
    all_goals (apply c3_st ho7 rfl; (intro w2 hS; first | (go_simp; first | done | rfl) | rfl | (obtain ⟨hc', hf', hk', hz⟩ := ecell hS; go_simp; first | done | rfl)); simp only [Act.put, List.setIfInBounds_toArray, List.set_cons_zero, List.set_cons_succ])
    all_goals clear ho7
    all_goals refine c3_one ?_
    all_goals first | (refine c3_op ho10 rfl (fun K hK => ?_); go_simp; ((go_at_call 73; (with_reducible refine (e2.out _).mono ?_); rintro e w3 ⟨rfl, hx3⟩)); all_goals ((with_reducible refine hK _ _ ?_); refine ⟨(by repeat (first | exact Ext.refl _ | assumption | refine Ext.drew ?_ | refine Ext.drewN ?_ _ | refine Ext.iter ?_ _ _ | refine Ext.alloc ?_ _ | refine Ext.setCell ?_ (by first | exact Nat.le_refl _ | (simp <;> omega)) _ | refine Ext.trans2 (by assumption) ?_)), ?_⟩; clear hK K; go_simp))
    all_goals clear ho10
    all_goals (apply c3_st ho11 rfl; (intro w2 hS; first | (go_simp; first | done | rfl) | rfl | (obtain ⟨hc', hf', hk', hz⟩ := ecell hS; go_simp; first | done | rfl)); simp only [Act.put, List.setIfInBounds_toArray, List.set_cons_zero, List.set_cons_succ])
    all_goals clear ho11
    all_goals (apply c3_st ho12 rfl; (intro w2 hS; first | (go_simp; first | done | rfl) | rfl | (obtain ⟨hc', hf', hk', hz⟩ := ecell hS; go_simp; first | done | rfl)); simp only [Act.put, List.setIfInBounds_toArray, List.set_cons_zero, List.set_cons_succ])
    all_goals clear ho12
    all_goals refine c3_one ?_
    all_goals first | (refine c3_op ho15 rfl (fun K hK => ?_); go_simp; ((go_at_call 73; (with_reducible refine (e3.out _).mono ?_); rintro e w4 ⟨rfl, hx4⟩)); all_goals ((with_reducible refine hK _ _ ?_); refine ⟨(by repeat (first | exact Ext.refl _ | assumption | refine Ext.drew ?_ | refine Ext.drewN ?_ _ | refine Ext.iter ?_ _ _ | refine Ext.alloc ?_ _ | refine Ext.setCell ?_ (by first | exact Nat.le_refl _ | (simp <;> omega)) _ | refine Ext.trans2 (by assumption) ?_)), ?_⟩; clear hK K; go_simp))
    all_goals clear ho15
    all_goals (apply c3_st ho16 rfl; (intro w2 hS; first | (go_simp; first | done | rfl) | rfl | (obtain ⟨hc', hf', hk', hz⟩ := ecell hS; go_simp; first | done | rfl)); simp only [Act.put, List.setIfInBounds_toArray, List.set_cons_zero, List.set_cons_succ])
    all_goals clear ho16
    all_goals (apply c3_st ho17 rfl; (intro w2 hS; first | (go_simp; first | done | rfl) | rfl | (obtain ⟨hc', hf', hk', hz⟩ := ecell hS; go_simp; first | done | rfl)); simp only [Act.put, List.setIfInBounds_toArray, List.set_cons_zero, List.set_cons_succ])
    all_goals clear ho17
    all_goals refine c3_one ?_
    all_goals first | (refine c3_op ho20 rfl (fun K hK => ?_); go_simp; ((go_at_call 73; (with_reducible refine (e4.out _).mono ?_); rintro e w5 ⟨rfl, hx5⟩)); all_goals ((with_reducible refine hK _ _ ?_); refine ⟨(by repeat (first | exact Ext.refl _ | assumption | refine Ext.drew ?_ | refine Ext.drewN ?_ _ | refine Ext.iter ?_ _ _ | refine Ext.alloc ?_ _ | refine Ext.setCell ?_ (by first | exact Nat.le_refl _ | (simp <;> omega)) _ | refine Ext.trans2 (by assumption) ?_)), ?_⟩; clear hK K; go_simp))
    all_goals clear ho20
    all_goals (apply c3_st ho21 rfl; (intro w2 hS; first | (go_simp; first | done | rfl) | rfl | (obtain ⟨hc', hf', hk', hz⟩ := ecell hS; go_simp; first | done | rfl)); simp only [Act.put, List.setIfInBounds_toArray, List.set_cons_zero, List.set_cons_succ])
    all_goals clear ho21
    all_goals (apply c3_st ho22 rfl; (intro w2 hS; first | (go_simp; first | done | rfl) | rfl | (obtain ⟨hc', hf', hk', hz⟩ := ecell hS; go_simp; first | done | rfl)); simp only [Act.put, List.setIfInBounds_toArray, List.set_cons_zero, List.set_cons_succ])
    all_goals clear ho22
    all_goals refine c3_done (NoPanic.normal ?_)
    go_wp2
    go_ret
    exact ⟨by rw [hbt.out]; rfl, (hx0.trans hx1).trans (by repeat (first | exact Ext.refl _ | assumption | refine Ext.drew ?_ | refine Ext.drewN ?_ _ | refine Ext.iter ?_ _ _ | refine Ext.alloc ?_ _ | refine Ext.setCell ?_ (by first | exact Nat.le_refl _ | (simp <;> omega)) _ | refine Ext.trans2 (by assumption) ?_))⟩
  · have hv : btV s f st c wd = ByteArray.empty := if_neg hok
    rw [hv]
    replace hok := Lib.hid hok
    go_enter Tryd.func26, Tryd.ntmps26
    go_wp2_with (go_at_call 72; (with_reducible refine (hib.out _).mono ?_); rintro e w1 ⟨⟨hP, rfl⟩ | ⟨hP, rfl⟩, hx1⟩ <;> (first | exact absurd hP hok.out | skip))
    go_ret
    exact ⟨rfl, hx0.trans hx1⟩
/-- The library's variable that its search functions read holds a number. -/
def MaxC (w : World) : Prop := ∃ m, w.cell? ⟨1, 0, none⟩ = some (.int .i64 m)
theorem MaxC.of {w : World} (h : w.ShapedOpen Tryd.prog) : MaxC w := cell_of_shapedOpen_int (zero := #[.int .i64 0]) (t := 3) h (of_decide_eq_true (by kernel_rfl)) (by kernel_rfl) rfl (by kernel_rfl) (by kernel_rfl) Tryd.underlying3
theorem MaxC.ext {w w' : World} (h : MaxC w) (hb : Ext w w') : MaxC w' := by
  obtain ⟨m, hm⟩ := h
  exact ⟨m, by rw [(ecell hb).1 _ _ (cell_lt hm).1]; exact hm⟩
theorem count_le (s : ByteArray) : Lib.countB s spB ≤ s.size := Lib.countB_le spB (by decide) s.size s (Nat.le_refl _)
theorem replaced_size (s : ByteArray) : (⟨(Lib.replaceAll s.data.toList [32] [47]).toArray⟩ : ByteArray).size = s.size := by
  rw [replaceAll_one 32 47 (by decide)]
  simp only [ByteArray.size, List.size_toArray, List.length_map, Array.length_toList]
set_option maxHeartbeats 1600000 in
set_option maxRecDepth 100000 in
theorem batchText_c (s : ByteArray) (f st c wd : Int) (w : World) (hs : s.size ≤ 12) (hn : numOK f st c wd) (hT : Tab10 w) (hM : MaxC w) :
    Calls Tryd.prog 66 #[vBatch s f st c wd] w fun e w' => e = .returned (.string (batT s f st c wd)) ∧ Ext w w' := by
  have hbx := Blk.new w #[.string s, .int .i64 f, .int .i64 st, .int .i64 c, .int .i64 wd] 51
  have hx0 : Ext w (w.alloc (.cells #[.string s, .int .i64 f, .int .i64 st, .int .i64 c, .int .i64 wd] 51)) := (Ext.refl w).alloc _
  obtain ⟨h1, h2, h3, h4, -, -⟩ := hn
  have hi4 : i64s [f, st, c, wd] := fun k hk => by
    match k, hk with
    | 0, _ => show _ ≤ f ∧ f ≤ _; omega
    | 1, _ => show _ ≤ st ∧ st ≤ _; omega
    | 2, _ => show _ ≤ c ∧ c ≤ _; omega
    | 3, _ => show _ ≤ wd ∧ wd ≤ _; omega
  have hdt := decT_four f st c wd
  have hsl := slashed (f := f) (st := st) (c := c) (wd := wd) (by omega) (by omega) (by omega) (by omega)
  have hdc := fun W p k (h : IntsAt W p [f, st, c, wd]) (hT : Tab10 W) => decimals_c p k [f, st, c, wd] W h (by simp) hi4 hT
  have hDsz := decT_size hi4 4 (Nat.le_refl _)
  rw [show decT [f, st, c, wd] 4 = dec f ++ spB ++ dec st ++ spB ++ dec c ++ spB ++ dec wd from hdt] at hDsz
  simp only [hdt] at hdc
  have hdc : ∀ W p k (_ : IntsAt W p [f, st, c, wd]) (_ : Tab10 W), Calls Tryd.prog 43 #[.slice p 4 k] W fun e w' => e = .returned (.string (dec f ++ spB ++ dec st ++ spB ++ dec c ++ spB ++ dec wd)) ∧ Ext W w' := hdc
  have hbt := Lib.hid (show batT s f st c wd = s ++ slB ++ dec f ++ slB ++ dec st ++ slB ++ dec c ++ slB ++ dec wd from rfl)
  have hass : s ++ slB ++ dec f ++ slB ++ dec st ++ slB ++ dec c ++ slB ++ dec wd = s ++ slB ++ (dec f ++ slB ++ dec st ++ slB ++ dec c ++ slB ++ dec wd) := by
    apply ByteArray.ext; simp
  rw [← hsl] at hass
  clear hsl hdt hi4
  generalize dec f ++ spB ++ dec st ++ spB ++ dec c ++ spB ++ dec wd = DT at *
  have hct := count_le DT
  have hrs : (⟨(Lib.replaceAll DT.data.toList [32] [47]).toArray⟩ : ByteArray).size ≤ 1000 := by rw [replaced_size]; omega
  have hra : ∀ W m, W.cell? ⟨1, 0, none⟩ = some (.int .i64 m) → Calls Tryd.prog 107 #[.string DT, .string ⟨#[32]⟩, .string ⟨#[47]⟩] W fun e w' => e = .returned (.string (⟨(Lib.replaceAll DT.data.toList [32] [47]).toArray⟩ : ByteArray)) ∧ Ext W w' := fun W m hm => Tryd.strings_ReplaceAll DT spB slB m W (by omega) hm (by decide) (by show DT.size + Lib.countB DT spB * 1 ≤ _; omega)
  generalize hR : (⟨(Lib.replaceAll DT.data.toList [32] [47]).toArray⟩ : ByteArray) = R at *
  replace hra := Lib.hid hra
  replace hbt := Lib.hid (hbt.out.trans hass)
  clear hass
  have hsl : slB = ⟨#[47]⟩ := rfl
  rw [hsl] at hbt
  generalize batT s f st c wd = BT at *
  replace hdc := Lib.hid hdc
  have g1 : ¬ 9223372036854775807 < s.size + 1 := by omega
  have g2 : ¬ 9223372036854775807 < s.size + 1 + R.size := by omega
  have hia : ∀ W : World, IntsAt (W.alloc (.cells #[.int .i64 f, .int .i64 st, .int .i64 c, .int .i64 wd] 2)) (some ⟨W.heap.size, 0, none⟩) [f, st, c, wd] := fun W => IntsAt_alloc W [f, st, c, wd] 2
  replace hia := Lib.hid hia
  have a0 := hbx.cell (i := 0) (v := .string s) rfl; have a1 := hbx.cell (i := 1) (v := .int .i64 f) rfl; have a2 := hbx.cell (i := 2) (v := .int .i64 st) rfl; have a3 := hbx.cell (i := 3) (v := .int .i64 c) rfl; have a4 := hbx.cell (i := 4) (v := .int .i64 wd) rfl; have aL := hbx.lt
  replace hT := hT.ext hx0; replace hM := hM.ext hx0
  go_enter Tryd.func66, Tryd.ntmps66
  go_upto_region 1 with (fail)
  generalize w.alloc (.cells #[.string s, .int .i64 f, .int .i64 st, .int .i64 c, .int .i64 wd] 51) = w0 at *
  refine wp_region_c3 (fun w' => Ext w0 w') (.st 0 (.st 1 (.st 2 (.st 3 (.st 4 (.st 5 (.st 6 (.st 7 (.st 8 (.st 9 (.st 10 (.one 11 (.one 12 (.one 13 (.st 14 (.st 15 .done)))))))))))))))) (by kernel_rfl) (by kernel_rfl) (by decide) (by kernel_rfl) ?_ ?_
  · exact (by repeat (first | exact Ext.refl _ | assumption | refine Ext.drew ?_ | refine Ext.drewN ?_ _ | refine Ext.iter ?_ _ _ | refine Ext.alloc ?_ _ | refine Ext.setCell ?_ (by first | exact Nat.le_refl _ | (simp <;> omega)) _ | refine Ext.trans2 (by assumption) ?_))
  refine c3_intro fun ops eo => ?_
  have ho0 := canon_at eo 0 rfl
  have ho1 := canon_at eo 1 rfl
  have ho2 := canon_at eo 2 rfl
  have ho3 := canon_at eo 3 rfl
  have ho4 := canon_at eo 4 rfl
  have ho5 := canon_at eo 5 rfl
  have ho6 := canon_at eo 6 rfl
  have ho7 := canon_at eo 7 rfl
  have ho8 := canon_at eo 8 rfl
  have ho9 := canon_at eo 9 rfl
  have ho10 := canon_at eo 10 rfl
  have ho11 := canon_at eo 11 rfl
  have ho12 := canon_at eo 12 rfl
  have ho13 := canon_at eo 13 rfl
  have ho14 := canon_at eo 14 rfl
  have ho15 := canon_at eo 15 rfl
  clear eo
  all_goals (apply c3_st ho0 rfl; (intro w2 hS; first | (go_simp; first | done | rfl) | rfl | (obtain ⟨hc', hf', hk', hz⟩ := ecell hS; go_simp; first | done | rfl)); simp only [Act.put, List.setIfInBounds_toArray, List.set_cons_zero, List.set_cons_succ])
  all_goals clear ho0
  all_goals (apply c3_st ho1 rfl; (intro w2 hS; first | (go_simp; first | done | rfl) | rfl | (obtain ⟨hc', hf', hk', hz⟩ := ecell hS; go_simp; first | done | rfl)); simp only [Act.put, List.setIfInBounds_toArray, List.set_cons_zero, List.set_cons_succ])
  all_goals clear ho1
  all_goals (apply c3_st ho2 rfl; (intro w2 hS; first | (go_simp; first | done | rfl) | rfl | (obtain ⟨hc', hf', hk', hz⟩ := ecell hS; go_simp; first | done | rfl)); simp only [Act.put, List.setIfInBounds_toArray, List.set_cons_zero, List.set_cons_succ])
  all_goals clear ho2
  all_goals (apply c3_st ho3 rfl; (intro w2 hS; first | (go_simp; first | done | rfl) | rfl | (obtain ⟨hc', hf', hk', hz⟩ := ecell hS; go_simp; first | done | rfl)); simp only [Act.put, List.setIfInBounds_toArray, List.set_cons_zero, List.set_cons_succ])
  all_goals clear ho3
  all_goals (apply c3_st ho4 rfl; (intro w2 hS; first | (go_simp; first | done | rfl) | rfl | (obtain ⟨hc', hf', hk', hz⟩ := ecell hS; go_simp; first | done | rfl)); simp only [Act.put, List.setIfInBounds_toArray, List.set_cons_zero, List.set_cons_succ])
  all_goals clear ho4
  all_goals (apply c3_st ho5 rfl; (intro w2 hS; first | (go_simp; first | done | rfl) | rfl | (obtain ⟨hc', hf', hk', hz⟩ := ecell hS; go_simp; first | done | rfl)); simp only [Act.put, List.setIfInBounds_toArray, List.set_cons_zero, List.set_cons_succ])
  all_goals clear ho5
  all_goals (apply c3_st ho6 rfl; (intro w2 hS; first | (go_simp; first | done | rfl) | rfl | (obtain ⟨hc', hf', hk', hz⟩ := ecell hS; go_simp; first | done | rfl)); simp only [Act.put, List.setIfInBounds_toArray, List.set_cons_zero, List.set_cons_succ])
  all_goals clear ho6
  all_goals (apply c3_st ho7 rfl; (intro w2 hS; first | (go_simp; first | done | rfl) | rfl | (obtain ⟨hc', hf', hk', hz⟩ := ecell hS; go_simp; first | done | rfl)); simp only [Act.put, List.setIfInBounds_toArray, List.set_cons_zero, List.set_cons_succ])
  all_goals clear ho7
  all_goals (apply c3_st ho8 rfl; (intro w2 hS; first | (go_simp; first | done | rfl) | rfl | (obtain ⟨hc', hf', hk', hz⟩ := ecell hS; go_simp; first | done | rfl)); simp only [Act.put, List.setIfInBounds_toArray, List.set_cons_zero, List.set_cons_succ])
  all_goals clear ho8
  all_goals (apply c3_st ho9 rfl; (intro w2 hS; first | (go_simp; first | done | rfl) | rfl | (obtain ⟨hc', hf', hk', hz⟩ := ecell hS; go_simp; first | done | rfl)); simp only [Act.put, List.setIfInBounds_toArray, List.set_cons_zero, List.set_cons_succ])
  all_goals clear ho9
  all_goals (apply c3_st ho10 rfl; (intro w2 hS; first | (go_simp; first | done | rfl) | rfl | (obtain ⟨hc', hf', hk', hz⟩ := ecell hS; go_simp; first | done | rfl)); simp only [Act.put, List.setIfInBounds_toArray, List.set_cons_zero, List.set_cons_succ])
  all_goals clear ho10
  all_goals refine c3_one ?_
  all_goals first | (refine c3_op ho11 rfl (fun K hK => ?_); go_simp; (skip); all_goals ((with_reducible refine hK _ _ ?_); refine ⟨(by repeat (first | exact Ext.refl _ | assumption | refine Ext.drew ?_ | refine Ext.drewN ?_ _ | refine Ext.iter ?_ _ _ | refine Ext.alloc ?_ _ | refine Ext.setCell ?_ (by first | exact Nat.le_refl _ | (simp <;> omega)) _ | refine Ext.trans2 (by assumption) ?_)), ?_⟩; clear hK K; go_simp))
  all_goals clear ho11
  all_goals refine c3_one ?_
  all_goals first | (refine c3_op ho12 rfl (fun K hK => ?_); go_simp; ((go_at_call 43; (with_reducible refine (hdc.out _ _ _ (by exact (hia.out w0).ext (by repeat (first | exact Ext.refl _ | assumption | refine Ext.drew ?_ | refine Ext.drewN ?_ _ | refine Ext.iter ?_ _ _ | refine Ext.alloc ?_ _ | refine Ext.setCell ?_ (by first | exact Nat.le_refl _ | (simp <;> omega)) _ | refine Ext.trans2 (by assumption) ?_))) (by exact hT.ext (by repeat (first | exact Ext.refl _ | assumption | refine Ext.drew ?_ | refine Ext.drewN ?_ _ | refine Ext.iter ?_ _ _ | refine Ext.alloc ?_ _ | refine Ext.setCell ?_ (by first | exact Nat.le_refl _ | (simp <;> omega)) _ | refine Ext.trans2 (by assumption) ?_)))).mono ?_); rintro e w2 ⟨rfl, hx2⟩)); all_goals ((with_reducible refine hK _ _ ?_); refine ⟨(by repeat (first | exact Ext.refl _ | assumption | refine Ext.drew ?_ | refine Ext.drewN ?_ _ | refine Ext.iter ?_ _ _ | refine Ext.alloc ?_ _ | refine Ext.setCell ?_ (by first | exact Nat.le_refl _ | (simp <;> omega)) _ | refine Ext.trans2 (by assumption) ?_)), ?_⟩; clear hK K; go_simp))
  all_goals clear ho12
  all_goals refine c3_one ?_
  all_goals first | (refine c3_op ho13 rfl (fun K hK => ?_); go_simp; ((go_at_call 107; obtain ⟨m, hm⟩ := hM.ext (show Ext w0 w2 from (by repeat (first | exact Ext.refl _ | assumption | refine Ext.drew ?_ | refine Ext.drewN ?_ _ | refine Ext.iter ?_ _ _ | refine Ext.alloc ?_ _ | refine Ext.setCell ?_ (by first | exact Nat.le_refl _ | (simp <;> omega)) _ | refine Ext.trans2 (by assumption) ?_))); (with_reducible refine (hra.out _ m hm).mono ?_); rintro e w3 ⟨rfl, hx3⟩)); all_goals ((with_reducible refine hK _ _ ?_); refine ⟨(by repeat (first | exact Ext.refl _ | assumption | refine Ext.drew ?_ | refine Ext.drewN ?_ _ | refine Ext.iter ?_ _ _ | refine Ext.alloc ?_ _ | refine Ext.setCell ?_ (by first | exact Nat.le_refl _ | (simp <;> omega)) _ | refine Ext.trans2 (by assumption) ?_)), ?_⟩; clear hK K; go_simp))
  all_goals clear ho13
  all_goals (apply c3_st ho14 rfl; (intro w2 hS; first | (go_simp; first | done | rfl) | rfl | (obtain ⟨hc', hf', hk', hz⟩ := ecell hS; go_simp; first | done | rfl)); simp only [Act.put, List.setIfInBounds_toArray, List.set_cons_zero, List.set_cons_succ])
  all_goals clear ho14
  all_goals (apply c3_st ho15 rfl; (intro w2 hS; first | (go_simp; first | done | rfl) | rfl | (obtain ⟨hc', hf', hk', hz⟩ := ecell hS; go_simp; first | done | rfl)); simp only [Act.put, List.setIfInBounds_toArray, List.set_cons_zero, List.set_cons_succ])
  all_goals clear ho15
  all_goals refine c3_done (NoPanic.normal ?_)
  go_wp2
  go_ret
  exact ⟨by rw [hbt.out]; rfl, hx0.trans (by repeat (first | exact Ext.refl _ | assumption | refine Ext.drew ?_ | refine Ext.drewN ?_ _ | refine Ext.iter ?_ _ _ | refine Ext.alloc ?_ _ | refine Ext.setCell ?_ (by first | exact Nat.le_refl _ | (simp <;> omega)) _ | refine Ext.trans2 (by assumption) ?_))⟩
set_option maxHeartbeats 800000 in
set_option maxRecDepth 100000 in
theorem iBatchText_c (s : ByteArray) (f st c wd : Int) (w : World) (hs : s.size ≤ 1048576) (hT : Tab10 w) (hM : MaxC w) :
    Calls Tryd.prog 22 #[vBatch s f st c wd] w fun e w' => e = .returned (.string (btV s f st c wd)) ∧ Ext w w' := by
  have hib := Lib.hid (fun W (hT : Tab10 W) => iIsBatch_c s f st c wd W hs hT)
  have hbx := Blk.new w #[.string s, .int .i64 f, .int .i64 st, .int .i64 c, .int .i64 wd] 51
  have hx0 : Ext w (w.alloc (.cells #[.string s, .int .i64 f, .int .i64 st, .int .i64 c, .int .i64 wd] 51)) := (Ext.refl w).alloc _
  replace hT := hT.ext hx0; replace hM := hM.ext hx0
  by_cases hok : batOK s f st c wd
  · rw [show btV s f st c wd = batT s f st c wd from if_pos hok]
    have hbt := Lib.hid (fun W (hT : Tab10 W) (hM : MaxC W) => batchText_c s f st c wd W hok.2.1 hok.2.2 hT hM)
    replace hok := Lib.hid hok
    generalize batT s f st c wd = BT at *
    go_enter Tryd.func22, Tryd.ntmps22
    go_wp2_with (first
      | (go_at_call 65; (with_reducible refine (hib.out _ hT).mono ?_); rintro e w1 ⟨⟨hP, rfl⟩ | ⟨hP, rfl⟩, hx1⟩ <;> (first | exact absurd hok.out hP | skip); have hb1 := hbx.ext hx1; have a0 := hb1.cell (i := 0) (v := .string s) rfl; have a1 := hb1.cell (i := 1) (v := .int .i64 f) rfl; have a2 := hb1.cell (i := 2) (v := .int .i64 st) rfl; have a3 := hb1.cell (i := 3) (v := .int .i64 c) rfl; have a4 := hb1.cell (i := 4) (v := .int .i64 wd) rfl; have aL := hb1.lt)
      | (go_at_call 66; (with_reducible refine (hbt.out _ (hT.ext hx1) (hM.ext hx1)).mono ?_); rintro e w2 ⟨rfl, hx2⟩))
    go_ret
    exact ⟨rfl, (hx0.trans hx1).trans hx2⟩
  · rw [show btV s f st c wd = ByteArray.empty from if_neg hok]
    replace hok := Lib.hid hok
    go_enter Tryd.func22, Tryd.ntmps22
    go_wp2_with (go_at_call 65; (with_reducible refine (hib.out _ hT).mono ?_); rintro e w1 ⟨⟨hP, rfl⟩ | ⟨hP, rfl⟩, hx1⟩ <;> (first | exact absurd hP hok.out | skip))
    go_ret
    exact ⟨rfl, hx0.trans hx1⟩
end Go.Proofs.YthpnkcamjcohgaaDoor
