/- ReadBatch, on both sides. -/
import Derived.Test.YthpnkcamjcohgaaDoorLBatchTextLK40
namespace Go.Proofs.YthpnkcamjcohgaaDoor
set_option linter.unusedVariables false
set_option linter.unusedSimpArgs false
open Go.RowKit

abbrev bat5 (a : ByteArray) (f st c wd : Int) : Array Value := #[.string a, .int .i64 f, .int .i64 st, .int .i64 c, .int .i64 wd]
/-- A batch stored into its block. -/
def setBat (w : World) (g : Nat) (a : ByteArray) (f st c wd : Int) : World :=
  ((((w.setCell ⟨g, 0, none⟩ (.string a)).setCell ⟨g, 1, none⟩ (.int .i64 f)).setCell ⟨g, 2, none⟩ (.int .i64 st)).setCell ⟨g, 3, none⟩ (.int .i64 c)).setCell ⟨g, 4, none⟩ (.int .i64 wd)
theorem Blk.bat {w : World} {g : Nat} {a0 : ByteArray} {f0 s0 c0 w0 : Int} {t : TypeId} (h : Blk w g (bat5 a0 f0 s0 c0 w0) t) (a : ByteArray) (f st c wd : Int) : Blk (setBat w g a f st c wd) g (bat5 a f st c wd) t := by
  have h0 : Blk (w.setCell ⟨g, 0, none⟩ (.string a)) g (bat5 a f0 s0 c0 w0) t := h.set 0 (.string a)
  have h1 : Blk ((w.setCell ⟨g, 0, none⟩ (.string a)).setCell ⟨g, 1, none⟩ (.int .i64 f)) g (bat5 a f s0 c0 w0) t := h0.set 1 (.int .i64 f)
  have h2 : Blk (((w.setCell ⟨g, 0, none⟩ (.string a)).setCell ⟨g, 1, none⟩ (.int .i64 f)).setCell ⟨g, 2, none⟩ (.int .i64 st)) g (bat5 a f st c0 w0) t := h1.set 2 (.int .i64 st)
  have h3 : Blk ((((w.setCell ⟨g, 0, none⟩ (.string a)).setCell ⟨g, 1, none⟩ (.int .i64 f)).setCell ⟨g, 2, none⟩ (.int .i64 st)).setCell ⟨g, 3, none⟩ (.int .i64 c)) g (bat5 a f st c w0) t := h2.set 3 (.int .i64 c)
  exact h3.set 4 (.int .i64 wd)
theorem Ext.bat {b w : World} (h : Ext b w) {g : Nat} (hg : b.heap.size ≤ g) (a : ByteArray) (f st c wd : Int) : Ext b (setBat w g a f st c wd) :=
  ((((h.setCell (p := ⟨g, 0, none⟩) hg _).setCell (p := ⟨g, 1, none⟩) hg _).setCell (p := ⟨g, 2, none⟩) hg _).setCell (p := ⟨g, 3, none⟩) hg _).setCell (p := ⟨g, 4, none⟩) hg _
theorem IntsAt.here {w : World} {b o : Nat} {xs : List Int} (h : IntsAt w (some ⟨b, o, none⟩) xs) {i : Nat} (hi : i < xs.length) : w.cell? ⟨b, o + i, none⟩ = some (.int .i64 (xs.getD i 0)) := by
  obtain ⟨b', o', e, -, h2⟩ := h i hi
  simp only [Option.some.injEq, Addr.mk.injEq, and_true] at e
  obtain ⟨rfl, rfl⟩ := e
  exact h2
theorem four_of {α : Type} {l : List α} (h : l.length = 4) : ∃ a b c d, l = [a, b, c, d] := by
  match l, h with
  | [a, b, c, d], _ => exact ⟨a, b, c, d, rfl⟩
theorem nDigits_le : ∀ (k m : Nat), m < 10 ^ (k + 1) → Lib.nDigits m ≤ k + 1
  | 0, m, h => by
    rw [Lib.nDigits_small (by simpa using h)]
    exact Nat.le_refl _
  | k + 1, m, h => by
    by_cases h1 : m < 10
    · rw [Lib.nDigits_small h1]; omega
    · rw [Lib.nDigits_big h1]
      rw [Nat.pow_succ] at h
      have := nDigits_le k (m / 10) (by omega)
      omega
theorem dec_small12 {m : Nat} (h : m ≤ 999999999) : (dec (m : Int)).size ≤ 12 := by
  rw [dec_size, Lib.itoa_nonneg, Lib.decDigits_length]
  exact nDigits_le 11 m (Nat.lt_of_le_of_lt h (by decide))
set_option maxHeartbeats 1600000 in
set_option maxRecDepth 100000 in
theorem sReadBatch_c (s : ByteArray) (w : World) (hs : s.size ≤ 1048576) :
    Calls Tryd.prog 25 #[.string s] w fun e w' => RbE s e ∧ Ext w w' := by
  have hsp : ∀ W, Calls Tryd.prog 70 #[.string s, .int .u8 47] W fun e w' => WdE 47 s e w' ∧ Ext W w' := fun W => sSplit_c s 47 W hs
  replace hsp := Lib.hid hsp
  have hb0 := Blk.new w (bat5 ByteArray.empty 0 0 0 0) 51
  have hx0 : Ext w (w.alloc (.cells (bat5 ByteArray.empty 0 0 0 0) 51)) := (Ext.refl w).alloc _
  go_enter Tryd.func25, Tryd.ntmps25
  go_upto_region 2 with (go_at_call 70; (with_reducible refine (hsp.out _).mono ?_); rintro e w1 ⟨⟨p, c, ps, rfl, hc, hmap, hsat⟩, hx1⟩)
  have hb1 := hb0.ext hx1
  have hxw := hx0.trans hx1
  obtain ⟨hpz, hpl, hpn⟩ := pieces_le hmap
  obtain ⟨x0, ws, rfl⟩ : ∃ x0 ws, ps = x0 :: ws := by
    cases ps with
    | nil => exact absurd rfl hpn
    | cons a b => exact ⟨a, b, rfl⟩
  have y0 := (hsat.wd (show 0 < (x0 :: ws).length by simp))
  obtain ⟨b, o, rfl, hbl, y0⟩ := y0
  rw [Nat.add_zero] at y0
  have y0 : w1.cell? ⟨b, o, none⟩ = some (.string x0) := y0
  have hst : SAt wdF 1 w1 (some ⟨b, o + 1, none⟩) ws := hsat.tail
  have hz1 : ∀ x ∈ ws, x.size ≤ 1048576 := fun x hx => Nat.le_trans (hpz x (by simp [hx])) hs
  have hx0s : x0.size ≤ 1048576 := Nat.le_trans (hpz x0 (by simp)) hs
  have hwl : ws.length ≤ 1048577 := by simp at hpl; omega
  have hno5 : ws.length ≠ 4 → ∀ (a : ByteArray) (f st c wd : Int), batOK a f st c wd → s ≠ batT a f st c wd := fun h a f st c wd hok e => by
    have := congrArg List.length (rb_pieces hmap hok e)
    simp at this
    omega
  have hnob : (∃ (j : Nat) (h : j < ws.length), ∀ m : Nat, ws[j]'h = dec m → 12 < (ws[j]'h).size) → ∀ (a : ByteArray) (f st c wd : Int), batOK a f st c wd → s ≠ batT a f st c wd := fun ⟨j, hj, h⟩ a f st c wd hok e => by
    have hp := rb_pieces hmap hok e
    simp only [List.cons.injEq] at hp
    obtain ⟨na, nb, nd, ne, rfl, rfl, rfl, rfl, ba, bb, bd, be⟩ := bat_nat hok.2.2
    obtain ⟨-, rfl⟩ := hp
    have hsz : ∀ m : Nat, m ≤ 999999999 → (dec (m : Int)).size ≤ 12 := fun m hm => dec_small12 hm
    match j, hj with
    | 0, _ => have := h na rfl; have h2 := hsz na ba; have h3 : 12 < (dec (na : Int)).size := this; omega
    | 1, _ => have := h nb rfl; have h2 := hsz nb (by omega); have h3 : 12 < (dec (nb : Int)).size := this; omega
    | 2, _ => have := h nd rfl; have h2 := hsz nd (by omega); have h3 : 12 < (dec (nd : Int)).size := this; omega
    | 3, _ => have := h ne rfl; have h2 := hsz ne (by omega); have h3 : 12 < (dec (ne : Int)).size := this; omega
  replace hmap := Lib.hid hmap; replace hno5 := Lib.hid hno5; replace hnob := Lib.hid hnob; replace hst := Lib.hid hst
  clear hpz hpn hb0 hx1 hx0 hsat hpl
  simp only [List.length_cons] at hc
  have g1 : (1 : Int) ≤ (ws.length : Int) + 1 := by omega
  by_cases hc1 : c = 1
  · subst hc1
    obtain rfl : ws = [] := List.length_eq_zero_iff.1 (by omega)
    have hnz : ∀ W, Calls Tryd.prog 71 #[.slice (some ⟨b, o, none⟩) 0 0] W fun e w' => NuE [] e w' ∧ Ext W w' := fun W => sNumbers_c (some ⟨b, o, none⟩) 0 [] W (fun i hi => absurd hi (Nat.not_lt_zero i)) (by simp) (by simp)
    replace hnz := Lib.hid hnz
    have hno := Lib.hid (hno5.out (by simp))
    simp only [List.length_nil] at g1
    go_wp2_with (go_at_call 71; (with_reducible refine (hnz.out _).mono ?_); rintro e w2 ⟨hN, hx2⟩; rcases hN with ⟨q, d, ns, rfl, hnl, -, -, -⟩ | ⟨rfl, j, hj, -⟩ <;> first | exact absurd hj (Nat.not_lt_zero j) | (obtain rfl : ns = [] := List.length_eq_zero_iff.1 hnl; have hb2 := hb1.ext hx2; have z0 := hb2.cell (i := 0) (v := .string ⟨#[]⟩) rfl; have z1 := hb2.cell (i := 1) (v := .int .i64 0) rfl; have z2 := hb2.cell (i := 2) (v := .int .i64 0) rfl; have z3 := hb2.cell (i := 3) (v := .int .i64 0) rfl; have z4 := hb2.cell (i := 4) (v := .int .i64 0) rfl; have zl := hb2.lt; have zf := hb2.free))
    have hF := hb2.bat ⟨#[]⟩ 0 0 0 0
    have c0 := hF.cell (i := 0) (v := .string ⟨#[]⟩) rfl; have c1 := hF.cell (i := 1) (v := .int .i64 0) rfl; have c2 := hF.cell (i := 2) (v := .int .i64 0) rfl; have c3 := hF.cell (i := 3) (v := .int .i64 0) rfl; have c4 := hF.cell (i := 4) (v := .int .i64 0) rfl
    have hx9 := (hxw.trans hx2).bat (g := w.heap.size) (Nat.le_refl _) ⟨#[]⟩ 0 0 0 0
    unfold setBat at c0 c1 c2 c3 c4 hx9
    clear z0 z1 z2 z3 z4 zl zf
    exact bodyPost_ret (v := .tuple #[vBatch ⟨#[]⟩ 0 0 0 0, .bool false]) (by simp [results, Tryd.results25, go_sem, c0, c1, c2, c3, c4]) rfl ⟨RbE.no hno.out, hx9⟩
  · have hnu : ∀ k W, SAt wdF 1 W (some ⟨b, o + 1, none⟩) ws → Calls Tryd.prog 71 #[.slice (some ⟨b, o + 1, none⟩) ws.length k] W fun e w' => NuE ws e w' ∧ Ext W w' := fun k W h => sNumbers_c (some ⟨b, o + 1, none⟩) k ws W h hwl hz1
    clear hz1
    by_cases h4 : ws.length = 4
    · obtain ⟨a1, a2, a3, a4, rfl⟩ : ∃ a1 a2 a3 a4, ws = [a1, a2, a3, a4] := four_of h4
      have hnu : ∀ k W, SAt wdF 1 W (some ⟨b, o + 1, none⟩) [a1, a2, a3, a4] → Calls Tryd.prog 71 #[.slice (some ⟨b, o + 1, none⟩) 4 k] W fun e w' => NuE [a1, a2, a3, a4] e w' ∧ Ext W w' := hnu
      replace hnu := Lib.hid hnu
      have g1 : (1 : Int) ≤ ((4 : Nat) : Int) + 1 := by omega
      clear h4
      go_upto_region 3 with (go_at_call 71; (with_reducible refine (hnu.out _ _ hst.out).mono ?_); rintro e w2 ⟨hN, hx2⟩; rcases hN with ⟨q, d, ns, rfl, hnl, hqd, hnv, hin⟩ | ⟨rfl, hbad⟩)
      · have hb2 := hb1.ext hx2
        have hxw2 := hxw.trans hx2
        have y2 : w2.cell? ⟨b, o, none⟩ = some (.string x0) := by rw [(ecell hx2).1 _ _ hbl]; exact y0
        have hbl2 : b < w2.heap.size := Nat.lt_of_lt_of_le hbl hx2.below.size
        obtain ⟨n1, n2, n3, n4, rfl⟩ : ∃ n1 n2 n3 n4, ns = [n1, n2, n3, n4] := four_of (by rw [hnl]; rfl)
        obtain ⟨m1, rfl, rfl, q1⟩ := hnv 0 (by simp) (by simp)
        obtain ⟨m2, rfl, rfl, q2⟩ := hnv 1 (by simp) (by simp)
        obtain ⟨m3, rfl, rfl, q3⟩ := hnv 2 (by simp) (by simp)
        obtain ⟨m4, rfl, rfl, q4⟩ := hnv 3 (by simp) (by simp)
        have i0 := hin 0 (by simp)
        obtain ⟨qb, qo, rfl, hql, -⟩ := i0
        have i0 : w2.cell? ⟨qb, qo, none⟩ = some (.int .i64 m1) := hin.here (i := 0) (by simp)
        have i1 : w2.cell? ⟨qb, qo + 1, none⟩ = some (.int .i64 m2) := hin.here (i := 1) (by simp)
        have i2 : w2.cell? ⟨qb, qo + 2, none⟩ = some (.int .i64 m3) := hin.here (i := 2) (by simp)
        have i3 : w2.cell? ⟨qb, qo + 3, none⟩ = some (.int .i64 m4) := hin.here (i := 3) (by simp)
        have hib := Lib.hid (fun W => sIsBatch_c x0 m1 m2 m3 m4 W hx0s)
        have hyes := Lib.hid (fun (_ : True) => rb_yes (s := s) (p0 := x0) (n1 := m1) (n2 := m2) (n3 := m3) (n4 := m4) hmap.out)
        have hnot := Lib.hid (fun h => rb_not (s := s) (p0 := x0) (m1 := m1) (m2 := m2) (m3 := m3) (m4 := m4) hmap.out h)
        clear hnl hqd hnv hin hnu y0 hno5 hnob hst hmap
        go_upto_region 5 with (fail)
        refine wp_region_c3 (fun w' => Ext w2 w') (.st 0 (.st 1 (.st 2 (.st 3 (.st 4 (.st 5 (.st 6 (.st 7 (.st 8 (.st 9 (.st 10 (.st 11 (.st 12 (.st 13 (.st 14 (.st 15 (.one 16 (.one 17 .done)))))))))))))))))) (by kernel_rfl) (by kernel_rfl) (by decide) (by kernel_rfl) ?_ ?_
        · exact (by repeat (first | exact Ext.refl _ | assumption | refine Ext.drew ?_ | refine Ext.drewN ?_ _ | refine Ext.iter ?_ _ _ | refine Ext.alloc ?_ _ | refine Ext.setCell ?_ (by first | exact Nat.le_refl _ | (simp <;> omega)) _ | refine Ext.trans2 (by assumption) ?_))
        refine c3_intro fun ops eo => ?_
        have ho0 := canon_at eo 0 rfl
        have ho1 := canon_at eo 1 rfl
        have ho2 := canon_at eo 2 rfl
        have ho3 := canon_at eo 3 rfl
        have ho4 := canon_at eo 4 rfl
        have ho5 := canon_at eo 5 rfl
        have ho6 := canon_at eo 6 rfl
        have ho7 := canon_at eo 7 rfl
        have ho8 := canon_at eo 8 rfl
        have ho9 := canon_at eo 9 rfl
        have ho10 := canon_at eo 10 rfl
        have ho11 := canon_at eo 11 rfl
        have ho12 := canon_at eo 12 rfl
        have ho13 := canon_at eo 13 rfl
        have ho14 := canon_at eo 14 rfl
        have ho15 := canon_at eo 15 rfl
        have ho16 := canon_at eo 16 rfl
        have ho17 := canon_at eo 17 rfl
        clear eo
        all_goals (apply c3_st ho0 rfl; (intro w2 hS; first | (go_simp; first | done | rfl) | rfl | (obtain ⟨hc', hf', hk', hz⟩ := ecell hS; go_simp; first | done | rfl)); simp only [Act.put, List.setIfInBounds_toArray, List.set_cons_zero, List.set_cons_succ])
        all_goals clear ho0
        all_goals (apply c3_st ho1 rfl; (intro w2 hS; first | (go_simp; first | done | rfl) | rfl | (obtain ⟨hc', hf', hk', hz⟩ := ecell hS; go_simp; first | done | rfl)); simp only [Act.put, List.setIfInBounds_toArray, List.set_cons_zero, List.set_cons_succ])
        all_goals clear ho1
        all_goals (apply c3_st ho2 rfl; (intro w2 hS; first | (go_simp; first | done | rfl) | rfl | (obtain ⟨hc', hf', hk', hz⟩ := ecell hS; go_simp; first | done | rfl)); simp only [Act.put, List.setIfInBounds_toArray, List.set_cons_zero, List.set_cons_succ])
        all_goals clear ho2
        all_goals (apply c3_st ho3 rfl; (intro w2 hS; first | (go_simp; first | done | rfl) | rfl | (obtain ⟨hc', hf', hk', hz⟩ := ecell hS; go_simp; first | done | rfl)); simp only [Act.put, List.setIfInBounds_toArray, List.set_cons_zero, List.set_cons_succ])
        all_goals clear ho3
        all_goals (apply c3_st ho4 rfl; (intro w2 hS; first | (go_simp; first | done | rfl) | rfl | (obtain ⟨hc', hf', hk', hz⟩ := ecell hS; go_simp; first | done | rfl)); simp only [Act.put, List.setIfInBounds_toArray, List.set_cons_zero, List.set_cons_succ])
        all_goals clear ho4
        all_goals (apply c3_st ho5 rfl; (intro w2 hS; first | (go_simp; first | done | rfl) | rfl | (obtain ⟨hc', hf', hk', hz⟩ := ecell hS; go_simp; first | done | rfl)); simp only [Act.put, List.setIfInBounds_toArray, List.set_cons_zero, List.set_cons_succ])
        all_goals clear ho5
        all_goals (apply c3_st ho6 rfl; (intro w2 hS; first | (go_simp; first | done | rfl) | rfl | (obtain ⟨hc', hf', hk', hz⟩ := ecell hS; go_simp; first | done | rfl)); simp only [Act.put, List.setIfInBounds_toArray, List.set_cons_zero, List.set_cons_succ])
        all_goals clear ho6
        all_goals (apply c3_st ho7 rfl; (intro w2 hS; first | (go_simp; first | done | rfl) | rfl | (obtain ⟨hc', hf', hk', hz⟩ := ecell hS; go_simp; first | done | rfl)); simp only [Act.put, List.setIfInBounds_toArray, List.set_cons_zero, List.set_cons_succ])
        all_goals clear ho7
        all_goals (apply c3_st ho8 rfl; (intro w2 hS; first | (go_simp; first | done | rfl) | rfl | (obtain ⟨hc', hf', hk', hz⟩ := ecell hS; go_simp; first | done | rfl)); simp only [Act.put, List.setIfInBounds_toArray, List.set_cons_zero, List.set_cons_succ])
        all_goals clear ho8
        all_goals (apply c3_st ho9 rfl; (intro w2 hS; first | (go_simp; first | done | rfl) | rfl | (obtain ⟨hc', hf', hk', hz⟩ := ecell hS; go_simp; first | done | rfl)); simp only [Act.put, List.setIfInBounds_toArray, List.set_cons_zero, List.set_cons_succ])
        all_goals clear ho9
        all_goals (apply c3_st ho10 rfl; (intro w2 hS; first | (go_simp; first | done | rfl) | rfl | (obtain ⟨hc', hf', hk', hz⟩ := ecell hS; go_simp; first | done | rfl)); simp only [Act.put, List.setIfInBounds_toArray, List.set_cons_zero, List.set_cons_succ])
        all_goals clear ho10
        all_goals (apply c3_st ho11 rfl; (intro w2 hS; first | (go_simp; first | done | rfl) | rfl | (obtain ⟨hc', hf', hk', hz⟩ := ecell hS; go_simp; first | done | rfl)); simp only [Act.put, List.setIfInBounds_toArray, List.set_cons_zero, List.set_cons_succ])
        all_goals clear ho11
        all_goals (apply c3_st ho12 rfl; (intro w2 hS; first | (go_simp; first | done | rfl) | rfl | (obtain ⟨hc', hf', hk', hz⟩ := ecell hS; go_simp; first | done | rfl)); simp only [Act.put, List.setIfInBounds_toArray, List.set_cons_zero, List.set_cons_succ])
        all_goals clear ho12
        all_goals (apply c3_st ho13 rfl; (intro w2 hS; first | (go_simp; first | done | rfl) | rfl | (obtain ⟨hc', hf', hk', hz⟩ := ecell hS; go_simp; first | done | rfl)); simp only [Act.put, List.setIfInBounds_toArray, List.set_cons_zero, List.set_cons_succ])
        all_goals clear ho13
        all_goals (apply c3_st ho14 rfl; (intro w2 hS; first | (go_simp; first | done | rfl) | rfl | (obtain ⟨hc', hf', hk', hz⟩ := ecell hS; go_simp; first | done | rfl)); simp only [Act.put, List.setIfInBounds_toArray, List.set_cons_zero, List.set_cons_succ])
        all_goals clear ho14
        all_goals (apply c3_st ho15 rfl; (intro w2 hS; first | (go_simp; first | done | rfl) | rfl | (obtain ⟨hc', hf', hk', hz⟩ := ecell hS; go_simp; first | done | rfl)); simp only [Act.put, List.setIfInBounds_toArray, List.set_cons_zero, List.set_cons_succ])
        all_goals clear ho15
        all_goals refine c3_one ?_
        all_goals first | (refine c3_op ho16 rfl (fun K hK => ?_); go_simp; (skip); all_goals ((with_reducible refine hK _ _ ?_); refine ⟨(by repeat (first | exact Ext.refl _ | assumption | refine Ext.drew ?_ | refine Ext.drewN ?_ _ | refine Ext.iter ?_ _ _ | refine Ext.alloc ?_ _ | refine Ext.setCell ?_ (by first | exact Nat.le_refl _ | (simp <;> omega)) _ | refine Ext.trans2 (by assumption) ?_)), ?_⟩; clear hK K; go_simp))
        all_goals clear ho16
        all_goals refine c3_one ?_
        all_goals first | (refine c3_op ho17 rfl (fun K hK => ?_); go_simp; (skip); all_goals ((with_reducible refine hK _ _ ?_); refine ⟨(by repeat (first | exact Ext.refl _ | assumption | refine Ext.drew ?_ | refine Ext.drewN ?_ _ | refine Ext.iter ?_ _ _ | refine Ext.alloc ?_ _ | refine Ext.setCell ?_ (by first | exact Nat.le_refl _ | (simp <;> omega)) _ | refine Ext.trans2 (by assumption) ?_)), ?_⟩; clear hK K; go_simp))
        all_goals clear ho17
        all_goals refine c3_done (NoPanic.normal ?_)
        have hg := (Blk.new w2 (bat5 x0 m1 m2 m3 m4) 51).ext ((Ext.refl _).drew)
        have hx3 : Ext w2 ((w2.alloc (.cells (bat5 x0 m1 m2 m3 m4) 51)).drew) := ((Ext.refl w2).alloc _).drew
        have hb3 := hb2.ext hx3
        have hxw3 := hxw2.trans hx3
        generalize (w2.alloc (.cells #[.string x0, .int .i64 m1, .int .i64 m2, .int .i64 m3, .int .i64 m4] 51)).drew = w3 at *
        generalize w2.heap.size = g9 at *
        clear hx2 hx3 hb1 hb2 y2 hbl2 hql i0 i1 i2 i3
        have d0 := hg.cell (i := 0) (v := .string x0) rfl; have d1 := hg.cell (i := 1) (v := .int .i64 m1) rfl; have d2 := hg.cell (i := 2) (v := .int .i64 m2) rfl; have d3 := hg.cell (i := 3) (v := .int .i64 m3) rfl; have d4 := hg.cell (i := 4) (v := .int .i64 m4) rfl; have dL := hg.lt
        go_wp2_with (go_at_call 72; (with_reducible refine (hib.out _).mono ?_); rintro e w4 ⟨⟨hP, rfl⟩ | ⟨hP, rfl⟩, hx4⟩ <;> (have hb4 := hb3.ext hx4; have g4 := hg.ext hx4; have f0 := g4.cell (i := 0) (v := .string x0) rfl; have f1 := g4.cell (i := 1) (v := .int .i64 m1) rfl; have f2 := g4.cell (i := 2) (v := .int .i64 m2) rfl; have f3 := g4.cell (i := 3) (v := .int .i64 m3) rfl; have f4 := g4.cell (i := 4) (v := .int .i64 m4) rfl; have fL := g4.lt; have z0 := hb4.cell (i := 0) (v := .string ⟨#[]⟩) rfl; have z1 := hb4.cell (i := 1) (v := .int .i64 0) rfl; have z2 := hb4.cell (i := 2) (v := .int .i64 0) rfl; have z3 := hb4.cell (i := 3) (v := .int .i64 0) rfl; have z4 := hb4.cell (i := 4) (v := .int .i64 0) rfl; have zl := hb4.lt; have zf := hb4.free))
        · have hF := hb4.bat x0 m1 m2 m3 m4
          have c0 := hF.cell (i := 0) (v := .string x0) rfl; have c1 := hF.cell (i := 1) (v := .int .i64 m1) rfl; have c2 := hF.cell (i := 2) (v := .int .i64 m2) rfl; have c3 := hF.cell (i := 3) (v := .int .i64 m3) rfl; have c4 := hF.cell (i := 4) (v := .int .i64 m4) rfl
          have hx9 := (hxw3.trans hx4).bat (g := w.heap.size) (Nat.le_refl _) x0 m1 m2 m3 m4
          unfold setBat at c0 c1 c2 c3 c4 hx9
          clear z0 z1 z2 z3 z4 zl zf f0 f1 f2 f3 f4 fL d0 d1 d2 d3 d4 dL
          exact bodyPost_ret (v := .tuple #[vBatch x0 m1 m2 m3 m4, .bool true]) (by simp [results, Tryd.results25, go_sem, c0, c1, c2, c3, c4]) rfl ⟨.inl ⟨x0, m1, m2, m3, m4, rfl, hP, hyes.out trivial⟩, hx9⟩
        · have hF := hb4.bat ⟨#[]⟩ 0 0 0 0
          have c0 := hF.cell (i := 0) (v := .string ⟨#[]⟩) rfl; have c1 := hF.cell (i := 1) (v := .int .i64 0) rfl; have c2 := hF.cell (i := 2) (v := .int .i64 0) rfl; have c3 := hF.cell (i := 3) (v := .int .i64 0) rfl; have c4 := hF.cell (i := 4) (v := .int .i64 0) rfl
          have hx9 := (hxw3.trans hx4).bat (g := w.heap.size) (Nat.le_refl _) ⟨#[]⟩ 0 0 0 0
          unfold setBat at c0 c1 c2 c3 c4 hx9
          clear z0 z1 z2 z3 z4 zl zf f0 f1 f2 f3 f4 fL d0 d1 d2 d3 d4 dL
          exact bodyPost_ret (v := .tuple #[vBatch ⟨#[]⟩ 0 0 0 0, .bool false]) (by simp [results, Tryd.results25, go_sem, c0, c1, c2, c3, c4]) rfl ⟨RbE.no (hnot.out hP), hx9⟩
      · have hno := Lib.hid (hnob.out hbad)
        have hb2 := hb1.ext hx2
        have z0 := hb2.cell (i := 0) (v := .string ⟨#[]⟩) rfl; have z1 := hb2.cell (i := 1) (v := .int .i64 0) rfl; have z2 := hb2.cell (i := 2) (v := .int .i64 0) rfl; have z3 := hb2.cell (i := 3) (v := .int .i64 0) rfl; have z4 := hb2.cell (i := 4) (v := .int .i64 0) rfl; have zl := hb2.lt; have zf := hb2.free
        go_wp2_with fail
        have hF := hb2.bat ⟨#[]⟩ 0 0 0 0
        have c0 := hF.cell (i := 0) (v := .string ⟨#[]⟩) rfl; have c1 := hF.cell (i := 1) (v := .int .i64 0) rfl; have c2 := hF.cell (i := 2) (v := .int .i64 0) rfl; have c3 := hF.cell (i := 3) (v := .int .i64 0) rfl; have c4 := hF.cell (i := 4) (v := .int .i64 0) rfl
        have hx9 := (hxw.trans hx2).bat (g := w.heap.size) (Nat.le_refl _) ⟨#[]⟩ 0 0 0 0
        unfold setBat at c0 c1 c2 c3 c4 hx9
        clear z0 z1 z2 z3 z4 zl zf
        exact bodyPost_ret (v := .tuple #[vBatch ⟨#[]⟩ 0 0 0 0, .bool false]) (by simp [results, Tryd.results25, go_sem, c0, c1, c2, c3, c4]) rfl ⟨RbE.no hno.out, hx9⟩
    · replace hnu := Lib.hid hnu
      have hno := Lib.hid (hno5.out h4)
      have h4b : ((ws.length : Int) != 4) = true := by simp; omega
      go_upto_region 3 with (go_at_call 71; (with_reducible refine (hnu.out _ _ hst.out).mono ?_); rintro e w2 ⟨hN, hx2⟩; rcases hN with ⟨q, d, ns, rfl, hnl, hqd, hnv, hin⟩ | ⟨rfl, hbad⟩ <;> (have hb2 := hb1.ext hx2; have z0 := hb2.cell (i := 0) (v := .string ⟨#[]⟩) rfl; have z1 := hb2.cell (i := 1) (v := .int .i64 0) rfl; have z2 := hb2.cell (i := 2) (v := .int .i64 0) rfl; have z3 := hb2.cell (i := 3) (v := .int .i64 0) rfl; have z4 := hb2.cell (i := 4) (v := .int .i64 0) rfl; have zl := hb2.lt; have zf := hb2.free))
      · clear hnv hin hqd
        replace hnl := Lib.hid hnl
        go_wp2_with fail
        have hF := hb2.bat ⟨#[]⟩ 0 0 0 0
        have c0 := hF.cell (i := 0) (v := .string ⟨#[]⟩) rfl; have c1 := hF.cell (i := 1) (v := .int .i64 0) rfl; have c2 := hF.cell (i := 2) (v := .int .i64 0) rfl; have c3 := hF.cell (i := 3) (v := .int .i64 0) rfl; have c4 := hF.cell (i := 4) (v := .int .i64 0) rfl
        have hx9 := (hxw.trans hx2).bat (g := w.heap.size) (Nat.le_refl _) ⟨#[]⟩ 0 0 0 0
        unfold setBat at c0 c1 c2 c3 c4 hx9
        clear z0 z1 z2 z3 z4 zl zf
        exact bodyPost_ret (v := .tuple #[vBatch ⟨#[]⟩ 0 0 0 0, .bool false]) (by simp [results, Tryd.results25, go_sem, c0, c1, c2, c3, c4]) rfl ⟨RbE.no hno.out, hx9⟩
      · go_wp2_with fail
        have hF := hb2.bat ⟨#[]⟩ 0 0 0 0
        have c0 := hF.cell (i := 0) (v := .string ⟨#[]⟩) rfl; have c1 := hF.cell (i := 1) (v := .int .i64 0) rfl; have c2 := hF.cell (i := 2) (v := .int .i64 0) rfl; have c3 := hF.cell (i := 3) (v := .int .i64 0) rfl; have c4 := hF.cell (i := 4) (v := .int .i64 0) rfl
        have hx9 := (hxw.trans hx2).bat (g := w.heap.size) (Nat.le_refl _) ⟨#[]⟩ 0 0 0 0
        unfold setBat at c0 c1 c2 c3 c4 hx9
        clear z0 z1 z2 z3 z4 zl zf
        exact bodyPost_ret (v := .tuple #[vBatch ⟨#[]⟩ 0 0 0 0, .bool false]) (by simp [results, Tryd.results25, go_sem, c0, c1, c2, c3, c4]) rfl ⟨RbE.no hno.out, hx9⟩
end Go.Proofs.YthpnkcamjcohgaaDoor
