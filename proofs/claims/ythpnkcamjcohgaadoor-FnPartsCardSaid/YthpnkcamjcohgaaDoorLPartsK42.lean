/- SplitMessage, as the reference computes it. -/
import Derived.Test.YthpnkcamjcohgaaDoorLPartsK29
namespace Go.Proofs.YthpnkcamjcohgaaDoor
set_option linter.unusedVariables false
set_option linter.unusedSimpArgs false
open Go.RowKit

def stF (x : ByteArray) : List Value := [.string x]
theorem stF_len (x : ByteArray) : (stF x).length = 1 := rfl
theorem stF_one (x : ByteArray) : ∀ u ∈ stF x, u.oneCell' = true := by
  intro u hu
  simp only [stF, List.mem_singleton] at hu
  subst hu
  rfl
theorem SAt.one {α : Type} {f : α → List Value} {w : World} {p : Option Addr} {xs : List α} (h : SAt f 1 w p xs) {i : Nat} (hi : i < xs.length) {u0 : Value} (hf : f (xs[i]'hi) = [u0]) :
    ∃ b o, p = some ⟨b, o, none⟩ ∧ b < w.heap.size ∧ w.cell? ⟨b, o + i, none⟩ = some u0 := by
  obtain ⟨b, o, h1, h2, h3⟩ := h i hi
  rw [hf] at h3
  have := h3 0 u0 rfl
  rw [Nat.mul_one, Nat.add_zero] at this
  exact ⟨b, o, h1, h2, this⟩
/-- The rows of the loop: the texts that came. -/
def StI (B : Nat) (wr : World) (o : Value) (acc : List ByteArray) : Prop := ∃ p c, o = .slice p acc.length c ∧ RowS 9 stF 1 B wr o acc ∧ SAt stF 1 wr p acc
theorem StI.of {B : Nat} {w : World} {v : Value} {acc : List ByteArray} (h : RowS 9 stF 1 B w v acc) : StI B w v acc := by
  obtain ⟨p, c, e, ho⟩ := h.own stF_len
  exact ⟨p, c, e, h, ho.sat⟩
set_option maxHeartbeats 1600000 in
set_option maxRecDepth 100000 in
theorem sSplitMessage_c (p k q : Int) (t : ByteArray) (cap : Int) (w : World) (ht : t.size ≤ 1048576) :
    Calls Tryd.prog 15 #[vFld p k q, .string t, .int .i64 cap] w fun e w' => PLC w.heap.size (smV p k q t cap) e w' ∧ Ext w w' := by
  have hbox := Blk.new w #[.int .i64 p, .int .i64 k, .int .i64 q] 32
  have hx0 : Ext w (w.alloc (.cells #[.int .i64 p, .int .i64 k, .int .i64 q] 32)) := (Ext.refl w).alloc _
  by_cases h1 : fldOK p k q
  · obtain ⟨hs, hk⟩ := fldSize_bd h1
    have hbd := fW_bd hs
    have hwd := Lib.hid (fun W => l11Width_c p k q W h1)
    by_cases h2 : 1 ≤ cap ∧ cap ≤ 1500
    · obtain ⟨cp, rfl⟩ : ∃ cp : Nat, cap = cp := ⟨cap.toNat, by omega⟩
      have hW : 1 ≤ fW (fldSize p k) ∧ fW (fldSize p k) ≤ 9 := by omega
      obtain ⟨room, hR⟩ : ∃ room : Int, (cp : Int) * (fW (fldSize p k) : Int) = room + 17 := ⟨(cp : Int) * (fW (fldSize p k) : Int) - 17, by omega⟩
      have hRb : 1 ≤ room + 17 ∧ room + 17 ≤ 13500 := by
        have h3 : cp * fW (fldSize p k) ≤ 1500 * 9 := Nat.mul_le_mul (by omega) hW.2
        have h4 : 1 * 1 ≤ cp * fW (fldSize p k) := Nat.mul_le_mul (by omega) hW.1
        have e : ((cp * fW (fldSize p k) : Nat) : Int) = room + 17 := by rw [← hR]; simp
        omega
      have e1 := IntWalk.i64_in (room + 17) (by omega)
      have e3 : room + 17 - 17 = room := by omega
      by_cases h3 : 400 < t.size ∨ 8192 < (cp : Int) * fW (fldSize p k) ∨ (cp : Int) * fW (fldSize p k) < 17
      · have hv : smV p k q t cp = ([], 3) := by unfold smV; rw [if_neg (not_not_intro h1), if_neg (not_not_intro h2), if_pos h3]
        rw [hv]
        rw [hR] at h3
        clear hv hbd hs e3
        generalize fW (fldSize p k) = W at *
        have hm1 : (400 : Int) < t.size ∨ ¬ (400 : Int) < t.size := by omega
        have hm2 : 8192 < room + 17 ∨ ¬ 8192 < room + 17 := by omega
        rcases hm1 with hm1 | hm1
        · go_enter Tryd.func15, Tryd.ntmps15
          go_wp2_with (first
            | (go_at_call 56; (with_reducible refine (sIsField_c _ _ _ _).mono ?_); rintro e w1 ⟨⟨hP1, rfl⟩ | ⟨hP1, rfl⟩, hx1⟩ <;> (try contradiction); have hf1 := hbox.ext hx1; have q0 := hf1.cell (i := 0) (v := .int .i64 p) rfl; have q1 := hf1.cell (i := 1) (v := .int .i64 k) rfl; have q2 := hf1.cell (i := 2) (v := .int .i64 q) rfl; have ql := hf1.lt)
            | (go_at_call 57; (with_reducible refine (l11Capacity_c _ _).mono ?_); rintro e w2 ⟨⟨hP, rfl⟩ | ⟨hP, rfl⟩, rfl⟩ <;> first | (exfalso; omega) | skip)
            | (go_at_call 58; (with_reducible refine (hwd.out _).mono ?_); rintro e w4 ⟨rfl, hx4⟩))
          go_ret2
          exact ⟨PLC.nil, (by repeat (first | exact Ext.refl _ | assumption | refine Ext.drew ?_ | refine Ext.drewN ?_ _ | refine Ext.iter ?_ _ _ | refine Ext.alloc ?_ _ | refine Ext.setCell ?_ (by first | exact Nat.le_refl _ | (simp <;> omega)) _ | refine Ext.trans2 (by assumption) ?_))⟩
        · rcases hm2 with hm2 | hm2
          · go_enter Tryd.func15, Tryd.ntmps15
            go_wp2_with (first
              | (go_at_call 56; (with_reducible refine (sIsField_c _ _ _ _).mono ?_); rintro e w1 ⟨⟨hP1, rfl⟩ | ⟨hP1, rfl⟩, hx1⟩ <;> (try contradiction); have hf1 := hbox.ext hx1; have q0 := hf1.cell (i := 0) (v := .int .i64 p) rfl; have q1 := hf1.cell (i := 1) (v := .int .i64 k) rfl; have q2 := hf1.cell (i := 2) (v := .int .i64 q) rfl; have ql := hf1.lt)
              | (go_at_call 57; (with_reducible refine (l11Capacity_c _ _).mono ?_); rintro e w2 ⟨⟨hP, rfl⟩ | ⟨hP, rfl⟩, rfl⟩ <;> first | (exfalso; omega) | skip)
              | (go_at_call 58; (with_reducible refine (hwd.out _).mono ?_); rintro e w4 ⟨rfl, hx4⟩))
            go_ret2
            exact ⟨PLC.nil, (by repeat (first | exact Ext.refl _ | assumption | refine Ext.drew ?_ | refine Ext.drewN ?_ _ | refine Ext.iter ?_ _ _ | refine Ext.alloc ?_ _ | refine Ext.setCell ?_ (by first | exact Nat.le_refl _ | (simp <;> omega)) _ | refine Ext.trans2 (by assumption) ?_))⟩
          · have hm3 : room + 17 < 17 := by omega
            go_enter Tryd.func15, Tryd.ntmps15
            go_wp2_with (first
              | (go_at_call 56; (with_reducible refine (sIsField_c _ _ _ _).mono ?_); rintro e w1 ⟨⟨hP1, rfl⟩ | ⟨hP1, rfl⟩, hx1⟩ <;> (try contradiction); have hf1 := hbox.ext hx1; have q0 := hf1.cell (i := 0) (v := .int .i64 p) rfl; have q1 := hf1.cell (i := 1) (v := .int .i64 k) rfl; have q2 := hf1.cell (i := 2) (v := .int .i64 q) rfl; have ql := hf1.lt)
              | (go_at_call 57; (with_reducible refine (l11Capacity_c _ _).mono ?_); rintro e w2 ⟨⟨hP, rfl⟩ | ⟨hP, rfl⟩, rfl⟩ <;> first | (exfalso; omega) | skip)
              | (go_at_call 58; (with_reducible refine (hwd.out _).mono ?_); rintro e w4 ⟨rfl, hx4⟩))
            go_ret2
            exact ⟨PLC.nil, (by repeat (first | exact Ext.refl _ | assumption | refine Ext.drew ?_ | refine Ext.drewN ?_ _ | refine Ext.iter ?_ _ _ | refine Ext.alloc ?_ _ | refine Ext.setCell ?_ (by first | exact Nat.le_refl _ | (simp <;> omega)) _ | refine Ext.trans2 (by assumption) ?_))⟩
      · have hv : smV p k q t cp = smO (par t) (splitR room 9 t 0) := by
          unfold smV; rw [if_neg (not_not_intro h1), if_neg (not_not_intro h2), if_neg h3, hR, e3]
        rw [hR] at h3
        have hv := Lib.hid hv
        generalize smV p k q t cp = Y at *
        have hr0 : 0 ≤ room ∧ room + 17 ≤ 8192 := by omega
        have htz : t.size ≤ 400 := by omega
        have hpar := Lib.hid (fun W => sParity_c t W ht)
        generalize par t = y at *
        clear hbd hs h3 e3
        generalize fW (fldSize p k) = W at *
        have hm0 : ¬ (400 : Int) < t.size := by omega
        have hm1 : ¬ 8192 < room + 17 := by omega
        have hm2 : ¬ room + 17 < 17 := by omega
        have hI1 : Tryd.prog.underlying 35 = some (.slice 39) := by kernel_rfl
        have hI2 : (Tryd.prog.info? 39).map (fun i => (i.zero, i.size, i.bytes)) = some (some (.agg #[.int .i64 0, .int .i64 0, .int .i64 0, .string ByteArray.empty]), 4, 40) := by kernel_rfl
        have hJ1 : Tryd.prog.underlying 69 = some (.slice 9) := by kernel_rfl
        have hJ2 : (Tryd.prog.info? 9).map (fun i => (i.zero, i.size, i.bytes)) = some (some (.string ByteArray.empty), 1, 16) := by kernel_rfl
        go_enter Tryd.func15, Tryd.ntmps15
        go_wp2_with (first
          | (go_at_call 56; (with_reducible refine (sIsField_c _ _ _ _).mono ?_); rintro e w1 ⟨⟨hP1, rfl⟩ | ⟨hP1, rfl⟩, hx1⟩ <;> (try contradiction); have hf1 := hbox.ext hx1; have q0 := hf1.cell (i := 0) (v := .int .i64 p) rfl; have q1 := hf1.cell (i := 1) (v := .int .i64 k) rfl; have q2 := hf1.cell (i := 2) (v := .int .i64 q) rfl; have ql := hf1.lt)
          | (go_at_call 57; (with_reducible refine (l11Capacity_c _ _).mono ?_); rintro e w2 ⟨⟨hP, rfl⟩ | ⟨hP, rfl⟩, rfl⟩ <;> first | (exfalso; omega) | skip)
          | (go_at_call 58; (with_reducible refine (hwd.out _).mono ?_); rintro e w4 ⟨rfl, hx4⟩))
        have hx5 : Ext w w4 := (hx0.trans hx1).trans hx4
        have hrow := StI.of (acc := []) (RowS.made 9 (B := w.heap.size) (w := w4) hx5.below.size)
        have hx6 : Ext w (w4.alloc (.cells #[] 9)) := hx5.alloc _
        clear hx1 hx4 hwd e1 hx5 hbox hf1 q0 q1 q2 ql hx0
        generalize w4.alloc (.cells #[] 9) = w6 at *
        go_loopw [9, 10] (fun o r wr => ∃ (acc : List ByteArray) (R : ByteArray) (f : Nat), acc.length + f = 9 ∧ acc.length ≤ 8 ∧ r = .string R ∧ R.size ≤ 400 ∧ StI w.heap.size wr o acc ∧ Hid (Y = smO y ((splitR room f R acc.length).map (acc ++ ·))) ∧ Ext w wr) (fun o _ _ => match o with | .slice _ n _ => 9 - n | _ => 0)
        case atStart => exact ⟨[], t, 9, rfl, by simp, rfl, htz, hrow, Lib.hid (by rw [hv.out]; simp), hx6⟩
        case round =>
          clear hrow hx6 hv
          obtain ⟨acc, R, f, hf, h8, rfl, hRs, ⟨p1, c1, rfl, hown, hsat⟩, hA, hext⟩ := hrel
          obtain ⟨f, rfl⟩ : ∃ g, f = g + 1 := ⟨f - 1, by omega⟩
          by_cases hend : R.size = 0 ∧ acc.length ≠ 0
          · obtain ⟨hR0, hc⟩ := hend
            have hY := hA.out
            rw [split_done hR0 hc] at hY
            have hYv : Y = (mkP acc.length y 0 acc, 0) := hY
            subst hYv
            have hd1 : ¬ (0 : Int) < R.size := by omega
            have hcn : ((acc.length : Int) == 0) = false := by simpa using hc
            clear hA hY hown hJ1 hJ2
            obtain ⟨wo, hwo⟩ : ∃ wo : World, wo = wr := ⟨_, rfl⟩
            have hsato : SAt stF 1 wo p1 acc := by rw [hwo]; exact hsat
            have hexto : Ext w wo := by rw [hwo]; exact hext
            have hrow := RowS.made (f := ptF) (k := 4) 39 (B := wo.heap.size) (w := wr) (by rw [hwo]; exact Nat.le_refl _)
            have hx1 : Ext wo (wr.alloc (.cells #[] 39)) := by rw [hwo]; exact (Ext.refl wr).alloc _
            replace hwo := Lib.hid hwo
            clear hsat hext
            go_wp2_with fail
            generalize wr.alloc (.cells #[] 39) = w7 at *
            generalize wr.heap.size = g7 at *
            go_loopw [12, 13] (fun o i wr => ∃ j : Nat, j ≤ acc.length ∧ i = .int .i64 j ∧ RowS 39 ptF 4 wo.heap.size wr o (mkP acc.length y 0 (acc.take j)) ∧ Ext wo wr) (fun _ i _ => acc.length - (intOf i).toNat)
            case atStart => exact ⟨0, Nat.zero_le _, rfl, by simpa [mkP] using hrow, hx1⟩
            case round =>
              clear hrow hx1
              obtain ⟨j, hj, rfl, hrow, hext⟩ := hrel
              by_cases hlt : j < acc.length
              · obtain ⟨b, o, rfl, hbl, z1⟩ := hsato.one hlt rfl
                have hml : (mkP acc.length y 0 (acc.take j)).length = j := by rw [mkP_len, List.length_take, Nat.min_eq_left hj]
                have hml := Lib.hid hml
                have hsn : mkP acc.length y 0 (acc.take (j + 1)) = mkP acc.length y 0 (acc.take j) ++ [((j : Int), (acc.length : Int), y, acc[j]'hlt)] := by
                  rw [List.take_succ_eq_append_getElem hlt, mkP_snoc, List.length_take, Nat.min_eq_left hj]
                have hsn := Lib.hid hsn
                generalize acc[j] = x at *
                go_wp2
                refine wp_region_canon (fun w' => Ext wo w') [(0, true), (1, true), (2, true), (3, true), (4, true), (6, true), (7, true), (8, true), (9, true), (5, false), (10, true), (11, false), (12, false), (13, true)] (by kernel_rfl) (by kernel_rfl) (by decide) (by kernel_rfl) ?_ ?_
                · exact (by repeat (first | exact Ext.refl _ | assumption | refine Ext.drew ?_ | refine Ext.drewN ?_ _ | refine Ext.iter ?_ _ _ | refine Ext.alloc ?_ _ | refine Ext.setCell ?_ (by first | exact Nat.le_refl _ | (simp <;> omega)) _ | refine Ext.trans2 (by assumption) ?_))
                refine canon_intro fun ops eo => ?_
                have ho0 := canon_at eo 0 rfl
                have ho1 := canon_at eo 1 rfl
                have ho2 := canon_at eo 2 rfl
                have ho3 := canon_at eo 3 rfl
                have ho4 := canon_at eo 4 rfl
                have ho5 := canon_at eo 5 rfl
                have ho6 := canon_at eo 6 rfl
                have ho7 := canon_at eo 7 rfl
                have ho8 := canon_at eo 8 rfl
                have ho9 := canon_at eo 9 rfl
                have ho10 := canon_at eo 10 rfl
                have ho11 := canon_at eo 11 rfl
                have ho12 := canon_at eo 12 rfl
                have ho13 := canon_at eo 13 rfl
                clear eo
                all_goals (apply canon_st ho0 rfl; (intro w2 hS; first | (go_simp; first | done | rfl) | rfl | (obtain ⟨hc, hf, hk, hz⟩ := ecell hS; go_simp; first | done | rfl)); simp only [Act.put, List.setIfInBounds_toArray, List.set_cons_zero, List.set_cons_succ])
                all_goals clear ho0
                all_goals (apply canon_st ho1 rfl; (intro w2 hS; first | (go_simp; first | done | rfl) | rfl | (obtain ⟨hc, hf, hk, hz⟩ := ecell hS; go_simp; first | done | rfl)); simp only [Act.put, List.setIfInBounds_toArray, List.set_cons_zero, List.set_cons_succ])
                all_goals clear ho1
                all_goals (apply canon_st ho2 rfl; (intro w2 hS; first | (go_simp; first | done | rfl) | rfl | (obtain ⟨hc, hf, hk, hz⟩ := ecell hS; go_simp; first | done | rfl)); simp only [Act.put, List.setIfInBounds_toArray, List.set_cons_zero, List.set_cons_succ])
                all_goals clear ho2
                all_goals (apply canon_st ho3 rfl; (intro w2 hS; first | (go_simp; first | done | rfl) | rfl | (obtain ⟨hc, hf, hk, hz⟩ := ecell hS; go_simp; first | done | rfl)); simp only [Act.put, List.setIfInBounds_toArray, List.set_cons_zero, List.set_cons_succ])
                all_goals clear ho3
                all_goals (apply canon_st ho4 rfl; (intro w2 hS; first | (go_simp; first | done | rfl) | rfl | (obtain ⟨hc, hf, hk, hz⟩ := ecell hS; go_simp; first | done | rfl)); simp only [Act.put, List.setIfInBounds_toArray, List.set_cons_zero, List.set_cons_succ])
                all_goals clear ho4
                all_goals (apply canon_st ho6 rfl; (intro w2 hS; first | (go_simp; first | done | rfl) | rfl | (obtain ⟨hc, hf, hk, hz⟩ := ecell hS; go_simp; first | done | rfl)); simp only [Act.put, List.setIfInBounds_toArray, List.set_cons_zero, List.set_cons_succ])
                all_goals clear ho6
                all_goals (apply canon_st ho7 rfl; (intro w2 hS; first | (go_simp; first | done | rfl) | rfl | (obtain ⟨hc, hf, hk, hz⟩ := ecell hS; go_simp; first | done | rfl)); simp only [Act.put, List.setIfInBounds_toArray, List.set_cons_zero, List.set_cons_succ])
                all_goals clear ho7
                all_goals (apply canon_st ho8 rfl; (intro w2 hS; first | (go_simp; first | done | rfl) | rfl | (obtain ⟨hc, hf, hk, hz⟩ := ecell hS; go_simp; first | done | rfl)); simp only [Act.put, List.setIfInBounds_toArray, List.set_cons_zero, List.set_cons_succ])
                all_goals clear ho8
                all_goals (apply canon_st ho9 rfl; (intro w2 hS; first | (go_simp; first | done | rfl) | rfl | (obtain ⟨hc, hf, hk, hz⟩ := ecell hS; go_simp; first | done | rfl)); simp only [Act.put, List.setIfInBounds_toArray, List.set_cons_zero, List.set_cons_succ])
                all_goals clear ho9
                all_goals first | (refine canon_ef ho5 rfl (fun K hK => ?_); go_simp; ((go_at_call 60; (with_reducible refine (hpar.out _).mono ?_); rintro e w8 ⟨rfl, hx8⟩; have hE8 : Ext wo w8 := hext.drew.trans hx8; have hrow8 := hrow.ext ((Ext.refl _).drew.trans hx8))); all_goals (refine hK _ _ ⟨(by repeat (first | exact Ext.refl _ | assumption | refine Ext.drew ?_ | refine Ext.drewN ?_ _ | refine Ext.iter ?_ _ _ | refine Ext.alloc ?_ _ | refine Ext.setCell ?_ (by first | exact Nat.le_refl _ | (simp <;> omega)) _ | refine Ext.trans2 (by assumption) ?_)), ?_⟩; clear hK K; go_simp)) | (refine canon_ef ho5 rfl (fun K hK => ?_); ((refine append1S_op (w0 := w8) hI1 hI2 rfl (by omega) (by omega) ptF_len ptF_one (n := ((j : Int), (acc.length : Int), y, x)) hrow8 (by rw [hml.out]; omega) hE8.below.size rfl ?_ rfl rfl); intro v1 w9 hown9 hlow9 hoth; have hE9 : Ext wo w9 := hE8.low hlow9 (Nat.le_refl _)); all_goals (refine hK _ _ ⟨(by repeat (first | exact Ext.refl _ | assumption | refine Ext.drew ?_ | refine Ext.drewN ?_ _ | refine Ext.iter ?_ _ _ | refine Ext.alloc ?_ _ | refine Ext.setCell ?_ (by first | exact Nat.le_refl _ | (simp <;> omega)) _ | refine Ext.trans2 (by assumption) ?_)), ?_⟩; clear hK K; go_simp)) | (refine canon_ef ho5 rfl (fun K hK => ?_); go_simp; (skip); all_goals (refine hK _ _ ⟨(by repeat (first | exact Ext.refl _ | assumption | refine Ext.drew ?_ | refine Ext.drewN ?_ _ | refine Ext.iter ?_ _ _ | refine Ext.alloc ?_ _ | refine Ext.setCell ?_ (by first | exact Nat.le_refl _ | (simp <;> omega)) _ | refine Ext.trans2 (by assumption) ?_)), ?_⟩; clear hK K; go_simp))
                all_goals clear ho5
                all_goals (apply canon_st ho10 rfl; (intro w2 hS; first | (go_simp; first | done | rfl) | rfl | (obtain ⟨hc, hf, hk, hz⟩ := ecell hS; go_simp; first | done | rfl)); simp only [Act.put, List.setIfInBounds_toArray, List.set_cons_zero, List.set_cons_succ])
                all_goals clear ho10
                all_goals first | (refine canon_ef ho11 rfl (fun K hK => ?_); go_simp; ((go_at_call 60; (with_reducible refine (hpar.out _).mono ?_); rintro e w8 ⟨rfl, hx8⟩; have hE8 : Ext wo w8 := hext.drew.trans hx8; have hrow8 := hrow.ext ((Ext.refl _).drew.trans hx8))); all_goals (refine hK _ _ ⟨(by repeat (first | exact Ext.refl _ | assumption | refine Ext.drew ?_ | refine Ext.drewN ?_ _ | refine Ext.iter ?_ _ _ | refine Ext.alloc ?_ _ | refine Ext.setCell ?_ (by first | exact Nat.le_refl _ | (simp <;> omega)) _ | refine Ext.trans2 (by assumption) ?_)), ?_⟩; clear hK K; go_simp)) | (refine canon_ef ho11 rfl (fun K hK => ?_); ((refine append1S_op (w0 := w8) hI1 hI2 rfl (by omega) (by omega) ptF_len ptF_one (n := ((j : Int), (acc.length : Int), y, x)) hrow8 (by rw [hml.out]; omega) hE8.below.size rfl ?_ rfl rfl); intro v1 w9 hown9 hlow9 hoth; have hE9 : Ext wo w9 := hE8.low hlow9 (Nat.le_refl _)); all_goals (refine hK _ _ ⟨(by repeat (first | exact Ext.refl _ | assumption | refine Ext.drew ?_ | refine Ext.drewN ?_ _ | refine Ext.iter ?_ _ _ | refine Ext.alloc ?_ _ | refine Ext.setCell ?_ (by first | exact Nat.le_refl _ | (simp <;> omega)) _ | refine Ext.trans2 (by assumption) ?_)), ?_⟩; clear hK K; go_simp)) | (refine canon_ef ho11 rfl (fun K hK => ?_); go_simp; (skip); all_goals (refine hK _ _ ⟨(by repeat (first | exact Ext.refl _ | assumption | refine Ext.drew ?_ | refine Ext.drewN ?_ _ | refine Ext.iter ?_ _ _ | refine Ext.alloc ?_ _ | refine Ext.setCell ?_ (by first | exact Nat.le_refl _ | (simp <;> omega)) _ | refine Ext.trans2 (by assumption) ?_)), ?_⟩; clear hK K; go_simp))
                all_goals clear ho11
                all_goals first | (refine canon_ef ho12 rfl (fun K hK => ?_); go_simp; ((go_at_call 60; (with_reducible refine (hpar.out _).mono ?_); rintro e w8 ⟨rfl, hx8⟩; have hE8 : Ext wo w8 := hext.drew.trans hx8; have hrow8 := hrow.ext ((Ext.refl _).drew.trans hx8))); all_goals (refine hK _ _ ⟨(by repeat (first | exact Ext.refl _ | assumption | refine Ext.drew ?_ | refine Ext.drewN ?_ _ | refine Ext.iter ?_ _ _ | refine Ext.alloc ?_ _ | refine Ext.setCell ?_ (by first | exact Nat.le_refl _ | (simp <;> omega)) _ | refine Ext.trans2 (by assumption) ?_)), ?_⟩; clear hK K; go_simp)) | (refine canon_ef ho12 rfl (fun K hK => ?_); ((refine append1S_op (w0 := w8) hI1 hI2 rfl (by omega) (by omega) ptF_len ptF_one (n := ((j : Int), (acc.length : Int), y, x)) hrow8 (by rw [hml.out]; omega) hE8.below.size rfl ?_ rfl rfl); intro v1 w9 hown9 hlow9 hoth; have hE9 : Ext wo w9 := hE8.low hlow9 (Nat.le_refl _)); all_goals (refine hK _ _ ⟨(by repeat (first | exact Ext.refl _ | assumption | refine Ext.drew ?_ | refine Ext.drewN ?_ _ | refine Ext.iter ?_ _ _ | refine Ext.alloc ?_ _ | refine Ext.setCell ?_ (by first | exact Nat.le_refl _ | (simp <;> omega)) _ | refine Ext.trans2 (by assumption) ?_)), ?_⟩; clear hK K; go_simp)) | (refine canon_ef ho12 rfl (fun K hK => ?_); go_simp; (skip); all_goals (refine hK _ _ ⟨(by repeat (first | exact Ext.refl _ | assumption | refine Ext.drew ?_ | refine Ext.drewN ?_ _ | refine Ext.iter ?_ _ _ | refine Ext.alloc ?_ _ | refine Ext.setCell ?_ (by first | exact Nat.le_refl _ | (simp <;> omega)) _ | refine Ext.trans2 (by assumption) ?_)), ?_⟩; clear hK K; go_simp))
                all_goals clear ho12
                all_goals (apply canon_st ho13 rfl; (intro w2 hS; first | (go_simp; first | done | rfl) | rfl | (obtain ⟨hc, hf, hk, hz⟩ := ecell hS; go_simp; first | done | rfl)); simp only [Act.put, List.setIfInBounds_toArray, List.set_cons_zero, List.set_cons_succ])
                all_goals clear ho13
                all_goals refine canon_done (NoPanic.normal ?_)
                go_wp2
                go_roundw
                case rel => exact ⟨j + 1, hlt, by go_num, by rw [hsn.out]; exact hown9, hE9⟩
                case measure => simp [intOf]; omega
              · obtain rfl : j = acc.length := by omega
                rw [List.take_length] at hrow
                obtain ⟨p9, c9, rfl, ho9, hc9⟩ := hrow.ownC ptF_len
                have hfin := Lib.hid (show OwnCells w.heap.size wr p9 ((mkP acc.length y 0 acc).flatMap ptF) from (ho9.cells ptF_len).mono hexto.below.size)
                have hc9 := Lib.hid hc9
                clear hrow ho9
                go_wp2
                go_ret2
                exact ⟨⟨p9, c9, rfl, hfin.out, hc9.out⟩, hexto.trans hext⟩
          · have hnL := longT_le R room R.size
            have hst := Lib.hid (fun acc2 => @split_step room f acc acc2 R hend)
            have hsp := Lib.hid (@split_stop room f acc R hend)
            have hlg := Lib.hid (fun W => l12Longest_c R room W hRs (by omega))
            have hlf : longF R room = longT R room R.size := rfl
            rw [← hlf] at hnL
            clear hlf
            generalize longF R room = nL at *
            by_cases hno : (nL = 0 ∧ R.size ≠ 0) ∨ acc.length = 8
            · have hY := hA.out
              rw [hsp.out hno] at hY
              have hY' : Y = ([], 3) := hY
              subst hY'
              clear hA hst hsp hown hI1 hI2 hpar hJ1 hJ2 hsat
              have hR : ¬ R.size = 0 := fun h => by
                rcases hno with h2 | h2
                · exact h2.2 h
                · exact hend ⟨h, by omega⟩
              have hd1 : (0 : Int) < R.size := by omega
              by_cases hn0 : nL = 0
              · subst hn0
                clear hno hend
                go_wp2_with (go_at_call 59; (with_reducible refine (hlg.out _).mono ?_); rintro e w7 ⟨rfl, hx7⟩)
                go_ret2
                exact ⟨PLC.nil, hext.trans hx7⟩
              · have h88 : acc.length = 8 := by rcases hno with h | h; exact absurd h.1 hn0; exact h
                have hnn : ((nL : Int) == 0) = false := by simp; omega
                have h8b : ((acc.length : Int) == 8) = true := by simp [h88]
                clear hno hend h88 hf
                go_wp2_with (go_at_call 59; (with_reducible refine (hlg.out _).mono ?_); rintro e w7 ⟨rfl, hx7⟩)
                go_ret2
                exact ⟨PLC.nil, hext.trans hx7⟩
            · have hn8 : ¬ acc.length = 8 := fun h => hno (.inr h)
              have hnz : ¬ (nL = 0 ∧ R.size ≠ 0) := fun h => hno (.inl h)
              have h8b : ((acc.length : Int) == 8) = false := by simp; omega
              obtain ⟨acc2, hacc2⟩ : ∃ acc2 : List ByteArray, acc2 = acc ++ [R.extract 0 nL] := ⟨_, rfl⟩
              have hal := Lib.hid (show acc2.length = acc.length + 1 by rw [hacc2]; simp)
              have hA2 := Lib.hid (show Y = smO y ((splitR room f (R.extract nL R.size) acc2.length).map (acc2 ++ ·)) by rw [hA.out, hst.out acc2 hno hacc2])
              have hRs2 : (R.extract nL R.size).size ≤ 400 := by rw [ByteArray.size_extract]; omega
              have hRs2 := Lib.hid hRs2
              replace hacc2 := Lib.hid hacc2
              clear hA hst hsp hno hsat hI1 hI2
              by_cases hR0 : R.size = 0
              · have hd1 : ¬ (0 : Int) < R.size := by omega
                have hc0 : ((acc.length : Int) == 0) = true := by
                  have h0 : acc.length = 0 := Classical.not_not.1 fun h => hend ⟨hR0, h⟩
                  rw [h0]
                  rfl
                obtain rfl : nL = 0 := by omega
                obtain rfl := bytes_nil hR0
                clear hend hnz hnL hd1
                go_wp2_with (first
                  | (go_at_call 59; (with_reducible refine (hlg.out _).mono ?_); rintro e w7 ⟨rfl, hx7⟩; have hown7 := hown.ext hx7; have hz7 := (hext.trans hx7).below.size)
                  | (at_builtin; go_loud (refine append1S hJ1 hJ2 rfl (by omega) (by omega) stF_len stF_one (n := ByteArray.empty.extract 0 0) hown7 (by omega) hz7 rfl ?_ rfl (by simp [Act.eval])); intro v1 w9 hown9 hlow9; obtain ⟨p9, c9, rfl, hown10, hsat10⟩ := StI.of (acc := acc2) (by rw [hacc2.out]; exact hown9)))
                go_roundw
                case rel => exact ⟨acc2, _, f, by have := hal.out; omega, by have := hal.out; omega, rfl, hRs2.out, ⟨p9, c9, rfl, hown10, hsat10⟩, hA2, (hext.trans hx7).low hlow9 (Nat.le_refl _)⟩
                case measure => have := hal.out; simp; omega
              · have hd1 : (0 : Int) < R.size := by omega
                have hnn : ((nL : Int) == 0) = false := by simp; omega
                clear hend hnz
                go_wp2_with (first
                  | (go_at_call 59; (with_reducible refine (hlg.out _).mono ?_); rintro e w7 ⟨rfl, hx7⟩; have hown7 := hown.ext hx7; have hz7 := (hext.trans hx7).below.size)
                  | (at_builtin; go_loud (refine append1S hJ1 hJ2 rfl (by omega) (by omega) stF_len stF_one (n := R.extract 0 nL) hown7 (by omega) hz7 rfl ?_ rfl (by simp [Act.eval])); intro v1 w9 hown9 hlow9; obtain ⟨p9, c9, rfl, hown10, hsat10⟩ := StI.of (acc := acc2) (by rw [hacc2.out]; exact hown9)))
                go_roundw
                case rel => exact ⟨acc2, _, f, by have := hal.out; omega, by have := hal.out; omega, rfl, hRs2.out, ⟨p9, c9, rfl, hown10, hsat10⟩, hA2, (hext.trans hx7).low hlow9 (Nat.le_refl _)⟩
                case measure => have := hal.out; simp; omega
    · have hv : smV p k q t cap = ([], 2) := by unfold smV; rw [if_neg (not_not_intro h1), if_pos h2]
      rw [hv]
      clear hv hbd hs
      go_enter Tryd.func15, Tryd.ntmps15
      go_wp2_with (first
        | (go_at_call 56; (with_reducible refine (sIsField_c _ _ _ _).mono ?_); rintro e w1 ⟨⟨hP1, rfl⟩ | ⟨hP1, rfl⟩, hx1⟩ <;> (try contradiction); have hf1 := hbox.ext hx1; have q0 := hf1.cell (i := 0) (v := .int .i64 p) rfl; have q1 := hf1.cell (i := 1) (v := .int .i64 k) rfl; have q2 := hf1.cell (i := 2) (v := .int .i64 q) rfl; have ql := hf1.lt)
        | (go_at_call 57; (with_reducible refine (l11Capacity_c _ _).mono ?_); rintro e w2 ⟨⟨hP, rfl⟩ | ⟨hP, rfl⟩, rfl⟩ <;> first | (exfalso; omega) | skip)
        | (go_at_call 58; (with_reducible refine (hwd.out _).mono ?_); rintro e w4 ⟨rfl, hx4⟩))
      go_ret2
      exact ⟨PLC.nil, (by repeat (first | exact Ext.refl _ | assumption | refine Ext.drew ?_ | refine Ext.drewN ?_ _ | refine Ext.iter ?_ _ _ | refine Ext.alloc ?_ _ | refine Ext.setCell ?_ (by first | exact Nat.le_refl _ | (simp <;> omega)) _ | refine Ext.trans2 (by assumption) ?_))⟩
  · have hv : smV p k q t cap = ([], 1) := by unfold smV; rw [if_pos h1]
    rw [hv]
    clear hv
    go_enter Tryd.func15, Tryd.ntmps15
    go_wp2_with (go_at_call 56; (with_reducible refine (sIsField_c _ _ _ _).mono ?_); rintro e w1 ⟨⟨hP1, rfl⟩ | ⟨hP1, rfl⟩, hx1⟩ <;> (try contradiction))
    go_ret2
    exact ⟨PLC.nil, (by repeat (first | exact Ext.refl _ | assumption | refine Ext.drew ?_ | refine Ext.drewN ?_ _ | refine Ext.iter ?_ _ _ | refine Ext.alloc ?_ _ | refine Ext.setCell ?_ (by first | exact Nat.le_refl _ | (simp <;> omega)) _ | refine Ext.trans2 (by assumption) ?_))⟩
end Go.Proofs.YthpnkcamjcohgaaDoor
