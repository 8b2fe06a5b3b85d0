/- SplitMessage, as the program computes it. -/
import Derived.Test.YthpnkcamjcohgaaDoorLPartsK28
namespace Go.Proofs.YthpnkcamjcohgaaDoor
set_option linter.unusedVariables false
set_option linter.unusedSimpArgs false
open Go.RowKit

theorem bytes_nil {r : ByteArray} (h : r.size = 0) : r = ByteArray.empty := by
  apply ByteArray.ext
  apply Array.eq_empty_of_size_eq_zero
  exact h
/-- The rows of the loop: the parts that came, with no count yet. -/
def SpI (B : Nat) (y : Int) (wr : World) (o : Value) (acc : List ByteArray) : Prop := ∃ p c, o = .slice p acc.length c ∧ RowS 39 ptF 4 B wr o (mkP 0 y 0 acc) ∧ OwnCells B wr p ((mkP 0 y 0 acc).flatMap ptF) ∧ acc.length ≤ c
theorem SpI.of {B : Nat} {y : Int} {w : World} {v : Value} {acc : List ByteArray} (h : RowS 39 ptF 4 B w v (mkP 0 y 0 acc)) : SpI B y w v acc := by
  obtain ⟨p, c, e, ho, hc⟩ := h.ownC ptF_len
  rw [mkP_len] at e hc
  exact ⟨p, c, e, h, ho.cells ptF_len, hc⟩
theorem mkP_snoc (n y : Int) (acc : List ByteArray) (x : ByteArray) : mkP n y 0 (acc ++ [x]) = mkP n y 0 acc ++ [((acc.length : Int), n, y, x)] := by
  rw [mkP_app, Nat.zero_add]
  rfl
set_option maxHeartbeats 1600000 in
set_option maxRecDepth 100000 in
theorem iSplitMessage_c (p k q : Int) (t : ByteArray) (cap : Int) (w : World) (ht : t.size ≤ 1048576) :
    Calls Tryd.prog 14 #[vFld p k q, .string t, .int .i64 cap] w fun e w' => PLC w.heap.size (smV p k q t cap) e w' ∧ Ext w w' := by
  by_cases h1 : fldOK p k q
  · obtain ⟨hs, hk⟩ := fldSize_bd h1
    have hbd := fW_bd hs
    have hcalc := Lib.hid (fun W => calcOK_c p k q _ h1 rfl W)
    have hwd := Lib.hid (fun g W hq => width_c g (fldSize p k) W hq hs)
    by_cases h2 : 1 ≤ cap ∧ cap ≤ 1500
    · obtain ⟨cp, rfl⟩ : ∃ cp : Nat, cap = cp := ⟨cap.toNat, by omega⟩
      have hW : 1 ≤ fW (fldSize p k) ∧ fW (fldSize p k) ≤ 9 := by omega
      obtain ⟨room, hR⟩ : ∃ room : Int, (cp : Int) * (fW (fldSize p k) : Int) = room + 17 := ⟨(cp : Int) * (fW (fldSize p k) : Int) - 17, by omega⟩
      have hRb : 1 ≤ room + 17 ∧ room + 17 ≤ 13500 := by
        have h3 : cp * fW (fldSize p k) ≤ 1500 * 9 := Nat.mul_le_mul (by omega) hW.2
        have h4 : 1 * 1 ≤ cp * fW (fldSize p k) := Nat.mul_le_mul (by omega) hW.1
        have e : ((cp * fW (fldSize p k) : Nat) : Int) = room + 17 := by rw [← hR]; simp
        omega
      have e1 := IntWalk.i64_in (room + 17) (by omega)
      have e2 := IntWalk.i64_in room (by omega)
      have e3 : room + 17 - 17 = room := by omega
      by_cases h3 : 400 < t.size ∨ 8192 < (cp : Int) * fW (fldSize p k) ∨ (cp : Int) * fW (fldSize p k) < 17
      · have hv : smV p k q t cp = ([], 3) := by unfold smV; rw [if_neg (not_not_intro h1), if_neg (not_not_intro h2), if_pos h3]
        rw [hv]
        rw [hR] at h3
        clear hv hbd hs
        generalize fldSize p k = size at *
        generalize fW size = W at *
        have hm1 : 400 < t.size ∨ ¬ 400 < t.size := by omega
        have hm2 : 8192 < room + 17 ∨ ¬ 8192 < room + 17 := by omega
        rcases hm1 with hm1 | hm1
        · go_enter Tryd.func14, Tryd.ntmps14
          go_wp2_with (first
            | (go_at_call 50; (with_reducible refine (hcalc.out _).mono ?_); rintro e w1 ⟨⟨g, b, rfl, hcb⟩, hx1⟩; have qz := hcb.sizeCell)
            | (go_at_call 51; (with_reducible refine (inRange_c _ _ _ _).mono ?_); rintro e w2 ⟨⟨hP, rfl⟩ | ⟨hP, rfl⟩, rfl⟩ <;> first | (exfalso; omega) | skip)
            | (go_at_call 52; (with_reducible refine (hwd.out _ _ qz).mono ?_); rintro e w4 ⟨rfl, hx4⟩)
            | (go_at_call 53; (with_reducible refine (isMessage_c _ _ ht).mono ?_); rintro e w5 ⟨⟨hP, rfl⟩ | ⟨hP, rfl⟩, rfl⟩ <;> first | (exfalso; omega) | skip))
          go_ret2
          exact ⟨PLC.nil, (by repeat (first | exact Ext.refl _ | assumption | refine Ext.drew ?_ | refine Ext.drewN ?_ _ | refine Ext.iter ?_ _ _ | refine Ext.alloc ?_ _ | refine Ext.setCell ?_ (by first | exact Nat.le_refl _ | (simp <;> omega)) _ | refine Ext.trans2 (by assumption) ?_))⟩
        · rcases hm2 with hm2 | hm2
          · go_enter Tryd.func14, Tryd.ntmps14
            go_wp2_with (first
              | (go_at_call 50; (with_reducible refine (hcalc.out _).mono ?_); rintro e w1 ⟨⟨g, b, rfl, hcb⟩, hx1⟩; have qz := hcb.sizeCell)
              | (go_at_call 51; (with_reducible refine (inRange_c _ _ _ _).mono ?_); rintro e w2 ⟨⟨hP, rfl⟩ | ⟨hP, rfl⟩, rfl⟩ <;> first | (exfalso; omega) | skip)
              | (go_at_call 52; (with_reducible refine (hwd.out _ _ qz).mono ?_); rintro e w4 ⟨rfl, hx4⟩)
              | (go_at_call 53; (with_reducible refine (isMessage_c _ _ ht).mono ?_); rintro e w5 ⟨⟨hP, rfl⟩ | ⟨hP, rfl⟩, rfl⟩ <;> first | (exfalso; omega) | skip))
            go_ret2
            exact ⟨PLC.nil, (by repeat (first | exact Ext.refl _ | assumption | refine Ext.drew ?_ | refine Ext.drewN ?_ _ | refine Ext.iter ?_ _ _ | refine Ext.alloc ?_ _ | refine Ext.setCell ?_ (by first | exact Nat.le_refl _ | (simp <;> omega)) _ | refine Ext.trans2 (by assumption) ?_))⟩
          · have hm3 : room < 0 := by omega
            go_enter Tryd.func14, Tryd.ntmps14
            go_wp2_with (first
              | (go_at_call 50; (with_reducible refine (hcalc.out _).mono ?_); rintro e w1 ⟨⟨g, b, rfl, hcb⟩, hx1⟩; have qz := hcb.sizeCell)
              | (go_at_call 51; (with_reducible refine (inRange_c _ _ _ _).mono ?_); rintro e w2 ⟨⟨hP, rfl⟩ | ⟨hP, rfl⟩, rfl⟩ <;> first | (exfalso; omega) | skip)
              | (go_at_call 52; (with_reducible refine (hwd.out _ _ qz).mono ?_); rintro e w4 ⟨rfl, hx4⟩)
              | (go_at_call 53; (with_reducible refine (isMessage_c _ _ ht).mono ?_); rintro e w5 ⟨⟨hP, rfl⟩ | ⟨hP, rfl⟩, rfl⟩ <;> first | (exfalso; omega) | skip))
            go_ret2
            exact ⟨PLC.nil, (by repeat (first | exact Ext.refl _ | assumption | refine Ext.drew ?_ | refine Ext.drewN ?_ _ | refine Ext.iter ?_ _ _ | refine Ext.alloc ?_ _ | refine Ext.setCell ?_ (by first | exact Nat.le_refl _ | (simp <;> omega)) _ | refine Ext.trans2 (by assumption) ?_))⟩
      · have hv : smV p k q t cp = smO (par t) (splitR room 9 t 0) := by
          unfold smV; rw [if_neg (not_not_intro h1), if_neg (not_not_intro h2), if_neg h3, hR, e3]
        rw [hR] at h3
        have hv := Lib.hid hv
        generalize smV p k q t cp = Y at *
        have hr0 : 0 ≤ room ∧ room + 17 ≤ 8192 := by omega
        have htz : t.size ≤ 400 := by omega
        have hpar := Lib.hid (fun W => iParity_c t W ht)
        generalize par t = y at *
        clear hbd hs h3
        generalize fldSize p k = size at *
        generalize fW size = W at *
        have hm1 : ¬ 8192 < room + 17 := by omega
        have hm2 : ¬ room < 0 := by omega
        have hI1 : Tryd.prog.underlying 35 = some (.slice 39) := by kernel_rfl
        have hI2 : (Tryd.prog.info? 39).map (fun i => (i.zero, i.size, i.bytes)) = some (some (.agg #[.int .i64 0, .int .i64 0, .int .i64 0, .string ByteArray.empty]), 4, 40) := by kernel_rfl
        go_enter Tryd.func14, Tryd.ntmps14
        go_wp2_with (first
          | (go_at_call 50; (with_reducible refine (hcalc.out _).mono ?_); rintro e w1 ⟨⟨g, b, rfl, hcb⟩, hx1⟩; have qz := hcb.sizeCell)
          | (go_at_call 51; (with_reducible refine (inRange_c _ _ _ _).mono ?_); rintro e w2 ⟨⟨hP, rfl⟩ | ⟨hP, rfl⟩, rfl⟩ <;> first | (exfalso; omega) | skip)
          | (go_at_call 52; (with_reducible refine (hwd.out _ _ qz).mono ?_); rintro e w4 ⟨rfl, hx4⟩)
          | (go_at_call 53; (with_reducible refine (isMessage_c _ _ ht).mono ?_); rintro e w5 ⟨⟨hP, rfl⟩ | ⟨hP, rfl⟩, rfl⟩ <;> first | (exfalso; omega) | skip))
        have hx5 : Ext w w4 := (by repeat (first | exact Ext.refl _ | assumption | refine Ext.drew ?_ | refine Ext.drewN ?_ _ | refine Ext.iter ?_ _ _ | refine Ext.alloc ?_ _ | refine Ext.setCell ?_ (by first | exact Nat.le_refl _ | (simp <;> omega)) _ | refine Ext.trans2 (by assumption) ?_))
        have hrow := SpI.of (y := y) (acc := []) (RowS.made 39 (B := w.heap.size) (w := w4) hx5.below.size)
        have hx6 : Ext w (w4.alloc (.cells #[] 39)) := hx5.alloc _
        clear hcb qz hx1 hx4 hcalc hwd e1 hx5
        generalize w4.alloc (.cells #[] 39) = w6 at *
        go_loopw [11, 12] (fun o r wr => ∃ (acc : List ByteArray) (R : ByteArray) (f : Nat), acc.length + f = 9 ∧ acc.length ≤ 8 ∧ r = .string R ∧ R.size ≤ 400 ∧ SpI w.heap.size y wr o acc ∧ Hid (Y = smO y ((splitR room f R acc.length).map (acc ++ ·))) ∧ Ext w wr) (fun o _ _ => match o with | .slice _ n _ => 9 - n | _ => 0)
        case atStart => exact ⟨[], t, 9, rfl, by simp, rfl, htz, hrow, Lib.hid (by rw [hv.out]; simp), hx6⟩
        case round =>
          clear hrow hx6 hv
          obtain ⟨acc, R, f, hf, h8, rfl, hRs, ⟨p1, c1, rfl, hown, hcl, hc1⟩, hA, hext⟩ := hrel
          obtain ⟨f, rfl⟩ : ∃ g, f = g + 1 := ⟨f - 1, by omega⟩
          by_cases hend : R.size = 0 ∧ acc.length ≠ 0
          · obtain ⟨hR0, hc⟩ := hend
            have hY := hA.out
            rw [split_done hR0 hc] at hY
            have hY := Lib.hid hY
            obtain rfl := bytes_nil hR0
            have hcn : ((acc.length : Int) == 0) = false := by simpa using hc
            clear hA hown hI1 hI2 hpar
            have hne : acc.length ≤ 8 := h8
            obtain ⟨wo, rfl⟩ : ∃ wo : World, wo = wr := ⟨_, rfl⟩
            go_wp2_with fail
            go_loopw [81] (fun i wr => ∃ j : Nat, j ≤ acc.length ∧ i = .int .i64 j ∧ OwnCells w.heap.size wr p1 ((mkP acc.length y 0 (acc.take j)).flatMap ptF ++ (mkP 0 y j (acc.drop j)).flatMap ptF) ∧ Ext w wr) (fun i _ => acc.length - (intOf i).toNat)
            case atStart => exact ⟨0, Nat.zero_le _, rfl, by simpa [mkP] using hcl, hext⟩
            case round =>
              clear hcl hext
              obtain ⟨j, hj, rfl, hcl, hext⟩ := hrel
              by_cases hlt : j < acc.length
              · have hP : ((mkP acc.length y 0 (acc.take j)).flatMap ptF).length = j * 4 := by rw [flat_len ptF_len, mkP_len, List.length_take, Nat.min_eq_left hj]
                rw [List.drop_eq_getElem_cons hlt, mkP, List.flatMap_cons] at hcl
                obtain ⟨b, o, rfl, hbB, hbl, z0, z1⟩ := hcl.at (j := 1) (n := j * 4 + 1) (by omega) (by simp [ptF])
                have hs1 := hcl.setAt (j := 1) (n := j * 4 + 1) rfl (by omega) (by simp [ptF]) (.int .i64 acc.length)
                rw [← Nat.add_assoc] at z0 z1 hs1
                have hs1 := Lib.hid hs1
                have hP := Lib.hid hP
                clear hcl
                go_wp2
                go_roundw
                case rel =>
                  refine ⟨j + 1, hlt, by go_num, ?_, hext.setCell (p := ⟨b, o + j * 4 + 1, none⟩) hbB _⟩
                  rw [List.take_succ_eq_append_getElem hlt, mkP_app, List.flatMap_append, List.append_assoc, Nat.zero_add, List.length_take, Nat.min_eq_left hj]
                  exact hs1.out
                case measure => simp [intOf]; omega
              · obtain rfl : j = acc.length := by omega
                rw [List.take_length, List.drop_length] at hcl
                have hYv : Y = (mkP acc.length y 0 acc, 0) := hY.out
                subst hYv
                clear hY
                have hcl2 := Lib.hid (show OwnCells w.heap.size wr p1 ((mkP acc.length y 0 acc).flatMap ptF) by simpa [mkP] using hcl)
                clear hcl
                go_wp2
                go_ret2
                exact ⟨⟨p1, c1, by simp [mkP_len], hcl2.out, by rw [mkP_len]; exact hc1⟩, hext⟩
          · have hnL := longT_le R room R.size
            have hst := Lib.hid (fun acc2 => @split_step room f acc acc2 R hend)
            have hsp := Lib.hid (@split_stop room f acc R hend)
            have hlg := Lib.hid (fun W => longest_c R room W (by omega))
            have hlf : longF R room = longT R room R.size := rfl
            rw [← hlf] at hnL
            clear hlf
            generalize longF R room = nL at *
            by_cases hno : (nL = 0 ∧ R.size ≠ 0) ∨ acc.length = 8
            · have hY := hA.out
              rw [hsp.out hno] at hY
              have hY' : Y = ([], 3) := hY
              subst hY'
              clear hA hst hsp hcl hown hI1 hI2 hpar
              by_cases hn0 : nL = 0 ∧ R.size ≠ 0
              · obtain ⟨rfl, hR⟩ := hn0
                have hRn := toList_ne hR
                clear hno hend
                go_wp2_with (go_at_call 54; (with_reducible refine (hlg.out _).mono ?_); rintro e w7 ⟨rfl, hx7⟩)
                go_ret2
                exact ⟨PLC.nil, hext.trans hx7⟩
              · have h88 : acc.length = 8 := by rcases hno with h | h; exact absurd h hn0; exact h
                have hR : ¬ R.size = 0 := fun h => hend ⟨h, by omega⟩
                have hRn := toList_ne hR
                have hnn : ((nL : Int) == 0) = false := by simp; omega
                have h8b : ((acc.length : Int) == 8) = true := by simp [h88]
                clear hno hend h88 hf
                go_wp2_with (go_at_call 54; (with_reducible refine (hlg.out _).mono ?_); rintro e w7 ⟨rfl, hx7⟩)
                go_ret2
                exact ⟨PLC.nil, hext.trans hx7⟩
            · have hn8 : ¬ acc.length = 8 := fun h => hno (.inr h)
              have hnz : ¬ (nL = 0 ∧ R.size ≠ 0) := fun h => hno (.inl h)
              have h8b : ((acc.length : Int) == 8) = false := by simp; omega
              obtain ⟨acc2, hacc2⟩ : ∃ acc2 : List ByteArray, acc2 = acc ++ [R.extract 0 nL] := ⟨_, rfl⟩
              have hal := Lib.hid (show acc2.length = acc.length + 1 by rw [hacc2]; simp)
              have hA2 := Lib.hid (show Y = smO y ((splitR room f (R.extract nL R.size) acc2.length).map (acc2 ++ ·)) by rw [hA.out, hst.out acc2 hno hacc2])
              have hRs2 : (R.extract nL R.size).size ≤ 400 := by rw [ByteArray.size_extract]; omega
              have hRs2 := Lib.hid hRs2
              replace hacc2 := Lib.hid hacc2
              clear hA hst hsp hno hcl
              by_cases hR0 : R.size = 0
              · have hc0 : ((acc.length : Int) == 0) = true := by
                  have h0 : acc.length = 0 := Classical.not_not.1 fun h => hend ⟨hR0, h⟩
                  rw [h0]
                  rfl
                obtain rfl : nL = 0 := by omega
                obtain rfl := bytes_nil hR0
                clear hend hnz hnL
                go_wp2_with (go_at_call 54; (with_reducible refine (hlg.out _).mono ?_); rintro e w7 ⟨rfl, hx7⟩)
                refine wp_region_canon (fun w' => True) [(0, true), (1, true), (2, true), (3, true), (5, true), (6, true), (7, true), (4, false), (8, true), (9, false), (10, false), (11, true)] (by kernel_rfl) (by kernel_rfl) (by decide) (by kernel_rfl) ?_ ?_
                · exact trivial
                refine canon_intro fun ops eo => ?_
                have ho0 := canon_at eo 0 rfl
                have ho1 := canon_at eo 1 rfl
                have ho2 := canon_at eo 2 rfl
                have ho3 := canon_at eo 3 rfl
                have ho4 := canon_at eo 4 rfl
                have ho5 := canon_at eo 5 rfl
                have ho6 := canon_at eo 6 rfl
                have ho7 := canon_at eo 7 rfl
                have ho8 := canon_at eo 8 rfl
                have ho9 := canon_at eo 9 rfl
                have ho10 := canon_at eo 10 rfl
                have ho11 := canon_at eo 11 rfl
                clear eo
                all_goals (apply canon_st ho0 rfl; (intro w2 hS; first | (go_simp; first | done | rfl) | rfl | (skip; go_simp; first | done | rfl)); simp only [Act.put, List.setIfInBounds_toArray, List.set_cons_zero, List.set_cons_succ])
                all_goals clear ho0
                all_goals (apply canon_st ho1 rfl; (intro w2 hS; first | (go_simp; first | done | rfl) | rfl | (skip; go_simp; first | done | rfl)); simp only [Act.put, List.setIfInBounds_toArray, List.set_cons_zero, List.set_cons_succ])
                all_goals clear ho1
                all_goals (apply canon_st ho2 rfl; (intro w2 hS; first | (go_simp; first | done | rfl) | rfl | (skip; go_simp; first | done | rfl)); simp only [Act.put, List.setIfInBounds_toArray, List.set_cons_zero, List.set_cons_succ])
                all_goals clear ho2
                all_goals (apply canon_st ho3 rfl; (intro w2 hS; first | (go_simp; first | done | rfl) | rfl | (skip; go_simp; first | done | rfl)); simp only [Act.put, List.setIfInBounds_toArray, List.set_cons_zero, List.set_cons_succ])
                all_goals clear ho3
                all_goals (apply canon_st ho5 rfl; (intro w2 hS; first | (go_simp; first | done | rfl) | rfl | (skip; go_simp; first | done | rfl)); simp only [Act.put, List.setIfInBounds_toArray, List.set_cons_zero, List.set_cons_succ])
                all_goals clear ho5
                all_goals (apply canon_st ho6 rfl; (intro w2 hS; first | (go_simp; first | done | rfl) | rfl | (skip; go_simp; first | done | rfl)); simp only [Act.put, List.setIfInBounds_toArray, List.set_cons_zero, List.set_cons_succ])
                all_goals clear ho6
                all_goals (apply canon_st ho7 rfl; (intro w2 hS; first | (go_simp; first | done | rfl) | rfl | (skip; go_simp; first | done | rfl)); simp only [Act.put, List.setIfInBounds_toArray, List.set_cons_zero, List.set_cons_succ])
                all_goals clear ho7
                all_goals first | (refine canon_ef ho4 rfl (fun K hK => ?_); go_simp; ((go_at_call 55; (with_reducible refine (hpar.out _).mono ?_); rintro e w8 ⟨rfl, hx8⟩; have hown8 : RowS 39 ptF 4 w.heap.size w8 (.slice p1 acc.length c1) (mkP 0 y 0 acc) := hown.ext (((Ext.refl wr).trans hx7).drew.trans hx8); have hz8 : w.heap.size ≤ w8.heap.size := (((hext.trans hx7).drew).trans hx8).below.size)); all_goals (refine hK _ _ ⟨trivial, ?_⟩; clear hK K; go_simp)) | (refine canon_ef ho4 rfl (fun K hK => ?_); ((refine append1S_op (w0 := w8) hI1 hI2 rfl (by omega) (by omega) ptF_len ptF_one (n := ((acc.length : Int), (0 : Int), y, ByteArray.empty.extract 0 0)) hown8 (by rw [mkP_len]; omega) hz8 rfl ?_ rfl rfl); intro v1 w9 hown9 hlow9 hoth; obtain ⟨p9, c9, rfl, hown10, hcl10, hc10⟩ := SpI.of (acc := acc2) (by rw [hacc2.out, mkP_snoc]; exact hown9)); all_goals (refine hK _ _ ⟨trivial, ?_⟩; clear hK K; go_simp)) | (refine canon_ef ho4 rfl (fun K hK => ?_); go_simp; (skip); all_goals (refine hK _ _ ⟨trivial, ?_⟩; clear hK K; go_simp))
                all_goals clear ho4
                all_goals (apply canon_st ho8 rfl; (intro w2 hS; first | (go_simp; first | done | rfl) | rfl | (skip; go_simp; first | done | rfl)); simp only [Act.put, List.setIfInBounds_toArray, List.set_cons_zero, List.set_cons_succ])
                all_goals clear ho8
                all_goals first | (refine canon_ef ho9 rfl (fun K hK => ?_); go_simp; ((go_at_call 55; (with_reducible refine (hpar.out _).mono ?_); rintro e w8 ⟨rfl, hx8⟩; have hown8 : RowS 39 ptF 4 w.heap.size w8 (.slice p1 acc.length c1) (mkP 0 y 0 acc) := hown.ext (((Ext.refl wr).trans hx7).drew.trans hx8); have hz8 : w.heap.size ≤ w8.heap.size := (((hext.trans hx7).drew).trans hx8).below.size)); all_goals (refine hK _ _ ⟨trivial, ?_⟩; clear hK K; go_simp)) | (refine canon_ef ho9 rfl (fun K hK => ?_); ((refine append1S_op (w0 := w8) hI1 hI2 rfl (by omega) (by omega) ptF_len ptF_one (n := ((acc.length : Int), (0 : Int), y, ByteArray.empty.extract 0 0)) hown8 (by rw [mkP_len]; omega) hz8 rfl ?_ rfl rfl); intro v1 w9 hown9 hlow9 hoth; obtain ⟨p9, c9, rfl, hown10, hcl10, hc10⟩ := SpI.of (acc := acc2) (by rw [hacc2.out, mkP_snoc]; exact hown9)); all_goals (refine hK _ _ ⟨trivial, ?_⟩; clear hK K; go_simp)) | (refine canon_ef ho9 rfl (fun K hK => ?_); go_simp; (skip); all_goals (refine hK _ _ ⟨trivial, ?_⟩; clear hK K; go_simp))
                all_goals clear ho9
                all_goals first | (refine canon_ef ho10 rfl (fun K hK => ?_); go_simp; ((go_at_call 55; (with_reducible refine (hpar.out _).mono ?_); rintro e w8 ⟨rfl, hx8⟩; have hown8 : RowS 39 ptF 4 w.heap.size w8 (.slice p1 acc.length c1) (mkP 0 y 0 acc) := hown.ext (((Ext.refl wr).trans hx7).drew.trans hx8); have hz8 : w.heap.size ≤ w8.heap.size := (((hext.trans hx7).drew).trans hx8).below.size)); all_goals (refine hK _ _ ⟨trivial, ?_⟩; clear hK K; go_simp)) | (refine canon_ef ho10 rfl (fun K hK => ?_); ((refine append1S_op (w0 := w8) hI1 hI2 rfl (by omega) (by omega) ptF_len ptF_one (n := ((acc.length : Int), (0 : Int), y, ByteArray.empty.extract 0 0)) hown8 (by rw [mkP_len]; omega) hz8 rfl ?_ rfl rfl); intro v1 w9 hown9 hlow9 hoth; obtain ⟨p9, c9, rfl, hown10, hcl10, hc10⟩ := SpI.of (acc := acc2) (by rw [hacc2.out, mkP_snoc]; exact hown9)); all_goals (refine hK _ _ ⟨trivial, ?_⟩; clear hK K; go_simp)) | (refine canon_ef ho10 rfl (fun K hK => ?_); go_simp; (skip); all_goals (refine hK _ _ ⟨trivial, ?_⟩; clear hK K; go_simp))
                all_goals clear ho10
                all_goals (apply canon_st ho11 rfl; (intro w2 hS; first | (go_simp; first | done | rfl) | rfl | (skip; go_simp; first | done | rfl)); simp only [Act.put, List.setIfInBounds_toArray, List.set_cons_zero, List.set_cons_succ])
                all_goals clear ho11
                all_goals refine canon_done (NoPanic.normal ?_)
                go_wp2
                go_roundw
                case rel => exact ⟨acc2, _, f, by have := hal.out; omega, by have := hal.out; omega, rfl, hRs2.out, ⟨p9, c9, rfl, hown10, hcl10, hc10⟩, hA2, ((((hext.trans hx7).drew).trans hx8).low hlow9 (Nat.le_refl _))⟩
                case measure => have := hal.out; simp; omega
              · have hRn := toList_ne hR0
                have hnn : ((nL : Int) == 0) = false := by simp; omega
                clear hend hnz
                go_wp2_with (go_at_call 54; (with_reducible refine (hlg.out _).mono ?_); rintro e w7 ⟨rfl, hx7⟩)
                refine wp_region_canon (fun w' => True) [(0, true), (1, true), (2, true), (3, true), (5, true), (6, true), (7, true), (4, false), (8, true), (9, false), (10, false), (11, true)] (by kernel_rfl) (by kernel_rfl) (by decide) (by kernel_rfl) ?_ ?_
                · exact trivial
                refine canon_intro fun ops eo => ?_
                have ho0 := canon_at eo 0 rfl
                have ho1 := canon_at eo 1 rfl
                have ho2 := canon_at eo 2 rfl
                have ho3 := canon_at eo 3 rfl
                have ho4 := canon_at eo 4 rfl
                have ho5 := canon_at eo 5 rfl
                have ho6 := canon_at eo 6 rfl
                have ho7 := canon_at eo 7 rfl
                have ho8 := canon_at eo 8 rfl
                have ho9 := canon_at eo 9 rfl
                have ho10 := canon_at eo 10 rfl
                have ho11 := canon_at eo 11 rfl
                clear eo
                all_goals (apply canon_st ho0 rfl; (intro w2 hS; first | (go_simp; first | done | rfl) | rfl | (skip; go_simp; first | done | rfl)); simp only [Act.put, List.setIfInBounds_toArray, List.set_cons_zero, List.set_cons_succ])
                all_goals clear ho0
                all_goals (apply canon_st ho1 rfl; (intro w2 hS; first | (go_simp; first | done | rfl) | rfl | (skip; go_simp; first | done | rfl)); simp only [Act.put, List.setIfInBounds_toArray, List.set_cons_zero, List.set_cons_succ])
                all_goals clear ho1
                all_goals (apply canon_st ho2 rfl; (intro w2 hS; first | (go_simp; first | done | rfl) | rfl | (skip; go_simp; first | done | rfl)); simp only [Act.put, List.setIfInBounds_toArray, List.set_cons_zero, List.set_cons_succ])
                all_goals clear ho2
                all_goals (apply canon_st ho3 rfl; (intro w2 hS; first | (go_simp; first | done | rfl) | rfl | (skip; go_simp; first | done | rfl)); simp only [Act.put, List.setIfInBounds_toArray, List.set_cons_zero, List.set_cons_succ])
                all_goals clear ho3
                all_goals (apply canon_st ho5 rfl; (intro w2 hS; first | (go_simp; first | done | rfl) | rfl | (skip; go_simp; first | done | rfl)); simp only [Act.put, List.setIfInBounds_toArray, List.set_cons_zero, List.set_cons_succ])
                all_goals clear ho5
                all_goals (apply canon_st ho6 rfl; (intro w2 hS; first | (go_simp; first | done | rfl) | rfl | (skip; go_simp; first | done | rfl)); simp only [Act.put, List.setIfInBounds_toArray, List.set_cons_zero, List.set_cons_succ])
                all_goals clear ho6
                all_goals (apply canon_st ho7 rfl; (intro w2 hS; first | (go_simp; first | done | rfl) | rfl | (skip; go_simp; first | done | rfl)); simp only [Act.put, List.setIfInBounds_toArray, List.set_cons_zero, List.set_cons_succ])
                all_goals clear ho7
                all_goals first | (refine canon_ef ho4 rfl (fun K hK => ?_); go_simp; ((go_at_call 55; (with_reducible refine (hpar.out _).mono ?_); rintro e w8 ⟨rfl, hx8⟩; have hown8 : RowS 39 ptF 4 w.heap.size w8 (.slice p1 acc.length c1) (mkP 0 y 0 acc) := hown.ext (((Ext.refl wr).trans hx7).drew.trans hx8); have hz8 : w.heap.size ≤ w8.heap.size := (((hext.trans hx7).drew).trans hx8).below.size)); all_goals (refine hK _ _ ⟨trivial, ?_⟩; clear hK K; go_simp)) | (refine canon_ef ho4 rfl (fun K hK => ?_); ((refine append1S_op (w0 := w8) hI1 hI2 rfl (by omega) (by omega) ptF_len ptF_one (n := ((acc.length : Int), (0 : Int), y, R.extract 0 nL)) hown8 (by rw [mkP_len]; omega) hz8 rfl ?_ rfl rfl); intro v1 w9 hown9 hlow9 hoth; obtain ⟨p9, c9, rfl, hown10, hcl10, hc10⟩ := SpI.of (acc := acc2) (by rw [hacc2.out, mkP_snoc]; exact hown9)); all_goals (refine hK _ _ ⟨trivial, ?_⟩; clear hK K; go_simp)) | (refine canon_ef ho4 rfl (fun K hK => ?_); go_simp; (skip); all_goals (refine hK _ _ ⟨trivial, ?_⟩; clear hK K; go_simp))
                all_goals clear ho4
                all_goals (apply canon_st ho8 rfl; (intro w2 hS; first | (go_simp; first | done | rfl) | rfl | (skip; go_simp; first | done | rfl)); simp only [Act.put, List.setIfInBounds_toArray, List.set_cons_zero, List.set_cons_succ])
                all_goals clear ho8
                all_goals first | (refine canon_ef ho9 rfl (fun K hK => ?_); go_simp; ((go_at_call 55; (with_reducible refine (hpar.out _).mono ?_); rintro e w8 ⟨rfl, hx8⟩; have hown8 : RowS 39 ptF 4 w.heap.size w8 (.slice p1 acc.length c1) (mkP 0 y 0 acc) := hown.ext (((Ext.refl wr).trans hx7).drew.trans hx8); have hz8 : w.heap.size ≤ w8.heap.size := (((hext.trans hx7).drew).trans hx8).below.size)); all_goals (refine hK _ _ ⟨trivial, ?_⟩; clear hK K; go_simp)) | (refine canon_ef ho9 rfl (fun K hK => ?_); ((refine append1S_op (w0 := w8) hI1 hI2 rfl (by omega) (by omega) ptF_len ptF_one (n := ((acc.length : Int), (0 : Int), y, R.extract 0 nL)) hown8 (by rw [mkP_len]; omega) hz8 rfl ?_ rfl rfl); intro v1 w9 hown9 hlow9 hoth; obtain ⟨p9, c9, rfl, hown10, hcl10, hc10⟩ := SpI.of (acc := acc2) (by rw [hacc2.out, mkP_snoc]; exact hown9)); all_goals (refine hK _ _ ⟨trivial, ?_⟩; clear hK K; go_simp)) | (refine canon_ef ho9 rfl (fun K hK => ?_); go_simp; (skip); all_goals (refine hK _ _ ⟨trivial, ?_⟩; clear hK K; go_simp))
                all_goals clear ho9
                all_goals first | (refine canon_ef ho10 rfl (fun K hK => ?_); go_simp; ((go_at_call 55; (with_reducible refine (hpar.out _).mono ?_); rintro e w8 ⟨rfl, hx8⟩; have hown8 : RowS 39 ptF 4 w.heap.size w8 (.slice p1 acc.length c1) (mkP 0 y 0 acc) := hown.ext (((Ext.refl wr).trans hx7).drew.trans hx8); have hz8 : w.heap.size ≤ w8.heap.size := (((hext.trans hx7).drew).trans hx8).below.size)); all_goals (refine hK _ _ ⟨trivial, ?_⟩; clear hK K; go_simp)) | (refine canon_ef ho10 rfl (fun K hK => ?_); ((refine append1S_op (w0 := w8) hI1 hI2 rfl (by omega) (by omega) ptF_len ptF_one (n := ((acc.length : Int), (0 : Int), y, R.extract 0 nL)) hown8 (by rw [mkP_len]; omega) hz8 rfl ?_ rfl rfl); intro v1 w9 hown9 hlow9 hoth; obtain ⟨p9, c9, rfl, hown10, hcl10, hc10⟩ := SpI.of (acc := acc2) (by rw [hacc2.out, mkP_snoc]; exact hown9)); all_goals (refine hK _ _ ⟨trivial, ?_⟩; clear hK K; go_simp)) | (refine canon_ef ho10 rfl (fun K hK => ?_); go_simp; (skip); all_goals (refine hK _ _ ⟨trivial, ?_⟩; clear hK K; go_simp))
                all_goals clear ho10
                all_goals (apply canon_st ho11 rfl; (intro w2 hS; first | (go_simp; first | done | rfl) | rfl | (skip; go_simp; first | done | rfl)); simp only [Act.put, List.setIfInBounds_toArray, List.set_cons_zero, List.set_cons_succ])
                all_goals clear ho11
                all_goals refine canon_done (NoPanic.normal ?_)
                go_wp2
                go_roundw
                case rel => exact ⟨acc2, _, f, by have := hal.out; omega, by have := hal.out; omega, rfl, hRs2.out, ⟨p9, c9, rfl, hown10, hcl10, hc10⟩, hA2, ((((hext.trans hx7).drew).trans hx8).low hlow9 (Nat.le_refl _))⟩
                case measure => have := hal.out; simp; omega
    · have hv : smV p k q t cap = ([], 2) := by unfold smV; rw [if_neg (not_not_intro h1), if_pos h2]
      rw [hv]
      clear hv hbd hs
      generalize fldSize p k = size at *
      go_enter Tryd.func14, Tryd.ntmps14
      go_wp2_with (first
        | (go_at_call 50; (with_reducible refine (hcalc.out _).mono ?_); rintro e w1 ⟨⟨g, b, rfl, hcb⟩, hx1⟩)
        | (go_at_call 51; (with_reducible refine (inRange_c _ _ _ _).mono ?_); rintro e w2 ⟨⟨hP, rfl⟩ | ⟨hP, rfl⟩, rfl⟩ <;> first | (exfalso; omega) | skip))
      go_ret2
      exact ⟨PLC.nil, (by repeat (first | exact Ext.refl _ | assumption | refine Ext.drew ?_ | refine Ext.drewN ?_ _ | refine Ext.iter ?_ _ _ | refine Ext.alloc ?_ _ | refine Ext.setCell ?_ (by first | exact Nat.le_refl _ | (simp <;> omega)) _ | refine Ext.trans2 (by assumption) ?_))⟩
  · have hv : smV p k q t cap = ([], 1) := by unfold smV; rw [if_pos h1]
    rw [hv]
    have hcalc := Lib.hid (fun W => calcNo_c p k q h1 W)
    clear hv
    go_enter Tryd.func14, Tryd.ntmps14
    go_wp2_with (go_at_call 50; (with_reducible refine (hcalc.out _).mono ?_); rintro e w1 ⟨⟨v, rfl⟩, hx1⟩)
    go_ret2
    exact ⟨PLC.nil, (by repeat (first | exact Ext.refl _ | assumption | refine Ext.drew ?_ | refine Ext.drewN ?_ _ | refine Ext.iter ?_ _ _ | refine Ext.alloc ?_ _ | refine Ext.setCell ?_ (by first | exact Nat.le_refl _ | (simp <;> omega)) _ | refine Ext.trans2 (by assumption) ?_))⟩
end Go.Proofs.YthpnkcamjcohgaaDoor
