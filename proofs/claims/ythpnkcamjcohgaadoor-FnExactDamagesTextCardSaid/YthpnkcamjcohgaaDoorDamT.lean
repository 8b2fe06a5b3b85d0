
/- The text of damages: the reference. -/
import Derived.Test.YthpnkcamjcohgaaDoorDamS
namespace Go.Proofs.YthpnkcamjcohgaaDoor
set_option linter.unusedVariables false
set_option linter.unusedSimpArgs false
open Go.RowKit

open Classical in
noncomputable def codeV (xs : List Dam) : Int := if 20 < xs.length then 3 else if ∀ i (h : i < xs.length), dOK (xs[i]'h) then 0 else 2
set_option maxHeartbeats 800000 in
set_option maxRecDepth 100000 in
theorem l27Code_c (p : Option Addr) (c : Nat) (xs : List Dam) (W : World) (hx : SAt fD 6 W p xs) (hl : xs.length ≤ 1048576) :
    Calls Tryd.prog 35 #[.slice p xs.length c] W fun e w' => e = .returned (.int .i64 (codeV xs)) ∧ Ext W w' := by
  have HX := Lib.hid hx; clear hx
  obtain ⟨V, hV⟩ : ∃ V, codeV xs = V := ⟨_, rfl⟩
  rw [hV]
  unfold codeV at hV
  replace hV := Lib.hid hV
  by_cases h20 : 20 < xs.length
  · have h20i : (20 : Int) < xs.length := by omega
    have hVe : V = 3 := by rw [← hV.out, if_pos h20]
    subst hVe
    clear hV
    go_enter Tryd.func35, Tryd.ntmps35
    go_wp2
    go_ret
    exact ⟨rfl, (by repeat (first | exact Ext.refl _ | assumption | refine Ext.drew ?_ | refine Ext.drewN ?_ _ | refine Ext.iter ?_ _ _ | refine Ext.alloc ?_ _ | refine Ext.setCell ?_ (by first | exact Nat.le_refl _ | (simp <;> omega)) _ | refine Ext.trans2 (by assumption) ?_))⟩
  · have h20i : ¬ (20 : Int) < xs.length := by omega
    have hVo := Lib.hid (show (∀ i (h : i < xs.length), dOK (xs[i]'h)) → V = 0 from fun h => by rw [← hV.out, if_neg h20, if_pos h])
    have hVn := Lib.hid (show (∀ i (h : i < xs.length), ¬ dOK (xs[i]'h) → V = 2) from fun i hi h => by rw [← hV.out, if_neg h20, if_neg (fun ha => h (ha i hi))])
    clear hV
    go_enter Tryd.func35, Tryd.ntmps35
    go_wp2_with fail
    go_loopw [3] (fun i wr => ∃ k : Nat, k ≤ xs.length ∧ i = .int .i64 k ∧ (∀ j (h : j < xs.length), j < k → dOK (xs[j]'h)) ∧ Ext W wr) (fun i _ => xs.length - (intOf i).toNat)
    case atStart => exact ⟨0, Nat.zero_le _, rfl, fun j _ h => absurd h (Nat.not_lt_zero j), (by repeat (first | exact Ext.refl _ | assumption | refine Ext.drew ?_ | refine Ext.drewN ?_ _ | refine Ext.iter ?_ _ _ | refine Ext.alloc ?_ _ | refine Ext.setCell ?_ (by first | exact Nat.le_refl _ | (simp <;> omega)) _ | refine Ext.trans2 (by assumption) ?_))⟩
    case round =>
      obtain ⟨k, hk, rfl, hall, hext⟩ := hrel
      replace hall := Lib.hid hall
      by_cases hlt : k < xs.length
      · obtain ⟨b, o, rfl, hbl, y⟩ := (HX.out.ext hext) k hlt
        obtain ⟨X, hX⟩ : ∃ X, xs[k]'hlt = X := ⟨_, rfl⟩
        obtain ⟨k1, r1, c1, t1, w1, g1⟩ := X
        rw [hX] at y
        have y0 : wr.cell? ⟨b, o + k * 6, none⟩ = some (.int .i64 k1) := y 0 _ rfl
        have y1 : wr.cell? ⟨b, o + k * 6 + 1, none⟩ = some (.int .i64 r1) := y 1 _ rfl
        have y2 : wr.cell? ⟨b, o + k * 6 + 2, none⟩ = some (.int .i64 c1) := y 2 _ rfl
        have y3 : wr.cell? ⟨b, o + k * 6 + 3, none⟩ = some (.int .i64 t1) := y 3 _ rfl
        have y4 : wr.cell? ⟨b, o + k * 6 + 4, none⟩ = some (.int .i64 w1) := y 4 _ rfl
        have y5 : wr.cell? ⟨b, o + k * 6 + 5, none⟩ = some (.int .i64 g1) := y 5 _ rfl
        clear y
        replace hX := Lib.hid hX
        have hi := Lib.hid (fun W => sIsDamage_c k1 r1 c1 t1 w1 g1 W)
        obtain ⟨D, hD⟩ : ∃ D, damOK k1 r1 c1 t1 w1 g1 = D := ⟨_, rfl⟩
        rw [hD] at hi
        replace hD := Lib.hid hD
        go_wp2_with (go_at_call 85; (with_reducible refine (hi.out _).mono ?_); rintro e w7 ⟨⟨hP, rfl⟩ | ⟨hP, rfl⟩, hx1⟩)
        · have hnew : dOK (xs[k]'hlt) := by rw [hX.out]; unfold dOK; simp only; rw [hD.out]; exact hP
          replace hnew := Lib.hid hnew
          go_roundw
          case rel =>
            refine ⟨k + 1, hlt, by go_num, fun j h hj => ?_, (by repeat (first | exact Ext.refl _ | assumption | refine Ext.drew ?_ | refine Ext.drewN ?_ _ | refine Ext.iter ?_ _ _ | refine Ext.alloc ?_ _ | refine Ext.setCell ?_ (by first | exact Nat.le_refl _ | (simp <;> omega)) _ | refine Ext.trans2 (by assumption) ?_))⟩
            by_cases hjk : j = k
            · subst hjk; exact hnew.out
            · exact hall.out j h (by omega)
          case measure => simp [intOf]; omega
        · have hnew : ¬ dOK (xs[k]'hlt) := by rw [hX.out]; unfold dOK; simp only; rw [hD.out]; exact hP
          go_ret
          exact ⟨by rw [hVn.out k hlt hnew]; rfl, (by repeat (first | exact Ext.refl _ | assumption | refine Ext.drew ?_ | refine Ext.drewN ?_ _ | refine Ext.iter ?_ _ _ | refine Ext.alloc ?_ _ | refine Ext.setCell ?_ (by first | exact Nat.le_refl _ | (simp <;> omega)) _ | refine Ext.trans2 (by assumption) ?_))⟩
      · obtain rfl : k = xs.length := by omega
        go_wp2
        go_ret
        exact ⟨by rw [hVo.out (fun j h => hall.out j h h)]; rfl, hext⟩
/-- The text of the first fields. -/
def sfx (F : List Bool) (L : List Int) : Nat → ByteArray
  | 0 => ByteArray.empty
  | q + 1 => if F.getD q false = true then sfx F L q ++ ⟨#[32]⟩ ++ dec (L.getD q 0) else sfx F L q
def wrdB (k : Int) : ByteArray := if k = 1 then blotW else if k = 2 then scratchW else if k = 3 then skewW else if k = 4 then noiseW else fadeW
theorem txt_sfx (d : Dam) (h1 : 1 ≤ d.k) (h5 : d.k ≤ 5) : txtD d = wrdB d.k ++ sfx (fldB d.k) [d.r, d.c, d.t, d.w, d.g] 5 := by
  obtain ⟨k, r, c, t, w, g⟩ := d
  simp only at h1 h5 ⊢
  have hk : k = 1 ∨ k = 2 ∨ k = 3 ∨ k = 4 ∨ k = 5 := by omega
  rcases hk with rfl | rfl | rfl | rfl | rfl <;>
    simp [txtD, wrdB, fldB, sfx, decT, blotL, scratchL, skewL, noiseL, fadeL, spB, ByteArray.append_assoc]
/-- The text of the first damages. -/
def jtx (xs : List ByteArray) : Nat → ByteArray
  | 0 => ByteArray.empty
  | i + 1 => (if i = 0 then ByteArray.empty else jtx xs i ++ ⟨#[59]⟩) ++ xs.getD i ByteArray.empty
theorem jtx_tail (x : ByteArray) (r : List ByteArray) : ∀ i, i ≤ r.length → (jtx (x :: r) (i + 1)).data.toList = x.data.toList ++ Lib.joinTail [59] ((r.take i).map (·.data.toList))
  | 0, _ => by simp [jtx, Lib.joinTail]
  | i + 1, h => by
    have ih := jtx_tail x r i (by omega)
    rw [jtx, if_neg (by omega), List.take_succ_eq_append_getElem (by omega)]
    have e : (x :: r).getD (i + 1) ByteArray.empty = r[i]'(by omega) := by
      rw [List.getD_eq_getElem?_getD, List.getElem?_cons_succ, List.getElem?_eq_getElem (by omega)]; rfl
    rw [e]
    simp only [ByteArray.data_append, Array.toList_append, ih, Lib.joinTail, List.map_append, List.map_cons, List.map_nil, List.flatten_append, List.flatten_cons, List.flatten_nil, List.append_nil, List.append_assoc]
theorem jtx_join (xs : List ByteArray) : jtx xs xs.length = ⟨(Lib.join (xs.map (·.data.toList)) [59]).toArray⟩ := by
  cases xs with
  | nil => rfl
  | cons x r =>
    apply ByteArray.ext
    apply Array.toList_inj.1
    have h := jtx_tail x r r.length (Nat.le_refl _)
    rw [List.take_length] at h
    rw [List.length_cons, h, List.map_cons, Lib.join_cons]
theorem jtx_size {xs : List ByteArray} (h : ∀ x ∈ xs, x.size ≤ 300) : ∀ i, i ≤ xs.length → (jtx xs i).size ≤ 301 * i
  | 0, _ => by simp [jtx]
  | i + 1, hi => by
    have ih := jtx_size h i (by omega)
    have h1 : (xs.getD i ByteArray.empty).size ≤ 300 := by
      rw [List.getD_eq_getElem?_getD, List.getElem?_eq_getElem (by omega)]
      exact h _ (List.getElem_mem (by omega))
    rw [jtx]
    split
    · rw [ByteArray.size_append]
      have : ByteArray.empty.size = 0 := rfl
      omega
    · rw [ByteArray.size_append, ByteArray.size_append]
      have : (⟨#[59]⟩ : ByteArray).size = 1 := rfl
      omega
theorem sfx_size {F : List Bool} {L : List Int} (h : ∀ q, -1000 ≤ L.getD q 0 ∧ L.getD q 0 ≤ 1000) : ∀ q, (sfx F L q).size ≤ 22 * q
  | 0 => by simp [sfx]
  | q + 1 => by
    have ih := sfx_size (F := F) h q
    have h1 := dec_le (L.getD q 0) (by have := h q; omega) (by have := h q; omega)
    rw [sfx]
    split
    · rw [ByteArray.size_append, ByteArray.size_append]
      have : (⟨#[32]⟩ : ByteArray).size = 1 := rfl
      omega
    · omega
theorem codeV_0 {xs : List Dam} : codeV xs = 0 ↔ xs.length ≤ 20 ∧ ∀ i (h : i < xs.length), dOK (xs[i]'h) := by
  unfold codeV
  split
  · rename_i h
    exact ⟨fun e => absurd e (by decide), fun e => by omega⟩
  · split
    · rename_i h1 h2
      exact ⟨fun _ => ⟨by omega, h2⟩, fun _ => rfl⟩
    · rename_i h1 h2
      exact ⟨fun e => absurd e (by decide), fun e => absurd e.2 h2⟩
set_option maxHeartbeats 1600000 in
set_option maxRecDepth 100000 in
theorem sDamagesText_c (p : Option Addr) (c : Nat) (xs : List Dam) (w : World) (hx : SAt fD 6 w p xs) (hl : xs.length ≤ 1048576) :
    Calls Tryd.prog 8 #[.slice p xs.length c] w fun e w' => e = .returned (.string (dtV xs)) ∧ Ext w w' := by
  have hcd := Lib.hid (fun W h => l27Code_c p c xs W h hl)
  have HX := Lib.hid hx; clear hx
  obtain ⟨V, hV⟩ : ∃ V, dtV xs = V := ⟨_, rfl⟩
  rw [hV]
  unfold dtV at hV
  obtain ⟨C, hC⟩ : ∃ C, codeV xs = C := ⟨_, rfl⟩
  rw [hC] at hcd
  by_cases hc0 : C = 0
  · subst hc0
    have hok := codeV_0.1 hC
    rw [if_pos hok] at hV
    obtain ⟨h20, hAll⟩ := hok
    have hTs : ∀ x ∈ xs.map txtD, x.size ≤ 300 := fun x hx => by
      obtain ⟨d, hd, rfl⟩ := List.mem_map.1 hx
      obtain ⟨i, hi, rfl⟩ := List.getElem_of_mem hd
      exact txt_size (hAll i hi)
    have hjs := Lib.hid (jtx_size hTs)
    rw [← jtx_join, List.length_map] at hV
    have hTl : (xs.map txtD).length = xs.length := List.length_map _
    have hTn := Lib.hid (fun n (hn : n < xs.length) => show jtx (xs.map txtD) (n + 1) = (if n = 0 then ByteArray.empty else jtx (xs.map txtD) n ++ ⟨#[59]⟩) ++ txtD (xs[n]'hn) from by
      rw [jtx]; congr 1
      rw [List.getD_eq_getElem?_getD, List.getElem?_map, List.getElem?_eq_getElem hn]; rfl)
    generalize xs.map txtD = Ts at *
    replace hV := Lib.hid hV; replace hAll := Lib.hid hAll; replace hTl := Lib.hid hTl
    clear hC hTs
    go_enter Tryd.func8, Tryd.ntmps8
    go_wp2_with (go_at_call 35; (with_reducible refine (hcd.out _ HX.out).mono ?_); rintro e w1 ⟨rfl, hx1⟩)
    go_loopw [3, 4] (fun o i wr => ∃ n : Nat, n ≤ xs.length ∧ i = .int .i64 n ∧ o = .string (jtx Ts n) ∧ Ext w wr) (fun _ i _ => xs.length - (intOf i).toNat)
    case atStart => exact ⟨0, Nat.zero_le _, rfl, rfl, hx1⟩
    case round =>
      obtain ⟨n, hn, rfl, rfl, hext⟩ := hrel
      by_cases hlt : n < xs.length
      · have hTn1 := hTn.out n hlt
        obtain ⟨b, o, rfl, hbl, y⟩ := (HX.out.ext hext) n hlt
        have hd := hAll.out n hlt
        have hjz := hjs.out n (by rw [hTl.out]; exact hn)
        generalize xs[n]'hlt = X at *
        have hlm := dOK_lims hd
        have htx := txt_sfx X hlm.1.1 hlm.1.2
        rw [htx] at hTn1
        clear htx hd
        obtain ⟨k1, r1, c1, t1, w1', g1⟩ := X
        simp only at hlm hTn1
        have y0 : wr.cell? ⟨b, o + n * 6, none⟩ = some (.int .i64 k1) := y 0 _ rfl
        have y1 : wr.cell? ⟨b, o + n * 6 + 1, none⟩ = some (.int .i64 r1) := y 1 _ rfl
        have y2 : wr.cell? ⟨b, o + n * 6 + 2, none⟩ = some (.int .i64 c1) := y 2 _ rfl
        have y3 : wr.cell? ⟨b, o + n * 6 + 3, none⟩ = some (.int .i64 t1) := y 3 _ rfl
        have y4 : wr.cell? ⟨b, o + n * 6 + 4, none⟩ = some (.int .i64 w1') := y 4 _ rfl
        have y5 : wr.cell? ⟨b, o + n * 6 + 5, none⟩ = some (.int .i64 g1) := y 5 _ rfl
        clear y
        obtain ⟨m, rfl⟩ : ∃ m : Nat, k1 = (m : Int) + 1 := ⟨(k1 - 1).toNat, by omega⟩
        have hm5 : m < 5 := by omega
        have hm5i : (m : Int) < 5 := by omega
        have hW := Lib.hid (fun (W : World) (bw : Nat) (h : Blk W bw #[.string blotW, .string scratchW, .string skewW, .string noiseW, .string fadeW] 9) => show W.cell? ⟨bw, m, none⟩ = some (.string (wrdB ((m : Int) + 1))) from h.cell (by
          have : m = 0 ∨ m = 1 ∨ m = 2 ∨ m = 3 ∨ m = 4 := by omega
          rcases this with rfl | rfl | rfl | rfl | rfl <;> rfl))
        have hWs : (wrdB ((m : Int) + 1)).size ≤ 10 := by
          have : m = 0 ∨ m = 1 ∨ m = 2 ∨ m = 3 ∨ m = 4 := by omega
          rcases this with rfl | rfl | rfl | rfl | rfl <;> decide
        have e1 := IntWalk.i64_in (m : Int) (by omega)
        have e3 : IntKind.i64.wrap ((m : Int) + 1 - 1) = (m : Int) := by rw [show (m : Int) + 1 - 1 = (m : Int) by omega]; exact e1
        have hLb : ∀ q, -1000 ≤ ([r1, c1, t1, w1', g1] : List Int).getD q 0 ∧ ([r1, c1, t1, w1', g1] : List Int).getD q 0 ≤ 1000 := fun q => by
          match q with
          | 0 => exact hlm.2.1
          | 1 => exact hlm.2.2.1
          | 2 => exact hlm.2.2.2.1
          | 3 => exact hlm.2.2.2.2.1
          | 4 => exact hlm.2.2.2.2.2
          | q + 5 => simp
        have hSz := Lib.hid (sfx_size (F := fldB ((m : Int) + 1)) hLb)
        have hfd := Lib.hid (fun W => l27Fields_c ((m : Int) + 1) W)
        have hls := Lib.hid (fun W => l27List_c ((m : Int) + 1) r1 c1 t1 w1' g1 W)
        have hl5 := fldB_len ((m : Int) + 1)
        generalize fldB ((m : Int) + 1) = F at *
        generalize wrdB ((m : Int) + 1) = Wd at *
        replace hLb := Lib.hid hLb
        clear hlm
        by_cases h0 : n = 0
        · have hb0 : ¬ (0 : Int) < n := by omega
          rw [if_pos h0] at hTn1
          obtain ⟨J, hJ⟩ : ∃ J, jtx Ts n = J := ⟨_, rfl⟩
          (try rw [hJ] at hTn1)
          rw [hJ] at hjz ⊢
          have hjz2 : J.size ≤ 6020 := by omega
          have hJn := Lib.hid (show jtx Ts (n + 1) = J ++ (Wd ++ sfx F [r1, c1, t1, w1', g1] 5) from by first | exact hTn1 | (rw [hTn1, ← hJ, h0]; rfl))
          clear hTn1 hjz
          replace h0 := Lib.hid h0
          replace hJ := Lib.hid hJ
          have hzJ : ¬ 9223372036854775807 < J.size + 1 := by omega
          have hzB : (J).size ≤ 6021 := by first | omega | (rw [ByteArray.size_append]; have : (⟨#[59]⟩ : ByteArray).size = 1 := rfl; omega)
          have hzW : ¬ 9223372036854775807 < (J).size + Wd.size := by omega
          have hzW2 : ¬ 9223372036854775807 < J.size + 1 + Wd.size := by omega
          go_upto_region 9 with (fail)
          refine wp_region_c3 (fun w' => Ext wr w') (.st 0 (.st 2 (.st 3 (.st 4 (.st 5 (.two 1 (.one 6 (.st 7 (.st 8 (.one 9 (.st 10 (.st 11 .done)))))) 6 (.st 7 (.one 1 (.st 8 (.one 9 (.st 10 (.st 11 .done)))))))))))) (by kernel_rfl) (by kernel_rfl) (by decide) (by kernel_rfl) ?_ ?_
          · exact (by repeat (first | exact Ext.refl _ | assumption | refine Ext.drew ?_ | refine Ext.drewN ?_ _ | refine Ext.iter ?_ _ _ | refine Ext.alloc ?_ _ | refine Ext.setCell ?_ (by first | exact Nat.le_refl _ | (simp <;> omega)) _ | refine Ext.trans2 (by assumption) ?_))
          refine c3_intro fun ops eo => ?_
          have ho0 := canon_at eo 0 rfl
          have ho1 := canon_at eo 1 rfl
          have ho2 := canon_at eo 2 rfl
          have ho3 := canon_at eo 3 rfl
          have ho4 := canon_at eo 4 rfl
          have ho5 := canon_at eo 5 rfl
          have ho6 := canon_at eo 6 rfl
          have ho7 := canon_at eo 7 rfl
          have ho8 := canon_at eo 8 rfl
          have ho9 := canon_at eo 9 rfl
          have ho10 := canon_at eo 10 rfl
          have ho11 := canon_at eo 11 rfl
          clear eo
          all_goals (apply c3_st ho0 rfl; (intro w2 hS; first | (go_simp; first | done | rfl) | rfl | (obtain ⟨hc', hf', hk', hz⟩ := ecell hS; go_simp; first | done | rfl)); simp only [Act.put, List.setIfInBounds_toArray, List.set_cons_zero, List.set_cons_succ])
          all_goals clear ho0
          all_goals (apply c3_st ho2 rfl; (intro w2 hS; first | (go_simp; first | done | rfl) | rfl | (obtain ⟨hc', hf', hk', hz⟩ := ecell hS; go_simp; first | done | rfl)); simp only [Act.put, List.setIfInBounds_toArray, List.set_cons_zero, List.set_cons_succ])
          all_goals clear ho2
          all_goals (apply c3_st ho3 rfl; (intro w2 hS; first | (go_simp; first | done | rfl) | rfl | (obtain ⟨hc', hf', hk', hz⟩ := ecell hS; go_simp; first | done | rfl)); simp only [Act.put, List.setIfInBounds_toArray, List.set_cons_zero, List.set_cons_succ])
          all_goals clear ho3
          all_goals (apply c3_st ho4 rfl; (intro w2 hS; first | (go_simp; first | done | rfl) | rfl | (obtain ⟨hc', hf', hk', hz⟩ := ecell hS; go_simp; first | done | rfl)); simp only [Act.put, List.setIfInBounds_toArray, List.set_cons_zero, List.set_cons_succ])
          all_goals clear ho4
          all_goals (apply c3_st ho5 rfl; (intro w2 hS; first | (go_simp; first | done | rfl) | rfl | (obtain ⟨hc', hf', hk', hz⟩ := ecell hS; go_simp; first | done | rfl)); simp only [Act.put, List.setIfInBounds_toArray, List.set_cons_zero, List.set_cons_succ])
          all_goals clear ho5
          all_goals
            refine c3_two ?_ ?_
            rotate_right 1
            focus
              all_goals first | (refine c3_op ho6 rfl (fun K hK => ?_); go_simp; ((go_at_call 36; (with_reducible refine (l27Words_c _).mono ?_); rintro e w3 ⟨⟨gw, rfl, hbw⟩, hx3⟩; have yw := hW.out _ _ hbw; have ywl := hbw.lt; have hx3b : Ext wr w3 := (by first | exact hx3 | exact (Ext.refl wr).drew.trans hx3); have z0 := (hx3b.below.cell (p := ⟨b, o + n * 6, none⟩) hbl).trans y0; have zl := Nat.lt_of_lt_of_le hbl hx3b.below.size)); all_goals ((with_reducible refine hK _ _ ?_); refine ⟨(by first | assumption | exact (by repeat (first | exact Ext.refl _ | assumption | refine Ext.drew ?_ | refine Ext.drewN ?_ _ | refine Ext.iter ?_ _ _ | refine Ext.alloc ?_ _ | refine Ext.setCell ?_ (by first | exact Nat.le_refl _ | (simp <;> omega)) _ | refine Ext.trans2 (by assumption) ?_))), ?_⟩; clear hK K; go_simp)) | (refine c3_op ho6 rfl (fun K hK => ?_); go_simp; (skip); all_goals ((with_reducible refine hK _ _ ?_); refine ⟨(by first | assumption | exact (by repeat (first | exact Ext.refl _ | assumption | refine Ext.drew ?_ | refine Ext.drewN ?_ _ | refine Ext.iter ?_ _ _ | refine Ext.alloc ?_ _ | refine Ext.setCell ?_ (by first | exact Nat.le_refl _ | (simp <;> omega)) _ | refine Ext.trans2 (by assumption) ?_))), ?_⟩; clear hK K; go_simp))
              all_goals clear ho6
              all_goals (apply c3_st ho7 rfl; (intro w2 hS; first | (go_simp; first | done | rfl) | rfl | (obtain ⟨hc', hf', hk', hz⟩ := ecell hS; go_simp; first | done | rfl)); simp only [Act.put, List.setIfInBounds_toArray, List.set_cons_zero, List.set_cons_succ])
              all_goals clear ho7
              all_goals refine c3_one ?_
              all_goals first | (refine c3_op ho1 rfl (fun K hK => ?_); go_simp; ((go_at_call 36; (with_reducible refine (l27Words_c _).mono ?_); rintro e w3 ⟨⟨gw, rfl, hbw⟩, hx3⟩; have yw := hW.out _ _ hbw; have ywl := hbw.lt; have hx3b : Ext wr w3 := (by first | exact hx3 | exact (Ext.refl wr).drew.trans hx3); have z0 := (hx3b.below.cell (p := ⟨b, o + n * 6, none⟩) hbl).trans y0; have zl := Nat.lt_of_lt_of_le hbl hx3b.below.size)); all_goals ((with_reducible refine hK _ _ ?_); refine ⟨(by first | assumption | exact (by repeat (first | exact Ext.refl _ | assumption | refine Ext.drew ?_ | refine Ext.drewN ?_ _ | refine Ext.iter ?_ _ _ | refine Ext.alloc ?_ _ | refine Ext.setCell ?_ (by first | exact Nat.le_refl _ | (simp <;> omega)) _ | refine Ext.trans2 (by assumption) ?_))), ?_⟩; clear hK K; go_simp)) | (refine c3_op ho1 rfl (fun K hK => ?_); go_simp; (skip); all_goals ((with_reducible refine hK _ _ ?_); refine ⟨(by first | assumption | exact (by repeat (first | exact Ext.refl _ | assumption | refine Ext.drew ?_ | refine Ext.drewN ?_ _ | refine Ext.iter ?_ _ _ | refine Ext.alloc ?_ _ | refine Ext.setCell ?_ (by first | exact Nat.le_refl _ | (simp <;> omega)) _ | refine Ext.trans2 (by assumption) ?_))), ?_⟩; clear hK K; go_simp))
              all_goals clear ho1
              all_goals (apply c3_st ho8 rfl; (intro w2 hS; first | (go_simp; first | done | rfl) | rfl | (obtain ⟨hc', hf', hk', hz⟩ := ecell hS; go_simp; first | done | rfl)); simp only [Act.put, List.setIfInBounds_toArray, List.set_cons_zero, List.set_cons_succ])
              all_goals clear ho8
              all_goals refine c3_one ?_
              all_goals first | (refine c3_op ho9 rfl (fun K hK => ?_); go_simp; ((go_at_call 36; (with_reducible refine (l27Words_c _).mono ?_); rintro e w3 ⟨⟨gw, rfl, hbw⟩, hx3⟩; have yw := hW.out _ _ hbw; have ywl := hbw.lt; have hx3b : Ext wr w3 := (by first | exact hx3 | exact (Ext.refl wr).drew.trans hx3); have z0 := (hx3b.below.cell (p := ⟨b, o + n * 6, none⟩) hbl).trans y0; have zl := Nat.lt_of_lt_of_le hbl hx3b.below.size)); all_goals ((with_reducible refine hK _ _ ?_); refine ⟨(by first | assumption | exact (by repeat (first | exact Ext.refl _ | assumption | refine Ext.drew ?_ | refine Ext.drewN ?_ _ | refine Ext.iter ?_ _ _ | refine Ext.alloc ?_ _ | refine Ext.setCell ?_ (by first | exact Nat.le_refl _ | (simp <;> omega)) _ | refine Ext.trans2 (by assumption) ?_))), ?_⟩; clear hK K; go_simp)) | (refine c3_op ho9 rfl (fun K hK => ?_); go_simp; (skip); all_goals ((with_reducible refine hK _ _ ?_); refine ⟨(by first | assumption | exact (by repeat (first | exact Ext.refl _ | assumption | refine Ext.drew ?_ | refine Ext.drewN ?_ _ | refine Ext.iter ?_ _ _ | refine Ext.alloc ?_ _ | refine Ext.setCell ?_ (by first | exact Nat.le_refl _ | (simp <;> omega)) _ | refine Ext.trans2 (by assumption) ?_))), ?_⟩; clear hK K; go_simp))
              all_goals clear ho9
              all_goals (apply c3_st ho10 rfl; (intro w2 hS; first | (go_simp; first | done | rfl) | rfl | (obtain ⟨hc', hf', hk', hz⟩ := ecell hS; go_simp; first | done | rfl)); simp only [Act.put, List.setIfInBounds_toArray, List.set_cons_zero, List.set_cons_succ])
              all_goals clear ho10
              all_goals (apply c3_st ho11 rfl; (intro w2 hS; first | (go_simp; first | done | rfl) | rfl | (obtain ⟨hc', hf', hk', hz⟩ := ecell hS; go_simp; first | done | rfl)); simp only [Act.put, List.setIfInBounds_toArray, List.set_cons_zero, List.set_cons_succ])
              all_goals clear ho11
              all_goals refine c3_done (NoPanic.normal ?_)
            rotate_right 1
            focus
              all_goals first | (refine c3_op ho1 rfl (fun K hK => ?_); go_simp; ((go_at_call 36; (with_reducible refine (l27Words_c _).mono ?_); rintro e w3 ⟨⟨gw, rfl, hbw⟩, hx3⟩; have yw := hW.out _ _ hbw; have ywl := hbw.lt; have hx3b : Ext wr w3 := (by first | exact hx3 | exact (Ext.refl wr).drew.trans hx3); have z0 := (hx3b.below.cell (p := ⟨b, o + n * 6, none⟩) hbl).trans y0; have zl := Nat.lt_of_lt_of_le hbl hx3b.below.size)); all_goals ((with_reducible refine hK _ _ ?_); refine ⟨(by first | assumption | exact (by repeat (first | exact Ext.refl _ | assumption | refine Ext.drew ?_ | refine Ext.drewN ?_ _ | refine Ext.iter ?_ _ _ | refine Ext.alloc ?_ _ | refine Ext.setCell ?_ (by first | exact Nat.le_refl _ | (simp <;> omega)) _ | refine Ext.trans2 (by assumption) ?_))), ?_⟩; clear hK K; go_simp)) | (refine c3_op ho1 rfl (fun K hK => ?_); go_simp; (skip); all_goals ((with_reducible refine hK _ _ ?_); refine ⟨(by first | assumption | exact (by repeat (first | exact Ext.refl _ | assumption | refine Ext.drew ?_ | refine Ext.drewN ?_ _ | refine Ext.iter ?_ _ _ | refine Ext.alloc ?_ _ | refine Ext.setCell ?_ (by first | exact Nat.le_refl _ | (simp <;> omega)) _ | refine Ext.trans2 (by assumption) ?_))), ?_⟩; clear hK K; go_simp))
              all_goals clear ho1
              all_goals refine c3_one ?_
              all_goals first | (refine c3_op ho6 rfl (fun K hK => ?_); go_simp; ((go_at_call 36; (with_reducible refine (l27Words_c _).mono ?_); rintro e w3 ⟨⟨gw, rfl, hbw⟩, hx3⟩; have yw := hW.out _ _ hbw; have ywl := hbw.lt; have hx3b : Ext wr w3 := (by first | exact hx3 | exact (Ext.refl wr).drew.trans hx3); have z0 := (hx3b.below.cell (p := ⟨b, o + n * 6, none⟩) hbl).trans y0; have zl := Nat.lt_of_lt_of_le hbl hx3b.below.size)); all_goals ((with_reducible refine hK _ _ ?_); refine ⟨(by first | assumption | exact (by repeat (first | exact Ext.refl _ | assumption | refine Ext.drew ?_ | refine Ext.drewN ?_ _ | refine Ext.iter ?_ _ _ | refine Ext.alloc ?_ _ | refine Ext.setCell ?_ (by first | exact Nat.le_refl _ | (simp <;> omega)) _ | refine Ext.trans2 (by assumption) ?_))), ?_⟩; clear hK K; go_simp)) | (refine c3_op ho6 rfl (fun K hK => ?_); go_simp; (skip); all_goals ((with_reducible refine hK _ _ ?_); refine ⟨(by first | assumption | exact (by repeat (first | exact Ext.refl _ | assumption | refine Ext.drew ?_ | refine Ext.drewN ?_ _ | refine Ext.iter ?_ _ _ | refine Ext.alloc ?_ _ | refine Ext.setCell ?_ (by first | exact Nat.le_refl _ | (simp <;> omega)) _ | refine Ext.trans2 (by assumption) ?_))), ?_⟩; clear hK K; go_simp))
              all_goals clear ho6
              all_goals (apply c3_st ho7 rfl; (intro w2 hS; first | (go_simp; first | done | rfl) | rfl | (obtain ⟨hc', hf', hk', hz⟩ := ecell hS; go_simp; first | done | rfl)); simp only [Act.put, List.setIfInBounds_toArray, List.set_cons_zero, List.set_cons_succ])
              all_goals clear ho7
              all_goals (apply c3_st ho8 rfl; (intro w2 hS; first | (go_simp; first | done | rfl) | rfl | (obtain ⟨hc', hf', hk', hz⟩ := ecell hS; go_simp; first | done | rfl)); simp only [Act.put, List.setIfInBounds_toArray, List.set_cons_zero, List.set_cons_succ])
              all_goals clear ho8
              all_goals refine c3_one ?_
              all_goals first | (refine c3_op ho9 rfl (fun K hK => ?_); go_simp; ((go_at_call 36; (with_reducible refine (l27Words_c _).mono ?_); rintro e w3 ⟨⟨gw, rfl, hbw⟩, hx3⟩; have yw := hW.out _ _ hbw; have ywl := hbw.lt; have hx3b : Ext wr w3 := (by first | exact hx3 | exact (Ext.refl wr).drew.trans hx3); have z0 := (hx3b.below.cell (p := ⟨b, o + n * 6, none⟩) hbl).trans y0; have zl := Nat.lt_of_lt_of_le hbl hx3b.below.size)); all_goals ((with_reducible refine hK _ _ ?_); refine ⟨(by first | assumption | exact (by repeat (first | exact Ext.refl _ | assumption | refine Ext.drew ?_ | refine Ext.drewN ?_ _ | refine Ext.iter ?_ _ _ | refine Ext.alloc ?_ _ | refine Ext.setCell ?_ (by first | exact Nat.le_refl _ | (simp <;> omega)) _ | refine Ext.trans2 (by assumption) ?_))), ?_⟩; clear hK K; go_simp)) | (refine c3_op ho9 rfl (fun K hK => ?_); go_simp; (skip); all_goals ((with_reducible refine hK _ _ ?_); refine ⟨(by first | assumption | exact (by repeat (first | exact Ext.refl _ | assumption | refine Ext.drew ?_ | refine Ext.drewN ?_ _ | refine Ext.iter ?_ _ _ | refine Ext.alloc ?_ _ | refine Ext.setCell ?_ (by first | exact Nat.le_refl _ | (simp <;> omega)) _ | refine Ext.trans2 (by assumption) ?_))), ?_⟩; clear hK K; go_simp))
              all_goals clear ho9
              all_goals (apply c3_st ho10 rfl; (intro w2 hS; first | (go_simp; first | done | rfl) | rfl | (obtain ⟨hc', hf', hk', hz⟩ := ecell hS; go_simp; first | done | rfl)); simp only [Act.put, List.setIfInBounds_toArray, List.set_cons_zero, List.set_cons_succ])
              all_goals clear ho10
              all_goals (apply c3_st ho11 rfl; (intro w2 hS; first | (go_simp; first | done | rfl) | rfl | (obtain ⟨hc', hf', hk', hz⟩ := ecell hS; go_simp; first | done | rfl)); simp only [Act.put, List.setIfInBounds_toArray, List.set_cons_zero, List.set_cons_succ])
              all_goals clear ho11
              all_goals refine c3_done (NoPanic.normal ?_)
          all_goals (have hx3c : Ext wr w3 := hx3b)
          all_goals (have hO : (J ++ Wd).size ≤ 6031 := by rw [ByteArray.size_append]; omega)
          all_goals (have hJn2 := Lib.hid (show jtx Ts (n + 1) = (J ++ Wd) ++ sfx F [r1, c1, t1, w1', g1] 5 from by rw [hJn.out]; first | exact ByteArray.append_assoc.symm | exact (ByteArray.append_assoc _ _ _).symm))
          all_goals clear hJn hzW hzW2 hzJ hzB hjz2 hWs yw ywl
          all_goals generalize J ++ Wd = O1 at *
          all_goals (have z1 := (hx3c.below.cell (p := ⟨b, o + n * 6 + 1, none⟩) hbl).trans y1; have z2 := (hx3c.below.cell (p := ⟨b, o + n * 6 + 2, none⟩) hbl).trans y2; have z3 := (hx3c.below.cell (p := ⟨b, o + n * 6 + 3, none⟩) hbl).trans y3; have z4 := (hx3c.below.cell (p := ⟨b, o + n * 6 + 4, none⟩) hbl).trans y4; have z5 := (hx3c.below.cell (p := ⟨b, o + n * 6 + 5, none⟩) hbl).trans y5)
          all_goals clear y0 y1 y2 y3 y4 y5 hx3 hx3b
          all_goals (have hext3 := hext.trans hx3c)
          all_goals clear hx3c hext hbl
          · go_upto_region 10 with (fail)
            refine wp_region_canon (fun w' => Ext w3 w') [(0, true), (1, true), (2, true), (3, true), (4, true), (6, true), (7, true), (8, true), (9, true), (5, false), (10, false), (11, true), (12, true)] (by kernel_rfl) (by kernel_rfl) (by decide) (by kernel_rfl) ?_ ?_
            · exact (by repeat (first | exact Ext.refl _ | assumption | refine Ext.drew ?_ | refine Ext.drewN ?_ _ | refine Ext.iter ?_ _ _ | refine Ext.alloc ?_ _ | refine Ext.setCell ?_ (by first | exact Nat.le_refl _ | (simp <;> omega)) _ | refine Ext.trans2 (by assumption) ?_))
            refine canon_intro fun ops eo => ?_
            have ho0 := canon_at eo 0 rfl
            have ho1 := canon_at eo 1 rfl
            have ho2 := canon_at eo 2 rfl
            have ho3 := canon_at eo 3 rfl
            have ho4 := canon_at eo 4 rfl
            have ho5 := canon_at eo 5 rfl
            have ho6 := canon_at eo 6 rfl
            have ho7 := canon_at eo 7 rfl
            have ho8 := canon_at eo 8 rfl
            have ho9 := canon_at eo 9 rfl
            have ho10 := canon_at eo 10 rfl
            have ho11 := canon_at eo 11 rfl
            have ho12 := canon_at eo 12 rfl
            clear eo
            all_goals (apply canon_st ho0 rfl; (intro w2 hS; first | (go_simp; first | done | rfl) | rfl | (obtain ⟨hc', hf', hk', hz⟩ := ecell hS; go_simp; first | done | rfl)); simp only [Act.put, List.setIfInBounds_toArray, List.set_cons_zero, List.set_cons_succ])
            all_goals clear ho0
            all_goals (apply canon_st ho1 rfl; (intro w2 hS; first | (go_simp; first | done | rfl) | rfl | (obtain ⟨hc', hf', hk', hz⟩ := ecell hS; go_simp; first | done | rfl)); simp only [Act.put, List.setIfInBounds_toArray, List.set_cons_zero, List.set_cons_succ])
            all_goals clear ho1
            all_goals (apply canon_st ho2 rfl; (intro w2 hS; first | (go_simp; first | done | rfl) | rfl | (obtain ⟨hc', hf', hk', hz⟩ := ecell hS; go_simp; first | done | rfl)); simp only [Act.put, List.setIfInBounds_toArray, List.set_cons_zero, List.set_cons_succ])
            all_goals clear ho2
            all_goals (apply canon_st ho3 rfl; (intro w2 hS; first | (go_simp; first | done | rfl) | rfl | (obtain ⟨hc', hf', hk', hz⟩ := ecell hS; go_simp; first | done | rfl)); simp only [Act.put, List.setIfInBounds_toArray, List.set_cons_zero, List.set_cons_succ])
            all_goals clear ho3
            all_goals (apply canon_st ho4 rfl; (intro w2 hS; first | (go_simp; first | done | rfl) | rfl | (obtain ⟨hc', hf', hk', hz⟩ := ecell hS; go_simp; first | done | rfl)); simp only [Act.put, List.setIfInBounds_toArray, List.set_cons_zero, List.set_cons_succ])
            all_goals clear ho4
            all_goals (apply canon_st ho6 rfl; (intro w2 hS; first | (go_simp; first | done | rfl) | rfl | (obtain ⟨hc', hf', hk', hz⟩ := ecell hS; go_simp; first | done | rfl)); simp only [Act.put, List.setIfInBounds_toArray, List.set_cons_zero, List.set_cons_succ])
            all_goals clear ho6
            all_goals (apply canon_st ho7 rfl; (intro w2 hS; first | (go_simp; first | done | rfl) | rfl | (obtain ⟨hc', hf', hk', hz⟩ := ecell hS; go_simp; first | done | rfl)); simp only [Act.put, List.setIfInBounds_toArray, List.set_cons_zero, List.set_cons_succ])
            all_goals clear ho7
            all_goals (apply canon_st ho8 rfl; (intro w2 hS; first | (go_simp; first | done | rfl) | rfl | (obtain ⟨hc', hf', hk', hz⟩ := ecell hS; go_simp; first | done | rfl)); simp only [Act.put, List.setIfInBounds_toArray, List.set_cons_zero, List.set_cons_succ])
            all_goals clear ho8
            all_goals (apply canon_st ho9 rfl; (intro w2 hS; first | (go_simp; first | done | rfl) | rfl | (obtain ⟨hc', hf', hk', hz⟩ := ecell hS; go_simp; first | done | rfl)); simp only [Act.put, List.setIfInBounds_toArray, List.set_cons_zero, List.set_cons_succ])
            all_goals clear ho9
            all_goals first | (refine canon_ef ho5 rfl (fun K hK => ?_); go_simp; ((go_at_call 37; (with_reducible refine (hfd.out _).mono ?_); rintro e w4 ⟨⟨gf, rfl, hgf, hbf⟩, hx4⟩; obtain ⟨hc4, hf4, hk4, hz4⟩ := ecell hx4)); all_goals (refine hK _ _ ⟨(by first | assumption | exact (by repeat (first | exact Ext.refl _ | assumption | refine Ext.drew ?_ | refine Ext.drewN ?_ _ | refine Ext.iter ?_ _ _ | refine Ext.alloc ?_ _ | refine Ext.setCell ?_ (by first | exact Nat.le_refl _ | (simp <;> omega)) _ | refine Ext.trans2 (by assumption) ?_))), ?_⟩; clear hK K; go_simp)) | (refine canon_ef ho5 rfl (fun K hK => ?_); go_simp; ((go_at_call 38; (with_reducible refine (hls.out _).mono ?_); rintro e w5 ⟨⟨gl, rfl, hgl, hbl⟩, hx5⟩)); all_goals (refine hK _ _ ⟨(by first | assumption | exact (by repeat (first | exact Ext.refl _ | assumption | refine Ext.drew ?_ | refine Ext.drewN ?_ _ | refine Ext.iter ?_ _ _ | refine Ext.alloc ?_ _ | refine Ext.setCell ?_ (by first | exact Nat.le_refl _ | (simp <;> omega)) _ | refine Ext.trans2 (by assumption) ?_))), ?_⟩; clear hK K; go_simp))
            all_goals clear ho5
            all_goals first | (refine canon_ef ho10 rfl (fun K hK => ?_); go_simp; ((go_at_call 37; (with_reducible refine (hfd.out _).mono ?_); rintro e w4 ⟨⟨gf, rfl, hgf, hbf⟩, hx4⟩; obtain ⟨hc4, hf4, hk4, hz4⟩ := ecell hx4)); all_goals (refine hK _ _ ⟨(by first | assumption | exact (by repeat (first | exact Ext.refl _ | assumption | refine Ext.drew ?_ | refine Ext.drewN ?_ _ | refine Ext.iter ?_ _ _ | refine Ext.alloc ?_ _ | refine Ext.setCell ?_ (by first | exact Nat.le_refl _ | (simp <;> omega)) _ | refine Ext.trans2 (by assumption) ?_))), ?_⟩; clear hK K; go_simp)) | (refine canon_ef ho10 rfl (fun K hK => ?_); go_simp; ((go_at_call 38; (with_reducible refine (hls.out _).mono ?_); rintro e w5 ⟨⟨gl, rfl, hgl, hbl⟩, hx5⟩)); all_goals (refine hK _ _ ⟨(by first | assumption | exact (by repeat (first | exact Ext.refl _ | assumption | refine Ext.drew ?_ | refine Ext.drewN ?_ _ | refine Ext.iter ?_ _ _ | refine Ext.alloc ?_ _ | refine Ext.setCell ?_ (by first | exact Nat.le_refl _ | (simp <;> omega)) _ | refine Ext.trans2 (by assumption) ?_))), ?_⟩; clear hK K; go_simp))
            all_goals clear ho10
            all_goals (apply canon_st ho11 rfl; (intro w2 hS; first | (go_simp; first | done | rfl) | rfl | (obtain ⟨hc', hf', hk', hz⟩ := ecell hS; go_simp; first | done | rfl)); simp only [Act.put, List.setIfInBounds_toArray, List.set_cons_zero, List.set_cons_succ])
            all_goals clear ho11
            all_goals (apply canon_st ho12 rfl; (intro w2 hS; first | (go_simp; first | done | rfl) | rfl | (obtain ⟨hc', hf', hk', hz⟩ := ecell hS; go_simp; first | done | rfl)); simp only [Act.put, List.setIfInBounds_toArray, List.set_cons_zero, List.set_cons_succ])
            all_goals clear ho12
            all_goals refine canon_done (NoPanic.normal ?_)
            have hx35 : Ext w3 w5 := by first | exact hx4.trans hx5 | exact (Ext.refl w3).drew.trans (hx4.trans hx5)
            have hbf5 := hbf.ext hx5
            have hblL : Blk w5 gl (([r1, c1, t1, w1', g1] : List Int).map (Value.int .i64)).toArray 2 := hbl
            have hext5 := hext3.trans hx35
            clear hbf hbl hx4 hx5 hx35 hfd hls z0 z1 z2 z3 z4 z5 zl
            go_wp2_with fail
            go_loopw [3, 7] (fun o2 i wr2 => ∃ q : Nat, q ≤ 5 ∧ i = .int .i64 q ∧ o2 = .string (O1 ++ sfx F [r1, c1, t1, w1', g1] q) ∧ Ext w5 wr2) (fun _ i _ => 5 - (intOf i).toNat)
            case atStart => exact ⟨0, by decide, rfl, by rw [sfx]; simp, (by repeat (first | exact Ext.refl _ | assumption | refine Ext.drew ?_ | refine Ext.drewN ?_ _ | refine Ext.iter ?_ _ _ | refine Ext.alloc ?_ _ | refine Ext.setCell ?_ (by first | exact Nat.le_refl _ | (simp <;> omega)) _ | refine Ext.trans2 (by assumption) ?_))⟩
            case round =>
              obtain ⟨q, hq, rfl, rfl, hext6⟩ := hrel
              by_cases hq5 : q < 5
              · have y1 := blkB (hbf5.ext hext6) (i := q) (by omega)
                have y2 := blkI (hblL.ext hext6) (i := q) (by simp; omega)
                have y1l := (hbf5.ext hext6).lt
                have y2l := (hblL.ext hext6).lt
                have hq5i : (q : Int) < 5 := by omega
                have hs1 : sfx F [r1, c1, t1, w1', g1] (q + 1) = if F.getD q false = true then sfx F [r1, c1, t1, w1', g1] q ++ ⟨#[32]⟩ ++ dec (([r1, c1, t1, w1', g1] : List Int).getD q 0) else sfx F [r1, c1, t1, w1', g1] q := rfl
                have hSq := hSz.out q
                have hxq := hLb.out q
                obtain ⟨fq, hfe⟩ : ∃ fq, F.getD q false = fq := ⟨_, rfl⟩
                obtain ⟨x, hxe⟩ : ∃ x, ([r1, c1, t1, w1', g1] : List Int).getD q 0 = x := ⟨_, rfl⟩
                obtain ⟨S0, hS0⟩ : ∃ S0, sfx F [r1, c1, t1, w1', g1] q = S0 := ⟨_, rfl⟩
                rw [hfe] at y1 hs1
                rw [hxe] at y2 hs1 hxq
                rw [hS0] at hs1 hSq ⊢
                have hsg := Lib.hid (fun W => l25Signed_c x hxq.1 hxq.2 W)
                have hdz := dec_le x (by omega) (by omega)
                generalize dec x = Dx at *
                replace hs1 := Lib.hid hs1; replace hfe := Lib.hid hfe; replace hxe := Lib.hid hxe; replace hS0 := Lib.hid hS0
                have hO1 : ¬ 9223372036854775807 < (O1 ++ S0).size + 1 := by rw [ByteArray.size_append]; omega
                have hO2 : ¬ 9223372036854775807 < O1.size + S0.size + 1 := by omega
                have hO3 : ¬ 9223372036854775807 < O1.size + S0.size + 1 + Dx.size := by omega
                cases fq
                · go_wp2
                  go_roundw
                  case rel => exact ⟨q + 1, by omega, by go_num, by rw [hs1.out]; rfl, hext6⟩
                  case measure => simp [intOf]; omega
                · go_wp2_with (go_at_call 39; (with_reducible refine (hsg.out _).mono ?_); rintro e w6 ⟨rfl, hx6⟩)
                  go_roundw
                  case rel => exact ⟨q + 1, by omega, by go_num, by rw [hs1.out, if_pos trivial]; simp only [ByteArray.append_assoc], hext6.trans hx6⟩
                  case measure => simp [intOf]; omega
              · obtain rfl : q = 5 := by omega
                go_wp2
                go_roundw
                case rel => exact ⟨n + 1, hlt, by go_num, by rw [hJn2.out], hext5.trans hext6⟩
                case measure => simp [intOf]; omega
          · go_upto_region 10 with (fail)
            refine wp_region_canon (fun w' => Ext w3 w') [(0, true), (1, true), (2, true), (3, true), (4, true), (6, true), (7, true), (8, true), (9, true), (5, false), (10, false), (11, true), (12, true)] (by kernel_rfl) (by kernel_rfl) (by decide) (by kernel_rfl) ?_ ?_
            · exact (by repeat (first | exact Ext.refl _ | assumption | refine Ext.drew ?_ | refine Ext.drewN ?_ _ | refine Ext.iter ?_ _ _ | refine Ext.alloc ?_ _ | refine Ext.setCell ?_ (by first | exact Nat.le_refl _ | (simp <;> omega)) _ | refine Ext.trans2 (by assumption) ?_))
            refine canon_intro fun ops eo => ?_
            have ho0 := canon_at eo 0 rfl
            have ho1 := canon_at eo 1 rfl
            have ho2 := canon_at eo 2 rfl
            have ho3 := canon_at eo 3 rfl
            have ho4 := canon_at eo 4 rfl
            have ho5 := canon_at eo 5 rfl
            have ho6 := canon_at eo 6 rfl
            have ho7 := canon_at eo 7 rfl
            have ho8 := canon_at eo 8 rfl
            have ho9 := canon_at eo 9 rfl
            have ho10 := canon_at eo 10 rfl
            have ho11 := canon_at eo 11 rfl
            have ho12 := canon_at eo 12 rfl
            clear eo
            all_goals (apply canon_st ho0 rfl; (intro w2 hS; first | (go_simp; first | done | rfl) | rfl | (obtain ⟨hc', hf', hk', hz⟩ := ecell hS; go_simp; first | done | rfl)); simp only [Act.put, List.setIfInBounds_toArray, List.set_cons_zero, List.set_cons_succ])
            all_goals clear ho0
            all_goals (apply canon_st ho1 rfl; (intro w2 hS; first | (go_simp; first | done | rfl) | rfl | (obtain ⟨hc', hf', hk', hz⟩ := ecell hS; go_simp; first | done | rfl)); simp only [Act.put, List.setIfInBounds_toArray, List.set_cons_zero, List.set_cons_succ])
            all_goals clear ho1
            all_goals (apply canon_st ho2 rfl; (intro w2 hS; first | (go_simp; first | done | rfl) | rfl | (obtain ⟨hc', hf', hk', hz⟩ := ecell hS; go_simp; first | done | rfl)); simp only [Act.put, List.setIfInBounds_toArray, List.set_cons_zero, List.set_cons_succ])
            all_goals clear ho2
            all_goals (apply canon_st ho3 rfl; (intro w2 hS; first | (go_simp; first | done | rfl) | rfl | (obtain ⟨hc', hf', hk', hz⟩ := ecell hS; go_simp; first | done | rfl)); simp only [Act.put, List.setIfInBounds_toArray, List.set_cons_zero, List.set_cons_succ])
            all_goals clear ho3
            all_goals (apply canon_st ho4 rfl; (intro w2 hS; first | (go_simp; first | done | rfl) | rfl | (obtain ⟨hc', hf', hk', hz⟩ := ecell hS; go_simp; first | done | rfl)); simp only [Act.put, List.setIfInBounds_toArray, List.set_cons_zero, List.set_cons_succ])
            all_goals clear ho4
            all_goals (apply canon_st ho6 rfl; (intro w2 hS; first | (go_simp; first | done | rfl) | rfl | (obtain ⟨hc', hf', hk', hz⟩ := ecell hS; go_simp; first | done | rfl)); simp only [Act.put, List.setIfInBounds_toArray, List.set_cons_zero, List.set_cons_succ])
            all_goals clear ho6
            all_goals (apply canon_st ho7 rfl; (intro w2 hS; first | (go_simp; first | done | rfl) | rfl | (obtain ⟨hc', hf', hk', hz⟩ := ecell hS; go_simp; first | done | rfl)); simp only [Act.put, List.setIfInBounds_toArray, List.set_cons_zero, List.set_cons_succ])
            all_goals clear ho7
            all_goals (apply canon_st ho8 rfl; (intro w2 hS; first | (go_simp; first | done | rfl) | rfl | (obtain ⟨hc', hf', hk', hz⟩ := ecell hS; go_simp; first | done | rfl)); simp only [Act.put, List.setIfInBounds_toArray, List.set_cons_zero, List.set_cons_succ])
            all_goals clear ho8
            all_goals (apply canon_st ho9 rfl; (intro w2 hS; first | (go_simp; first | done | rfl) | rfl | (obtain ⟨hc', hf', hk', hz⟩ := ecell hS; go_simp; first | done | rfl)); simp only [Act.put, List.setIfInBounds_toArray, List.set_cons_zero, List.set_cons_succ])
            all_goals clear ho9
            all_goals first | (refine canon_ef ho5 rfl (fun K hK => ?_); go_simp; ((go_at_call 37; (with_reducible refine (hfd.out _).mono ?_); rintro e w4 ⟨⟨gf, rfl, hgf, hbf⟩, hx4⟩; obtain ⟨hc4, hf4, hk4, hz4⟩ := ecell hx4)); all_goals (refine hK _ _ ⟨(by first | assumption | exact (by repeat (first | exact Ext.refl _ | assumption | refine Ext.drew ?_ | refine Ext.drewN ?_ _ | refine Ext.iter ?_ _ _ | refine Ext.alloc ?_ _ | refine Ext.setCell ?_ (by first | exact Nat.le_refl _ | (simp <;> omega)) _ | refine Ext.trans2 (by assumption) ?_))), ?_⟩; clear hK K; go_simp)) | (refine canon_ef ho5 rfl (fun K hK => ?_); go_simp; ((go_at_call 38; (with_reducible refine (hls.out _).mono ?_); rintro e w5 ⟨⟨gl, rfl, hgl, hbl⟩, hx5⟩)); all_goals (refine hK _ _ ⟨(by first | assumption | exact (by repeat (first | exact Ext.refl _ | assumption | refine Ext.drew ?_ | refine Ext.drewN ?_ _ | refine Ext.iter ?_ _ _ | refine Ext.alloc ?_ _ | refine Ext.setCell ?_ (by first | exact Nat.le_refl _ | (simp <;> omega)) _ | refine Ext.trans2 (by assumption) ?_))), ?_⟩; clear hK K; go_simp))
            all_goals clear ho5
            all_goals first | (refine canon_ef ho10 rfl (fun K hK => ?_); go_simp; ((go_at_call 37; (with_reducible refine (hfd.out _).mono ?_); rintro e w4 ⟨⟨gf, rfl, hgf, hbf⟩, hx4⟩; obtain ⟨hc4, hf4, hk4, hz4⟩ := ecell hx4)); all_goals (refine hK _ _ ⟨(by first | assumption | exact (by repeat (first | exact Ext.refl _ | assumption | refine Ext.drew ?_ | refine Ext.drewN ?_ _ | refine Ext.iter ?_ _ _ | refine Ext.alloc ?_ _ | refine Ext.setCell ?_ (by first | exact Nat.le_refl _ | (simp <;> omega)) _ | refine Ext.trans2 (by assumption) ?_))), ?_⟩; clear hK K; go_simp)) | (refine canon_ef ho10 rfl (fun K hK => ?_); go_simp; ((go_at_call 38; (with_reducible refine (hls.out _).mono ?_); rintro e w5 ⟨⟨gl, rfl, hgl, hbl⟩, hx5⟩)); all_goals (refine hK _ _ ⟨(by first | assumption | exact (by repeat (first | exact Ext.refl _ | assumption | refine Ext.drew ?_ | refine Ext.drewN ?_ _ | refine Ext.iter ?_ _ _ | refine Ext.alloc ?_ _ | refine Ext.setCell ?_ (by first | exact Nat.le_refl _ | (simp <;> omega)) _ | refine Ext.trans2 (by assumption) ?_))), ?_⟩; clear hK K; go_simp))
            all_goals clear ho10
            all_goals (apply canon_st ho11 rfl; (intro w2 hS; first | (go_simp; first | done | rfl) | rfl | (obtain ⟨hc', hf', hk', hz⟩ := ecell hS; go_simp; first | done | rfl)); simp only [Act.put, List.setIfInBounds_toArray, List.set_cons_zero, List.set_cons_succ])
            all_goals clear ho11
            all_goals (apply canon_st ho12 rfl; (intro w2 hS; first | (go_simp; first | done | rfl) | rfl | (obtain ⟨hc', hf', hk', hz⟩ := ecell hS; go_simp; first | done | rfl)); simp only [Act.put, List.setIfInBounds_toArray, List.set_cons_zero, List.set_cons_succ])
            all_goals clear ho12
            all_goals refine canon_done (NoPanic.normal ?_)
            have hx35 : Ext w3 w5 := by first | exact hx4.trans hx5 | exact (Ext.refl w3).drew.trans (hx4.trans hx5)
            have hbf5 := hbf.ext hx5
            have hblL : Blk w5 gl (([r1, c1, t1, w1', g1] : List Int).map (Value.int .i64)).toArray 2 := hbl
            have hext5 := hext3.trans hx35
            clear hbf hbl hx4 hx5 hx35 hfd hls z0 z1 z2 z3 z4 z5 zl
            go_wp2_with fail
            go_loopw [3, 7] (fun o2 i wr2 => ∃ q : Nat, q ≤ 5 ∧ i = .int .i64 q ∧ o2 = .string (O1 ++ sfx F [r1, c1, t1, w1', g1] q) ∧ Ext w5 wr2) (fun _ i _ => 5 - (intOf i).toNat)
            case atStart => exact ⟨0, by decide, rfl, by rw [sfx]; simp, (by repeat (first | exact Ext.refl _ | assumption | refine Ext.drew ?_ | refine Ext.drewN ?_ _ | refine Ext.iter ?_ _ _ | refine Ext.alloc ?_ _ | refine Ext.setCell ?_ (by first | exact Nat.le_refl _ | (simp <;> omega)) _ | refine Ext.trans2 (by assumption) ?_))⟩
            case round =>
              obtain ⟨q, hq, rfl, rfl, hext6⟩ := hrel
              by_cases hq5 : q < 5
              · have y1 := blkB (hbf5.ext hext6) (i := q) (by omega)
                have y2 := blkI (hblL.ext hext6) (i := q) (by simp; omega)
                have y1l := (hbf5.ext hext6).lt
                have y2l := (hblL.ext hext6).lt
                have hq5i : (q : Int) < 5 := by omega
                have hs1 : sfx F [r1, c1, t1, w1', g1] (q + 1) = if F.getD q false = true then sfx F [r1, c1, t1, w1', g1] q ++ ⟨#[32]⟩ ++ dec (([r1, c1, t1, w1', g1] : List Int).getD q 0) else sfx F [r1, c1, t1, w1', g1] q := rfl
                have hSq := hSz.out q
                have hxq := hLb.out q
                obtain ⟨fq, hfe⟩ : ∃ fq, F.getD q false = fq := ⟨_, rfl⟩
                obtain ⟨x, hxe⟩ : ∃ x, ([r1, c1, t1, w1', g1] : List Int).getD q 0 = x := ⟨_, rfl⟩
                obtain ⟨S0, hS0⟩ : ∃ S0, sfx F [r1, c1, t1, w1', g1] q = S0 := ⟨_, rfl⟩
                rw [hfe] at y1 hs1
                rw [hxe] at y2 hs1 hxq
                rw [hS0] at hs1 hSq ⊢
                have hsg := Lib.hid (fun W => l25Signed_c x hxq.1 hxq.2 W)
                have hdz := dec_le x (by omega) (by omega)
                generalize dec x = Dx at *
                replace hs1 := Lib.hid hs1; replace hfe := Lib.hid hfe; replace hxe := Lib.hid hxe; replace hS0 := Lib.hid hS0
                have hO1 : ¬ 9223372036854775807 < (O1 ++ S0).size + 1 := by rw [ByteArray.size_append]; omega
                have hO2 : ¬ 9223372036854775807 < O1.size + S0.size + 1 := by omega
                have hO3 : ¬ 9223372036854775807 < O1.size + S0.size + 1 + Dx.size := by omega
                cases fq
                · go_wp2
                  go_roundw
                  case rel => exact ⟨q + 1, by omega, by go_num, by rw [hs1.out]; rfl, hext6⟩
                  case measure => simp [intOf]; omega
                · go_wp2_with (go_at_call 39; (with_reducible refine (hsg.out _).mono ?_); rintro e w6 ⟨rfl, hx6⟩)
                  go_roundw
                  case rel => exact ⟨q + 1, by omega, by go_num, by rw [hs1.out, if_pos trivial]; simp only [ByteArray.append_assoc], hext6.trans hx6⟩
                  case measure => simp [intOf]; omega
              · obtain rfl : q = 5 := by omega
                go_wp2
                go_roundw
                case rel => exact ⟨n + 1, hlt, by go_num, by rw [hJn2.out], hext5.trans hext6⟩
                case measure => simp [intOf]; omega
        skip
        · have hb0 : (0 : Int) < n := by omega
          rw [if_neg h0] at hTn1
          obtain ⟨J, hJ⟩ : ∃ J, jtx Ts n = J := ⟨_, rfl⟩
          (try rw [hJ] at hTn1)
          rw [hJ] at hjz ⊢
          have hjz2 : J.size ≤ 6020 := by omega
          have hJn := Lib.hid (show jtx Ts (n + 1) = (J ++ ⟨#[59]⟩) ++ (Wd ++ sfx F [r1, c1, t1, w1', g1] 5) from by first | exact hTn1 | (rw [hTn1, ← hJ, h0]; rfl))
          clear hTn1 hjz
          replace h0 := Lib.hid h0
          replace hJ := Lib.hid hJ
          have hzJ : ¬ 9223372036854775807 < J.size + 1 := by omega
          have hzB : ((J ++ ⟨#[59]⟩)).size ≤ 6021 := by first | omega | (rw [ByteArray.size_append]; have : (⟨#[59]⟩ : ByteArray).size = 1 := rfl; omega)
          have hzW : ¬ 9223372036854775807 < ((J ++ ⟨#[59]⟩)).size + Wd.size := by omega
          have hzW2 : ¬ 9223372036854775807 < J.size + 1 + Wd.size := by omega
          go_upto_region 9 with (fail)
          refine wp_region_c3 (fun w' => Ext wr w') (.st 0 (.st 2 (.st 3 (.st 4 (.st 5 (.two 1 (.one 6 (.st 7 (.st 8 (.one 9 (.st 10 (.st 11 .done)))))) 6 (.st 7 (.one 1 (.st 8 (.one 9 (.st 10 (.st 11 .done)))))))))))) (by kernel_rfl) (by kernel_rfl) (by decide) (by kernel_rfl) ?_ ?_
          · exact (by repeat (first | exact Ext.refl _ | assumption | refine Ext.drew ?_ | refine Ext.drewN ?_ _ | refine Ext.iter ?_ _ _ | refine Ext.alloc ?_ _ | refine Ext.setCell ?_ (by first | exact Nat.le_refl _ | (simp <;> omega)) _ | refine Ext.trans2 (by assumption) ?_))
          refine c3_intro fun ops eo => ?_
          have ho0 := canon_at eo 0 rfl
          have ho1 := canon_at eo 1 rfl
          have ho2 := canon_at eo 2 rfl
          have ho3 := canon_at eo 3 rfl
          have ho4 := canon_at eo 4 rfl
          have ho5 := canon_at eo 5 rfl
          have ho6 := canon_at eo 6 rfl
          have ho7 := canon_at eo 7 rfl
          have ho8 := canon_at eo 8 rfl
          have ho9 := canon_at eo 9 rfl
          have ho10 := canon_at eo 10 rfl
          have ho11 := canon_at eo 11 rfl
          clear eo
          all_goals (apply c3_st ho0 rfl; (intro w2 hS; first | (go_simp; first | done | rfl) | rfl | (obtain ⟨hc', hf', hk', hz⟩ := ecell hS; go_simp; first | done | rfl)); simp only [Act.put, List.setIfInBounds_toArray, List.set_cons_zero, List.set_cons_succ])
          all_goals clear ho0
          all_goals (apply c3_st ho2 rfl; (intro w2 hS; first | (go_simp; first | done | rfl) | rfl | (obtain ⟨hc', hf', hk', hz⟩ := ecell hS; go_simp; first | done | rfl)); simp only [Act.put, List.setIfInBounds_toArray, List.set_cons_zero, List.set_cons_succ])
          all_goals clear ho2
          all_goals (apply c3_st ho3 rfl; (intro w2 hS; first | (go_simp; first | done | rfl) | rfl | (obtain ⟨hc', hf', hk', hz⟩ := ecell hS; go_simp; first | done | rfl)); simp only [Act.put, List.setIfInBounds_toArray, List.set_cons_zero, List.set_cons_succ])
          all_goals clear ho3
          all_goals (apply c3_st ho4 rfl; (intro w2 hS; first | (go_simp; first | done | rfl) | rfl | (obtain ⟨hc', hf', hk', hz⟩ := ecell hS; go_simp; first | done | rfl)); simp only [Act.put, List.setIfInBounds_toArray, List.set_cons_zero, List.set_cons_succ])
          all_goals clear ho4
          all_goals (apply c3_st ho5 rfl; (intro w2 hS; first | (go_simp; first | done | rfl) | rfl | (obtain ⟨hc', hf', hk', hz⟩ := ecell hS; go_simp; first | done | rfl)); simp only [Act.put, List.setIfInBounds_toArray, List.set_cons_zero, List.set_cons_succ])
          all_goals clear ho5
          all_goals
            refine c3_two ?_ ?_
            rotate_right 1
            focus
              all_goals first | (refine c3_op ho6 rfl (fun K hK => ?_); go_simp; ((go_at_call 36; (with_reducible refine (l27Words_c _).mono ?_); rintro e w3 ⟨⟨gw, rfl, hbw⟩, hx3⟩; have yw := hW.out _ _ hbw; have ywl := hbw.lt; have hx3b : Ext wr w3 := (by first | exact hx3 | exact (Ext.refl wr).drew.trans hx3); have z0 := (hx3b.below.cell (p := ⟨b, o + n * 6, none⟩) hbl).trans y0; have zl := Nat.lt_of_lt_of_le hbl hx3b.below.size)); all_goals ((with_reducible refine hK _ _ ?_); refine ⟨(by first | assumption | exact (by repeat (first | exact Ext.refl _ | assumption | refine Ext.drew ?_ | refine Ext.drewN ?_ _ | refine Ext.iter ?_ _ _ | refine Ext.alloc ?_ _ | refine Ext.setCell ?_ (by first | exact Nat.le_refl _ | (simp <;> omega)) _ | refine Ext.trans2 (by assumption) ?_))), ?_⟩; clear hK K; go_simp)) | (refine c3_op ho6 rfl (fun K hK => ?_); go_simp; (skip); all_goals ((with_reducible refine hK _ _ ?_); refine ⟨(by first | assumption | exact (by repeat (first | exact Ext.refl _ | assumption | refine Ext.drew ?_ | refine Ext.drewN ?_ _ | refine Ext.iter ?_ _ _ | refine Ext.alloc ?_ _ | refine Ext.setCell ?_ (by first | exact Nat.le_refl _ | (simp <;> omega)) _ | refine Ext.trans2 (by assumption) ?_))), ?_⟩; clear hK K; go_simp))
              all_goals clear ho6
              all_goals (apply c3_st ho7 rfl; (intro w2 hS; first | (go_simp; first | done | rfl) | rfl | (obtain ⟨hc', hf', hk', hz⟩ := ecell hS; go_simp; first | done | rfl)); simp only [Act.put, List.setIfInBounds_toArray, List.set_cons_zero, List.set_cons_succ])
              all_goals clear ho7
              all_goals refine c3_one ?_
              all_goals first | (refine c3_op ho1 rfl (fun K hK => ?_); go_simp; ((go_at_call 36; (with_reducible refine (l27Words_c _).mono ?_); rintro e w3 ⟨⟨gw, rfl, hbw⟩, hx3⟩; have yw := hW.out _ _ hbw; have ywl := hbw.lt; have hx3b : Ext wr w3 := (by first | exact hx3 | exact (Ext.refl wr).drew.trans hx3); have z0 := (hx3b.below.cell (p := ⟨b, o + n * 6, none⟩) hbl).trans y0; have zl := Nat.lt_of_lt_of_le hbl hx3b.below.size)); all_goals ((with_reducible refine hK _ _ ?_); refine ⟨(by first | assumption | exact (by repeat (first | exact Ext.refl _ | assumption | refine Ext.drew ?_ | refine Ext.drewN ?_ _ | refine Ext.iter ?_ _ _ | refine Ext.alloc ?_ _ | refine Ext.setCell ?_ (by first | exact Nat.le_refl _ | (simp <;> omega)) _ | refine Ext.trans2 (by assumption) ?_))), ?_⟩; clear hK K; go_simp)) | (refine c3_op ho1 rfl (fun K hK => ?_); go_simp; (skip); all_goals ((with_reducible refine hK _ _ ?_); refine ⟨(by first | assumption | exact (by repeat (first | exact Ext.refl _ | assumption | refine Ext.drew ?_ | refine Ext.drewN ?_ _ | refine Ext.iter ?_ _ _ | refine Ext.alloc ?_ _ | refine Ext.setCell ?_ (by first | exact Nat.le_refl _ | (simp <;> omega)) _ | refine Ext.trans2 (by assumption) ?_))), ?_⟩; clear hK K; go_simp))
              all_goals clear ho1
              all_goals (apply c3_st ho8 rfl; (intro w2 hS; first | (go_simp; first | done | rfl) | rfl | (obtain ⟨hc', hf', hk', hz⟩ := ecell hS; go_simp; first | done | rfl)); simp only [Act.put, List.setIfInBounds_toArray, List.set_cons_zero, List.set_cons_succ])
              all_goals clear ho8
              all_goals refine c3_one ?_
              all_goals first | (refine c3_op ho9 rfl (fun K hK => ?_); go_simp; ((go_at_call 36; (with_reducible refine (l27Words_c _).mono ?_); rintro e w3 ⟨⟨gw, rfl, hbw⟩, hx3⟩; have yw := hW.out _ _ hbw; have ywl := hbw.lt; have hx3b : Ext wr w3 := (by first | exact hx3 | exact (Ext.refl wr).drew.trans hx3); have z0 := (hx3b.below.cell (p := ⟨b, o + n * 6, none⟩) hbl).trans y0; have zl := Nat.lt_of_lt_of_le hbl hx3b.below.size)); all_goals ((with_reducible refine hK _ _ ?_); refine ⟨(by first | assumption | exact (by repeat (first | exact Ext.refl _ | assumption | refine Ext.drew ?_ | refine Ext.drewN ?_ _ | refine Ext.iter ?_ _ _ | refine Ext.alloc ?_ _ | refine Ext.setCell ?_ (by first | exact Nat.le_refl _ | (simp <;> omega)) _ | refine Ext.trans2 (by assumption) ?_))), ?_⟩; clear hK K; go_simp)) | (refine c3_op ho9 rfl (fun K hK => ?_); go_simp; (skip); all_goals ((with_reducible refine hK _ _ ?_); refine ⟨(by first | assumption | exact (by repeat (first | exact Ext.refl _ | assumption | refine Ext.drew ?_ | refine Ext.drewN ?_ _ | refine Ext.iter ?_ _ _ | refine Ext.alloc ?_ _ | refine Ext.setCell ?_ (by first | exact Nat.le_refl _ | (simp <;> omega)) _ | refine Ext.trans2 (by assumption) ?_))), ?_⟩; clear hK K; go_simp))
              all_goals clear ho9
              all_goals (apply c3_st ho10 rfl; (intro w2 hS; first | (go_simp; first | done | rfl) | rfl | (obtain ⟨hc', hf', hk', hz⟩ := ecell hS; go_simp; first | done | rfl)); simp only [Act.put, List.setIfInBounds_toArray, List.set_cons_zero, List.set_cons_succ])
              all_goals clear ho10
              all_goals (apply c3_st ho11 rfl; (intro w2 hS; first | (go_simp; first | done | rfl) | rfl | (obtain ⟨hc', hf', hk', hz⟩ := ecell hS; go_simp; first | done | rfl)); simp only [Act.put, List.setIfInBounds_toArray, List.set_cons_zero, List.set_cons_succ])
              all_goals clear ho11
              all_goals refine c3_done (NoPanic.normal ?_)
            rotate_right 1
            focus
              all_goals first | (refine c3_op ho1 rfl (fun K hK => ?_); go_simp; ((go_at_call 36; (with_reducible refine (l27Words_c _).mono ?_); rintro e w3 ⟨⟨gw, rfl, hbw⟩, hx3⟩; have yw := hW.out _ _ hbw; have ywl := hbw.lt; have hx3b : Ext wr w3 := (by first | exact hx3 | exact (Ext.refl wr).drew.trans hx3); have z0 := (hx3b.below.cell (p := ⟨b, o + n * 6, none⟩) hbl).trans y0; have zl := Nat.lt_of_lt_of_le hbl hx3b.below.size)); all_goals ((with_reducible refine hK _ _ ?_); refine ⟨(by first | assumption | exact (by repeat (first | exact Ext.refl _ | assumption | refine Ext.drew ?_ | refine Ext.drewN ?_ _ | refine Ext.iter ?_ _ _ | refine Ext.alloc ?_ _ | refine Ext.setCell ?_ (by first | exact Nat.le_refl _ | (simp <;> omega)) _ | refine Ext.trans2 (by assumption) ?_))), ?_⟩; clear hK K; go_simp)) | (refine c3_op ho1 rfl (fun K hK => ?_); go_simp; (skip); all_goals ((with_reducible refine hK _ _ ?_); refine ⟨(by first | assumption | exact (by repeat (first | exact Ext.refl _ | assumption | refine Ext.drew ?_ | refine Ext.drewN ?_ _ | refine Ext.iter ?_ _ _ | refine Ext.alloc ?_ _ | refine Ext.setCell ?_ (by first | exact Nat.le_refl _ | (simp <;> omega)) _ | refine Ext.trans2 (by assumption) ?_))), ?_⟩; clear hK K; go_simp))
              all_goals clear ho1
              all_goals refine c3_one ?_
              all_goals first | (refine c3_op ho6 rfl (fun K hK => ?_); go_simp; ((go_at_call 36; (with_reducible refine (l27Words_c _).mono ?_); rintro e w3 ⟨⟨gw, rfl, hbw⟩, hx3⟩; have yw := hW.out _ _ hbw; have ywl := hbw.lt; have hx3b : Ext wr w3 := (by first | exact hx3 | exact (Ext.refl wr).drew.trans hx3); have z0 := (hx3b.below.cell (p := ⟨b, o + n * 6, none⟩) hbl).trans y0; have zl := Nat.lt_of_lt_of_le hbl hx3b.below.size)); all_goals ((with_reducible refine hK _ _ ?_); refine ⟨(by first | assumption | exact (by repeat (first | exact Ext.refl _ | assumption | refine Ext.drew ?_ | refine Ext.drewN ?_ _ | refine Ext.iter ?_ _ _ | refine Ext.alloc ?_ _ | refine Ext.setCell ?_ (by first | exact Nat.le_refl _ | (simp <;> omega)) _ | refine Ext.trans2 (by assumption) ?_))), ?_⟩; clear hK K; go_simp)) | (refine c3_op ho6 rfl (fun K hK => ?_); go_simp; (skip); all_goals ((with_reducible refine hK _ _ ?_); refine ⟨(by first | assumption | exact (by repeat (first | exact Ext.refl _ | assumption | refine Ext.drew ?_ | refine Ext.drewN ?_ _ | refine Ext.iter ?_ _ _ | refine Ext.alloc ?_ _ | refine Ext.setCell ?_ (by first | exact Nat.le_refl _ | (simp <;> omega)) _ | refine Ext.trans2 (by assumption) ?_))), ?_⟩; clear hK K; go_simp))
              all_goals clear ho6
              all_goals (apply c3_st ho7 rfl; (intro w2 hS; first | (go_simp; first | done | rfl) | rfl | (obtain ⟨hc', hf', hk', hz⟩ := ecell hS; go_simp; first | done | rfl)); simp only [Act.put, List.setIfInBounds_toArray, List.set_cons_zero, List.set_cons_succ])
              all_goals clear ho7
              all_goals (apply c3_st ho8 rfl; (intro w2 hS; first | (go_simp; first | done | rfl) | rfl | (obtain ⟨hc', hf', hk', hz⟩ := ecell hS; go_simp; first | done | rfl)); simp only [Act.put, List.setIfInBounds_toArray, List.set_cons_zero, List.set_cons_succ])
              all_goals clear ho8
              all_goals refine c3_one ?_
              all_goals first | (refine c3_op ho9 rfl (fun K hK => ?_); go_simp; ((go_at_call 36; (with_reducible refine (l27Words_c _).mono ?_); rintro e w3 ⟨⟨gw, rfl, hbw⟩, hx3⟩; have yw := hW.out _ _ hbw; have ywl := hbw.lt; have hx3b : Ext wr w3 := (by first | exact hx3 | exact (Ext.refl wr).drew.trans hx3); have z0 := (hx3b.below.cell (p := ⟨b, o + n * 6, none⟩) hbl).trans y0; have zl := Nat.lt_of_lt_of_le hbl hx3b.below.size)); all_goals ((with_reducible refine hK _ _ ?_); refine ⟨(by first | assumption | exact (by repeat (first | exact Ext.refl _ | assumption | refine Ext.drew ?_ | refine Ext.drewN ?_ _ | refine Ext.iter ?_ _ _ | refine Ext.alloc ?_ _ | refine Ext.setCell ?_ (by first | exact Nat.le_refl _ | (simp <;> omega)) _ | refine Ext.trans2 (by assumption) ?_))), ?_⟩; clear hK K; go_simp)) | (refine c3_op ho9 rfl (fun K hK => ?_); go_simp; (skip); all_goals ((with_reducible refine hK _ _ ?_); refine ⟨(by first | assumption | exact (by repeat (first | exact Ext.refl _ | assumption | refine Ext.drew ?_ | refine Ext.drewN ?_ _ | refine Ext.iter ?_ _ _ | refine Ext.alloc ?_ _ | refine Ext.setCell ?_ (by first | exact Nat.le_refl _ | (simp <;> omega)) _ | refine Ext.trans2 (by assumption) ?_))), ?_⟩; clear hK K; go_simp))
              all_goals clear ho9
              all_goals (apply c3_st ho10 rfl; (intro w2 hS; first | (go_simp; first | done | rfl) | rfl | (obtain ⟨hc', hf', hk', hz⟩ := ecell hS; go_simp; first | done | rfl)); simp only [Act.put, List.setIfInBounds_toArray, List.set_cons_zero, List.set_cons_succ])
              all_goals clear ho10
              all_goals (apply c3_st ho11 rfl; (intro w2 hS; first | (go_simp; first | done | rfl) | rfl | (obtain ⟨hc', hf', hk', hz⟩ := ecell hS; go_simp; first | done | rfl)); simp only [Act.put, List.setIfInBounds_toArray, List.set_cons_zero, List.set_cons_succ])
              all_goals clear ho11
              all_goals refine c3_done (NoPanic.normal ?_)
          all_goals (have hx3c : Ext wr w3 := hx3b)
          all_goals (have hO : ((J ++ ⟨#[59]⟩) ++ Wd).size ≤ 6031 := by rw [ByteArray.size_append]; omega)
          all_goals (have hJn2 := Lib.hid (show jtx Ts (n + 1) = ((J ++ ⟨#[59]⟩) ++ Wd) ++ sfx F [r1, c1, t1, w1', g1] 5 from by rw [hJn.out]; first | exact ByteArray.append_assoc.symm | exact (ByteArray.append_assoc _ _ _).symm))
          all_goals clear hJn hzW hzW2 hzJ hzB hjz2 hWs yw ywl
          all_goals generalize (J ++ ⟨#[59]⟩) ++ Wd = O1 at *
          all_goals (have z1 := (hx3c.below.cell (p := ⟨b, o + n * 6 + 1, none⟩) hbl).trans y1; have z2 := (hx3c.below.cell (p := ⟨b, o + n * 6 + 2, none⟩) hbl).trans y2; have z3 := (hx3c.below.cell (p := ⟨b, o + n * 6 + 3, none⟩) hbl).trans y3; have z4 := (hx3c.below.cell (p := ⟨b, o + n * 6 + 4, none⟩) hbl).trans y4; have z5 := (hx3c.below.cell (p := ⟨b, o + n * 6 + 5, none⟩) hbl).trans y5)
          all_goals clear y0 y1 y2 y3 y4 y5 hx3 hx3b
          all_goals (have hext3 := hext.trans hx3c)
          all_goals clear hx3c hext hbl
          · go_upto_region 10 with (fail)
            refine wp_region_canon (fun w' => Ext w3 w') [(0, true), (1, true), (2, true), (3, true), (4, true), (6, true), (7, true), (8, true), (9, true), (5, false), (10, false), (11, true), (12, true)] (by kernel_rfl) (by kernel_rfl) (by decide) (by kernel_rfl) ?_ ?_
            · exact (by repeat (first | exact Ext.refl _ | assumption | refine Ext.drew ?_ | refine Ext.drewN ?_ _ | refine Ext.iter ?_ _ _ | refine Ext.alloc ?_ _ | refine Ext.setCell ?_ (by first | exact Nat.le_refl _ | (simp <;> omega)) _ | refine Ext.trans2 (by assumption) ?_))
            refine canon_intro fun ops eo => ?_
            have ho0 := canon_at eo 0 rfl
            have ho1 := canon_at eo 1 rfl
            have ho2 := canon_at eo 2 rfl
            have ho3 := canon_at eo 3 rfl
            have ho4 := canon_at eo 4 rfl
            have ho5 := canon_at eo 5 rfl
            have ho6 := canon_at eo 6 rfl
            have ho7 := canon_at eo 7 rfl
            have ho8 := canon_at eo 8 rfl
            have ho9 := canon_at eo 9 rfl
            have ho10 := canon_at eo 10 rfl
            have ho11 := canon_at eo 11 rfl
            have ho12 := canon_at eo 12 rfl
            clear eo
            all_goals (apply canon_st ho0 rfl; (intro w2 hS; first | (go_simp; first | done | rfl) | rfl | (obtain ⟨hc', hf', hk', hz⟩ := ecell hS; go_simp; first | done | rfl)); simp only [Act.put, List.setIfInBounds_toArray, List.set_cons_zero, List.set_cons_succ])
            all_goals clear ho0
            all_goals (apply canon_st ho1 rfl; (intro w2 hS; first | (go_simp; first | done | rfl) | rfl | (obtain ⟨hc', hf', hk', hz⟩ := ecell hS; go_simp; first | done | rfl)); simp only [Act.put, List.setIfInBounds_toArray, List.set_cons_zero, List.set_cons_succ])
            all_goals clear ho1
            all_goals (apply canon_st ho2 rfl; (intro w2 hS; first | (go_simp; first | done | rfl) | rfl | (obtain ⟨hc', hf', hk', hz⟩ := ecell hS; go_simp; first | done | rfl)); simp only [Act.put, List.setIfInBounds_toArray, List.set_cons_zero, List.set_cons_succ])
            all_goals clear ho2
            all_goals (apply canon_st ho3 rfl; (intro w2 hS; first | (go_simp; first | done | rfl) | rfl | (obtain ⟨hc', hf', hk', hz⟩ := ecell hS; go_simp; first | done | rfl)); simp only [Act.put, List.setIfInBounds_toArray, List.set_cons_zero, List.set_cons_succ])
            all_goals clear ho3
            all_goals (apply canon_st ho4 rfl; (intro w2 hS; first | (go_simp; first | done | rfl) | rfl | (obtain ⟨hc', hf', hk', hz⟩ := ecell hS; go_simp; first | done | rfl)); simp only [Act.put, List.setIfInBounds_toArray, List.set_cons_zero, List.set_cons_succ])
            all_goals clear ho4
            all_goals (apply canon_st ho6 rfl; (intro w2 hS; first | (go_simp; first | done | rfl) | rfl | (obtain ⟨hc', hf', hk', hz⟩ := ecell hS; go_simp; first | done | rfl)); simp only [Act.put, List.setIfInBounds_toArray, List.set_cons_zero, List.set_cons_succ])
            all_goals clear ho6
            all_goals (apply canon_st ho7 rfl; (intro w2 hS; first | (go_simp; first | done | rfl) | rfl | (obtain ⟨hc', hf', hk', hz⟩ := ecell hS; go_simp; first | done | rfl)); simp only [Act.put, List.setIfInBounds_toArray, List.set_cons_zero, List.set_cons_succ])
            all_goals clear ho7
            all_goals (apply canon_st ho8 rfl; (intro w2 hS; first | (go_simp; first | done | rfl) | rfl | (obtain ⟨hc', hf', hk', hz⟩ := ecell hS; go_simp; first | done | rfl)); simp only [Act.put, List.setIfInBounds_toArray, List.set_cons_zero, List.set_cons_succ])
            all_goals clear ho8
            all_goals (apply canon_st ho9 rfl; (intro w2 hS; first | (go_simp; first | done | rfl) | rfl | (obtain ⟨hc', hf', hk', hz⟩ := ecell hS; go_simp; first | done | rfl)); simp only [Act.put, List.setIfInBounds_toArray, List.set_cons_zero, List.set_cons_succ])
            all_goals clear ho9
            all_goals first | (refine canon_ef ho5 rfl (fun K hK => ?_); go_simp; ((go_at_call 37; (with_reducible refine (hfd.out _).mono ?_); rintro e w4 ⟨⟨gf, rfl, hgf, hbf⟩, hx4⟩; obtain ⟨hc4, hf4, hk4, hz4⟩ := ecell hx4)); all_goals (refine hK _ _ ⟨(by first | assumption | exact (by repeat (first | exact Ext.refl _ | assumption | refine Ext.drew ?_ | refine Ext.drewN ?_ _ | refine Ext.iter ?_ _ _ | refine Ext.alloc ?_ _ | refine Ext.setCell ?_ (by first | exact Nat.le_refl _ | (simp <;> omega)) _ | refine Ext.trans2 (by assumption) ?_))), ?_⟩; clear hK K; go_simp)) | (refine canon_ef ho5 rfl (fun K hK => ?_); go_simp; ((go_at_call 38; (with_reducible refine (hls.out _).mono ?_); rintro e w5 ⟨⟨gl, rfl, hgl, hbl⟩, hx5⟩)); all_goals (refine hK _ _ ⟨(by first | assumption | exact (by repeat (first | exact Ext.refl _ | assumption | refine Ext.drew ?_ | refine Ext.drewN ?_ _ | refine Ext.iter ?_ _ _ | refine Ext.alloc ?_ _ | refine Ext.setCell ?_ (by first | exact Nat.le_refl _ | (simp <;> omega)) _ | refine Ext.trans2 (by assumption) ?_))), ?_⟩; clear hK K; go_simp))
            all_goals clear ho5
            all_goals first | (refine canon_ef ho10 rfl (fun K hK => ?_); go_simp; ((go_at_call 37; (with_reducible refine (hfd.out _).mono ?_); rintro e w4 ⟨⟨gf, rfl, hgf, hbf⟩, hx4⟩; obtain ⟨hc4, hf4, hk4, hz4⟩ := ecell hx4)); all_goals (refine hK _ _ ⟨(by first | assumption | exact (by repeat (first | exact Ext.refl _ | assumption | refine Ext.drew ?_ | refine Ext.drewN ?_ _ | refine Ext.iter ?_ _ _ | refine Ext.alloc ?_ _ | refine Ext.setCell ?_ (by first | exact Nat.le_refl _ | (simp <;> omega)) _ | refine Ext.trans2 (by assumption) ?_))), ?_⟩; clear hK K; go_simp)) | (refine canon_ef ho10 rfl (fun K hK => ?_); go_simp; ((go_at_call 38; (with_reducible refine (hls.out _).mono ?_); rintro e w5 ⟨⟨gl, rfl, hgl, hbl⟩, hx5⟩)); all_goals (refine hK _ _ ⟨(by first | assumption | exact (by repeat (first | exact Ext.refl _ | assumption | refine Ext.drew ?_ | refine Ext.drewN ?_ _ | refine Ext.iter ?_ _ _ | refine Ext.alloc ?_ _ | refine Ext.setCell ?_ (by first | exact Nat.le_refl _ | (simp <;> omega)) _ | refine Ext.trans2 (by assumption) ?_))), ?_⟩; clear hK K; go_simp))
            all_goals clear ho10
            all_goals (apply canon_st ho11 rfl; (intro w2 hS; first | (go_simp; first | done | rfl) | rfl | (obtain ⟨hc', hf', hk', hz⟩ := ecell hS; go_simp; first | done | rfl)); simp only [Act.put, List.setIfInBounds_toArray, List.set_cons_zero, List.set_cons_succ])
            all_goals clear ho11
            all_goals (apply canon_st ho12 rfl; (intro w2 hS; first | (go_simp; first | done | rfl) | rfl | (obtain ⟨hc', hf', hk', hz⟩ := ecell hS; go_simp; first | done | rfl)); simp only [Act.put, List.setIfInBounds_toArray, List.set_cons_zero, List.set_cons_succ])
            all_goals clear ho12
            all_goals refine canon_done (NoPanic.normal ?_)
            have hx35 : Ext w3 w5 := by first | exact hx4.trans hx5 | exact (Ext.refl w3).drew.trans (hx4.trans hx5)
            have hbf5 := hbf.ext hx5
            have hblL : Blk w5 gl (([r1, c1, t1, w1', g1] : List Int).map (Value.int .i64)).toArray 2 := hbl
            have hext5 := hext3.trans hx35
            clear hbf hbl hx4 hx5 hx35 hfd hls z0 z1 z2 z3 z4 z5 zl
            go_wp2_with fail
            go_loopw [3, 7] (fun o2 i wr2 => ∃ q : Nat, q ≤ 5 ∧ i = .int .i64 q ∧ o2 = .string (O1 ++ sfx F [r1, c1, t1, w1', g1] q) ∧ Ext w5 wr2) (fun _ i _ => 5 - (intOf i).toNat)
            case atStart => exact ⟨0, by decide, rfl, by rw [sfx]; simp, (by repeat (first | exact Ext.refl _ | assumption | refine Ext.drew ?_ | refine Ext.drewN ?_ _ | refine Ext.iter ?_ _ _ | refine Ext.alloc ?_ _ | refine Ext.setCell ?_ (by first | exact Nat.le_refl _ | (simp <;> omega)) _ | refine Ext.trans2 (by assumption) ?_))⟩
            case round =>
              obtain ⟨q, hq, rfl, rfl, hext6⟩ := hrel
              by_cases hq5 : q < 5
              · have y1 := blkB (hbf5.ext hext6) (i := q) (by omega)
                have y2 := blkI (hblL.ext hext6) (i := q) (by simp; omega)
                have y1l := (hbf5.ext hext6).lt
                have y2l := (hblL.ext hext6).lt
                have hq5i : (q : Int) < 5 := by omega
                have hs1 : sfx F [r1, c1, t1, w1', g1] (q + 1) = if F.getD q false = true then sfx F [r1, c1, t1, w1', g1] q ++ ⟨#[32]⟩ ++ dec (([r1, c1, t1, w1', g1] : List Int).getD q 0) else sfx F [r1, c1, t1, w1', g1] q := rfl
                have hSq := hSz.out q
                have hxq := hLb.out q
                obtain ⟨fq, hfe⟩ : ∃ fq, F.getD q false = fq := ⟨_, rfl⟩
                obtain ⟨x, hxe⟩ : ∃ x, ([r1, c1, t1, w1', g1] : List Int).getD q 0 = x := ⟨_, rfl⟩
                obtain ⟨S0, hS0⟩ : ∃ S0, sfx F [r1, c1, t1, w1', g1] q = S0 := ⟨_, rfl⟩
                rw [hfe] at y1 hs1
                rw [hxe] at y2 hs1 hxq
                rw [hS0] at hs1 hSq ⊢
                have hsg := Lib.hid (fun W => l25Signed_c x hxq.1 hxq.2 W)
                have hdz := dec_le x (by omega) (by omega)
                generalize dec x = Dx at *
                replace hs1 := Lib.hid hs1; replace hfe := Lib.hid hfe; replace hxe := Lib.hid hxe; replace hS0 := Lib.hid hS0
                have hO1 : ¬ 9223372036854775807 < (O1 ++ S0).size + 1 := by rw [ByteArray.size_append]; omega
                have hO2 : ¬ 9223372036854775807 < O1.size + S0.size + 1 := by omega
                have hO3 : ¬ 9223372036854775807 < O1.size + S0.size + 1 + Dx.size := by omega
                cases fq
                · go_wp2
                  go_roundw
                  case rel => exact ⟨q + 1, by omega, by go_num, by rw [hs1.out]; rfl, hext6⟩
                  case measure => simp [intOf]; omega
                · go_wp2_with (go_at_call 39; (with_reducible refine (hsg.out _).mono ?_); rintro e w6 ⟨rfl, hx6⟩)
                  go_roundw
                  case rel => exact ⟨q + 1, by omega, by go_num, by rw [hs1.out, if_pos trivial]; simp only [ByteArray.append_assoc], hext6.trans hx6⟩
                  case measure => simp [intOf]; omega
              · obtain rfl : q = 5 := by omega
                go_wp2
                go_roundw
                case rel => exact ⟨n + 1, hlt, by go_num, by rw [hJn2.out], hext5.trans hext6⟩
                case measure => simp [intOf]; omega
          · go_upto_region 10 with (fail)
            refine wp_region_canon (fun w' => Ext w3 w') [(0, true), (1, true), (2, true), (3, true), (4, true), (6, true), (7, true), (8, true), (9, true), (5, false), (10, false), (11, true), (12, true)] (by kernel_rfl) (by kernel_rfl) (by decide) (by kernel_rfl) ?_ ?_
            · exact (by repeat (first | exact Ext.refl _ | assumption | refine Ext.drew ?_ | refine Ext.drewN ?_ _ | refine Ext.iter ?_ _ _ | refine Ext.alloc ?_ _ | refine Ext.setCell ?_ (by first | exact Nat.le_refl _ | (simp <;> omega)) _ | refine Ext.trans2 (by assumption) ?_))
            refine canon_intro fun ops eo => ?_
            have ho0 := canon_at eo 0 rfl
            have ho1 := canon_at eo 1 rfl
            have ho2 := canon_at eo 2 rfl
            have ho3 := canon_at eo 3 rfl
            have ho4 := canon_at eo 4 rfl
            have ho5 := canon_at eo 5 rfl
            have ho6 := canon_at eo 6 rfl
            have ho7 := canon_at eo 7 rfl
            have ho8 := canon_at eo 8 rfl
            have ho9 := canon_at eo 9 rfl
            have ho10 := canon_at eo 10 rfl
            have ho11 := canon_at eo 11 rfl
            have ho12 := canon_at eo 12 rfl
            clear eo
            all_goals (apply canon_st ho0 rfl; (intro w2 hS; first | (go_simp; first | done | rfl) | rfl | (obtain ⟨hc', hf', hk', hz⟩ := ecell hS; go_simp; first | done | rfl)); simp only [Act.put, List.setIfInBounds_toArray, List.set_cons_zero, List.set_cons_succ])
            all_goals clear ho0
            all_goals (apply canon_st ho1 rfl; (intro w2 hS; first | (go_simp; first | done | rfl) | rfl | (obtain ⟨hc', hf', hk', hz⟩ := ecell hS; go_simp; first | done | rfl)); simp only [Act.put, List.setIfInBounds_toArray, List.set_cons_zero, List.set_cons_succ])
            all_goals clear ho1
            all_goals (apply canon_st ho2 rfl; (intro w2 hS; first | (go_simp; first | done | rfl) | rfl | (obtain ⟨hc', hf', hk', hz⟩ := ecell hS; go_simp; first | done | rfl)); simp only [Act.put, List.setIfInBounds_toArray, List.set_cons_zero, List.set_cons_succ])
            all_goals clear ho2
            all_goals (apply canon_st ho3 rfl; (intro w2 hS; first | (go_simp; first | done | rfl) | rfl | (obtain ⟨hc', hf', hk', hz⟩ := ecell hS; go_simp; first | done | rfl)); simp only [Act.put, List.setIfInBounds_toArray, List.set_cons_zero, List.set_cons_succ])
            all_goals clear ho3
            all_goals (apply canon_st ho4 rfl; (intro w2 hS; first | (go_simp; first | done | rfl) | rfl | (obtain ⟨hc', hf', hk', hz⟩ := ecell hS; go_simp; first | done | rfl)); simp only [Act.put, List.setIfInBounds_toArray, List.set_cons_zero, List.set_cons_succ])
            all_goals clear ho4
            all_goals (apply canon_st ho6 rfl; (intro w2 hS; first | (go_simp; first | done | rfl) | rfl | (obtain ⟨hc', hf', hk', hz⟩ := ecell hS; go_simp; first | done | rfl)); simp only [Act.put, List.setIfInBounds_toArray, List.set_cons_zero, List.set_cons_succ])
            all_goals clear ho6
            all_goals (apply canon_st ho7 rfl; (intro w2 hS; first | (go_simp; first | done | rfl) | rfl | (obtain ⟨hc', hf', hk', hz⟩ := ecell hS; go_simp; first | done | rfl)); simp only [Act.put, List.setIfInBounds_toArray, List.set_cons_zero, List.set_cons_succ])
            all_goals clear ho7
            all_goals (apply canon_st ho8 rfl; (intro w2 hS; first | (go_simp; first | done | rfl) | rfl | (obtain ⟨hc', hf', hk', hz⟩ := ecell hS; go_simp; first | done | rfl)); simp only [Act.put, List.setIfInBounds_toArray, List.set_cons_zero, List.set_cons_succ])
            all_goals clear ho8
            all_goals (apply canon_st ho9 rfl; (intro w2 hS; first | (go_simp; first | done | rfl) | rfl | (obtain ⟨hc', hf', hk', hz⟩ := ecell hS; go_simp; first | done | rfl)); simp only [Act.put, List.setIfInBounds_toArray, List.set_cons_zero, List.set_cons_succ])
            all_goals clear ho9
            all_goals first | (refine canon_ef ho5 rfl (fun K hK => ?_); go_simp; ((go_at_call 37; (with_reducible refine (hfd.out _).mono ?_); rintro e w4 ⟨⟨gf, rfl, hgf, hbf⟩, hx4⟩; obtain ⟨hc4, hf4, hk4, hz4⟩ := ecell hx4)); all_goals (refine hK _ _ ⟨(by first | assumption | exact (by repeat (first | exact Ext.refl _ | assumption | refine Ext.drew ?_ | refine Ext.drewN ?_ _ | refine Ext.iter ?_ _ _ | refine Ext.alloc ?_ _ | refine Ext.setCell ?_ (by first | exact Nat.le_refl _ | (simp <;> omega)) _ | refine Ext.trans2 (by assumption) ?_))), ?_⟩; clear hK K; go_simp)) | (refine canon_ef ho5 rfl (fun K hK => ?_); go_simp; ((go_at_call 38; (with_reducible refine (hls.out _).mono ?_); rintro e w5 ⟨⟨gl, rfl, hgl, hbl⟩, hx5⟩)); all_goals (refine hK _ _ ⟨(by first | assumption | exact (by repeat (first | exact Ext.refl _ | assumption | refine Ext.drew ?_ | refine Ext.drewN ?_ _ | refine Ext.iter ?_ _ _ | refine Ext.alloc ?_ _ | refine Ext.setCell ?_ (by first | exact Nat.le_refl _ | (simp <;> omega)) _ | refine Ext.trans2 (by assumption) ?_))), ?_⟩; clear hK K; go_simp))
            all_goals clear ho5
            all_goals first | (refine canon_ef ho10 rfl (fun K hK => ?_); go_simp; ((go_at_call 37; (with_reducible refine (hfd.out _).mono ?_); rintro e w4 ⟨⟨gf, rfl, hgf, hbf⟩, hx4⟩; obtain ⟨hc4, hf4, hk4, hz4⟩ := ecell hx4)); all_goals (refine hK _ _ ⟨(by first | assumption | exact (by repeat (first | exact Ext.refl _ | assumption | refine Ext.drew ?_ | refine Ext.drewN ?_ _ | refine Ext.iter ?_ _ _ | refine Ext.alloc ?_ _ | refine Ext.setCell ?_ (by first | exact Nat.le_refl _ | (simp <;> omega)) _ | refine Ext.trans2 (by assumption) ?_))), ?_⟩; clear hK K; go_simp)) | (refine canon_ef ho10 rfl (fun K hK => ?_); go_simp; ((go_at_call 38; (with_reducible refine (hls.out _).mono ?_); rintro e w5 ⟨⟨gl, rfl, hgl, hbl⟩, hx5⟩)); all_goals (refine hK _ _ ⟨(by first | assumption | exact (by repeat (first | exact Ext.refl _ | assumption | refine Ext.drew ?_ | refine Ext.drewN ?_ _ | refine Ext.iter ?_ _ _ | refine Ext.alloc ?_ _ | refine Ext.setCell ?_ (by first | exact Nat.le_refl _ | (simp <;> omega)) _ | refine Ext.trans2 (by assumption) ?_))), ?_⟩; clear hK K; go_simp))
            all_goals clear ho10
            all_goals (apply canon_st ho11 rfl; (intro w2 hS; first | (go_simp; first | done | rfl) | rfl | (obtain ⟨hc', hf', hk', hz⟩ := ecell hS; go_simp; first | done | rfl)); simp only [Act.put, List.setIfInBounds_toArray, List.set_cons_zero, List.set_cons_succ])
            all_goals clear ho11
            all_goals (apply canon_st ho12 rfl; (intro w2 hS; first | (go_simp; first | done | rfl) | rfl | (obtain ⟨hc', hf', hk', hz⟩ := ecell hS; go_simp; first | done | rfl)); simp only [Act.put, List.setIfInBounds_toArray, List.set_cons_zero, List.set_cons_succ])
            all_goals clear ho12
            all_goals refine canon_done (NoPanic.normal ?_)
            have hx35 : Ext w3 w5 := by first | exact hx4.trans hx5 | exact (Ext.refl w3).drew.trans (hx4.trans hx5)
            have hbf5 := hbf.ext hx5
            have hblL : Blk w5 gl (([r1, c1, t1, w1', g1] : List Int).map (Value.int .i64)).toArray 2 := hbl
            have hext5 := hext3.trans hx35
            clear hbf hbl hx4 hx5 hx35 hfd hls z0 z1 z2 z3 z4 z5 zl
            go_wp2_with fail
            go_loopw [3, 7] (fun o2 i wr2 => ∃ q : Nat, q ≤ 5 ∧ i = .int .i64 q ∧ o2 = .string (O1 ++ sfx F [r1, c1, t1, w1', g1] q) ∧ Ext w5 wr2) (fun _ i _ => 5 - (intOf i).toNat)
            case atStart => exact ⟨0, by decide, rfl, by rw [sfx]; simp, (by repeat (first | exact Ext.refl _ | assumption | refine Ext.drew ?_ | refine Ext.drewN ?_ _ | refine Ext.iter ?_ _ _ | refine Ext.alloc ?_ _ | refine Ext.setCell ?_ (by first | exact Nat.le_refl _ | (simp <;> omega)) _ | refine Ext.trans2 (by assumption) ?_))⟩
            case round =>
              obtain ⟨q, hq, rfl, rfl, hext6⟩ := hrel
              by_cases hq5 : q < 5
              · have y1 := blkB (hbf5.ext hext6) (i := q) (by omega)
                have y2 := blkI (hblL.ext hext6) (i := q) (by simp; omega)
                have y1l := (hbf5.ext hext6).lt
                have y2l := (hblL.ext hext6).lt
                have hq5i : (q : Int) < 5 := by omega
                have hs1 : sfx F [r1, c1, t1, w1', g1] (q + 1) = if F.getD q false = true then sfx F [r1, c1, t1, w1', g1] q ++ ⟨#[32]⟩ ++ dec (([r1, c1, t1, w1', g1] : List Int).getD q 0) else sfx F [r1, c1, t1, w1', g1] q := rfl
                have hSq := hSz.out q
                have hxq := hLb.out q
                obtain ⟨fq, hfe⟩ : ∃ fq, F.getD q false = fq := ⟨_, rfl⟩
                obtain ⟨x, hxe⟩ : ∃ x, ([r1, c1, t1, w1', g1] : List Int).getD q 0 = x := ⟨_, rfl⟩
                obtain ⟨S0, hS0⟩ : ∃ S0, sfx F [r1, c1, t1, w1', g1] q = S0 := ⟨_, rfl⟩
                rw [hfe] at y1 hs1
                rw [hxe] at y2 hs1 hxq
                rw [hS0] at hs1 hSq ⊢
                have hsg := Lib.hid (fun W => l25Signed_c x hxq.1 hxq.2 W)
                have hdz := dec_le x (by omega) (by omega)
                generalize dec x = Dx at *
                replace hs1 := Lib.hid hs1; replace hfe := Lib.hid hfe; replace hxe := Lib.hid hxe; replace hS0 := Lib.hid hS0
                have hO1 : ¬ 9223372036854775807 < (O1 ++ S0).size + 1 := by rw [ByteArray.size_append]; omega
                have hO2 : ¬ 9223372036854775807 < O1.size + S0.size + 1 := by omega
                have hO3 : ¬ 9223372036854775807 < O1.size + S0.size + 1 + Dx.size := by omega
                cases fq
                · go_wp2
                  go_roundw
                  case rel => exact ⟨q + 1, by omega, by go_num, by rw [hs1.out]; rfl, hext6⟩
                  case measure => simp [intOf]; omega
                · go_wp2_with (go_at_call 39; (with_reducible refine (hsg.out _).mono ?_); rintro e w6 ⟨rfl, hx6⟩)
                  go_roundw
                  case rel => exact ⟨q + 1, by omega, by go_num, by rw [hs1.out, if_pos trivial]; simp only [ByteArray.append_assoc], hext6.trans hx6⟩
                  case measure => simp [intOf]; omega
              · obtain rfl : q = 5 := by omega
                go_wp2
                go_roundw
                case rel => exact ⟨n + 1, hlt, by go_num, by rw [hJn2.out], hext5.trans hext6⟩
                case measure => simp [intOf]; omega
      · obtain rfl : n = xs.length := by omega
        go_wp2
        go_ret
        exact ⟨by rw [hV.out]; rfl, hext⟩
  · have hVe : V = ByteArray.empty := by rw [← hV, if_neg (fun h => hc0 (by rw [← hC]; exact codeV_0.2 h))]
    subst hVe
    clear hV hC
    have hcb : (C != 0) = true := by simpa using hc0
    go_enter Tryd.func8, Tryd.ntmps8
    go_wp2_with (go_at_call 35; (with_reducible refine (hcd.out _ HX.out).mono ?_); rintro e w1 ⟨rfl, hx1⟩)
    go_ret
    exact ⟨rfl, hx1⟩
end Go.Proofs.YthpnkcamjcohgaaDoor
