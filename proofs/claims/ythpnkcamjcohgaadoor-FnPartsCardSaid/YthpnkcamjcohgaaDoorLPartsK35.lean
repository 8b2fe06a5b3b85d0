/- Joined parts, the program's side. -/
import Derived.Test.YthpnkcamjcohgaaDoorLPartsK34
import Derived.Test.YthpnkcamjcohgaaDoorLPartsK01
import Derived.StringKeys
/-! Joined parts, the program's side. -/
namespace Go.Proofs.YthpnkcamjcohgaaDoor
set_option linter.unusedVariables false
set_option linter.unusedSimpArgs false
open Go.RowKit Go.MapKept Go.ChangeMaps Go.Maps

def eStr (s : ByteArray) : Value := .string s
theorem eStr_inj : ∀ x y : ByteArray, eStr x = eStr y → x = y := fun x y h => by unfold eStr at h; injection h
theorem But.grownZ {m : Nat} {a b c : World} (h : But m a b) (hg : b.grownBy c (some m)) : But m a c :=
  ⟨hg.os.trans h.os, hg.tape.trans h.tape, hg.output.trans h.output, Nat.le_trans h.size hg.size, fun i hi hne => (hg.block i (Nat.lt_of_lt_of_le hi h.size) (by simpa using hne)).trans (h.block i hi hne)⟩
theorem RowB.butZ {B g : Nat} {w w' : World} {v : Value} {s : ByteArray} (h : RowB B w v s) (hb : But g w w') (hg : g < B) : RowB B w' v s := by
  refine ⟨h.1, ?_⟩
  rcases h.2 with h2 | ⟨b, cap, cur, hv, hB, hh, r⟩
  · exact .inl h2
  · exact .inr ⟨b, cap, cur, hv, hB, by rw [hb.block b (Array.getElem?_eq_some_iff.1 hh).1 (by omega)]; exact hh, r⟩
theorem keyK (i : Nat) : keyOf Tryd.prog 9 (eStr (keyB i)) = some (.string (keyB i).data.toList) := Go.WideMaps.keyOf_string_mk Tryd.underlying9 (by show 1 ≤ maxLen; unfold maxLen; omega)
set_option maxHeartbeats 1600000 in
set_option maxRecDepth 100000 in
theorem joinParts_c {σ : Nat → Nat} {m n : Nat} {y : Int} {L : List ByteArray} {xs : List Pt} (h : PS σ m n y L xs) (hfull : m = n → ∀ i, i < n → ∃ q, q < m ∧ σ q = i) (hpar : m = n → par (catB L) = y ∧ (catB L).size ≤ 400) (V : ByteArray) (code : Int) (hV : m = n → V = catB L ∧ code = 0) (hV' : m ≠ n → V = ByteArray.empty ∧ code = 5) (p : Option Addr) (c : Nat) (w : World) (hx : SAt ptF 4 w p xs) :
    Calls Tryd.prog 16 #[.slice p m c] w fun e w' => e = .returned (.tuple #[.string V, .int .i64 code]) ∧ Ext w w' := by
  have HX := Lib.hid hx; have HP := Lib.hid h
  have h1 := h.m1; have h2 := h.mn; have h3 := h.n8
  obtain ⟨b, o, rfl, hbl, x0, x1, x2, x3⟩ := h.four hx (show 0 < m from h1)
  have hpc := Lib.hid (fun W hW => partsCode_c h (some ⟨b, o, none⟩) c W hW)
  clear hx h x0 x3
  have hq : ∀ j, j < m → (b < w.heap.size ∧ w.cell? ⟨b, o + j * 4, none⟩ = some (.int .i64 (σ j)) ∧ w.cell? ⟨b, o + j * 4 + 1, none⟩ = some (.int .i64 n) ∧ w.cell? ⟨b, o + j * 4 + 2, none⟩ = some (.int .i64 y) ∧ w.cell? ⟨b, o + j * 4 + 3, none⟩ = some (.string (L.getD (σ j) ByteArray.empty))) := fun j hj => by
    obtain ⟨b', o', e, h⟩ := HP.out.four HX.out hj
    simp only [Option.some.injEq, Addr.mk.injEq, and_true] at e
    obtain ⟨rfl, rfl⟩ := e
    exact h
  have HQ := Lib.hid hq; clear hq
  have hσ := Lib.hid (fun j hj => (HP.out.at_ j hj).2)
  replace hfull := Lib.hid hfull; replace hpar := Lib.hid hpar; replace hV := Lib.hid hV; replace hV' := Lib.hid hV'
  have KS := string_keyed Tryd.underlying9
  have hmm := @run_makeMap Tryd.prog
  have hzz : ∀ W, (zeroValue 9).run Tryd.prog W = .ok (.string ⟨#[]⟩) W := fun _ => by kernel_rfl
  replace hzz := Lib.hid hzz
  go_enter Tryd.func16, Tryd.ntmps16
  go_wp2_with (go_at_call 61; (with_reducible refine (hpc.out _ HX.out).mono ?_); rintro e w1 ⟨rfl, hx1⟩)
  clear hpc
  have hM := MapZ.made (k := 9) (E := eStr) w1
  have hx2 : Ext w (w1.alloc (.map #[] 0)) := hx1.alloc _
  have hgw := hx1.below.size
  generalize w1.alloc (.map #[] 0) = w2 at *
  generalize w1.heap.size = g at *
  go_loopw [19] (fun i wr => ∃ j : Nat, j ≤ m ∧ i = .int .i64 j ∧ MapZ 9 eStr wr g j j (fJ σ L j) ∧ But g w wr) (fun i _ => m - (intOf i).toNat)
  case atStart => exact ⟨0, Nat.zero_le _, rfl, hM, But.of hx2⟩
  case round =>
    clear hM hx2
    obtain ⟨j, hj, rfl, hM, hE⟩ := hrel
    have hgl := hM.lt
    by_cases hlt : j < m
    · have hji : (j : Int) < m := by omega
      obtain ⟨-, y0, y1, y2, y3⟩ := HQ.out j hlt
      replace y0 := ((bucell hE).1 b _ hbl (by omega)).trans y0; replace y1 := ((bucell hE).1 b _ hbl (by omega)).trans y1; replace y2 := ((bucell hE).1 b _ hbl (by omega)).trans y2; replace y3 := ((bucell hE).1 b _ hbl (by omega)).trans y3
      have hbw : b < wr.heap.size := Nat.lt_of_lt_of_le hbl hE.size
      have hσj := hσ.out j hlt
      have hfm := Lib.hid (fJ_miss (σ := σ) (L := L) (j := j) (i := σ j) (by omega) (fun q hq => ⟨by have := hσ.out q (by omega); omega, fun e => by have := HP.out.inj q j (by omega) hlt e; omega⟩))
      obtain ⟨sj, hsj⟩ : ∃ sj, σ j = sj := ⟨_, rfl⟩
      have hfs : Hid (fJ σ L (j + 1) = fun z => if z = keyB sj then some (.string (L.getD sj ByteArray.empty)) else fJ σ L j z) := Lib.hid (by rw [← hsj]; rfl)
      rw [hsj] at y0 y3 hσj hfm
      clear hsj
      generalize fJ σ L j = F at *
      generalize L.getD sj ByteArray.empty = T at *
      have hsm := Lib.hid (fun W => small_c sj (by omega) W)
      clear x1 x2
      go_upto_region 8 with fail
      have hN := Blk.new wr #[.int .i64 sj, .int .i64 n, .int .i64 y, .string T] 39
      have hMN := hM.ext ((Ext.refl wr).alloc (.cells #[.int .i64 sj, .int .i64 n, .int .i64 y, .string T] 39))
      have hEN : But g w (wr.alloc (.cells #[.int .i64 sj, .int .i64 n, .int .i64 y, .string T] 39)) := hE.trans (But.of ((Ext.refl wr).alloc _))
      clear y0 y1 y2 y3 hbw hM hE
      generalize wr.alloc (.cells #[.int .i64 sj, .int .i64 n, .int .i64 y, .string T] 39) = wN at *
      generalize wr.heap.size = gN at *
      have hgn : ¬ gN = g := by omega
      have q0 := hN.cell (i := 0) (v := .int .i64 sj) rfl; have q1 := hN.cell (i := 1) (v := .int .i64 n) rfl; have q2 := hN.cell (i := 2) (v := .int .i64 y) rfl; have q3 := hN.cell (i := 3) (v := .string T) rfl; have ql := hN.lt
      refine wp_region_canon (fun w' => But g wN w') [(0, true), (1, true), (2, true), (4, true), (5, true), (3, false), (6, false)] (by kernel_rfl) (by kernel_rfl) (by decide) (by kernel_rfl) ?_ ?_
      · exact But.of (by repeat (first | exact Ext.refl _ | assumption | refine Ext.drew ?_ | refine Ext.drewN ?_ _ | refine Ext.iter ?_ _ _ | refine Ext.alloc ?_ _ | refine Ext.setCell ?_ (by first | exact Nat.le_refl _ | (simp <;> omega)) _ | refine Ext.trans2 (by assumption) ?_))
      refine canon_intro fun ops eo => ?_
      have ho0 := canon_at eo 0 rfl
      have ho1 := canon_at eo 1 rfl
      have ho2 := canon_at eo 2 rfl
      have ho3 := canon_at eo 3 rfl
      have ho4 := canon_at eo 4 rfl
      have ho5 := canon_at eo 5 rfl
      have ho6 := canon_at eo 6 rfl
      clear eo
      all_goals (apply canon_st ho0 rfl; (intro w2 hS; first | (go_simp; first | done | rfl) | rfl | (obtain ⟨hc, hf, hk, hz⟩ := bucell hS; go_simp; first | done | rfl)); simp only [Act.put, List.setIfInBounds_toArray, List.set_cons_zero, List.set_cons_succ])
      all_goals clear ho0
      all_goals (apply canon_st ho1 rfl; (intro w2 hS; first | (go_simp; first | done | rfl) | rfl | (obtain ⟨hc, hf, hk, hz⟩ := bucell hS; go_simp; first | done | rfl)); simp only [Act.put, List.setIfInBounds_toArray, List.set_cons_zero, List.set_cons_succ])
      all_goals clear ho1
      all_goals (apply canon_st ho2 rfl; (intro w2 hS; first | (go_simp; first | done | rfl) | rfl | (obtain ⟨hc, hf, hk, hz⟩ := bucell hS; go_simp; first | done | rfl)); simp only [Act.put, List.setIfInBounds_toArray, List.set_cons_zero, List.set_cons_succ])
      all_goals clear ho2
      all_goals (apply canon_st ho4 rfl; (intro w2 hS; first | (go_simp; first | done | rfl) | rfl | (obtain ⟨hc, hf, hk, hz⟩ := bucell hS; go_simp; first | done | rfl)); simp only [Act.put, List.setIfInBounds_toArray, List.set_cons_zero, List.set_cons_succ])
      all_goals clear ho4
      all_goals (apply canon_st ho5 rfl; (intro w2 hS; first | (go_simp; first | done | rfl) | rfl | (obtain ⟨hc, hf, hk, hz⟩ := bucell hS; go_simp; first | done | rfl)); simp only [Act.put, List.setIfInBounds_toArray, List.set_cons_zero, List.set_cons_succ])
      all_goals clear ho5
      all_goals first | (refine canon_ef ho3 rfl (fun K hK => ?_); go_simp; ((go_at_call 62; (with_reducible refine (hsm.out _).mono ?_); rintro e w3 ⟨rfl, rfl⟩)); all_goals (refine hK _ _ ⟨(by first | assumption | exact But.of (by repeat (first | exact Ext.refl _ | assumption | refine Ext.drew ?_ | refine Ext.drewN ?_ _ | refine Ext.iter ?_ _ _ | refine Ext.alloc ?_ _ | refine Ext.setCell ?_ (by first | exact Nat.le_refl _ | (simp <;> omega)) _ | refine Ext.trans2 (by assumption) ?_))), ?_⟩; clear hK K; go_simp)) | (refine canon_ef ho3 rfl (fun K hK => ?_); (refine op_putZ (t := 106) (e := 9) eStr_inj (hMN.ext (by repeat (first | exact Ext.refl _ | assumption | refine Ext.drew ?_ | refine Ext.drewN ?_ _ | refine Ext.iter ?_ _ _ | refine Ext.alloc ?_ _ | refine Ext.setCell ?_ (by first | exact Nat.le_refl _ | (simp <;> omega)) _ | refine Ext.trans2 (by assumption) ?_))) KS Tryd.underlying106 (by omega) (keyK sj) hfm.out ?_ rfl rfl rfl; intro w5 hM5 hg5; have hb5 : But g wN w5 := (But.of (by repeat (first | exact Ext.refl _ | assumption | refine Ext.drew ?_ | refine Ext.drewN ?_ _ | refine Ext.iter ?_ _ _ | refine Ext.alloc ?_ _ | refine Ext.setCell ?_ (by first | exact Nat.le_refl _ | (simp <;> omega)) _ | refine Ext.trans2 (by assumption) ?_))).grownZ hg5; clear hg5); all_goals (refine hK _ _ ⟨(by first | assumption | exact But.of (by repeat (first | exact Ext.refl _ | assumption | refine Ext.drew ?_ | refine Ext.drewN ?_ _ | refine Ext.iter ?_ _ _ | refine Ext.alloc ?_ _ | refine Ext.setCell ?_ (by first | exact Nat.le_refl _ | (simp <;> omega)) _ | refine Ext.trans2 (by assumption) ?_))), ?_⟩; clear hK K; go_simp))
      all_goals clear ho3
      all_goals first | (refine canon_ef ho6 rfl (fun K hK => ?_); go_simp; ((go_at_call 62; (with_reducible refine (hsm.out _).mono ?_); rintro e w3 ⟨rfl, rfl⟩)); all_goals (refine hK _ _ ⟨(by first | assumption | exact But.of (by repeat (first | exact Ext.refl _ | assumption | refine Ext.drew ?_ | refine Ext.drewN ?_ _ | refine Ext.iter ?_ _ _ | refine Ext.alloc ?_ _ | refine Ext.setCell ?_ (by first | exact Nat.le_refl _ | (simp <;> omega)) _ | refine Ext.trans2 (by assumption) ?_))), ?_⟩; clear hK K; go_simp)) | (refine canon_ef ho6 rfl (fun K hK => ?_); (refine op_putZ (t := 106) (e := 9) eStr_inj (hMN.ext (by repeat (first | exact Ext.refl _ | assumption | refine Ext.drew ?_ | refine Ext.drewN ?_ _ | refine Ext.iter ?_ _ _ | refine Ext.alloc ?_ _ | refine Ext.setCell ?_ (by first | exact Nat.le_refl _ | (simp <;> omega)) _ | refine Ext.trans2 (by assumption) ?_))) KS Tryd.underlying106 (by omega) (keyK sj) hfm.out ?_ rfl rfl rfl; intro w5 hM5 hg5; have hb5 : But g wN w5 := (But.of (by repeat (first | exact Ext.refl _ | assumption | refine Ext.drew ?_ | refine Ext.drewN ?_ _ | refine Ext.iter ?_ _ _ | refine Ext.alloc ?_ _ | refine Ext.setCell ?_ (by first | exact Nat.le_refl _ | (simp <;> omega)) _ | refine Ext.trans2 (by assumption) ?_))).grownZ hg5; clear hg5); all_goals (refine hK _ _ ⟨(by first | assumption | exact But.of (by repeat (first | exact Ext.refl _ | assumption | refine Ext.drew ?_ | refine Ext.drewN ?_ _ | refine Ext.iter ?_ _ _ | refine Ext.alloc ?_ _ | refine Ext.setCell ?_ (by first | exact Nat.le_refl _ | (simp <;> omega)) _ | refine Ext.trans2 (by assumption) ?_))), ?_⟩; clear hK K; go_simp))
      all_goals clear ho6
      all_goals refine canon_done (NoPanic.normal ?_)
      go_wp2
      go_roundw
      case rel => exact ⟨j + 1, hlt, by go_num, by rw [hfs.out]; exact hM5, hEN.trans hb5⟩
      case measure => simp [intOf]; omega
    · obtain rfl : j = m := by omega
      clear hlt hj
      have hE' : Ext w wr := (Ext.refl w).but hE hgw
      replace x1 := ((ecell hE').1 b _ hbl).trans x1; replace x2 := ((ecell hE').1 b _ hbl).trans x2
      have hbw := (ecell hE').2.2.1 b hbl
      have h0j : (0 : Int) < j := by omega
      have hln := fun ty => hM.len Tryd.underlying106 ty
      by_cases hjn : j = n
      · subst hjn
        obtain ⟨hVe, rfl⟩ := hV.out rfl
        replace hVe := Lib.hid hVe
        have hF0 := Lib.hid (fun i (hi : i < j) => (show fJ σ L j (keyB i) = some (.string (L.getD i ByteArray.empty)) from by
          obtain ⟨q, hq, rfl⟩ := hfull.out rfl i hi
          exact fJ_hit hq fun q' hq' => by have := hσ.out q' hq'; omega))
        have hsz := (hpar.out rfl).2
        have hpv := Lib.hid (hpar.out rfl).1
        have hLn := HP.out.Ln
        replace hLn := Lib.hid hLn
        go_wp2_with fail
        clear hln
        go_loopw [8, 47] (fun out i wx => ∃ (q N s : Nat) (F : ByteArray → Option Value), q ≤ j ∧ i = .int .i64 q ∧ RowB (g + 1) wx out (catB (L.take q)) ∧ MapZ 9 eStr wx g N s F ∧ Hid (∀ r, q ≤ r → r < j → F (keyB r) = some (.string (L.getD r ByteArray.empty))) ∧ Ext w wx) (fun _ i _ => j - (intOf i).toNat)
        case atStart => exact ⟨0, _, _, _, Nat.zero_le _, rfl, RowB.made (by have := hM.lt; omega), hM.ext (by repeat (first | exact Ext.refl _ | assumption | refine Ext.drew ?_ | refine Ext.drewN ?_ _ | refine Ext.iter ?_ _ _ | refine Ext.alloc ?_ _ | refine Ext.setCell ?_ (by first | exact Nat.le_refl _ | (simp <;> omega)) _ | refine Ext.trans2 (by assumption) ?_)), Lib.hid (fun r _ hr => hF0.out r hr), hE'.alloc _⟩
        case round =>
          clear hM hE hE' x1 x2 hbw
          obtain ⟨q, N, s, F, hq, rfl, hown, hM, hF, hE⟩ := hrel
          have hgl := hM.lt
          by_cases hlt : q < j
          · have hqi : (q : Int) < j := by omega
            have hfq := Lib.hid (hF.out q (Nat.le_refl _) hlt)
            have hit := Lib.hid (fun W => itoa_c q (by omega) W)
            have hct := Lib.hid (catB_take (L := L) (k := q) (by rw [hLn.out]; exact hlt))
            have hcs := catB_size L q
            have hts : (L.getD q ByteArray.empty).size ≤ 400 := by
              rw [List.getD_eq_getElem?_getD]
              cases hg : L[q]? with
              | none => show ByteArray.empty.size ≤ 400; decide
              | some x => exact HP.out.Ls x (List.mem_of_getElem? hg)
            have hfr := Lib.hid (fun (F' : ByteArray → Option Value) (hF' : F' = fun z => if z = keyB q then none else F z) r (h1 : q + 1 ≤ r) (h2 : r < j) => (show F' (keyB r) = some (.string (L.getD r ByteArray.empty)) from by
              rw [hF', show (fun z => if z = keyB q then none else F z) (keyB r) = F (keyB r) from if_neg (fun e => by have := keyB_inj (by omega) (by omega) e; omega)]
              exact hF.out r (by omega) h2))
            generalize catB (L.take q) = CT at *
            generalize L.getD q ByteArray.empty = T at *
            go_wp2_with (first
              | (go_at_call 63; (with_reducible refine (hit.out _).mono ?_); rintro e w3 ⟨rfl, rfl⟩)
              | (refine wp_lookZ (t := 106) (e := 9) hM KS Tryd.underlying106 (hzz.out _) (keyK q) hfq.out ?_ rfl rfl)
              | (at_builtin; refine appendSB (t := T) hown (by omega) (by omega) ?_ rfl rfl; intro v1 w4 hown1 hb1; have hM1 := hM.low hb1 (Nat.lt_succ_self g))
              | (refine wp_dropZ (t := 106) (e := 9) eStr_inj hM1 KS Tryd.underlying106 (keyK q) ?_ rfl rfl; intro w5 s' hM5 hs5 hg5; have hb5 : But g w4 w5 := (But.refl _ _).grownZ hg5; clear hg5))
            go_roundw
            case rel => exact ⟨q + 1, _, _, _, hlt, by go_num, by rw [hct.out]; exact hown1.butZ hb5 (Nat.lt_succ_self g), hM5, Lib.hid (hfr.out _ rfl), (hE.trans3 (hb1.mono (by omega))).but hb5 hgw⟩
            case measure => simp [intOf]; omega
          · obtain rfl : q = j := by omega
            have hLt : L.take q = L := List.take_of_length_le (by rw [hLn.out]; exact Nat.le_refl _)
            rw [hLt] at hown
            clear hLt
            have h0n : 0 < q := by omega
            obtain ⟨-, -, z1, z2, -⟩ := HQ.out 0 (by omega)
            replace z2 := ((ecell hE).1 b _ hbl).trans z2
            have hbw := (ecell hE).2.2.1 b hbl
            have hip := Lib.hid (fun W => iParity_c (catB L) W (by omega))
            rw [hpv.out] at hip
            have hcv := Lib.hid (fun W (hx : Ext wr W) => (hown.ext hx).conv)
            obtain ⟨p2, c2, rfl⟩ := hown.slice
            have hcv0 := hcv.out wr (Ext.refl _)
            have hszi : ¬ (400 : Int) < (catB L).size := by omega
            clear hown hM
            generalize catB L = CT at *
            go_wp2_with fail
            refine wp_region_canon (fun w' => Ext wr w') [(0, true), (1, true), (3, true), (4, true), (5, true), (6, true), (2, false), (7, true)] (by kernel_rfl) (by kernel_rfl) (by decide) (by kernel_rfl) ?_ ?_
            · exact (by repeat (first | exact Ext.refl _ | assumption | refine Ext.drew ?_ | refine Ext.drewN ?_ _ | refine Ext.iter ?_ _ _ | refine Ext.alloc ?_ _ | refine Ext.setCell ?_ (by first | exact Nat.le_refl _ | (simp <;> omega)) _ | refine Ext.trans2 (by assumption) ?_))
            refine canon_intro fun ops eo => ?_
            have ho0 := canon_at eo 0 rfl
            have ho1 := canon_at eo 1 rfl
            have ho2 := canon_at eo 2 rfl
            have ho3 := canon_at eo 3 rfl
            have ho4 := canon_at eo 4 rfl
            have ho5 := canon_at eo 5 rfl
            have ho6 := canon_at eo 6 rfl
            have ho7 := canon_at eo 7 rfl
            clear eo
            all_goals (apply canon_st ho0 rfl; (intro w2 hS; first | (go_simp; first | done | rfl) | rfl | (obtain ⟨hc, hf, hk, hz⟩ := ecell hS; have hcv2 := hcv.out _ hS; go_simp; first | done | rfl)); simp only [Act.put, List.setIfInBounds_toArray, List.set_cons_zero, List.set_cons_succ])
            all_goals clear ho0
            all_goals (apply canon_st ho1 rfl; (intro w2 hS; first | (go_simp; first | done | rfl) | rfl | (obtain ⟨hc, hf, hk, hz⟩ := ecell hS; have hcv2 := hcv.out _ hS; go_simp; first | done | rfl)); simp only [Act.put, List.setIfInBounds_toArray, List.set_cons_zero, List.set_cons_succ])
            all_goals clear ho1
            all_goals (apply canon_st ho3 rfl; (intro w2 hS; first | (go_simp; first | done | rfl) | rfl | (obtain ⟨hc, hf, hk, hz⟩ := ecell hS; have hcv2 := hcv.out _ hS; go_simp; first | done | rfl)); simp only [Act.put, List.setIfInBounds_toArray, List.set_cons_zero, List.set_cons_succ])
            all_goals clear ho3
            all_goals (apply canon_st ho4 rfl; (intro w2 hS; first | (go_simp; first | done | rfl) | rfl | (obtain ⟨hc, hf, hk, hz⟩ := ecell hS; have hcv2 := hcv.out _ hS; go_simp; first | done | rfl)); simp only [Act.put, List.setIfInBounds_toArray, List.set_cons_zero, List.set_cons_succ])
            all_goals clear ho4
            all_goals (apply canon_st ho5 rfl; (intro w2 hS; first | (go_simp; first | done | rfl) | rfl | (obtain ⟨hc, hf, hk, hz⟩ := ecell hS; have hcv2 := hcv.out _ hS; go_simp; first | done | rfl)); simp only [Act.put, List.setIfInBounds_toArray, List.set_cons_zero, List.set_cons_succ])
            all_goals clear ho5
            all_goals (apply canon_st ho6 rfl; (intro w2 hS; first | (go_simp; first | done | rfl) | rfl | (obtain ⟨hc, hf, hk, hz⟩ := ecell hS; have hcv2 := hcv.out _ hS; go_simp; first | done | rfl)); simp only [Act.put, List.setIfInBounds_toArray, List.set_cons_zero, List.set_cons_succ])
            all_goals clear ho6
            all_goals first | (refine canon_ef ho2 rfl (fun K hK => ?_); go_simp; ((go_at_call 55; (with_reducible refine (hip.out _).mono ?_); rintro e w3 ⟨rfl, hx3⟩)); all_goals (refine hK _ _ ⟨(by repeat (first | exact Ext.refl _ | assumption | refine Ext.drew ?_ | refine Ext.drewN ?_ _ | refine Ext.iter ?_ _ _ | refine Ext.alloc ?_ _ | refine Ext.setCell ?_ (by first | exact Nat.le_refl _ | (simp <;> omega)) _ | refine Ext.trans2 (by assumption) ?_)), ?_⟩; clear hK K; go_simp))
            all_goals clear ho2
            all_goals (apply canon_st ho7 rfl; (intro w2 hS; first | (go_simp; first | done | rfl) | rfl | (obtain ⟨hc, hf, hk, hz⟩ := ecell hS; have hcv2 := hcv.out _ hS; go_simp; first | done | rfl)); simp only [Act.put, List.setIfInBounds_toArray, List.set_cons_zero, List.set_cons_succ])
            all_goals clear ho7
            all_goals refine canon_done (NoPanic.normal ?_)
            have hx4 : Ext wr w3 := (by first | assumption | exact (by repeat (first | exact Ext.refl _ | assumption | refine Ext.drew ?_ | refine Ext.drewN ?_ _ | refine Ext.iter ?_ _ _ | refine Ext.alloc ?_ _ | refine Ext.setCell ?_ (by first | exact Nat.le_refl _ | (simp <;> omega)) _ | refine Ext.trans2 (by assumption) ?_)))
            have hcv3 := hcv.out _ hx4
            go_wp2
            go_ret2
            exact ⟨by rw [hVe.out] <;> rfl, hE.trans hx4⟩
      · have hjb : ((j : Int) != n) = true := by simp; omega
        obtain ⟨rfl, rfl⟩ := hV'.out hjn
        go_wp2
        go_ret2
        exact ⟨rfl, hE'⟩
end Go.Proofs.YthpnkcamjcohgaaDoor
