/- Joined parts and missing parts, the program's side. -/
import Derived.Test.YthpnkcamjcohgaaDoorLPartsK31
import Derived.Test.YthpnkcamjcohgaaDoorLPartsK23
import Derived.Test.YthpnkcamjcohgaaDoorLPartsK24
import Derived.Test.YthpnkcamjcohgaaDoorLPartsK33
import Derived.Deep.DeepCutAuto
/-! Joined parts and missing parts, the program's side. -/
namespace Go.Proofs.YthpnkcamjcohgaaDoor
set_option linter.unusedVariables false
set_option linter.unusedSimpArgs false
open Go.RowKit

theorem small_c (i : Nat) (hi : i < 8) (w : World) : Calls Tryd.prog 62 #[.int .i64 i, .int .i64 10] w fun e w' => e = .returned (.string (keyB i)) ∧ w' = w := by
  refine (Tryd.strconv_FormatInt_10_small i (by omega) w).mono ?_
  rintro e w' ⟨rfl, rfl⟩
  have h := dec_small i (by omega)
  unfold dec at h
  rw [Lib.itoa_nonneg] at h
  rw [h]
  exact ⟨rfl, rfl⟩
theorem small2_c (i : Nat) (hi : i < 8) (w : World) : Calls Tryd.prog 104 #[.int .i64 i, .int .i64 10] w fun e w' => e = .returned (.string (keyB i)) ∧ w' = w := by
  refine (Any.internal_strconv_FormatInt_10_small { Tryd.lays173 with } i (by omega) w).mono ?_
  rintro e w' ⟨rfl, rfl⟩
  have h := dec_small i (by omega)
  unfold dec at h
  rw [Lib.itoa_nonneg] at h
  rw [h]
  exact ⟨rfl, rfl⟩
set_option maxRecDepth 100000 in
theorem itoa2_c (i : Nat) (hi : i < 8) (w : World) : Calls Tryd.prog 105 #[.int .i64 i] w fun e w' => e = .returned (.string (keyB i)) ∧ w' = w := by
  go_enter Tryd.func105, Tryd.ntmps105
  go_wp2_with (go_at_call 104; refine (small2_c i hi _).mono ?_; rintro e w' ⟨rfl, rfl⟩)
  go_ret
  exact ⟨rfl, rfl⟩
set_option maxRecDepth 100000 in
theorem itoa_c (i : Nat) (hi : i < 8) (w : World) : Calls Tryd.prog 63 #[.int .i64 i] w fun e w' => e = .returned (.string (keyB i)) ∧ w' = w := by
  go_enter Tryd.func63, Tryd.ntmps63
  go_wp2_with (go_at_call 105; refine (itoa2_c i hi _).mono ?_; rintro e w' ⟨rfl, rfl⟩)
  go_ret
  exact ⟨rfl, rfl⟩
theorem PS.four {σ : Nat → Nat} {m n : Nat} {y : Int} {L : List ByteArray} {xs : List Pt} {w : World} {p : Option Addr} (h : PS σ m n y L xs) (hx : SAt ptF 4 w p xs) {j : Nat} (hj : j < m) :
    ∃ b o, p = some ⟨b, o, none⟩ ∧ b < w.heap.size ∧ w.cell? ⟨b, o + j * 4, none⟩ = some (.int .i64 (σ j)) ∧ w.cell? ⟨b, o + j * 4 + 1, none⟩ = some (.int .i64 n) ∧ w.cell? ⟨b, o + j * 4 + 2, none⟩ = some (.int .i64 y) ∧ w.cell? ⟨b, o + j * 4 + 3, none⟩ = some (.string (L.getD (σ j) ByteArray.empty)) := by
  have hl : j < xs.length := by rw [h.len]; exact hj
  have hg := (h.at_ j hj).1
  rw [List.getElem?_eq_getElem hl, Option.some.injEq] at hg
  exact SAt.four hx hl (by rw [hg]; rfl)
set_option maxHeartbeats 800000 in
set_option maxRecDepth 100000 in
theorem partsCode_c {σ : Nat → Nat} {m n : Nat} {y : Int} {L : List ByteArray} {xs : List Pt} (h : PS σ m n y L xs) (p : Option Addr) (c : Nat) (w : World) (hx : SAt ptF 4 w p xs) :
    Calls Tryd.prog 61 #[.slice p m c] w fun e w' => e = .returned (.int .i64 0) ∧ Ext w w' := by
  have HX := Lib.hid hx; have HP := Lib.hid h
  have h1 := h.m1; have h2 := h.mn; have h3 := h.n8; have h4 := h.par
  obtain ⟨b, o, rfl, hbl, x0, x1, x2, x3⟩ := h.four hx (show 0 < m from h1)
  clear hx h
  have hq : ∀ j, j < m → (b < w.heap.size ∧ w.cell? ⟨b, o + j * 4, none⟩ = some (.int .i64 (σ j)) ∧ w.cell? ⟨b, o + j * 4 + 1, none⟩ = some (.int .i64 n) ∧ w.cell? ⟨b, o + j * 4 + 2, none⟩ = some (.int .i64 y) ∧ w.cell? ⟨b, o + j * 4 + 3, none⟩ = some (.string (L.getD (σ j) ByteArray.empty))) := fun j hj => by
    obtain ⟨b', o', e, h⟩ := HP.out.four HX.out hj
    simp only [Option.some.injEq, Addr.mk.injEq, and_true] at e
    obtain ⟨rfl, rfl⟩ := e
    exact h
  have HQ := Lib.hid hq; clear hq x3
  have hsz : ∀ j, (L.getD j ByteArray.empty).size ≤ 400 := fun j => by
    rw [List.getD_eq_getElem?_getD]
    cases hg : L[j]? with
    | none => show ByteArray.empty.size ≤ 400; decide
    | some x => exact HP.out.Ls x (List.mem_of_getElem? hg)
  have HS := Lib.hid hsz; clear hsz
  have hσ := Lib.hid (fun j hj => (HP.out.at_ j hj).2)
  go_enter Tryd.func61, Tryd.ntmps61
  go_wp2_with (go_at_call 51; (with_reducible refine (inRange_c _ _ _ _).mono ?_); rintro e w' ⟨⟨hP, rfl⟩ | ⟨hP, rfl⟩, rfl⟩ <;> first | (exfalso; omega) | (clear hP))
  go_loopw [13] (fun i wr => ∃ j : Nat, j ≤ m ∧ i = .int .i64 j ∧ Ext w wr) (fun i _ => m - (intOf i).toNat)
  case atStart => exact ⟨0, Nat.zero_le _, rfl, (by repeat (first | exact Ext.refl _ | assumption | refine Ext.drew ?_ | refine Ext.drewN ?_ _ | refine Ext.iter ?_ _ _ | refine Ext.alloc ?_ _ | refine Ext.setCell ?_ (by first | exact Nat.le_refl _ | (simp <;> omega)) _ | refine Ext.trans2 (by assumption) ?_))⟩
  case round =>
    obtain ⟨j, hj, rfl, hE⟩ := hrel
    by_cases hlt : j < m
    · have hji : (j : Int) < m := by omega
      obtain ⟨-, y0, y1, y2, y3⟩ := HQ.out j hlt
      replace y0 := ((ecell hE).1 b _ hbl).trans y0; replace y1 := ((ecell hE).1 b _ hbl).trans y1; replace y2 := ((ecell hE).1 b _ hbl).trans y2; replace y3 := ((ecell hE).1 b _ hbl).trans y3
      have hbw := (ecell hE).2.2.1 b hbl
      have hs' := HS.out (σ j)
      have hσj := hσ.out j hlt
      generalize L.getD (σ j) ByteArray.empty = T at *
      generalize σ j = sj at *
      have hok := Lib.hid (show partOK sj n y T from ⟨by omega, by omega, h4, hs'⟩)
      have hip := Lib.hid (fun W => iIsPart_c sj n y T W (by omega))
      clear x0 x1 x2
      go_wp2_with (go_at_call 103; (with_reducible refine (hip.out _).mono ?_); rintro e w1 ⟨⟨hP, rfl⟩ | ⟨hP, rfl⟩, hx1⟩ <;> first | (exact absurd hok.out hP) | (clear hP))
      go_roundw
      case rel => exact ⟨j + 1, hlt, by go_num, (hE.alloc _).trans hx1⟩
      case measure => simp [intOf]; omega
    · obtain rfl : j = m := by omega
      go_wp2
      go_loopw [23] (fun i wr => ∃ q : Nat, q ≤ j ∧ i = .int .i64 q ∧ Ext w wr) (fun i _ => j - (intOf i).toNat)
      case atStart => exact ⟨0, Nat.zero_le _, rfl, hE⟩
      case round =>
        clear hlt hE
        obtain ⟨q, hq, rfl, hE⟩ := hrel
        by_cases hlt : q < j
        · have hji : (q : Int) < j := by omega
          obtain ⟨-, y0, y1, y2, y3⟩ := HQ.out q hlt
          replace y0 := ((ecell hE).1 b _ hbl).trans y0; replace y1 := ((ecell hE).1 b _ hbl).trans y1; replace y2 := ((ecell hE).1 b _ hbl).trans y2; replace y3 := ((ecell hE).1 b _ hbl).trans y3
          replace x1 := ((ecell hE).1 b _ hbl).trans x1; replace x2 := ((ecell hE).1 b _ hbl).trans x2
          have hbw := (ecell hE).2.2.1 b hbl
          have h0j : (0 : Int) < j := by omega
          generalize L.getD (σ q) ByteArray.empty = T at *
          generalize σ q = sq at *
          clear x0
          go_wp2
          go_quiet (fail)
          go_wp2
          go_roundw
          case rel => exact ⟨q + 1, hlt, by go_num, hE.trans (by repeat (first | exact Ext.refl _ | assumption | refine Ext.drew ?_ | refine Ext.drewN ?_ _ | refine Ext.iter ?_ _ _ | refine Ext.alloc ?_ _ | refine Ext.setCell ?_ (by first | exact Nat.le_refl _ | (simp <;> omega)) _ | refine Ext.trans2 (by assumption) ?_))⟩
          case measure => simp [intOf]; omega
        · obtain rfl : q = j := by omega
          go_wp2
          go_ret
          exact ⟨rfl, hE⟩
/-- A list and a code. -/
def LcM (B : Nat) (L : List Int) (code : Int) (e : Ending) (w' : World) : Prop := ∃ p c, e = .returned (.tuple #[.slice p L.length c, .int .i64 code]) ∧ OwnInts B w' p L
def mkB (k q : Nat) : List Int := if k < q then [(k : Int)] else []
theorem mkB_len (k q : Nat) : (mkB k q).length ≤ 1 := by unfold mkB; split <;> simp
set_option maxHeartbeats 1600000 in
set_option maxRecDepth 100000 in
theorem missingParts_c {σ : Nat → Nat} {m n k : Nat} {y : Int} {L : List ByteArray} {xs : List Pt} (h : PS σ m n y L xs) (hk : k < n) (hmis : ∀ i, i < n → ((∃ q, q < m ∧ σ q = i) ↔ i ≠ k)) (p : Option Addr) (c : Nat) (w : World) (hx : SAt ptF 4 w p xs) :
    Calls Tryd.prog 19 #[.slice p m c] w fun e w' => LcM w.heap.size [(k : Int)] 0 e w' ∧ Ext w w' := by
  have HX := Lib.hid hx; have HP := Lib.hid h
  have h1 := h.m1; have h2 := h.mn; have h3 := h.n8
  obtain ⟨b, o, rfl, hbl, x0, x1, x2, x3⟩ := h.four hx (show 0 < m from h1)
  have hpc := Lib.hid (fun W hW => partsCode_c h (some ⟨b, o, none⟩) c W hW)
  clear hx h x0 x2 x3
  have hq : ∀ j, j < m → (b < w.heap.size ∧ w.cell? ⟨b, o + j * 4, none⟩ = some (.int .i64 (σ j)) ∧ w.cell? ⟨b, o + j * 4 + 1, none⟩ = some (.int .i64 n) ∧ w.cell? ⟨b, o + j * 4 + 2, none⟩ = some (.int .i64 y) ∧ w.cell? ⟨b, o + j * 4 + 3, none⟩ = some (.string (L.getD (σ j) ByteArray.empty))) := fun j hj => by
    obtain ⟨b', o', e, h⟩ := HP.out.four HX.out hj
    simp only [Option.some.injEq, Addr.mk.injEq, and_true] at e
    obtain ⟨rfl, rfl⟩ := e
    exact h
  have HQ := Lib.hid hq; clear hq
  have hσ := Lib.hid (fun j hj => (HP.out.at_ j hj).2)
  replace hmis := Lib.hid hmis
  go_enter Tryd.func19, Tryd.ntmps19
  go_wp2_with (go_at_call 61; (with_reducible refine (hpc.out _ HX.out).mono ?_); rintro e w1 ⟨rfl, hx1⟩)
  clear hpc
  have hB := Blk.new w1 #[.bool false, .bool false, .bool false, .bool false, .bool false, .bool false, .bool false, .bool false] 112
  have hx2 : Ext w (w1.alloc (.cells #[.bool false, .bool false, .bool false, .bool false, .bool false, .bool false, .bool false, .bool false] 112)) := hx1.alloc _
  have hgw := hx1.below.size
  generalize w1.alloc (.cells #[.bool false, .bool false, .bool false, .bool false, .bool false, .bool false, .bool false, .bool false] 112) = w2 at *
  generalize w1.heap.size = g at *
  go_loopw [17] (fun i wr => ∃ (j : Nat) (cs : Array Value), j ≤ m ∧ i = .int .i64 j ∧ Blk wr g cs 112 ∧ Hid (∀ i, i < 8 → ∃ t : Bool, cs[i]? = some (.bool t) ∧ (t = true ↔ ∃ q, q < j ∧ σ q = i)) ∧ Ext w wr) (fun i _ => m - (intOf i).toNat)
  case atStart => exact ⟨0, _, Nat.zero_le _, rfl, hB, Lib.hid (fun i hi => ⟨false, by match i, hi with | 0, _ => rfl | 1, _ => rfl | 2, _ => rfl | 3, _ => rfl | 4, _ => rfl | 5, _ => rfl | 6, _ => rfl | 7, _ => rfl, by simp⟩), hx2⟩
  case round =>
    clear hB hx2
    obtain ⟨j, cs, hj, rfl, hB, hcs, hE⟩ := hrel
    by_cases hlt : j < m
    · have hji : (j : Int) < m := by omega
      obtain ⟨-, y0, y1, y2, y3⟩ := HQ.out j hlt
      replace y0 := ((ecell hE).1 b _ hbl).trans y0; replace y1 := ((ecell hE).1 b _ hbl).trans y1; replace y2 := ((ecell hE).1 b _ hbl).trans y2; replace y3 := ((ecell hE).1 b _ hbl).trans y3
      have hbw := (ecell hE).2.2.1 b hbl
      have hσj := hσ.out j hlt
      obtain ⟨t, ht, -⟩ := hcs.out (σ j) (by omega)
      have q0 := hB.cell ht; have ql := hB.lt; have qf := hB.free
      obtain ⟨sj, hsj⟩ : ∃ sj, σ j = sj := ⟨_, rfl⟩
      rw [hsj] at y0 y3 hσj q0
      generalize L.getD sj ByteArray.empty = T at *
      have hsi : (sj : Int) < 8 := by omega
      have hN := (hB.set sj (.bool true)).alloc (.cells #[.int .i64 sj, .int .i64 n, .int .i64 y, .string T] 39)
      replace hsj := Lib.hid hsj
      clear x1 ht
      go_wp2
      go_roundw
      case rel => exact ⟨j + 1, _, hlt, by go_num, hN, Lib.hid (fun i hi => by
        obtain ⟨t', h1', h2'⟩ := hcs.out i hi
        have hsz : i < cs.size := (Array.getElem?_eq_some_iff.1 h1').1
        by_cases e : sj = i
        · subst e
          exact ⟨true, by rw [Array.getElem?_setIfInBounds]; simp [hsz], ⟨fun _ => ⟨j, Nat.lt_succ_self _, hsj.out⟩, fun _ => rfl⟩⟩
        · refine ⟨t', by rw [Array.getElem?_setIfInBounds, if_neg e]; exact h1', h2'.trans ⟨fun ⟨q, a1, a2⟩ => ⟨q, by omega, a2⟩, fun ⟨q, a1, a2⟩ => ⟨q, ?_, a2⟩⟩⟩
          rcases Nat.lt_or_ge q j with h | h
          · exact h
          · obtain rfl : q = j := by omega
            exact absurd (hsj.out.symm.trans a2) e), (hE.setCell (p := ⟨g, sj, none⟩) hgw (.bool true)).alloc _⟩
      case measure => simp [intOf]; omega
    · obtain rfl : j = m := by omega
      clear hlt hj
      have hrow := RowI.made (B := w.heap.size) (w := wr) hE.below.size
      have hB1 := hB.alloc (.cells #[] 2)
      have hE1 := hE.alloc (.cells #[] 2)
      have hgr : g < wr.heap.size := hB.lt
      go_wp2
      go_loopw [8, 9] (fun out i wx => ∃ q : Nat, q ≤ n ∧ i = .int .i64 q ∧ RowI (g + 1) wx out (mkB k q) ∧ Blk wx g cs 112 ∧ Ext w wx) (fun _ i _ => n - (intOf i).toNat)
      case atStart => exact ⟨0, Nat.zero_le _, rfl, RowI.made (by omega), hB1, hE1⟩
      case round =>
        clear hrow hB hB1 hE hE1 hgr
        obtain ⟨q, hq, rfl, hown, hB, hE⟩ := hrel
        replace x1 := ((ecell hE).1 b _ hbl).trans x1
        have hbw := (ecell hE).2.2.1 b hbl
        have h0j : (0 : Int) < j := by omega
        have hml := mkB_len k q
        obtain ⟨pr, cr, rfl, -, -⟩ := hown.ownC
        by_cases hlt : q < n
        · have hqi : (q : Int) < n := by omega
          have hq8 : (q : Int) < 8 := by omega
          obtain ⟨t, ht, hti⟩ := hcs.out q (by omega)
          have q0 := hB.cell ht; have ql := hB.lt
          have hmq := hmis.out q hlt
          by_cases e : q = k
          · subst e
            have htf : t = false := by
              cases t
              · rfl
              · exact absurd rfl (hmq.1 (hti.1 rfl))
            subst htf
            have hm1 := Lib.hid (show mkB q (q + 1) = mkB q q ++ [(q : Int)] from by unfold mkB; simp)
            generalize mkB q q = M at *
            go_wp2_with (at_builtin; go_loud (refine append1IG hown (by omega) (by have := hB.lt; omega) ?_ rfl rfl); intro v3 w4 hown3 hg3; have hb3 := hg3.below (B := g + 1) (fun k hk => (hown.lt k hk).1) (by have := hB.lt; omega))
            go_roundw
            case rel => exact ⟨q + 1, hlt, by go_num, by rw [hm1.out]; exact hown3, hB.low hb3 (by omega), hE.low hb3 (by omega)⟩
            case measure => simp [intOf]; omega
          · have htt : t = true := hti.2 (hmq.2 e)
            subst htt
            have hm1 := Lib.hid (show mkB k (q + 1) = mkB k q from by unfold mkB; by_cases h : k < q <;> simp [h] <;> omega)
            generalize mkB k q = M at *
            go_wp2
            go_roundw
            case rel => exact ⟨q + 1, hlt, by go_num, by rw [hm1.out]; exact hown, hB, hE⟩
            case measure => simp [intOf]; omega
        · obtain rfl : q = n := by omega
          have hm1 : mkB k q = [(k : Int)] := by unfold mkB; rw [if_pos hk]
          rw [hm1] at hown ⊢
          obtain ⟨p', c', e', ho⟩ := hown.own
          go_wp2
          go_ret2
          exact ⟨⟨_, _, rfl, ho.mono (by omega)⟩, hE⟩
end Go.Proofs.YthpnkcamjcohgaaDoor
