
/- Lists of parts: comparing, marking, holding. -/
import Derived.Test.YtbnpdpmbbppnhaaPart
import Derived.Test.YtbnpdpmbbppnhaaMarkS
namespace Go.Proofs.Ytbnpdpmbbppnhaa
set_option linter.unusedVariables false
set_option linter.unusedSimpArgs false
open Go.RowKit

abbrev Pt : Type := Int × Int × Int × ByteArray
def ptF (x : Pt) : List Value := [.int .i64 x.1, .int .i64 x.2.1, .int .i64 x.2.2.1, .string x.2.2.2]
theorem ptF_len (x : Pt) : (ptF x).length = 4 := rfl
theorem ptF_one (x : Pt) : ∀ u ∈ ptF x, u.oneCell' = true := by
  intro u hu
  simp only [ptF, List.mem_cons, List.not_mem_nil, or_false] at hu
  rcases hu with rfl | rfl | rfl | rfl <;> rfl
abbrev vPt (x : Pt) : Value := vPart x.1 x.2.1 x.2.2.1 x.2.2.2
theorem SAt.four {α : Type} {f : α → List Value} {w : World} {p : Option Addr} {xs : List α} (h : SAt f 4 w p xs) {i : Nat} (hi : i < xs.length) {u0 u1 u2 u3 : Value} (hf : f (xs[i]'hi) = [u0, u1, u2, u3]) :
    ∃ b o, p = some ⟨b, o, none⟩ ∧ b < w.heap.size ∧ w.cell? ⟨b, o + i * 4, none⟩ = some u0 ∧ w.cell? ⟨b, o + i * 4 + 1, none⟩ = some u1 ∧ w.cell? ⟨b, o + i * 4 + 2, none⟩ = some u2 ∧ w.cell? ⟨b, o + i * 4 + 3, none⟩ = some u3 := by
  obtain ⟨b, o, h1, h2, h3⟩ := h i hi
  rw [hf] at h3
  exact ⟨b, o, h1, h2, h3 0 u0 rfl, h3 1 u1 rfl, h3 2 u2 rfl, h3 3 u3 rfl⟩
set_option maxRecDepth 100000 in
theorem eqPart_c (x y : Pt) (w : World) :
    Calls Try.prog 109 #[vPt x, vPt y] w fun e w' => isB e (x = y) ∧ Ext w w' := by
  obtain ⟨x0, x1, x2, x3⟩ := x
  obtain ⟨y0, y1, y2, y3⟩ := y
  by_cases h0 : x0 = y0
  · by_cases h1 : x1 = y1
    · by_cases h2 : x2 = y2
      · by_cases h3 : x3 = y3
        · subst h0; subst h1; subst h2; subst h3
          go_enter Try.func109, Try.ntmps109
          go_wp2
          go_ret
          exact ⟨isB_t (by simp), (by repeat (first | exact Ext.refl _ | assumption | refine Ext.drew ?_ | refine Ext.drewN ?_ _ | refine Ext.iter ?_ _ _ | refine Ext.alloc ?_ _ | refine Ext.setCell ?_ (by first | exact Nat.le_refl _ | (simp <;> omega)) _ | refine Ext.trans2 (by assumption) ?_))⟩
        · subst h0; subst h1; subst h2
          have hb : (x3.toList != y3.toList) = true := by rw [bne_iff_ne, ne_eq, bytes_eq]; exact h3
          have hn := Lib.hid h3; clear h3
          go_enter Try.func109, Try.ntmps109
          go_wp2
          all_goals first
            | (go_ret; exact ⟨isB_f (fun h => hn.out (by simpa using h)), (by repeat (first | exact Ext.refl _ | assumption | refine Ext.drew ?_ | refine Ext.drewN ?_ _ | refine Ext.iter ?_ _ _ | refine Ext.alloc ?_ _ | refine Ext.setCell ?_ (by first | exact Nat.le_refl _ | (simp <;> omega)) _ | refine Ext.trans2 (by assumption) ?_))⟩)
            | (exfalso; rename_i hh; simp [bytes_eq] at hh; exact hn.out hh)
      · have hn := Lib.hid h2
        have hb : (x2 == y2) = false := by simpa using h2
        subst h0; subst h1; clear h2
        go_enter Try.func109, Try.ntmps109
        go_wp2
        go_ret
        exact ⟨isB_f (fun h => hn.out (by simp at h; exact h.1)), (by repeat (first | exact Ext.refl _ | assumption | refine Ext.drew ?_ | refine Ext.drewN ?_ _ | refine Ext.iter ?_ _ _ | refine Ext.alloc ?_ _ | refine Ext.setCell ?_ (by first | exact Nat.le_refl _ | (simp <;> omega)) _ | refine Ext.trans2 (by assumption) ?_))⟩
    · have hn := Lib.hid h1
      have hb : (x1 == y1) = false := by simpa using h1
      subst h0; clear h1
      go_enter Try.func109, Try.ntmps109
      go_wp2
      go_ret
      exact ⟨isB_f (fun h => hn.out (by simp at h; exact h.1)), (by repeat (first | exact Ext.refl _ | assumption | refine Ext.drew ?_ | refine Ext.drewN ?_ _ | refine Ext.iter ?_ _ _ | refine Ext.alloc ?_ _ | refine Ext.setCell ?_ (by first | exact Nat.le_refl _ | (simp <;> omega)) _ | refine Ext.trans2 (by assumption) ?_))⟩
  · have hn := Lib.hid h0
    have hb : (x0 == y0) = false := by simpa using h0
    clear h0
    go_enter Try.func109, Try.ntmps109
    go_wp2
    go_ret
    exact ⟨isB_f (fun h => hn.out (by simp at h; exact h.1)), (by repeat (first | exact Ext.refl _ | assumption | refine Ext.drew ?_ | refine Ext.drewN ?_ _ | refine Ext.iter ?_ _ _ | refine Ext.alloc ?_ _ | refine Ext.setCell ?_ (by first | exact Nat.le_refl _ | (simp <;> omega)) _ | refine Ext.trans2 (by assumption) ?_))⟩
set_option maxRecDepth 100000 in
theorem eqPartS_c (p q : Option Addr) (c d : Nat) (xs : List Pt) (w : World) (hx : SAt ptF 4 w p xs) (hy : SAt ptF 4 w q xs) (hl : xs.length ≤ 1048576) :
    Calls Try.prog 36 #[.slice p xs.length c, .slice q xs.length d] w fun e w' => e = .returned (.bool true) ∧ Ext w w' := by
  go_enter Try.func36, Try.ntmps36
  go_wp2
  go_loopw [5] (fun i wr => ∃ k : Nat, k ≤ xs.length ∧ i = .int .i64 k ∧ Ext w wr) (fun i _ => xs.length - (intOf i).toNat)
  case atStart => exact ⟨0, Nat.zero_le _, rfl, (by repeat (first | exact Ext.refl _ | assumption | refine Ext.drew ?_ | refine Ext.drewN ?_ _ | refine Ext.iter ?_ _ _ | refine Ext.alloc ?_ _ | refine Ext.setCell ?_ (by first | exact Nat.le_refl _ | (simp <;> omega)) _ | refine Ext.trans2 (by assumption) ?_))⟩
  case round =>
    obtain ⟨k, hk, rfl, hext⟩ := hrel
    by_cases hlt : k < xs.length
    · obtain ⟨b, o, rfl, hbl, h0, h1, h2, h3⟩ := (hx.ext hext).four hlt rfl
      obtain ⟨b2, o2, rfl, hbl2, g0, g1, g2, g3⟩ := (hy.ext hext).four hlt rfl
      clear hx hy
      generalize xs[k] = x at *
      go_wp2
      refine wp_region_canon (fun w' => Ext wr w') [(0, true), (1, true), (2, true), (3, true), (4, true), (5, true), (6, true), (7, true), (8, false), (9, true)] (by kernel_rfl) (by kernel_rfl) (by decide) (by kernel_rfl) ?_ ?_
      · exact (by repeat (first | exact Ext.refl _ | assumption | refine Ext.drew ?_ | refine Ext.drewN ?_ _ | refine Ext.iter ?_ _ _ | refine Ext.alloc ?_ _ | refine Ext.setCell ?_ (by first | exact Nat.le_refl _ | (simp <;> omega)) _ | refine Ext.trans2 (by assumption) ?_))
      refine canon_intro fun ops eo => ?_
      have ho0 := canon_at eo 0 rfl
      have ho1 := canon_at eo 1 rfl
      have ho2 := canon_at eo 2 rfl
      have ho3 := canon_at eo 3 rfl
      have ho4 := canon_at eo 4 rfl
      have ho5 := canon_at eo 5 rfl
      have ho6 := canon_at eo 6 rfl
      have ho7 := canon_at eo 7 rfl
      have ho8 := canon_at eo 8 rfl
      have ho9 := canon_at eo 9 rfl
      clear eo
      all_goals (apply canon_st ho0 rfl; (intro w2 hS; first | (go_simp; first | done | rfl) | rfl | (obtain ⟨hc, hf, hk, hz⟩ := ecell hS; go_simp; first | done | rfl)); simp only [Act.put, List.setIfInBounds_toArray, List.set_cons_zero, List.set_cons_succ])
      all_goals clear ho0
      all_goals (apply canon_st ho1 rfl; (intro w2 hS; first | (go_simp; first | done | rfl) | rfl | (obtain ⟨hc, hf, hk, hz⟩ := ecell hS; go_simp; first | done | rfl)); simp only [Act.put, List.setIfInBounds_toArray, List.set_cons_zero, List.set_cons_succ])
      all_goals clear ho1
      all_goals (apply canon_st ho2 rfl; (intro w2 hS; first | (go_simp; first | done | rfl) | rfl | (obtain ⟨hc, hf, hk, hz⟩ := ecell hS; go_simp; first | done | rfl)); simp only [Act.put, List.setIfInBounds_toArray, List.set_cons_zero, List.set_cons_succ])
      all_goals clear ho2
      all_goals (apply canon_st ho3 rfl; (intro w2 hS; first | (go_simp; first | done | rfl) | rfl | (obtain ⟨hc, hf, hk, hz⟩ := ecell hS; go_simp; first | done | rfl)); simp only [Act.put, List.setIfInBounds_toArray, List.set_cons_zero, List.set_cons_succ])
      all_goals clear ho3
      all_goals (apply canon_st ho4 rfl; (intro w2 hS; first | (go_simp; first | done | rfl) | rfl | (obtain ⟨hc, hf, hk, hz⟩ := ecell hS; go_simp; first | done | rfl)); simp only [Act.put, List.setIfInBounds_toArray, List.set_cons_zero, List.set_cons_succ])
      all_goals clear ho4
      all_goals (apply canon_st ho5 rfl; (intro w2 hS; first | (go_simp; first | done | rfl) | rfl | (obtain ⟨hc, hf, hk, hz⟩ := ecell hS; go_simp; first | done | rfl)); simp only [Act.put, List.setIfInBounds_toArray, List.set_cons_zero, List.set_cons_succ])
      all_goals clear ho5
      all_goals (apply canon_st ho6 rfl; (intro w2 hS; first | (go_simp; first | done | rfl) | rfl | (obtain ⟨hc, hf, hk, hz⟩ := ecell hS; go_simp; first | done | rfl)); simp only [Act.put, List.setIfInBounds_toArray, List.set_cons_zero, List.set_cons_succ])
      all_goals clear ho6
      all_goals (apply canon_st ho7 rfl; (intro w2 hS; first | (go_simp; first | done | rfl) | rfl | (obtain ⟨hc, hf, hk, hz⟩ := ecell hS; go_simp; first | done | rfl)); simp only [Act.put, List.setIfInBounds_toArray, List.set_cons_zero, List.set_cons_succ])
      all_goals clear ho7
      all_goals first | (refine canon_ef ho8 rfl (fun K hK => ?_); go_simp; ((go_at_call 109; refine (eqPart_c x x _).mono ?_; rintro e w1 ⟨⟨hP, rfl⟩ | ⟨hP, rfl⟩, hb⟩; rotate_left 1; exact absurd rfl hP)); all_goals (refine hK _ _ ⟨(by repeat (first | exact Ext.refl _ | assumption | refine Ext.drew ?_ | refine Ext.drewN ?_ _ | refine Ext.iter ?_ _ _ | refine Ext.alloc ?_ _ | refine Ext.setCell ?_ (by first | exact Nat.le_refl _ | (simp <;> omega)) _ | refine Ext.trans2 (by assumption) ?_)), ?_⟩; clear hK K; go_simp))
      all_goals clear ho8
      all_goals (apply canon_st ho9 rfl; (intro w2 hS; first | (go_simp; first | done | rfl) | rfl | (obtain ⟨hc, hf, hk, hz⟩ := ecell hS; go_simp; first | done | rfl)); simp only [Act.put, List.setIfInBounds_toArray, List.set_cons_zero, List.set_cons_succ])
      all_goals clear ho9
      all_goals refine canon_done (NoPanic.normal ?_)
      go_wp2
      go_roundw
      case rel => exact ⟨k + 1, hlt, by go_num, (by repeat (first | exact Ext.refl _ | assumption | refine Ext.drew ?_ | refine Ext.drewN ?_ _ | refine Ext.iter ?_ _ _ | refine Ext.alloc ?_ _ | refine Ext.setCell ?_ (by first | exact Nat.le_refl _ | (simp <;> omega)) _ | refine Ext.trans2 (by assumption) ?_))⟩
      case measure => simp [intOf]; omega
    · clear hx hy
      obtain rfl : k = xs.length := by omega
      go_wp2
      go_ret
      exact ⟨rfl, (by repeat (first | exact Ext.refl _ | assumption | refine Ext.drew ?_ | refine Ext.drewN ?_ _ | refine Ext.iter ?_ _ _ | refine Ext.alloc ?_ _ | refine Ext.setCell ?_ (by first | exact Nat.le_refl _ | (simp <;> omega)) _ | refine Ext.trans2 (by assumption) ?_))⟩
def mkPt (k0 : Nat) (n : Nat) : List Pt := (List.range n).map fun i => (((k0 + 4 * i : Nat) : Int), ((k0 + 4 * i + 1 : Nat) : Int), ((k0 + 4 * i + 2 : Nat) : Int), mText (k0 + 4 * i + 3))
theorem mkPt_len (k0 n : Nat) : (mkPt k0 n).length = n := by simp [mkPt]
theorem mkPt_succ (k0 n : Nat) : mkPt k0 (n + 1) = mkPt k0 n ++ [(((k0 + 4 * n : Nat) : Int), ((k0 + 4 * n + 1 : Nat) : Int), ((k0 + 4 * n + 2 : Nat) : Int), mText (k0 + 4 * n + 3))] := by simp [mkPt, List.range_succ]
theorem markText3_c (q : Nat) (w : World) (hk : q + 3 ≤ 1099511627776) :
    Calls Try.prog 110 #[.int .i64 ((q : Int) + 1 + 1 + 1)] w fun e w' => e = .returned (.string (mText (q + 3))) ∧ Ext w w' := by
  have := markText_c (q + 3) w hk
  have e : (((q + 3 : Nat)) : Int) = (q : Int) + 1 + 1 + 1 := by omega
  rwa [e] at this
set_option maxHeartbeats 400000 in
set_option maxRecDepth 100000 in
theorem markPartS_c (B : Nat) (p : Option Addr) (c : Nat) (k0 : Nat) (xs : List Pt) (w : World) (hx0 : OwnCells B w p (xs.flatMap ptF)) (hl : xs.length ≤ 1048576) (hk : k0 ≤ 1048576) (hB0 : B ≤ w.heap.size) :
    Calls Try.prog 37 #[.slice p xs.length c, .int .i64 k0] w fun e w' => e = .returned (.int .i64 ((k0 + 4 * xs.length : Nat) : Int)) ∧ OwnCells B w' p ((mkPt k0 xs.length).flatMap ptF) ∧ Marked B p xs.length w w' := by
  go_enter Try.func37, Try.ntmps37
  go_wp2
  go_loopw [1, 5] (fun kk i wr => ∃ n q : Nat, n ≤ xs.length ∧ i = .int .i64 n ∧ kk = .int .i64 q ∧ q = k0 + 4 * n ∧ OwnCells B wr p ((mkPt k0 n).flatMap ptF ++ (xs.drop n).flatMap ptF) ∧ Marked B p xs.length w wr) (fun _ i _ => xs.length - (intOf i).toNat)
  case atStart => exact ⟨0, k0, Nat.zero_le _, rfl, rfl, by omega, by simpa [mkPt] using hx0, Marked.refl _ _ _ _⟩
  case round =>
    clear hx0
    obtain ⟨n, q, hn, rfl, rfl, hq, hown, hM⟩ := hrel
    have hBr : B ≤ wr.heap.size := Nat.le_trans hB0 hM.1.size
    by_cases hlt : n < xs.length
    · have hP : ((mkPt k0 n).flatMap ptF).length = n * 4 := by rw [flat_len ptF_len, mkPt_len]
      rw [List.drop_eq_getElem_cons hlt, List.flatMap_cons] at hown
      obtain ⟨b, o, rfl, hbB, hbl, h0, g0⟩ := hown.at (j := 0) (n := n * 4) (by omega) (by simp [ptF])
      obtain ⟨b1, o1, e1, -, -, h1, g1⟩ := hown.at (j := 1) (n := n * 4 + 1) (by omega) (by simp [ptF])
      obtain ⟨rfl, rfl⟩ : b = b1 ∧ o = o1 := by simpa using e1
      obtain ⟨b2, o2, e2, -, -, h2, g2⟩ := hown.at (j := 2) (n := n * 4 + 2) (by omega) (by simp [ptF])
      obtain ⟨rfl, rfl⟩ : b = b2 ∧ o = o2 := by simpa using e2
      rw [← Nat.add_assoc] at h1 g1 h2 g2
      have hs1 := ((hown.setAt (j := 0) (n := n * 4) rfl (by omega) (by simp [ptF]) (.int .i64 q)).setAt (j := 1) (n := n * 4 + 1) rfl (by omega) (by simp [ptF]) (.int .i64 ((q : Int) + 1))).setAt (j := 2) (n := n * 4 + 2) rfl (by omega) (by simp [ptF]) (.int .i64 ((q : Int) + 1 + 1))
      have hM1 := ((hM.set (j := o + n * 4) rfl (by omega) hbB (.int .i64 q)).set (j := o + (n * 4 + 1)) rfl (by omega) hbB (.int .i64 ((q : Int) + 1))).set (j := o + (n * 4 + 2)) rfl (by omega) hbB (.int .i64 ((q : Int) + 1 + 1))
      have HQ := Lib.hid hq; have HP := Lib.hid hP; clear hP
      have hq1 : q ≤ 8000000 := by omega
      have hmt := Lib.hid (fun W => markText3_c q W (by omega))
      clear hq hown hM e1 e2
      simp only [← Nat.add_assoc] at hs1 hM1
      go_wp2_with (go_at_call 110; (with_reducible refine (hmt.out _).mono ?_); rintro e w1 ⟨rfl, hb1⟩; have hs2 := hs1.ext hb1; obtain ⟨b', o', e1, hbB2, hbl2, z0, z1⟩ := hs2.at (j := 3) (n := n * 4 + 3) (by have := HP.out; omega) (by simp [ptF]); obtain ⟨rfl, rfl⟩ : b = b' ∧ o = o' := (by simpa using e1); rw [← Nat.add_assoc] at z0 z1; have hM2 := hM1.ext hb1 (by simpa [World.setCell] using hBr))
      have hs3 := hs2.setAt (j := 3) (n := n * 4 + 3) rfl (by have := HP.out; omega) (by simp [ptF]) (.string (mText (q + 3)))
      have hM3 := hM2.set (j := o + n * 4 + 3) rfl (by omega) hbB (.string (mText (q + 3)))
      go_roundw
      case rel =>
        refine ⟨n + 1, q + 4, hlt, by go_num, by go_num, by have := HQ.out; omega, ?_, hM3⟩
        rw [mkPt_succ, List.flatMap_append, ← HQ.out, List.append_assoc]
        exact hs3
      case measure => simp [intOf]; omega
    · obtain rfl : n = xs.length := by omega
      simp only [List.drop_length, List.flatMap_nil, List.append_nil] at hown
      subst hq
      go_wp2
      go_ret
      exact ⟨rfl, hown, hM⟩
set_option maxHeartbeats 400000 in
set_option maxRecDepth 100000 in
theorem heldPartS_c (p : Option Addr) (c : Nat) (k0 n0 : Nat) (w : World) (hx : SAt ptF 4 w p (mkPt k0 n0)) (hl : n0 ≤ 1048576) (hk : k0 ≤ 1048576) :
    Calls Try.prog 38 #[.slice p n0 c, .int .i64 k0] w fun e w' => e = .returned (.int .i64 ((k0 + 4 * n0 : Nat) : Int)) ∧ Ext w w' := by
  go_enter Try.func38, Try.ntmps38
  go_wp2
  go_loopw [1, 5] (fun kk i wr => ∃ n q : Nat, n ≤ n0 ∧ i = .int .i64 n ∧ kk = .int .i64 q ∧ q = k0 + 4 * n ∧ Ext w wr) (fun _ i _ => n0 - (intOf i).toNat)
  case atStart => exact ⟨0, k0, Nat.zero_le _, rfl, rfl, by omega, (by repeat (first | exact Ext.refl _ | assumption | refine Ext.drew ?_ | refine Ext.drewN ?_ _ | refine Ext.iter ?_ _ _ | refine Ext.alloc ?_ _ | refine Ext.setCell ?_ (by first | exact Nat.le_refl _ | (simp <;> omega)) _ | refine Ext.trans2 (by assumption) ?_))⟩
  case round =>
    obtain ⟨n, q, hn, rfl, rfl, hq, hext⟩ := hrel
    by_cases hlt : n < n0
    · obtain ⟨b, o, rfl, hbl, h0, h1, h2, h3⟩ := (hx.ext hext).four (i := n) (by rw [mkPt_len]; exact hlt) (u0 := .int .i64 q) (u1 := .int .i64 ((q : Int) + 1)) (u2 := .int .i64 ((q : Int) + 1 + 1)) (u3 := .string (mText (q + 3))) (by simp [mkPt, ptF, hq]; omega)
      have HQ := Lib.hid hq
      have hq1 : q ≤ 8000000 := by omega
      have hmt := Lib.hid (fun W => markText3_c q W (by omega))
      clear hx hq
      have e1 := IntWalk.i64_in ((q : Int) + 1) (by omega)
      have e2 := IntWalk.i64_in ((q : Int) + 1 + 1) (by omega)
      have e3 := IntWalk.i64_in ((q : Int) + 1 + 1 + 1) (by omega)
      go_wp2
      refine wp_region_canon (fun w' => Ext wr w') [(0, true), (1, true), (2, true), (3, true), (4, true), (5, true), (6, false), (7, true)] (by kernel_rfl) (by kernel_rfl) (by decide) (by kernel_rfl) ?_ ?_
      · exact (by repeat (first | exact Ext.refl _ | assumption | refine Ext.drew ?_ | refine Ext.drewN ?_ _ | refine Ext.iter ?_ _ _ | refine Ext.alloc ?_ _ | refine Ext.setCell ?_ (by first | exact Nat.le_refl _ | (simp <;> omega)) _ | refine Ext.trans2 (by assumption) ?_))
      refine canon_intro fun ops eo => ?_
      have ho0 := canon_at eo 0 rfl
      have ho1 := canon_at eo 1 rfl
      have ho2 := canon_at eo 2 rfl
      have ho3 := canon_at eo 3 rfl
      have ho4 := canon_at eo 4 rfl
      have ho5 := canon_at eo 5 rfl
      have ho6 := canon_at eo 6 rfl
      have ho7 := canon_at eo 7 rfl
      clear eo
      all_goals (apply canon_st ho0 rfl; (intro w2 hS; first | (go_simp; first | done | rfl) | rfl | (obtain ⟨hc, hf, hk, hz⟩ := ecell hS; go_simp; first | done | rfl)); simp only [Act.put, List.setIfInBounds_toArray, List.set_cons_zero, List.set_cons_succ])
      all_goals clear ho0
      all_goals (apply canon_st ho1 rfl; (intro w2 hS; first | (go_simp; first | done | rfl) | rfl | (obtain ⟨hc, hf, hk, hz⟩ := ecell hS; go_simp; first | done | rfl)); simp only [Act.put, List.setIfInBounds_toArray, List.set_cons_zero, List.set_cons_succ])
      all_goals clear ho1
      all_goals (apply canon_st ho2 rfl; (intro w2 hS; first | (go_simp; first | done | rfl) | rfl | (obtain ⟨hc, hf, hk, hz⟩ := ecell hS; go_simp; first | done | rfl)); simp only [Act.put, List.setIfInBounds_toArray, List.set_cons_zero, List.set_cons_succ])
      all_goals clear ho2
      all_goals (apply canon_st ho3 rfl; (intro w2 hS; first | (go_simp; first | done | rfl) | rfl | (obtain ⟨hc, hf, hk, hz⟩ := ecell hS; go_simp; first | done | rfl)); simp only [Act.put, List.setIfInBounds_toArray, List.set_cons_zero, List.set_cons_succ])
      all_goals clear ho3
      all_goals (apply canon_st ho4 rfl; (intro w2 hS; first | (go_simp; first | done | rfl) | rfl | (obtain ⟨hc, hf, hk, hz⟩ := ecell hS; go_simp; first | done | rfl)); simp only [Act.put, List.setIfInBounds_toArray, List.set_cons_zero, List.set_cons_succ])
      all_goals clear ho4
      all_goals (apply canon_st ho5 rfl; (intro w2 hS; first | (go_simp; first | done | rfl) | rfl | (obtain ⟨hc, hf, hk, hz⟩ := ecell hS; go_simp; first | done | rfl)); simp only [Act.put, List.setIfInBounds_toArray, List.set_cons_zero, List.set_cons_succ])
      all_goals clear ho5
      all_goals first | (refine canon_ef ho6 rfl (fun K hK => ?_); go_simp; ((go_at_call 110; (with_reducible refine (hmt.out _).mono ?_); rintro e w1 ⟨rfl, hb1⟩)); all_goals (refine hK _ _ ⟨(by repeat (first | exact Ext.refl _ | assumption | refine Ext.drew ?_ | refine Ext.drewN ?_ _ | refine Ext.iter ?_ _ _ | refine Ext.alloc ?_ _ | refine Ext.setCell ?_ (by first | exact Nat.le_refl _ | (simp <;> omega)) _ | refine Ext.trans2 (by assumption) ?_)), ?_⟩; clear hK K; go_simp))
      all_goals clear ho6
      all_goals (apply canon_st ho7 rfl; (intro w2 hS; first | (go_simp; first | done | rfl) | rfl | (obtain ⟨hc, hf, hk, hz⟩ := ecell hS; go_simp; first | done | rfl)); simp only [Act.put, List.setIfInBounds_toArray, List.set_cons_zero, List.set_cons_succ])
      all_goals clear ho7
      all_goals refine canon_done (NoPanic.normal ?_)
      clear e1 e2 e3
      go_wp2
      go_roundw
      case rel => exact ⟨n + 1, q + 4, hlt, by go_num, by go_num, by have := HQ.out; omega, (hext.drew.trans hb1)⟩
      case measure => simp [intOf]; omega
    · obtain rfl : n = n0 := by omega
      clear hx
      subst hq
      go_wp2
      go_ret
      exact ⟨rfl, hext⟩
end Go.Proofs.Ytbnpdpmbbppnhaa
