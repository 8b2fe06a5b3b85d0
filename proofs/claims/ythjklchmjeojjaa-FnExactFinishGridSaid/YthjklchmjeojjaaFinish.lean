
/- Finished grids, on both sides. -/
import Derived.Test.YthjklchmjeojjaaMaskS
namespace Go.Proofs.Ythjklchmjeojjaa
set_option linter.unusedVariables false
set_option linter.unusedSimpArgs false
open Go.RowKit

theorem mskL_len (m n : Nat) (xs : List Int) : (mskL m n xs).length = xs.length := mskTo_len _ _ _ _ _
theorem finL_len (l m n : Nat) (xs : List Int) : (finL l m n xs).length = xs.length := by unfold finL; rw [pFmt_len, mskL_len]
set_option maxHeartbeats 1600000 in
set_option maxRecDepth 100000 in
theorem finished_c (l m n k : Nat) (hl4 : l < 4) (hm : m < 8) (p : Option Addr) (xs : List Int) (w : World) (hn : 17 ≤ n ∧ n ≤ 41) (h4 : n % 4 = 1) (hx : IntsAt w p xs) (hlen : xs.length = n * n) (hbd : ∀ x ∈ xs, -1 ≤ x ∧ x ≤ 1) :
    Calls Try.prog 52 #[vGrid n n p xs.length k, .int .i64 l, .int .i64 m] w fun e w' => GrdR n n (finL l m n xs) w.heap.size e w' ∧ Ext w w' := by
  have HX := Lib.hid hx; clear hx
  have hN : n * n ≤ 1681 := Nat.mul_le_mul hn.2 hn.2
  have hN1 : 0 < n * n := Nat.mul_pos (by omega) (by omega)
  have hb := (Blk.new w #[.int .i64 n, .int .i64 n, .slice p xs.length k] 26).alloc (.cells #[.int .i64 0, .int .i64 0, .slice none 0 0] 26)
  have h0 := Blk.new (w.alloc (.cells #[.int .i64 n, .int .i64 n, .slice p xs.length k] 26)) #[.int .i64 0, .int .i64 0, .slice none 0 0] 26
  have hx0 : Ext w ((w.alloc (.cells #[.int .i64 n, .int .i64 n, .slice p xs.length k] 26)).alloc (.cells #[.int .i64 0, .int .i64 0, .slice none 0 0] 26)) := ((Ext.refl w).alloc _).alloc _
  simp only [World.size_alloc] at h0
  have hmk := (fun W (h : IntsAt W p xs) => masked_c m n k hm p xs W hn h4 h hlen hbd)
  have hml := mskL_len m n xs
  have hfl := finL_len l m n xs
  have hfd : finL l m n xs = pFmt n (fmtW (l * 8 + m)) (mskL m n xs) 15 := rfl
  generalize finL l m n xs = F at *
  generalize mskL m n xs = L at *
  replace hmk := Lib.hid hmk
  have f0 := hb.cell (i := 0) (v := .int .i64 n) rfl; have f1 := hb.cell (i := 1) (v := .int .i64 n) rfl; have f2 := hb.cell (i := 2) (v := .slice p xs.length k) rfl; have fl := hb.lt
  replace hfd := Lib.hid hfd; replace hml := Lib.hid hml; replace hfl := Lib.hid hfl; replace hlen := Lib.hid hlen
  go_enter Try.func52, Try.ntmps52
  go_upto_region 2 with (first
    | (go_at_call 77; (with_reducible refine (hmk.out _ (HX.out.ext hx0)).mono ?_); rintro e w1 ⟨⟨q, kq, rfl, oq, hkq⟩, hx1⟩))
  obtain ⟨b, o, rfl, hbB, hbl, -⟩ := oq 0 (by rw [hml.out, hlen.out]; exact hN1)
  simp only [World.size_alloc] at hbB
  have hG := Blk.new w1 #[.int .i64 n, .int .i64 n, .slice (some ⟨b, o, none⟩) L.length kq] 26
  replace h0 := (h0.ext hx1).alloc (.cells #[.int .i64 n, .int .i64 n, .slice (some ⟨b, o, none⟩) L.length kq] 26)
  replace oq := oq.ext ((Ext.refl w1).alloc (.cells #[.int .i64 n, .int .i64 n, .slice (some ⟨b, o, none⟩) L.length kq] 26))
  have hx2 := (hx0.trans hx1).alloc (.cells #[.int .i64 n, .int .i64 n, .slice (some ⟨b, o, none⟩) L.length kq] 26)
  have hz1 := hx1.below.size
  simp only [World.size_alloc] at hz1
  have hLn : L.length = n * n := by rw [hml.out, hlen.out]
  generalize w1.alloc (.cells #[.int .i64 n, .int .i64 n, .slice (some ⟨b, o, none⟩) L.length kq] 26) = w2 at *
  generalize w1.heap.size = g1 at *
  have hpf := fun W (h : OwnInts b W (some ⟨b, o, none⟩) L) => putFormat_c b n b o kq (l * 8 + m) L W (by omega) hn hLn h
  rw [← hLn, ← hfd.out] at hpf
  have hlm : ((l * 8 + m : Nat) : Int) = (l : Int) * 8 + (m : Int) := by simp
  rw [hlm] at hpf
  replace hpf := Lib.hid hpf
  have e1 := IntWalk.i64_in ((l : Int) * 8) (by omega)
  have e2 := IntWalk.i64_in ((l : Int) * 8 + (m : Int)) (by omega)
  have g0 := hG.cell (i := 0) (v := .int .i64 n) rfl; have g1' := hG.cell (i := 1) (v := .int .i64 n) rfl; have g2 := hG.cell (i := 2) (v := .slice (some ⟨b, o, none⟩) L.length kq) rfl; have gl := hG.lt
  have hFl : F.length = L.length := by rw [hfl.out, hml.out]
  replace hFl := Lib.hid hFl; replace hLn := Lib.hid hLn; replace hlm := Lib.hid hlm
  have hw1 : w.heap.size + 1 ≠ b := by omega
  have hwb : w.heap.size ≤ b := by omega
  have hgb : g1 ≠ b := by omega
  have oqs := oq.self
  clear hb f0 f1 f2 fl hx0 hx1 oq hmk
  go_upto_region 3 with (go_at_call 32; (with_reducible refine (hpf.out _ oqs).mono ?_); rintro e w4 ⟨rfl, oq4, hb4⟩)
  replace h0 := h0.but hb4 hw1
  replace hG := hG.but hb4 hgb
  replace hx2 := hx2.but hb4 hwb
  clear g0 g1' g2 gl oqs e1 e2
  have g0 := hG.cell (i := 0) (v := .int .i64 n) rfl; have g1' := hG.cell (i := 1) (v := .int .i64 n) rfl; have g2 := hG.cell (i := 2) (v := .slice (some ⟨b, o, none⟩) L.length kq) rfl; have gl := hG.lt
  have z0 := h0.cell (i := 0) (v := .int .i64 0) rfl; have z1 := h0.cell (i := 1) (v := .int .i64 0) rfl; have z2 := h0.cell (i := 2) (v := .slice none 0 0) rfl; have zl := h0.lt; have zf := h0.free
  have hF := ((h0.set 0 (.int .i64 n)).set 1 (.int .i64 n)).set 2 (.slice (some ⟨b, o, none⟩) L.length kq)
  have C0 := Lib.hid (hF.cell (i := 0) (v := .int .i64 n) rfl); have C1 := Lib.hid (hF.cell (i := 1) (v := .int .i64 n) rfl); have C2 := Lib.hid (hF.cell (i := 2) (v := .slice (some ⟨b, o, none⟩) L.length kq) rfl)
  have hx9 := Lib.hid (((hx2.setCell (p := ⟨w.heap.size + 1, 0, none⟩) (Nat.le_succ _) (.int .i64 n)).setCell (p := ⟨w.heap.size + 1, 1, none⟩) (Nat.le_succ _) (.int .i64 n)).setCell (p := ⟨w.heap.size + 1, 2, none⟩) (Nat.le_succ _) (.slice (some ⟨b, o, none⟩) L.length kq))
  have oq9 := Lib.hid (((oq4.setFarN (g := w.heap.size + 1) (i := 0) (v := .int .i64 n) (by omega)).setFarN (g := w.heap.size + 1) (i := 1) (v := .int .i64 n) (by omega)).setFarN (g := w.heap.size + 1) (i := 2) (v := .slice (some ⟨b, o, none⟩) L.length kq) (by omega))
  clear hF h0 hG hx2 oq4
  go_wp2_with fail
  have c0 := C0.out; have c1 := C1.out; have c2 := C2.out
  exact bodyPost_ret (v := vGrid n n (some ⟨b, o, none⟩) L.length kq) (by simp [results, Try.results52, go_sem, c0, c1, c2]) rfl ⟨⟨some ⟨b, o, none⟩, kq, by rw [hFl.out], oq9.out.mono hwb, by rw [hFl.out]; exact hkq⟩, hx9.out⟩
set_option maxHeartbeats 1600000 in
set_option maxRecDepth 100000 in
theorem sFinish_c (l m n k : Nat) (hl4 : l < 4) (hm : m < 8) (p : Option Addr) (xs : List Int) (w : World) (hn : 17 ≤ n ∧ n ≤ 41) (h4 : n % 4 = 1) (hx : IntsAt w p xs) (hlen : xs.length = n * n) (hbd : ∀ x ∈ xs, -1 ≤ x ∧ x ≤ 1) :
    Calls Try.prog 50 #[vGrid n n p xs.length k, .int .i64 l, .int .i64 m] w fun e w' => GrdR n n (finL l m n xs) w.heap.size e w' ∧ Ext w w' := by
  have HX := Lib.hid hx; clear hx
  have hb := (Blk.new w #[.int .i64 n, .int .i64 n, .slice p xs.length k] 26).alloc (.cells #[.int .i64 0, .int .i64 0, .slice none 0 0] 26)
  have h0 := Blk.new (w.alloc (.cells #[.int .i64 n, .int .i64 n, .slice p xs.length k] 26)) #[.int .i64 0, .int .i64 0, .slice none 0 0] 26
  have hx0 : Ext w ((w.alloc (.cells #[.int .i64 n, .int .i64 n, .slice p xs.length k] 26)).alloc (.cells #[.int .i64 0, .int .i64 0, .slice none 0 0] 26)) := ((Ext.refl w).alloc _).alloc _
  simp only [World.size_alloc] at h0
  have hmk := (fun W (h : IntsAt W p xs) => sApply_c m n k hm p xs W hn h4 h hlen hbd)
  have hml := mskL_len m n xs
  have hsp := fun W q kq (h : IntsAt W q (mskL m n xs)) => sPut_c n (l * 8 + m) kq q (mskL m n xs) W (by omega) hn h (by rw [hml, hlen])
  have hfd : finL l m n xs = pFmt n (fmtW (l * 8 + m)) (mskL m n xs) 15 := rfl
  rw [← hfd] at hsp
  have hlm : ((l * 8 + m : Nat) : Int) = (l : Int) * 8 + (m : Int) := by simp
  rw [hlm] at hsp
  replace hmk := Lib.hid hmk; replace hsp := Lib.hid hsp
  have e1 := IntWalk.i64_in ((l : Int) * 8) (by omega)
  have e2 := IntWalk.i64_in ((l : Int) * 8 + (m : Int)) (by omega)
  have f0 := hb.cell (i := 0) (v := .int .i64 n) rfl; have f1 := hb.cell (i := 1) (v := .int .i64 n) rfl; have f2 := hb.cell (i := 2) (v := .slice p xs.length k) rfl; have fl := hb.lt
  replace hfd := Lib.hid hfd; replace hml := Lib.hid hml; replace hlen := Lib.hid hlen; replace hlm := Lib.hid hlm
  go_enter Try.func50, Try.ntmps50
  go_wp2_with (first
    | (go_at_call 76; (with_reducible refine (hmk.out _ (HX.out.ext hx0)).mono ?_); rintro e w1 ⟨⟨q, kq, rfl, oq, hkq⟩, hx1⟩)
    | (go_at_call 35; (with_reducible refine (hsp.out _ _ _ oq.ints).mono ?_); rintro e w2 ⟨⟨q2, k2, rfl, oq2, hk2⟩, hx2⟩; have hR := (h0.ext hx1).ext hx2; have z0 := hR.cell (i := 0) (v := .int .i64 0) rfl; have z1 := hR.cell (i := 1) (v := .int .i64 0) rfl; have z2 := hR.cell (i := 2) (v := .slice none 0 0) rfl; have zl := hR.lt; have zf := hR.free))
  have hz1 := hx1.below.size
  simp only [World.size_alloc] at hz1
  have hF := ((hR.set 0 (.int .i64 n)).set 1 (.int .i64 n)).set 2 (.slice q2 (finL l m n xs).length k2)
  have c0 := hF.cell (i := 0) (v := .int .i64 n) rfl; have c1 := hF.cell (i := 1) (v := .int .i64 n) rfl; have c2 := hF.cell (i := 2) (v := .slice q2 (finL l m n xs).length k2) rfl
  have hx9 := ((((hx0.trans hx1).trans hx2).setCell (p := ⟨w.heap.size + 1, 0, none⟩) (Nat.le_succ _) (.int .i64 n)).setCell (p := ⟨w.heap.size + 1, 1, none⟩) (Nat.le_succ _) (.int .i64 n)).setCell (p := ⟨w.heap.size + 1, 2, none⟩) (Nat.le_succ _) (.slice q2 (finL l m n xs).length k2)
  have oq9 := ((oq2.setFar (g := w.heap.size + 1) (i := 0) (v := .int .i64 n) (by omega)).setFar (g := w.heap.size + 1) (i := 1) (v := .int .i64 n) (by omega)).setFar (g := w.heap.size + 1) (i := 2) (v := .slice q2 (finL l m n xs).length k2) (by omega)
  clear z0 z1 z2 zl zf f0 f1 f2 fl e1 e2
  exact bodyPost_ret (v := vGrid n n q2 (finL l m n xs).length k2) (by simp [results, Try.results50, go_sem, c0, c1, c2]) rfl ⟨⟨q2, k2, rfl, oq9.mono (by omega), hk2⟩, hx9⟩
/-- A finished grid: code, rows, columns, cells. -/
noncomputable def fgV (r c : Int) (xs : List Int) (l m : Int) : Int × Int × Int × List Int :=
  open Classical in if ¬ matOK r c xs then (1, 0, 0, []) else if ¬ ((0 ≤ l ∧ l ≤ 3) ∧ (0 ≤ m ∧ m ≤ 7)) then (2, 0, 0, []) else (0, r, c, finL l.toNat m.toNat r.toNat xs)
theorem fgV_len (r c : Int) (xs : List Int) (l m : Int) (h : xs.length ≤ 1048576) : (fgV r c xs l m).2.2.2.length ≤ 1048576 := by
  unfold fgV
  split
  · simp
  · split
    · simp
    · rw [finL_len]; exact h
theorem sMask_c (m : Int) (w : World) : Calls Try.prog 49 #[.int .i64 m] w fun e w' => isB e (0 ≤ m ∧ m ≤ 7) ∧ w = w' := by
  go_enter Try.func49, Try.ntmps49
  go_wp2_with (go_at_call 34; (with_reducible refine (l01In_c _ _ _ _).mono ?_); rintro e w1 ⟨⟨hP, rfl⟩ | ⟨hP, rfl⟩, rfl⟩)
  · go_ret
    exact ⟨isB_t hP, rfl⟩
  · go_ret
    exact ⟨isB_f hP, rfl⟩
set_option maxHeartbeats 1600000 in
set_option maxRecDepth 100000 in
theorem iFinishGrid_c (r c l m : Int) (p : Option Addr) (k : Nat) (xs : List Int) (w : World) (hx : IntsAt w p xs) (hl : xs.length ≤ 1048576) :
    Calls Try.prog 22 #[vGrid r c p xs.length k, .int .i64 l, .int .i64 m] w fun e w' => GrdC w.heap.size (fgV r c xs l m).1 (fgV r c xs l m).2.1 (fgV r c xs l m).2.2.1 (fgV r c xs l m).2.2.2 e w' ∧ Ext w w' := by
  have HX := Lib.hid hx; clear hx
  have hb := (Blk.new w #[.int .i64 r, .int .i64 c, .slice p xs.length k] 26).alloc (.cells #[.int .i64 0, .int .i64 0, .slice none 0 0] 26)
  have h0 := Blk.new (w.alloc (.cells #[.int .i64 r, .int .i64 c, .slice p xs.length k] 26)) #[.int .i64 0, .int .i64 0, .slice none 0 0] 26
  have hx0 : Ext w ((w.alloc (.cells #[.int .i64 r, .int .i64 c, .slice p xs.length k] 26)).alloc (.cells #[.int .i64 0, .int .i64 0, .slice none 0 0] 26)) := ((Ext.refl w).alloc _).alloc _
  simp only [World.size_alloc] at h0
  have hmt := Lib.hid (fun W (h : IntsAt W p xs) => iMat_c r c p k xs W h hl)
  by_cases h1 : matOK r c xs
  · by_cases h2 : (0 ≤ l ∧ l ≤ 3) ∧ (0 ≤ m ∧ m ≤ 7)
    · have hV : fgV r c xs l m = (0, r, c, finL l.toNat m.toNat r.toNat xs) := by unfold fgV; rw [if_neg (not_not_intro h1), if_neg (not_not_intro h2)]
      rw [hV]
      obtain ⟨n, rfl, rfl, hn1, hn2, hn4, hlen, hxb⟩ := matOK_nat h1
      obtain ⟨⟨h21, h22⟩, h23, h24⟩ := h2
      obtain ⟨lu, rfl⟩ := Int.eq_ofNat_of_zero_le h21
      obtain ⟨mu, rfl⟩ := Int.eq_ofNat_of_zero_le h23
      simp only [Int.toNat_natCast]
      replace h1 := Lib.hid h1
      clear hV
      have hcp := Lib.hid (fun W (h : IntsAt W p xs) => finished_c lu mu n k (by omega) (by omega) p xs W ⟨hn1, hn2⟩ hn4 h hlen hxb)
      clear hxb
      generalize finL lu mu n xs = F at *
      replace hlen := Lib.hid hlen
      have f0 := hb.cell (i := 0) (v := .int .i64 n) rfl; have f1 := hb.cell (i := 1) (v := .int .i64 n) rfl; have f2 := hb.cell (i := 2) (v := .slice p xs.length k) rfl; have fl := hb.lt
      go_enter Try.func22, Try.ntmps22
      go_wp2_with (first
        | (go_at_call 29; (with_reducible refine (hmt.out _ (HX.out.ext hx0)).mono ?_); rintro e w1 ⟨⟨hP, rfl⟩ | ⟨hP, rfl⟩, hx1⟩ <;> (first | exact absurd h1.out hP | skip); have hb1 := hb.ext hx1; have q0 := hb1.cell (i := 0) (v := .int .i64 n) rfl; have q1 := hb1.cell (i := 1) (v := .int .i64 n) rfl; have q2 := hb1.cell (i := 2) (v := .slice p xs.length k) rfl; have ql := hb1.lt)
        | (go_at_call 30; (with_reducible refine (inRange_c _ _ _ _).mono ?_); rintro e w' ⟨⟨hP, rfl⟩ | ⟨hP, rfl⟩, rfl⟩ <;> first | (exfalso; omega) | skip)
        | (go_at_call 52; (with_reducible refine (hcp.out _ (HX.out.ext (hx0.trans hx1))).mono ?_); rintro e w2 ⟨⟨q, kq, rfl, oq, hkq⟩, hx2⟩; have hR := (h0.ext hx1).ext hx2; have z0 := hR.cell (i := 0) (v := .int .i64 0) rfl; have z1 := hR.cell (i := 1) (v := .int .i64 0) rfl; have z2 := hR.cell (i := 2) (v := .slice none 0 0) rfl; have zl := hR.lt; have zf := hR.free))
      have hz1 := hx1.below.size
      simp only [World.size_alloc] at hz1
      have hF := ((hR.set 0 (.int .i64 n)).set 1 (.int .i64 n)).set 2 (.slice q F.length kq)
      have c0 := hF.cell (i := 0) (v := .int .i64 n) rfl; have c1 := hF.cell (i := 1) (v := .int .i64 n) rfl; have c2 := hF.cell (i := 2) (v := .slice q F.length kq) rfl
      have hx9 := ((((hx0.trans hx1).trans hx2).setCell (p := ⟨w.heap.size + 1, 0, none⟩) (Nat.le_succ _) (.int .i64 n)).setCell (p := ⟨w.heap.size + 1, 1, none⟩) (Nat.le_succ _) (.int .i64 n)).setCell (p := ⟨w.heap.size + 1, 2, none⟩) (Nat.le_succ _) (.slice q F.length kq)
      have oq9 := ((oq.setFar (g := w.heap.size + 1) (i := 0) (v := .int .i64 n) (by omega)).setFar (g := w.heap.size + 1) (i := 1) (v := .int .i64 n) (by omega)).setFar (g := w.heap.size + 1) (i := 2) (v := .slice q F.length kq) (by omega)
      clear z0 z1 z2 zl zf q0 q1 q2 ql f0 f1 f2 fl
      exact bodyPost_ret (v := .tuple #[vGrid n n q F.length kq, .int .i64 0]) (by simp [results, Try.results22, go_sem, c0, c1, c2]) rfl ⟨⟨q, kq, rfl, oq9.mono (by omega), hkq⟩, hx9⟩
    · have hV : fgV r c xs l m = (2, 0, 0, []) := by unfold fgV; rw [if_neg (not_not_intro h1), if_pos h2]
      rw [hV]
      replace h1 := Lib.hid h1
      clear hV
      have f0 := hb.cell (i := 0) (v := .int .i64 r) rfl; have f1 := hb.cell (i := 1) (v := .int .i64 c) rfl; have f2 := hb.cell (i := 2) (v := .slice p xs.length k) rfl; have fl := hb.lt
      by_cases hl3 : 0 ≤ l ∧ l ≤ 3
      · have hm7 : ¬ (0 ≤ m ∧ m ≤ 7) := fun h => h2 ⟨hl3, h⟩
        clear h2
        go_enter Try.func22, Try.ntmps22
        go_wp2_with (first
          | (go_at_call 29; (with_reducible refine (hmt.out _ (HX.out.ext hx0)).mono ?_); rintro e w1 ⟨⟨hP, rfl⟩ | ⟨hP, rfl⟩, hx1⟩ <;> (first | exact absurd h1.out hP | skip); have hb1 := h0.ext hx1; have q0 := hb1.cell (i := 0) (v := .int .i64 0) rfl; have q1 := hb1.cell (i := 1) (v := .int .i64 0) rfl; have q2 := hb1.cell (i := 2) (v := .slice none 0 0) rfl; have ql := hb1.lt; have qf := hb1.free)
          | (go_at_call 30; (with_reducible refine (inRange_c _ _ _ _).mono ?_); rintro e w' ⟨⟨hP, rfl⟩ | ⟨hP, rfl⟩, rfl⟩ <;> first | (exfalso; omega) | skip))
        have hF := ((hb1.set 0 (.int .i64 0)).set 1 (.int .i64 0)).set 2 (.slice none 0 0)
        have c0 := hF.cell (i := 0) (v := .int .i64 0) rfl; have c1 := hF.cell (i := 1) (v := .int .i64 0) rfl; have c2 := hF.cell (i := 2) (v := .slice none 0 0) rfl
        clear q0 q1 q2 ql qf
        exact bodyPost_ret (v := .tuple #[vGrid 0 0 none 0 0, .int .i64 2]) (by simp [results, Try.results22, go_sem, c0, c1, c2]) rfl ⟨⟨none, 0, rfl, OwnInts.nil _ _ _, Nat.le_refl _⟩, (((hx0.trans hx1).setCell (Nat.le_succ _) _).setCell (Nat.le_succ _) _).setCell (Nat.le_succ _) _⟩
      · clear h2
        go_enter Try.func22, Try.ntmps22
        go_wp2_with (first
          | (go_at_call 29; (with_reducible refine (hmt.out _ (HX.out.ext hx0)).mono ?_); rintro e w1 ⟨⟨hP, rfl⟩ | ⟨hP, rfl⟩, hx1⟩ <;> (first | exact absurd h1.out hP | skip); have hb1 := h0.ext hx1; have q0 := hb1.cell (i := 0) (v := .int .i64 0) rfl; have q1 := hb1.cell (i := 1) (v := .int .i64 0) rfl; have q2 := hb1.cell (i := 2) (v := .slice none 0 0) rfl; have ql := hb1.lt; have qf := hb1.free)
          | (go_at_call 30; (with_reducible refine (inRange_c _ _ _ _).mono ?_); rintro e w' ⟨⟨hP, rfl⟩ | ⟨hP, rfl⟩, rfl⟩ <;> first | (exfalso; omega) | skip))
        have hF := ((hb1.set 0 (.int .i64 0)).set 1 (.int .i64 0)).set 2 (.slice none 0 0)
        have c0 := hF.cell (i := 0) (v := .int .i64 0) rfl; have c1 := hF.cell (i := 1) (v := .int .i64 0) rfl; have c2 := hF.cell (i := 2) (v := .slice none 0 0) rfl
        clear q0 q1 q2 ql qf
        exact bodyPost_ret (v := .tuple #[vGrid 0 0 none 0 0, .int .i64 2]) (by simp [results, Try.results22, go_sem, c0, c1, c2]) rfl ⟨⟨none, 0, rfl, OwnInts.nil _ _ _, Nat.le_refl _⟩, (((hx0.trans hx1).setCell (Nat.le_succ _) _).setCell (Nat.le_succ _) _).setCell (Nat.le_succ _) _⟩
  · have hV : fgV r c xs l m = (1, 0, 0, []) := by unfold fgV; rw [if_pos h1]
    rw [hV]
    replace h1 := Lib.hid h1
    clear hV
    have f0 := hb.cell (i := 0) (v := .int .i64 r) rfl; have f1 := hb.cell (i := 1) (v := .int .i64 c) rfl; have f2 := hb.cell (i := 2) (v := .slice p xs.length k) rfl; have fl := hb.lt
    go_enter Try.func22, Try.ntmps22
    go_wp2_with (go_at_call 29; (with_reducible refine (hmt.out _ (HX.out.ext hx0)).mono ?_); rintro e w1 ⟨⟨hP, rfl⟩ | ⟨hP, rfl⟩, hx1⟩ <;> (first | exact absurd hP h1.out | skip); have hb1 := h0.ext hx1; have q0 := hb1.cell (i := 0) (v := .int .i64 0) rfl; have q1 := hb1.cell (i := 1) (v := .int .i64 0) rfl; have q2 := hb1.cell (i := 2) (v := .slice none 0 0) rfl; have ql := hb1.lt; have qf := hb1.free)
    have hF := ((hb1.set 0 (.int .i64 0)).set 1 (.int .i64 0)).set 2 (.slice none 0 0)
    have c0 := hF.cell (i := 0) (v := .int .i64 0) rfl; have c1 := hF.cell (i := 1) (v := .int .i64 0) rfl; have c2 := hF.cell (i := 2) (v := .slice none 0 0) rfl
    clear q0 q1 q2 ql qf
    exact bodyPost_ret (v := .tuple #[vGrid 0 0 none 0 0, .int .i64 1]) (by simp [results, Try.results22, go_sem, c0, c1, c2]) rfl ⟨⟨none, 0, rfl, OwnInts.nil _ _ _, Nat.le_refl _⟩, (((hx0.trans hx1).setCell (Nat.le_succ _) _).setCell (Nat.le_succ _) _).setCell (Nat.le_succ _) _⟩
set_option maxHeartbeats 1600000 in
set_option maxRecDepth 100000 in
theorem sFinishGrid_c (r c l m : Int) (p : Option Addr) (k : Nat) (xs : List Int) (w : World) (hx : IntsAt w p xs) (hl : xs.length ≤ 1048576) :
    Calls Try.prog 20 #[vGrid r c p xs.length k, .int .i64 l, .int .i64 m] w fun e w' => GrdC w.heap.size (fgV r c xs l m).1 (fgV r c xs l m).2.1 (fgV r c xs l m).2.2.1 (fgV r c xs l m).2.2.2 e w' ∧ Ext w w' := by
  have HX := Lib.hid hx; clear hx
  have hb := (Blk.new w #[.int .i64 r, .int .i64 c, .slice p xs.length k] 26).alloc (.cells #[.int .i64 0, .int .i64 0, .slice none 0 0] 26)
  have h0 := Blk.new (w.alloc (.cells #[.int .i64 r, .int .i64 c, .slice p xs.length k] 26)) #[.int .i64 0, .int .i64 0, .slice none 0 0] 26
  have hx0 : Ext w ((w.alloc (.cells #[.int .i64 r, .int .i64 c, .slice p xs.length k] 26)).alloc (.cells #[.int .i64 0, .int .i64 0, .slice none 0 0] 26)) := ((Ext.refl w).alloc _).alloc _
  simp only [World.size_alloc] at h0
  have hmt := Lib.hid (fun W (h : IntsAt W p xs) => sMat_c r c p k xs W h hl)
  by_cases h1 : matOK r c xs
  · by_cases h2 : (0 ≤ l ∧ l ≤ 3) ∧ (0 ≤ m ∧ m ≤ 7)
    · have hV : fgV r c xs l m = (0, r, c, finL l.toNat m.toNat r.toNat xs) := by unfold fgV; rw [if_neg (not_not_intro h1), if_neg (not_not_intro h2)]
      rw [hV]
      obtain ⟨n, rfl, rfl, hn1, hn2, hn4, hlen, hxb⟩ := matOK_nat h1
      obtain ⟨⟨h21, h22⟩, h23, h24⟩ := h2
      obtain ⟨lu, rfl⟩ := Int.eq_ofNat_of_zero_le h21
      obtain ⟨mu, rfl⟩ := Int.eq_ofNat_of_zero_le h23
      simp only [Int.toNat_natCast]
      replace h1 := Lib.hid h1
      clear hV
      have hcp := Lib.hid (fun W (h : IntsAt W p xs) => sFinish_c lu mu n k (by omega) (by omega) p xs W ⟨hn1, hn2⟩ hn4 h hlen hxb)
      clear hxb
      generalize finL lu mu n xs = F at *
      replace hlen := Lib.hid hlen
      have f0 := hb.cell (i := 0) (v := .int .i64 n) rfl; have f1 := hb.cell (i := 1) (v := .int .i64 n) rfl; have f2 := hb.cell (i := 2) (v := .slice p xs.length k) rfl; have fl := hb.lt
      go_enter Try.func20, Try.ntmps20
      go_wp2_with (first
        | (go_at_call 33; (with_reducible refine (hmt.out _ (HX.out.ext hx0)).mono ?_); rintro e w1 ⟨⟨hP, rfl⟩ | ⟨hP, rfl⟩, hx1⟩ <;> (first | exact absurd h1.out hP | skip); have hb1 := hb.ext hx1; have q0 := hb1.cell (i := 0) (v := .int .i64 n) rfl; have q1 := hb1.cell (i := 1) (v := .int .i64 n) rfl; have q2 := hb1.cell (i := 2) (v := .slice p xs.length k) rfl; have ql := hb1.lt)
        | (go_at_call 34; (with_reducible refine (l01In_c _ _ _ _).mono ?_); rintro e w' ⟨⟨hP, rfl⟩ | ⟨hP, rfl⟩, rfl⟩ <;> first | (exfalso; omega) | skip) | (go_at_call 49; (with_reducible refine (sMask_c _ _).mono ?_); rintro e w' ⟨⟨hP, rfl⟩ | ⟨hP, rfl⟩, rfl⟩ <;> first | (exfalso; omega) | skip)
        | (go_at_call 50; (with_reducible refine (hcp.out _ (HX.out.ext (hx0.trans hx1))).mono ?_); rintro e w2 ⟨⟨q, kq, rfl, oq, hkq⟩, hx2⟩; have hR := (h0.ext hx1).ext hx2; have z0 := hR.cell (i := 0) (v := .int .i64 0) rfl; have z1 := hR.cell (i := 1) (v := .int .i64 0) rfl; have z2 := hR.cell (i := 2) (v := .slice none 0 0) rfl; have zl := hR.lt; have zf := hR.free))
      have hz1 := hx1.below.size
      simp only [World.size_alloc] at hz1
      have hF := ((hR.set 0 (.int .i64 n)).set 1 (.int .i64 n)).set 2 (.slice q F.length kq)
      have c0 := hF.cell (i := 0) (v := .int .i64 n) rfl; have c1 := hF.cell (i := 1) (v := .int .i64 n) rfl; have c2 := hF.cell (i := 2) (v := .slice q F.length kq) rfl
      have hx9 := ((((hx0.trans hx1).trans hx2).setCell (p := ⟨w.heap.size + 1, 0, none⟩) (Nat.le_succ _) (.int .i64 n)).setCell (p := ⟨w.heap.size + 1, 1, none⟩) (Nat.le_succ _) (.int .i64 n)).setCell (p := ⟨w.heap.size + 1, 2, none⟩) (Nat.le_succ _) (.slice q F.length kq)
      have oq9 := ((oq.setFar (g := w.heap.size + 1) (i := 0) (v := .int .i64 n) (by omega)).setFar (g := w.heap.size + 1) (i := 1) (v := .int .i64 n) (by omega)).setFar (g := w.heap.size + 1) (i := 2) (v := .slice q F.length kq) (by omega)
      clear z0 z1 z2 zl zf q0 q1 q2 ql f0 f1 f2 fl
      exact bodyPost_ret (v := .tuple #[vGrid n n q F.length kq, .int .i64 0]) (by simp [results, Try.results20, go_sem, c0, c1, c2]) rfl ⟨⟨q, kq, rfl, oq9.mono (by omega), hkq⟩, hx9⟩
    · have hV : fgV r c xs l m = (2, 0, 0, []) := by unfold fgV; rw [if_neg (not_not_intro h1), if_pos h2]
      rw [hV]
      replace h1 := Lib.hid h1
      clear hV
      have f0 := hb.cell (i := 0) (v := .int .i64 r) rfl; have f1 := hb.cell (i := 1) (v := .int .i64 c) rfl; have f2 := hb.cell (i := 2) (v := .slice p xs.length k) rfl; have fl := hb.lt
      by_cases hl3 : 0 ≤ l ∧ l ≤ 3
      · have hm7 : ¬ (0 ≤ m ∧ m ≤ 7) := fun h => h2 ⟨hl3, h⟩
        clear h2
        go_enter Try.func20, Try.ntmps20
        go_wp2_with (first
          | (go_at_call 33; (with_reducible refine (hmt.out _ (HX.out.ext hx0)).mono ?_); rintro e w1 ⟨⟨hP, rfl⟩ | ⟨hP, rfl⟩, hx1⟩ <;> (first | exact absurd h1.out hP | skip); have hb1 := h0.ext hx1; have q0 := hb1.cell (i := 0) (v := .int .i64 0) rfl; have q1 := hb1.cell (i := 1) (v := .int .i64 0) rfl; have q2 := hb1.cell (i := 2) (v := .slice none 0 0) rfl; have ql := hb1.lt; have qf := hb1.free)
          | (go_at_call 34; (with_reducible refine (l01In_c _ _ _ _).mono ?_); rintro e w' ⟨⟨hP, rfl⟩ | ⟨hP, rfl⟩, rfl⟩ <;> first | (exfalso; omega) | skip) | (go_at_call 49; (with_reducible refine (sMask_c _ _).mono ?_); rintro e w' ⟨⟨hP, rfl⟩ | ⟨hP, rfl⟩, rfl⟩ <;> first | (exfalso; omega) | skip))
        have hF := ((hb1.set 0 (.int .i64 0)).set 1 (.int .i64 0)).set 2 (.slice none 0 0)
        have c0 := hF.cell (i := 0) (v := .int .i64 0) rfl; have c1 := hF.cell (i := 1) (v := .int .i64 0) rfl; have c2 := hF.cell (i := 2) (v := .slice none 0 0) rfl
        clear q0 q1 q2 ql qf
        exact bodyPost_ret (v := .tuple #[vGrid 0 0 none 0 0, .int .i64 2]) (by simp [results, Try.results20, go_sem, c0, c1, c2]) rfl ⟨⟨none, 0, rfl, OwnInts.nil _ _ _, Nat.le_refl _⟩, (((hx0.trans hx1).setCell (Nat.le_succ _) _).setCell (Nat.le_succ _) _).setCell (Nat.le_succ _) _⟩
      · clear h2
        go_enter Try.func20, Try.ntmps20
        go_wp2_with (first
          | (go_at_call 33; (with_reducible refine (hmt.out _ (HX.out.ext hx0)).mono ?_); rintro e w1 ⟨⟨hP, rfl⟩ | ⟨hP, rfl⟩, hx1⟩ <;> (first | exact absurd h1.out hP | skip); have hb1 := h0.ext hx1; have q0 := hb1.cell (i := 0) (v := .int .i64 0) rfl; have q1 := hb1.cell (i := 1) (v := .int .i64 0) rfl; have q2 := hb1.cell (i := 2) (v := .slice none 0 0) rfl; have ql := hb1.lt; have qf := hb1.free)
          | (go_at_call 34; (with_reducible refine (l01In_c _ _ _ _).mono ?_); rintro e w' ⟨⟨hP, rfl⟩ | ⟨hP, rfl⟩, rfl⟩ <;> first | (exfalso; omega) | skip) | (go_at_call 49; (with_reducible refine (sMask_c _ _).mono ?_); rintro e w' ⟨⟨hP, rfl⟩ | ⟨hP, rfl⟩, rfl⟩ <;> first | (exfalso; omega) | skip))
        have hF := ((hb1.set 0 (.int .i64 0)).set 1 (.int .i64 0)).set 2 (.slice none 0 0)
        have c0 := hF.cell (i := 0) (v := .int .i64 0) rfl; have c1 := hF.cell (i := 1) (v := .int .i64 0) rfl; have c2 := hF.cell (i := 2) (v := .slice none 0 0) rfl
        clear q0 q1 q2 ql qf
        exact bodyPost_ret (v := .tuple #[vGrid 0 0 none 0 0, .int .i64 2]) (by simp [results, Try.results20, go_sem, c0, c1, c2]) rfl ⟨⟨none, 0, rfl, OwnInts.nil _ _ _, Nat.le_refl _⟩, (((hx0.trans hx1).setCell (Nat.le_succ _) _).setCell (Nat.le_succ _) _).setCell (Nat.le_succ _) _⟩
  · have hV : fgV r c xs l m = (1, 0, 0, []) := by unfold fgV; rw [if_pos h1]
    rw [hV]
    replace h1 := Lib.hid h1
    clear hV
    have f0 := hb.cell (i := 0) (v := .int .i64 r) rfl; have f1 := hb.cell (i := 1) (v := .int .i64 c) rfl; have f2 := hb.cell (i := 2) (v := .slice p xs.length k) rfl; have fl := hb.lt
    go_enter Try.func20, Try.ntmps20
    go_wp2_with (go_at_call 33; (with_reducible refine (hmt.out _ (HX.out.ext hx0)).mono ?_); rintro e w1 ⟨⟨hP, rfl⟩ | ⟨hP, rfl⟩, hx1⟩ <;> (first | exact absurd hP h1.out | skip); have hb1 := h0.ext hx1; have q0 := hb1.cell (i := 0) (v := .int .i64 0) rfl; have q1 := hb1.cell (i := 1) (v := .int .i64 0) rfl; have q2 := hb1.cell (i := 2) (v := .slice none 0 0) rfl; have ql := hb1.lt; have qf := hb1.free)
    have hF := ((hb1.set 0 (.int .i64 0)).set 1 (.int .i64 0)).set 2 (.slice none 0 0)
    have c0 := hF.cell (i := 0) (v := .int .i64 0) rfl; have c1 := hF.cell (i := 1) (v := .int .i64 0) rfl; have c2 := hF.cell (i := 2) (v := .slice none 0 0) rfl
    clear q0 q1 q2 ql qf
    exact bodyPost_ret (v := .tuple #[vGrid 0 0 none 0 0, .int .i64 1]) (by simp [results, Try.results20, go_sem, c0, c1, c2]) rfl ⟨⟨none, 0, rfl, OwnInts.nil _ _ _, Nat.le_refl _⟩, (((hx0.trans hx1).setCell (Nat.le_succ _) _).setCell (Nat.le_succ _) _).setCell (Nat.le_succ _) _⟩
end Go.Proofs.Ythjklchmjeojjaa
