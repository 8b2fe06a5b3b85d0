
/- Matrix grids: validity, cells at places, format words written and read. -/
import Derived.Test.YthjklchmjeojjaaFixedG
import Derived.Test.YthjklchmjeojjaaFmtS
import Derived.Test.YthjklchmjeojjaaFmt
import Derived.Test.YthjklchmjeojjaaGridLaw
import Derived.Test.YthjklchmjeojjaaDrawPrint
/-! Matrix grids: validity, cells at places, format words written and read. -/
namespace Go.Proofs.Ythjklchmjeojjaa
set_option linter.unusedVariables false
set_option linter.unusedSimpArgs false
open Go.RowKit

def sizOK (n : Int) : Prop := (17 ≤ n ∧ n ≤ 41) ∧ n % 4 = 1
def matOK (r c : Int) (xs : List Int) : Prop := gridOK r c xs ∧ r = c ∧ sizOK r
theorem iSize_c (n : Int) (w : World) : Calls Try.prog 58 #[.int .i64 n] w fun e w' => isB e (sizOK n) ∧ w = w' := by
  have hv : sizOK n ↔ (17 ≤ n ∧ n ≤ 41) ∧ n % 4 = 1 := Iff.rfl
  generalize sizOK n = I at *
  by_cases h0 : 0 ≤ n
  · have e2 : n.tmod 4 = n % 4 := Int.tmod_eq_emod_of_nonneg h0
    replace hv := Lib.hid hv
    go_enter Try.func58, Try.ntmps58
    go_wp2_with (go_at_call 30; (with_reducible refine (inRange_c _ _ _ _).mono ?_); rintro e w1 ⟨⟨hP, rfl⟩ | ⟨hP, rfl⟩, rfl⟩)
    · go_ret
      exact ⟨isB_m (by rw [hv.out]; simp [hP]), rfl⟩
    · go_ret
      exact ⟨isB_f (fun h => hP (hv.out.1 h).1), rfl⟩
  · replace hv := Lib.hid hv
    go_enter Try.func58, Try.ntmps58
    go_wp2_with ((go_at_call 30; (with_reducible refine (inRange_c _ _ _ _).mono ?_); rintro e w1 ⟨⟨hP, rfl⟩ | ⟨hP, rfl⟩, rfl⟩) <;> first | (exfalso; omega) | skip)
    go_ret
    exact ⟨isB_f (fun h => hP (hv.out.1 h).1), rfl⟩
theorem sSize_c (n : Int) (w : World) : Calls Try.prog 37 #[.int .i64 n] w fun e w' => isB e (sizOK n) ∧ w = w' := by
  have hv : sizOK n ↔ (17 ≤ n ∧ n ≤ 41) ∧ n % 4 = 1 := Iff.rfl
  generalize sizOK n = I at *
  by_cases h0 : 0 ≤ n
  · have e2 : n.tmod 4 = n % 4 := Int.tmod_eq_emod_of_nonneg h0
    replace hv := Lib.hid hv
    go_enter Try.func37, Try.ntmps37
    go_wp2_with (go_at_call 34; (with_reducible refine (l01In_c _ _ _ _).mono ?_); rintro e w1 ⟨⟨hP, rfl⟩ | ⟨hP, rfl⟩, rfl⟩)
    · go_ret
      exact ⟨isB_m (by rw [hv.out]; simp [hP]), rfl⟩
    · go_ret
      exact ⟨isB_f (fun h => hP (hv.out.1 h).1), rfl⟩
  · replace hv := Lib.hid hv
    go_enter Try.func37, Try.ntmps37
    go_wp2_with ((go_at_call 34; (with_reducible refine (l01In_c _ _ _ _).mono ?_); rintro e w1 ⟨⟨hP, rfl⟩ | ⟨hP, rfl⟩, rfl⟩) <;> first | (exfalso; omega) | skip)
    go_ret
    exact ⟨isB_f (fun h => hP (hv.out.1 h).1), rfl⟩
set_option maxRecDepth 100000 in
theorem iMat_c (r c : Int) (p : Option Addr) (k : Nat) (xs : List Int) (w : World) (hx : IntsAt w p xs) (hl : xs.length ≤ 1048576) :
    Calls Try.prog 29 #[vGrid r c p xs.length k] w fun e w' => isB e (matOK r c xs) ∧ Ext w w' := by
  have HX := Lib.hid hx; clear hx
  have hb := Blk.new w #[.int .i64 r, .int .i64 c, .slice p xs.length k] 26
  have hx0 : Ext w (w.alloc (.cells #[.int .i64 r, .int .i64 c, .slice p xs.length k] 26)) := (Ext.refl w).alloc _
  have hig := Lib.hid (fun W (h : IntsAt W p xs) => iIsGrid_c r c p k xs W h hl)
  have hsz := Lib.hid (fun W => iSize_c r W)
  have hv := Lib.hid (show matOK r c xs ↔ gridOK r c xs ∧ r = c ∧ sizOK r from Iff.rfl)
  have hd : (r == c) = true ∧ r = c ∨ (r == c) = false ∧ ¬ r = c := by by_cases h : r = c <;> simp [h]
  generalize matOK r c xs = M at *
  generalize gridOK r c xs = G at *
  generalize sizOK r = Z at *
  rcases hd with ⟨hd, h6⟩ | ⟨hd, h6⟩
  all_goals
    replace h6 := Lib.hid h6
    go_enter Try.func29, Try.ntmps29
    go_wp2_with (first
      | (go_at_call 58; (with_reducible refine (hsz.out _).mono ?_); rintro e w1 ⟨⟨hP, rfl⟩ | ⟨hP, rfl⟩, rfl⟩)
      | (go_at_call 59; (with_reducible refine (hig.out _ (HX.out.ext hx0)).mono ?_); rintro e w2 ⟨⟨hQ, rfl⟩ | ⟨hQ, rfl⟩, hx2⟩; all_goals (have hb1 := hb.ext hx2; have f0 := hb1.cell (i := 0) (v := .int .i64 r) rfl; have f1 := hb1.cell (i := 1) (v := .int .i64 c) rfl; have fl := hb1.lt)))
    all_goals
      go_ret
      first
        | exact ⟨isB_t (hv.out.2 ⟨hQ, h6.out, hP⟩), (by repeat (first | exact Ext.refl _ | assumption | refine Ext.drew ?_ | refine Ext.drewN ?_ _ | refine Ext.iter ?_ _ _ | refine Ext.alloc ?_ _ | refine Ext.setCell ?_ (by first | exact Nat.le_refl _ | (simp <;> omega)) _ | refine Ext.trans2 (by assumption) ?_))⟩
        | exact ⟨isB_f (fun h => hP (hv.out.1 h).2.2), (by repeat (first | exact Ext.refl _ | assumption | refine Ext.drew ?_ | refine Ext.drewN ?_ _ | refine Ext.iter ?_ _ _ | refine Ext.alloc ?_ _ | refine Ext.setCell ?_ (by first | exact Nat.le_refl _ | (simp <;> omega)) _ | refine Ext.trans2 (by assumption) ?_))⟩
        | exact ⟨isB_f (fun h => hQ (hv.out.1 h).1), (by repeat (first | exact Ext.refl _ | assumption | refine Ext.drew ?_ | refine Ext.drewN ?_ _ | refine Ext.iter ?_ _ _ | refine Ext.alloc ?_ _ | refine Ext.setCell ?_ (by first | exact Nat.le_refl _ | (simp <;> omega)) _ | refine Ext.trans2 (by assumption) ?_))⟩
        | exact ⟨isB_f (fun h => h6.out (hv.out.1 h).2.1), (by repeat (first | exact Ext.refl _ | assumption | refine Ext.drew ?_ | refine Ext.drewN ?_ _ | refine Ext.iter ?_ _ _ | refine Ext.alloc ?_ _ | refine Ext.setCell ?_ (by first | exact Nat.le_refl _ | (simp <;> omega)) _ | refine Ext.trans2 (by assumption) ?_))⟩
        | exact ⟨isB_f (fun h => hP (hv.out.1 h).2.2), hx0.trans hx2⟩
        | exact ⟨isB_f (fun h => hQ (hv.out.1 h).1), hx0.trans hx2⟩
        | exact ⟨isB_f (fun h => h6.out (hv.out.1 h).2.1), hx0.trans hx2⟩
        | exact ⟨isB_t (hv.out.2 ⟨hQ, h6.out, hP⟩), hx0.trans hx2⟩
set_option maxRecDepth 100000 in
theorem sMat_c (r c : Int) (p : Option Addr) (k : Nat) (xs : List Int) (w : World) (hx : IntsAt w p xs) (hl : xs.length ≤ 1048576) :
    Calls Try.prog 33 #[vGrid r c p xs.length k] w fun e w' => isB e (matOK r c xs) ∧ Ext w w' := by
  have HX := Lib.hid hx; clear hx
  have hb := Blk.new w #[.int .i64 r, .int .i64 c, .slice p xs.length k] 26
  have hx0 : Ext w (w.alloc (.cells #[.int .i64 r, .int .i64 c, .slice p xs.length k] 26)) := (Ext.refl w).alloc _
  have hig := Lib.hid (fun W (h : IntsAt W p xs) => sIsGrid_c r c p k xs W h hl)
  have hsz := Lib.hid (fun W => sSize_c r W)
  have hv := Lib.hid (show matOK r c xs ↔ gridOK r c xs ∧ r = c ∧ sizOK r from Iff.rfl)
  have hd : (r == c) = true ∧ r = c ∨ (r == c) = false ∧ ¬ r = c := by by_cases h : r = c <;> simp [h]
  generalize matOK r c xs = M at *
  generalize gridOK r c xs = G at *
  generalize sizOK r = Z at *
  rcases hd with ⟨hd, h6⟩ | ⟨hd, h6⟩
  all_goals
    replace h6 := Lib.hid h6
    go_enter Try.func33, Try.ntmps33
    go_wp2_with (first
      | (go_at_call 37; (with_reducible refine (hsz.out _).mono ?_); rintro e w1 ⟨⟨hP, rfl⟩ | ⟨hP, rfl⟩, rfl⟩)
      | (go_at_call 64; (with_reducible refine (hig.out _ (HX.out.ext hx0)).mono ?_); rintro e w2 ⟨⟨hQ, rfl⟩ | ⟨hQ, rfl⟩, hx2⟩; all_goals (have hb1 := hb.ext hx2; have f0 := hb1.cell (i := 0) (v := .int .i64 r) rfl; have f1 := hb1.cell (i := 1) (v := .int .i64 c) rfl; have fl := hb1.lt)))
    all_goals
      go_ret
      first
        | exact ⟨isB_t (hv.out.2 ⟨hQ, h6.out, hP⟩), (by repeat (first | exact Ext.refl _ | assumption | refine Ext.drew ?_ | refine Ext.drewN ?_ _ | refine Ext.iter ?_ _ _ | refine Ext.alloc ?_ _ | refine Ext.setCell ?_ (by first | exact Nat.le_refl _ | (simp <;> omega)) _ | refine Ext.trans2 (by assumption) ?_))⟩
        | exact ⟨isB_f (fun h => hP (hv.out.1 h).2.2), (by repeat (first | exact Ext.refl _ | assumption | refine Ext.drew ?_ | refine Ext.drewN ?_ _ | refine Ext.iter ?_ _ _ | refine Ext.alloc ?_ _ | refine Ext.setCell ?_ (by first | exact Nat.le_refl _ | (simp <;> omega)) _ | refine Ext.trans2 (by assumption) ?_))⟩
        | exact ⟨isB_f (fun h => hQ (hv.out.1 h).1), (by repeat (first | exact Ext.refl _ | assumption | refine Ext.drew ?_ | refine Ext.drewN ?_ _ | refine Ext.iter ?_ _ _ | refine Ext.alloc ?_ _ | refine Ext.setCell ?_ (by first | exact Nat.le_refl _ | (simp <;> omega)) _ | refine Ext.trans2 (by assumption) ?_))⟩
        | exact ⟨isB_f (fun h => h6.out (hv.out.1 h).2.1), (by repeat (first | exact Ext.refl _ | assumption | refine Ext.drew ?_ | refine Ext.drewN ?_ _ | refine Ext.iter ?_ _ _ | refine Ext.alloc ?_ _ | refine Ext.setCell ?_ (by first | exact Nat.le_refl _ | (simp <;> omega)) _ | refine Ext.trans2 (by assumption) ?_))⟩
        | exact ⟨isB_f (fun h => hP (hv.out.1 h).2.2), hx0.trans hx2⟩
        | exact ⟨isB_f (fun h => hQ (hv.out.1 h).1), hx0.trans hx2⟩
        | exact ⟨isB_f (fun h => h6.out (hv.out.1 h).2.1), hx0.trans hx2⟩
        | exact ⟨isB_t (hv.out.2 ⟨hQ, h6.out, hP⟩), hx0.trans hx2⟩
theorem matOK_nat {r c : Int} {xs : List Int} (h : matOK r c xs) : ∃ n : Nat, r = n ∧ c = n ∧ 17 ≤ n ∧ n ≤ 41 ∧ n % 4 = 1 ∧ xs.length = n * n ∧ ∀ x ∈ xs, -1 ≤ x ∧ x ≤ 1 := by
  obtain ⟨hg, rfl, h1, h2⟩ := h
  obtain ⟨R, C, e1, e2, _, _, _, hl⟩ := grid_nat hg
  obtain rfl : R = C := by omega
  exact ⟨R, e1, e1, by omega, by omega, by omega, hl, hg.2.2.2.2⟩
/-- Where a place lies in a square grid. -/
def plIx (n : Nat) (p : Int × Int) : Nat := (p.1 * n + p.2).toNat
theorem plIx_eq {n : Nat} {p : Int × Int} (h1 : 0 ≤ p.1 ∧ p.1 < n) (h2 : 0 ≤ p.2 ∧ p.2 < n) : p.1 * (n : Int) + p.2 = (plIx n p : Int) ∧ plIx n p < n * n ∧ 0 ≤ p.1 * (n : Int) := by
  obtain ⟨r, c⟩ := p
  simp only at h1 h2
  obtain ⟨a, rfl⟩ := Int.eq_ofNat_of_zero_le h1.1
  obtain ⟨b, rfl⟩ := Int.eq_ofNat_of_zero_le h2.1
  have h3 : a < n := by omega
  have h4 : b < n := by omega
  have h5 : (a + 1) * n ≤ n * n := Nat.mul_le_mul_right n h3
  rw [Nat.add_mul, Nat.one_mul] at h5
  have e : ((a : Int) * (n : Int) + (b : Int)) = ((a * n + b : Nat) : Int) := by simp
  have e2 : plIx n ((a : Int), (b : Int)) = a * n + b := by
    show ((a : Int) * (n : Int) + (b : Int)).toNat = _
    rw [e]; exact Int.toNat_natCast _
  refine ⟨by rw [e2]; exact e, by rw [e2]; omega, Int.mul_nonneg (by omega) (by omega)⟩
theorem aPl_bd : ∀ p ∈ aPl, (0 ≤ p.1 ∧ p.1 ≤ 8) ∧ (0 ≤ p.2 ∧ p.2 ≤ 8) := by decide
theorem bPl_bd {n : Nat} (hn : 17 ≤ n) : ∀ p ∈ bPl n, (0 ≤ p.1 ∧ p.1 < n) ∧ (0 ≤ p.2 ∧ p.2 < n) := by
  intro p hp
  simp only [bPl, List.mem_cons, List.not_mem_nil, or_false] at hp
  rcases hp with rfl | rfl | rfl | rfl | rfl | rfl | rfl | rfl | rfl | rfl | rfl | rfl | rfl | rfl | rfl <;> simp only <;> omega
theorem aPl_in {n : Nat} (hn : 17 ≤ n) : ∀ p ∈ aPl, (0 ≤ p.1 ∧ p.1 < n) ∧ (0 ≤ p.2 ∧ p.2 < n) := fun p hp => by have := aPl_bd p hp; omega
/-- The first k bits of a word, written to both lists of places. -/
def pFmt (n : Nat) (ws xs : List Int) : Nat → List Int
  | 0 => xs
  | k + 1 => ((pFmt n ws xs k).set (plIx n (aPl.getD k (0, 0))) (ws.getD k 0)).set (plIx n ((bPl n).getD k (0, 0))) (ws.getD k 0)
theorem pFmt_len (n : Nat) (ws xs : List Int) : ∀ k, (pFmt n ws xs k).length = xs.length
  | 0 => rfl
  | k + 1 => by simp [pFmt, pFmt_len n ws xs k]
/-- The cells at some places. -/
def cellsL (n : Nat) (xs : List Int) (ps : List (Int × Int)) : List Int := ps.map fun p => xs.getD (plIx n p) 0
theorem SAt.pl2 {w : World} {p : Option Addr} {ps : List (Int × Int)} (h : PlAt w p ps) {k : Nat} (hk : k < ps.length) : ∃ b o, p = some ⟨b, o, none⟩ ∧ b < w.heap.size ∧ w.cell? ⟨b, o + k * 2, none⟩ = some (.int .i64 (ps.getD k (0, 0)).1) ∧ w.cell? ⟨b, o + k * 2 + 1, none⟩ = some (.int .i64 (ps.getD k (0, 0)).2) := by
  obtain ⟨b, o, h1, h2, h3⟩ := h k hk
  refine ⟨b, o, h1, h2, ?_, ?_⟩
  · rw [List.getD_eq_getElem?_getD, List.getElem?_eq_getElem hk]
    exact h3 0 _ rfl
  · rw [List.getD_eq_getElem?_getD, List.getElem?_eq_getElem hk]
    exact h3 1 _ rfl
theorem getD_mem {α : Type} {l : List α} {k : Nat} {d : α} (h : k < l.length) : l.getD k d ∈ l := by
  rw [List.getD_eq_getElem?_getD, List.getElem?_eq_getElem h]; exact List.getElem_mem _
theorem RowS.nfree {α : Type} {f : α → List Value} {k : Nat} {e : TypeId} {B : Nat} {w : World} {v : Value} {xs : List α} (hf : ∀ x, (f x).length = k) (h : RowS e f k B w v xs) : ∃ p c, v = .slice p xs.length c ∧ SAt f k w p xs ∧ ∀ b o, p = some ⟨b, o, none⟩ → B ≤ b ∧ b < w.heap.size := by
  obtain ⟨p, c, hv, ho⟩ := h.own hf
  refine ⟨p, c, hv, ho.sat, fun b o hp => h.lt b (by rw [hv, hp]; rfl)⟩
theorem SAt.butF {α : Type} {f : α → List Value} {k g : Nat} {w w' : World} {p : Option Addr} {xs : List α} (h : SAt f k w p xs) (hb : But g w w') (hne : ∀ b o, p = some ⟨b, o, none⟩ → b ≠ g) : SAt f k w' p xs := fun i hi => by
  obtain ⟨b, o, h1, h2, h3⟩ := h i hi
  obtain ⟨hc, hf, hk, _⟩ := bucell hb
  exact ⟨b, o, h1, hk _ h2, fun j v hv => by rw [hc _ _ h2 (hne b o h1)]; exact h3 j v hv⟩
theorem IntsAt.butF {g : Nat} {w w' : World} {p : Option Addr} {xs : List Int} (h : IntsAt w p xs) (hb : But g w w') (hne : ∀ b o, p = some ⟨b, o, none⟩ → b ≠ g) : IntsAt w' p xs := fun i hi => by
  obtain ⟨b, o, h1, h2, h3⟩ := h i hi
  obtain ⟨hc, hf, hk, _⟩ := bucell hb
  exact ⟨b, o, h1, hk _ h2, by rw [hc _ _ h2 (hne b o h1)]; exact h3⟩
set_option maxHeartbeats 1600000 in
set_option maxRecDepth 100000 in
theorem putFormat_c (B : Nat) (n b o k v : Nat) (xs : List Int) (w : World) (hv : v < 32) (hn : 17 ≤ n ∧ n ≤ 41) (hlen : xs.length = n * n) (hown : OwnInts B w (some ⟨b, o, none⟩) xs) :
    Calls Try.prog 32 #[vGrid n n (some ⟨b, o, none⟩) (n * n) k, .int .i64 v] w fun e w' => e = .returned (.tuple #[]) ∧ OwnInts B w' (some ⟨b, o, none⟩) (pFmt n (fmtW v) xs 15) ∧ But b w w' := by
  have hN : n * n ≤ 1681 := Nat.mul_le_mul hn.2 hn.2
  have hN1 : 0 < n * n := Nat.mul_pos (by omega) (by omega)
  have hbw : b < w.heap.size := by
    obtain ⟨b', o', e', _, h, _⟩ := hown 0 (by omega)
    simp at e'; omega
  replace hlen := Lib.hid hlen
  have hw0 := Blk.new w #[.int .i64 n, .int .i64 n, .slice (some ⟨b, o, none⟩) (n * n) k] 26
  have hx0 : Ext w (w.alloc (.cells #[.int .i64 n, .int .i64 n, .slice (some ⟨b, o, none⟩) (n * n) k] 26)) := (Ext.refl w).alloc _
  have hnc := Lib.hid (fun W => number_c v W hv)
  have hnb := fmtNum_bd v hv
  have hap := Lib.hid (fun W => iAppendNumber_c w.heap.size (.slice none 0 0) [] (fmtNum v) 15 W (RowI.nil _ _))
  have hfm := Lib.hid (fun W => iFormats_c n W (by omega))
  have hfw : bitsOf (fmtNum v : Int) 15 = fmtW v := rfl
  have hfl := Lib.hid (fmtW_len v)
  have hfb := Lib.hid (fmtW_bd v hv)
  rw [hfw, List.nil_append] at hap
  clear hfw
  generalize fmtNum v = N at *
  generalize fmtW v = ws at *
  have hfld : ∀ w, (Instr.field 67 vStd 1).run Try.prog w = .ok (.int .i64 15) w := fun w => by kernel_rfl
  go_enter Try.func32, Try.ntmps32
  go_wp2_with (first
    | (go_at_call 41; (with_reducible refine (iStdFmt_c _).mono ?_); rintro e w1 ⟨rfl, hx1⟩; replace hx0 := hx0.trans hx1; replace hw0 := hw0.ext hx1)
    | (go_at_call 62; (with_reducible refine (hnc.out _).mono ?_); rintro e w2 ⟨rfl, hx2⟩; replace hx0 := hx0.trans hx2; replace hw0 := hw0.ext hx2)
    | (go_at_call 61; (with_reducible refine (hap.out _ hx0.below.size (by simp) (by omega) (by omega)).mono ?_); rintro e w3 ⟨v3, rfl, hrow, hg3⟩; have hx3 := hg3.toExt (Ext.refl _) (fun k hk => by cases hk); replace hx0 := hx0.trans hx3; replace hw0 := hw0.ext hx3; have q0 := hw0.cell (i := 0) (v := .int .i64 n) rfl; have q1 := hw0.cell (i := 1) (v := .int .i64 n) rfl; have ql := hw0.lt)
    | (go_at_call 39; (with_reducible refine (hfm.out _).mono ?_); rintro e w4 ⟨⟨va, vb, rfl, hra, hrb, -⟩, hx4⟩; replace hrow := hrow.ext hx4; obtain ⟨pw, cw, rfl, how⟩ := hrow.own; rw [hfl.out]; have hzl := hx0.below.size; replace hx0 := hx0.trans hx4; replace hw0 := hw0.ext hx4))
  obtain ⟨pa, ca, rfl, haA, hna⟩ := hra.nfree plF_len
  obtain ⟨pb, cb, rfl, haB, hnb2⟩ := hrb.nfree plF_len
  have hW := how.ints
  have hnw : ∀ b' o', pw = some ⟨b', o', none⟩ → w.heap.size ≤ b' := fun b' o' hp => (how.lt0 (fun e => by have := hfl.out; rw [e] at this; simp at this) hp).1
  have hba := aPl_in (n := n) hn.1
  have hbb := bPl_bd (n := n) hn.1
  rw [show aPl.length = 15 from rfl, show (bPl n).length = 15 from rfl]
  have hown4 : OwnInts B w4 (some ⟨b, o, none⟩) xs := hown.ext hx0
  have hB4 : But b w w4 := But.of hx0
  replace hba := Lib.hid hba; replace hbb := Lib.hid hbb
  replace hna := Lib.hid hna; replace hnb2 := Lib.hid hnb2; replace hnw := Lib.hid hnw
  replace haA := Lib.hid haA; replace haB := Lib.hid haB; replace hW := Lib.hid hW
  have hbne : w.heap.size ≠ b := by omega
  clear hra hrb how hrow hg3 hfm hap hnc hown q0 q1 ql hx3 hx4 hx1 hx2
  go_loopw [23] (fun i wr => ∃ j : Nat, j ≤ 15 ∧ i = .int .i64 j ∧ OwnInts B wr (some ⟨b, o, none⟩) (pFmt n ws xs j) ∧ But b w4 wr) (fun i _ => 15 - (intOf i).toNat)
  case atStart => exact ⟨0, by omega, rfl, hown4, But.refl _ _⟩
  case round =>
    clear hown4
    obtain ⟨j, hj, rfl, hown, hB⟩ := hrel
    by_cases hlt : j < 15
    · obtain ⟨ba, oa, rfl, hal, za0, za1⟩ := (haA.out.butF hB (fun b' o' hp => by have := (hna.out b' o' hp).1; omega)).pl2 (k := j) hlt
      obtain ⟨bb, ob, rfl, hbl, zb0, zb1⟩ := (haB.out.butF hB (fun b' o' hp => by have := (hnb2.out b' o' hp).1; omega)).pl2 (k := j) hlt
      obtain ⟨bw, ow, rfl, hwl, zw⟩ := (hW.out.butF hB (fun b' o' hp => by have := hnw.out b' o' hp; omega)) j (by rw [hfl.out]; exact hlt)
      have na : ba ≠ b := by have := (hna.out ba oa rfl).1; omega
      have nb : bb ≠ b := by have := (hnb2.out bb ob rfl).1; omega
      have ia := plIx_eq (n := n) (p := aPl.getD j (0, 0)) (hba.out _ (getD_mem hlt)).1 (hba.out _ (getD_mem hlt)).2
      have ib := plIx_eq (n := n) (p := (bPl n).getD j (0, 0)) (hbb.out _ (getD_mem hlt)).1 (hbb.out _ (getD_mem hlt)).2
      have ba2 := (hba.out (aPl.getD j (0, 0)) (getD_mem hlt)).2.1
      have bb2 := (hbb.out ((bPl n).getD j (0, 0)) (getD_mem hlt)).2.1
      have hst : pFmt n ws xs (j + 1) = ((pFmt n ws xs j).set (plIx n (aPl.getD j (0, 0))) (ws.getD j 0)).set (plIx n ((bPl n).getD j (0, 0))) (ws.getD j 0) := rfl
      have hpl := pFmt_len n ws xs j
      have hq := hw0.but hB hbne
      have q0 := hq.cell (i := 0) (v := .int .i64 n) rfl
      have q1 := hq.cell (i := 1) (v := .int .i64 n) rfl
      have q2 := hq.cell (i := 2) (v := .slice (some ⟨b, o, none⟩) (n * n) k) rfl
      have ql := hq.lt
      generalize aPl.getD j (0, 0) = A at *
      generalize (bPl n).getD j (0, 0) = D at *
      obtain ⟨ar, ac⟩ := A
      obtain ⟨dr, dc⟩ := D
      generalize plIx n (ar, ac) = ai at *
      generalize plIx n (dr, dc) = di at *
      generalize ws.getD j 0 = x at *
      simp only at za0 za1 zb0 zb1 ia ib ba2 bb2
      obtain ⟨L1, hL1⟩ : ∃ z, pFmt n ws xs (j + 1) = z := ⟨_, rfl⟩
      rw [hL1] at hst
      generalize pFmt n ws xs j = L at *
      obtain ⟨hia, hia2, hia3⟩ := ia
      obtain ⟨hib, hib2, hib3⟩ := ib
      have hLn : L.length = n * n := by rw [hpl, hlen.out]
      replace hpl := Lib.hid hLn; clear hLn
      replace hst := Lib.hid hst; replace hL1 := Lib.hid hL1; replace hia := Lib.hid hia; replace hib := Lib.hid hib
      go_wp2_with fail
      refine wp_region_canon (fun w' => But b wr w') [(0, true), (1, true), (2, true), (3, true), (4, true), (5, true), (6, false)] (by kernel_rfl) (by kernel_rfl) (by decide) (by kernel_rfl) ?_ ?_
      · exact (But.refl _ _).drew
      refine canon_intro fun ops eo => ?_
      have ho0 := canon_at eo 0 rfl
      have ho1 := canon_at eo 1 rfl
      have ho2 := canon_at eo 2 rfl
      have ho3 := canon_at eo 3 rfl
      have ho4 := canon_at eo 4 rfl
      have ho5 := canon_at eo 5 rfl
      have ho6 := canon_at eo 6 rfl
      clear eo
      all_goals (apply canon_st ho0 rfl; (intro w2 hS; first | (go_simp; first | done | rfl) | rfl | (obtain ⟨hc', hf', hk', hz⟩ := bucell hS; go_simp; first | done | rfl)); simp only [Act.put, List.setIfInBounds_toArray, List.set_cons_zero, List.set_cons_succ])
      all_goals clear ho0
      all_goals (apply canon_st ho1 rfl; (intro w2 hS; first | (go_simp; first | done | rfl) | rfl | (obtain ⟨hc', hf', hk', hz⟩ := bucell hS; go_simp; first | done | rfl)); simp only [Act.put, List.setIfInBounds_toArray, List.set_cons_zero, List.set_cons_succ])
      all_goals clear ho1
      all_goals (apply canon_st ho2 rfl; (intro w2 hS; first | (go_simp; first | done | rfl) | rfl | (obtain ⟨hc', hf', hk', hz⟩ := bucell hS; go_simp; first | done | rfl)); simp only [Act.put, List.setIfInBounds_toArray, List.set_cons_zero, List.set_cons_succ])
      all_goals clear ho2
      all_goals (apply canon_st ho3 rfl; (intro w2 hS; first | (go_simp; first | done | rfl) | rfl | (obtain ⟨hc', hf', hk', hz⟩ := bucell hS; go_simp; first | done | rfl)); simp only [Act.put, List.setIfInBounds_toArray, List.set_cons_zero, List.set_cons_succ])
      all_goals clear ho3
      all_goals (apply canon_st ho4 rfl; (intro w2 hS; first | (go_simp; first | done | rfl) | rfl | (obtain ⟨hc', hf', hk', hz⟩ := bucell hS; go_simp; first | done | rfl)); simp only [Act.put, List.setIfInBounds_toArray, List.set_cons_zero, List.set_cons_succ])
      all_goals clear ho4
      all_goals (apply canon_st ho5 rfl; (intro w2 hS; first | (go_simp; first | done | rfl) | rfl | (obtain ⟨hc', hf', hk', hz⟩ := bucell hS; go_simp; first | done | rfl)); simp only [Act.put, List.setIfInBounds_toArray, List.set_cons_zero, List.set_cons_succ])
      all_goals clear ho5
      all_goals first | (refine canon_ef ho6 rfl (fun K hK => ?_); go_simp; ((go_at_call 63; (with_reducible refine (gset_c2 B n n b o k L ar ac x ai (n * n) _ hpl.out (hown.ext (Ext.refl wr).drew) hia.out (by rw [hpl.out]; exact hia2) ⟨hia3, ba2⟩ (by rw [hpl.out]; omega)).mono ?_); rintro e w5 ⟨rfl, oq5, hb5⟩)); all_goals (refine hK _ _ ⟨(by first | exact (But.refl _ _).drew.trans hb5 | exact (But.refl _ _).drew), ?_⟩; clear hK K; go_simp))
      all_goals clear ho6
      all_goals refine canon_done (NoPanic.normal ?_)
      have hB5 : But b wr w5 := (But.refl b wr).drew.trans hb5
      obtain ⟨bc5, -, bk5, -⟩ := bucell hB5
      have yb0 := (bc5 bb (ob + j * 2) hbl nb).trans zb0
      have yb1 := (bc5 bb (ob + j * 2 + 1) hbl nb).trans zb1
      have yl := bk5 bb hbl
      have hq5 := hq.but hB5 hbne
      clear q0 q1 q2 ql za0 za1 zb0 zb1 zw hwl hal hbl bc5 bk5 hq
      have q0 := hq5.cell (i := 0) (v := .int .i64 n) rfl
      have q1 := hq5.cell (i := 1) (v := .int .i64 n) rfl
      have q2 := hq5.cell (i := 2) (v := .slice (some ⟨b, o, none⟩) (n * n) k) rfl
      have ql := hq5.lt
      have hp5 : (L.set ai x).length = n * n := by rw [List.length_set]; exact hpl.out
      replace hp5 := Lib.hid hp5
      go_wp2_with fail
      refine wp_region_canon (fun w' => But b w5 w') [(0, true), (1, true), (2, true), (3, true), (4, true), (5, true), (6, false)] (by kernel_rfl) (by kernel_rfl) (by decide) (by kernel_rfl) ?_ ?_
      · exact (But.refl _ _).drew
      refine canon_intro fun ops eo => ?_
      have ho0 := canon_at eo 0 rfl
      have ho1 := canon_at eo 1 rfl
      have ho2 := canon_at eo 2 rfl
      have ho3 := canon_at eo 3 rfl
      have ho4 := canon_at eo 4 rfl
      have ho5 := canon_at eo 5 rfl
      have ho6 := canon_at eo 6 rfl
      clear eo
      all_goals (apply canon_st ho0 rfl; (intro w2 hS; first | (go_simp; first | done | rfl) | rfl | (obtain ⟨hc', hf', hk', hz⟩ := bucell hS; go_simp; first | done | rfl)); simp only [Act.put, List.setIfInBounds_toArray, List.set_cons_zero, List.set_cons_succ])
      all_goals clear ho0
      all_goals (apply canon_st ho1 rfl; (intro w2 hS; first | (go_simp; first | done | rfl) | rfl | (obtain ⟨hc', hf', hk', hz⟩ := bucell hS; go_simp; first | done | rfl)); simp only [Act.put, List.setIfInBounds_toArray, List.set_cons_zero, List.set_cons_succ])
      all_goals clear ho1
      all_goals (apply canon_st ho2 rfl; (intro w2 hS; first | (go_simp; first | done | rfl) | rfl | (obtain ⟨hc', hf', hk', hz⟩ := bucell hS; go_simp; first | done | rfl)); simp only [Act.put, List.setIfInBounds_toArray, List.set_cons_zero, List.set_cons_succ])
      all_goals clear ho2
      all_goals (apply canon_st ho3 rfl; (intro w2 hS; first | (go_simp; first | done | rfl) | rfl | (obtain ⟨hc', hf', hk', hz⟩ := bucell hS; go_simp; first | done | rfl)); simp only [Act.put, List.setIfInBounds_toArray, List.set_cons_zero, List.set_cons_succ])
      all_goals clear ho3
      all_goals (apply canon_st ho4 rfl; (intro w2 hS; first | (go_simp; first | done | rfl) | rfl | (obtain ⟨hc', hf', hk', hz⟩ := bucell hS; go_simp; first | done | rfl)); simp only [Act.put, List.setIfInBounds_toArray, List.set_cons_zero, List.set_cons_succ])
      all_goals clear ho4
      all_goals (apply canon_st ho5 rfl; (intro w2 hS; first | (go_simp; first | done | rfl) | rfl | (obtain ⟨hc', hf', hk', hz⟩ := bucell hS; go_simp; first | done | rfl)); simp only [Act.put, List.setIfInBounds_toArray, List.set_cons_zero, List.set_cons_succ])
      all_goals clear ho5
      all_goals first | (refine canon_ef ho6 rfl (fun K hK => ?_); go_simp; ((go_at_call 63; (with_reducible refine (gset_c2 B n n b o k (L.set ai x) dr dc x di (n * n) _ hp5.out (oq5.ext (Ext.refl w5).drew) hib.out (by rw [hp5.out]; exact hib2) ⟨hib3, bb2⟩ (by rw [hp5.out]; omega)).mono ?_); rintro e w6 ⟨rfl, oq6, hb6⟩)); all_goals (refine hK _ _ ⟨(by first | exact (But.refl _ _).drew.trans hb6 | exact (But.refl _ _).drew), ?_⟩; clear hK K; go_simp))
      all_goals clear ho6
      all_goals refine canon_done (NoPanic.normal ?_)
      have hB6 : But b w5 w6 := (But.refl b w5).drew.trans hb6
      clear q0 q1 q2 ql yb0 yb1 yl
      rw [← hst.out] at oq6
      go_wp2_with fail
      go_roundw
      case rel => exact ⟨j + 1, hlt, by go_num, by rw [hL1.out]; exact oq6, (hB.trans hB5).trans hB6⟩
      case measure => simp [intOf]; omega
    · obtain rfl : j = 15 := by omega
      go_wp2_with fail
      go_end0
      exact ⟨rfl, hown, hB4.trans hB⟩
end Go.Proofs.Ythjklchmjeojjaa

/-! Matrix grids, the program's side: copies, formats put and read, errors of the fixed cells. -/
namespace Go.Proofs.Ythjklchmjeojjaa
set_option linter.unusedVariables false
set_option linter.unusedSimpArgs false
open Go.RowKit

theorem OwnInts.setFarN {B g i b o : Nat} {w : World} {xs : List Int} {v : Value} (h : OwnInts B w (some ⟨b, o, none⟩) xs) (hg : b ≠ g) : OwnInts B (w.setCell ⟨g, i, none⟩ v) (some ⟨b, o, none⟩) xs :=
  h.keep (by simp [World.setCell]) fun b' o' hn hq _ => by
    simp only [Option.some.injEq, Addr.mk.injEq] at hq
    obtain ⟨rfl, -⟩ := hq
    exact Below.heap_setCell w ⟨g, i, none⟩ v b hg
theorem But.setG {g i : Nat} {a b : World} (h : But g a b) (v : Value) : But g a (b.setCell ⟨g, i, none⟩ v) := h.trans (But.set b g i v)
set_option maxRecDepth 100000 in
theorem copy_c (r c : Int) (p : Option Addr) (k : Nat) (xs : List Int) (w : World) (hx : IntsAt w p xs) (hl : xs.length ≤ 1048576) :
    Calls Try.prog 31 #[vGrid r c p xs.length k] w fun e w' => GrdR r c xs w.heap.size e w' ∧ Ext w w' := by
  have HX := Lib.hid hx; clear hx
  have hb := (Blk.new w #[.int .i64 r, .int .i64 c, .slice p xs.length k] 26).alloc (.cells #[.int .i64 0, .int .i64 0, .slice none 0 0] 26)
  have h0 := Blk.new (w.alloc (.cells #[.int .i64 r, .int .i64 c, .slice p xs.length k] 26)) #[.int .i64 0, .int .i64 0, .slice none 0 0] 26
  have hx0 : Ext w ((w.alloc (.cells #[.int .i64 r, .int .i64 c, .slice p xs.length k] 26)).alloc (.cells #[.int .i64 0, .int .i64 0, .slice none 0 0] 26)) := ((Ext.refl w).alloc _).alloc _
  simp only [World.size_alloc] at h0
  go_enter Try.func31, Try.ntmps31
  go_wp2
  generalize (w.alloc (.cells #[.int .i64 r, .int .i64 c, .slice p xs.length k] 26)).alloc (.cells #[.int .i64 0, .int .i64 0, .slice none 0 0] 26) = w0 at *
  have f0 := hb.cell (i := 0) (v := .int .i64 r) rfl
  have f1 := hb.cell (i := 1) (v := .int .i64 c) rfl
  have f2 := hb.cell (i := 2) (v := .slice p xs.length k) rfl
  have fl := hb.lt
  have hne : w.heap.size ≠ w.heap.size + 1 := by omega
  refine wp_region_canon (fun w' => But (w.heap.size + 1) w0 w') [(0, true), (1, true), (2, true), (3, true), (4, true), (5, true), (6, false), (7, true), (8, false)] (by kernel_rfl) (by kernel_rfl) (by decide) (by kernel_rfl) ?_ ?_
  · exact (But.refl _ _).drew
  refine canon_intro fun ops eo => ?_
  have ho0 := canon_at eo 0 rfl
  have ho1 := canon_at eo 1 rfl
  have ho2 := canon_at eo 2 rfl
  have ho3 := canon_at eo 3 rfl
  have ho4 := canon_at eo 4 rfl
  have ho5 := canon_at eo 5 rfl
  have ho6 := canon_at eo 6 rfl
  have ho7 := canon_at eo 7 rfl
  have ho8 := canon_at eo 8 rfl
  clear eo
  all_goals (apply canon_st ho0 rfl; (intro w2 hS; first | (go_simp; first | done | rfl) | rfl | (obtain ⟨hc', hf', hk', hz⟩ := bucell hS; go_simp; first | done | rfl)); simp only [Act.put, List.setIfInBounds_toArray, List.set_cons_zero, List.set_cons_succ])
  all_goals clear ho0
  all_goals (apply canon_st ho1 rfl; (intro w2 hS; first | (go_simp; first | done | rfl) | rfl | (obtain ⟨hc', hf', hk', hz⟩ := bucell hS; go_simp; first | done | rfl)); simp only [Act.put, List.setIfInBounds_toArray, List.set_cons_zero, List.set_cons_succ])
  all_goals clear ho1
  all_goals (apply canon_st ho2 rfl; (intro w2 hS; first | (go_simp; first | done | rfl) | rfl | (obtain ⟨hc', hf', hk', hz⟩ := bucell hS; go_simp; first | done | rfl)); simp only [Act.put, List.setIfInBounds_toArray, List.set_cons_zero, List.set_cons_succ])
  all_goals clear ho2
  all_goals (apply canon_st ho3 rfl; (intro w2 hS; first | (go_simp; first | done | rfl) | rfl | (obtain ⟨hc', hf', hk', hz⟩ := bucell hS; go_simp; first | done | rfl)); simp only [Act.put, List.setIfInBounds_toArray, List.set_cons_zero, List.set_cons_succ])
  all_goals clear ho3
  all_goals (apply canon_st ho4 rfl; (intro w2 hS; first | (go_simp; first | done | rfl) | rfl | (obtain ⟨hc', hf', hk', hz⟩ := bucell hS; go_simp; first | done | rfl)); simp only [Act.put, List.setIfInBounds_toArray, List.set_cons_zero, List.set_cons_succ])
  all_goals clear ho4
  all_goals (apply canon_st ho5 rfl; (intro w2 hS; first | (go_simp; first | done | rfl) | rfl | (obtain ⟨hc', hf', hk', hz⟩ := bucell hS; go_simp; first | done | rfl)); simp only [Act.put, List.setIfInBounds_toArray, List.set_cons_zero, List.set_cons_succ])
  all_goals clear ho5
  all_goals first | (refine canon_ef ho6 rfl (fun K hK => ?_); go_simp; ((go_at_call 60; (with_reducible refine (copyOf_c p k xs _ (HX.out.ext (hx0.trans (Ext.refl w0).drew)) (by omega)).mono ?_); rintro e w3 ⟨⟨v, rfl, hrow⟩, hx3⟩; obtain ⟨q, kq, rfl, -, hkq⟩ := hrow.ownC; have hx4 : Ext w0 w3 := (Ext.refl w0).drew.trans hx3; have h3 := h0.ext hx4; have z0 := h3.cell (i := 0) (v := .int .i64 0) rfl; have z1 := h3.cell (i := 1) (v := .int .i64 0) rfl; have z2 := h3.cell (i := 2) (v := .slice none 0 0) rfl; have zl := h3.lt; have zf := h3.free)); all_goals (refine hK _ _ ⟨(by first | exact But.of hx4 | exact (((But.of hx4).setG _).setG _).setG _ | exact (But.refl _ _).drew), ?_⟩; clear hK K; go_simp)) | (refine canon_ef ho6 rfl (fun K hK => ?_); go_simp; (skip); all_goals (refine hK _ _ ⟨(by first | exact But.of hx4 | exact (((But.of hx4).setG _).setG _).setG _ | exact (But.refl _ _).drew), ?_⟩; clear hK K; go_simp))
  all_goals clear ho6
  all_goals (apply canon_st ho7 rfl; (intro w2 hS; first | (go_simp; first | done | rfl) | rfl | (obtain ⟨hc', hf', hk', hz⟩ := bucell hS; go_simp; first | done | rfl)); simp only [Act.put, List.setIfInBounds_toArray, List.set_cons_zero, List.set_cons_succ])
  all_goals clear ho7
  all_goals first | (refine canon_ef ho8 rfl (fun K hK => ?_); go_simp; ((go_at_call 60; (with_reducible refine (copyOf_c p k xs _ (HX.out.ext (hx0.trans (Ext.refl w0).drew)) (by omega)).mono ?_); rintro e w3 ⟨⟨v, rfl, hrow⟩, hx3⟩; obtain ⟨q, kq, rfl, -, hkq⟩ := hrow.ownC; have hx4 : Ext w0 w3 := (Ext.refl w0).drew.trans hx3; have h3 := h0.ext hx4; have z0 := h3.cell (i := 0) (v := .int .i64 0) rfl; have z1 := h3.cell (i := 1) (v := .int .i64 0) rfl; have z2 := h3.cell (i := 2) (v := .slice none 0 0) rfl; have zl := h3.lt; have zf := h3.free)); all_goals (refine hK _ _ ⟨(by first | exact But.of hx4 | exact (((But.of hx4).setG _).setG _).setG _ | exact (But.refl _ _).drew), ?_⟩; clear hK K; go_simp)) | (refine canon_ef ho8 rfl (fun K hK => ?_); go_simp; (skip); all_goals (refine hK _ _ ⟨(by first | exact But.of hx4 | exact (((But.of hx4).setG _).setG _).setG _ | exact (But.refl _ _).drew), ?_⟩; clear hK K; go_simp))
  all_goals clear ho8
  all_goals refine canon_done (NoPanic.normal ?_)
  have hfar : (Value.slice q xs.length kq).ownBlock ≠ some (w.heap.size + 1) := fun e => by have h1 := (hrow.lt _ e).1; have h2 := h0.lt; have h3 : w0.drew.heap.size = w0.heap.size := rfl; omega
  have hz0 := hx0.below.size
  have h9 := (((hrow.mono (B' := w.heap.size) hz0).setOther (i := 0) (u := .int .i64 r) hfar).setOther (i := 1) (u := .int .i64 c) hfar).setOther (i := 2) (u := .slice q xs.length kq) hfar
  have hF := ((h3.set 0 (.int .i64 r)).set 1 (.int .i64 c)).set 2 (.slice q xs.length kq)
  have c0 := hF.cell (i := 0) (v := .int .i64 r) rfl; have c1 := hF.cell (i := 1) (v := .int .i64 c) rfl; have c2 := hF.cell (i := 2) (v := .slice q xs.length kq) rfl
  have hx9 : Ext w (((w3.setCell ⟨w.heap.size + 1, 0, none⟩ (.int .i64 r)).setCell ⟨w.heap.size + 1, 1, none⟩ (.int .i64 c)).setCell ⟨w.heap.size + 1, 2, none⟩ (.slice q xs.length kq)) := (((hx0.trans hx4).setCell (Nat.le_succ _) _).setCell (Nat.le_succ _) _).setCell (Nat.le_succ _) _
  obtain ⟨q', kq', e', oq, hkq2⟩ := h9.ownC
  simp only [Value.slice.injEq] at e'
  obtain ⟨rfl, -, rfl⟩ := e'
  clear z0 z1 z2 zl zf
  go_wp2
  exact bodyPost_ret (v := vGrid r c q xs.length kq) (by simp [results, Try.results31, go_sem, c0, c1, c2]) rfl ⟨⟨q, kq, rfl, oq, hkq⟩, hx9⟩
/-- A grid and a code given back. -/
def GrdC (B : Nat) (code r c : Int) (xs : List Int) (e : Ending) (w' : World) : Prop := ∃ p k, e = .returned (.tuple #[vGrid r c p xs.length k, .int .i64 code]) ∧ OwnInts B w' p xs ∧ xs.length ≤ k
open Classical in
/-- A grid with a format: code, rows, columns, cells. -/
noncomputable def pfV (r c : Int) (xs : List Int) (v : Int) : Int × Int × Int × List Int :=
  if ¬ matOK r c xs then (1, 0, 0, []) else if ¬ (0 ≤ v ∧ v ≤ 31) then (2, 0, 0, []) else (0, r, c, pFmt r.toNat (fmtW v.toNat) xs 15)
set_option maxHeartbeats 800000 in
set_option maxRecDepth 100000 in
theorem iPutFormat_c (r c v : Int) (p : Option Addr) (k : Nat) (xs : List Int) (w : World) (hx : IntsAt w p xs) (hl : xs.length ≤ 1048576) :
    Calls Try.prog 8 #[vGrid r c p xs.length k, .int .i64 v] w fun e w' => GrdC w.heap.size (pfV r c xs v).1 (pfV r c xs v).2.1 (pfV r c xs v).2.2.1 (pfV r c xs v).2.2.2 e w' ∧ Ext w w' := by
  have HX := Lib.hid hx; clear hx
  have hb := (Blk.new w #[.int .i64 r, .int .i64 c, .slice p xs.length k] 26).alloc (.cells #[.int .i64 0, .int .i64 0, .slice none 0 0] 26)
  have h0 := Blk.new (w.alloc (.cells #[.int .i64 r, .int .i64 c, .slice p xs.length k] 26)) #[.int .i64 0, .int .i64 0, .slice none 0 0] 26
  have hx0 : Ext w ((w.alloc (.cells #[.int .i64 r, .int .i64 c, .slice p xs.length k] 26)).alloc (.cells #[.int .i64 0, .int .i64 0, .slice none 0 0] 26)) := ((Ext.refl w).alloc _).alloc _
  simp only [World.size_alloc] at h0
  have hmt := Lib.hid (fun W (h : IntsAt W p xs) => iMat_c r c p k xs W h hl)
  by_cases h1 : matOK r c xs
  · by_cases h2 : 0 ≤ v ∧ v ≤ 31
    · have hV : pfV r c xs v = (0, r, c, pFmt r.toNat (fmtW v.toNat) xs 15) := by unfold pfV; rw [if_neg (not_not_intro h1), if_neg (not_not_intro h2)]
      rw [hV]
      obtain ⟨n, rfl, rfl, hn1, hn2, hn4, hlen, hxb⟩ := matOK_nat h1
      obtain ⟨u, rfl⟩ := Int.eq_ofNat_of_zero_le h2.1
      simp only [Int.toNat_natCast]
      replace h1 := Lib.hid h1
      clear hV hxb
      have hcp := Lib.hid (fun W (h : IntsAt W p xs) => copy_c n n p k xs W h hl)
      have hN : n * n ≤ 1681 := Nat.mul_le_mul hn2 hn2
      have hN1 : 0 < n * n := Nat.mul_pos (by omega) (by omega)
      have hpfl := Lib.hid (pFmt_len n (fmtW u) xs 15)
      replace hlen := Lib.hid hlen
      go_enter Try.func8, Try.ntmps8
      go_wp2_with (first
        | (go_at_call 29; (with_reducible refine (hmt.out _ (HX.out.ext hx0)).mono ?_); rintro e w1 ⟨⟨hP, rfl⟩ | ⟨hP, rfl⟩, hx1⟩ <;> (first | exact absurd h1.out hP | skip); have hb1 := hb.ext hx1; have q0 := hb1.cell (i := 0) (v := .int .i64 n) rfl; have q1 := hb1.cell (i := 1) (v := .int .i64 n) rfl; have q2 := hb1.cell (i := 2) (v := .slice p xs.length k) rfl; have ql := hb1.lt)
        | (go_at_call 30; (with_reducible refine (inRange_c _ _ _ _).mono ?_); rintro e w' ⟨⟨hP, rfl⟩ | ⟨hP, rfl⟩, rfl⟩ <;> first | (exfalso; omega) | skip)
        | (go_at_call 31; (with_reducible refine (hcp.out _ (HX.out.ext (hx0.trans hx1))).mono ?_); rintro e w2 ⟨⟨q, kq, rfl, oq, hkq⟩, hx2⟩))
      replace h0 := (h0.ext hx1).ext hx2
      replace hx0 := (hx0.trans hx1).trans hx2
      have hz1 := hx1.below.size
      simp only [World.size_alloc] at hz1
      have hz2 := hx2.below.size
      obtain ⟨b, o, rfl, hbB, hbl, -⟩ := oq 0 (by rw [hlen.out]; exact hN1)
      have hG := Blk.new w2 #[.int .i64 n, .int .i64 n, .slice (some ⟨b, o, none⟩) xs.length kq] 26
      replace h0 := h0.alloc (.cells #[.int .i64 n, .int .i64 n, .slice (some ⟨b, o, none⟩) xs.length kq] 26)
      replace oq := oq.ext ((Ext.refl w2).alloc (.cells #[.int .i64 n, .int .i64 n, .slice (some ⟨b, o, none⟩) xs.length kq] 26))
      replace hx0 := hx0.alloc (.cells #[.int .i64 n, .int .i64 n, .slice (some ⟨b, o, none⟩) xs.length kq] 26)
      generalize w2.alloc (.cells #[.int .i64 n, .int .i64 n, .slice (some ⟨b, o, none⟩) xs.length kq] 26) = w3 at *
      have hpf := putFormat_c w.heap.size n b o kq u xs w3 (by omega) ⟨hn1, hn2⟩ hlen.out (oq.mono (by omega))
      rw [← hlen.out] at hpf
      refine hpf.mono ?_
      rintro e w4 ⟨rfl, oq4, hb4⟩
      replace h0 := h0.but hb4 (by omega)
      replace hG := hG.but hb4 (by omega)
      replace hx0 := hx0.but hb4 (by omega)
      have g0 := hG.cell (i := 0) (v := .int .i64 n) rfl
      have g1 := hG.cell (i := 1) (v := .int .i64 n) rfl
      have g2 := hG.cell (i := 2) (v := .slice (some ⟨b, o, none⟩) xs.length kq) rfl
      have gl := hG.lt
      have z0 := h0.cell (i := 0) (v := .int .i64 0) rfl
      have z1 := h0.cell (i := 1) (v := .int .i64 0) rfl
      have z2 := h0.cell (i := 2) (v := .slice none 0 0) rfl
      have zl := h0.lt
      have zf := h0.free
      have hF := ((h0.set 0 (.int .i64 n)).set 1 (.int .i64 n)).set 2 (.slice (some ⟨b, o, none⟩) xs.length kq)
      have C0 := Lib.hid (hF.cell (i := 0) (v := .int .i64 n) rfl); have C1 := Lib.hid (hF.cell (i := 1) (v := .int .i64 n) rfl); have C2 := Lib.hid (hF.cell (i := 2) (v := .slice (some ⟨b, o, none⟩) xs.length kq) rfl)
      have hx9 := Lib.hid (((hx0.setCell (p := ⟨w.heap.size + 1, 0, none⟩) (Nat.le_succ _) (.int .i64 n)).setCell (p := ⟨w.heap.size + 1, 1, none⟩) (Nat.le_succ _) (.int .i64 n)).setCell (p := ⟨w.heap.size + 1, 2, none⟩) (Nat.le_succ _) (.slice (some ⟨b, o, none⟩) xs.length kq))
      have oq9 := Lib.hid (((oq4.setFarN (g := w.heap.size + 1) (i := 0) (v := .int .i64 n) (by omega)).setFarN (g := w.heap.size + 1) (i := 1) (v := .int .i64 n) (by omega)).setFarN (g := w.heap.size + 1) (i := 2) (v := .slice (some ⟨b, o, none⟩) xs.length kq) (by omega))
      clear hF h0 hG hx0 oq4 oq
      go_wp2_with fail
      have c0 := C0.out; have c1 := C1.out; have c2 := C2.out
      exact bodyPost_ret (v := .tuple #[vGrid n n (some ⟨b, o, none⟩) xs.length kq, .int .i64 0]) (by simp [results, Try.results8, go_sem, c0, c1, c2]) rfl ⟨⟨some ⟨b, o, none⟩, kq, by rw [hpfl.out], oq9.out, by rw [hpfl.out]; exact hkq⟩, hx9.out⟩
    · have hV : pfV r c xs v = (2, 0, 0, []) := by unfold pfV; rw [if_neg (not_not_intro h1), if_pos h2]
      rw [hV]
      replace h1 := Lib.hid h1
      clear hV
      go_enter Try.func8, Try.ntmps8
      go_wp2_with (first
        | (go_at_call 29; (with_reducible refine (hmt.out _ (HX.out.ext hx0)).mono ?_); rintro e w1 ⟨⟨hP, rfl⟩ | ⟨hP, rfl⟩, hx1⟩ <;> (first | exact absurd h1.out hP | skip); have hb1 := h0.ext hx1; have q0 := hb1.cell (i := 0) (v := .int .i64 0) rfl; have q1 := hb1.cell (i := 1) (v := .int .i64 0) rfl; have q2 := hb1.cell (i := 2) (v := .slice none 0 0) rfl; have ql := hb1.lt; have qf := hb1.free)
        | (go_at_call 30; (with_reducible refine (inRange_c _ _ _ _).mono ?_); rintro e w' ⟨⟨hP, rfl⟩ | ⟨hP, rfl⟩, rfl⟩ <;> first | (exfalso; omega) | skip))
      have hF := ((hb1.set 0 (.int .i64 0)).set 1 (.int .i64 0)).set 2 (.slice none 0 0)
      have c0 := hF.cell (i := 0) (v := .int .i64 0) rfl; have c1 := hF.cell (i := 1) (v := .int .i64 0) rfl; have c2 := hF.cell (i := 2) (v := .slice none 0 0) rfl
      clear q0 q1 q2 ql qf
      exact bodyPost_ret (v := .tuple #[vGrid 0 0 none 0 0, .int .i64 2]) (by simp [results, Try.results8, go_sem, c0, c1, c2]) rfl ⟨⟨none, 0, rfl, OwnInts.nil _ _ _, Nat.le_refl _⟩, (((hx0.trans hx1).setCell (Nat.le_succ _) _).setCell (Nat.le_succ _) _).setCell (Nat.le_succ _) _⟩
  · have hV : pfV r c xs v = (1, 0, 0, []) := by unfold pfV; rw [if_pos h1]
    rw [hV]
    replace h1 := Lib.hid h1
    clear hV
    go_enter Try.func8, Try.ntmps8
    go_wp2_with (go_at_call 29; (with_reducible refine (hmt.out _ (HX.out.ext hx0)).mono ?_); rintro e w1 ⟨⟨hP, rfl⟩ | ⟨hP, rfl⟩, hx1⟩ <;> (first | exact absurd hP h1.out | skip); have hb1 := h0.ext hx1; have q0 := hb1.cell (i := 0) (v := .int .i64 0) rfl; have q1 := hb1.cell (i := 1) (v := .int .i64 0) rfl; have q2 := hb1.cell (i := 2) (v := .slice none 0 0) rfl; have ql := hb1.lt; have qf := hb1.free)
    have hF := ((hb1.set 0 (.int .i64 0)).set 1 (.int .i64 0)).set 2 (.slice none 0 0)
    have c0 := hF.cell (i := 0) (v := .int .i64 0) rfl; have c1 := hF.cell (i := 1) (v := .int .i64 0) rfl; have c2 := hF.cell (i := 2) (v := .slice none 0 0) rfl
    clear q0 q1 q2 ql qf
    exact bodyPost_ret (v := .tuple #[vGrid 0 0 none 0 0, .int .i64 1]) (by simp [results, Try.results8, go_sem, c0, c1, c2]) rfl ⟨⟨none, 0, rfl, OwnInts.nil _ _ _, Nat.le_refl _⟩, (((hx0.trans hx1).setCell (Nat.le_succ _) _).setCell (Nat.le_succ _) _).setCell (Nat.le_succ _) _⟩
theorem fillL_step {L : List Int} {k : Nat} (h : k < L.length) : (L.take k ++ List.replicate (L.length - k) 0).set k (L.getD k 0) = L.take (k + 1) ++ List.replicate (L.length - (k + 1)) 0 := by
  have hl : (L.take k).length = k := by simp; omega
  obtain ⟨m, hm⟩ : ∃ m, L.length - k = m + 1 := ⟨L.length - k - 1, by omega⟩
  rw [List.set_append, if_neg (by omega), hl, Nat.sub_self, hm, List.replicate_succ, List.set_cons_zero, show L.length - (k + 1) = m by omega, List.take_succ_eq_append_getElem h, List.getD_eq_getElem?_getD, List.getElem?_eq_getElem h, List.append_assoc]
  rfl
theorem fillL_len {L : List Int} {k : Nat} (h : k ≤ L.length) : (L.take k ++ List.replicate (L.length - k) 0).length = L.length := by simp; omega
theorem gat_c2 (R C : Int) (p : Option Addr) (k : Nat) (xs : List Int) (r c : Int) (i N : Nat) (w : World) (hN : xs.length = N) (hx : IntsAt w p xs) (hi : r * C + c = i) (hlt : i < xs.length) (hrc : 0 ≤ r * C ∧ 0 ≤ c) (hl : xs.length ≤ 1048576) :
    Calls Try.prog 69 #[vGrid R C p N k, vPl r c] w fun e w' => e = .returned (.int .i64 (xs.getD i 0)) ∧ Ext w w' := by
  subst hN
  exact gat_c R C p k xs r c i w hx hi hlt hrc hl
set_option maxHeartbeats 800000 in
set_option maxRecDepth 100000 in
theorem cellsAt_c (n k m c : Nat) (p q : Option Addr) (xs : List Int) (ps : List (Int × Int)) (w : World) (hn : 17 ≤ n ∧ n ≤ 41) (hx : IntsAt w p xs) (hlen : xs.length = n * n) (hp : PlAt w q ps) (hm : ps.length = m) (hm2 : m ≤ 2000) (hb : ∀ x ∈ ps, (0 ≤ x.1 ∧ x.1 < n) ∧ (0 ≤ x.2 ∧ x.2 < n)) :
    Calls Try.prog 42 #[vGrid n n p (n * n) k, .slice q m c] w fun e w' => (∃ g, e = .returned (.slice (some ⟨g, 0, none⟩) m m) ∧ OwnInts w.heap.size w' (some ⟨g, 0, none⟩) (cellsL n xs ps)) ∧ Ext w w' := by
  have hN : n * n ≤ 1681 := Nat.mul_le_mul hn.2 hn.2
  have HX := Lib.hid hx; clear hx
  have HP := Lib.hid hp; clear hp
  replace hb := Lib.hid hb
  replace hlen := Lib.hid hlen
  have hLl : (cellsL n xs ps).length = m := by simp [cellsL, hm]
  have hLv : ∀ j, j < m → (cellsL n xs ps).getD j 0 = xs.getD (plIx n (ps.getD j (0, 0))) 0 := fun j hj => by
    rw [List.getD_eq_getElem?_getD, List.getElem?_eq_getElem (by omega)]
    simp only [cellsL, List.getElem_map, Option.getD_some]
    rw [List.getD_eq_getElem?_getD (l := ps), List.getElem?_eq_getElem (by omega)]
    rfl
  replace hLv := Lib.hid hLv
  replace hm := Lib.hid hm
  generalize cellsL n xs ps = L at *
  have h0 := (Blk.new w #[.int .i64 n, .int .i64 n, .slice p (n * n) k] 26).alloc (.cells (madeCells #[.int .i64 0] m) 2)
  have hown := OwnInts.made (B := w.heap.size) (N := m) (w.alloc (.cells #[.int .i64 n, .int .i64 n, .slice p (n * n) k] 26)) 2 (by simp)
  have hx0 : Ext w ((w.alloc (.cells #[.int .i64 n, .int .i64 n, .slice p (n * n) k] 26)).alloc (.cells (madeCells #[.int .i64 0] m) 2)) := ((Ext.refl w).alloc _).alloc _
  simp only [World.size_alloc] at hown
  go_enter Try.func42, Try.ntmps42
  go_wp2_with (refine make_blk Try.underlying24 infoInt m rfl rfl (by omega) (by omega) ?_)
  generalize (w.alloc (.cells #[.int .i64 n, .int .i64 n, .slice p (n * n) k] 26)).alloc (.cells (madeCells #[.int .i64 0] m) 2) = w0 at *
  go_loopw [13] (fun i wr => ∃ j : Nat, j ≤ m ∧ i = .int .i64 j ∧ OwnInts w.heap.size wr (some ⟨w.heap.size + 1, 0, none⟩) (L.take j ++ List.replicate (m - j) 0) ∧ Blk wr w.heap.size #[.int .i64 n, .int .i64 n, .slice p (n * n) k] 26 ∧ Ext w wr) (fun i _ => m - (intOf i).toNat)
  case atStart => exact ⟨0, by omega, rfl, by simpa using hown, h0, hx0⟩
  case round =>
    clear hown h0 hx0
    obtain ⟨j, hj, rfl, hown, h0, hext⟩ := hrel
    by_cases hlt : j < m
    · obtain ⟨bp, op, rfl, hpl, z0, z1⟩ := (HP.out.ext hext).pl2 (k := j) (by rw [hm.out]; exact hlt)
      have hbd := hb.out _ (getD_mem (l := ps) (k := j) (d := (0, 0)) (by rw [hm.out]; exact hlt))
      have ia := plIx_eq (n := n) hbd.1 hbd.2
      have hv := hLv.out j hlt
      have hst := fillL_step (L := L) (k := j) (by omega)
      rw [hv, hLl] at hst
      clear hv
      obtain ⟨b', o', e', hB, hbl, y1, y2⟩ := hown j (by have := fillL_len (L := L) (k := j) (by omega); rw [hLl] at this; omega)
      simp only [Option.some.injEq, Addr.mk.injEq] at e'
      obtain ⟨rfl, rfl, -⟩ := e'
      generalize (L.take j ++ List.replicate (m - j) 0).getD j 0 = y at *
      have q0 := h0.cell (i := 0) (v := .int .i64 n) rfl
      have q1 := h0.cell (i := 1) (v := .int .i64 n) rfl
      have q2 := h0.cell (i := 2) (v := .slice p (n * n) k) rfl
      have ql := h0.lt
      generalize ps.getD j (0, 0) = A at *
      obtain ⟨ar, ac⟩ := A
      simp only at z0 z1 hbd ia
      generalize plIx n (ar, ac) = ai at *
      obtain ⟨hia, hia2, hia3⟩ := ia
      have hac := hbd.2.1
      replace hia := Lib.hid hia; replace hst := Lib.hid hst
      have hLl2 := Lib.hid hLl
      clear hbd
      have hatc := Lib.hid (fun W (h : Ext w W) => gat_c2 n n p k xs ar ac ai (n * n) W hlen.out (HX.out.ext h) hia.out (by rw [hlen.out]; exact hia2) ⟨hia3, hac⟩ (by rw [hlen.out]; omega))
      have hset2 := Lib.hid (fun (W : World) (h : OwnInts w.heap.size W (some ⟨w.heap.size + 1, 0, none⟩) (L.take j ++ List.replicate (m - j) 0)) => h.set (k := j) rfl (by have := fillL_len (L := L) (k := j) (by rw [hLl2.out]; omega); rw [hLl2.out] at this; omega) (xs.getD ai 0))
      generalize xs.getD ai 0 = x at *
      rw [Nat.zero_add] at y1 y2
      go_wp2_with (go_at_call 69; (with_reducible refine (hatc.out _ (hext.alloc _)).mono ?_); rintro e w5 ⟨rfl, hx5⟩; have hx6 : Ext wr w5 := ((Ext.refl wr).alloc _).trans hx5; obtain ⟨hc6, hf6, hk6, hz6⟩ := ecell hx6)
      have hown5 := hset2.out _ (hown.ext hx6)
      rw [hst.out, Nat.zero_add] at hown5
      have h05 := h0.ext hx6
      go_roundw
      case rel => exact ⟨j + 1, hlt, by go_num, hown5, h05.far (by omega) _, (hext.trans hx6).setCell (Nat.le_succ _) _⟩
      case measure => simp [intOf]; omega
    · obtain rfl : j = m := by omega
      rw [Nat.sub_self, List.replicate_zero, List.append_nil, List.take_of_length_le (by omega)] at hown
      go_wp2_with fail
      go_ret
      exact ⟨⟨_, rfl, hown⟩, hext⟩
open Classical in
/-- What is read from a grid's format: value and code. -/
noncomputable def rfV (r c : Int) (xs : List Int) : Int × Int :=
  if ¬ matOK r c xs then (0, 1) else shareV (cellsL r.toNat xs aPl) (cellsL r.toNat xs (bPl r))
theorem cellsL_fm {n : Nat} {xs : List Int} {ps : List (Int × Int)} (h : ∀ x ∈ xs, -1 ≤ x ∧ x ≤ 1) : fmL (cellsL n xs ps) := fun x hx => by
  simp only [cellsL, List.mem_map] at hx
  obtain ⟨p, _, rfl⟩ := hx
  by_cases hl : plIx n p < xs.length
  · rw [List.getD_eq_getElem?_getD, List.getElem?_eq_getElem hl]; exact h _ (List.getElem_mem _)
  · rw [List.getD_eq_getElem?_getD, List.getElem?_eq_none (by omega)]; simp
theorem shareV_cd (a b : List Int) : shareV a b = (0, 7) ∨ ((shareV a b).2 = 0 ∧ 0 ≤ (shareV a b).1 ∧ (shareV a b).1 < 32) := by
  have h1 := nearV_bd a
  have h2 := nearV_bd b
  unfold shareV
  split
  · exact .inl rfl
  · split
    · exact .inr ⟨rfl, by simp, by simp; omega⟩
    · exact .inr ⟨rfl, by simp, by simp; omega⟩
set_option maxHeartbeats 800000 in
set_option maxRecDepth 100000 in
theorem iReadFormat_c (r c : Int) (p : Option Addr) (k : Nat) (xs : List Int) (w : World) (hx : IntsAt w p xs) (hl : xs.length ≤ 1048576) :
    Calls Try.prog 14 #[vGrid r c p xs.length k] w fun e w' => e = .returned (.tuple #[.int .i64 (rfV r c xs).1, .int .i64 (rfV r c xs).2]) ∧ Ext w w' := by
  have HX := Lib.hid hx; clear hx
  have hb := Blk.new w #[.int .i64 r, .int .i64 c, .slice p xs.length k] 26
  have hx0 : Ext w (w.alloc (.cells #[.int .i64 r, .int .i64 c, .slice p xs.length k] 26)) := (Ext.refl w).alloc _
  have hmt := Lib.hid (fun W (h : IntsAt W p xs) => iMat_c r c p k xs W h hl)
  by_cases h1 : matOK r c xs
  · have hV : rfV r c xs = shareV (cellsL r.toNat xs aPl) (cellsL r.toNat xs (bPl r)) := by unfold rfV; rw [if_neg (not_not_intro h1)]
    rw [hV]
    obtain ⟨n, rfl, rfl, hn1, hn2, hn4, hlen, hxb⟩ := matOK_nat h1
    simp only [Int.toNat_natCast]
    have hfa := cellsL_fm (n := n) (ps := aPl) hxb
    have hfb := cellsL_fm (n := n) (ps := bPl n) hxb
    replace h1 := Lib.hid h1
    clear hV hxb
    have hN : n * n ≤ 1681 := Nat.mul_le_mul hn2 hn2
    have hcd := shareV_cd (cellsL n xs aPl) (cellsL n xs (bPl n))
    have hca := fun q m c W (h : IntsAt W p xs) (h2 : PlAt W q aPl) (h3 : aPl.length = m) => cellsAt_c n k m c p q xs aPl W ⟨hn1, hn2⟩ h hlen h2 h3 (by rw [← h3]; decide) (aPl_in hn1)
    have hcb := fun q m c W (h : IntsAt W p xs) (h2 : PlAt W q (bPl n)) (h3 : (bPl n).length = m) => cellsAt_c n k m c p q xs (bPl n) W ⟨hn1, hn2⟩ h hlen h2 h3 (by rw [← h3]; show 15 ≤ 2000; omega) (bPl_bd hn1)
    rw [← hlen] at hca hcb
    have hla : (cellsL n xs aPl).length = 15 := by simp [cellsL, aPl]
    have hlb : (cellsL n xs (bPl n)).length = 15 := by simp [cellsL, bPl]
    have hsh := fun p' q' c' d' W (h1 : IntsAt W p' (cellsL n xs aPl)) (h2 : IntsAt W q' (cellsL n xs (bPl n))) => iShare_c p' q' c' d' _ _ W h1 h2 hla hlb hfa hfb
    clear hfa hfb hla hlb
    generalize cellsL n xs aPl = LA at *
    generalize cellsL n xs (bPl n) = LB at *
    generalize shareV LA LB = V at *
    replace hca := Lib.hid hca; replace hcb := Lib.hid hcb; replace hsh := Lib.hid hsh; replace hlen := Lib.hid hlen
    have hfm := Lib.hid (fun W => iFormats_c n W (by omega))
    obtain ⟨v1, v2⟩ := V
    simp only at hsh hcd ⊢
    go_enter Try.func14, Try.ntmps14
    go_wp2_with (first
      | (go_at_call 29; (with_reducible refine (hmt.out _ (HX.out.ext hx0)).mono ?_); rintro e w1 ⟨⟨hP, rfl⟩ | ⟨hP, rfl⟩, hx1⟩ <;> (first | exact absurd h1.out hP | skip); have hb1 := hb.ext hx1; have q0 := hb1.cell (i := 0) (v := .int .i64 n) rfl; have q1 := hb1.cell (i := 1) (v := .int .i64 n) rfl; have q2 := hb1.cell (i := 2) (v := .slice p xs.length k) rfl; have ql := hb1.lt)
      | (go_at_call 39; (with_reducible refine (hfm.out _).mono ?_); rintro e w4 ⟨⟨va, vb, rfl, hra, hrb, -⟩, hx4⟩; obtain ⟨pa, ca, rfl, haA, -⟩ := hra.nfree plF_len; obtain ⟨pb, cb, rfl, haB, -⟩ := hrb.nfree plF_len; have hb4 := hb1.ext hx4; have hx04 := (hx0.trans hx1).trans hx4))
    clear q0 q1 q2 ql hra hrb hb hb1 hx0 hx1 hx4
    rw [show aPl.length = 15 from rfl, show (bPl n).length = 15 from rfl]
    have q0 := hb4.cell (i := 0) (v := .int .i64 n) rfl; have q1 := hb4.cell (i := 1) (v := .int .i64 n) rfl; have q2 := hb4.cell (i := 2) (v := .slice p xs.length k) rfl; have ql := hb4.lt
    refine wp_region_canon (fun w' => Ext w4 w') [(1, true), (2, true), (4, true), (5, true), (0, false), (3, false), (6, false), (7, false), (8, true), (9, true), (10, true), (11, true), (12, true)] (by kernel_rfl) (by kernel_rfl) (by decide) (by kernel_rfl) ?_ ?_
    · exact (by repeat (first | exact Ext.refl _ | assumption | refine Ext.drew ?_ | refine Ext.drewN ?_ _ | refine Ext.iter ?_ _ _ | refine Ext.alloc ?_ _ | refine Ext.setCell ?_ (by first | exact Nat.le_refl _ | (simp <;> omega)) _ | refine Ext.trans2 (by assumption) ?_))
    refine canon_intro fun ops eo => ?_
    have ho0 := canon_at eo 0 rfl
    have ho1 := canon_at eo 1 rfl
    have ho2 := canon_at eo 2 rfl
    have ho3 := canon_at eo 3 rfl
    have ho4 := canon_at eo 4 rfl
    have ho5 := canon_at eo 5 rfl
    have ho6 := canon_at eo 6 rfl
    have ho7 := canon_at eo 7 rfl
    have ho8 := canon_at eo 8 rfl
    have ho9 := canon_at eo 9 rfl
    have ho10 := canon_at eo 10 rfl
    have ho11 := canon_at eo 11 rfl
    have ho12 := canon_at eo 12 rfl
    clear eo
    all_goals (apply canon_st ho1 rfl; (intro w2 hS; first | (go_simp; first | done | rfl) | rfl | (obtain ⟨hc, hf, hk', hz⟩ := ecell hS; go_simp; first | done | rfl)); simp only [Act.put, List.setIfInBounds_toArray, List.set_cons_zero, List.set_cons_succ])
    all_goals clear ho1
    all_goals (apply canon_st ho2 rfl; (intro w2 hS; first | (go_simp; first | done | rfl) | rfl | (obtain ⟨hc, hf, hk', hz⟩ := ecell hS; go_simp; first | done | rfl)); simp only [Act.put, List.setIfInBounds_toArray, List.set_cons_zero, List.set_cons_succ])
    all_goals clear ho2
    all_goals (apply canon_st ho4 rfl; (intro w2 hS; first | (go_simp; first | done | rfl) | rfl | (obtain ⟨hc, hf, hk', hz⟩ := ecell hS; go_simp; first | done | rfl)); simp only [Act.put, List.setIfInBounds_toArray, List.set_cons_zero, List.set_cons_succ])
    all_goals clear ho4
    all_goals (apply canon_st ho5 rfl; (intro w2 hS; first | (go_simp; first | done | rfl) | rfl | (obtain ⟨hc, hf, hk', hz⟩ := ecell hS; go_simp; first | done | rfl)); simp only [Act.put, List.setIfInBounds_toArray, List.set_cons_zero, List.set_cons_succ])
    all_goals clear ho5
    all_goals first | (refine canon_ef ho0 rfl (fun K hK => ?_); go_simp; ((go_at_call 41; (with_reducible refine (iStdFmt_c _).mono ?_); rintro e w5 ⟨rfl, hx5⟩)); all_goals (refine hK _ _ ⟨(by repeat (first | exact Ext.refl _ | assumption | refine Ext.drew ?_ | refine Ext.drewN ?_ _ | refine Ext.iter ?_ _ _ | refine Ext.alloc ?_ _ | refine Ext.setCell ?_ (by first | exact Nat.le_refl _ | (simp <;> omega)) _ | refine Ext.trans2 (by assumption) ?_)), ?_⟩; clear hK K; go_simp)) | (refine canon_ef ho0 rfl (fun K hK => ?_); go_simp; ((go_at_call 42; (with_reducible refine (hca.out pa 15 ca _ (HX.out.ext (hx04.trans (by repeat (first | exact Ext.refl _ | assumption | refine Ext.drew ?_ | refine Ext.drewN ?_ _ | refine Ext.iter ?_ _ _ | refine Ext.alloc ?_ _ | refine Ext.setCell ?_ (by first | exact Nat.le_refl _ | (simp <;> omega)) _ | refine Ext.trans2 (by assumption) ?_)))) (haA.ext (by repeat (first | exact Ext.refl _ | assumption | refine Ext.drew ?_ | refine Ext.drewN ?_ _ | refine Ext.iter ?_ _ _ | refine Ext.alloc ?_ _ | refine Ext.setCell ?_ (by first | exact Nat.le_refl _ | (simp <;> omega)) _ | refine Ext.trans2 (by assumption) ?_))) rfl).mono ?_); rintro e w6 ⟨⟨ga, rfl, oqa⟩, hx6⟩)); all_goals (refine hK _ _ ⟨(by repeat (first | exact Ext.refl _ | assumption | refine Ext.drew ?_ | refine Ext.drewN ?_ _ | refine Ext.iter ?_ _ _ | refine Ext.alloc ?_ _ | refine Ext.setCell ?_ (by first | exact Nat.le_refl _ | (simp <;> omega)) _ | refine Ext.trans2 (by assumption) ?_)), ?_⟩; clear hK K; go_simp)) | (refine canon_ef ho0 rfl (fun K hK => ?_); go_simp; ((go_at_call 42; (with_reducible refine (hcb.out pb 15 cb _ (HX.out.ext (hx04.trans (by repeat (first | exact Ext.refl _ | assumption | refine Ext.drew ?_ | refine Ext.drewN ?_ _ | refine Ext.iter ?_ _ _ | refine Ext.alloc ?_ _ | refine Ext.setCell ?_ (by first | exact Nat.le_refl _ | (simp <;> omega)) _ | refine Ext.trans2 (by assumption) ?_)))) (haB.ext (by repeat (first | exact Ext.refl _ | assumption | refine Ext.drew ?_ | refine Ext.drewN ?_ _ | refine Ext.iter ?_ _ _ | refine Ext.alloc ?_ _ | refine Ext.setCell ?_ (by first | exact Nat.le_refl _ | (simp <;> omega)) _ | refine Ext.trans2 (by assumption) ?_))) rfl).mono ?_); rintro e w7 ⟨⟨gb, rfl, oqb⟩, hx7⟩)); all_goals (refine hK _ _ ⟨(by repeat (first | exact Ext.refl _ | assumption | refine Ext.drew ?_ | refine Ext.drewN ?_ _ | refine Ext.iter ?_ _ _ | refine Ext.alloc ?_ _ | refine Ext.setCell ?_ (by first | exact Nat.le_refl _ | (simp <;> omega)) _ | refine Ext.trans2 (by assumption) ?_)), ?_⟩; clear hK K; go_simp)) | (refine canon_ef ho0 rfl (fun K hK => ?_); go_simp; ((go_at_call 40; (with_reducible refine (hsh.out _ _ _ _ _ (oqa.ints.ext (by repeat (first | exact Ext.refl _ | assumption | refine Ext.drew ?_ | refine Ext.drewN ?_ _ | refine Ext.iter ?_ _ _ | refine Ext.alloc ?_ _ | refine Ext.setCell ?_ (by first | exact Nat.le_refl _ | (simp <;> omega)) _ | refine Ext.trans2 (by assumption) ?_))) oqb.ints).mono ?_); rintro e w8 ⟨rfl, hx8⟩)); all_goals (refine hK _ _ ⟨(by repeat (first | exact Ext.refl _ | assumption | refine Ext.drew ?_ | refine Ext.drewN ?_ _ | refine Ext.iter ?_ _ _ | refine Ext.alloc ?_ _ | refine Ext.setCell ?_ (by first | exact Nat.le_refl _ | (simp <;> omega)) _ | refine Ext.trans2 (by assumption) ?_)), ?_⟩; clear hK K; go_simp))
    all_goals clear ho0
    all_goals first | (refine canon_ef ho3 rfl (fun K hK => ?_); go_simp; ((go_at_call 41; (with_reducible refine (iStdFmt_c _).mono ?_); rintro e w5 ⟨rfl, hx5⟩)); all_goals (refine hK _ _ ⟨(by repeat (first | exact Ext.refl _ | assumption | refine Ext.drew ?_ | refine Ext.drewN ?_ _ | refine Ext.iter ?_ _ _ | refine Ext.alloc ?_ _ | refine Ext.setCell ?_ (by first | exact Nat.le_refl _ | (simp <;> omega)) _ | refine Ext.trans2 (by assumption) ?_)), ?_⟩; clear hK K; go_simp)) | (refine canon_ef ho3 rfl (fun K hK => ?_); go_simp; ((go_at_call 42; (with_reducible refine (hca.out pa 15 ca _ (HX.out.ext (hx04.trans (by repeat (first | exact Ext.refl _ | assumption | refine Ext.drew ?_ | refine Ext.drewN ?_ _ | refine Ext.iter ?_ _ _ | refine Ext.alloc ?_ _ | refine Ext.setCell ?_ (by first | exact Nat.le_refl _ | (simp <;> omega)) _ | refine Ext.trans2 (by assumption) ?_)))) (haA.ext (by repeat (first | exact Ext.refl _ | assumption | refine Ext.drew ?_ | refine Ext.drewN ?_ _ | refine Ext.iter ?_ _ _ | refine Ext.alloc ?_ _ | refine Ext.setCell ?_ (by first | exact Nat.le_refl _ | (simp <;> omega)) _ | refine Ext.trans2 (by assumption) ?_))) rfl).mono ?_); rintro e w6 ⟨⟨ga, rfl, oqa⟩, hx6⟩)); all_goals (refine hK _ _ ⟨(by repeat (first | exact Ext.refl _ | assumption | refine Ext.drew ?_ | refine Ext.drewN ?_ _ | refine Ext.iter ?_ _ _ | refine Ext.alloc ?_ _ | refine Ext.setCell ?_ (by first | exact Nat.le_refl _ | (simp <;> omega)) _ | refine Ext.trans2 (by assumption) ?_)), ?_⟩; clear hK K; go_simp)) | (refine canon_ef ho3 rfl (fun K hK => ?_); go_simp; ((go_at_call 42; (with_reducible refine (hcb.out pb 15 cb _ (HX.out.ext (hx04.trans (by repeat (first | exact Ext.refl _ | assumption | refine Ext.drew ?_ | refine Ext.drewN ?_ _ | refine Ext.iter ?_ _ _ | refine Ext.alloc ?_ _ | refine Ext.setCell ?_ (by first | exact Nat.le_refl _ | (simp <;> omega)) _ | refine Ext.trans2 (by assumption) ?_)))) (haB.ext (by repeat (first | exact Ext.refl _ | assumption | refine Ext.drew ?_ | refine Ext.drewN ?_ _ | refine Ext.iter ?_ _ _ | refine Ext.alloc ?_ _ | refine Ext.setCell ?_ (by first | exact Nat.le_refl _ | (simp <;> omega)) _ | refine Ext.trans2 (by assumption) ?_))) rfl).mono ?_); rintro e w7 ⟨⟨gb, rfl, oqb⟩, hx7⟩)); all_goals (refine hK _ _ ⟨(by repeat (first | exact Ext.refl _ | assumption | refine Ext.drew ?_ | refine Ext.drewN ?_ _ | refine Ext.iter ?_ _ _ | refine Ext.alloc ?_ _ | refine Ext.setCell ?_ (by first | exact Nat.le_refl _ | (simp <;> omega)) _ | refine Ext.trans2 (by assumption) ?_)), ?_⟩; clear hK K; go_simp)) | (refine canon_ef ho3 rfl (fun K hK => ?_); go_simp; ((go_at_call 40; (with_reducible refine (hsh.out _ _ _ _ _ (oqa.ints.ext (by repeat (first | exact Ext.refl _ | assumption | refine Ext.drew ?_ | refine Ext.drewN ?_ _ | refine Ext.iter ?_ _ _ | refine Ext.alloc ?_ _ | refine Ext.setCell ?_ (by first | exact Nat.le_refl _ | (simp <;> omega)) _ | refine Ext.trans2 (by assumption) ?_))) oqb.ints).mono ?_); rintro e w8 ⟨rfl, hx8⟩)); all_goals (refine hK _ _ ⟨(by repeat (first | exact Ext.refl _ | assumption | refine Ext.drew ?_ | refine Ext.drewN ?_ _ | refine Ext.iter ?_ _ _ | refine Ext.alloc ?_ _ | refine Ext.setCell ?_ (by first | exact Nat.le_refl _ | (simp <;> omega)) _ | refine Ext.trans2 (by assumption) ?_)), ?_⟩; clear hK K; go_simp))
    all_goals clear ho3
    all_goals first | (refine canon_ef ho6 rfl (fun K hK => ?_); go_simp; ((go_at_call 41; (with_reducible refine (iStdFmt_c _).mono ?_); rintro e w5 ⟨rfl, hx5⟩)); all_goals (refine hK _ _ ⟨(by repeat (first | exact Ext.refl _ | assumption | refine Ext.drew ?_ | refine Ext.drewN ?_ _ | refine Ext.iter ?_ _ _ | refine Ext.alloc ?_ _ | refine Ext.setCell ?_ (by first | exact Nat.le_refl _ | (simp <;> omega)) _ | refine Ext.trans2 (by assumption) ?_)), ?_⟩; clear hK K; go_simp)) | (refine canon_ef ho6 rfl (fun K hK => ?_); go_simp; ((go_at_call 42; (with_reducible refine (hca.out pa 15 ca _ (HX.out.ext (hx04.trans (by repeat (first | exact Ext.refl _ | assumption | refine Ext.drew ?_ | refine Ext.drewN ?_ _ | refine Ext.iter ?_ _ _ | refine Ext.alloc ?_ _ | refine Ext.setCell ?_ (by first | exact Nat.le_refl _ | (simp <;> omega)) _ | refine Ext.trans2 (by assumption) ?_)))) (haA.ext (by repeat (first | exact Ext.refl _ | assumption | refine Ext.drew ?_ | refine Ext.drewN ?_ _ | refine Ext.iter ?_ _ _ | refine Ext.alloc ?_ _ | refine Ext.setCell ?_ (by first | exact Nat.le_refl _ | (simp <;> omega)) _ | refine Ext.trans2 (by assumption) ?_))) rfl).mono ?_); rintro e w6 ⟨⟨ga, rfl, oqa⟩, hx6⟩)); all_goals (refine hK _ _ ⟨(by repeat (first | exact Ext.refl _ | assumption | refine Ext.drew ?_ | refine Ext.drewN ?_ _ | refine Ext.iter ?_ _ _ | refine Ext.alloc ?_ _ | refine Ext.setCell ?_ (by first | exact Nat.le_refl _ | (simp <;> omega)) _ | refine Ext.trans2 (by assumption) ?_)), ?_⟩; clear hK K; go_simp)) | (refine canon_ef ho6 rfl (fun K hK => ?_); go_simp; ((go_at_call 42; (with_reducible refine (hcb.out pb 15 cb _ (HX.out.ext (hx04.trans (by repeat (first | exact Ext.refl _ | assumption | refine Ext.drew ?_ | refine Ext.drewN ?_ _ | refine Ext.iter ?_ _ _ | refine Ext.alloc ?_ _ | refine Ext.setCell ?_ (by first | exact Nat.le_refl _ | (simp <;> omega)) _ | refine Ext.trans2 (by assumption) ?_)))) (haB.ext (by repeat (first | exact Ext.refl _ | assumption | refine Ext.drew ?_ | refine Ext.drewN ?_ _ | refine Ext.iter ?_ _ _ | refine Ext.alloc ?_ _ | refine Ext.setCell ?_ (by first | exact Nat.le_refl _ | (simp <;> omega)) _ | refine Ext.trans2 (by assumption) ?_))) rfl).mono ?_); rintro e w7 ⟨⟨gb, rfl, oqb⟩, hx7⟩)); all_goals (refine hK _ _ ⟨(by repeat (first | exact Ext.refl _ | assumption | refine Ext.drew ?_ | refine Ext.drewN ?_ _ | refine Ext.iter ?_ _ _ | refine Ext.alloc ?_ _ | refine Ext.setCell ?_ (by first | exact Nat.le_refl _ | (simp <;> omega)) _ | refine Ext.trans2 (by assumption) ?_)), ?_⟩; clear hK K; go_simp)) | (refine canon_ef ho6 rfl (fun K hK => ?_); go_simp; ((go_at_call 40; (with_reducible refine (hsh.out _ _ _ _ _ (oqa.ints.ext (by repeat (first | exact Ext.refl _ | assumption | refine Ext.drew ?_ | refine Ext.drewN ?_ _ | refine Ext.iter ?_ _ _ | refine Ext.alloc ?_ _ | refine Ext.setCell ?_ (by first | exact Nat.le_refl _ | (simp <;> omega)) _ | refine Ext.trans2 (by assumption) ?_))) oqb.ints).mono ?_); rintro e w8 ⟨rfl, hx8⟩)); all_goals (refine hK _ _ ⟨(by repeat (first | exact Ext.refl _ | assumption | refine Ext.drew ?_ | refine Ext.drewN ?_ _ | refine Ext.iter ?_ _ _ | refine Ext.alloc ?_ _ | refine Ext.setCell ?_ (by first | exact Nat.le_refl _ | (simp <;> omega)) _ | refine Ext.trans2 (by assumption) ?_)), ?_⟩; clear hK K; go_simp))
    all_goals clear ho6
    all_goals first | (refine canon_ef ho7 rfl (fun K hK => ?_); go_simp; ((go_at_call 41; (with_reducible refine (iStdFmt_c _).mono ?_); rintro e w5 ⟨rfl, hx5⟩)); all_goals (refine hK _ _ ⟨(by repeat (first | exact Ext.refl _ | assumption | refine Ext.drew ?_ | refine Ext.drewN ?_ _ | refine Ext.iter ?_ _ _ | refine Ext.alloc ?_ _ | refine Ext.setCell ?_ (by first | exact Nat.le_refl _ | (simp <;> omega)) _ | refine Ext.trans2 (by assumption) ?_)), ?_⟩; clear hK K; go_simp)) | (refine canon_ef ho7 rfl (fun K hK => ?_); go_simp; ((go_at_call 42; (with_reducible refine (hca.out pa 15 ca _ (HX.out.ext (hx04.trans (by repeat (first | exact Ext.refl _ | assumption | refine Ext.drew ?_ | refine Ext.drewN ?_ _ | refine Ext.iter ?_ _ _ | refine Ext.alloc ?_ _ | refine Ext.setCell ?_ (by first | exact Nat.le_refl _ | (simp <;> omega)) _ | refine Ext.trans2 (by assumption) ?_)))) (haA.ext (by repeat (first | exact Ext.refl _ | assumption | refine Ext.drew ?_ | refine Ext.drewN ?_ _ | refine Ext.iter ?_ _ _ | refine Ext.alloc ?_ _ | refine Ext.setCell ?_ (by first | exact Nat.le_refl _ | (simp <;> omega)) _ | refine Ext.trans2 (by assumption) ?_))) rfl).mono ?_); rintro e w6 ⟨⟨ga, rfl, oqa⟩, hx6⟩)); all_goals (refine hK _ _ ⟨(by repeat (first | exact Ext.refl _ | assumption | refine Ext.drew ?_ | refine Ext.drewN ?_ _ | refine Ext.iter ?_ _ _ | refine Ext.alloc ?_ _ | refine Ext.setCell ?_ (by first | exact Nat.le_refl _ | (simp <;> omega)) _ | refine Ext.trans2 (by assumption) ?_)), ?_⟩; clear hK K; go_simp)) | (refine canon_ef ho7 rfl (fun K hK => ?_); go_simp; ((go_at_call 42; (with_reducible refine (hcb.out pb 15 cb _ (HX.out.ext (hx04.trans (by repeat (first | exact Ext.refl _ | assumption | refine Ext.drew ?_ | refine Ext.drewN ?_ _ | refine Ext.iter ?_ _ _ | refine Ext.alloc ?_ _ | refine Ext.setCell ?_ (by first | exact Nat.le_refl _ | (simp <;> omega)) _ | refine Ext.trans2 (by assumption) ?_)))) (haB.ext (by repeat (first | exact Ext.refl _ | assumption | refine Ext.drew ?_ | refine Ext.drewN ?_ _ | refine Ext.iter ?_ _ _ | refine Ext.alloc ?_ _ | refine Ext.setCell ?_ (by first | exact Nat.le_refl _ | (simp <;> omega)) _ | refine Ext.trans2 (by assumption) ?_))) rfl).mono ?_); rintro e w7 ⟨⟨gb, rfl, oqb⟩, hx7⟩)); all_goals (refine hK _ _ ⟨(by repeat (first | exact Ext.refl _ | assumption | refine Ext.drew ?_ | refine Ext.drewN ?_ _ | refine Ext.iter ?_ _ _ | refine Ext.alloc ?_ _ | refine Ext.setCell ?_ (by first | exact Nat.le_refl _ | (simp <;> omega)) _ | refine Ext.trans2 (by assumption) ?_)), ?_⟩; clear hK K; go_simp)) | (refine canon_ef ho7 rfl (fun K hK => ?_); go_simp; ((go_at_call 40; (with_reducible refine (hsh.out _ _ _ _ _ (oqa.ints.ext (by repeat (first | exact Ext.refl _ | assumption | refine Ext.drew ?_ | refine Ext.drewN ?_ _ | refine Ext.iter ?_ _ _ | refine Ext.alloc ?_ _ | refine Ext.setCell ?_ (by first | exact Nat.le_refl _ | (simp <;> omega)) _ | refine Ext.trans2 (by assumption) ?_))) oqb.ints).mono ?_); rintro e w8 ⟨rfl, hx8⟩)); all_goals (refine hK _ _ ⟨(by repeat (first | exact Ext.refl _ | assumption | refine Ext.drew ?_ | refine Ext.drewN ?_ _ | refine Ext.iter ?_ _ _ | refine Ext.alloc ?_ _ | refine Ext.setCell ?_ (by first | exact Nat.le_refl _ | (simp <;> omega)) _ | refine Ext.trans2 (by assumption) ?_)), ?_⟩; clear hK K; go_simp))
    all_goals clear ho7
    all_goals (apply canon_st ho8 rfl; (intro w2 hS; first | (go_simp; first | done | rfl) | rfl | (obtain ⟨hc, hf, hk', hz⟩ := ecell hS; go_simp; first | done | rfl)); simp only [Act.put, List.setIfInBounds_toArray, List.set_cons_zero, List.set_cons_succ])
    all_goals clear ho8
    all_goals (apply canon_st ho9 rfl; (intro w2 hS; first | (go_simp; first | done | rfl) | rfl | (obtain ⟨hc, hf, hk', hz⟩ := ecell hS; go_simp; first | done | rfl)); simp only [Act.put, List.setIfInBounds_toArray, List.set_cons_zero, List.set_cons_succ])
    all_goals clear ho9
    all_goals (apply canon_st ho10 rfl; (intro w2 hS; first | (go_simp; first | done | rfl) | rfl | (obtain ⟨hc, hf, hk', hz⟩ := ecell hS; go_simp; first | done | rfl)); simp only [Act.put, List.setIfInBounds_toArray, List.set_cons_zero, List.set_cons_succ])
    all_goals clear ho10
    all_goals (apply canon_st ho11 rfl; (intro w2 hS; first | (go_simp; first | done | rfl) | rfl | (obtain ⟨hc, hf, hk', hz⟩ := ecell hS; go_simp; first | done | rfl)); simp only [Act.put, List.setIfInBounds_toArray, List.set_cons_zero, List.set_cons_succ])
    all_goals clear ho11
    all_goals (apply canon_st ho12 rfl; (intro w2 hS; first | (go_simp; first | done | rfl) | rfl | (obtain ⟨hc, hf, hk', hz⟩ := ecell hS; go_simp; first | done | rfl)); simp only [Act.put, List.setIfInBounds_toArray, List.set_cons_zero, List.set_cons_succ])
    all_goals clear ho12
    all_goals refine canon_done (NoPanic.normal ?_)
    have hx48 : Ext w4 w8 := (by repeat (first | exact Ext.refl _ | assumption | refine Ext.drew ?_ | refine Ext.drewN ?_ _ | refine Ext.iter ?_ _ _ | refine Ext.alloc ?_ _ | refine Ext.setCell ?_ (by first | exact Nat.le_refl _ | (simp <;> omega)) _ | refine Ext.trans2 (by assumption) ?_))
    clear q0 q1 q2 ql oqa oqb
    rcases hcd with hcd | ⟨rfl, -, -⟩
    · obtain ⟨rfl, rfl⟩ := Prod.mk.inj hcd
      clear hcd
      go_wp2_with fail
      go_ret2
      exact ⟨rfl, hx04.trans hx48⟩
    · go_wp2_with fail
      go_ret2
      exact ⟨rfl, hx04.trans hx48⟩
  · have hV : rfV r c xs = (0, 1) := by unfold rfV; rw [if_pos h1]
    rw [hV]
    replace h1 := Lib.hid h1
    clear hV
    go_enter Try.func14, Try.ntmps14
    go_wp2_with (go_at_call 29; (with_reducible refine (hmt.out _ (HX.out.ext hx0)).mono ?_); rintro e w1 ⟨⟨hP, rfl⟩ | ⟨hP, rfl⟩, hx1⟩ <;> (first | exact absurd hP h1.out | skip))
    go_ret2
    exact ⟨rfl, hx0.trans hx1⟩
/-- The number of fixed cells among the first k that are known and wrong. -/
def feTo (fs xs : List Int) : Nat → Nat
  | 0 => 0
  | k + 1 => feTo fs xs k + if 0 ≤ fs.getD k 0 ∧ 0 ≤ xs.getD k 0 ∧ fs.getD k 0 ≠ xs.getD k 0 then 1 else 0
theorem feTo_le (fs xs : List Int) : ∀ k, feTo fs xs k ≤ k
  | 0 => Nat.le_refl _
  | k + 1 => by
    have := feTo_le fs xs k
    unfold feTo
    split <;> omega
open Classical in
noncomputable def feV (r c : Int) (xs : List Int) : Int × Int := if ¬ matOK r c xs then (0, 1) else (((feTo (fixL r.toNat) xs xs.length : Nat) : Int), 0)
set_option maxHeartbeats 800000 in
set_option maxRecDepth 100000 in
theorem iFixedErrors_c (r c : Int) (p : Option Addr) (k : Nat) (xs : List Int) (w : World) (hx : IntsAt w p xs) (hl : xs.length ≤ 1048576) :
    Calls Try.prog 16 #[vGrid r c p xs.length k] w fun e w' => e = .returned (.tuple #[.int .i64 (feV r c xs).1, .int .i64 (feV r c xs).2]) ∧ Ext w w' := by
  have HX := Lib.hid hx; clear hx
  have hb := Blk.new w #[.int .i64 r, .int .i64 c, .slice p xs.length k] 26
  have hx0 : Ext w (w.alloc (.cells #[.int .i64 r, .int .i64 c, .slice p xs.length k] 26)) := (Ext.refl w).alloc _
  have hmt := Lib.hid (fun W (h : IntsAt W p xs) => iMat_c r c p k xs W h hl)
  by_cases h1 : matOK r c xs
  · have hV : feV r c xs = (((feTo (fixL r.toNat) xs xs.length : Nat) : Int), 0) := by unfold feV; rw [if_neg (not_not_intro h1)]
    rw [hV]
    obtain ⟨n, rfl, rfl, hn1, hn2, hn4, hlen, hxb⟩ := matOK_nat h1
    simp only [Int.toNat_natCast]
    replace h1 := Lib.hid h1
    clear hV
    have hN : n * n ≤ 1681 := Nat.mul_le_mul hn2 hn2
    have hfx := Lib.hid (fun W => iFixed_c n W ⟨hn1, hn2⟩)
    have hfl : (fixL n).length = xs.length := by rw [fixL_len, hlen]
    have hfb := Lib.hid (fixL_bd n)
    replace hxb := Lib.hid hxb
    replace hfl := Lib.hid hfl
    generalize fixL n = F at *
    have hfld : ∀ v w, (Instr.field 26 (vGrid n n v F.length k) 2).run Try.prog w = .ok (.slice v F.length k) w := fun v w => by kernel_rfl
    have hfld2 : ∀ v k' w, (Instr.field 26 (vGrid n n v F.length k') 2).run Try.prog w = .ok (.slice v F.length k') w := fun v k' w => by kernel_rfl
    have hN2 := hlen
    replace hlen := Lib.hid hlen
    have hbound : xs.length ≤ 1681 := by rw [hN2]; exact hN
    clear hN2 hN hfld
    go_enter Try.func16, Try.ntmps16
    go_wp2_with (first
      | (go_at_call 29; (with_reducible refine (hmt.out _ (HX.out.ext hx0)).mono ?_); rintro e w1 ⟨⟨hP, rfl⟩ | ⟨hP, rfl⟩, hx1⟩ <;> (first | exact absurd h1.out hP | skip); have hb1 := hb.ext hx1; have q0 := hb1.cell (i := 0) (v := .int .i64 n) rfl; have q1 := hb1.cell (i := 1) (v := .int .i64 n) rfl; have q2 := hb1.cell (i := 2) (v := .slice p xs.length k) rfl; have ql := hb1.lt)
      | (go_at_call 43; (with_reducible refine (hfx.out _).mono ?_); rintro e w2 ⟨⟨pf, kf, rfl, oqf, -⟩, hx2⟩))
    rw [hfl.out]
    have hb2 := hb1.ext hx2
    replace hx0 := (hx0.trans hx1).trans hx2
    have hF := Lib.hid oqf.ints
    clear q0 q1 q2 ql hb hb1 hx1 hx2 oqf
    go_loopw [4, 15] (fun a i wr => ∃ j : Nat, j ≤ xs.length ∧ i = .int .i64 j ∧ a = .int .i64 (feTo F xs j) ∧ Ext w2 wr) (fun _ i _ => xs.length - (intOf i).toNat)
    case atStart => exact ⟨0, by omega, rfl, rfl, Ext.refl _⟩
    case round =>
      obtain ⟨j, hj, rfl, rfl, hext⟩ := hrel
      by_cases hlt : j < xs.length
      · obtain ⟨bx, ox, rfl, hbx, z1⟩ := (HX.out.ext (hx0.trans hext)) j hlt
        obtain ⟨bf, off, rfl, hbf, z2⟩ := (hF.out.ext hext) j (by rw [hfl.out]; exact hlt)
        have hb3 := hb2.ext hext
        have q2 := hb3.cell (i := 2) (v := .slice (some ⟨bx, ox, none⟩) xs.length k) rfl
        have ql := hb3.lt
        have hst : feTo F xs (j + 1) = feTo F xs j + if 0 ≤ F.getD j 0 ∧ 0 ≤ xs.getD j 0 ∧ F.getD j 0 ≠ xs.getD j 0 then 1 else 0 := rfl
        have hbd1 := hxb.out (xs.getD j 0) (getD_mem hlt)
        have hbd2 := hfb.out (F.getD j 0) (getD_mem (by rw [hfl.out]; exact hlt))
        have hfe := feTo_le F xs j
        obtain ⟨Z1, hZ1⟩ : ∃ z, feTo F xs (j + 1) = z := ⟨_, rfl⟩
        rw [hZ1] at hst
        generalize feTo F xs j = Z at *
        generalize F.getD j 0 = f at *
        generalize xs.getD j 0 = x at *
        replace hZ1 := Lib.hid hZ1
        have hcs : (0 ≤ f ∧ (x == 1 - f) = true ∧ (if 0 ≤ f ∧ 0 ≤ x ∧ f ≠ x then 1 else 0) = 1) ∨ (0 ≤ f ∧ (x == 1 - f) = false ∧ (if 0 ≤ f ∧ 0 ≤ x ∧ f ≠ x then 1 else 0) = 0) ∨ (f < 0 ∧ (if 0 ≤ f ∧ 0 ≤ x ∧ f ≠ x then 1 else 0) = 0) := by
          by_cases a : 0 ≤ f
          · by_cases b : x = 1 - f
            · exact .inl ⟨a, by simp [b], if_pos (by omega)⟩
            · exact .inr (.inl ⟨a, by simp [b], if_neg (by omega)⟩)
          · exact .inr (.inr ⟨by omega, if_neg (by omega)⟩)
        rcases hcs with ⟨c1, c2, c3⟩ | ⟨c1, c2, c3⟩ | ⟨c1, c3⟩
        all_goals
          rw [c3] at hst
          replace hst := Lib.hid hst
          clear c3
          go_wp2_with fail
          go_roundw
          case rel => exact ⟨j + 1, hlt, by go_num, by rw [hZ1.out, hst.out]; (first | rfl | go_num), hext⟩
          case measure => simp [intOf]; omega
      · obtain rfl : j = xs.length := by omega
        go_wp2_with fail
        go_ret2
        exact ⟨rfl, hx0.trans hext⟩
  · have hV : feV r c xs = (0, 1) := by unfold feV; rw [if_pos h1]
    rw [hV]
    replace h1 := Lib.hid h1
    clear hV
    go_enter Try.func16, Try.ntmps16
    go_wp2_with (go_at_call 29; (with_reducible refine (hmt.out _ (HX.out.ext hx0)).mono ?_); rintro e w1 ⟨⟨hP, rfl⟩ | ⟨hP, rfl⟩, hx1⟩ <;> (first | exact absurd hP h1.out | skip))
    go_ret2
    exact ⟨rfl, hx0.trans hx1⟩
end Go.Proofs.Ythjklchmjeojjaa

/-! Matrix grids, the reference's side: formats put and read, errors of the fixed cells. -/
namespace Go.Proofs.Ythjklchmjeojjaa
set_option linter.unusedVariables false
set_option linter.unusedSimpArgs false
open Go.RowKit

set_option maxHeartbeats 1600000 in
set_option maxRecDepth 100000 in
theorem sPut_c (n v k : Nat) (p : Option Addr) (xs : List Int) (w : World) (hv : v < 32) (hn : 17 ≤ n ∧ n ≤ 41) (hx : IntsAt w p xs) (hlen : xs.length = n * n) :
    Calls Try.prog 35 #[vGrid n n p xs.length k, .int .i64 v] w fun e w' => GrdR n n (pFmt n (fmtW v) xs 15) w.heap.size e w' ∧ Ext w w' := by
  have HX := Lib.hid hx; clear hx
  have hN : n * n ≤ 1681 := Nat.mul_le_mul hn.2 hn.2
  have hN1 : 0 < n * n := Nat.mul_pos (by omega) (by omega)
  have hb := (Blk.new w #[.int .i64 n, .int .i64 n, .slice p xs.length k] 26).alloc (.cells #[.int .i64 0, .int .i64 0, .slice none 0 0] 26)
  have h0 := Blk.new (w.alloc (.cells #[.int .i64 n, .int .i64 n, .slice p xs.length k] 26)) #[.int .i64 0, .int .i64 0, .slice none 0 0] 26
  have hx0 : Ext w ((w.alloc (.cells #[.int .i64 n, .int .i64 n, .slice p xs.length k] 26)).alloc (.cells #[.int .i64 0, .int .i64 0, .slice none 0 0] 26)) := ((Ext.refl w).alloc _).alloc _
  simp only [World.size_alloc] at h0
  have hown := Lib.hid (fun W (h : IntsAt W p xs) => sOwn_c p k xs W h (by omega))
  have hwd := Lib.hid (fun W => sWord_c v W hv)
  have hfm := Lib.hid (fun W => sFormats_c n W (by omega))
  have hfl := Lib.hid (fmtW_len v)
  have hlen0 := hlen
  replace hlen := Lib.hid hlen
  have hbound : xs.length ≤ 1681 := by rw [hlen0]; exact hN
  clear hlen0
  have hpfl := Lib.hid (fun j => pFmt_len n (fmtW v) xs j)
  have hba := Lib.hid (aPl_in (n := n) hn.1)
  have hbb := Lib.hid (bPl_bd (n := n) hn.1)
  have hwd2 : ∀ W, Calls Try.prog 65 #[vStd, .int .i64 v] W fun e w' => (∃ p c, e = .returned (.slice p 15 c) ∧ OwnInts W.heap.size w' p (fmtW v)) ∧ Ext W w' := hwd.out
  replace hwd := Lib.hid hwd2
  clear hwd2
  generalize fmtW v = ws at *
  go_enter Try.func35, Try.ntmps35
  go_wp2_with fail
  generalize (w.alloc (.cells #[.int .i64 n, .int .i64 n, .slice p xs.length k] 26)).alloc (.cells #[.int .i64 0, .int .i64 0, .slice none 0 0] 26) = w0 at *
  go_wp2_with fail
  refine (hown.out _ (HX.out.ext hx0)).mono ?_
  rintro e w1 ⟨⟨vo, rfl, hrow⟩, hx1⟩
  obtain ⟨q, kq, rfl, oq, hkq⟩ := hrow.ownC
  clear hrow
  obtain ⟨b, o, rfl, hbB, hbl, -⟩ := oq 0 (by rw [hlen.out]; exact hN1)
  have h0l := h0.lt
  have hbl0 := hb.lt
  have hx01 := hx0.trans hx1
  have hbw : w.heap.size ≤ b := by have := hx0.below.size; omega
  have hne0 : w.heap.size + 1 ≠ b := by omega
  have hneb : w.heap.size ≠ b := by omega
  go_wp2_with (first
    | (go_at_call 46; (with_reducible refine (sStdFmt_c _).mono ?_); rintro e w2 ⟨rfl, hx2⟩)
    | (go_at_call 65; (with_reducible refine (hwd.out _).mono ?_); rintro e w3 ⟨⟨pw, cw, rfl, how⟩, hx3⟩; have hx13 := hx2.trans hx3; have hb3 := (hb.ext hx1).ext hx13; have q0 := hb3.cell (i := 0) (v := .int .i64 n) rfl; have ql := hb3.lt)
    | (go_at_call 38; (with_reducible refine (hfm.out _).mono ?_); rintro e w4 ⟨⟨va, vb, rfl, hra, hrb, -⟩, hx4⟩; obtain ⟨pa, ca, rfl, haA, hna⟩ := hra.nfree plF_len; obtain ⟨pb, cb, rfl, haB, hnb2⟩ := hrb.nfree plF_len))
  rw [show aPl.length = 15 from rfl, show (bPl n).length = 15 from rfl]
  have hx14 : Ext w1 w4 := hx13.trans hx4
  have hz1 := hx1.below.size
  have hz2 := hx2.below.size
  have hz3 := hx3.below.size
  have hW := how.ints.ext hx4
  have hnw : ∀ b' o', pw = some ⟨b', o', none⟩ → w1.heap.size ≤ b' := fun b' o' hp => by
    have := (how.lt0 (fun e => by have := hfl.out; rw [e] at this; simp at this) hp).1
    omega
  replace hna := Lib.hid hna; replace hnb2 := Lib.hid hnb2; replace hnw := Lib.hid hnw
  replace haA := Lib.hid haA; replace haB := Lib.hid haB; replace hW := Lib.hid hW
  replace oq := oq.ext hx14
  have hb4 := (hb.ext hx1).ext hx14
  have h04 := (h0.ext hx1).ext hx14
  have hx04 := hx01.trans hx14
  have oq4 := oq.mono (B' := w.heap.size) (by omega)
  clear q0 ql hra hrb hb h0 hb3 how hx3 hx4 hx2 hx13 oq hown hfm hwd
  go_loopw [9] (fun i wr => ∃ j : Nat, j ≤ 15 ∧ i = .int .i64 j ∧ OwnInts w.heap.size wr (some ⟨b, o, none⟩) (pFmt n ws xs j) ∧ But b w4 wr) (fun i _ => 15 - (intOf i).toNat)
  case atStart => exact ⟨0, by omega, rfl, oq4, But.refl _ _⟩
  case round =>
    clear oq4
    obtain ⟨j, hj, rfl, hown, hB⟩ := hrel
    by_cases hlt : j < 15
    · obtain ⟨ba, oa, rfl, hal, za0, za1⟩ := (haA.out.butF hB (fun b' o' hp => by have := (hna.out b' o' hp).1; omega)).pl2 (k := j) hlt
      obtain ⟨bb, ob, rfl, hbl', zb0, zb1⟩ := (haB.out.butF hB (fun b' o' hp => by have := (hnb2.out b' o' hp).1; omega)).pl2 (k := j) hlt
      obtain ⟨bw, ow, rfl, hwl, zw⟩ := (hW.out.butF hB (fun b' o' hp => by have := hnw.out b' o' hp; omega)) j (by rw [hfl.out]; exact hlt)
      have na : ba ≠ b := by have := (hna.out ba oa rfl).1; omega
      have nb : bb ≠ b := by have := (hnb2.out bb ob rfl).1; omega
      have nw : bw ≠ b := by have := hnw.out bw ow rfl; omega
      have ia := plIx_eq (n := n) (p := aPl.getD j (0, 0)) (hba.out _ (getD_mem hlt)).1 (hba.out _ (getD_mem hlt)).2
      have ib := plIx_eq (n := n) (p := (bPl n).getD j (0, 0)) (hbb.out _ (getD_mem hlt)).1 (hbb.out _ (getD_mem hlt)).2
      have ba2 := (hba.out (aPl.getD j (0, 0)) (getD_mem hlt)).2.1
      have bb2 := (hbb.out ((bPl n).getD j (0, 0)) (getD_mem hlt)).2.1
      have hst : pFmt n ws xs (j + 1) = ((pFmt n ws xs j).set (plIx n (aPl.getD j (0, 0))) (ws.getD j 0)).set (plIx n ((bPl n).getD j (0, 0))) (ws.getD j 0) := rfl
      have hpl := hpfl.out j
      have hq := hb4.but hB hneb
      have q1 := hq.cell (i := 1) (v := .int .i64 n) rfl
      have ql := hq.lt
      generalize aPl.getD j (0, 0) = A at *
      generalize (bPl n).getD j (0, 0) = D at *
      obtain ⟨ar, ac⟩ := A
      obtain ⟨dr, dc⟩ := D
      generalize plIx n (ar, ac) = ai at *
      generalize plIx n (dr, dc) = di at *
      generalize ws.getD j 0 = x at *
      simp only at za0 za1 zb0 zb1 ia ib ba2 bb2
      obtain ⟨L1, hL1⟩ : ∃ z, pFmt n ws xs (j + 1) = z := ⟨_, rfl⟩
      rw [hL1] at hst
      generalize pFmt n ws xs j = L at *
      obtain ⟨hia, hia2, hia3⟩ := ia
      obtain ⟨hib, hib2, hib3⟩ := ib
      have hLn : L.length = n * n := by rw [hpl, hlen.out]
      have hs1 := hown.set (k := ai) rfl (by omega) x
      have hs2 := hs1.set (k := di) rfl (by rw [List.length_set]; omega) x
      rw [← hst] at hs2
      obtain ⟨b1, o1, e1, -, -, ya, yaf⟩ := hown ai (by omega)
      simp only [Option.some.injEq, Addr.mk.injEq] at e1
      obtain ⟨rfl, rfl, -⟩ := e1
      obtain ⟨b2, o2, e2, -, -, yd, ydf⟩ := hs1 di (by rw [List.length_set]; omega)
      simp only [Option.some.injEq, Addr.mk.injEq] at e2
      obtain ⟨rfl, rfl, -⟩ := e2
      have hbw1 : b < wr.heap.size := by
        obtain ⟨b3, o3, e3, -, h3, -⟩ := hown ai (by omega)
        simp at e3; omega
      generalize L.getD ai 0 = v1 at *
      generalize (L.set ai x).getD di 0 = v2 at *
      obtain ⟨M1, hM1⟩ : ∃ M : Int, ar * (n : Int) = M := ⟨_, rfl⟩
      obtain ⟨M2, hM2⟩ : ∃ M : Int, dr * (n : Int) = M := ⟨_, rfl⟩
      rw [hM1] at hia hia3
      rw [hM2] at hib hib3
      have w1' := IntWalk.i64_in M1 (by omega)
      have w2' := IntWalk.i64_in (ai : Int) (by omega)
      have w3' := IntWalk.i64_in M2 (by omega)
      have w4' := IntWalk.i64_in (di : Int) (by omega)
      have lai : (ai : Int) < (xs.length : Int) := by rw [hlen.out]; omega
      have ldi : (di : Int) < (xs.length : Int) := by rw [hlen.out]; omega
      replace hst := Lib.hid hst; replace hL1 := Lib.hid hL1; replace hs1 := Lib.hid hs1; replace hs2 := Lib.hid hs2
      clear hpl hLn hown
      go_wp2_with fail
      refine wp_region_canon (fun w' => But b wr w') [(0, true), (1, true), (2, true), (3, true), (4, true), (5, true), (6, true), (7, true), (8, true), (9, true), (10, true), (11, true), (12, true), (13, true), (14, true), (15, true), (16, true), (17, true), (18, true), (19, true), (20, false)] (by kernel_rfl) (by kernel_rfl) (by decide) (by kernel_rfl) ?_ ?_
      · exact (But.refl _ _).drew
      refine canon_intro fun ops eo => ?_
      have ho0 := canon_at eo 0 rfl
      have ho1 := canon_at eo 1 rfl
      have ho2 := canon_at eo 2 rfl
      have ho3 := canon_at eo 3 rfl
      have ho4 := canon_at eo 4 rfl
      have ho5 := canon_at eo 5 rfl
      have ho6 := canon_at eo 6 rfl
      have ho7 := canon_at eo 7 rfl
      have ho8 := canon_at eo 8 rfl
      have ho9 := canon_at eo 9 rfl
      have ho10 := canon_at eo 10 rfl
      have ho11 := canon_at eo 11 rfl
      have ho12 := canon_at eo 12 rfl
      have ho13 := canon_at eo 13 rfl
      have ho14 := canon_at eo 14 rfl
      have ho15 := canon_at eo 15 rfl
      have ho16 := canon_at eo 16 rfl
      have ho17 := canon_at eo 17 rfl
      have ho18 := canon_at eo 18 rfl
      have ho19 := canon_at eo 19 rfl
      have ho20 := canon_at eo 20 rfl
      clear eo
      all_goals (apply canon_st ho0 rfl; (intro w2 hS; first | (go_simp; first | done | rfl) | rfl | (obtain ⟨hc', hf', hk', hz⟩ := bucell hS; go_simp; first | done | rfl)); simp only [Act.put, List.setIfInBounds_toArray, List.set_cons_zero, List.set_cons_succ])
      all_goals clear ho0
      all_goals (apply canon_st ho1 rfl; (intro w2 hS; first | (go_simp; first | done | rfl) | rfl | (obtain ⟨hc', hf', hk', hz⟩ := bucell hS; go_simp; first | done | rfl)); simp only [Act.put, List.setIfInBounds_toArray, List.set_cons_zero, List.set_cons_succ])
      all_goals clear ho1
      all_goals (apply canon_st ho2 rfl; (intro w2 hS; first | (go_simp; first | done | rfl) | rfl | (obtain ⟨hc', hf', hk', hz⟩ := bucell hS; go_simp; first | done | rfl)); simp only [Act.put, List.setIfInBounds_toArray, List.set_cons_zero, List.set_cons_succ])
      all_goals clear ho2
      all_goals (apply canon_st ho3 rfl; (intro w2 hS; first | (go_simp; first | done | rfl) | rfl | (obtain ⟨hc', hf', hk', hz⟩ := bucell hS; go_simp; first | done | rfl)); simp only [Act.put, List.setIfInBounds_toArray, List.set_cons_zero, List.set_cons_succ])
      all_goals clear ho3
      all_goals (apply canon_st ho4 rfl; (intro w2 hS; first | (go_simp; first | done | rfl) | rfl | (obtain ⟨hc', hf', hk', hz⟩ := bucell hS; go_simp; first | done | rfl)); simp only [Act.put, List.setIfInBounds_toArray, List.set_cons_zero, List.set_cons_succ])
      all_goals clear ho4
      all_goals (apply canon_st ho5 rfl; (intro w2 hS; first | (go_simp; first | done | rfl) | rfl | (obtain ⟨hc', hf', hk', hz⟩ := bucell hS; go_simp; first | done | rfl)); simp only [Act.put, List.setIfInBounds_toArray, List.set_cons_zero, List.set_cons_succ])
      all_goals clear ho5
      all_goals (apply canon_st ho6 rfl; (intro w2 hS; first | (go_simp; first | done | rfl) | rfl | (obtain ⟨hc', hf', hk', hz⟩ := bucell hS; go_simp; first | done | rfl)); simp only [Act.put, List.setIfInBounds_toArray, List.set_cons_zero, List.set_cons_succ])
      all_goals clear ho6
      all_goals (apply canon_st ho7 rfl; (intro w2 hS; first | (go_simp; first | done | rfl) | rfl | (obtain ⟨hc', hf', hk', hz⟩ := bucell hS; go_simp; first | done | rfl)); simp only [Act.put, List.setIfInBounds_toArray, List.set_cons_zero, List.set_cons_succ])
      all_goals clear ho7
      all_goals (apply canon_st ho8 rfl; (intro w2 hS; first | (go_simp; first | done | rfl) | rfl | (obtain ⟨hc', hf', hk', hz⟩ := bucell hS; go_simp; first | done | rfl)); simp only [Act.put, List.setIfInBounds_toArray, List.set_cons_zero, List.set_cons_succ])
      all_goals clear ho8
      all_goals (apply canon_st ho9 rfl; (intro w2 hS; first | (go_simp; first | done | rfl) | rfl | (obtain ⟨hc', hf', hk', hz⟩ := bucell hS; go_simp; first | done | rfl)); simp only [Act.put, List.setIfInBounds_toArray, List.set_cons_zero, List.set_cons_succ])
      all_goals clear ho9
      all_goals (apply canon_st ho10 rfl; (intro w2 hS; first | (go_simp; first | done | rfl) | rfl | (obtain ⟨hc', hf', hk', hz⟩ := bucell hS; go_simp; first | done | rfl)); simp only [Act.put, List.setIfInBounds_toArray, List.set_cons_zero, List.set_cons_succ])
      all_goals clear ho10
      all_goals (apply canon_st ho11 rfl; (intro w2 hS; first | (go_simp; first | done | rfl) | rfl | (obtain ⟨hc', hf', hk', hz⟩ := bucell hS; go_simp; first | done | rfl)); simp only [Act.put, List.setIfInBounds_toArray, List.set_cons_zero, List.set_cons_succ])
      all_goals clear ho11
      all_goals (apply canon_st ho12 rfl; (intro w2 hS; first | (go_simp; first | done | rfl) | rfl | (obtain ⟨hc', hf', hk', hz⟩ := bucell hS; go_simp; first | done | rfl)); simp only [Act.put, List.setIfInBounds_toArray, List.set_cons_zero, List.set_cons_succ])
      all_goals clear ho12
      all_goals (apply canon_st ho13 rfl; (intro w2 hS; first | (go_simp; first | done | rfl) | rfl | (obtain ⟨hc', hf', hk', hz⟩ := bucell hS; go_simp; first | done | rfl)); simp only [Act.put, List.setIfInBounds_toArray, List.set_cons_zero, List.set_cons_succ])
      all_goals clear ho13
      all_goals (apply canon_st ho14 rfl; (intro w2 hS; first | (go_simp; first | done | rfl) | rfl | (obtain ⟨hc', hf', hk', hz⟩ := bucell hS; go_simp; first | done | rfl)); simp only [Act.put, List.setIfInBounds_toArray, List.set_cons_zero, List.set_cons_succ])
      all_goals clear ho14
      all_goals (apply canon_st ho15 rfl; (intro w2 hS; first | (go_simp; first | done | rfl) | rfl | (obtain ⟨hc', hf', hk', hz⟩ := bucell hS; go_simp; first | done | rfl)); simp only [Act.put, List.setIfInBounds_toArray, List.set_cons_zero, List.set_cons_succ])
      all_goals clear ho15
      all_goals (apply canon_st ho16 rfl; (intro w2 hS; first | (go_simp; first | done | rfl) | rfl | (obtain ⟨hc', hf', hk', hz⟩ := bucell hS; go_simp; first | done | rfl)); simp only [Act.put, List.setIfInBounds_toArray, List.set_cons_zero, List.set_cons_succ])
      all_goals clear ho16
      all_goals (apply canon_st ho17 rfl; (intro w2 hS; first | (go_simp; first | done | rfl) | rfl | (obtain ⟨hc', hf', hk', hz⟩ := bucell hS; go_simp; first | done | rfl)); simp only [Act.put, List.setIfInBounds_toArray, List.set_cons_zero, List.set_cons_succ])
      all_goals clear ho17
      all_goals (apply canon_st ho18 rfl; (intro w2 hS; first | (go_simp; first | done | rfl) | rfl | (obtain ⟨hc', hf', hk', hz⟩ := bucell hS; go_simp; first | done | rfl)); simp only [Act.put, List.setIfInBounds_toArray, List.set_cons_zero, List.set_cons_succ])
      all_goals clear ho18
      all_goals (apply canon_st ho19 rfl; (intro w2 hS; first | (go_simp; first | done | rfl) | rfl | (obtain ⟨hc', hf', hk', hz⟩ := bucell hS; go_simp; first | done | rfl)); simp only [Act.put, List.setIfInBounds_toArray, List.set_cons_zero, List.set_cons_succ])
      all_goals clear ho19
      all_goals first | (refine canon_ef ho20 rfl (fun K hK => ?_); go_simp; (skip); all_goals (refine hK _ _ ⟨(by first | exact (But.refl _ _).drew | exact (But.refl b wr).drew.setG _), ?_⟩; clear hK K; go_simp))
      all_goals clear ho20
      all_goals refine canon_done (NoPanic.normal ?_)
      have hB7 : But b wr (wr.setCell ⟨b, o + ai, none⟩ (.int .i64 x)).drew := ((But.refl b wr).setG _).drew
      obtain ⟨bc5, -, bk5, -⟩ := bucell hB7
      have yb0 := (bc5 bb (ob + j * 2) hbl' nb).trans zb0
      have yb1 := (bc5 bb (ob + j * 2 + 1) hbl' nb).trans zb1
      have yw := (bc5 bw (ow + j) hwl nw).trans zw
      have yl := bk5 bb hbl'
      have ywl := bk5 bw hwl
      have ybl := bk5 b hbw1
      have hq5 := hq.but hB7 hneb
      have hs7 : OwnInts w.heap.size ((wr.setCell ⟨b, o + ai, none⟩ (.int .i64 x)).drew.setCell ⟨b, o + di, none⟩ (.int .i64 x)) (some ⟨b, o, none⟩) L1 := hs2.out.ext (Ext.refl _).drew
      have yd7 : (wr.setCell ⟨b, o + ai, none⟩ (.int .i64 x)).drew.cell? ⟨b, o + di, none⟩ = some (.int .i64 v2) := yd
      have ydf7 : (wr.setCell ⟨b, o + ai, none⟩ (.int .i64 x)).drew.frozen? ⟨b, o + di, none⟩ = false := ydf
      replace hs7 := Lib.hid hs7
      clear q1 ql za0 za1 zb0 zb1 zw hwl hal hbl' bc5 bk5 hq yd ydf ya yaf hs1 hs2
      generalize (wr.setCell ⟨b, o + ai, none⟩ (.int .i64 x)).drew = w7 at *
      have q1 := hq5.cell (i := 1) (v := .int .i64 n) rfl
      have ql := hq5.lt
      go_wp2_with fail
      refine wp_region_canon (fun w' => But b w7 w') [(0, true), (1, true), (2, true), (3, true), (4, true), (5, true), (6, true), (7, true), (8, true), (9, true), (10, true), (11, true), (12, true), (13, true), (14, true), (15, true), (16, true), (17, true), (18, true), (19, true), (20, false)] (by kernel_rfl) (by kernel_rfl) (by decide) (by kernel_rfl) ?_ ?_
      · exact (But.refl _ _).drew
      refine canon_intro fun ops eo => ?_
      have ho0 := canon_at eo 0 rfl
      have ho1 := canon_at eo 1 rfl
      have ho2 := canon_at eo 2 rfl
      have ho3 := canon_at eo 3 rfl
      have ho4 := canon_at eo 4 rfl
      have ho5 := canon_at eo 5 rfl
      have ho6 := canon_at eo 6 rfl
      have ho7 := canon_at eo 7 rfl
      have ho8 := canon_at eo 8 rfl
      have ho9 := canon_at eo 9 rfl
      have ho10 := canon_at eo 10 rfl
      have ho11 := canon_at eo 11 rfl
      have ho12 := canon_at eo 12 rfl
      have ho13 := canon_at eo 13 rfl
      have ho14 := canon_at eo 14 rfl
      have ho15 := canon_at eo 15 rfl
      have ho16 := canon_at eo 16 rfl
      have ho17 := canon_at eo 17 rfl
      have ho18 := canon_at eo 18 rfl
      have ho19 := canon_at eo 19 rfl
      have ho20 := canon_at eo 20 rfl
      clear eo
      all_goals (apply canon_st ho0 rfl; (intro w2 hS; first | (go_simp; first | done | rfl) | rfl | (obtain ⟨hc', hf', hk', hz⟩ := bucell hS; go_simp; first | done | rfl)); simp only [Act.put, List.setIfInBounds_toArray, List.set_cons_zero, List.set_cons_succ])
      all_goals clear ho0
      all_goals (apply canon_st ho1 rfl; (intro w2 hS; first | (go_simp; first | done | rfl) | rfl | (obtain ⟨hc', hf', hk', hz⟩ := bucell hS; go_simp; first | done | rfl)); simp only [Act.put, List.setIfInBounds_toArray, List.set_cons_zero, List.set_cons_succ])
      all_goals clear ho1
      all_goals (apply canon_st ho2 rfl; (intro w2 hS; first | (go_simp; first | done | rfl) | rfl | (obtain ⟨hc', hf', hk', hz⟩ := bucell hS; go_simp; first | done | rfl)); simp only [Act.put, List.setIfInBounds_toArray, List.set_cons_zero, List.set_cons_succ])
      all_goals clear ho2
      all_goals (apply canon_st ho3 rfl; (intro w2 hS; first | (go_simp; first | done | rfl) | rfl | (obtain ⟨hc', hf', hk', hz⟩ := bucell hS; go_simp; first | done | rfl)); simp only [Act.put, List.setIfInBounds_toArray, List.set_cons_zero, List.set_cons_succ])
      all_goals clear ho3
      all_goals (apply canon_st ho4 rfl; (intro w2 hS; first | (go_simp; first | done | rfl) | rfl | (obtain ⟨hc', hf', hk', hz⟩ := bucell hS; go_simp; first | done | rfl)); simp only [Act.put, List.setIfInBounds_toArray, List.set_cons_zero, List.set_cons_succ])
      all_goals clear ho4
      all_goals (apply canon_st ho5 rfl; (intro w2 hS; first | (go_simp; first | done | rfl) | rfl | (obtain ⟨hc', hf', hk', hz⟩ := bucell hS; go_simp; first | done | rfl)); simp only [Act.put, List.setIfInBounds_toArray, List.set_cons_zero, List.set_cons_succ])
      all_goals clear ho5
      all_goals (apply canon_st ho6 rfl; (intro w2 hS; first | (go_simp; first | done | rfl) | rfl | (obtain ⟨hc', hf', hk', hz⟩ := bucell hS; go_simp; first | done | rfl)); simp only [Act.put, List.setIfInBounds_toArray, List.set_cons_zero, List.set_cons_succ])
      all_goals clear ho6
      all_goals (apply canon_st ho7 rfl; (intro w2 hS; first | (go_simp; first | done | rfl) | rfl | (obtain ⟨hc', hf', hk', hz⟩ := bucell hS; go_simp; first | done | rfl)); simp only [Act.put, List.setIfInBounds_toArray, List.set_cons_zero, List.set_cons_succ])
      all_goals clear ho7
      all_goals (apply canon_st ho8 rfl; (intro w2 hS; first | (go_simp; first | done | rfl) | rfl | (obtain ⟨hc', hf', hk', hz⟩ := bucell hS; go_simp; first | done | rfl)); simp only [Act.put, List.setIfInBounds_toArray, List.set_cons_zero, List.set_cons_succ])
      all_goals clear ho8
      all_goals (apply canon_st ho9 rfl; (intro w2 hS; first | (go_simp; first | done | rfl) | rfl | (obtain ⟨hc', hf', hk', hz⟩ := bucell hS; go_simp; first | done | rfl)); simp only [Act.put, List.setIfInBounds_toArray, List.set_cons_zero, List.set_cons_succ])
      all_goals clear ho9
      all_goals (apply canon_st ho10 rfl; (intro w2 hS; first | (go_simp; first | done | rfl) | rfl | (obtain ⟨hc', hf', hk', hz⟩ := bucell hS; go_simp; first | done | rfl)); simp only [Act.put, List.setIfInBounds_toArray, List.set_cons_zero, List.set_cons_succ])
      all_goals clear ho10
      all_goals (apply canon_st ho11 rfl; (intro w2 hS; first | (go_simp; first | done | rfl) | rfl | (obtain ⟨hc', hf', hk', hz⟩ := bucell hS; go_simp; first | done | rfl)); simp only [Act.put, List.setIfInBounds_toArray, List.set_cons_zero, List.set_cons_succ])
      all_goals clear ho11
      all_goals (apply canon_st ho12 rfl; (intro w2 hS; first | (go_simp; first | done | rfl) | rfl | (obtain ⟨hc', hf', hk', hz⟩ := bucell hS; go_simp; first | done | rfl)); simp only [Act.put, List.setIfInBounds_toArray, List.set_cons_zero, List.set_cons_succ])
      all_goals clear ho12
      all_goals (apply canon_st ho13 rfl; (intro w2 hS; first | (go_simp; first | done | rfl) | rfl | (obtain ⟨hc', hf', hk', hz⟩ := bucell hS; go_simp; first | done | rfl)); simp only [Act.put, List.setIfInBounds_toArray, List.set_cons_zero, List.set_cons_succ])
      all_goals clear ho13
      all_goals (apply canon_st ho14 rfl; (intro w2 hS; first | (go_simp; first | done | rfl) | rfl | (obtain ⟨hc', hf', hk', hz⟩ := bucell hS; go_simp; first | done | rfl)); simp only [Act.put, List.setIfInBounds_toArray, List.set_cons_zero, List.set_cons_succ])
      all_goals clear ho14
      all_goals (apply canon_st ho15 rfl; (intro w2 hS; first | (go_simp; first | done | rfl) | rfl | (obtain ⟨hc', hf', hk', hz⟩ := bucell hS; go_simp; first | done | rfl)); simp only [Act.put, List.setIfInBounds_toArray, List.set_cons_zero, List.set_cons_succ])
      all_goals clear ho15
      all_goals (apply canon_st ho16 rfl; (intro w2 hS; first | (go_simp; first | done | rfl) | rfl | (obtain ⟨hc', hf', hk', hz⟩ := bucell hS; go_simp; first | done | rfl)); simp only [Act.put, List.setIfInBounds_toArray, List.set_cons_zero, List.set_cons_succ])
      all_goals clear ho16
      all_goals (apply canon_st ho17 rfl; (intro w2 hS; first | (go_simp; first | done | rfl) | rfl | (obtain ⟨hc', hf', hk', hz⟩ := bucell hS; go_simp; first | done | rfl)); simp only [Act.put, List.setIfInBounds_toArray, List.set_cons_zero, List.set_cons_succ])
      all_goals clear ho17
      all_goals (apply canon_st ho18 rfl; (intro w2 hS; first | (go_simp; first | done | rfl) | rfl | (obtain ⟨hc', hf', hk', hz⟩ := bucell hS; go_simp; first | done | rfl)); simp only [Act.put, List.setIfInBounds_toArray, List.set_cons_zero, List.set_cons_succ])
      all_goals clear ho18
      all_goals (apply canon_st ho19 rfl; (intro w2 hS; first | (go_simp; first | done | rfl) | rfl | (obtain ⟨hc', hf', hk', hz⟩ := bucell hS; go_simp; first | done | rfl)); simp only [Act.put, List.setIfInBounds_toArray, List.set_cons_zero, List.set_cons_succ])
      all_goals clear ho19
      all_goals first | (refine canon_ef ho20 rfl (fun K hK => ?_); go_simp; (skip); all_goals (refine hK _ _ ⟨(by first | exact (But.refl _ _).drew | exact (But.refl b w7).drew.setG _), ?_⟩; clear hK K; go_simp))
      all_goals clear ho20
      all_goals refine canon_done (NoPanic.normal ?_)
      have hB8 : But b w7 (w7.setCell ⟨b, o + di, none⟩ (.int .i64 x)).drew := ((But.refl b w7).setG _).drew
      have hs8 : OwnInts w.heap.size (w7.setCell ⟨b, o + di, none⟩ (.int .i64 x)).drew (some ⟨b, o, none⟩) L1 := hs7.out.ext (Ext.refl _).drew
      clear q1 ql yb0 yb1 yw yl ywl ybl yd7 ydf7 hs7 hM1 hM2 hia hib w1' w2' w3' w4'
      generalize (w7.setCell ⟨b, o + di, none⟩ (.int .i64 x)).drew = w8 at *
      go_wp2_with fail
      go_roundw
      case rel => exact ⟨j + 1, hlt, by go_num, by rw [hL1.out]; exact hs8, (hB.trans hB7).trans hB8⟩
      case measure => simp [intOf]; omega
    · obtain rfl : j = 15 := by omega
      have hb5 := hb4.but hB hneb
      have h05 := h04.but hB hne0
      have hx05 := hx04.but hB hbw
      have q0 := hb5.cell (i := 0) (v := .int .i64 n) rfl
      have q1 := hb5.cell (i := 1) (v := .int .i64 n) rfl
      have ql := hb5.lt
      have z0 := h05.cell (i := 0) (v := .int .i64 0) rfl
      have z1 := h05.cell (i := 1) (v := .int .i64 0) rfl
      have z2 := h05.cell (i := 2) (v := .slice none 0 0) rfl
      have zl := h05.lt
      have zf := h05.free
      have hF := ((h05.set 0 (.int .i64 n)).set 1 (.int .i64 n)).set 2 (.slice (some ⟨b, o, none⟩) xs.length kq)
      have C0 := Lib.hid (hF.cell (i := 0) (v := .int .i64 n) rfl); have C1 := Lib.hid (hF.cell (i := 1) (v := .int .i64 n) rfl); have C2 := Lib.hid (hF.cell (i := 2) (v := .slice (some ⟨b, o, none⟩) xs.length kq) rfl)
      have hx9 := Lib.hid (((hx05.setCell (p := ⟨w.heap.size + 1, 0, none⟩) (Nat.le_succ _) (.int .i64 n)).setCell (p := ⟨w.heap.size + 1, 1, none⟩) (Nat.le_succ _) (.int .i64 n)).setCell (p := ⟨w.heap.size + 1, 2, none⟩) (Nat.le_succ _) (.slice (some ⟨b, o, none⟩) xs.length kq))
      have oq9 := Lib.hid (((hown.setFarN (g := w.heap.size + 1) (i := 0) (v := .int .i64 n) (by omega)).setFarN (g := w.heap.size + 1) (i := 1) (v := .int .i64 n) (by omega)).setFarN (g := w.heap.size + 1) (i := 2) (v := .slice (some ⟨b, o, none⟩) xs.length kq) (by omega))
      clear hF h05 h04 hb4 hb5 hx05 hown
      go_wp2_with fail
      have c0 := C0.out; have c1 := C1.out; have c2 := C2.out
      have hpl := hpfl.out 15
      exact bodyPost_ret (v := vGrid n n (some ⟨b, o, none⟩) xs.length kq) (by simp [results, Try.results35, go_sem, c0, c1, c2]) rfl ⟨⟨some ⟨b, o, none⟩, kq, by rw [hpl], oq9.out, by rw [hpl]; exact hkq⟩, hx9.out⟩
set_option maxHeartbeats 800000 in
set_option maxRecDepth 100000 in
theorem sPutFormat_c (r c v : Int) (p : Option Addr) (k : Nat) (xs : List Int) (w : World) (hx : IntsAt w p xs) (hl : xs.length ≤ 1048576) :
    Calls Try.prog 9 #[vGrid r c p xs.length k, .int .i64 v] w fun e w' => GrdC w.heap.size (pfV r c xs v).1 (pfV r c xs v).2.1 (pfV r c xs v).2.2.1 (pfV r c xs v).2.2.2 e w' ∧ Ext w w' := by
  have HX := Lib.hid hx; clear hx
  have hb := (Blk.new w #[.int .i64 r, .int .i64 c, .slice p xs.length k] 26).alloc (.cells #[.int .i64 0, .int .i64 0, .slice none 0 0] 26)
  have h0 := Blk.new (w.alloc (.cells #[.int .i64 r, .int .i64 c, .slice p xs.length k] 26)) #[.int .i64 0, .int .i64 0, .slice none 0 0] 26
  have hx0 : Ext w ((w.alloc (.cells #[.int .i64 r, .int .i64 c, .slice p xs.length k] 26)).alloc (.cells #[.int .i64 0, .int .i64 0, .slice none 0 0] 26)) := ((Ext.refl w).alloc _).alloc _
  simp only [World.size_alloc] at h0
  have hmt := Lib.hid (fun W (h : IntsAt W p xs) => sMat_c r c p k xs W h hl)
  by_cases h1 : matOK r c xs
  · by_cases h2 : 0 ≤ v ∧ v ≤ 31
    · have hV : pfV r c xs v = (0, r, c, pFmt r.toNat (fmtW v.toNat) xs 15) := by unfold pfV; rw [if_neg (not_not_intro h1), if_neg (not_not_intro h2)]
      rw [hV]
      obtain ⟨n, rfl, rfl, hn1, hn2, hn4, hlen, hxb⟩ := matOK_nat h1
      obtain ⟨u, rfl⟩ := Int.eq_ofNat_of_zero_le h2.1
      simp only [Int.toNat_natCast]
      replace h1 := Lib.hid h1
      clear hV hxb
      have hpt := Lib.hid (fun W (h : IntsAt W p xs) => sPut_c n u k p xs W (by omega) ⟨hn1, hn2⟩ h hlen)
      generalize pFmt n (fmtW u) xs 15 = L at *
      replace hlen := Lib.hid hlen
      go_enter Try.func9, Try.ntmps9
      go_wp2_with (first
        | (go_at_call 33; (with_reducible refine (hmt.out _ (HX.out.ext hx0)).mono ?_); rintro e w1 ⟨⟨hP, rfl⟩ | ⟨hP, rfl⟩, hx1⟩ <;> (first | exact absurd h1.out hP | skip); have hb1 := hb.ext hx1; have q0 := hb1.cell (i := 0) (v := .int .i64 n) rfl; have q1 := hb1.cell (i := 1) (v := .int .i64 n) rfl; have q2 := hb1.cell (i := 2) (v := .slice p xs.length k) rfl; have ql := hb1.lt)
        | (go_at_call 34; (with_reducible refine (l01In_c _ _ _ _).mono ?_); rintro e w' ⟨⟨hP, rfl⟩ | ⟨hP, rfl⟩, rfl⟩ <;> first | (exfalso; omega) | skip)
        | (go_at_call 35; (with_reducible refine (hpt.out _ (HX.out.ext (hx0.trans hx1))).mono ?_); rintro e w2 ⟨⟨q, kq, rfl, oq, hkq⟩, hx2⟩; replace h0 := (h0.ext hx1).ext hx2; have z0 := h0.cell (i := 0) (v := .int .i64 0) rfl; have z1 := h0.cell (i := 1) (v := .int .i64 0) rfl; have z2 := h0.cell (i := 2) (v := .slice none 0 0) rfl; have zl := h0.lt; have zf := h0.free))
      have hz1 := hx1.below.size
      simp only [World.size_alloc] at hz1
      have oq : OwnInts w1.heap.size w2 q L := oq
      have hF := ((h0.set 0 (.int .i64 n)).set 1 (.int .i64 n)).set 2 (.slice q L.length kq)
      have c0 := hF.cell (i := 0) (v := .int .i64 n) rfl; have c1 := hF.cell (i := 1) (v := .int .i64 n) rfl; have c2 := hF.cell (i := 2) (v := .slice q L.length kq) rfl
      have hx9 := (((((hx0.trans hx1).trans hx2).setCell (p := ⟨w.heap.size + 1, 0, none⟩) (Nat.le_succ _) (.int .i64 n)).setCell (p := ⟨w.heap.size + 1, 1, none⟩) (Nat.le_succ _) (.int .i64 n)).setCell (p := ⟨w.heap.size + 1, 2, none⟩) (Nat.le_succ _) (.slice q L.length kq))
      have oq9 := (((oq.setFar (g := w.heap.size + 1) (i := 0) (v := .int .i64 n) (by omega)).setFar (g := w.heap.size + 1) (i := 1) (v := .int .i64 n) (by omega)).setFar (g := w.heap.size + 1) (i := 2) (v := .slice q L.length kq) (by omega)).mono (B' := w.heap.size) (by omega)
      clear z0 z1 z2 zl zf q0 q1 q2 ql
      exact bodyPost_ret (v := .tuple #[vGrid n n q L.length kq, .int .i64 0]) (by simp [results, Try.results9, go_sem, c0, c1, c2]) rfl ⟨⟨q, kq, rfl, oq9, hkq⟩, hx9⟩
    · have hV : pfV r c xs v = (2, 0, 0, []) := by unfold pfV; rw [if_neg (not_not_intro h1), if_pos h2]
      rw [hV]
      replace h1 := Lib.hid h1
      clear hV
      go_enter Try.func9, Try.ntmps9
      go_wp2_with (first
        | (go_at_call 33; (with_reducible refine (hmt.out _ (HX.out.ext hx0)).mono ?_); rintro e w1 ⟨⟨hP, rfl⟩ | ⟨hP, rfl⟩, hx1⟩ <;> (first | exact absurd h1.out hP | skip); have hb1 := h0.ext hx1; have q0 := hb1.cell (i := 0) (v := .int .i64 0) rfl; have q1 := hb1.cell (i := 1) (v := .int .i64 0) rfl; have q2 := hb1.cell (i := 2) (v := .slice none 0 0) rfl; have ql := hb1.lt; have qf := hb1.free)
        | (go_at_call 34; (with_reducible refine (l01In_c _ _ _ _).mono ?_); rintro e w' ⟨⟨hP, rfl⟩ | ⟨hP, rfl⟩, rfl⟩ <;> first | (exfalso; omega) | skip))
      have hF := ((hb1.set 0 (.int .i64 0)).set 1 (.int .i64 0)).set 2 (.slice none 0 0)
      have c0 := hF.cell (i := 0) (v := .int .i64 0) rfl; have c1 := hF.cell (i := 1) (v := .int .i64 0) rfl; have c2 := hF.cell (i := 2) (v := .slice none 0 0) rfl
      clear q0 q1 q2 ql qf
      exact bodyPost_ret (v := .tuple #[vGrid 0 0 none 0 0, .int .i64 2]) (by simp [results, Try.results9, go_sem, c0, c1, c2]) rfl ⟨⟨none, 0, rfl, OwnInts.nil _ _ _, Nat.le_refl _⟩, (((hx0.trans hx1).setCell (Nat.le_succ _) _).setCell (Nat.le_succ _) _).setCell (Nat.le_succ _) _⟩
  · have hV : pfV r c xs v = (1, 0, 0, []) := by unfold pfV; rw [if_pos h1]
    rw [hV]
    replace h1 := Lib.hid h1
    clear hV
    go_enter Try.func9, Try.ntmps9
    go_wp2_with (go_at_call 33; (with_reducible refine (hmt.out _ (HX.out.ext hx0)).mono ?_); rintro e w1 ⟨⟨hP, rfl⟩ | ⟨hP, rfl⟩, hx1⟩ <;> (first | exact absurd hP h1.out | skip); have hb1 := h0.ext hx1; have q0 := hb1.cell (i := 0) (v := .int .i64 0) rfl; have q1 := hb1.cell (i := 1) (v := .int .i64 0) rfl; have q2 := hb1.cell (i := 2) (v := .slice none 0 0) rfl; have ql := hb1.lt; have qf := hb1.free)
    have hF := ((hb1.set 0 (.int .i64 0)).set 1 (.int .i64 0)).set 2 (.slice none 0 0)
    have c0 := hF.cell (i := 0) (v := .int .i64 0) rfl; have c1 := hF.cell (i := 1) (v := .int .i64 0) rfl; have c2 := hF.cell (i := 2) (v := .slice none 0 0) rfl
    clear q0 q1 q2 ql qf
    exact bodyPost_ret (v := .tuple #[vGrid 0 0 none 0 0, .int .i64 1]) (by simp [results, Try.results9, go_sem, c0, c1, c2]) rfl ⟨⟨none, 0, rfl, OwnInts.nil _ _ _, Nat.le_refl _⟩, (((hx0.trans hx1).setCell (Nat.le_succ _) _).setCell (Nat.le_succ _) _).setCell (Nat.le_succ _) _⟩
/-- Both lists of format places and no error. -/
theorem sFormatPlaces_c (n : Nat) (w : World) (hn : 17 ≤ n ∧ n ≤ 41) (hn4 : n % 4 = 1) : Calls Try.prog 11 #[.int .i64 n] w fun e w' => (∃ v u, e = .returned (.tuple #[v, u, .int .i64 0]) ∧ RowP w.heap.size w' v aPl ∧ RowP w.heap.size w' u (bPl n)) ∧ Ext w w' := by
  have hsz := Lib.hid (fun W => sSize_c n W)
  have hok : sizOK n := ⟨by omega, by omega⟩
  replace hok := Lib.hid hok
  have hfm := Lib.hid (fun W => sFormats_c n W (by omega))
  go_enter Try.func11, Try.ntmps11
  go_wp2_with (first
    | (go_at_call 37; (with_reducible refine (hsz.out _).mono ?_); rintro e w1 ⟨⟨hP, rfl⟩ | ⟨hP, rfl⟩, rfl⟩ <;> (first | exact absurd hok.out hP | skip))
    | (go_at_call 38; (with_reducible refine (hfm.out _).mono ?_); rintro e w4 ⟨⟨va, vb, rfl, hra, hrb, -⟩, hx4⟩))
  go_ret3
  exact ⟨⟨va, vb, rfl, hra, hrb⟩, hx4⟩
set_option maxHeartbeats 1600000 in
set_option maxRecDepth 100000 in
theorem sCells_c (n k m c : Nat) (p q : Option Addr) (xs : List Int) (ps : List (Int × Int)) (w : World) (hn : 17 ≤ n ∧ n ≤ 41) (hx : IntsAt w p xs) (hlen : xs.length = n * n) (hp : PlAt w q ps) (hm : ps.length = m) (hm2 : m ≤ 2000) (hb : ∀ x ∈ ps, (0 ≤ x.1 ∧ x.1 < n) ∧ (0 ≤ x.2 ∧ x.2 < n)) :
    Calls Try.prog 47 #[vGrid n n p (n * n) k, .slice q m c] w fun e w' => (∃ g kg, e = .returned (.slice g m kg) ∧ OwnInts w.heap.size w' g (cellsL n xs ps)) ∧ Ext w w' := by
  have hN : n * n ≤ 1681 := Nat.mul_le_mul hn.2 hn.2
  have HX := Lib.hid hx; clear hx
  have HP := Lib.hid hp; clear hp
  replace hb := Lib.hid hb
  replace hlen := Lib.hid hlen
  have hLl : (cellsL n xs ps).length = m := by simp [cellsL, hm]
  have hLv : ∀ j, j < m → (cellsL n xs ps).take (j + 1) = (cellsL n xs ps).take j ++ [xs.getD (plIx n (ps.getD j (0, 0))) 0] := fun j hj => by
    rw [List.take_succ_eq_append_getElem (by omega)]
    simp only [cellsL, List.getElem_map]
    rw [List.getD_eq_getElem?_getD (l := ps), List.getElem?_eq_getElem (by omega)]
    rfl
  replace hLv := Lib.hid hLv
  replace hm := Lib.hid hm
  generalize cellsL n xs ps = L at *
  replace hLl := Lib.hid hLl
  have h0 := (Blk.new w #[.int .i64 n, .int .i64 n, .slice p (n * n) k] 26).alloc (.cells #[] 2)
  have hrow := RowI.made (B := w.heap.size + 1) (w := w.alloc (.cells #[.int .i64 n, .int .i64 n, .slice p (n * n) k] 26)) (by simp)
  have hx0 : Ext w ((w.alloc (.cells #[.int .i64 n, .int .i64 n, .slice p (n * n) k] 26)).alloc (.cells #[] 2)) := ((Ext.refl w).alloc _).alloc _
  simp only [World.size_alloc] at hrow
  go_enter Try.func47, Try.ntmps47
  go_wp2_with fail
  generalize (w.alloc (.cells #[.int .i64 n, .int .i64 n, .slice p (n * n) k] 26)).alloc (.cells #[] 2) = w0 at *
  go_loopw [5, 6] (fun v i wr => ∃ j : Nat, j ≤ m ∧ i = .int .i64 j ∧ RowI (w.heap.size + 1) wr v (L.take j) ∧ Blk wr w.heap.size #[.int .i64 n, .int .i64 n, .slice p (n * n) k] 26 ∧ Ext w wr) (fun _ i _ => m - (intOf i).toNat)
  case atStart => exact ⟨0, by omega, rfl, by simpa using hrow, h0, hx0⟩
  case round =>
    clear hrow h0 hx0
    obtain ⟨j, hj, rfl, hrow, h0, hext⟩ := hrel
    by_cases hlt : j < m
    · obtain ⟨bp, op, rfl, hpl, z0, z1⟩ := (HP.out.ext hext).pl2 (k := j) (by rw [hm.out]; exact hlt)
      have hbd := hb.out _ (getD_mem (l := ps) (k := j) (d := (0, 0)) (by rw [hm.out]; exact hlt))
      have ia := plIx_eq (n := n) hbd.1 hbd.2
      have hst := hLv.out j hlt
      have q1 := h0.cell (i := 1) (v := .int .i64 n) rfl
      have q2 := h0.cell (i := 2) (v := .slice p (n * n) k) rfl
      have ql := h0.lt
      generalize ps.getD j (0, 0) = A at *
      obtain ⟨ar, ac⟩ := A
      simp only at z0 z1 hbd ia
      generalize plIx n (ar, ac) = ai at *
      obtain ⟨hia, hia2, hia3⟩ := ia
      have hac := hbd.2.1
      obtain ⟨bx, ox, rfl, hbx, y1⟩ := (HX.out.ext hext) ai (by rw [hlen.out]; exact hia2)
      generalize xs.getD ai 0 = x at *
      have hlj : (L.take j).length ≤ 2000 := by rw [List.length_take]; omega
      obtain ⟨L1, hL1⟩ : ∃ z, L.take (j + 1) = z := ⟨_, rfl⟩
      rw [hL1] at hst
      generalize L.take j = L0 at *
      obtain ⟨M1, hM1⟩ : ∃ M : Int, ar * (n : Int) = M := ⟨_, rfl⟩
      rw [hM1] at hia hia3
      have w1' := IntWalk.i64_in M1 (by omega)
      have w2' := IntWalk.i64_in (ai : Int) (by omega)
      have lai : (ai : Int) < (n : Int) * (n : Int) := by
        have : ((n * n : Nat) : Int) = (n : Int) * (n : Int) := by simp
        omega
      replace hst := Lib.hid hst; replace hL1 := Lib.hid hL1
      clear hbd
      have hbx0 : bx < w.heap.size + 1 := by obtain ⟨b', o', e', h, -⟩ := HX.out ai (by rw [hlen.out]; exact hia2); simp at e'; omega
      have hbp0 : bp < w.heap.size + 1 := by obtain ⟨b', o', e', h, -⟩ := HP.out j (by rw [hm.out]; exact hlt); simp at e'; omega
      have hb0 : w.heap.size < w.heap.size + 1 := Nat.lt_succ_self _
      go_wp2_with fail
      refine wp_region_canon (fun w' => Below (w.heap.size + 1) wr w') [(0, true), (1, true), (2, true), (3, true), (4, true), (5, true), (6, true), (7, true), (8, true), (9, true), (10, true), (11, true), (12, true), (13, true), (14, true), (15, true), (16, true), (17, true), (18, true), (19, false), (20, false), (21, true)] (by kernel_rfl) (by kernel_rfl) (by decide) (by kernel_rfl) ?_ ?_
      · exact (Below.refl _ _).drew
      refine canon_intro fun ops eo => ?_
      have ho0 := canon_at eo 0 rfl
      have ho1 := canon_at eo 1 rfl
      have ho2 := canon_at eo 2 rfl
      have ho3 := canon_at eo 3 rfl
      have ho4 := canon_at eo 4 rfl
      have ho5 := canon_at eo 5 rfl
      have ho6 := canon_at eo 6 rfl
      have ho7 := canon_at eo 7 rfl
      have ho8 := canon_at eo 8 rfl
      have ho9 := canon_at eo 9 rfl
      have ho10 := canon_at eo 10 rfl
      have ho11 := canon_at eo 11 rfl
      have ho12 := canon_at eo 12 rfl
      have ho13 := canon_at eo 13 rfl
      have ho14 := canon_at eo 14 rfl
      have ho15 := canon_at eo 15 rfl
      have ho16 := canon_at eo 16 rfl
      have ho17 := canon_at eo 17 rfl
      have ho18 := canon_at eo 18 rfl
      have ho19 := canon_at eo 19 rfl
      have ho20 := canon_at eo 20 rfl
      have ho21 := canon_at eo 21 rfl
      clear eo
      all_goals (apply canon_st ho0 rfl; (intro w2 hS; first | (go_simp; first | done | rfl) | rfl | ((have hc' := fun b o (h : b < w.heap.size + 1) => hS.cell (p := ⟨b, o, none⟩) h); go_simp; first | done | rfl)); simp only [Act.put, List.setIfInBounds_toArray, List.set_cons_zero, List.set_cons_succ])
      all_goals clear ho0
      all_goals (apply canon_st ho1 rfl; (intro w2 hS; first | (go_simp; first | done | rfl) | rfl | ((have hc' := fun b o (h : b < w.heap.size + 1) => hS.cell (p := ⟨b, o, none⟩) h); go_simp; first | done | rfl)); simp only [Act.put, List.setIfInBounds_toArray, List.set_cons_zero, List.set_cons_succ])
      all_goals clear ho1
      all_goals (apply canon_st ho2 rfl; (intro w2 hS; first | (go_simp; first | done | rfl) | rfl | ((have hc' := fun b o (h : b < w.heap.size + 1) => hS.cell (p := ⟨b, o, none⟩) h); go_simp; first | done | rfl)); simp only [Act.put, List.setIfInBounds_toArray, List.set_cons_zero, List.set_cons_succ])
      all_goals clear ho2
      all_goals (apply canon_st ho3 rfl; (intro w2 hS; first | (go_simp; first | done | rfl) | rfl | ((have hc' := fun b o (h : b < w.heap.size + 1) => hS.cell (p := ⟨b, o, none⟩) h); go_simp; first | done | rfl)); simp only [Act.put, List.setIfInBounds_toArray, List.set_cons_zero, List.set_cons_succ])
      all_goals clear ho3
      all_goals (apply canon_st ho4 rfl; (intro w2 hS; first | (go_simp; first | done | rfl) | rfl | ((have hc' := fun b o (h : b < w.heap.size + 1) => hS.cell (p := ⟨b, o, none⟩) h); go_simp; first | done | rfl)); simp only [Act.put, List.setIfInBounds_toArray, List.set_cons_zero, List.set_cons_succ])
      all_goals clear ho4
      all_goals (apply canon_st ho5 rfl; (intro w2 hS; first | (go_simp; first | done | rfl) | rfl | ((have hc' := fun b o (h : b < w.heap.size + 1) => hS.cell (p := ⟨b, o, none⟩) h); go_simp; first | done | rfl)); simp only [Act.put, List.setIfInBounds_toArray, List.set_cons_zero, List.set_cons_succ])
      all_goals clear ho5
      all_goals (apply canon_st ho6 rfl; (intro w2 hS; first | (go_simp; first | done | rfl) | rfl | ((have hc' := fun b o (h : b < w.heap.size + 1) => hS.cell (p := ⟨b, o, none⟩) h); go_simp; first | done | rfl)); simp only [Act.put, List.setIfInBounds_toArray, List.set_cons_zero, List.set_cons_succ])
      all_goals clear ho6
      all_goals (apply canon_st ho7 rfl; (intro w2 hS; first | (go_simp; first | done | rfl) | rfl | ((have hc' := fun b o (h : b < w.heap.size + 1) => hS.cell (p := ⟨b, o, none⟩) h); go_simp; first | done | rfl)); simp only [Act.put, List.setIfInBounds_toArray, List.set_cons_zero, List.set_cons_succ])
      all_goals clear ho7
      all_goals (apply canon_st ho8 rfl; (intro w2 hS; first | (go_simp; first | done | rfl) | rfl | ((have hc' := fun b o (h : b < w.heap.size + 1) => hS.cell (p := ⟨b, o, none⟩) h); go_simp; first | done | rfl)); simp only [Act.put, List.setIfInBounds_toArray, List.set_cons_zero, List.set_cons_succ])
      all_goals clear ho8
      all_goals (apply canon_st ho9 rfl; (intro w2 hS; first | (go_simp; first | done | rfl) | rfl | ((have hc' := fun b o (h : b < w.heap.size + 1) => hS.cell (p := ⟨b, o, none⟩) h); go_simp; first | done | rfl)); simp only [Act.put, List.setIfInBounds_toArray, List.set_cons_zero, List.set_cons_succ])
      all_goals clear ho9
      all_goals (apply canon_st ho10 rfl; (intro w2 hS; first | (go_simp; first | done | rfl) | rfl | ((have hc' := fun b o (h : b < w.heap.size + 1) => hS.cell (p := ⟨b, o, none⟩) h); go_simp; first | done | rfl)); simp only [Act.put, List.setIfInBounds_toArray, List.set_cons_zero, List.set_cons_succ])
      all_goals clear ho10
      all_goals (apply canon_st ho11 rfl; (intro w2 hS; first | (go_simp; first | done | rfl) | rfl | ((have hc' := fun b o (h : b < w.heap.size + 1) => hS.cell (p := ⟨b, o, none⟩) h); go_simp; first | done | rfl)); simp only [Act.put, List.setIfInBounds_toArray, List.set_cons_zero, List.set_cons_succ])
      all_goals clear ho11
      all_goals (apply canon_st ho12 rfl; (intro w2 hS; first | (go_simp; first | done | rfl) | rfl | ((have hc' := fun b o (h : b < w.heap.size + 1) => hS.cell (p := ⟨b, o, none⟩) h); go_simp; first | done | rfl)); simp only [Act.put, List.setIfInBounds_toArray, List.set_cons_zero, List.set_cons_succ])
      all_goals clear ho12
      all_goals (apply canon_st ho13 rfl; (intro w2 hS; first | (go_simp; first | done | rfl) | rfl | ((have hc' := fun b o (h : b < w.heap.size + 1) => hS.cell (p := ⟨b, o, none⟩) h); go_simp; first | done | rfl)); simp only [Act.put, List.setIfInBounds_toArray, List.set_cons_zero, List.set_cons_succ])
      all_goals clear ho13
      all_goals (apply canon_st ho14 rfl; (intro w2 hS; first | (go_simp; first | done | rfl) | rfl | ((have hc' := fun b o (h : b < w.heap.size + 1) => hS.cell (p := ⟨b, o, none⟩) h); go_simp; first | done | rfl)); simp only [Act.put, List.setIfInBounds_toArray, List.set_cons_zero, List.set_cons_succ])
      all_goals clear ho14
      all_goals (apply canon_st ho15 rfl; (intro w2 hS; first | (go_simp; first | done | rfl) | rfl | ((have hc' := fun b o (h : b < w.heap.size + 1) => hS.cell (p := ⟨b, o, none⟩) h); go_simp; first | done | rfl)); simp only [Act.put, List.setIfInBounds_toArray, List.set_cons_zero, List.set_cons_succ])
      all_goals clear ho15
      all_goals (apply canon_st ho16 rfl; (intro w2 hS; first | (go_simp; first | done | rfl) | rfl | ((have hc' := fun b o (h : b < w.heap.size + 1) => hS.cell (p := ⟨b, o, none⟩) h); go_simp; first | done | rfl)); simp only [Act.put, List.setIfInBounds_toArray, List.set_cons_zero, List.set_cons_succ])
      all_goals clear ho16
      all_goals (apply canon_st ho17 rfl; (intro w2 hS; first | (go_simp; first | done | rfl) | rfl | ((have hc' := fun b o (h : b < w.heap.size + 1) => hS.cell (p := ⟨b, o, none⟩) h); go_simp; first | done | rfl)); simp only [Act.put, List.setIfInBounds_toArray, List.set_cons_zero, List.set_cons_succ])
      all_goals clear ho17
      all_goals (apply canon_st ho18 rfl; (intro w2 hS; first | (go_simp; first | done | rfl) | rfl | ((have hc' := fun b o (h : b < w.heap.size + 1) => hS.cell (p := ⟨b, o, none⟩) h); go_simp; first | done | rfl)); simp only [Act.put, List.setIfInBounds_toArray, List.set_cons_zero, List.set_cons_succ])
      all_goals clear ho18
      all_goals first | (refine canon_ef ho19 rfl (fun K hK => ?_); ((refine append1I_op (w0 := wr.drew) (hrow.drewN 0) (by omega) (show w.heap.size + 1 ≤ wr.heap.size by omega) ?_ rfl rfl; intro v9 w9 hrow9 hg9; have hlow9 : Below (w.heap.size + 1) wr w9 := (Below.refl _ wr).drew.trans (hg9.below (fun k hk => (hrow.lt k hk).1) (show w.heap.size + 1 ≤ wr.heap.size by omega)))); all_goals (refine hK _ _ ⟨(by first | assumption | exact (Below.refl _ _).drew | exact ((Below.refl _ _).drew).alloc (show w.heap.size + 1 ≤ wr.heap.size by omega) _ | exact ((Below.refl _ _).alloc (show w.heap.size + 1 ≤ wr.heap.size by omega) _).drew), ?_⟩; clear hK K; go_simp)) | (refine canon_ef ho19 rfl (fun K hK => ?_); go_simp; (skip); all_goals (refine hK _ _ ⟨(by first | assumption | exact (Below.refl _ _).drew | exact ((Below.refl _ _).drew).alloc (show w.heap.size + 1 ≤ wr.heap.size by omega) _ | exact ((Below.refl _ _).alloc (show w.heap.size + 1 ≤ wr.heap.size by omega) _).drew), ?_⟩; clear hK K; go_simp))
      all_goals clear ho19
      all_goals first | (refine canon_ef ho20 rfl (fun K hK => ?_); ((refine append1I_op (w0 := wr.drew) (hrow.drewN 0) (by omega) (show w.heap.size + 1 ≤ wr.heap.size by omega) ?_ rfl rfl; intro v9 w9 hrow9 hg9; have hlow9 : Below (w.heap.size + 1) wr w9 := (Below.refl _ wr).drew.trans (hg9.below (fun k hk => (hrow.lt k hk).1) (show w.heap.size + 1 ≤ wr.heap.size by omega)))); all_goals (refine hK _ _ ⟨(by first | assumption | exact (Below.refl _ _).drew | exact ((Below.refl _ _).drew).alloc (show w.heap.size + 1 ≤ wr.heap.size by omega) _ | exact ((Below.refl _ _).alloc (show w.heap.size + 1 ≤ wr.heap.size by omega) _).drew), ?_⟩; clear hK K; go_simp)) | (refine canon_ef ho20 rfl (fun K hK => ?_); go_simp; (skip); all_goals (refine hK _ _ ⟨(by first | assumption | exact (Below.refl _ _).drew | exact ((Below.refl _ _).drew).alloc (show w.heap.size + 1 ≤ wr.heap.size by omega) _ | exact ((Below.refl _ _).alloc (show w.heap.size + 1 ≤ wr.heap.size by omega) _).drew), ?_⟩; clear hK K; go_simp))
      all_goals clear ho20
      all_goals (apply canon_st ho21 rfl; (intro w2 hS; first | (go_simp; first | done | rfl) | rfl | ((have hc' := fun b o (h : b < w.heap.size + 1) => hS.cell (p := ⟨b, o, none⟩) h); go_simp; first | done | rfl)); simp only [Act.put, List.setIfInBounds_toArray, List.set_cons_zero, List.set_cons_succ])
      all_goals clear ho21
      all_goals refine canon_done (NoPanic.normal ?_)
      go_wp2_with fail
      go_roundw
      case rel => exact ⟨j + 1, hlt, by go_num, by rw [hL1.out, hst.out]; exact hrow9, h0.low hlow9 (by omega), hext.low hlow9 (by omega)⟩
      case measure => simp [intOf]; omega
    · obtain rfl : j = m := by omega
      rw [List.take_of_length_le (by rw [hLl.out]; omega)] at hrow
      obtain ⟨g, kg, rfl, ho⟩ := hrow.own
      rw [hLl.out]
      go_wp2_with fail
      go_ret
      exact ⟨⟨g, kg, rfl, ho.mono (Nat.le_succ _)⟩, hext⟩
set_option maxHeartbeats 800000 in
set_option maxRecDepth 100000 in
theorem sReadFormat_c (r c : Int) (p : Option Addr) (k : Nat) (xs : List Int) (w : World) (hx : IntsAt w p xs) (hl : xs.length ≤ 1048576) :
    Calls Try.prog 18 #[vGrid r c p xs.length k] w fun e w' => e = .returned (.tuple #[.int .i64 (rfV r c xs).1, .int .i64 (rfV r c xs).2]) ∧ Ext w w' := by
  have HX := Lib.hid hx; clear hx
  have hb := Blk.new w #[.int .i64 r, .int .i64 c, .slice p xs.length k] 26
  have hx0 : Ext w (w.alloc (.cells #[.int .i64 r, .int .i64 c, .slice p xs.length k] 26)) := (Ext.refl w).alloc _
  have hmt := Lib.hid (fun W (h : IntsAt W p xs) => sMat_c r c p k xs W h hl)
  by_cases h1 : matOK r c xs
  · have hV : rfV r c xs = shareV (cellsL r.toNat xs aPl) (cellsL r.toNat xs (bPl r)) := by unfold rfV; rw [if_neg (not_not_intro h1)]
    rw [hV]
    obtain ⟨n, rfl, rfl, hn1, hn2, hn4, hlen, hxb⟩ := matOK_nat h1
    simp only [Int.toNat_natCast]
    have hfa := cellsL_fm (n := n) (ps := aPl) hxb
    have hfb := cellsL_fm (n := n) (ps := bPl n) hxb
    replace h1 := Lib.hid h1
    clear hV hxb
    have hN : n * n ≤ 1681 := Nat.mul_le_mul hn2 hn2
    have hcd := shareV_cd (cellsL n xs aPl) (cellsL n xs (bPl n))
    have hca := fun q m c W (h : IntsAt W p xs) (h2 : PlAt W q aPl) (h3 : aPl.length = m) => sCells_c n k m c p q xs aPl W ⟨hn1, hn2⟩ h hlen h2 h3 (by rw [← h3]; decide) (aPl_in hn1)
    have hcb := fun q m c W (h : IntsAt W p xs) (h2 : PlAt W q (bPl n)) (h3 : (bPl n).length = m) => sCells_c n k m c p q xs (bPl n) W ⟨hn1, hn2⟩ h hlen h2 h3 (by rw [← h3]; show 15 ≤ 2000; omega) (bPl_bd hn1)
    rw [← hlen] at hca hcb
    have hla : (cellsL n xs aPl).length = 15 := by simp [cellsL, aPl]
    have hlb : (cellsL n xs (bPl n)).length = 15 := by simp [cellsL, bPl]
    have hsh := fun p' q' c' d' W (h1 : IntsAt W p' (cellsL n xs aPl)) (h2 : IntsAt W q' (cellsL n xs (bPl n))) => sShare_c p' q' c' d' _ _ W h1 h2 hla hlb hfa hfb
    clear hfa hfb hla hlb
    generalize cellsL n xs aPl = LA at *
    generalize cellsL n xs (bPl n) = LB at *
    generalize shareV LA LB = V at *
    replace hca := Lib.hid hca; replace hcb := Lib.hid hcb; replace hsh := Lib.hid hsh; replace hlen := Lib.hid hlen
    have hfm := Lib.hid (fun W => sFormats_c n W (by omega))
    obtain ⟨v1, v2⟩ := V
    simp only at hsh hcd ⊢
    go_enter Try.func18, Try.ntmps18
    go_wp2_with (first
      | (go_at_call 33; (with_reducible refine (hmt.out _ (HX.out.ext hx0)).mono ?_); rintro e w1 ⟨⟨hP, rfl⟩ | ⟨hP, rfl⟩, hx1⟩ <;> (first | exact absurd h1.out hP | skip); have hb1 := hb.ext hx1; have q0 := hb1.cell (i := 0) (v := .int .i64 n) rfl; have q1 := hb1.cell (i := 1) (v := .int .i64 n) rfl; have q2 := hb1.cell (i := 2) (v := .slice p xs.length k) rfl; have ql := hb1.lt)
      | (go_at_call 38; (with_reducible refine (hfm.out _).mono ?_); rintro e w4 ⟨⟨va, vb, rfl, hra, hrb, -⟩, hx4⟩; obtain ⟨pa, ca, rfl, haA, -⟩ := hra.nfree plF_len; obtain ⟨pb, cb, rfl, haB, -⟩ := hrb.nfree plF_len; have hb4 := hb1.ext hx4; have hx04 := (hx0.trans hx1).trans hx4))
    clear q0 q1 q2 ql hra hrb hb hb1 hx0 hx1 hx4
    rw [show aPl.length = 15 from rfl, show (bPl n).length = 15 from rfl]
    have q0 := hb4.cell (i := 0) (v := .int .i64 n) rfl; have q1 := hb4.cell (i := 1) (v := .int .i64 n) rfl; have q2 := hb4.cell (i := 2) (v := .slice p xs.length k) rfl; have ql := hb4.lt
    refine wp_region_canon (fun w' => Ext w4 w') [(1, true), (2, true), (4, true), (5, true), (0, false), (3, false), (6, false), (7, false), (8, true), (9, true), (10, true), (11, true)] (by kernel_rfl) (by kernel_rfl) (by decide) (by kernel_rfl) ?_ ?_
    · exact (by repeat (first | exact Ext.refl _ | assumption | refine Ext.drew ?_ | refine Ext.drewN ?_ _ | refine Ext.iter ?_ _ _ | refine Ext.alloc ?_ _ | refine Ext.setCell ?_ (by first | exact Nat.le_refl _ | (simp <;> omega)) _ | refine Ext.trans2 (by assumption) ?_))
    refine canon_intro fun ops eo => ?_
    have ho0 := canon_at eo 0 rfl
    have ho1 := canon_at eo 1 rfl
    have ho2 := canon_at eo 2 rfl
    have ho3 := canon_at eo 3 rfl
    have ho4 := canon_at eo 4 rfl
    have ho5 := canon_at eo 5 rfl
    have ho6 := canon_at eo 6 rfl
    have ho7 := canon_at eo 7 rfl
    have ho8 := canon_at eo 8 rfl
    have ho9 := canon_at eo 9 rfl
    have ho10 := canon_at eo 10 rfl
    have ho11 := canon_at eo 11 rfl
    clear eo
    all_goals (apply canon_st ho1 rfl; (intro w2 hS; first | (go_simp; first | done | rfl) | rfl | (obtain ⟨hc, hf, hk', hz⟩ := ecell hS; go_simp; first | done | rfl)); simp only [Act.put, List.setIfInBounds_toArray, List.set_cons_zero, List.set_cons_succ])
    all_goals clear ho1
    all_goals (apply canon_st ho2 rfl; (intro w2 hS; first | (go_simp; first | done | rfl) | rfl | (obtain ⟨hc, hf, hk', hz⟩ := ecell hS; go_simp; first | done | rfl)); simp only [Act.put, List.setIfInBounds_toArray, List.set_cons_zero, List.set_cons_succ])
    all_goals clear ho2
    all_goals (apply canon_st ho4 rfl; (intro w2 hS; first | (go_simp; first | done | rfl) | rfl | (obtain ⟨hc, hf, hk', hz⟩ := ecell hS; go_simp; first | done | rfl)); simp only [Act.put, List.setIfInBounds_toArray, List.set_cons_zero, List.set_cons_succ])
    all_goals clear ho4
    all_goals (apply canon_st ho5 rfl; (intro w2 hS; first | (go_simp; first | done | rfl) | rfl | (obtain ⟨hc, hf, hk', hz⟩ := ecell hS; go_simp; first | done | rfl)); simp only [Act.put, List.setIfInBounds_toArray, List.set_cons_zero, List.set_cons_succ])
    all_goals clear ho5
    all_goals first | (refine canon_ef ho0 rfl (fun K hK => ?_); go_simp; ((go_at_call 46; (with_reducible refine (sStdFmt_c _).mono ?_); rintro e w5 ⟨rfl, hx5⟩)); all_goals (refine hK _ _ ⟨(by repeat (first | exact Ext.refl _ | assumption | refine Ext.drew ?_ | refine Ext.drewN ?_ _ | refine Ext.iter ?_ _ _ | refine Ext.alloc ?_ _ | refine Ext.setCell ?_ (by first | exact Nat.le_refl _ | (simp <;> omega)) _ | refine Ext.trans2 (by assumption) ?_)), ?_⟩; clear hK K; go_simp)) | (refine canon_ef ho0 rfl (fun K hK => ?_); go_simp; ((go_at_call 47; (with_reducible refine (hca.out pa 15 ca _ (HX.out.ext (hx04.trans (by repeat (first | exact Ext.refl _ | assumption | refine Ext.drew ?_ | refine Ext.drewN ?_ _ | refine Ext.iter ?_ _ _ | refine Ext.alloc ?_ _ | refine Ext.setCell ?_ (by first | exact Nat.le_refl _ | (simp <;> omega)) _ | refine Ext.trans2 (by assumption) ?_)))) (haA.ext (by repeat (first | exact Ext.refl _ | assumption | refine Ext.drew ?_ | refine Ext.drewN ?_ _ | refine Ext.iter ?_ _ _ | refine Ext.alloc ?_ _ | refine Ext.setCell ?_ (by first | exact Nat.le_refl _ | (simp <;> omega)) _ | refine Ext.trans2 (by assumption) ?_))) rfl).mono ?_); rintro e w6 ⟨⟨ga, kga, rfl, oqa⟩, hx6⟩)); all_goals (refine hK _ _ ⟨(by repeat (first | exact Ext.refl _ | assumption | refine Ext.drew ?_ | refine Ext.drewN ?_ _ | refine Ext.iter ?_ _ _ | refine Ext.alloc ?_ _ | refine Ext.setCell ?_ (by first | exact Nat.le_refl _ | (simp <;> omega)) _ | refine Ext.trans2 (by assumption) ?_)), ?_⟩; clear hK K; go_simp)) | (refine canon_ef ho0 rfl (fun K hK => ?_); go_simp; ((go_at_call 47; (with_reducible refine (hcb.out pb 15 cb _ (HX.out.ext (hx04.trans (by repeat (first | exact Ext.refl _ | assumption | refine Ext.drew ?_ | refine Ext.drewN ?_ _ | refine Ext.iter ?_ _ _ | refine Ext.alloc ?_ _ | refine Ext.setCell ?_ (by first | exact Nat.le_refl _ | (simp <;> omega)) _ | refine Ext.trans2 (by assumption) ?_)))) (haB.ext (by repeat (first | exact Ext.refl _ | assumption | refine Ext.drew ?_ | refine Ext.drewN ?_ _ | refine Ext.iter ?_ _ _ | refine Ext.alloc ?_ _ | refine Ext.setCell ?_ (by first | exact Nat.le_refl _ | (simp <;> omega)) _ | refine Ext.trans2 (by assumption) ?_))) rfl).mono ?_); rintro e w7 ⟨⟨gb, kgb, rfl, oqb⟩, hx7⟩)); all_goals (refine hK _ _ ⟨(by repeat (first | exact Ext.refl _ | assumption | refine Ext.drew ?_ | refine Ext.drewN ?_ _ | refine Ext.iter ?_ _ _ | refine Ext.alloc ?_ _ | refine Ext.setCell ?_ (by first | exact Nat.le_refl _ | (simp <;> omega)) _ | refine Ext.trans2 (by assumption) ?_)), ?_⟩; clear hK K; go_simp)) | (refine canon_ef ho0 rfl (fun K hK => ?_); go_simp; ((go_at_call 45; (with_reducible refine (hsh.out _ _ _ _ _ (oqa.ints.ext (by repeat (first | exact Ext.refl _ | assumption | refine Ext.drew ?_ | refine Ext.drewN ?_ _ | refine Ext.iter ?_ _ _ | refine Ext.alloc ?_ _ | refine Ext.setCell ?_ (by first | exact Nat.le_refl _ | (simp <;> omega)) _ | refine Ext.trans2 (by assumption) ?_))) oqb.ints).mono ?_); rintro e w8 ⟨rfl, hx8⟩)); all_goals (refine hK _ _ ⟨(by repeat (first | exact Ext.refl _ | assumption | refine Ext.drew ?_ | refine Ext.drewN ?_ _ | refine Ext.iter ?_ _ _ | refine Ext.alloc ?_ _ | refine Ext.setCell ?_ (by first | exact Nat.le_refl _ | (simp <;> omega)) _ | refine Ext.trans2 (by assumption) ?_)), ?_⟩; clear hK K; go_simp))
    all_goals clear ho0
    all_goals first | (refine canon_ef ho3 rfl (fun K hK => ?_); go_simp; ((go_at_call 46; (with_reducible refine (sStdFmt_c _).mono ?_); rintro e w5 ⟨rfl, hx5⟩)); all_goals (refine hK _ _ ⟨(by repeat (first | exact Ext.refl _ | assumption | refine Ext.drew ?_ | refine Ext.drewN ?_ _ | refine Ext.iter ?_ _ _ | refine Ext.alloc ?_ _ | refine Ext.setCell ?_ (by first | exact Nat.le_refl _ | (simp <;> omega)) _ | refine Ext.trans2 (by assumption) ?_)), ?_⟩; clear hK K; go_simp)) | (refine canon_ef ho3 rfl (fun K hK => ?_); go_simp; ((go_at_call 47; (with_reducible refine (hca.out pa 15 ca _ (HX.out.ext (hx04.trans (by repeat (first | exact Ext.refl _ | assumption | refine Ext.drew ?_ | refine Ext.drewN ?_ _ | refine Ext.iter ?_ _ _ | refine Ext.alloc ?_ _ | refine Ext.setCell ?_ (by first | exact Nat.le_refl _ | (simp <;> omega)) _ | refine Ext.trans2 (by assumption) ?_)))) (haA.ext (by repeat (first | exact Ext.refl _ | assumption | refine Ext.drew ?_ | refine Ext.drewN ?_ _ | refine Ext.iter ?_ _ _ | refine Ext.alloc ?_ _ | refine Ext.setCell ?_ (by first | exact Nat.le_refl _ | (simp <;> omega)) _ | refine Ext.trans2 (by assumption) ?_))) rfl).mono ?_); rintro e w6 ⟨⟨ga, kga, rfl, oqa⟩, hx6⟩)); all_goals (refine hK _ _ ⟨(by repeat (first | exact Ext.refl _ | assumption | refine Ext.drew ?_ | refine Ext.drewN ?_ _ | refine Ext.iter ?_ _ _ | refine Ext.alloc ?_ _ | refine Ext.setCell ?_ (by first | exact Nat.le_refl _ | (simp <;> omega)) _ | refine Ext.trans2 (by assumption) ?_)), ?_⟩; clear hK K; go_simp)) | (refine canon_ef ho3 rfl (fun K hK => ?_); go_simp; ((go_at_call 47; (with_reducible refine (hcb.out pb 15 cb _ (HX.out.ext (hx04.trans (by repeat (first | exact Ext.refl _ | assumption | refine Ext.drew ?_ | refine Ext.drewN ?_ _ | refine Ext.iter ?_ _ _ | refine Ext.alloc ?_ _ | refine Ext.setCell ?_ (by first | exact Nat.le_refl _ | (simp <;> omega)) _ | refine Ext.trans2 (by assumption) ?_)))) (haB.ext (by repeat (first | exact Ext.refl _ | assumption | refine Ext.drew ?_ | refine Ext.drewN ?_ _ | refine Ext.iter ?_ _ _ | refine Ext.alloc ?_ _ | refine Ext.setCell ?_ (by first | exact Nat.le_refl _ | (simp <;> omega)) _ | refine Ext.trans2 (by assumption) ?_))) rfl).mono ?_); rintro e w7 ⟨⟨gb, kgb, rfl, oqb⟩, hx7⟩)); all_goals (refine hK _ _ ⟨(by repeat (first | exact Ext.refl _ | assumption | refine Ext.drew ?_ | refine Ext.drewN ?_ _ | refine Ext.iter ?_ _ _ | refine Ext.alloc ?_ _ | refine Ext.setCell ?_ (by first | exact Nat.le_refl _ | (simp <;> omega)) _ | refine Ext.trans2 (by assumption) ?_)), ?_⟩; clear hK K; go_simp)) | (refine canon_ef ho3 rfl (fun K hK => ?_); go_simp; ((go_at_call 45; (with_reducible refine (hsh.out _ _ _ _ _ (oqa.ints.ext (by repeat (first | exact Ext.refl _ | assumption | refine Ext.drew ?_ | refine Ext.drewN ?_ _ | refine Ext.iter ?_ _ _ | refine Ext.alloc ?_ _ | refine Ext.setCell ?_ (by first | exact Nat.le_refl _ | (simp <;> omega)) _ | refine Ext.trans2 (by assumption) ?_))) oqb.ints).mono ?_); rintro e w8 ⟨rfl, hx8⟩)); all_goals (refine hK _ _ ⟨(by repeat (first | exact Ext.refl _ | assumption | refine Ext.drew ?_ | refine Ext.drewN ?_ _ | refine Ext.iter ?_ _ _ | refine Ext.alloc ?_ _ | refine Ext.setCell ?_ (by first | exact Nat.le_refl _ | (simp <;> omega)) _ | refine Ext.trans2 (by assumption) ?_)), ?_⟩; clear hK K; go_simp))
    all_goals clear ho3
    all_goals first | (refine canon_ef ho6 rfl (fun K hK => ?_); go_simp; ((go_at_call 46; (with_reducible refine (sStdFmt_c _).mono ?_); rintro e w5 ⟨rfl, hx5⟩)); all_goals (refine hK _ _ ⟨(by repeat (first | exact Ext.refl _ | assumption | refine Ext.drew ?_ | refine Ext.drewN ?_ _ | refine Ext.iter ?_ _ _ | refine Ext.alloc ?_ _ | refine Ext.setCell ?_ (by first | exact Nat.le_refl _ | (simp <;> omega)) _ | refine Ext.trans2 (by assumption) ?_)), ?_⟩; clear hK K; go_simp)) | (refine canon_ef ho6 rfl (fun K hK => ?_); go_simp; ((go_at_call 47; (with_reducible refine (hca.out pa 15 ca _ (HX.out.ext (hx04.trans (by repeat (first | exact Ext.refl _ | assumption | refine Ext.drew ?_ | refine Ext.drewN ?_ _ | refine Ext.iter ?_ _ _ | refine Ext.alloc ?_ _ | refine Ext.setCell ?_ (by first | exact Nat.le_refl _ | (simp <;> omega)) _ | refine Ext.trans2 (by assumption) ?_)))) (haA.ext (by repeat (first | exact Ext.refl _ | assumption | refine Ext.drew ?_ | refine Ext.drewN ?_ _ | refine Ext.iter ?_ _ _ | refine Ext.alloc ?_ _ | refine Ext.setCell ?_ (by first | exact Nat.le_refl _ | (simp <;> omega)) _ | refine Ext.trans2 (by assumption) ?_))) rfl).mono ?_); rintro e w6 ⟨⟨ga, kga, rfl, oqa⟩, hx6⟩)); all_goals (refine hK _ _ ⟨(by repeat (first | exact Ext.refl _ | assumption | refine Ext.drew ?_ | refine Ext.drewN ?_ _ | refine Ext.iter ?_ _ _ | refine Ext.alloc ?_ _ | refine Ext.setCell ?_ (by first | exact Nat.le_refl _ | (simp <;> omega)) _ | refine Ext.trans2 (by assumption) ?_)), ?_⟩; clear hK K; go_simp)) | (refine canon_ef ho6 rfl (fun K hK => ?_); go_simp; ((go_at_call 47; (with_reducible refine (hcb.out pb 15 cb _ (HX.out.ext (hx04.trans (by repeat (first | exact Ext.refl _ | assumption | refine Ext.drew ?_ | refine Ext.drewN ?_ _ | refine Ext.iter ?_ _ _ | refine Ext.alloc ?_ _ | refine Ext.setCell ?_ (by first | exact Nat.le_refl _ | (simp <;> omega)) _ | refine Ext.trans2 (by assumption) ?_)))) (haB.ext (by repeat (first | exact Ext.refl _ | assumption | refine Ext.drew ?_ | refine Ext.drewN ?_ _ | refine Ext.iter ?_ _ _ | refine Ext.alloc ?_ _ | refine Ext.setCell ?_ (by first | exact Nat.le_refl _ | (simp <;> omega)) _ | refine Ext.trans2 (by assumption) ?_))) rfl).mono ?_); rintro e w7 ⟨⟨gb, kgb, rfl, oqb⟩, hx7⟩)); all_goals (refine hK _ _ ⟨(by repeat (first | exact Ext.refl _ | assumption | refine Ext.drew ?_ | refine Ext.drewN ?_ _ | refine Ext.iter ?_ _ _ | refine Ext.alloc ?_ _ | refine Ext.setCell ?_ (by first | exact Nat.le_refl _ | (simp <;> omega)) _ | refine Ext.trans2 (by assumption) ?_)), ?_⟩; clear hK K; go_simp)) | (refine canon_ef ho6 rfl (fun K hK => ?_); go_simp; ((go_at_call 45; (with_reducible refine (hsh.out _ _ _ _ _ (oqa.ints.ext (by repeat (first | exact Ext.refl _ | assumption | refine Ext.drew ?_ | refine Ext.drewN ?_ _ | refine Ext.iter ?_ _ _ | refine Ext.alloc ?_ _ | refine Ext.setCell ?_ (by first | exact Nat.le_refl _ | (simp <;> omega)) _ | refine Ext.trans2 (by assumption) ?_))) oqb.ints).mono ?_); rintro e w8 ⟨rfl, hx8⟩)); all_goals (refine hK _ _ ⟨(by repeat (first | exact Ext.refl _ | assumption | refine Ext.drew ?_ | refine Ext.drewN ?_ _ | refine Ext.iter ?_ _ _ | refine Ext.alloc ?_ _ | refine Ext.setCell ?_ (by first | exact Nat.le_refl _ | (simp <;> omega)) _ | refine Ext.trans2 (by assumption) ?_)), ?_⟩; clear hK K; go_simp))
    all_goals clear ho6
    all_goals first | (refine canon_ef ho7 rfl (fun K hK => ?_); go_simp; ((go_at_call 46; (with_reducible refine (sStdFmt_c _).mono ?_); rintro e w5 ⟨rfl, hx5⟩)); all_goals (refine hK _ _ ⟨(by repeat (first | exact Ext.refl _ | assumption | refine Ext.drew ?_ | refine Ext.drewN ?_ _ | refine Ext.iter ?_ _ _ | refine Ext.alloc ?_ _ | refine Ext.setCell ?_ (by first | exact Nat.le_refl _ | (simp <;> omega)) _ | refine Ext.trans2 (by assumption) ?_)), ?_⟩; clear hK K; go_simp)) | (refine canon_ef ho7 rfl (fun K hK => ?_); go_simp; ((go_at_call 47; (with_reducible refine (hca.out pa 15 ca _ (HX.out.ext (hx04.trans (by repeat (first | exact Ext.refl _ | assumption | refine Ext.drew ?_ | refine Ext.drewN ?_ _ | refine Ext.iter ?_ _ _ | refine Ext.alloc ?_ _ | refine Ext.setCell ?_ (by first | exact Nat.le_refl _ | (simp <;> omega)) _ | refine Ext.trans2 (by assumption) ?_)))) (haA.ext (by repeat (first | exact Ext.refl _ | assumption | refine Ext.drew ?_ | refine Ext.drewN ?_ _ | refine Ext.iter ?_ _ _ | refine Ext.alloc ?_ _ | refine Ext.setCell ?_ (by first | exact Nat.le_refl _ | (simp <;> omega)) _ | refine Ext.trans2 (by assumption) ?_))) rfl).mono ?_); rintro e w6 ⟨⟨ga, kga, rfl, oqa⟩, hx6⟩)); all_goals (refine hK _ _ ⟨(by repeat (first | exact Ext.refl _ | assumption | refine Ext.drew ?_ | refine Ext.drewN ?_ _ | refine Ext.iter ?_ _ _ | refine Ext.alloc ?_ _ | refine Ext.setCell ?_ (by first | exact Nat.le_refl _ | (simp <;> omega)) _ | refine Ext.trans2 (by assumption) ?_)), ?_⟩; clear hK K; go_simp)) | (refine canon_ef ho7 rfl (fun K hK => ?_); go_simp; ((go_at_call 47; (with_reducible refine (hcb.out pb 15 cb _ (HX.out.ext (hx04.trans (by repeat (first | exact Ext.refl _ | assumption | refine Ext.drew ?_ | refine Ext.drewN ?_ _ | refine Ext.iter ?_ _ _ | refine Ext.alloc ?_ _ | refine Ext.setCell ?_ (by first | exact Nat.le_refl _ | (simp <;> omega)) _ | refine Ext.trans2 (by assumption) ?_)))) (haB.ext (by repeat (first | exact Ext.refl _ | assumption | refine Ext.drew ?_ | refine Ext.drewN ?_ _ | refine Ext.iter ?_ _ _ | refine Ext.alloc ?_ _ | refine Ext.setCell ?_ (by first | exact Nat.le_refl _ | (simp <;> omega)) _ | refine Ext.trans2 (by assumption) ?_))) rfl).mono ?_); rintro e w7 ⟨⟨gb, kgb, rfl, oqb⟩, hx7⟩)); all_goals (refine hK _ _ ⟨(by repeat (first | exact Ext.refl _ | assumption | refine Ext.drew ?_ | refine Ext.drewN ?_ _ | refine Ext.iter ?_ _ _ | refine Ext.alloc ?_ _ | refine Ext.setCell ?_ (by first | exact Nat.le_refl _ | (simp <;> omega)) _ | refine Ext.trans2 (by assumption) ?_)), ?_⟩; clear hK K; go_simp)) | (refine canon_ef ho7 rfl (fun K hK => ?_); go_simp; ((go_at_call 45; (with_reducible refine (hsh.out _ _ _ _ _ (oqa.ints.ext (by repeat (first | exact Ext.refl _ | assumption | refine Ext.drew ?_ | refine Ext.drewN ?_ _ | refine Ext.iter ?_ _ _ | refine Ext.alloc ?_ _ | refine Ext.setCell ?_ (by first | exact Nat.le_refl _ | (simp <;> omega)) _ | refine Ext.trans2 (by assumption) ?_))) oqb.ints).mono ?_); rintro e w8 ⟨rfl, hx8⟩)); all_goals (refine hK _ _ ⟨(by repeat (first | exact Ext.refl _ | assumption | refine Ext.drew ?_ | refine Ext.drewN ?_ _ | refine Ext.iter ?_ _ _ | refine Ext.alloc ?_ _ | refine Ext.setCell ?_ (by first | exact Nat.le_refl _ | (simp <;> omega)) _ | refine Ext.trans2 (by assumption) ?_)), ?_⟩; clear hK K; go_simp))
    all_goals clear ho7
    all_goals (apply canon_st ho8 rfl; (intro w2 hS; first | (go_simp; first | done | rfl) | rfl | (obtain ⟨hc, hf, hk', hz⟩ := ecell hS; go_simp; first | done | rfl)); simp only [Act.put, List.setIfInBounds_toArray, List.set_cons_zero, List.set_cons_succ])
    all_goals clear ho8
    all_goals (apply canon_st ho9 rfl; (intro w2 hS; first | (go_simp; first | done | rfl) | rfl | (obtain ⟨hc, hf, hk', hz⟩ := ecell hS; go_simp; first | done | rfl)); simp only [Act.put, List.setIfInBounds_toArray, List.set_cons_zero, List.set_cons_succ])
    all_goals clear ho9
    all_goals (apply canon_st ho10 rfl; (intro w2 hS; first | (go_simp; first | done | rfl) | rfl | (obtain ⟨hc, hf, hk', hz⟩ := ecell hS; go_simp; first | done | rfl)); simp only [Act.put, List.setIfInBounds_toArray, List.set_cons_zero, List.set_cons_succ])
    all_goals clear ho10
    all_goals (apply canon_st ho11 rfl; (intro w2 hS; first | (go_simp; first | done | rfl) | rfl | (obtain ⟨hc, hf, hk', hz⟩ := ecell hS; go_simp; first | done | rfl)); simp only [Act.put, List.setIfInBounds_toArray, List.set_cons_zero, List.set_cons_succ])
    all_goals clear ho11
    all_goals refine canon_done (NoPanic.normal ?_)
    have hx48 : Ext w4 w8 := (by repeat (first | exact Ext.refl _ | assumption | refine Ext.drew ?_ | refine Ext.drewN ?_ _ | refine Ext.iter ?_ _ _ | refine Ext.alloc ?_ _ | refine Ext.setCell ?_ (by first | exact Nat.le_refl _ | (simp <;> omega)) _ | refine Ext.trans2 (by assumption) ?_))
    clear q0 q1 q2 ql oqa oqb
    clear hcd
    go_wp2_with fail
    go_ret2
    exact ⟨rfl, hx04.trans hx48⟩
  · have hV : rfV r c xs = (0, 1) := by unfold rfV; rw [if_pos h1]
    rw [hV]
    replace h1 := Lib.hid h1
    clear hV
    go_enter Try.func18, Try.ntmps18
    go_wp2_with (go_at_call 33; (with_reducible refine (hmt.out _ (HX.out.ext hx0)).mono ?_); rintro e w1 ⟨⟨hP, rfl⟩ | ⟨hP, rfl⟩, hx1⟩ <;> (first | exact absurd hP h1.out | skip))
    go_ret2
    exact ⟨rfl, hx0.trans hx1⟩
set_option maxHeartbeats 800000 in
set_option maxRecDepth 100000 in
theorem sFixedErrors_c (r c : Int) (p : Option Addr) (k : Nat) (xs : List Int) (w : World) (hx : IntsAt w p xs) (hl : xs.length ≤ 1048576) :
    Calls Try.prog 17 #[vGrid r c p xs.length k] w fun e w' => e = .returned (.tuple #[.int .i64 (feV r c xs).1, .int .i64 (feV r c xs).2]) ∧ Ext w w' := by
  have HX := Lib.hid hx; clear hx
  have hb := Blk.new w #[.int .i64 r, .int .i64 c, .slice p xs.length k] 26
  have hx0 : Ext w (w.alloc (.cells #[.int .i64 r, .int .i64 c, .slice p xs.length k] 26)) := (Ext.refl w).alloc _
  have hmt := Lib.hid (fun W (h : IntsAt W p xs) => sMat_c r c p k xs W h hl)
  by_cases h1 : matOK r c xs
  · have hV : feV r c xs = (((feTo (fixL r.toNat) xs xs.length : Nat) : Int), 0) := by unfold feV; rw [if_neg (not_not_intro h1)]
    rw [hV]
    obtain ⟨n, rfl, rfl, hn1, hn2, hn4, hlen, hxb⟩ := matOK_nat h1
    simp only [Int.toNat_natCast]
    replace h1 := Lib.hid h1
    clear hV
    have hN : n * n ≤ 1681 := Nat.mul_le_mul hn2 hn2
    have hfx := Lib.hid (fun W => sGrid_c n W ⟨hn1, hn2⟩)
    have hfl : (fixL n).length = xs.length := by rw [fixL_len, hlen]
    have hfb := Lib.hid (fixL_bd n)
    replace hxb := Lib.hid hxb
    replace hfl := Lib.hid hfl
    generalize fixL n = F at *
    have hfld : ∀ v w, (Instr.field 26 (vGrid n n v F.length k) 2).run Try.prog w = .ok (.slice v F.length k) w := fun v w => by kernel_rfl
    have hfld2 : ∀ v k' w, (Instr.field 26 (vGrid n n v F.length k') 2).run Try.prog w = .ok (.slice v F.length k') w := fun v k' w => by kernel_rfl
    have hN2 := hlen
    replace hlen := Lib.hid hlen
    have hbound : xs.length ≤ 1681 := by rw [hN2]; exact hN
    clear hN2 hN hfld
    go_enter Try.func17, Try.ntmps17
    go_wp2_with (first
      | (go_at_call 33; (with_reducible refine (hmt.out _ (HX.out.ext hx0)).mono ?_); rintro e w1 ⟨⟨hP, rfl⟩ | ⟨hP, rfl⟩, hx1⟩ <;> (first | exact absurd h1.out hP | skip); have hb1 := hb.ext hx1; have q0 := hb1.cell (i := 0) (v := .int .i64 n) rfl; have q1 := hb1.cell (i := 1) (v := .int .i64 n) rfl; have q2 := hb1.cell (i := 2) (v := .slice p xs.length k) rfl; have ql := hb1.lt)
      | (go_at_call 44; (with_reducible refine (hfx.out _).mono ?_); rintro e w2 ⟨⟨pf, kf, rfl, oqf, -⟩, hx2⟩))
    rw [hfl.out]
    have hb2 := (hb1.ext hx2).alloc (.cells #[.int .i64 n, .int .i64 n, .slice pf xs.length kf] 26)
    have hG := Blk.new w2 #[.int .i64 n, .int .i64 n, .slice pf xs.length kf] 26
    replace hx0 := ((hx0.trans hx1).trans hx2).alloc (.cells #[.int .i64 n, .int .i64 n, .slice pf xs.length kf] 26)
    have hF := Lib.hid (oqf.ints.ext ((Ext.refl w2).alloc (.cells #[.int .i64 n, .int .i64 n, .slice pf xs.length kf] 26)))
    clear q0 q1 q2 ql hb hb1 hx1 hx2 oqf
    generalize w2.alloc (.cells #[.int .i64 n, .int .i64 n, .slice pf xs.length kf] 26) = w3 at *
    go_loopw [5, 6] (fun a i wr => ∃ j : Nat, j ≤ xs.length ∧ i = .int .i64 j ∧ a = .int .i64 (feTo F xs j) ∧ Ext w3 wr) (fun _ i _ => xs.length - (intOf i).toNat)
    case atStart => exact ⟨0, by omega, rfl, rfl, Ext.refl _⟩
    case round =>
      obtain ⟨j, hj, rfl, rfl, hext⟩ := hrel
      by_cases hlt : j < xs.length
      · obtain ⟨bx, ox, rfl, hbx, z1⟩ := (HX.out.ext (hx0.trans hext)) j hlt
        obtain ⟨bf, off, rfl, hbf, z2⟩ := (hF.out.ext hext) j (by rw [hfl.out]; exact hlt)
        have hb3 := hb2.ext hext
        have hG3 := hG.ext hext
        have q2 := hb3.cell (i := 2) (v := .slice (some ⟨bx, ox, none⟩) xs.length k) rfl
        have ql := hb3.lt
        have r2 := hG3.cell (i := 2) (v := .slice (some ⟨bf, off, none⟩) xs.length kf) rfl
        have rl := hG3.lt
        have hst : feTo F xs (j + 1) = feTo F xs j + if 0 ≤ F.getD j 0 ∧ 0 ≤ xs.getD j 0 ∧ F.getD j 0 ≠ xs.getD j 0 then 1 else 0 := rfl
        have hfe := feTo_le F xs j
        obtain ⟨Z1, hZ1⟩ : ∃ z, feTo F xs (j + 1) = z := ⟨_, rfl⟩
        rw [hZ1] at hst
        generalize feTo F xs j = Z at *
        generalize F.getD j 0 = f at *
        generalize xs.getD j 0 = x at *
        replace hZ1 := Lib.hid hZ1
        have hcs : (decide (0 ≤ f) = true ∧ decide (0 ≤ x) = true ∧ (f == x) = false ∧ (if 0 ≤ f ∧ 0 ≤ x ∧ f ≠ x then 1 else 0) = 1) ∨ (decide (0 ≤ f) = true ∧ decide (0 ≤ x) = true ∧ (f == x) = true ∧ (if 0 ≤ f ∧ 0 ≤ x ∧ f ≠ x then 1 else 0) = 0) ∨ (decide (0 ≤ f) = true ∧ decide (0 ≤ x) = false ∧ (if 0 ≤ f ∧ 0 ≤ x ∧ f ≠ x then 1 else 0) = 0) ∨ (decide (0 ≤ f) = false ∧ (if 0 ≤ f ∧ 0 ≤ x ∧ f ≠ x then 1 else 0) = 0) := by
          by_cases a : 0 ≤ f
          · by_cases b : 0 ≤ x
            · by_cases d : f = x
              · exact .inr (.inl ⟨decide_eq_true a, decide_eq_true b, by simp [d], if_neg (by omega)⟩)
              · exact .inl ⟨decide_eq_true a, decide_eq_true b, by simp [d], if_pos ⟨a, b, d⟩⟩
            · exact .inr (.inr (.inl ⟨decide_eq_true a, decide_eq_false b, if_neg (by omega)⟩))
          · exact .inr (.inr (.inr ⟨decide_eq_false a, if_neg (by omega)⟩))
        rcases hcs with ⟨c1, c2, c3, c4⟩ | ⟨c1, c2, c3, c4⟩ | ⟨c1, c2, c4⟩ | ⟨c1, c4⟩
        all_goals
          rw [c4] at hst
          replace hst := Lib.hid hst
          clear c4
          go_wp2_with fail
          refine wp_region_canon (fun w' => Ext wr w') [(0, true), (1, true), (2, true), (3, true), (4, true), (5, true), (6, true), (7, true), (8, true), (9, true), (10, true), (11, true), (12, true), (13, true), (14, true), (15, true), (16, true), (17, true), (18, true), (19, true), (20, true), (21, true), (22, true), (23, true), (24, true), (25, true), (26, true)] (by kernel_rfl) (by kernel_rfl) (by decide) (by kernel_rfl) ?_ ?_
          · exact (by repeat (first | exact Ext.refl _ | assumption | refine Ext.drew ?_ | refine Ext.drewN ?_ _ | refine Ext.iter ?_ _ _ | refine Ext.alloc ?_ _ | refine Ext.setCell ?_ (by first | exact Nat.le_refl _ | (simp <;> omega)) _ | refine Ext.trans2 (by assumption) ?_))
          refine canon_intro fun ops eo => ?_
          have ho0 := canon_at eo 0 rfl
          have ho1 := canon_at eo 1 rfl
          have ho2 := canon_at eo 2 rfl
          have ho3 := canon_at eo 3 rfl
          have ho4 := canon_at eo 4 rfl
          have ho5 := canon_at eo 5 rfl
          have ho6 := canon_at eo 6 rfl
          have ho7 := canon_at eo 7 rfl
          have ho8 := canon_at eo 8 rfl
          have ho9 := canon_at eo 9 rfl
          have ho10 := canon_at eo 10 rfl
          have ho11 := canon_at eo 11 rfl
          have ho12 := canon_at eo 12 rfl
          have ho13 := canon_at eo 13 rfl
          have ho14 := canon_at eo 14 rfl
          have ho15 := canon_at eo 15 rfl
          have ho16 := canon_at eo 16 rfl
          have ho17 := canon_at eo 17 rfl
          have ho18 := canon_at eo 18 rfl
          have ho19 := canon_at eo 19 rfl
          have ho20 := canon_at eo 20 rfl
          have ho21 := canon_at eo 21 rfl
          have ho22 := canon_at eo 22 rfl
          have ho23 := canon_at eo 23 rfl
          have ho24 := canon_at eo 24 rfl
          have ho25 := canon_at eo 25 rfl
          have ho26 := canon_at eo 26 rfl
          clear eo
          all_goals first | (apply canon_st ho0 rfl; (intro w2 hS; first | (go_simp; first | done | rfl) | rfl | (obtain ⟨hc, hf, hk', hz⟩ := ecell hS; go_simp; first | done | rfl)); simp only [Act.put, List.setIfInBounds_toArray, List.set_cons_zero, List.set_cons_succ]) | (refine canon_stu ho0 rfl (by assumption) rfl rfl ?_; simp only [Act.put, List.setIfInBounds_toArray, List.set_cons_zero, List.set_cons_succ]) | (refine canon_stx ho0 rfl (by assumption) rfl rfl ?_; simp only [Act.put, List.setIfInBounds_toArray, List.set_cons_zero, List.set_cons_succ]) | (refine canon_stw (v := ?_) ho0 rfl (by assumption) rfl rfl ?_ ?_; rotate_left 1; (intro w2 hS; first | (go_simp; first | done | rfl) | rfl | (obtain ⟨hc, hf, hk', hz⟩ := ecell hS; go_simp; first | done | rfl)); simp only [Act.put, List.setIfInBounds_toArray, List.set_cons_zero, List.set_cons_succ])
          all_goals first | (apply canon_st ho1 rfl; (intro w2 hS; first | (go_simp; first | done | rfl) | rfl | (obtain ⟨hc, hf, hk', hz⟩ := ecell hS; go_simp; first | done | rfl)); simp only [Act.put, List.setIfInBounds_toArray, List.set_cons_zero, List.set_cons_succ]) | (refine canon_stu ho1 rfl (by assumption) rfl rfl ?_; simp only [Act.put, List.setIfInBounds_toArray, List.set_cons_zero, List.set_cons_succ]) | (refine canon_stx ho1 rfl (by assumption) rfl rfl ?_; simp only [Act.put, List.setIfInBounds_toArray, List.set_cons_zero, List.set_cons_succ]) | (refine canon_stw (v := ?_) ho1 rfl (by assumption) rfl rfl ?_ ?_; rotate_left 1; (intro w2 hS; first | (go_simp; first | done | rfl) | rfl | (obtain ⟨hc, hf, hk', hz⟩ := ecell hS; go_simp; first | done | rfl)); simp only [Act.put, List.setIfInBounds_toArray, List.set_cons_zero, List.set_cons_succ])
          all_goals first | (apply canon_st ho2 rfl; (intro w2 hS; first | (go_simp; first | done | rfl) | rfl | (obtain ⟨hc, hf, hk', hz⟩ := ecell hS; go_simp; first | done | rfl)); simp only [Act.put, List.setIfInBounds_toArray, List.set_cons_zero, List.set_cons_succ]) | (refine canon_stu ho2 rfl (by assumption) rfl rfl ?_; simp only [Act.put, List.setIfInBounds_toArray, List.set_cons_zero, List.set_cons_succ]) | (refine canon_stx ho2 rfl (by assumption) rfl rfl ?_; simp only [Act.put, List.setIfInBounds_toArray, List.set_cons_zero, List.set_cons_succ]) | (refine canon_stw (v := ?_) ho2 rfl (by assumption) rfl rfl ?_ ?_; rotate_left 1; (intro w2 hS; first | (go_simp; first | done | rfl) | rfl | (obtain ⟨hc, hf, hk', hz⟩ := ecell hS; go_simp; first | done | rfl)); simp only [Act.put, List.setIfInBounds_toArray, List.set_cons_zero, List.set_cons_succ])
          all_goals first | (apply canon_st ho3 rfl; (intro w2 hS; first | (go_simp; first | done | rfl) | rfl | (obtain ⟨hc, hf, hk', hz⟩ := ecell hS; go_simp; first | done | rfl)); simp only [Act.put, List.setIfInBounds_toArray, List.set_cons_zero, List.set_cons_succ]) | (refine canon_stu ho3 rfl (by assumption) rfl rfl ?_; simp only [Act.put, List.setIfInBounds_toArray, List.set_cons_zero, List.set_cons_succ]) | (refine canon_stx ho3 rfl (by assumption) rfl rfl ?_; simp only [Act.put, List.setIfInBounds_toArray, List.set_cons_zero, List.set_cons_succ]) | (refine canon_stw (v := ?_) ho3 rfl (by assumption) rfl rfl ?_ ?_; rotate_left 1; (intro w2 hS; first | (go_simp; first | done | rfl) | rfl | (obtain ⟨hc, hf, hk', hz⟩ := ecell hS; go_simp; first | done | rfl)); simp only [Act.put, List.setIfInBounds_toArray, List.set_cons_zero, List.set_cons_succ])
          all_goals first | (apply canon_st ho4 rfl; (intro w2 hS; first | (go_simp; first | done | rfl) | rfl | (obtain ⟨hc, hf, hk', hz⟩ := ecell hS; go_simp; first | done | rfl)); simp only [Act.put, List.setIfInBounds_toArray, List.set_cons_zero, List.set_cons_succ]) | (refine canon_stu ho4 rfl (by assumption) rfl rfl ?_; simp only [Act.put, List.setIfInBounds_toArray, List.set_cons_zero, List.set_cons_succ]) | (refine canon_stx ho4 rfl (by assumption) rfl rfl ?_; simp only [Act.put, List.setIfInBounds_toArray, List.set_cons_zero, List.set_cons_succ]) | (refine canon_stw (v := ?_) ho4 rfl (by assumption) rfl rfl ?_ ?_; rotate_left 1; (intro w2 hS; first | (go_simp; first | done | rfl) | rfl | (obtain ⟨hc, hf, hk', hz⟩ := ecell hS; go_simp; first | done | rfl)); simp only [Act.put, List.setIfInBounds_toArray, List.set_cons_zero, List.set_cons_succ])
          all_goals first | (apply canon_st ho5 rfl; (intro w2 hS; first | (go_simp; first | done | rfl) | rfl | (obtain ⟨hc, hf, hk', hz⟩ := ecell hS; go_simp; first | done | rfl)); simp only [Act.put, List.setIfInBounds_toArray, List.set_cons_zero, List.set_cons_succ]) | (refine canon_stu ho5 rfl (by assumption) rfl rfl ?_; simp only [Act.put, List.setIfInBounds_toArray, List.set_cons_zero, List.set_cons_succ]) | (refine canon_stx ho5 rfl (by assumption) rfl rfl ?_; simp only [Act.put, List.setIfInBounds_toArray, List.set_cons_zero, List.set_cons_succ]) | (refine canon_stw (v := ?_) ho5 rfl (by assumption) rfl rfl ?_ ?_; rotate_left 1; (intro w2 hS; first | (go_simp; first | done | rfl) | rfl | (obtain ⟨hc, hf, hk', hz⟩ := ecell hS; go_simp; first | done | rfl)); simp only [Act.put, List.setIfInBounds_toArray, List.set_cons_zero, List.set_cons_succ])
          all_goals first | (apply canon_st ho6 rfl; (intro w2 hS; first | (go_simp; first | done | rfl) | rfl | (obtain ⟨hc, hf, hk', hz⟩ := ecell hS; go_simp; first | done | rfl)); simp only [Act.put, List.setIfInBounds_toArray, List.set_cons_zero, List.set_cons_succ]) | (refine canon_stu ho6 rfl (by assumption) rfl rfl ?_; simp only [Act.put, List.setIfInBounds_toArray, List.set_cons_zero, List.set_cons_succ]) | (refine canon_stx ho6 rfl (by assumption) rfl rfl ?_; simp only [Act.put, List.setIfInBounds_toArray, List.set_cons_zero, List.set_cons_succ]) | (refine canon_stw (v := ?_) ho6 rfl (by assumption) rfl rfl ?_ ?_; rotate_left 1; (intro w2 hS; first | (go_simp; first | done | rfl) | rfl | (obtain ⟨hc, hf, hk', hz⟩ := ecell hS; go_simp; first | done | rfl)); simp only [Act.put, List.setIfInBounds_toArray, List.set_cons_zero, List.set_cons_succ])
          all_goals first | (apply canon_st ho7 rfl; (intro w2 hS; first | (go_simp; first | done | rfl) | rfl | (obtain ⟨hc, hf, hk', hz⟩ := ecell hS; go_simp; first | done | rfl)); simp only [Act.put, List.setIfInBounds_toArray, List.set_cons_zero, List.set_cons_succ]) | (refine canon_stu ho7 rfl (by assumption) rfl rfl ?_; simp only [Act.put, List.setIfInBounds_toArray, List.set_cons_zero, List.set_cons_succ]) | (refine canon_stx ho7 rfl (by assumption) rfl rfl ?_; simp only [Act.put, List.setIfInBounds_toArray, List.set_cons_zero, List.set_cons_succ]) | (refine canon_stw (v := ?_) ho7 rfl (by assumption) rfl rfl ?_ ?_; rotate_left 1; (intro w2 hS; first | (go_simp; first | done | rfl) | rfl | (obtain ⟨hc, hf, hk', hz⟩ := ecell hS; go_simp; first | done | rfl)); simp only [Act.put, List.setIfInBounds_toArray, List.set_cons_zero, List.set_cons_succ])
          all_goals first | (apply canon_st ho8 rfl; (intro w2 hS; first | (go_simp; first | done | rfl) | rfl | (obtain ⟨hc, hf, hk', hz⟩ := ecell hS; go_simp; first | done | rfl)); simp only [Act.put, List.setIfInBounds_toArray, List.set_cons_zero, List.set_cons_succ]) | (refine canon_stu ho8 rfl (by assumption) rfl rfl ?_; simp only [Act.put, List.setIfInBounds_toArray, List.set_cons_zero, List.set_cons_succ]) | (refine canon_stx ho8 rfl (by assumption) rfl rfl ?_; simp only [Act.put, List.setIfInBounds_toArray, List.set_cons_zero, List.set_cons_succ]) | (refine canon_stw (v := ?_) ho8 rfl (by assumption) rfl rfl ?_ ?_; rotate_left 1; (intro w2 hS; first | (go_simp; first | done | rfl) | rfl | (obtain ⟨hc, hf, hk', hz⟩ := ecell hS; go_simp; first | done | rfl)); simp only [Act.put, List.setIfInBounds_toArray, List.set_cons_zero, List.set_cons_succ])
          all_goals first | (apply canon_st ho9 rfl; (intro w2 hS; first | (go_simp; first | done | rfl) | rfl | (obtain ⟨hc, hf, hk', hz⟩ := ecell hS; go_simp; first | done | rfl)); simp only [Act.put, List.setIfInBounds_toArray, List.set_cons_zero, List.set_cons_succ]) | (refine canon_stu ho9 rfl (by assumption) rfl rfl ?_; simp only [Act.put, List.setIfInBounds_toArray, List.set_cons_zero, List.set_cons_succ]) | (refine canon_stx ho9 rfl (by assumption) rfl rfl ?_; simp only [Act.put, List.setIfInBounds_toArray, List.set_cons_zero, List.set_cons_succ]) | (refine canon_stw (v := ?_) ho9 rfl (by assumption) rfl rfl ?_ ?_; rotate_left 1; (intro w2 hS; first | (go_simp; first | done | rfl) | rfl | (obtain ⟨hc, hf, hk', hz⟩ := ecell hS; go_simp; first | done | rfl)); simp only [Act.put, List.setIfInBounds_toArray, List.set_cons_zero, List.set_cons_succ])
          all_goals first | (apply canon_st ho10 rfl; (intro w2 hS; first | (go_simp; first | done | rfl) | rfl | (obtain ⟨hc, hf, hk', hz⟩ := ecell hS; go_simp; first | done | rfl)); simp only [Act.put, List.setIfInBounds_toArray, List.set_cons_zero, List.set_cons_succ]) | (refine canon_stu ho10 rfl (by assumption) rfl rfl ?_; simp only [Act.put, List.setIfInBounds_toArray, List.set_cons_zero, List.set_cons_succ]) | (refine canon_stx ho10 rfl (by assumption) rfl rfl ?_; simp only [Act.put, List.setIfInBounds_toArray, List.set_cons_zero, List.set_cons_succ]) | (refine canon_stw (v := ?_) ho10 rfl (by assumption) rfl rfl ?_ ?_; rotate_left 1; (intro w2 hS; first | (go_simp; first | done | rfl) | rfl | (obtain ⟨hc, hf, hk', hz⟩ := ecell hS; go_simp; first | done | rfl)); simp only [Act.put, List.setIfInBounds_toArray, List.set_cons_zero, List.set_cons_succ])
          all_goals first | (apply canon_st ho11 rfl; (intro w2 hS; first | (go_simp; first | done | rfl) | rfl | (obtain ⟨hc, hf, hk', hz⟩ := ecell hS; go_simp; first | done | rfl)); simp only [Act.put, List.setIfInBounds_toArray, List.set_cons_zero, List.set_cons_succ]) | (refine canon_stu ho11 rfl (by assumption) rfl rfl ?_; simp only [Act.put, List.setIfInBounds_toArray, List.set_cons_zero, List.set_cons_succ]) | (refine canon_stx ho11 rfl (by assumption) rfl rfl ?_; simp only [Act.put, List.setIfInBounds_toArray, List.set_cons_zero, List.set_cons_succ]) | (refine canon_stw (v := ?_) ho11 rfl (by assumption) rfl rfl ?_ ?_; rotate_left 1; (intro w2 hS; first | (go_simp; first | done | rfl) | rfl | (obtain ⟨hc, hf, hk', hz⟩ := ecell hS; go_simp; first | done | rfl)); simp only [Act.put, List.setIfInBounds_toArray, List.set_cons_zero, List.set_cons_succ])
          all_goals first | (apply canon_st ho12 rfl; (intro w2 hS; first | (go_simp; first | done | rfl) | rfl | (obtain ⟨hc, hf, hk', hz⟩ := ecell hS; go_simp; first | done | rfl)); simp only [Act.put, List.setIfInBounds_toArray, List.set_cons_zero, List.set_cons_succ]) | (refine canon_stu ho12 rfl (by assumption) rfl rfl ?_; simp only [Act.put, List.setIfInBounds_toArray, List.set_cons_zero, List.set_cons_succ]) | (refine canon_stx ho12 rfl (by assumption) rfl rfl ?_; simp only [Act.put, List.setIfInBounds_toArray, List.set_cons_zero, List.set_cons_succ]) | (refine canon_stw (v := ?_) ho12 rfl (by assumption) rfl rfl ?_ ?_; rotate_left 1; (intro w2 hS; first | (go_simp; first | done | rfl) | rfl | (obtain ⟨hc, hf, hk', hz⟩ := ecell hS; go_simp; first | done | rfl)); simp only [Act.put, List.setIfInBounds_toArray, List.set_cons_zero, List.set_cons_succ])
          all_goals first | (apply canon_st ho13 rfl; (intro w2 hS; first | (go_simp; first | done | rfl) | rfl | (obtain ⟨hc, hf, hk', hz⟩ := ecell hS; go_simp; first | done | rfl)); simp only [Act.put, List.setIfInBounds_toArray, List.set_cons_zero, List.set_cons_succ]) | (refine canon_stu ho13 rfl (by assumption) rfl rfl ?_; simp only [Act.put, List.setIfInBounds_toArray, List.set_cons_zero, List.set_cons_succ]) | (refine canon_stx ho13 rfl (by assumption) rfl rfl ?_; simp only [Act.put, List.setIfInBounds_toArray, List.set_cons_zero, List.set_cons_succ]) | (refine canon_stw (v := ?_) ho13 rfl (by assumption) rfl rfl ?_ ?_; rotate_left 1; (intro w2 hS; first | (go_simp; first | done | rfl) | rfl | (obtain ⟨hc, hf, hk', hz⟩ := ecell hS; go_simp; first | done | rfl)); simp only [Act.put, List.setIfInBounds_toArray, List.set_cons_zero, List.set_cons_succ])
          all_goals first | (apply canon_st ho14 rfl; (intro w2 hS; first | (go_simp; first | done | rfl) | rfl | (obtain ⟨hc, hf, hk', hz⟩ := ecell hS; go_simp; first | done | rfl)); simp only [Act.put, List.setIfInBounds_toArray, List.set_cons_zero, List.set_cons_succ]) | (refine canon_stu ho14 rfl (by assumption) rfl rfl ?_; simp only [Act.put, List.setIfInBounds_toArray, List.set_cons_zero, List.set_cons_succ]) | (refine canon_stx ho14 rfl (by assumption) rfl rfl ?_; simp only [Act.put, List.setIfInBounds_toArray, List.set_cons_zero, List.set_cons_succ]) | (refine canon_stw (v := ?_) ho14 rfl (by assumption) rfl rfl ?_ ?_; rotate_left 1; (intro w2 hS; first | (go_simp; first | done | rfl) | rfl | (obtain ⟨hc, hf, hk', hz⟩ := ecell hS; go_simp; first | done | rfl)); simp only [Act.put, List.setIfInBounds_toArray, List.set_cons_zero, List.set_cons_succ])
          all_goals first | (apply canon_st ho15 rfl; (intro w2 hS; first | (go_simp; first | done | rfl) | rfl | (obtain ⟨hc, hf, hk', hz⟩ := ecell hS; go_simp; first | done | rfl)); simp only [Act.put, List.setIfInBounds_toArray, List.set_cons_zero, List.set_cons_succ]) | (refine canon_stu ho15 rfl (by assumption) rfl rfl ?_; simp only [Act.put, List.setIfInBounds_toArray, List.set_cons_zero, List.set_cons_succ]) | (refine canon_stx ho15 rfl (by assumption) rfl rfl ?_; simp only [Act.put, List.setIfInBounds_toArray, List.set_cons_zero, List.set_cons_succ]) | (refine canon_stw (v := ?_) ho15 rfl (by assumption) rfl rfl ?_ ?_; rotate_left 1; (intro w2 hS; first | (go_simp; first | done | rfl) | rfl | (obtain ⟨hc, hf, hk', hz⟩ := ecell hS; go_simp; first | done | rfl)); simp only [Act.put, List.setIfInBounds_toArray, List.set_cons_zero, List.set_cons_succ])
          all_goals first | (apply canon_st ho16 rfl; (intro w2 hS; first | (go_simp; first | done | rfl) | rfl | (obtain ⟨hc, hf, hk', hz⟩ := ecell hS; go_simp; first | done | rfl)); simp only [Act.put, List.setIfInBounds_toArray, List.set_cons_zero, List.set_cons_succ]) | (refine canon_stu ho16 rfl (by assumption) rfl rfl ?_; simp only [Act.put, List.setIfInBounds_toArray, List.set_cons_zero, List.set_cons_succ]) | (refine canon_stx ho16 rfl (by assumption) rfl rfl ?_; simp only [Act.put, List.setIfInBounds_toArray, List.set_cons_zero, List.set_cons_succ]) | (refine canon_stw (v := ?_) ho16 rfl (by assumption) rfl rfl ?_ ?_; rotate_left 1; (intro w2 hS; first | (go_simp; first | done | rfl) | rfl | (obtain ⟨hc, hf, hk', hz⟩ := ecell hS; go_simp; first | done | rfl)); simp only [Act.put, List.setIfInBounds_toArray, List.set_cons_zero, List.set_cons_succ])
          all_goals first | (apply canon_st ho17 rfl; (intro w2 hS; first | (go_simp; first | done | rfl) | rfl | (obtain ⟨hc, hf, hk', hz⟩ := ecell hS; go_simp; first | done | rfl)); simp only [Act.put, List.setIfInBounds_toArray, List.set_cons_zero, List.set_cons_succ]) | (refine canon_stu ho17 rfl (by assumption) rfl rfl ?_; simp only [Act.put, List.setIfInBounds_toArray, List.set_cons_zero, List.set_cons_succ]) | (refine canon_stx ho17 rfl (by assumption) rfl rfl ?_; simp only [Act.put, List.setIfInBounds_toArray, List.set_cons_zero, List.set_cons_succ]) | (refine canon_stw (v := ?_) ho17 rfl (by assumption) rfl rfl ?_ ?_; rotate_left 1; (intro w2 hS; first | (go_simp; first | done | rfl) | rfl | (obtain ⟨hc, hf, hk', hz⟩ := ecell hS; go_simp; first | done | rfl)); simp only [Act.put, List.setIfInBounds_toArray, List.set_cons_zero, List.set_cons_succ])
          all_goals first | (apply canon_st ho18 rfl; (intro w2 hS; first | (go_simp; first | done | rfl) | rfl | (obtain ⟨hc, hf, hk', hz⟩ := ecell hS; go_simp; first | done | rfl)); simp only [Act.put, List.setIfInBounds_toArray, List.set_cons_zero, List.set_cons_succ]) | (refine canon_stu ho18 rfl (by assumption) rfl rfl ?_; simp only [Act.put, List.setIfInBounds_toArray, List.set_cons_zero, List.set_cons_succ]) | (refine canon_stx ho18 rfl (by assumption) rfl rfl ?_; simp only [Act.put, List.setIfInBounds_toArray, List.set_cons_zero, List.set_cons_succ]) | (refine canon_stw (v := ?_) ho18 rfl (by assumption) rfl rfl ?_ ?_; rotate_left 1; (intro w2 hS; first | (go_simp; first | done | rfl) | rfl | (obtain ⟨hc, hf, hk', hz⟩ := ecell hS; go_simp; first | done | rfl)); simp only [Act.put, List.setIfInBounds_toArray, List.set_cons_zero, List.set_cons_succ])
          all_goals first | (apply canon_st ho19 rfl; (intro w2 hS; first | (go_simp; first | done | rfl) | rfl | (obtain ⟨hc, hf, hk', hz⟩ := ecell hS; go_simp; first | done | rfl)); simp only [Act.put, List.setIfInBounds_toArray, List.set_cons_zero, List.set_cons_succ]) | (refine canon_stu ho19 rfl (by assumption) rfl rfl ?_; simp only [Act.put, List.setIfInBounds_toArray, List.set_cons_zero, List.set_cons_succ]) | (refine canon_stx ho19 rfl (by assumption) rfl rfl ?_; simp only [Act.put, List.setIfInBounds_toArray, List.set_cons_zero, List.set_cons_succ]) | (refine canon_stw (v := ?_) ho19 rfl (by assumption) rfl rfl ?_ ?_; rotate_left 1; (intro w2 hS; first | (go_simp; first | done | rfl) | rfl | (obtain ⟨hc, hf, hk', hz⟩ := ecell hS; go_simp; first | done | rfl)); simp only [Act.put, List.setIfInBounds_toArray, List.set_cons_zero, List.set_cons_succ])
          all_goals first | (apply canon_st ho20 rfl; (intro w2 hS; first | (go_simp; first | done | rfl) | rfl | (obtain ⟨hc, hf, hk', hz⟩ := ecell hS; go_simp; first | done | rfl)); simp only [Act.put, List.setIfInBounds_toArray, List.set_cons_zero, List.set_cons_succ]) | (refine canon_stu ho20 rfl (by assumption) rfl rfl ?_; simp only [Act.put, List.setIfInBounds_toArray, List.set_cons_zero, List.set_cons_succ]) | (refine canon_stx ho20 rfl (by assumption) rfl rfl ?_; simp only [Act.put, List.setIfInBounds_toArray, List.set_cons_zero, List.set_cons_succ]) | (refine canon_stw (v := ?_) ho20 rfl (by assumption) rfl rfl ?_ ?_; rotate_left 1; (intro w2 hS; first | (go_simp; first | done | rfl) | rfl | (obtain ⟨hc, hf, hk', hz⟩ := ecell hS; go_simp; first | done | rfl)); simp only [Act.put, List.setIfInBounds_toArray, List.set_cons_zero, List.set_cons_succ])
          all_goals first | (apply canon_st ho21 rfl; (intro w2 hS; first | (go_simp; first | done | rfl) | rfl | (obtain ⟨hc, hf, hk', hz⟩ := ecell hS; go_simp; first | done | rfl)); simp only [Act.put, List.setIfInBounds_toArray, List.set_cons_zero, List.set_cons_succ]) | (refine canon_stu ho21 rfl (by assumption) rfl rfl ?_; simp only [Act.put, List.setIfInBounds_toArray, List.set_cons_zero, List.set_cons_succ]) | (refine canon_stx ho21 rfl (by assumption) rfl rfl ?_; simp only [Act.put, List.setIfInBounds_toArray, List.set_cons_zero, List.set_cons_succ]) | (refine canon_stw (v := ?_) ho21 rfl (by assumption) rfl rfl ?_ ?_; rotate_left 1; (intro w2 hS; first | (go_simp; first | done | rfl) | rfl | (obtain ⟨hc, hf, hk', hz⟩ := ecell hS; go_simp; first | done | rfl)); simp only [Act.put, List.setIfInBounds_toArray, List.set_cons_zero, List.set_cons_succ])
          all_goals first | (apply canon_st ho22 rfl; (intro w2 hS; first | (go_simp; first | done | rfl) | rfl | (obtain ⟨hc, hf, hk', hz⟩ := ecell hS; go_simp; first | done | rfl)); simp only [Act.put, List.setIfInBounds_toArray, List.set_cons_zero, List.set_cons_succ]) | (refine canon_stu ho22 rfl (by assumption) rfl rfl ?_; simp only [Act.put, List.setIfInBounds_toArray, List.set_cons_zero, List.set_cons_succ]) | (refine canon_stx ho22 rfl (by assumption) rfl rfl ?_; simp only [Act.put, List.setIfInBounds_toArray, List.set_cons_zero, List.set_cons_succ]) | (refine canon_stw (v := ?_) ho22 rfl (by assumption) rfl rfl ?_ ?_; rotate_left 1; (intro w2 hS; first | (go_simp; first | done | rfl) | rfl | (obtain ⟨hc, hf, hk', hz⟩ := ecell hS; go_simp; first | done | rfl)); simp only [Act.put, List.setIfInBounds_toArray, List.set_cons_zero, List.set_cons_succ])
          all_goals first | (apply canon_st ho23 rfl; (intro w2 hS; first | (go_simp; first | done | rfl) | rfl | (obtain ⟨hc, hf, hk', hz⟩ := ecell hS; go_simp; first | done | rfl)); simp only [Act.put, List.setIfInBounds_toArray, List.set_cons_zero, List.set_cons_succ]) | (refine canon_stu ho23 rfl (by assumption) rfl rfl ?_; simp only [Act.put, List.setIfInBounds_toArray, List.set_cons_zero, List.set_cons_succ]) | (refine canon_stx ho23 rfl (by assumption) rfl rfl ?_; simp only [Act.put, List.setIfInBounds_toArray, List.set_cons_zero, List.set_cons_succ]) | (refine canon_stw (v := ?_) ho23 rfl (by assumption) rfl rfl ?_ ?_; rotate_left 1; (intro w2 hS; first | (go_simp; first | done | rfl) | rfl | (obtain ⟨hc, hf, hk', hz⟩ := ecell hS; go_simp; first | done | rfl)); simp only [Act.put, List.setIfInBounds_toArray, List.set_cons_zero, List.set_cons_succ])
          all_goals first | (apply canon_st ho24 rfl; (intro w2 hS; first | (go_simp; first | done | rfl) | rfl | (obtain ⟨hc, hf, hk', hz⟩ := ecell hS; go_simp; first | done | rfl)); simp only [Act.put, List.setIfInBounds_toArray, List.set_cons_zero, List.set_cons_succ]) | (refine canon_stu ho24 rfl (by assumption) rfl rfl ?_; simp only [Act.put, List.setIfInBounds_toArray, List.set_cons_zero, List.set_cons_succ]) | (refine canon_stx ho24 rfl (by assumption) rfl rfl ?_; simp only [Act.put, List.setIfInBounds_toArray, List.set_cons_zero, List.set_cons_succ]) | (refine canon_stw (v := ?_) ho24 rfl (by assumption) rfl rfl ?_ ?_; rotate_left 1; (intro w2 hS; first | (go_simp; first | done | rfl) | rfl | (obtain ⟨hc, hf, hk', hz⟩ := ecell hS; go_simp; first | done | rfl)); simp only [Act.put, List.setIfInBounds_toArray, List.set_cons_zero, List.set_cons_succ])
          all_goals first | (apply canon_st ho25 rfl; (intro w2 hS; first | (go_simp; first | done | rfl) | rfl | (obtain ⟨hc, hf, hk', hz⟩ := ecell hS; go_simp; first | done | rfl)); simp only [Act.put, List.setIfInBounds_toArray, List.set_cons_zero, List.set_cons_succ]) | (refine canon_stu ho25 rfl (by assumption) rfl rfl ?_; simp only [Act.put, List.setIfInBounds_toArray, List.set_cons_zero, List.set_cons_succ]) | (refine canon_stx ho25 rfl (by assumption) rfl rfl ?_; simp only [Act.put, List.setIfInBounds_toArray, List.set_cons_zero, List.set_cons_succ]) | (refine canon_stw (v := ?_) ho25 rfl (by assumption) rfl rfl ?_ ?_; rotate_left 1; (intro w2 hS; first | (go_simp; first | done | rfl) | rfl | (obtain ⟨hc, hf, hk', hz⟩ := ecell hS; go_simp; first | done | rfl)); simp only [Act.put, List.setIfInBounds_toArray, List.set_cons_zero, List.set_cons_succ])
          all_goals first | (apply canon_st ho26 rfl; (intro w2 hS; first | (go_simp; first | done | rfl) | rfl | (obtain ⟨hc, hf, hk', hz⟩ := ecell hS; go_simp; first | done | rfl)); simp only [Act.put, List.setIfInBounds_toArray, List.set_cons_zero, List.set_cons_succ]) | (refine canon_stu ho26 rfl (by assumption) rfl rfl ?_; simp only [Act.put, List.setIfInBounds_toArray, List.set_cons_zero, List.set_cons_succ]) | (refine canon_stx ho26 rfl (by assumption) rfl rfl ?_; simp only [Act.put, List.setIfInBounds_toArray, List.set_cons_zero, List.set_cons_succ]) | (refine canon_stw (v := ?_) ho26 rfl (by assumption) rfl rfl ?_ ?_; rotate_left 1; (intro w2 hS; first | (go_simp; first | done | rfl) | rfl | (obtain ⟨hc, hf, hk', hz⟩ := ecell hS; go_simp; first | done | rfl)); simp only [Act.put, List.setIfInBounds_toArray, List.set_cons_zero, List.set_cons_succ])
          all_goals clear ho0 ho1 ho2 ho3 ho4 ho5 ho6 ho7 ho8 ho9 ho10 ho11 ho12 ho13 ho14 ho15 ho16 ho17 ho18 ho19 ho20 ho21 ho22 ho23 ho24 ho25 ho26
          all_goals refine canon_done (NoPanic.normal ?_)
          go_wp2_with fail
          go_roundw
          case rel => exact ⟨j + 1, hlt, by go_num, by rw [hZ1.out, hst.out]; (first | rfl | go_num), hext.trans (by repeat (first | exact Ext.refl _ | assumption | refine Ext.drew ?_ | refine Ext.drewN ?_ _ | refine Ext.iter ?_ _ _ | refine Ext.alloc ?_ _ | refine Ext.setCell ?_ (by first | exact Nat.le_refl _ | (simp <;> omega)) _ | refine Ext.trans2 (by assumption) ?_))⟩
          case measure => simp [intOf]; omega
      · obtain rfl : j = xs.length := by omega
        have hG3 := hG.ext hext
        have r2 := hG3.cell (i := 2) (v := .slice pf xs.length kf) rfl
        have rl := hG3.lt
        go_wp2_with fail
        go_ret2
        exact ⟨rfl, hx0.trans hext⟩
  · have hV : feV r c xs = (0, 1) := by unfold feV; rw [if_pos h1]
    rw [hV]
    replace h1 := Lib.hid h1
    clear hV
    go_enter Try.func17, Try.ntmps17
    go_wp2_with (go_at_call 33; (with_reducible refine (hmt.out _ (HX.out.ext hx0)).mono ?_); rintro e w1 ⟨⟨hP, rfl⟩ | ⟨hP, rfl⟩, hx1⟩ <;> (first | exact absurd hP h1.out | skip))
    go_ret2
    exact ⟨rfl, hx0.trans hx1⟩
end Go.Proofs.Ythjklchmjeojjaa

/-! Drawn square grids. -/
namespace Go.Proofs.Ythjklchmjeojjaa
set_option linter.unusedVariables false
set_option linter.unusedSimpArgs false
open Go.RowKit

/-- A drawn grid of up to 2000 cells; only the source has turned. -/
def GrQ (n0 g : Nat) (w : World) (e : Ending) (w' : World) : Prop := ∃ (r c : Int) (p : Option Addr) (k : Nat) (xs : List Int), e = .returned (vGrid r c p xs.length k) ∧ xs.length ≤ 2000 ∧ xs.length ≤ k ∧ OwnInts w.heap.size w' p xs ∧ Src n0 w' g ∧ But g w w'
theorem grq_far {n0 g : Nat} {w w' : World} {r c : Int} {p : Option Addr} {k : Nat} {xs : List Int} (hl : xs.length ≤ 2000) (hk : xs.length ≤ k) (h : OwnInts (w.heap.size + 1) w' p xs) (hs : Src n0 w' g) (hn0 : n0 ≤ w.heap.size) (hb : But g w w') :
    GrQ n0 g w (.returned (vGrid r c p xs.length k)) (((w'.setCell ⟨w.heap.size, 0, none⟩ (.int .i64 r)).setCell ⟨w.heap.size, 1, none⟩ (.int .i64 c)).setCell ⟨w.heap.size, 2, none⟩ (.slice p xs.length k)) :=
  ⟨r, c, p, k, xs, rfl, hl, hk, (((h.setFar (Nat.lt_succ_self _)).setFar (Nat.lt_succ_self _)).setFar (Nat.lt_succ_self _)).mono (Nat.le_succ _), ((hs.set hn0).set hn0).set hn0, ((hb.setOld (Nat.le_refl _)).setOld (Nat.le_refl _)).setOld (Nat.le_refl _)⟩
theorem sizesA (j : Nat) (hj : j < 4) : ∃ n : Nat, (#[.int .i64 17, .int .i64 21, .int .i64 25, .int .i64 17] : Array Value)[j]? = some (.int .i64 n) ∧ 17 ≤ n ∧ n ≤ 25 := by
  match j, hj with
  | 0, _ => exact ⟨17, rfl, by omega⟩
  | 1, _ => exact ⟨21, rfl, by omega⟩
  | 2, _ => exact ⟨25, rfl, by omega⟩
  | 3, _ => exact ⟨17, rfl, by omega⟩
set_option maxHeartbeats 1600000 in
set_option maxRecDepth 100000 in
theorem l14DrawSquare_c (n0 g : Nat) (w : World) (h : Src n0 w g) (hn0 : n0 ≤ w.heap.size) :
    Calls Try.prog 27 #[.pointer (some ⟨g, 0, none⟩)] w fun e w' => GrQ n0 g w e w' := by
  have hg : g < n0 := h.1
  have HS := Lib.hid h; clear h
  have hb := (Blk.new w #[.int .i64 0, .int .i64 0, .slice none 0 0] 26).alloc (.cells #[.int .i64 17, .int .i64 21, .int .i64 25, .int .i64 17] 2)
  have hz := Blk.new (w.alloc (.cells #[.int .i64 0, .int .i64 0, .slice none 0 0] 26)) #[.int .i64 17, .int .i64 21, .int .i64 25, .int .i64 17] 2
  have hr0 : But g w ((w.alloc (.cells #[.int .i64 0, .int .i64 0, .slice none 0 0] 26)).alloc (.cells #[.int .i64 17, .int .i64 21, .int .i64 25, .int .i64 17] 2)) := But.of (((Ext.refl w).alloc _).alloc _)
  simp only [World.size_alloc] at hz
  go_enter Try.func27, Try.ntmps27
  go_wp2_with fail
  refine (Next_c n0 g 4 _ (HS.out.ext (by repeat (first | exact Ext.refl _ | assumption | refine Ext.drew ?_ | refine Ext.drewN ?_ _ | refine Ext.iter ?_ _ _ | refine Ext.alloc ?_ _ | refine Ext.setCell ?_ (by first | exact Nat.le_refl _ | (simp <;> omega)) _ | refine Ext.trans2 (by assumption) ?_))) (by omega)).mono ?_
  rintro e w1 ⟨a, rfl, ha0, ha1, -, hs1, hb1⟩
  replace ha1 := ha1 (by omega)
  have hz1 := hb1.size
  simp only [World.size_alloc] at hz1
  have hbr1 := hb.but hb1 (by omega)
  have hzr1 := hz.but hb1 (by omega)
  have hr1 := hr0.trans hb1
  obtain ⟨an, rfl⟩ : ∃ an : Nat, a = an := ⟨a.toNat, by omega⟩
  obtain ⟨n, hn, hn1, hn2⟩ := sizesA an (by omega)
  have q0 := hzr1.cell hn
  have ql := hzr1.lt
  clear hb hz hr0 hb1 HS ha0
  go_wp2_with fail
  clear hzr1 q0 ql hn
  refine (sGrid_c n w1 (by omega)).mono ?_
  rintro e w2 ⟨⟨pa, ka, rfl, oqa, -⟩, hx2⟩
  have hFl := fixL_len n
  have hz2 := hx2.below.size
  replace hs1 := hs1.ext hx2
  replace hbr1 := hbr1.ext hx2
  replace hr1 := hr1.trans (But.of hx2)
  go_wp2_with fail
  refine (Next_c n0 g 32 _ hs1 (by omega)).mono ?_
  rintro e w3 ⟨v, rfl, hv0, hv1, -, hs3, hb3⟩
  replace hv1 := hv1 (by omega)
  obtain ⟨vn, rfl⟩ : ∃ vn : Nat, v = vn := ⟨v.toNat, by omega⟩
  have hz3 := hb3.size
  replace oqa := oqa.but hb3 (by omega)
  replace hbr1 := hbr1.but hb3 (by omega)
  replace hr1 := hr1.trans hb3
  clear hs1 hb3 hx2
  go_wp2_with fail
  have hput := sPut_c n vn ka pa (fixL n) w3 (by omega) ⟨by omega, by omega⟩ oqa.ints hFl
  rw [hFl] at hput
  have hpl : (pFmt n (fmtW vn) (fixL n) 15).length = n * n := by rw [pFmt_len, hFl]
  refine hput.mono ?_
  clear hput
  rintro e w4 ⟨⟨pb, kb, rfl, oqb, -⟩, hx4⟩
  have hz4 := hx4.below.size
  rw [hpl]
  generalize pFmt n (fmtW vn) (fixL n) 15 = F at *
  clear oqa hFl hv0 hv1 ha1
  have hG := Blk.new w4 #[.int .i64 n, .int .i64 n, .slice pb (n * n) kb] 26
  have hs5 := (hs3.ext hx4).alloc (.cells #[.int .i64 n, .int .i64 n, .slice pb (n * n) kb] 26)
  have hbr5 := (hbr1.ext hx4).alloc (.cells #[.int .i64 n, .int .i64 n, .slice pb (n * n) kb] 26)
  have hr5 := (hr1.trans (But.of hx4)).alloc (.cells #[.int .i64 n, .int .i64 n, .slice pb (n * n) kb] 26)
  have oq5 := oqb.ints.ext ((Ext.refl w4).alloc (.cells #[.int .i64 n, .int .i64 n, .slice pb (n * n) kb] 26))
  have hz5 : (w4.alloc (.cells #[.int .i64 n, .int .i64 n, .slice pb (n * n) kb] 26)).heap.size = w4.heap.size + 1 := by simp
  clear hs3 hbr1 hr1 hx4 oqb
  go_wp2_with fail
  generalize w4.alloc (.cells #[.int .i64 n, .int .i64 n, .slice pb (n * n) kb] 26) = w5 at *
  have g2 := hG.cell (i := 2) (v := .slice pb (n * n) kb) rfl
  have gl := hG.lt
  have hM2 : n * n ≤ 625 := Nat.mul_le_mul hn2 hn2
  have hM1 : 0 < n * n := Nat.mul_pos (by omega) (by omega)
  have hMn : 16 * n ≤ n * n := Nat.mul_le_mul_right n (by omega)
  have hmul : (n : Int) * (n : Int) = ((n * n : Nat) : Int) := by simp
  generalize hM : n * n = M at *
  replace hM := Lib.hid hM
  have hown := sOwn_c pb kb F w5 oq5 (by omega)
  rw [hpl] at hown
  replace hown := Lib.hid hown
  go_wp2_with (go_at_call 56; go_loud ((with_reducible refine hown.out.mono ?_); rintro e w6 ⟨⟨vo, rfl, hrow⟩, hx6⟩; obtain ⟨q, kq, rfl, oq, hkq⟩ := hrow.ownC))
  rw [hpl] at hkq
  clear hown hrow
  replace hs5 := hs5.ext hx6
  replace hbr5 := hbr5.ext hx6
  replace hr5 := hr5.trans (But.of hx6)
  have hz6 := hx6.below.size
  obtain ⟨b, o, rfl, hbB, hbl, -⟩ := oq 0 (by omega)
  have hbw : w.heap.size + 1 ≤ b := by omega
  have oq6 : OwnInts (w.heap.size + 1) w6 (some ⟨b, o, none⟩) F := oq.mono (by omega)
  have hg1 : g < w.heap.size + 1 := by omega
  have hn0b : n0 ≤ b := by omega
  have hbg : b ≠ g := by omega
  have hwb : w.heap.size ≠ b := by omega
  have hwg : w.heap.size ≠ g := by omega
  clear oq hbB hbl hx6 oq5 hz6 g2 gl hG hz5 hz4 hz3 hz2 hz1
  go_loopw [6] (fun i wr => ∃ (j : Nat) (ys : List Int), j ≤ M ∧ i = .int .i64 j ∧ ys.length = M ∧ OwnInts (w.heap.size + 1) wr (some ⟨b, o, none⟩) ys ∧ Blk wr w.heap.size #[.int .i64 0, .int .i64 0, .slice none 0 0] 26 ∧ Src n0 wr g ∧ But g w wr) (fun i _ => M - (intOf i).toNat)
  case atStart => exact ⟨0, F, Nat.zero_le _, rfl, hpl, oq6, hbr5, hs5, hr5⟩
  case round =>
    clear oq6 hbr5 hs5 hr5 hpl
    obtain ⟨j, ys, hj, rfl, hyl, hown, hbr, hsr, hbt⟩ := hrel
    by_cases hlt : j < M
    · obtain ⟨b1, o1, e1, -, hbl1, ya, yaf⟩ := hown j (by omega)
      simp only [Option.some.injEq, Addr.mk.injEq, and_true] at e1
      obtain ⟨rfl, rfl⟩ := e1
      obtain ⟨y0, hy0⟩ : ∃ y0, ys.getD j 0 = y0 := ⟨_, rfl⟩
      rw [hy0] at ya
      replace hy0 := Lib.hid hy0
      by_cases hneg : y0 < 0
      · go_wp2_with (go_at_call 28; (with_reducible refine (Next_c n0 g 2 _ hsr (by omega)).mono ?_); rintro e wa ⟨y, rfl, -, -, -, hsa, hba⟩; obtain ⟨bc, bf, bk, -⟩ := bucell hba; have hbl2 := bk _ hbl1; have ya2 := (bc b (o + j) hbl1 hbg).trans ya; have howna := hown.but hba hg1; have yaf2 := (howna j (by omega)); obtain ⟨b2, o2, e2, -, -, -, yaf2⟩ := yaf2; simp only [Option.some.injEq, Addr.mk.injEq, and_true] at e2; obtain ⟨rfl, rfl⟩ := e2; have hbra := hbr.but hba hwg; have hbta := hbt.trans hba)
        have hset := howna.set (k := j) rfl (by omega) y
        go_roundw
        case rel => exact ⟨j + 1, ys.set j y, hlt, by go_num, by rw [List.length_set]; exact hyl, hset, hbra.far (g' := b) (i := o + j) (by omega) (.int .i64 y), hsa.set hn0b, hbta.setOld (by omega)⟩
        case measure => simp [intOf]; omega
      · go_wp2_with fail
        go_roundw
        case rel => exact ⟨j + 1, ys, hlt, by go_num, hyl, hown, hbr, hsr, hbt⟩
        case measure => simp [intOf]; omega
    · obtain rfl : j = M := by omega
      clear hlt hj
      go_wp2_with fail
      refine (Next_c n0 g 20 _ hsr (by omega)).mono ?_
      rintro e w7 ⟨z, rfl, hz0, hz9, -, hs7, hb7⟩
      replace hz9 := hz9 (by omega)
      have oq7 := hown.but hb7 hg1
      have hbr7 := hbr.but hb7 hwg
      have hr7 := hbt.trans hb7
      clear hown hbr hsr hbt hb7
      obtain ⟨zn, rfl⟩ : ∃ zn : Nat, z = zn := ⟨z.toNat, by omega⟩
      clear hz0
      have hzn : zn < 20 := by omega
      go_wp2_with fail
      obtain ⟨M, rfl⟩ : ∃ M, M = j := ⟨j, rfl⟩
      go_loopw [7] (fun i wr => ∃ (m : Nat) (ys : List Int), i = .int .i64 m ∧ ys.length = M ∧ OwnInts (w.heap.size + 1) wr (some ⟨b, o, none⟩) ys ∧ Blk wr w.heap.size #[.int .i64 0, .int .i64 0, .slice none 0 0] 26 ∧ Src n0 wr g ∧ But g w wr ∧ m ≤ zn) (fun i _ => (intOf i).toNat)
      case atStart => exact ⟨zn, ys, rfl, hyl, oq7, hbr7, hs7, hr7, Nat.le_refl _⟩
      case round =>
        clear oq7 hbr7 hs7 hr7 hyl
        obtain ⟨m, zs, rfl, hyl, hown, hbr, hsr, hbt, hmz⟩ := hrel
        by_cases hm : 0 < m
        · have hmi : (0 : Int) < m := by omega
          have ew1 := IntWalk.i64_in (M : Int) (by omega)
          have ew2 := IntWalk.i64_in ((8 : Int) * n) (by omega)
          go_wp2_with fail
          refine (Next_c n0 g M _ hsr (by omega)).mono ?_
          rintro e w8 ⟨at1, rfl, ha0, ha1, -, hs8, hb8⟩
          replace ha1 := ha1 (by omega)
          go_wp2_with fail
          refine (Next_c n0 g 2 _ hs8 (by omega)).mono ?_
          rintro e w9 ⟨z2, rfl, -, -, -, hs9, hb9⟩
          have hB9 := hb8.trans hb9
          by_cases hz2 : z2 = 0
          · have hz2b : (z2 == 0) = true := by simpa using hz2
            go_wp2_with fail
            refine (Next_c n0 g n _ hs9 (by omega)).mono ?_
            rintro e w10 ⟨c, rfl, hc0, hc1, -, hs10, hb10⟩
            replace hc1 := hc1 (by omega)
            have ew3 := IntWalk.i64_in ((8 : Int) * n + c) (by omega)
            obtain ⟨at2, hat⟩ : ∃ at2 : Nat, (8 : Int) * n + c = at2 := ⟨((8 : Int) * n + c).toNat, by omega⟩
            rw [hat] at ew3
            have hat2 : at2 < M := by omega
            go_wp2_with fail
            refine (Next_c n0 g 3 _ hs10 (by omega)).mono ?_
            rintro e w11 ⟨y, rfl, hy0, hy1, -, hs11, hb11⟩
            replace hy1 := hy1 (by omega)
            have ew4 := IntWalk.i64_in (y - 1) (by omega)
            have hB11 := (hB9.trans hb10).trans hb11
            have own11 := hown.but hB11 hg1
            obtain ⟨b1, o1, e1, -, hbl1, ya, yaf⟩ := own11 at2 (by omega)
            simp only [Option.some.injEq, Addr.mk.injEq, and_true] at e1
            obtain ⟨rfl, rfl⟩ := e1
            have hset := own11.set (k := at2) rfl (by omega) (y - 1)
            obtain ⟨y0, hy0⟩ : ∃ y0, zs.getD at2 0 = y0 := ⟨_, rfl⟩
            rw [hy0] at ya
            replace hy0 := Lib.hid hy0
            go_wp2_with fail
            go_roundw
            case rel => exact ⟨m - 1, zs.set at2 (y - 1), by go_num, by rw [List.length_set]; exact hyl, hset, (hbr.but hB11 hwg).far (g' := b) (i := o + at2) (by omega) (.int .i64 (y - 1)), hs11.set hn0b, (hbt.trans hB11).setOld (by omega), by omega⟩
            case measure => simp [intOf]; omega
          · have hz2b : (z2 == 0) = false := by simpa using hz2
            obtain ⟨at2, rfl⟩ : ∃ at2 : Nat, at1 = at2 := ⟨at1.toNat, by omega⟩
            go_wp2_with fail
            refine (Next_c n0 g 3 _ hs9 (by omega)).mono ?_
            rintro e w11 ⟨y, rfl, hy0, hy1, -, hs11, hb11⟩
            replace hy1 := hy1 (by omega)
            have ew4 := IntWalk.i64_in (y - 1) (by omega)
            have hB11 := (hB9).trans hb11
            have own11 := hown.but hB11 hg1
            obtain ⟨b1, o1, e1, -, hbl1, ya, yaf⟩ := own11 at2 (by omega)
            simp only [Option.some.injEq, Addr.mk.injEq, and_true] at e1
            obtain ⟨rfl, rfl⟩ := e1
            have hset := own11.set (k := at2) rfl (by omega) (y - 1)
            obtain ⟨y0, hy0⟩ : ∃ y0, zs.getD at2 0 = y0 := ⟨_, rfl⟩
            rw [hy0] at ya
            replace hy0 := Lib.hid hy0
            go_wp2_with fail
            go_roundw
            case rel => exact ⟨m - 1, zs.set at2 (y - 1), by go_num, by rw [List.length_set]; exact hyl, hset, (hbr.but hB11 hwg).far (g' := b) (i := o + at2) (by omega) (.int .i64 (y - 1)), hs11.set hn0b, (hbt.trans hB11).setOld (by omega), by omega⟩
            case measure => simp [intOf]; omega
        · obtain rfl : m = 0 := by omega
          go_wp2_with fail
          refine (Next_c n0 g 30 _ hsr (by omega)).mono ?_
          rintro e w8 ⟨z3, rfl, -, -, -, hs8, hb8⟩
          have oq8 := hown.but hb8 hg1
          have hbr8 := hbr.but hb8 hwg
          have hr8 := hbt.trans hb8
          have hz8 := hr8.size
          clear hown hbr hsr hbt hb8
          by_cases h3 : z3 = 0
          · have h3b : (z3 == 0) = true := by simpa using h3
            have hlg := Lib.hid (l14DrawGrid_c n0 g w8 hs8 (by omega))
            go_wp2_with (go_at_call 57; (with_reducible refine hlg.out.mono ?_); rintro e w9 ⟨r, c, p, k, xs, rfl, hl, hk, oq, hs9, hb9⟩; have hbr9 := hbr8.but hb9 hwg; have r0 := hbr9.cell (i := 0) (v := .int .i64 0) rfl; have r1 := hbr9.cell (i := 1) (v := .int .i64 0) rfl; have r2 := hbr9.cell (i := 2) (v := .slice none 0 0) rfl; have rl := hbr9.lt; have rf := hbr9.free)
            have hwl8 := hbr8.lt
            have hfin := grq_far (r := r) (c := c) (by omega) hk (oq.mono (by omega)) hs9 hn0 (hr8.trans hb9)
            have hF := ((hbr9.set 0 (.int .i64 r)).set 1 (.int .i64 c)).set 2 (.slice p xs.length k)
            have c0 := hF.cell (i := 0) (v := .int .i64 r) rfl; have c1 := hF.cell (i := 1) (v := .int .i64 c) rfl; have c2 := hF.cell (i := 2) (v := .slice p xs.length k) rfl
            exact bodyPost_ret (v := vGrid r c p xs.length k) (by simp [results, Try.results27, go_sem, c0, c1, c2]) rfl hfin
          · have h3b : (z3 == 0) = false := by simpa using h3
            have hfin := grq_far (r := n) (c := n) (k := kq) (by omega) (by omega) oq8 hs8 hn0 hr8
            rw [hyl] at hfin
            have r0 := hbr8.cell (i := 0) (v := .int .i64 0) rfl; have r1 := hbr8.cell (i := 1) (v := .int .i64 0) rfl; have r2 := hbr8.cell (i := 2) (v := .slice none 0 0) rfl; have rl := hbr8.lt; have rf := hbr8.free
            have hF := ((hbr8.set 0 (.int .i64 n)).set 1 (.int .i64 n)).set 2 (.slice (some ⟨b, o, none⟩) M kq)
            have c0 := hF.cell (i := 0) (v := .int .i64 n) rfl; have c1 := hF.cell (i := 1) (v := .int .i64 n) rfl; have c2 := hF.cell (i := 2) (v := .slice (some ⟨b, o, none⟩) M kq) rfl
            go_wp2_with fail
            exact bodyPost_ret (v := vGrid n n (some ⟨b, o, none⟩) M kq) (by simp [results, Try.results27, go_sem, c0, c1, c2]) rfl hfin
/-- A drawn grid and nothing old turned. -/
def GrE (w : World) (e : Ending) (w' : World) : Prop := ∃ (r c : Int) (p : Option Addr) (k : Nat) (xs : List Int), e = .returned (vGrid r c p xs.length k) ∧ xs.length ≤ 2000 ∧ xs.length ≤ k ∧ OwnInts w.heap.size w' p xs ∧ Ext w w'
/-- A drawn grid and a drawn number, nothing old turned. -/
def GrvE (w : World) (e : Ending) (w' : World) : Prop := ∃ (r c : Int) (p : Option Addr) (k : Nat) (xs : List Int) (v : Int), e = .returned (.tuple #[vGrid r c p xs.length k, .int .i64 v]) ∧ xs.length ≤ 2000 ∧ xs.length ≤ k ∧ OwnInts w.heap.size w' p xs ∧ Ext w w'
set_option maxRecDepth 100000 in
theorem DrawFixedErrors_c (p : Option Addr) (c : Nat) (code : List Int) (w : World) (hx : U8At w p code) (hl : code.length ≤ 4096) :
    Calls Try.prog 15 #[.slice p code.length c] w fun e w' => GrE w e w' := by
  have HX := Lib.hid hx; clear hx
  have hb := Blk.new w #[.int .i64 0, .int .i64 0, .slice none 0 0] 26
  go_enter Try.func15, Try.ntmps15
  go_wp2_with (go_at_call 26; (with_reducible refine (From_c p c code _ (HX.out.ext (by repeat (first | exact Ext.refl _ | assumption | refine Ext.drew ?_ | refine Ext.drewN ?_ _ | refine Ext.iter ?_ _ _ | refine Ext.alloc ?_ _ | refine Ext.setCell ?_ (by first | exact Nat.le_refl _ | (simp <;> omega)) _ | refine Ext.trans2 (by assumption) ?_))) hl).mono ?_); rintro e w1 ⟨⟨g, rfl, hg, hs1⟩, hW1⟩; replace hg := Lib.hid hg)
  replace hg := hg.out
  have hn1 : g < w1.heap.size := hs1.lt
  rw [← hg] at hs1
  simp only [World.size_alloc] at hg
  have hgw : w.heap.size < g := by omega
  have hb1 := hb.ext hW1
  have hE1 : Ext w w1 := ((Ext.refl w).alloc _).trans hW1
  clear hb hW1 hg HX
  refine (l14DrawSquare_c (g + 1) g _ hs1 (by omega)).mono ?_
  rintro e w2 ⟨r, c, a, k, xs, rfl, hlx, hkx, ho2, hs2, hb2⟩
  have hz2 := hb2.size
  have hbr2 := hb1.but hb2 (by omega)
  have hE2 := hE1.but hb2 (by omega)
  have r0 := hbr2.cell (i := 0) (v := .int .i64 0) rfl; have r1 := hbr2.cell (i := 1) (v := .int .i64 0) rfl; have r2 := hbr2.cell (i := 2) (v := .slice none 0 0) rfl; have rl := hbr2.lt; have rf := hbr2.free
  have hF := ((hbr2.set 0 (.int .i64 r)).set 1 (.int .i64 c)).set 2 (.slice a xs.length k)
  have c0 := hF.cell (i := 0) (v := .int .i64 r) rfl; have c1 := hF.cell (i := 1) (v := .int .i64 c) rfl; have c2 := hF.cell (i := 2) (v := .slice a xs.length k) rfl
  have hfin : GrE w (.returned (vGrid r c a xs.length k)) (((w2.setCell ⟨w.heap.size, 0, none⟩ (.int .i64 r)).setCell ⟨w.heap.size, 1, none⟩ (.int .i64 c)).setCell ⟨w.heap.size, 2, none⟩ (.slice a xs.length k)) :=
    ⟨r, c, a, k, xs, rfl, hlx, hkx, (((ho2.setFar (by omega)).setFar (by omega)).setFar (by omega)).mono (by omega), ((hE2.setCell (p := ⟨w.heap.size, 0, none⟩) (Nat.le_refl _) _).setCell (p := ⟨w.heap.size, 1, none⟩) (Nat.le_refl _) _).setCell (p := ⟨w.heap.size, 2, none⟩) (Nat.le_refl _) _⟩
  clear hs1 hb2 hb1 hE1 hE2 ho2 hF
  go_wp2_with fail
  exact bodyPost_ret (v := vGrid r c a xs.length k) (by simp [results, Try.results15, go_sem, c0, c1, c2]) rfl hfin
set_option maxHeartbeats 800000 in
set_option maxRecDepth 100000 in
theorem DrawPutFormat_c (p : Option Addr) (c : Nat) (code : List Int) (w : World) (hx : U8At w p code) (hl : code.length ≤ 4096) :
    Calls Try.prog 7 #[.slice p code.length c] w fun e w' => GrvE w e w' := by
  have HX := Lib.hid hx; clear hx
  have hb := Blk.new w #[.int .i64 0, .int .i64 0, .slice none 0 0] 26
  go_enter Try.func7, Try.ntmps7
  go_wp2_with (go_at_call 26; (with_reducible refine (From_c p c code _ (HX.out.ext (by repeat (first | exact Ext.refl _ | assumption | refine Ext.drew ?_ | refine Ext.drewN ?_ _ | refine Ext.iter ?_ _ _ | refine Ext.alloc ?_ _ | refine Ext.setCell ?_ (by first | exact Nat.le_refl _ | (simp <;> omega)) _ | refine Ext.trans2 (by assumption) ?_))) hl).mono ?_); rintro e w1 ⟨⟨g, rfl, hg, hs1⟩, hW1⟩; replace hg := Lib.hid hg)
  replace hg := hg.out
  have hn1 : g < w1.heap.size := hs1.lt
  rw [← hg] at hs1
  simp only [World.size_alloc] at hg
  have hgw : w.heap.size < g := by omega
  have hb1 := hb.ext hW1
  have hE1 : Ext w w1 := ((Ext.refl w).alloc _).trans hW1
  clear hb hW1 hg HX
  refine (l14DrawSquare_c (g + 1) g _ hs1 (by omega)).mono ?_
  rintro e w2 ⟨r, c, a, k, xs, rfl, hlx, hkx, ho2, hs2, hb2⟩
  have hz2 := hb2.size
  have hbr2 := (hb1.but hb2 (by omega)).alloc (.cells #[.int .i64 r, .int .i64 c, .slice a xs.length k] 26)
  have hgr2 := Blk.new w2 #[.int .i64 r, .int .i64 c, .slice a xs.length k] 26
  have hE2 := (hE1.but hb2 (by omega)).alloc (.cells #[.int .i64 r, .int .i64 c, .slice a xs.length k] 26)
  have hs2' := hs2.ext ((Ext.refl _).alloc (.cells #[.int .i64 r, .int .i64 c, .slice a xs.length k] 26))
  have ho2' := ho2.ext ((Ext.refl _).alloc (.cells #[.int .i64 r, .int .i64 c, .slice a xs.length k] 26))
  have hf : w2.heap.size < (w2.alloc (.cells #[.int .i64 r, .int .i64 c, .slice a xs.length k] 26)).heap.size := by simp
  have hfg : w2.heap.size ≠ g := by omega
  have hfw : w.heap.size < w2.heap.size := by omega
  have hgo : g < w1.heap.size := hn1
  clear hs1 hs2 hb2 hb1 hE1 ho2
  go_wp2_with fail
  generalize w2.alloc (.cells #[.int .i64 r, .int .i64 c, .slice a xs.length k] 26) = w3 at *
  generalize w2.heap.size = f at *
  have g0 := hgr2.cell (i := 0) (v := .int .i64 r) rfl; have g1 := hgr2.cell (i := 1) (v := .int .i64 c) rfl; have g2 := hgr2.cell (i := 2) (v := .slice a xs.length k) rfl
  refine wp_region_ct (fun w' => True) (.st 1 (.st 3 (.two 0 (.one 2 (.one 4 (.st 5 (.st 6 (.one 7 (.st 8 .done)))))) 2 (.two 0 (.one 4 (.st 5 (.st 6 (.one 7 (.st 8 .done))))) 4 (.st 5 (.st 6 (.one 0 (.one 7 (.st 8 .done))))))))) (by kernel_rfl) (by kernel_rfl) (by decide) (by kernel_rfl) ?_ ?_
  · exact trivial
  refine ct_intro fun ops eo => ?_
  have ho0 := canon_at eo 0 rfl
  have ho1 := canon_at eo 1 rfl
  have ho2 := canon_at eo 2 rfl
  have ho3 := canon_at eo 3 rfl
  have ho4 := canon_at eo 4 rfl
  have ho5 := canon_at eo 5 rfl
  have ho6 := canon_at eo 6 rfl
  have ho7 := canon_at eo 7 rfl
  have ho8 := canon_at eo 8 rfl
  clear eo
  all_goals (apply ct_st ho1 rfl; (intro w2 hS; first | (go_simp; first | done | rfl) | rfl | (skip; go_simp; first | done | rfl)); simp only [Act.put, List.setIfInBounds_toArray, List.set_cons_zero, List.set_cons_succ])
  all_goals clear ho1
  all_goals (apply ct_st ho3 rfl; (intro w2 hS; first | (go_simp; first | done | rfl) | rfl | (skip; go_simp; first | done | rfl)); simp only [Act.put, List.setIfInBounds_toArray, List.set_cons_zero, List.set_cons_succ])
  all_goals clear ho3
  all_goals
    refine ct_two ?_ ?_
    focus
      all_goals first | (refine ct_op ho0 rfl (fun K hK => ?_); go_simp; ((go_at_call 28; (with_reducible refine (Next_c (g + 1) g 33 _ (hs2'.ext (by repeat (first | exact Ext.refl _ | assumption | refine Ext.drew ?_ | refine Ext.drewN ?_ _ | refine Ext.iter ?_ _ _ | refine Ext.alloc ?_ _ | refine Ext.setCell ?_ (by first | exact Nat.le_refl _ | (simp <;> omega)) _ | refine Ext.trans2 (by assumption) ?_))) (by omega)).mono ?_); rintro e w4 ⟨v1, rfl, hv0, hv1, -, hs4, hb4⟩; replace hv1 := hv1 (by omega); have hb4' : But g w3 w4 := (But.of (by repeat (first | exact Ext.refl _ | assumption | refine Ext.drew ?_ | refine Ext.drewN ?_ _ | refine Ext.iter ?_ _ _ | refine Ext.alloc ?_ _ | refine Ext.setCell ?_ (by first | exact Nat.le_refl _ | (simp <;> omega)) _ | refine Ext.trans2 (by assumption) ?_))).trans hb4; have hgr4 := hgr2.but hb4' hfg; have y0 := hgr4.cell (i := 0) (v := .int .i64 r) rfl; have y1 := hgr4.cell (i := 1) (v := .int .i64 c) rfl; have y2 := hgr4.cell (i := 2) (v := .slice a xs.length k) rfl)); all_goals (refine hK _ _ ⟨trivial, ?_⟩; clear hK K; go_simp)) | (refine ct_op ho0 rfl (fun K hK => ?_); go_simp; ((go_at_call 28; (with_reducible refine (Next_c (g + 1) g 20 _ (hs4.ext (by repeat (first | exact Ext.refl _ | assumption | refine Ext.drew ?_ | refine Ext.drewN ?_ _ | refine Ext.iter ?_ _ _ | refine Ext.alloc ?_ _ | refine Ext.setCell ?_ (by first | exact Nat.le_refl _ | (simp <;> omega)) _ | refine Ext.trans2 (by assumption) ?_))) (by omega)).mono ?_); rintro e w5 ⟨v2, rfl, hu0, hu1, -, hs5, hb5⟩; replace hu1 := hu1 (by omega); have hb5' : But g w3 w5 := (hb4'.trans (But.of (by repeat (first | exact Ext.refl _ | assumption | refine Ext.drew ?_ | refine Ext.drewN ?_ _ | refine Ext.iter ?_ _ _ | refine Ext.alloc ?_ _ | refine Ext.setCell ?_ (by first | exact Nat.le_refl _ | (simp <;> omega)) _ | refine Ext.trans2 (by assumption) ?_)))).trans hb5; have hgr5 := hgr2.but hb5' hfg; have hbr5 := hbr2.but hb5' (by omega); have hE5 := hE2.but hb5' (by omega); have ow5 := ho2'.but hb5' (by omega); have hl5 := hbr5.lt; have hf5 := hbr5.free; have hz5 := hb5'.size; have m0 := hbr5.cell (i := 0) (v := .int .i64 0) rfl; have m1 := hbr5.cell (i := 1) (v := .int .i64 0) rfl; have m2 := hbr5.cell (i := 2) (v := .slice none 0 0) rfl; have z0 := hgr5.cell (i := 0) (v := .int .i64 r) rfl; have z1 := hgr5.cell (i := 1) (v := .int .i64 c) rfl; have z2 := hgr5.cell (i := 2) (v := .slice a xs.length k) rfl)); all_goals (refine hK _ _ ⟨trivial, ?_⟩; clear hK K; go_simp)) | (refine ct_op ho0 rfl (fun K hK => ?_); go_simp; (skip); all_goals (refine hK _ _ ⟨trivial, ?_⟩; clear hK K; go_simp))
      all_goals clear ho0
      all_goals refine ct_one ?_
      all_goals first | (refine ct_op ho2 rfl (fun K hK => ?_); go_simp; ((go_at_call 28; (with_reducible refine (Next_c (g + 1) g 33 _ (hs2'.ext (by repeat (first | exact Ext.refl _ | assumption | refine Ext.drew ?_ | refine Ext.drewN ?_ _ | refine Ext.iter ?_ _ _ | refine Ext.alloc ?_ _ | refine Ext.setCell ?_ (by first | exact Nat.le_refl _ | (simp <;> omega)) _ | refine Ext.trans2 (by assumption) ?_))) (by omega)).mono ?_); rintro e w4 ⟨v1, rfl, hv0, hv1, -, hs4, hb4⟩; replace hv1 := hv1 (by omega); have hb4' : But g w3 w4 := (But.of (by repeat (first | exact Ext.refl _ | assumption | refine Ext.drew ?_ | refine Ext.drewN ?_ _ | refine Ext.iter ?_ _ _ | refine Ext.alloc ?_ _ | refine Ext.setCell ?_ (by first | exact Nat.le_refl _ | (simp <;> omega)) _ | refine Ext.trans2 (by assumption) ?_))).trans hb4; have hgr4 := hgr2.but hb4' hfg; have y0 := hgr4.cell (i := 0) (v := .int .i64 r) rfl; have y1 := hgr4.cell (i := 1) (v := .int .i64 c) rfl; have y2 := hgr4.cell (i := 2) (v := .slice a xs.length k) rfl)); all_goals (refine hK _ _ ⟨trivial, ?_⟩; clear hK K; go_simp)) | (refine ct_op ho2 rfl (fun K hK => ?_); go_simp; ((go_at_call 28; (with_reducible refine (Next_c (g + 1) g 20 _ (hs4.ext (by repeat (first | exact Ext.refl _ | assumption | refine Ext.drew ?_ | refine Ext.drewN ?_ _ | refine Ext.iter ?_ _ _ | refine Ext.alloc ?_ _ | refine Ext.setCell ?_ (by first | exact Nat.le_refl _ | (simp <;> omega)) _ | refine Ext.trans2 (by assumption) ?_))) (by omega)).mono ?_); rintro e w5 ⟨v2, rfl, hu0, hu1, -, hs5, hb5⟩; replace hu1 := hu1 (by omega); have hb5' : But g w3 w5 := (hb4'.trans (But.of (by repeat (first | exact Ext.refl _ | assumption | refine Ext.drew ?_ | refine Ext.drewN ?_ _ | refine Ext.iter ?_ _ _ | refine Ext.alloc ?_ _ | refine Ext.setCell ?_ (by first | exact Nat.le_refl _ | (simp <;> omega)) _ | refine Ext.trans2 (by assumption) ?_)))).trans hb5; have hgr5 := hgr2.but hb5' hfg; have hbr5 := hbr2.but hb5' (by omega); have hE5 := hE2.but hb5' (by omega); have ow5 := ho2'.but hb5' (by omega); have hl5 := hbr5.lt; have hf5 := hbr5.free; have hz5 := hb5'.size; have m0 := hbr5.cell (i := 0) (v := .int .i64 0) rfl; have m1 := hbr5.cell (i := 1) (v := .int .i64 0) rfl; have m2 := hbr5.cell (i := 2) (v := .slice none 0 0) rfl; have z0 := hgr5.cell (i := 0) (v := .int .i64 r) rfl; have z1 := hgr5.cell (i := 1) (v := .int .i64 c) rfl; have z2 := hgr5.cell (i := 2) (v := .slice a xs.length k) rfl)); all_goals (refine hK _ _ ⟨trivial, ?_⟩; clear hK K; go_simp)) | (refine ct_op ho2 rfl (fun K hK => ?_); go_simp; (skip); all_goals (refine hK _ _ ⟨trivial, ?_⟩; clear hK K; go_simp))
      all_goals clear ho2
      all_goals refine ct_one ?_
      all_goals first | (refine ct_op ho4 rfl (fun K hK => ?_); go_simp; ((go_at_call 28; (with_reducible refine (Next_c (g + 1) g 33 _ (hs2'.ext (by repeat (first | exact Ext.refl _ | assumption | refine Ext.drew ?_ | refine Ext.drewN ?_ _ | refine Ext.iter ?_ _ _ | refine Ext.alloc ?_ _ | refine Ext.setCell ?_ (by first | exact Nat.le_refl _ | (simp <;> omega)) _ | refine Ext.trans2 (by assumption) ?_))) (by omega)).mono ?_); rintro e w4 ⟨v1, rfl, hv0, hv1, -, hs4, hb4⟩; replace hv1 := hv1 (by omega); have hb4' : But g w3 w4 := (But.of (by repeat (first | exact Ext.refl _ | assumption | refine Ext.drew ?_ | refine Ext.drewN ?_ _ | refine Ext.iter ?_ _ _ | refine Ext.alloc ?_ _ | refine Ext.setCell ?_ (by first | exact Nat.le_refl _ | (simp <;> omega)) _ | refine Ext.trans2 (by assumption) ?_))).trans hb4; have hgr4 := hgr2.but hb4' hfg; have y0 := hgr4.cell (i := 0) (v := .int .i64 r) rfl; have y1 := hgr4.cell (i := 1) (v := .int .i64 c) rfl; have y2 := hgr4.cell (i := 2) (v := .slice a xs.length k) rfl)); all_goals (refine hK _ _ ⟨trivial, ?_⟩; clear hK K; go_simp)) | (refine ct_op ho4 rfl (fun K hK => ?_); go_simp; ((go_at_call 28; (with_reducible refine (Next_c (g + 1) g 20 _ (hs4.ext (by repeat (first | exact Ext.refl _ | assumption | refine Ext.drew ?_ | refine Ext.drewN ?_ _ | refine Ext.iter ?_ _ _ | refine Ext.alloc ?_ _ | refine Ext.setCell ?_ (by first | exact Nat.le_refl _ | (simp <;> omega)) _ | refine Ext.trans2 (by assumption) ?_))) (by omega)).mono ?_); rintro e w5 ⟨v2, rfl, hu0, hu1, -, hs5, hb5⟩; replace hu1 := hu1 (by omega); have hb5' : But g w3 w5 := (hb4'.trans (But.of (by repeat (first | exact Ext.refl _ | assumption | refine Ext.drew ?_ | refine Ext.drewN ?_ _ | refine Ext.iter ?_ _ _ | refine Ext.alloc ?_ _ | refine Ext.setCell ?_ (by first | exact Nat.le_refl _ | (simp <;> omega)) _ | refine Ext.trans2 (by assumption) ?_)))).trans hb5; have hgr5 := hgr2.but hb5' hfg; have hbr5 := hbr2.but hb5' (by omega); have hE5 := hE2.but hb5' (by omega); have ow5 := ho2'.but hb5' (by omega); have hl5 := hbr5.lt; have hf5 := hbr5.free; have hz5 := hb5'.size; have m0 := hbr5.cell (i := 0) (v := .int .i64 0) rfl; have m1 := hbr5.cell (i := 1) (v := .int .i64 0) rfl; have m2 := hbr5.cell (i := 2) (v := .slice none 0 0) rfl; have z0 := hgr5.cell (i := 0) (v := .int .i64 r) rfl; have z1 := hgr5.cell (i := 1) (v := .int .i64 c) rfl; have z2 := hgr5.cell (i := 2) (v := .slice a xs.length k) rfl)); all_goals (refine hK _ _ ⟨trivial, ?_⟩; clear hK K; go_simp)) | (refine ct_op ho4 rfl (fun K hK => ?_); go_simp; (skip); all_goals (refine hK _ _ ⟨trivial, ?_⟩; clear hK K; go_simp))
      all_goals clear ho4
      all_goals (apply ct_st ho5 rfl; (intro w2 hS; first | (go_simp; first | done | rfl) | rfl | (skip; go_simp; first | done | rfl)); simp only [Act.put, List.setIfInBounds_toArray, List.set_cons_zero, List.set_cons_succ])
      all_goals clear ho5
      all_goals (apply ct_st ho6 rfl; (intro w2 hS; first | (go_simp; first | done | rfl) | rfl | (skip; go_simp; first | done | rfl)); simp only [Act.put, List.setIfInBounds_toArray, List.set_cons_zero, List.set_cons_succ])
      all_goals clear ho6
      all_goals refine ct_one ?_
      all_goals first | (refine ct_op ho7 rfl (fun K hK => ?_); go_simp; ((go_at_call 28; (with_reducible refine (Next_c (g + 1) g 33 _ (hs2'.ext (by repeat (first | exact Ext.refl _ | assumption | refine Ext.drew ?_ | refine Ext.drewN ?_ _ | refine Ext.iter ?_ _ _ | refine Ext.alloc ?_ _ | refine Ext.setCell ?_ (by first | exact Nat.le_refl _ | (simp <;> omega)) _ | refine Ext.trans2 (by assumption) ?_))) (by omega)).mono ?_); rintro e w4 ⟨v1, rfl, hv0, hv1, -, hs4, hb4⟩; replace hv1 := hv1 (by omega); have hb4' : But g w3 w4 := (But.of (by repeat (first | exact Ext.refl _ | assumption | refine Ext.drew ?_ | refine Ext.drewN ?_ _ | refine Ext.iter ?_ _ _ | refine Ext.alloc ?_ _ | refine Ext.setCell ?_ (by first | exact Nat.le_refl _ | (simp <;> omega)) _ | refine Ext.trans2 (by assumption) ?_))).trans hb4; have hgr4 := hgr2.but hb4' hfg; have y0 := hgr4.cell (i := 0) (v := .int .i64 r) rfl; have y1 := hgr4.cell (i := 1) (v := .int .i64 c) rfl; have y2 := hgr4.cell (i := 2) (v := .slice a xs.length k) rfl)); all_goals (refine hK _ _ ⟨trivial, ?_⟩; clear hK K; go_simp)) | (refine ct_op ho7 rfl (fun K hK => ?_); go_simp; ((go_at_call 28; (with_reducible refine (Next_c (g + 1) g 20 _ (hs4.ext (by repeat (first | exact Ext.refl _ | assumption | refine Ext.drew ?_ | refine Ext.drewN ?_ _ | refine Ext.iter ?_ _ _ | refine Ext.alloc ?_ _ | refine Ext.setCell ?_ (by first | exact Nat.le_refl _ | (simp <;> omega)) _ | refine Ext.trans2 (by assumption) ?_))) (by omega)).mono ?_); rintro e w5 ⟨v2, rfl, hu0, hu1, -, hs5, hb5⟩; replace hu1 := hu1 (by omega); have hb5' : But g w3 w5 := (hb4'.trans (But.of (by repeat (first | exact Ext.refl _ | assumption | refine Ext.drew ?_ | refine Ext.drewN ?_ _ | refine Ext.iter ?_ _ _ | refine Ext.alloc ?_ _ | refine Ext.setCell ?_ (by first | exact Nat.le_refl _ | (simp <;> omega)) _ | refine Ext.trans2 (by assumption) ?_)))).trans hb5; have hgr5 := hgr2.but hb5' hfg; have hbr5 := hbr2.but hb5' (by omega); have hE5 := hE2.but hb5' (by omega); have ow5 := ho2'.but hb5' (by omega); have hl5 := hbr5.lt; have hf5 := hbr5.free; have hz5 := hb5'.size; have m0 := hbr5.cell (i := 0) (v := .int .i64 0) rfl; have m1 := hbr5.cell (i := 1) (v := .int .i64 0) rfl; have m2 := hbr5.cell (i := 2) (v := .slice none 0 0) rfl; have z0 := hgr5.cell (i := 0) (v := .int .i64 r) rfl; have z1 := hgr5.cell (i := 1) (v := .int .i64 c) rfl; have z2 := hgr5.cell (i := 2) (v := .slice a xs.length k) rfl)); all_goals (refine hK _ _ ⟨trivial, ?_⟩; clear hK K; go_simp)) | (refine ct_op ho7 rfl (fun K hK => ?_); go_simp; (skip); all_goals (refine hK _ _ ⟨trivial, ?_⟩; clear hK K; go_simp))
      all_goals clear ho7
      all_goals (apply ct_st ho8 rfl; (intro w2 hS; first | (go_simp; first | done | rfl) | rfl | (skip; go_simp; first | done | rfl)); simp only [Act.put, List.setIfInBounds_toArray, List.set_cons_zero, List.set_cons_succ])
      all_goals clear ho8
      all_goals refine ct_done (NoPanic.normal ?_)
    rotate_right 1
    focus
      all_goals first | (refine ct_op ho2 rfl (fun K hK => ?_); go_simp; ((go_at_call 28; (with_reducible refine (Next_c (g + 1) g 33 _ (hs2'.ext (by repeat (first | exact Ext.refl _ | assumption | refine Ext.drew ?_ | refine Ext.drewN ?_ _ | refine Ext.iter ?_ _ _ | refine Ext.alloc ?_ _ | refine Ext.setCell ?_ (by first | exact Nat.le_refl _ | (simp <;> omega)) _ | refine Ext.trans2 (by assumption) ?_))) (by omega)).mono ?_); rintro e w4 ⟨v1, rfl, hv0, hv1, -, hs4, hb4⟩; replace hv1 := hv1 (by omega); have hb4' : But g w3 w4 := (But.of (by repeat (first | exact Ext.refl _ | assumption | refine Ext.drew ?_ | refine Ext.drewN ?_ _ | refine Ext.iter ?_ _ _ | refine Ext.alloc ?_ _ | refine Ext.setCell ?_ (by first | exact Nat.le_refl _ | (simp <;> omega)) _ | refine Ext.trans2 (by assumption) ?_))).trans hb4; have hgr4 := hgr2.but hb4' hfg; have y0 := hgr4.cell (i := 0) (v := .int .i64 r) rfl; have y1 := hgr4.cell (i := 1) (v := .int .i64 c) rfl; have y2 := hgr4.cell (i := 2) (v := .slice a xs.length k) rfl)); all_goals (refine hK _ _ ⟨trivial, ?_⟩; clear hK K; go_simp)) | (refine ct_op ho2 rfl (fun K hK => ?_); go_simp; ((go_at_call 28; (with_reducible refine (Next_c (g + 1) g 20 _ (hs4.ext (by repeat (first | exact Ext.refl _ | assumption | refine Ext.drew ?_ | refine Ext.drewN ?_ _ | refine Ext.iter ?_ _ _ | refine Ext.alloc ?_ _ | refine Ext.setCell ?_ (by first | exact Nat.le_refl _ | (simp <;> omega)) _ | refine Ext.trans2 (by assumption) ?_))) (by omega)).mono ?_); rintro e w5 ⟨v2, rfl, hu0, hu1, -, hs5, hb5⟩; replace hu1 := hu1 (by omega); have hb5' : But g w3 w5 := (hb4'.trans (But.of (by repeat (first | exact Ext.refl _ | assumption | refine Ext.drew ?_ | refine Ext.drewN ?_ _ | refine Ext.iter ?_ _ _ | refine Ext.alloc ?_ _ | refine Ext.setCell ?_ (by first | exact Nat.le_refl _ | (simp <;> omega)) _ | refine Ext.trans2 (by assumption) ?_)))).trans hb5; have hgr5 := hgr2.but hb5' hfg; have hbr5 := hbr2.but hb5' (by omega); have hE5 := hE2.but hb5' (by omega); have ow5 := ho2'.but hb5' (by omega); have hl5 := hbr5.lt; have hf5 := hbr5.free; have hz5 := hb5'.size; have m0 := hbr5.cell (i := 0) (v := .int .i64 0) rfl; have m1 := hbr5.cell (i := 1) (v := .int .i64 0) rfl; have m2 := hbr5.cell (i := 2) (v := .slice none 0 0) rfl; have z0 := hgr5.cell (i := 0) (v := .int .i64 r) rfl; have z1 := hgr5.cell (i := 1) (v := .int .i64 c) rfl; have z2 := hgr5.cell (i := 2) (v := .slice a xs.length k) rfl)); all_goals (refine hK _ _ ⟨trivial, ?_⟩; clear hK K; go_simp)) | (refine ct_op ho2 rfl (fun K hK => ?_); go_simp; (skip); all_goals (refine hK _ _ ⟨trivial, ?_⟩; clear hK K; go_simp))
      all_goals clear ho2
      all_goals
        refine ct_two ?_ ?_
        focus
          all_goals first | (refine ct_op ho0 rfl (fun K hK => ?_); go_simp; ((go_at_call 28; (with_reducible refine (Next_c (g + 1) g 33 _ (hs2'.ext (by repeat (first | exact Ext.refl _ | assumption | refine Ext.drew ?_ | refine Ext.drewN ?_ _ | refine Ext.iter ?_ _ _ | refine Ext.alloc ?_ _ | refine Ext.setCell ?_ (by first | exact Nat.le_refl _ | (simp <;> omega)) _ | refine Ext.trans2 (by assumption) ?_))) (by omega)).mono ?_); rintro e w4 ⟨v1, rfl, hv0, hv1, -, hs4, hb4⟩; replace hv1 := hv1 (by omega); have hb4' : But g w3 w4 := (But.of (by repeat (first | exact Ext.refl _ | assumption | refine Ext.drew ?_ | refine Ext.drewN ?_ _ | refine Ext.iter ?_ _ _ | refine Ext.alloc ?_ _ | refine Ext.setCell ?_ (by first | exact Nat.le_refl _ | (simp <;> omega)) _ | refine Ext.trans2 (by assumption) ?_))).trans hb4; have hgr4 := hgr2.but hb4' hfg; have y0 := hgr4.cell (i := 0) (v := .int .i64 r) rfl; have y1 := hgr4.cell (i := 1) (v := .int .i64 c) rfl; have y2 := hgr4.cell (i := 2) (v := .slice a xs.length k) rfl)); all_goals (refine hK _ _ ⟨trivial, ?_⟩; clear hK K; go_simp)) | (refine ct_op ho0 rfl (fun K hK => ?_); go_simp; ((go_at_call 28; (with_reducible refine (Next_c (g + 1) g 20 _ (hs4.ext (by repeat (first | exact Ext.refl _ | assumption | refine Ext.drew ?_ | refine Ext.drewN ?_ _ | refine Ext.iter ?_ _ _ | refine Ext.alloc ?_ _ | refine Ext.setCell ?_ (by first | exact Nat.le_refl _ | (simp <;> omega)) _ | refine Ext.trans2 (by assumption) ?_))) (by omega)).mono ?_); rintro e w5 ⟨v2, rfl, hu0, hu1, -, hs5, hb5⟩; replace hu1 := hu1 (by omega); have hb5' : But g w3 w5 := (hb4'.trans (But.of (by repeat (first | exact Ext.refl _ | assumption | refine Ext.drew ?_ | refine Ext.drewN ?_ _ | refine Ext.iter ?_ _ _ | refine Ext.alloc ?_ _ | refine Ext.setCell ?_ (by first | exact Nat.le_refl _ | (simp <;> omega)) _ | refine Ext.trans2 (by assumption) ?_)))).trans hb5; have hgr5 := hgr2.but hb5' hfg; have hbr5 := hbr2.but hb5' (by omega); have hE5 := hE2.but hb5' (by omega); have ow5 := ho2'.but hb5' (by omega); have hl5 := hbr5.lt; have hf5 := hbr5.free; have hz5 := hb5'.size; have m0 := hbr5.cell (i := 0) (v := .int .i64 0) rfl; have m1 := hbr5.cell (i := 1) (v := .int .i64 0) rfl; have m2 := hbr5.cell (i := 2) (v := .slice none 0 0) rfl; have z0 := hgr5.cell (i := 0) (v := .int .i64 r) rfl; have z1 := hgr5.cell (i := 1) (v := .int .i64 c) rfl; have z2 := hgr5.cell (i := 2) (v := .slice a xs.length k) rfl)); all_goals (refine hK _ _ ⟨trivial, ?_⟩; clear hK K; go_simp)) | (refine ct_op ho0 rfl (fun K hK => ?_); go_simp; (skip); all_goals (refine hK _ _ ⟨trivial, ?_⟩; clear hK K; go_simp))
          all_goals clear ho0
          all_goals refine ct_one ?_
          all_goals first | (refine ct_op ho4 rfl (fun K hK => ?_); go_simp; ((go_at_call 28; (with_reducible refine (Next_c (g + 1) g 33 _ (hs2'.ext (by repeat (first | exact Ext.refl _ | assumption | refine Ext.drew ?_ | refine Ext.drewN ?_ _ | refine Ext.iter ?_ _ _ | refine Ext.alloc ?_ _ | refine Ext.setCell ?_ (by first | exact Nat.le_refl _ | (simp <;> omega)) _ | refine Ext.trans2 (by assumption) ?_))) (by omega)).mono ?_); rintro e w4 ⟨v1, rfl, hv0, hv1, -, hs4, hb4⟩; replace hv1 := hv1 (by omega); have hb4' : But g w3 w4 := (But.of (by repeat (first | exact Ext.refl _ | assumption | refine Ext.drew ?_ | refine Ext.drewN ?_ _ | refine Ext.iter ?_ _ _ | refine Ext.alloc ?_ _ | refine Ext.setCell ?_ (by first | exact Nat.le_refl _ | (simp <;> omega)) _ | refine Ext.trans2 (by assumption) ?_))).trans hb4; have hgr4 := hgr2.but hb4' hfg; have y0 := hgr4.cell (i := 0) (v := .int .i64 r) rfl; have y1 := hgr4.cell (i := 1) (v := .int .i64 c) rfl; have y2 := hgr4.cell (i := 2) (v := .slice a xs.length k) rfl)); all_goals (refine hK _ _ ⟨trivial, ?_⟩; clear hK K; go_simp)) | (refine ct_op ho4 rfl (fun K hK => ?_); go_simp; ((go_at_call 28; (with_reducible refine (Next_c (g + 1) g 20 _ (hs4.ext (by repeat (first | exact Ext.refl _ | assumption | refine Ext.drew ?_ | refine Ext.drewN ?_ _ | refine Ext.iter ?_ _ _ | refine Ext.alloc ?_ _ | refine Ext.setCell ?_ (by first | exact Nat.le_refl _ | (simp <;> omega)) _ | refine Ext.trans2 (by assumption) ?_))) (by omega)).mono ?_); rintro e w5 ⟨v2, rfl, hu0, hu1, -, hs5, hb5⟩; replace hu1 := hu1 (by omega); have hb5' : But g w3 w5 := (hb4'.trans (But.of (by repeat (first | exact Ext.refl _ | assumption | refine Ext.drew ?_ | refine Ext.drewN ?_ _ | refine Ext.iter ?_ _ _ | refine Ext.alloc ?_ _ | refine Ext.setCell ?_ (by first | exact Nat.le_refl _ | (simp <;> omega)) _ | refine Ext.trans2 (by assumption) ?_)))).trans hb5; have hgr5 := hgr2.but hb5' hfg; have hbr5 := hbr2.but hb5' (by omega); have hE5 := hE2.but hb5' (by omega); have ow5 := ho2'.but hb5' (by omega); have hl5 := hbr5.lt; have hf5 := hbr5.free; have hz5 := hb5'.size; have m0 := hbr5.cell (i := 0) (v := .int .i64 0) rfl; have m1 := hbr5.cell (i := 1) (v := .int .i64 0) rfl; have m2 := hbr5.cell (i := 2) (v := .slice none 0 0) rfl; have z0 := hgr5.cell (i := 0) (v := .int .i64 r) rfl; have z1 := hgr5.cell (i := 1) (v := .int .i64 c) rfl; have z2 := hgr5.cell (i := 2) (v := .slice a xs.length k) rfl)); all_goals (refine hK _ _ ⟨trivial, ?_⟩; clear hK K; go_simp)) | (refine ct_op ho4 rfl (fun K hK => ?_); go_simp; (skip); all_goals (refine hK _ _ ⟨trivial, ?_⟩; clear hK K; go_simp))
          all_goals clear ho4
          all_goals (apply ct_st ho5 rfl; (intro w2 hS; first | (go_simp; first | done | rfl) | rfl | (skip; go_simp; first | done | rfl)); simp only [Act.put, List.setIfInBounds_toArray, List.set_cons_zero, List.set_cons_succ])
          all_goals clear ho5
          all_goals (apply ct_st ho6 rfl; (intro w2 hS; first | (go_simp; first | done | rfl) | rfl | (skip; go_simp; first | done | rfl)); simp only [Act.put, List.setIfInBounds_toArray, List.set_cons_zero, List.set_cons_succ])
          all_goals clear ho6
          all_goals refine ct_one ?_
          all_goals first | (refine ct_op ho7 rfl (fun K hK => ?_); go_simp; ((go_at_call 28; (with_reducible refine (Next_c (g + 1) g 33 _ (hs2'.ext (by repeat (first | exact Ext.refl _ | assumption | refine Ext.drew ?_ | refine Ext.drewN ?_ _ | refine Ext.iter ?_ _ _ | refine Ext.alloc ?_ _ | refine Ext.setCell ?_ (by first | exact Nat.le_refl _ | (simp <;> omega)) _ | refine Ext.trans2 (by assumption) ?_))) (by omega)).mono ?_); rintro e w4 ⟨v1, rfl, hv0, hv1, -, hs4, hb4⟩; replace hv1 := hv1 (by omega); have hb4' : But g w3 w4 := (But.of (by repeat (first | exact Ext.refl _ | assumption | refine Ext.drew ?_ | refine Ext.drewN ?_ _ | refine Ext.iter ?_ _ _ | refine Ext.alloc ?_ _ | refine Ext.setCell ?_ (by first | exact Nat.le_refl _ | (simp <;> omega)) _ | refine Ext.trans2 (by assumption) ?_))).trans hb4; have hgr4 := hgr2.but hb4' hfg; have y0 := hgr4.cell (i := 0) (v := .int .i64 r) rfl; have y1 := hgr4.cell (i := 1) (v := .int .i64 c) rfl; have y2 := hgr4.cell (i := 2) (v := .slice a xs.length k) rfl)); all_goals (refine hK _ _ ⟨trivial, ?_⟩; clear hK K; go_simp)) | (refine ct_op ho7 rfl (fun K hK => ?_); go_simp; ((go_at_call 28; (with_reducible refine (Next_c (g + 1) g 20 _ (hs4.ext (by repeat (first | exact Ext.refl _ | assumption | refine Ext.drew ?_ | refine Ext.drewN ?_ _ | refine Ext.iter ?_ _ _ | refine Ext.alloc ?_ _ | refine Ext.setCell ?_ (by first | exact Nat.le_refl _ | (simp <;> omega)) _ | refine Ext.trans2 (by assumption) ?_))) (by omega)).mono ?_); rintro e w5 ⟨v2, rfl, hu0, hu1, -, hs5, hb5⟩; replace hu1 := hu1 (by omega); have hb5' : But g w3 w5 := (hb4'.trans (But.of (by repeat (first | exact Ext.refl _ | assumption | refine Ext.drew ?_ | refine Ext.drewN ?_ _ | refine Ext.iter ?_ _ _ | refine Ext.alloc ?_ _ | refine Ext.setCell ?_ (by first | exact Nat.le_refl _ | (simp <;> omega)) _ | refine Ext.trans2 (by assumption) ?_)))).trans hb5; have hgr5 := hgr2.but hb5' hfg; have hbr5 := hbr2.but hb5' (by omega); have hE5 := hE2.but hb5' (by omega); have ow5 := ho2'.but hb5' (by omega); have hl5 := hbr5.lt; have hf5 := hbr5.free; have hz5 := hb5'.size; have m0 := hbr5.cell (i := 0) (v := .int .i64 0) rfl; have m1 := hbr5.cell (i := 1) (v := .int .i64 0) rfl; have m2 := hbr5.cell (i := 2) (v := .slice none 0 0) rfl; have z0 := hgr5.cell (i := 0) (v := .int .i64 r) rfl; have z1 := hgr5.cell (i := 1) (v := .int .i64 c) rfl; have z2 := hgr5.cell (i := 2) (v := .slice a xs.length k) rfl)); all_goals (refine hK _ _ ⟨trivial, ?_⟩; clear hK K; go_simp)) | (refine ct_op ho7 rfl (fun K hK => ?_); go_simp; (skip); all_goals (refine hK _ _ ⟨trivial, ?_⟩; clear hK K; go_simp))
          all_goals clear ho7
          all_goals (apply ct_st ho8 rfl; (intro w2 hS; first | (go_simp; first | done | rfl) | rfl | (skip; go_simp; first | done | rfl)); simp only [Act.put, List.setIfInBounds_toArray, List.set_cons_zero, List.set_cons_succ])
          all_goals clear ho8
          all_goals refine ct_done (NoPanic.normal ?_)
        rotate_right 1
        focus
          all_goals first | (refine ct_op ho4 rfl (fun K hK => ?_); go_simp; ((go_at_call 28; (with_reducible refine (Next_c (g + 1) g 33 _ (hs2'.ext (by repeat (first | exact Ext.refl _ | assumption | refine Ext.drew ?_ | refine Ext.drewN ?_ _ | refine Ext.iter ?_ _ _ | refine Ext.alloc ?_ _ | refine Ext.setCell ?_ (by first | exact Nat.le_refl _ | (simp <;> omega)) _ | refine Ext.trans2 (by assumption) ?_))) (by omega)).mono ?_); rintro e w4 ⟨v1, rfl, hv0, hv1, -, hs4, hb4⟩; replace hv1 := hv1 (by omega); have hb4' : But g w3 w4 := (But.of (by repeat (first | exact Ext.refl _ | assumption | refine Ext.drew ?_ | refine Ext.drewN ?_ _ | refine Ext.iter ?_ _ _ | refine Ext.alloc ?_ _ | refine Ext.setCell ?_ (by first | exact Nat.le_refl _ | (simp <;> omega)) _ | refine Ext.trans2 (by assumption) ?_))).trans hb4; have hgr4 := hgr2.but hb4' hfg; have y0 := hgr4.cell (i := 0) (v := .int .i64 r) rfl; have y1 := hgr4.cell (i := 1) (v := .int .i64 c) rfl; have y2 := hgr4.cell (i := 2) (v := .slice a xs.length k) rfl)); all_goals (refine hK _ _ ⟨trivial, ?_⟩; clear hK K; go_simp)) | (refine ct_op ho4 rfl (fun K hK => ?_); go_simp; ((go_at_call 28; (with_reducible refine (Next_c (g + 1) g 20 _ (hs4.ext (by repeat (first | exact Ext.refl _ | assumption | refine Ext.drew ?_ | refine Ext.drewN ?_ _ | refine Ext.iter ?_ _ _ | refine Ext.alloc ?_ _ | refine Ext.setCell ?_ (by first | exact Nat.le_refl _ | (simp <;> omega)) _ | refine Ext.trans2 (by assumption) ?_))) (by omega)).mono ?_); rintro e w5 ⟨v2, rfl, hu0, hu1, -, hs5, hb5⟩; replace hu1 := hu1 (by omega); have hb5' : But g w3 w5 := (hb4'.trans (But.of (by repeat (first | exact Ext.refl _ | assumption | refine Ext.drew ?_ | refine Ext.drewN ?_ _ | refine Ext.iter ?_ _ _ | refine Ext.alloc ?_ _ | refine Ext.setCell ?_ (by first | exact Nat.le_refl _ | (simp <;> omega)) _ | refine Ext.trans2 (by assumption) ?_)))).trans hb5; have hgr5 := hgr2.but hb5' hfg; have hbr5 := hbr2.but hb5' (by omega); have hE5 := hE2.but hb5' (by omega); have ow5 := ho2'.but hb5' (by omega); have hl5 := hbr5.lt; have hf5 := hbr5.free; have hz5 := hb5'.size; have m0 := hbr5.cell (i := 0) (v := .int .i64 0) rfl; have m1 := hbr5.cell (i := 1) (v := .int .i64 0) rfl; have m2 := hbr5.cell (i := 2) (v := .slice none 0 0) rfl; have z0 := hgr5.cell (i := 0) (v := .int .i64 r) rfl; have z1 := hgr5.cell (i := 1) (v := .int .i64 c) rfl; have z2 := hgr5.cell (i := 2) (v := .slice a xs.length k) rfl)); all_goals (refine hK _ _ ⟨trivial, ?_⟩; clear hK K; go_simp)) | (refine ct_op ho4 rfl (fun K hK => ?_); go_simp; (skip); all_goals (refine hK _ _ ⟨trivial, ?_⟩; clear hK K; go_simp))
          all_goals clear ho4
          all_goals (apply ct_st ho5 rfl; (intro w2 hS; first | (go_simp; first | done | rfl) | rfl | (skip; go_simp; first | done | rfl)); simp only [Act.put, List.setIfInBounds_toArray, List.set_cons_zero, List.set_cons_succ])
          all_goals clear ho5
          all_goals (apply ct_st ho6 rfl; (intro w2 hS; first | (go_simp; first | done | rfl) | rfl | (skip; go_simp; first | done | rfl)); simp only [Act.put, List.setIfInBounds_toArray, List.set_cons_zero, List.set_cons_succ])
          all_goals clear ho6
          all_goals refine ct_one ?_
          all_goals first | (refine ct_op ho0 rfl (fun K hK => ?_); go_simp; ((go_at_call 28; (with_reducible refine (Next_c (g + 1) g 33 _ (hs2'.ext (by repeat (first | exact Ext.refl _ | assumption | refine Ext.drew ?_ | refine Ext.drewN ?_ _ | refine Ext.iter ?_ _ _ | refine Ext.alloc ?_ _ | refine Ext.setCell ?_ (by first | exact Nat.le_refl _ | (simp <;> omega)) _ | refine Ext.trans2 (by assumption) ?_))) (by omega)).mono ?_); rintro e w4 ⟨v1, rfl, hv0, hv1, -, hs4, hb4⟩; replace hv1 := hv1 (by omega); have hb4' : But g w3 w4 := (But.of (by repeat (first | exact Ext.refl _ | assumption | refine Ext.drew ?_ | refine Ext.drewN ?_ _ | refine Ext.iter ?_ _ _ | refine Ext.alloc ?_ _ | refine Ext.setCell ?_ (by first | exact Nat.le_refl _ | (simp <;> omega)) _ | refine Ext.trans2 (by assumption) ?_))).trans hb4; have hgr4 := hgr2.but hb4' hfg; have y0 := hgr4.cell (i := 0) (v := .int .i64 r) rfl; have y1 := hgr4.cell (i := 1) (v := .int .i64 c) rfl; have y2 := hgr4.cell (i := 2) (v := .slice a xs.length k) rfl)); all_goals (refine hK _ _ ⟨trivial, ?_⟩; clear hK K; go_simp)) | (refine ct_op ho0 rfl (fun K hK => ?_); go_simp; ((go_at_call 28; (with_reducible refine (Next_c (g + 1) g 20 _ (hs4.ext (by repeat (first | exact Ext.refl _ | assumption | refine Ext.drew ?_ | refine Ext.drewN ?_ _ | refine Ext.iter ?_ _ _ | refine Ext.alloc ?_ _ | refine Ext.setCell ?_ (by first | exact Nat.le_refl _ | (simp <;> omega)) _ | refine Ext.trans2 (by assumption) ?_))) (by omega)).mono ?_); rintro e w5 ⟨v2, rfl, hu0, hu1, -, hs5, hb5⟩; replace hu1 := hu1 (by omega); have hb5' : But g w3 w5 := (hb4'.trans (But.of (by repeat (first | exact Ext.refl _ | assumption | refine Ext.drew ?_ | refine Ext.drewN ?_ _ | refine Ext.iter ?_ _ _ | refine Ext.alloc ?_ _ | refine Ext.setCell ?_ (by first | exact Nat.le_refl _ | (simp <;> omega)) _ | refine Ext.trans2 (by assumption) ?_)))).trans hb5; have hgr5 := hgr2.but hb5' hfg; have hbr5 := hbr2.but hb5' (by omega); have hE5 := hE2.but hb5' (by omega); have ow5 := ho2'.but hb5' (by omega); have hl5 := hbr5.lt; have hf5 := hbr5.free; have hz5 := hb5'.size; have m0 := hbr5.cell (i := 0) (v := .int .i64 0) rfl; have m1 := hbr5.cell (i := 1) (v := .int .i64 0) rfl; have m2 := hbr5.cell (i := 2) (v := .slice none 0 0) rfl; have z0 := hgr5.cell (i := 0) (v := .int .i64 r) rfl; have z1 := hgr5.cell (i := 1) (v := .int .i64 c) rfl; have z2 := hgr5.cell (i := 2) (v := .slice a xs.length k) rfl)); all_goals (refine hK _ _ ⟨trivial, ?_⟩; clear hK K; go_simp)) | (refine ct_op ho0 rfl (fun K hK => ?_); go_simp; (skip); all_goals (refine hK _ _ ⟨trivial, ?_⟩; clear hK K; go_simp))
          all_goals clear ho0
          all_goals refine ct_one ?_
          all_goals first | (refine ct_op ho7 rfl (fun K hK => ?_); go_simp; ((go_at_call 28; (with_reducible refine (Next_c (g + 1) g 33 _ (hs2'.ext (by repeat (first | exact Ext.refl _ | assumption | refine Ext.drew ?_ | refine Ext.drewN ?_ _ | refine Ext.iter ?_ _ _ | refine Ext.alloc ?_ _ | refine Ext.setCell ?_ (by first | exact Nat.le_refl _ | (simp <;> omega)) _ | refine Ext.trans2 (by assumption) ?_))) (by omega)).mono ?_); rintro e w4 ⟨v1, rfl, hv0, hv1, -, hs4, hb4⟩; replace hv1 := hv1 (by omega); have hb4' : But g w3 w4 := (But.of (by repeat (first | exact Ext.refl _ | assumption | refine Ext.drew ?_ | refine Ext.drewN ?_ _ | refine Ext.iter ?_ _ _ | refine Ext.alloc ?_ _ | refine Ext.setCell ?_ (by first | exact Nat.le_refl _ | (simp <;> omega)) _ | refine Ext.trans2 (by assumption) ?_))).trans hb4; have hgr4 := hgr2.but hb4' hfg; have y0 := hgr4.cell (i := 0) (v := .int .i64 r) rfl; have y1 := hgr4.cell (i := 1) (v := .int .i64 c) rfl; have y2 := hgr4.cell (i := 2) (v := .slice a xs.length k) rfl)); all_goals (refine hK _ _ ⟨trivial, ?_⟩; clear hK K; go_simp)) | (refine ct_op ho7 rfl (fun K hK => ?_); go_simp; ((go_at_call 28; (with_reducible refine (Next_c (g + 1) g 20 _ (hs4.ext (by repeat (first | exact Ext.refl _ | assumption | refine Ext.drew ?_ | refine Ext.drewN ?_ _ | refine Ext.iter ?_ _ _ | refine Ext.alloc ?_ _ | refine Ext.setCell ?_ (by first | exact Nat.le_refl _ | (simp <;> omega)) _ | refine Ext.trans2 (by assumption) ?_))) (by omega)).mono ?_); rintro e w5 ⟨v2, rfl, hu0, hu1, -, hs5, hb5⟩; replace hu1 := hu1 (by omega); have hb5' : But g w3 w5 := (hb4'.trans (But.of (by repeat (first | exact Ext.refl _ | assumption | refine Ext.drew ?_ | refine Ext.drewN ?_ _ | refine Ext.iter ?_ _ _ | refine Ext.alloc ?_ _ | refine Ext.setCell ?_ (by first | exact Nat.le_refl _ | (simp <;> omega)) _ | refine Ext.trans2 (by assumption) ?_)))).trans hb5; have hgr5 := hgr2.but hb5' hfg; have hbr5 := hbr2.but hb5' (by omega); have hE5 := hE2.but hb5' (by omega); have ow5 := ho2'.but hb5' (by omega); have hl5 := hbr5.lt; have hf5 := hbr5.free; have hz5 := hb5'.size; have m0 := hbr5.cell (i := 0) (v := .int .i64 0) rfl; have m1 := hbr5.cell (i := 1) (v := .int .i64 0) rfl; have m2 := hbr5.cell (i := 2) (v := .slice none 0 0) rfl; have z0 := hgr5.cell (i := 0) (v := .int .i64 r) rfl; have z1 := hgr5.cell (i := 1) (v := .int .i64 c) rfl; have z2 := hgr5.cell (i := 2) (v := .slice a xs.length k) rfl)); all_goals (refine hK _ _ ⟨trivial, ?_⟩; clear hK K; go_simp)) | (refine ct_op ho7 rfl (fun K hK => ?_); go_simp; (skip); all_goals (refine hK _ _ ⟨trivial, ?_⟩; clear hK K; go_simp))
          all_goals clear ho7
          all_goals (apply ct_st ho8 rfl; (intro w2 hS; first | (go_simp; first | done | rfl) | rfl | (skip; go_simp; first | done | rfl)); simp only [Act.put, List.setIfInBounds_toArray, List.set_cons_zero, List.set_cons_succ])
          all_goals clear ho8
          all_goals refine ct_done (NoPanic.normal ?_)
  all_goals
    generalize IntKind.i64.wrap (v1 - IntKind.i64.wrap (v2.tdiv 19)) = v at *
    have hF := ((hbr5.set 0 (.int .i64 r)).set 1 (.int .i64 c)).set 2 (.slice a xs.length k)
    have c0 := hF.cell (i := 0) (v := .int .i64 r) rfl; have c1 := hF.cell (i := 1) (v := .int .i64 c) rfl; have c2 := hF.cell (i := 2) (v := .slice a xs.length k) rfl
    have hfin : GrvE w (.returned (.tuple #[vGrid r c a xs.length k, .int .i64 v])) (((w5.setCell ⟨w.heap.size, 0, none⟩ (.int .i64 r)).setCell ⟨w.heap.size, 1, none⟩ (.int .i64 c)).setCell ⟨w.heap.size, 2, none⟩ (.slice a xs.length k)) :=
      ⟨r, c, a, k, xs, v, rfl, hlx, hkx, (((ow5.setFar (by omega)).setFar (by omega)).setFar (by omega)).mono (by omega), ((hE5.setCell (p := ⟨w.heap.size, 0, none⟩) (Nat.le_refl _) _).setCell (p := ⟨w.heap.size, 1, none⟩) (Nat.le_refl _) _).setCell (p := ⟨w.heap.size, 2, none⟩) (Nat.le_refl _) _⟩
    clear hF hgr5 hbr5 hE5 ow5 m0 m1 m2 z0 z1 z2 y0 y1 y2
    go_wp2_with fail
    exact bodyPost_ret (v := .tuple #[vGrid r c a xs.length k, .int .i64 v]) (by simp [results, Try.results7, go_sem, c0, c1, c2]) rfl hfin
end Go.Proofs.Ythjklchmjeojjaa
