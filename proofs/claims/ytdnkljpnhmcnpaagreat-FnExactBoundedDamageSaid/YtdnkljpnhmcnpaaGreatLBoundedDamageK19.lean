/- Matrix grids: validity, cells at places, format words written and read. -/
import Derived.Test.YtdnkljpnhmcnpaaGreatLBoundedDamageK16
import Derived.Test.YtdnkljpnhmcnpaaGreatLBoundedDamageK17
import Derived.Test.YtdnkljpnhmcnpaaGreatLBoundedDamageK18
set_option linter.unusedVariables false
set_option linter.unusedSimpArgs false
namespace Go.Proofs.YtdnkljpnhmcnpaaGreat
open Go.RowKit

def sizOK (n : Int) : Prop := (17 ≤ n ∧ n ≤ 41) ∧ n % 4 = 1
def matOK (r c : Int) (xs : List Int) : Prop := gridOK r c xs ∧ r = c ∧ sizOK r
theorem iSize_c (n : Int) (w : World) : Calls Tryz.prog 81 #[.int .i64 n] w fun e w' => isB e (sizOK n) ∧ w = w' := by
 have hv : sizOK n ↔ (17 ≤ n ∧ n ≤ 41) ∧ n % 4 = 1 := Iff.rfl
 generalize sizOK n = I at *
 by_cases h0 : 0 ≤ n
 ·have e2 : n.tmod 4 = n % 4 := Int.tmod_eq_emod_of_nonneg h0
  replace hv := Lib.hid hv
  go_enter Tryz.func81, Tryz.ntmps81
  go_wp2_with (go_at_call 35; (with_reducible refine (inRange_c _ _ _ _).mono ?_); rintro e w1 ⟨⟨hP, rfl⟩ | ⟨hP, rfl⟩, rfl⟩)
  ·go_ret
   exact ⟨isB_m (by rw [hv.out]; simp [hP]), rfl⟩
  ·go_ret
   exact ⟨isB_f (fun h => hP (hv.out.1 h).1), rfl⟩
 ·replace hv := Lib.hid hv
  go_enter Tryz.func81, Tryz.ntmps81
  go_wp2_with ((go_at_call 35; (with_reducible refine (inRange_c _ _ _ _).mono ?_); rintro e w1 ⟨⟨hP, rfl⟩ | ⟨hP, rfl⟩, rfl⟩) <;> first | (exfalso; omega) | skip)
  go_ret
  exact ⟨isB_f (fun h => hP (hv.out.1 h).1), rfl⟩
theorem sSize_c (n : Int) (w : World) : Calls Tryz.prog 73 #[.int .i64 n] w fun e w' => isB e (sizOK n) ∧ w = w' := by
 have hv : sizOK n ↔ (17 ≤ n ∧ n ≤ 41) ∧ n % 4 = 1 := Iff.rfl
 generalize sizOK n = I at *
 by_cases h0 : 0 ≤ n
 ·have e2 : n.tmod 4 = n % 4 := Int.tmod_eq_emod_of_nonneg h0
  replace hv := Lib.hid hv
  go_enter Tryz.func73, Tryz.ntmps73
  go_wp2_with (go_at_call 29; (with_reducible refine (l01In_c _ _ _ _).mono ?_); rintro e w1 ⟨⟨hP, rfl⟩ | ⟨hP, rfl⟩, rfl⟩)
  ·go_ret
   exact ⟨isB_m (by rw [hv.out]; simp [hP]), rfl⟩
  ·go_ret
   exact ⟨isB_f (fun h => hP (hv.out.1 h).1), rfl⟩
 ·replace hv := Lib.hid hv
  go_enter Tryz.func73, Tryz.ntmps73
  go_wp2_with ((go_at_call 29; (with_reducible refine (l01In_c _ _ _ _).mono ?_); rintro e w1 ⟨⟨hP, rfl⟩ | ⟨hP, rfl⟩, rfl⟩) <;> first | (exfalso; omega) | skip)
  go_ret
  exact ⟨isB_f (fun h => hP (hv.out.1 h).1), rfl⟩
def plIx (n : Nat) (p : Int × Int) : Nat := (p.1 * n + p.2).toNat
theorem plIx_eq {n : Nat} {p : Int × Int} (h1 : 0 ≤ p.1 ∧ p.1 < n) (h2 : 0 ≤ p.2 ∧ p.2 < n) : p.1 * (n : Int) + p.2 = (plIx n p : Int) ∧ plIx n p < n * n ∧ 0 ≤ p.1 * (n : Int) := by
 obtain ⟨r, c⟩ := p
 simp only at h1 h2
 obtain ⟨a, rfl⟩ := Int.eq_ofNat_of_zero_le h1.1
 obtain ⟨b, rfl⟩ := Int.eq_ofNat_of_zero_le h2.1
 have h3 : a < n := by omega
 have h4 : b < n := by omega
 have h5 : (a + 1) * n ≤ n * n := Nat.mul_le_mul_right n h3
 rw [Nat.add_mul, Nat.one_mul] at h5
 have e : ((a : Int) * (n : Int) + (b : Int)) = ((a * n + b : Nat) : Int) := by simp
 have e2 : plIx n ((a : Int), (b : Int)) = a * n + b := by
  show ((a : Int) * (n : Int) + (b : Int)).toNat = _
  rw [e]; exact Int.toNat_natCast _
 refine ⟨by rw [e2]; exact e, by rw [e2]; omega, Int.mul_nonneg (by omega) (by omega)⟩
theorem aPl_bd : ∀ p ∈ aPl, (0 ≤ p.1 ∧ p.1 ≤ 8) ∧ (0 ≤ p.2 ∧ p.2 ≤ 8) := by decide
theorem bPl_bd {n : Nat} (hn : 17 ≤ n) : ∀ p ∈ bPl n, (0 ≤ p.1 ∧ p.1 < n) ∧ (0 ≤ p.2 ∧ p.2 < n) := by
 intro p hp
 simp only [bPl, List.mem_cons, List.not_mem_nil, or_false] at hp
 rcases hp with rfl | rfl | rfl | rfl | rfl | rfl | rfl | rfl | rfl | rfl | rfl | rfl | rfl | rfl | rfl <;> simp only <;> omega
theorem aPl_in {n : Nat} (hn : 17 ≤ n) : ∀ p ∈ aPl, (0 ≤ p.1 ∧ p.1 < n) ∧ (0 ≤ p.2 ∧ p.2 < n) := fun p hp => by have := aPl_bd p hp; omega
def pFmt (n : Nat) (ws xs : List Int) : Nat → List Int
 | 0 => xs
 | k + 1 => ((pFmt n ws xs k).set (plIx n (aPl.getD k (0, 0))) (ws.getD k 0)).set (plIx n ((bPl n).getD k (0, 0))) (ws.getD k 0)
theorem pFmt_len (n : Nat) (ws xs : List Int) : ∀ k, (pFmt n ws xs k).length = xs.length
 | 0 => rfl
 | k + 1 => by simp [pFmt, pFmt_len n ws xs k]
def cellsL (n : Nat) (xs : List Int) (ps : List (Int × Int)) : List Int := ps.map fun p => xs.getD (plIx n p) 0
theorem SAt.pl2 {w : World} {p : Option Addr} {ps : List (Int × Int)} (h : PlAt w p ps) {k : Nat} (hk : k < ps.length) : ∃ b o, p = some ⟨b, o, none⟩ ∧ b < w.heap.size ∧ w.cell? ⟨b, o + k * 2, none⟩ = some (.int .i64 (ps.getD k (0, 0)).1) ∧ w.cell? ⟨b, o + k * 2 + 1, none⟩ = some (.int .i64 (ps.getD k (0, 0)).2) := by
 obtain ⟨b, o, h1, h2, h3⟩ := h k hk
 refine ⟨b, o, h1, h2, ?_, ?_⟩
 ·rw [List.getD_eq_getElem?_getD, List.getElem?_eq_getElem hk]
  exact h3 0 _ rfl
 ·rw [List.getD_eq_getElem?_getD, List.getElem?_eq_getElem hk]
  exact h3 1 _ rfl
theorem getD_mem {α : Type} {l : List α} {k : Nat} {d : α} (h : k < l.length) : l.getD k d ∈ l := by
 rw [List.getD_eq_getElem?_getD, List.getElem?_eq_getElem h]; exact List.getElem_mem _
theorem RowS.nfree {α : Type} {f : α → List Value} {k : Nat} {e : TypeId} {B : Nat} {w : World} {v : Value} {xs : List α} (hf : ∀ x, (f x).length = k) (h : RowS e f k B w v xs) : ∃ p c, v = .slice p xs.length c ∧ SAt f k w p xs ∧ ∀ b o, p = some ⟨b, o, none⟩ → B ≤ b ∧ b < w.heap.size := by
 obtain ⟨p, c, hv, ho⟩ := h.own hf
 refine ⟨p, c, hv, ho.sat, fun b o hp => h.lt b (by rw [hv, hp]; rfl)⟩
theorem SAt.butF {α : Type} {f : α → List Value} {k g : Nat} {w w' : World} {p : Option Addr} {xs : List α} (h : SAt f k w p xs) (hb : But g w w') (hne : ∀ b o, p = some ⟨b, o, none⟩ → b ≠ g) : SAt f k w' p xs := fun i hi => by
 obtain ⟨b, o, h1, h2, h3⟩ := h i hi
 obtain ⟨hc, hf, hk, _⟩ := bucell hb
 exact ⟨b, o, h1, hk _ h2, fun j v hv => by rw [hc _ _ h2 (hne b o h1)]; exact h3 j v hv⟩
theorem IntsAt.butF {g : Nat} {w w' : World} {p : Option Addr} {xs : List Int} (h : IntsAt w p xs) (hb : But g w w') (hne : ∀ b o, p = some ⟨b, o, none⟩ → b ≠ g) : IntsAt w' p xs := fun i hi => by
 obtain ⟨b, o, h1, h2, h3⟩ := h i hi
 obtain ⟨hc, hf, hk, _⟩ := bucell hb
 exact ⟨b, o, h1, hk _ h2, by rw [hc _ _ h2 (hne b o h1)]; exact h3⟩
open Go.RowKit

theorem OwnInts.setFarN {B g i b o : Nat} {w : World} {xs : List Int} {v : Value} (h : OwnInts B w (some ⟨b, o, none⟩) xs) (hg : b ≠ g) : OwnInts B (w.setCell ⟨g, i, none⟩ v) (some ⟨b, o, none⟩) xs :=
 h.keep (by simp [World.setCell]) fun b' o' hn hq _ => by
  simp only [Option.some.injEq, Addr.mk.injEq] at hq
  obtain ⟨rfl, -⟩ := hq
  exact Below.heap_setCell w ⟨g, i, none⟩ v b hg
theorem But.setG {g i : Nat} {a b : World} (h : But g a b) (v : Value) : But g a (b.setCell ⟨g, i, none⟩ v) := h.trans (But.set b g i v)
open Classical in
noncomputable def rfV (r c : Int) (xs : List Int) : Int × Int :=
 if ¬ matOK r c xs then (0, 1) else shareV (cellsL r.toNat xs aPl) (cellsL r.toNat xs (bPl r))
open Go.RowKit

set_option maxHeartbeats 1600000 in
set_option maxRecDepth 100000 in
theorem sPut_c (n v k : Nat) (p : Option Addr) (xs : List Int) (w : World) (hv : v < 32) (hn : 17 ≤ n ∧ n ≤ 41) (hx : IntsAt w p xs) (hlen : xs.length = n * n) :
  Calls Tryz.prog 31 #[vGrid n n p xs.length k, .int .i64 v] w fun e w' => GrdR n n (pFmt n (fmtW v) xs 15) w.heap.size e w' ∧ Ext w w' := by
 have HX := Lib.hid hx; clear hx
 have hN : n * n ≤ 1681 := Nat.mul_le_mul hn.2 hn.2
 have hN1 : 0 < n * n := Nat.mul_pos (by omega) (by omega)
 have hb := (Blk.new w #[.int .i64 n, .int .i64 n, .slice p xs.length k] 28).alloc (.cells #[.int .i64 0, .int .i64 0, .slice none 0 0] 28)
 have h0 := Blk.new (w.alloc (.cells #[.int .i64 n, .int .i64 n, .slice p xs.length k] 28)) #[.int .i64 0, .int .i64 0, .slice none 0 0] 28
 have hx0 : Ext w ((w.alloc (.cells #[.int .i64 n, .int .i64 n, .slice p xs.length k] 28)).alloc (.cells #[.int .i64 0, .int .i64 0, .slice none 0 0] 28)) := ((Ext.refl w).alloc _).alloc _
 simp only [World.size_alloc] at h0
 have hown := Lib.hid (fun W (h : IntsAt W p xs) => sOwn_c p k xs W h (by omega))
 have hwd := Lib.hid (fun W => sWord_c v W hv)
 have hfm := Lib.hid (fun W => sFormats_c n W (by omega))
 have hfl := Lib.hid (fmtW_len v)
 have hlen0 := hlen
 replace hlen := Lib.hid hlen
 have hbound : xs.length ≤ 1681 := by rw [hlen0]; exact hN
 clear hlen0
 have hpfl := Lib.hid (fun j => pFmt_len n (fmtW v) xs j)
 have hba := Lib.hid (aPl_in (n := n) hn.1)
 have hbb := Lib.hid (bPl_bd (n := n) hn.1)
 have hwd2 : ∀ W, Calls Tryz.prog 76 #[vStd, .int .i64 v] W fun e w' => (∃ p c, e = .returned (.slice p 15 c) ∧ OwnInts W.heap.size w' p (fmtW v)) ∧ Ext W w' := hwd.out
 replace hwd := Lib.hid hwd2
 clear hwd2
 generalize fmtW v = ws at *
 go_enter Tryz.func31, Tryz.ntmps31
 go_wp2_with fail
 generalize (w.alloc (.cells #[.int .i64 n, .int .i64 n, .slice p xs.length k] 28)).alloc (.cells #[.int .i64 0, .int .i64 0, .slice none 0 0] 28) = w0 at *
 go_wp2_with fail
 refine (hown.out _ (HX.out.ext hx0)).mono ?_
 rintro e w1 ⟨⟨vo, rfl, hrow⟩, hx1⟩
 obtain ⟨q, kq, rfl, oq, hkq⟩ := hrow.ownC
 clear hrow
 obtain ⟨b, o, rfl, hbB, hbl, -⟩ := oq 0 (by rw [hlen.out]; exact hN1)
 have h0l := h0.lt
 have hbl0 := hb.lt
 have hx01 := hx0.trans hx1
 have hbw : w.heap.size ≤ b := by have := hx0.below.size; omega
 have hne0 : w.heap.size + 1 ≠ b := by omega
 have hneb : w.heap.size ≠ b := by omega
 go_wp2_with (first
  | (go_at_call 77; (with_reducible refine (sStdFmt_c _).mono ?_); rintro e w2 ⟨rfl, hx2⟩)
  | (go_at_call 76; (with_reducible refine (hwd.out _).mono ?_); rintro e w3 ⟨⟨pw, cw, rfl, how⟩, hx3⟩; have hx13 := hx2.trans hx3; have hb3 := (hb.ext hx1).ext hx13; have q0 := hb3.cell (i := 0) (v := .int .i64 n) rfl; have ql := hb3.lt)
  | (go_at_call 78; (with_reducible refine (hfm.out _).mono ?_); rintro e w4 ⟨⟨va, vb, rfl, hra, hrb, -⟩, hx4⟩; obtain ⟨pa, ca, rfl, haA, hna⟩ := hra.nfree plF_len; obtain ⟨pb, cb, rfl, haB, hnb2⟩ := hrb.nfree plF_len))
 rw [show aPl.length = 15 from rfl, show (bPl n).length = 15 from rfl]
 have hx14 : Ext w1 w4 := hx13.trans hx4
 have hz1 := hx1.below.size
 have hz2 := hx2.below.size
 have hz3 := hx3.below.size
 have hW := how.ints.ext hx4
 have hnw : ∀ b' o', pw = some ⟨b', o', none⟩ → w1.heap.size ≤ b' := fun b' o' hp => by
  have := (how.lt0 (fun e => by have := hfl.out; rw [e] at this; simp at this) hp).1
  omega
 replace hna := Lib.hid hna; replace hnb2 := Lib.hid hnb2; replace hnw := Lib.hid hnw
 replace haA := Lib.hid haA; replace haB := Lib.hid haB; replace hW := Lib.hid hW
 replace oq := oq.ext hx14
 have hb4 := (hb.ext hx1).ext hx14
 have h04 := (h0.ext hx1).ext hx14
 have hx04 := hx01.trans hx14
 have oq4 := oq.mono (B' := w.heap.size) (by omega)
 clear q0 ql hra hrb hb h0 hb3 how hx3 hx4 hx2 hx13 oq hown hfm hwd
 go_loopw [9] (fun i wr => ∃ j : Nat, j ≤ 15 ∧ i = .int .i64 j ∧ OwnInts w.heap.size wr (some ⟨b, o, none⟩) (pFmt n ws xs j) ∧ But b w4 wr) (fun i _ => 15 - (intOf i).toNat)
 case atStart => exact ⟨0, by omega, rfl, oq4, But.refl _ _⟩
 case round =>
  clear oq4
  obtain ⟨j, hj, rfl, hown, hB⟩ := hrel
  by_cases hlt : j < 15
  ·obtain ⟨ba, oa, rfl, hal, za0, za1⟩ := (haA.out.butF hB (fun b' o' hp => by have := (hna.out b' o' hp).1; omega)).pl2 (k := j) hlt
   obtain ⟨bb, ob, rfl, hbl', zb0, zb1⟩ := (haB.out.butF hB (fun b' o' hp => by have := (hnb2.out b' o' hp).1; omega)).pl2 (k := j) hlt
   obtain ⟨bw, ow, rfl, hwl, zw⟩ := (hW.out.butF hB (fun b' o' hp => by have := hnw.out b' o' hp; omega)) j (by rw [hfl.out]; exact hlt)
   have na : ba ≠ b := by have := (hna.out ba oa rfl).1; omega
   have nb : bb ≠ b := by have := (hnb2.out bb ob rfl).1; omega
   have nw : bw ≠ b := by have := hnw.out bw ow rfl; omega
   have ia := plIx_eq (n := n) (p := aPl.getD j (0, 0)) (hba.out _ (getD_mem hlt)).1 (hba.out _ (getD_mem hlt)).2
   have ib := plIx_eq (n := n) (p := (bPl n).getD j (0, 0)) (hbb.out _ (getD_mem hlt)).1 (hbb.out _ (getD_mem hlt)).2
   have ba2 := (hba.out (aPl.getD j (0, 0)) (getD_mem hlt)).2.1
   have bb2 := (hbb.out ((bPl n).getD j (0, 0)) (getD_mem hlt)).2.1
   have hst : pFmt n ws xs (j + 1) = ((pFmt n ws xs j).set (plIx n (aPl.getD j (0, 0))) (ws.getD j 0)).set (plIx n ((bPl n).getD j (0, 0))) (ws.getD j 0) := rfl
   have hpl := hpfl.out j
   have hq := hb4.but hB hneb
   have q1 := hq.cell (i := 1) (v := .int .i64 n) rfl
   have ql := hq.lt
   generalize aPl.getD j (0, 0) = A at *
   generalize (bPl n).getD j (0, 0) = D at *
   obtain ⟨ar, ac⟩ := A
   obtain ⟨dr, dc⟩ := D
   generalize plIx n (ar, ac) = ai at *
   generalize plIx n (dr, dc) = di at *
   generalize ws.getD j 0 = x at *
   simp only at za0 za1 zb0 zb1 ia ib ba2 bb2
   obtain ⟨L1, hL1⟩ : ∃ z, pFmt n ws xs (j + 1) = z := ⟨_, rfl⟩
   rw [hL1] at hst
   generalize pFmt n ws xs j = L at *
   obtain ⟨hia, hia2, hia3⟩ := ia
   obtain ⟨hib, hib2, hib3⟩ := ib
   have hLn : L.length = n * n := by rw [hpl, hlen.out]
   have hs1 := hown.set (k := ai) rfl (by omega) x
   have hs2 := hs1.set (k := di) rfl (by rw [List.length_set]; omega) x
   rw [← hst] at hs2
   obtain ⟨b1, o1, e1, -, -, ya, yaf⟩ := hown ai (by omega)
   simp only [Option.some.injEq, Addr.mk.injEq] at e1
   obtain ⟨rfl, rfl, -⟩ := e1
   obtain ⟨b2, o2, e2, -, -, yd, ydf⟩ := hs1 di (by rw [List.length_set]; omega)
   simp only [Option.some.injEq, Addr.mk.injEq] at e2
   obtain ⟨rfl, rfl, -⟩ := e2
   have hbw1 : b < wr.heap.size := by
    obtain ⟨b3, o3, e3, -, h3, -⟩ := hown ai (by omega)
    simp at e3; omega
   generalize L.getD ai 0 = v1 at *
   generalize (L.set ai x).getD di 0 = v2 at *
   obtain ⟨M1, hM1⟩ : ∃ M : Int, ar * (n : Int) = M := ⟨_, rfl⟩
   obtain ⟨M2, hM2⟩ : ∃ M : Int, dr * (n : Int) = M := ⟨_, rfl⟩
   rw [hM1] at hia hia3
   rw [hM2] at hib hib3
   have w1' := IntWalk.i64_in M1 (by omega)
   have w2' := IntWalk.i64_in (ai : Int) (by omega)
   have w3' := IntWalk.i64_in M2 (by omega)
   have w4' := IntWalk.i64_in (di : Int) (by omega)
   have lai : (ai : Int) < (xs.length : Int) := by rw [hlen.out]; omega
   have ldi : (di : Int) < (xs.length : Int) := by rw [hlen.out]; omega
   replace hst := Lib.hid hst; replace hL1 := Lib.hid hL1; replace hs1 := Lib.hid hs1; replace hs2 := Lib.hid hs2
   clear hpl hLn hown
   go_wp2_with fail
   refine wp_region_canon (fun w' => But b wr w') [(0, true), (1, true), (2, true), (3, true), (4, true), (5, true), (6, true), (7, true), (8, true), (9, true), (10, true), (11, true), (12, true), (13, true), (14, true), (15, true), (16, true), (17, true), (18, true), (19, true), (20, false)] (by kernel_rfl) (by kernel_rfl) (by decide) (by kernel_rfl) ?_ ?_
   ·exact (But.refl _ _).drew
   refine canon_intro fun ops eo => ?_
   replace eo := canon_eo eo
   iterate 20 all_goals (refine cS eo rfl rfl evB ?_; simp only [ptN])
   all_goals first | (refine canon_ef (eo.out 20 rfl) rfl (fun K hK => ?_); go_simp; (skip); all_goals (refine hK _ _ ⟨(by first | exact (But.refl _ _).drew | exact (But.refl b wr).drew.setG _), ?_⟩; clear hK K; go_simp))
   all_goals (clear eo; refine canon_done (NoPanic.normal ?_))
   have hB7 : But b wr (wr.setCell ⟨b, o + ai, none⟩ (.int .i64 x)).drew := ((But.refl b wr).setG _).drew
   obtain ⟨bc5, -, bk5, -⟩ := bucell hB7
   have yb0 := (bc5 bb (ob + j * 2) hbl' nb).trans zb0
   have yb1 := (bc5 bb (ob + j * 2 + 1) hbl' nb).trans zb1
   have yw := (bc5 bw (ow + j) hwl nw).trans zw
   have yl := bk5 bb hbl'
   have ywl := bk5 bw hwl
   have ybl := bk5 b hbw1
   have hq5 := hq.but hB7 hneb
   have hs7 : OwnInts w.heap.size ((wr.setCell ⟨b, o + ai, none⟩ (.int .i64 x)).drew.setCell ⟨b, o + di, none⟩ (.int .i64 x)) (some ⟨b, o, none⟩) L1 := hs2.out.ext (Ext.refl _).drew
   have yd7 : (wr.setCell ⟨b, o + ai, none⟩ (.int .i64 x)).drew.cell? ⟨b, o + di, none⟩ = some (.int .i64 v2) := yd
   have ydf7 : (wr.setCell ⟨b, o + ai, none⟩ (.int .i64 x)).drew.frozen? ⟨b, o + di, none⟩ = false := ydf
   replace hs7 := Lib.hid hs7
   clear q1 ql za0 za1 zb0 zb1 zw hwl hal hbl' bc5 bk5 hq yd ydf ya yaf hs1 hs2
   generalize (wr.setCell ⟨b, o + ai, none⟩ (.int .i64 x)).drew = w7 at *
   have q1 := hq5.cell (i := 1) (v := .int .i64 n) rfl
   have ql := hq5.lt
   go_wp2_with fail
   refine wp_region_canon (fun w' => But b w7 w') [(0, true), (1, true), (2, true), (3, true), (4, true), (5, true), (6, true), (7, true), (8, true), (9, true), (10, true), (11, true), (12, true), (13, true), (14, true), (15, true), (16, true), (17, true), (18, true), (19, true), (20, false)] (by kernel_rfl) (by kernel_rfl) (by decide) (by kernel_rfl) ?_ ?_
   ·exact (But.refl _ _).drew
   refine canon_intro fun ops eo => ?_
   replace eo := canon_eo eo
   iterate 20 all_goals (refine cS eo rfl rfl evB ?_; simp only [ptN])
   all_goals first | (refine canon_ef (eo.out 20 rfl) rfl (fun K hK => ?_); go_simp; (skip); all_goals (refine hK _ _ ⟨(by first | exact (But.refl _ _).drew | exact (But.refl b w7).drew.setG _), ?_⟩; clear hK K; go_simp))
   all_goals (clear eo; refine canon_done (NoPanic.normal ?_))
   have hB8 : But b w7 (w7.setCell ⟨b, o + di, none⟩ (.int .i64 x)).drew := ((But.refl b w7).setG _).drew
   have hs8 : OwnInts w.heap.size (w7.setCell ⟨b, o + di, none⟩ (.int .i64 x)).drew (some ⟨b, o, none⟩) L1 := hs7.out.ext (Ext.refl _).drew
   clear q1 ql yb0 yb1 yw yl ywl ybl yd7 ydf7 hs7 hM1 hM2 hia hib w1' w2' w3' w4'
   generalize (w7.setCell ⟨b, o + di, none⟩ (.int .i64 x)).drew = w8 at *
   go_wp2_with fail
   go_roundw
   case rel => exact ⟨j + 1, hlt, by go_num, by rw [hL1.out]; exact hs8, (hB.trans hB7).trans hB8⟩
   case measure => simp [intOf]; omega
  ·obtain rfl : j = 15 := by omega
   have hb5 := hb4.but hB hneb
   have h05 := h04.but hB hne0
   have hx05 := hx04.but hB hbw
   have q0 := hb5.cell (i := 0) (v := .int .i64 n) rfl
   have q1 := hb5.cell (i := 1) (v := .int .i64 n) rfl
   have ql := hb5.lt
   have z0 := h05.cell (i := 0) (v := .int .i64 0) rfl
   have z1 := h05.cell (i := 1) (v := .int .i64 0) rfl
   have z2 := h05.cell (i := 2) (v := .slice none 0 0) rfl
   have zl := h05.lt
   have zf := h05.free
   have hF := ((h05.set 0 (.int .i64 n)).set 1 (.int .i64 n)).set 2 (.slice (some ⟨b, o, none⟩) xs.length kq)
   have C0 := Lib.hid (hF.cell (i := 0) (v := .int .i64 n) rfl); have C1 := Lib.hid (hF.cell (i := 1) (v := .int .i64 n) rfl); have C2 := Lib.hid (hF.cell (i := 2) (v := .slice (some ⟨b, o, none⟩) xs.length kq) rfl)
   have hx9 := Lib.hid (((hx05.setCell (p := ⟨w.heap.size + 1, 0, none⟩) (Nat.le_succ _) (.int .i64 n)).setCell (p := ⟨w.heap.size + 1, 1, none⟩) (Nat.le_succ _) (.int .i64 n)).setCell (p := ⟨w.heap.size + 1, 2, none⟩) (Nat.le_succ _) (.slice (some ⟨b, o, none⟩) xs.length kq))
   have oq9 := Lib.hid (((hown.setFarN (g := w.heap.size + 1) (i := 0) (v := .int .i64 n) (by omega)).setFarN (g := w.heap.size + 1) (i := 1) (v := .int .i64 n) (by omega)).setFarN (g := w.heap.size + 1) (i := 2) (v := .slice (some ⟨b, o, none⟩) xs.length kq) (by omega))
   clear hF h05 h04 hb4 hb5 hx05 hown
   go_wp2_with fail
   have c0 := C0.out; have c1 := C1.out; have c2 := C2.out
   have hpl := hpfl.out 15
   exact bodyPost_ret (v := vGrid n n (some ⟨b, o, none⟩) xs.length kq) (by simp [results, Tryz.results31, go_sem, c0, c1, c2]) rfl ⟨⟨some ⟨b, o, none⟩, kq, by rw [hpl], oq9.out, by rw [hpl]; exact hkq⟩, hx9.out⟩
open Go.RowKit

end Go.Proofs.YtdnkljpnhmcnpaaGreat
