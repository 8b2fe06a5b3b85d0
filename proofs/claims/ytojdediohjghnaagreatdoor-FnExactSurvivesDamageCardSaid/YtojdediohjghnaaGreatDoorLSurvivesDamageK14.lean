/- Matrix grids: validity, cells at places, format words written and read. -/
import Derived.Test.YtojdediohjghnaaGreatDoorLSurvivesDamageK08
import Derived.Test.YtojdediohjghnaaGreatDoorLSurvivesDamageK09
import Derived.Test.YtojdediohjghnaaGreatDoorLSurvivesDamageK10
import Derived.Test.YtojdediohjghnaaGreatDoorLSurvivesDamageK13
set_option linter.unusedVariables false
set_option linter.unusedSimpArgs false
namespace Go.Proofs.YtojdediohjghnaaGreatDoor
open Go.RowKit

def sizOK (n : Int) : Prop := (17 ≤ n ∧ n ≤ 41) ∧ n % 4 = 1
def matOK (r c : Int) (xs : List Int) : Prop := gridOK r c xs ∧ r = c ∧ sizOK r
theorem iSize_c (n : Int) (w : World) : Calls Tryz.prog 132 #[.int .i64 n] w fun e w' => isB e (sizOK n) ∧ w = w' := by
 have hv : sizOK n ↔ (17 ≤ n ∧ n ≤ 41) ∧ n % 4 = 1 := Iff.rfl
 generalize sizOK n = I at *
 by_cases h0 : 0 ≤ n
 ·have e2 : n.tmod 4 = n % 4 := Int.tmod_eq_emod_of_nonneg h0
  replace hv := Lib.hid hv
  go_enter Tryz.func132, Tryz.ntmps132
  go_wp2_with (go_at_call 85; (with_reducible refine (inRange_c _ _ _ _).mono ?_); rintro e w1 ⟨⟨hP, rfl⟩ | ⟨hP, rfl⟩, rfl⟩)
  ·go_ret
   exact ⟨isB_m (by rw [hv.out]; simp [hP]), rfl⟩
  ·go_ret
   exact ⟨isB_f (fun h => hP (hv.out.1 h).1), rfl⟩
 ·replace hv := Lib.hid hv
  go_enter Tryz.func132, Tryz.ntmps132
  go_wp2_with ((go_at_call 85; (with_reducible refine (inRange_c _ _ _ _).mono ?_); rintro e w1 ⟨⟨hP, rfl⟩ | ⟨hP, rfl⟩, rfl⟩) <;> first | (exfalso; omega) | skip)
  go_ret
  exact ⟨isB_f (fun h => hP (hv.out.1 h).1), rfl⟩
theorem sSize_c (n : Int) (w : World) : Calls Tryz.prog 107 #[.int .i64 n] w fun e w' => isB e (sizOK n) ∧ w = w' := by
 have hv : sizOK n ↔ (17 ≤ n ∧ n ≤ 41) ∧ n % 4 = 1 := Iff.rfl
 generalize sizOK n = I at *
 by_cases h0 : 0 ≤ n
 ·have e2 : n.tmod 4 = n % 4 := Int.tmod_eq_emod_of_nonneg h0
  replace hv := Lib.hid hv
  go_enter Tryz.func107, Tryz.ntmps107
  go_wp2_with (go_at_call 37; (with_reducible refine (l01In_c _ _ _ _).mono ?_); rintro e w1 ⟨⟨hP, rfl⟩ | ⟨hP, rfl⟩, rfl⟩)
  ·go_ret
   exact ⟨isB_m (by rw [hv.out]; simp [hP]), rfl⟩
  ·go_ret
   exact ⟨isB_f (fun h => hP (hv.out.1 h).1), rfl⟩
 ·replace hv := Lib.hid hv
  go_enter Tryz.func107, Tryz.ntmps107
  go_wp2_with ((go_at_call 37; (with_reducible refine (l01In_c _ _ _ _).mono ?_); rintro e w1 ⟨⟨hP, rfl⟩ | ⟨hP, rfl⟩, rfl⟩) <;> first | (exfalso; omega) | skip)
  go_ret
  exact ⟨isB_f (fun h => hP (hv.out.1 h).1), rfl⟩
set_option maxRecDepth 100000 in
theorem iMat_c (r c : Int) (p : Option Addr) (k : Nat) (xs : List Int) (w : World) (hx : IntsAt w p xs) (hl : xs.length ≤ 1048576) :
  Calls Tryz.prog 163 #[vGrid r c p xs.length k] w fun e w' => isB e (matOK r c xs) ∧ Ext w w' := by
 have HX := Lib.hid hx; clear hx
 have hb := Blk.new w #[.int .i64 r, .int .i64 c, .slice p xs.length k] 37
 have hx0 : Ext w (w.alloc (.cells #[.int .i64 r, .int .i64 c, .slice p xs.length k] 37)) := (Ext.refl w).alloc _
 have hig := Lib.hid (fun W (h : IntsAt W p xs) => iIsGrid_c r c p k xs W h hl)
 have hsz := Lib.hid (fun W => iSize_c r W)
 have hv := Lib.hid (show matOK r c xs ↔ gridOK r c xs ∧ r = c ∧ sizOK r from Iff.rfl)
 have hd : (r == c) = true ∧ r = c ∨ (r == c) = false ∧ ¬ r = c := by by_cases h : r = c <;> simp [h]
 generalize matOK r c xs = M at *
 generalize gridOK r c xs = G at *
 generalize sizOK r = Z at *
 rcases hd with ⟨hd, h6⟩ | ⟨hd, h6⟩
 all_goals
  replace h6 := Lib.hid h6
  go_enter Tryz.func163, Tryz.ntmps163
  go_wp2_with (first
   | (go_at_call 132; (with_reducible refine (hsz.out _).mono ?_); rintro e w1 ⟨⟨hP, rfl⟩ | ⟨hP, rfl⟩, rfl⟩)
   | (go_at_call 114; (with_reducible refine (hig.out _ (HX.out.ext hx0)).mono ?_); rintro e w2 ⟨⟨hQ, rfl⟩ | ⟨hQ, rfl⟩, hx2⟩; all_goals (have hb1 := hb.ext hx2; have f0 := hb1.cell (i := 0) (v := .int .i64 r) rfl; have f1 := hb1.cell (i := 1) (v := .int .i64 c) rfl; have fl := hb1.lt)))
  all_goals
   go_ret
   first
    | exact ⟨isB_t (hv.out.2 ⟨hQ, h6.out, hP⟩), eX⟩
    | exact ⟨isB_f (fun h => hP (hv.out.1 h).2.2), eX⟩
    | exact ⟨isB_f (fun h => hQ (hv.out.1 h).1), eX⟩
    | exact ⟨isB_f (fun h => h6.out (hv.out.1 h).2.1), eX⟩
    | exact ⟨isB_f (fun h => hP (hv.out.1 h).2.2), hx0.trans hx2⟩
    | exact ⟨isB_f (fun h => hQ (hv.out.1 h).1), hx0.trans hx2⟩
    | exact ⟨isB_f (fun h => h6.out (hv.out.1 h).2.1), hx0.trans hx2⟩
    | exact ⟨isB_t (hv.out.2 ⟨hQ, h6.out, hP⟩), hx0.trans hx2⟩
set_option maxRecDepth 100000 in
theorem sMat_c (r c : Int) (p : Option Addr) (k : Nat) (xs : List Int) (w : World) (hx : IntsAt w p xs) (hl : xs.length ≤ 1048576) :
  Calls Tryz.prog 66 #[vGrid r c p xs.length k] w fun e w' => isB e (matOK r c xs) ∧ Ext w w' := by
 have HX := Lib.hid hx; clear hx
 have hb := Blk.new w #[.int .i64 r, .int .i64 c, .slice p xs.length k] 37
 have hx0 : Ext w (w.alloc (.cells #[.int .i64 r, .int .i64 c, .slice p xs.length k] 37)) := (Ext.refl w).alloc _
 have hig := Lib.hid (fun W (h : IntsAt W p xs) => sIsGrid_c r c p k xs W h hl)
 have hsz := Lib.hid (fun W => sSize_c r W)
 have hv := Lib.hid (show matOK r c xs ↔ gridOK r c xs ∧ r = c ∧ sizOK r from Iff.rfl)
 have hd : (r == c) = true ∧ r = c ∨ (r == c) = false ∧ ¬ r = c := by by_cases h : r = c <;> simp [h]
 generalize matOK r c xs = M at *
 generalize gridOK r c xs = G at *
 generalize sizOK r = Z at *
 rcases hd with ⟨hd, h6⟩ | ⟨hd, h6⟩
 all_goals
  replace h6 := Lib.hid h6
  go_enter Tryz.func66, Tryz.ntmps66
  go_wp2_with (first
   | (go_at_call 107; (with_reducible refine (hsz.out _).mono ?_); rintro e w1 ⟨⟨hP, rfl⟩ | ⟨hP, rfl⟩, rfl⟩)
   | (go_at_call 106; (with_reducible refine (hig.out _ (HX.out.ext hx0)).mono ?_); rintro e w2 ⟨⟨hQ, rfl⟩ | ⟨hQ, rfl⟩, hx2⟩; all_goals (have hb1 := hb.ext hx2; have f0 := hb1.cell (i := 0) (v := .int .i64 r) rfl; have f1 := hb1.cell (i := 1) (v := .int .i64 c) rfl; have fl := hb1.lt)))
  all_goals
   go_ret
   first
    | exact ⟨isB_t (hv.out.2 ⟨hQ, h6.out, hP⟩), eX⟩
    | exact ⟨isB_f (fun h => hP (hv.out.1 h).2.2), eX⟩
    | exact ⟨isB_f (fun h => hQ (hv.out.1 h).1), eX⟩
    | exact ⟨isB_f (fun h => h6.out (hv.out.1 h).2.1), eX⟩
    | exact ⟨isB_f (fun h => hP (hv.out.1 h).2.2), hx0.trans hx2⟩
    | exact ⟨isB_f (fun h => hQ (hv.out.1 h).1), hx0.trans hx2⟩
    | exact ⟨isB_f (fun h => h6.out (hv.out.1 h).2.1), hx0.trans hx2⟩
    | exact ⟨isB_t (hv.out.2 ⟨hQ, h6.out, hP⟩), hx0.trans hx2⟩
theorem matOK_nat {r c : Int} {xs : List Int} (h : matOK r c xs) : ∃ n : Nat, r = n ∧ c = n ∧ 17 ≤ n ∧ n ≤ 41 ∧ n % 4 = 1 ∧ xs.length = n * n ∧ ∀ x ∈ xs, -1 ≤ x ∧ x ≤ 1 := by
 obtain ⟨hg, rfl, h1, h2⟩ := h
 obtain ⟨R, C, e1, e2, _, _, _, hl⟩ := grid_nat hg
 obtain rfl : R = C := by omega
 exact ⟨R, e1, e1, by omega, by omega, by omega, hl, hg.2.2.2.2⟩
def plIx (n : Nat) (p : Int × Int) : Nat := (p.1 * n + p.2).toNat
theorem plIx_eq {n : Nat} {p : Int × Int} (h1 : 0 ≤ p.1 ∧ p.1 < n) (h2 : 0 ≤ p.2 ∧ p.2 < n) : p.1 * (n : Int) + p.2 = (plIx n p : Int) ∧ plIx n p < n * n ∧ 0 ≤ p.1 * (n : Int) := by
 obtain ⟨r, c⟩ := p
 simp only at h1 h2
 obtain ⟨a, rfl⟩ := Int.eq_ofNat_of_zero_le h1.1
 obtain ⟨b, rfl⟩ := Int.eq_ofNat_of_zero_le h2.1
 have h3 : a < n := by omega
 have h4 : b < n := by omega
 have h5 : (a + 1) * n ≤ n * n := Nat.mul_le_mul_right n h3
 rw [Nat.add_mul, Nat.one_mul] at h5
 have e : ((a : Int) * (n : Int) + (b : Int)) = ((a * n + b : Nat) : Int) := by simp
 have e2 : plIx n ((a : Int), (b : Int)) = a * n + b := by
  show ((a : Int) * (n : Int) + (b : Int)).toNat = _
  rw [e]; exact Int.toNat_natCast _
 refine ⟨by rw [e2]; exact e, by rw [e2]; omega, Int.mul_nonneg (by omega) (by omega)⟩
theorem aPl_bd : ∀ p ∈ aPl, (0 ≤ p.1 ∧ p.1 ≤ 8) ∧ (0 ≤ p.2 ∧ p.2 ≤ 8) := by decide
theorem bPl_bd {n : Nat} (hn : 17 ≤ n) : ∀ p ∈ bPl n, (0 ≤ p.1 ∧ p.1 < n) ∧ (0 ≤ p.2 ∧ p.2 < n) := by
 intro p hp
 simp only [bPl, List.mem_cons, List.not_mem_nil, or_false] at hp
 rcases hp with rfl | rfl | rfl | rfl | rfl | rfl | rfl | rfl | rfl | rfl | rfl | rfl | rfl | rfl | rfl <;> simp only <;> omega
theorem aPl_in {n : Nat} (hn : 17 ≤ n) : ∀ p ∈ aPl, (0 ≤ p.1 ∧ p.1 < n) ∧ (0 ≤ p.2 ∧ p.2 < n) := fun p hp => by have := aPl_bd p hp; omega
def pFmt (n : Nat) (ws xs : List Int) : Nat → List Int
 | 0 => xs
 | k + 1 => ((pFmt n ws xs k).set (plIx n (aPl.getD k (0, 0))) (ws.getD k 0)).set (plIx n ((bPl n).getD k (0, 0))) (ws.getD k 0)
theorem pFmt_len (n : Nat) (ws xs : List Int) : ∀ k, (pFmt n ws xs k).length = xs.length
 | 0 => rfl
 | k + 1 => by simp [pFmt, pFmt_len n ws xs k]
def cellsL (n : Nat) (xs : List Int) (ps : List (Int × Int)) : List Int := ps.map fun p => xs.getD (plIx n p) 0
theorem SAt.pl2 {w : World} {p : Option Addr} {ps : List (Int × Int)} (h : PlAt w p ps) {k : Nat} (hk : k < ps.length) : ∃ b o, p = some ⟨b, o, none⟩ ∧ b < w.heap.size ∧ w.cell? ⟨b, o + k * 2, none⟩ = some (.int .i64 (ps.getD k (0, 0)).1) ∧ w.cell? ⟨b, o + k * 2 + 1, none⟩ = some (.int .i64 (ps.getD k (0, 0)).2) := by
 obtain ⟨b, o, h1, h2, h3⟩ := h k hk
 refine ⟨b, o, h1, h2, ?_, ?_⟩
 ·rw [List.getD_eq_getElem?_getD, List.getElem?_eq_getElem hk]
  exact h3 0 _ rfl
 ·rw [List.getD_eq_getElem?_getD, List.getElem?_eq_getElem hk]
  exact h3 1 _ rfl
theorem getD_mem {α : Type} {l : List α} {k : Nat} {d : α} (h : k < l.length) : l.getD k d ∈ l := by
 rw [List.getD_eq_getElem?_getD, List.getElem?_eq_getElem h]; exact List.getElem_mem _
theorem RowS.nfree {α : Type} {f : α → List Value} {k : Nat} {e : TypeId} {B : Nat} {w : World} {v : Value} {xs : List α} (hf : ∀ x, (f x).length = k) (h : RowS e f k B w v xs) : ∃ p c, v = .slice p xs.length c ∧ SAt f k w p xs ∧ ∀ b o, p = some ⟨b, o, none⟩ → B ≤ b ∧ b < w.heap.size := by
 obtain ⟨p, c, hv, ho⟩ := h.own hf
 refine ⟨p, c, hv, ho.sat, fun b o hp => h.lt b (by rw [hv, hp]; rfl)⟩
theorem SAt.butF {α : Type} {f : α → List Value} {k g : Nat} {w w' : World} {p : Option Addr} {xs : List α} (h : SAt f k w p xs) (hb : But g w w') (hne : ∀ b o, p = some ⟨b, o, none⟩ → b ≠ g) : SAt f k w' p xs := fun i hi => by
 obtain ⟨b, o, h1, h2, h3⟩ := h i hi
 obtain ⟨hc, hf, hk, _⟩ := bucell hb
 exact ⟨b, o, h1, hk _ h2, fun j v hv => by rw [hc _ _ h2 (hne b o h1)]; exact h3 j v hv⟩
theorem IntsAt.butF {g : Nat} {w w' : World} {p : Option Addr} {xs : List Int} (h : IntsAt w p xs) (hb : But g w w') (hne : ∀ b o, p = some ⟨b, o, none⟩ → b ≠ g) : IntsAt w' p xs := fun i hi => by
 obtain ⟨b, o, h1, h2, h3⟩ := h i hi
 obtain ⟨hc, hf, hk, _⟩ := bucell hb
 exact ⟨b, o, h1, hk _ h2, by rw [hc _ _ h2 (hne b o h1)]; exact h3⟩
open Go.RowKit

theorem OwnInts.setFarN {B g i b o : Nat} {w : World} {xs : List Int} {v : Value} (h : OwnInts B w (some ⟨b, o, none⟩) xs) (hg : b ≠ g) : OwnInts B (w.setCell ⟨g, i, none⟩ v) (some ⟨b, o, none⟩) xs :=
 h.keep (by simp [World.setCell]) fun b' o' hn hq _ => by
  simp only [Option.some.injEq, Addr.mk.injEq] at hq
  obtain ⟨rfl, -⟩ := hq
  exact Below.heap_setCell w ⟨g, i, none⟩ v b hg
theorem But.setG {g i : Nat} {a b : World} (h : But g a b) (v : Value) : But g a (b.setCell ⟨g, i, none⟩ v) := h.trans (But.set b g i v)
set_option maxRecDepth 100000 in
theorem copy_c (r c : Int) (p : Option Addr) (k : Nat) (xs : List Int) (w : World) (hx : IntsAt w p xs) (hl : xs.length ≤ 1048576) :
  Calls Tryz.prog 122 #[vGrid r c p xs.length k] w fun e w' => GrdR r c xs w.heap.size e w' ∧ Ext w w' := by
 have HX := Lib.hid hx; clear hx
 have hb := (Blk.new w #[.int .i64 r, .int .i64 c, .slice p xs.length k] 37).alloc (.cells #[.int .i64 0, .int .i64 0, .slice none 0 0] 37)
 have h0 := Blk.new (w.alloc (.cells #[.int .i64 r, .int .i64 c, .slice p xs.length k] 37)) #[.int .i64 0, .int .i64 0, .slice none 0 0] 37
 have hx0 : Ext w ((w.alloc (.cells #[.int .i64 r, .int .i64 c, .slice p xs.length k] 37)).alloc (.cells #[.int .i64 0, .int .i64 0, .slice none 0 0] 37)) := ((Ext.refl w).alloc _).alloc _
 simp only [World.size_alloc] at h0
 go_enter Tryz.func122, Tryz.ntmps122
 go_wp2
 generalize (w.alloc (.cells #[.int .i64 r, .int .i64 c, .slice p xs.length k] 37)).alloc (.cells #[.int .i64 0, .int .i64 0, .slice none 0 0] 37) = w0 at *
 have f0 := hb.cell (i := 0) (v := .int .i64 r) rfl
 have f1 := hb.cell (i := 1) (v := .int .i64 c) rfl
 have f2 := hb.cell (i := 2) (v := .slice p xs.length k) rfl
 have fl := hb.lt
 have hne : w.heap.size ≠ w.heap.size + 1 := by omega
 refine wp_region_canon (fun w' => But (w.heap.size + 1) w0 w') [(0, true), (1, true), (2, true), (3, true), (4, true), (5, true), (6, false), (7, true), (8, false)] (by kernel_rfl) (by kernel_rfl) (by decide) (by kernel_rfl) ?_ ?_
 ·exact (But.refl _ _).drew
 refine canon_intro fun ops eo => ?_
 replace eo := canon_eo eo
 iterate 6 all_goals (refine cS eo rfl rfl evB ?_; simp only [ptN])
 all_goals first | (refine canon_ef (eo.out 6 rfl) rfl (fun K hK => ?_); go_simp; ((go_at_call 170; (with_reducible refine (copyOf_c p k xs _ (HX.out.ext (hx0.trans (Ext.refl w0).drew)) (by omega)).mono ?_); rintro e w3 ⟨⟨v, rfl, hrow⟩, hx3⟩; obtain ⟨q, kq, rfl, -, hkq⟩ := hrow.ownC; have hx4 : Ext w0 w3 := (Ext.refl w0).drew.trans hx3; have h3 := h0.ext hx4; obtain ⟨z0, z1, z2⟩ := h3.c3; have zl := h3.lt; have zf := h3.free)); all_goals (refine hK _ _ ⟨(by first | exact But.of hx4 | exact (((But.of hx4).setG _).setG _).setG _ | exact (But.refl _ _).drew), ?_⟩; clear hK K; go_simp)) | (refine canon_ef (eo.out 6 rfl) rfl (fun K hK => ?_); go_simp; (skip); all_goals (refine hK _ _ ⟨(by first | exact But.of hx4 | exact (((But.of hx4).setG _).setG _).setG _ | exact (But.refl _ _).drew), ?_⟩; clear hK K; go_simp))
 all_goals (refine cS eo rfl rfl evB ?_; simp only [ptN])
 all_goals first | (refine canon_ef (eo.out 8 rfl) rfl (fun K hK => ?_); go_simp; ((go_at_call 170; (with_reducible refine (copyOf_c p k xs _ (HX.out.ext (hx0.trans (Ext.refl w0).drew)) (by omega)).mono ?_); rintro e w3 ⟨⟨v, rfl, hrow⟩, hx3⟩; obtain ⟨q, kq, rfl, -, hkq⟩ := hrow.ownC; have hx4 : Ext w0 w3 := (Ext.refl w0).drew.trans hx3; have h3 := h0.ext hx4; obtain ⟨z0, z1, z2⟩ := h3.c3; have zl := h3.lt; have zf := h3.free)); all_goals (refine hK _ _ ⟨(by first | exact But.of hx4 | exact (((But.of hx4).setG _).setG _).setG _ | exact (But.refl _ _).drew), ?_⟩; clear hK K; go_simp)) | (refine canon_ef (eo.out 8 rfl) rfl (fun K hK => ?_); go_simp; (skip); all_goals (refine hK _ _ ⟨(by first | exact But.of hx4 | exact (((But.of hx4).setG _).setG _).setG _ | exact (But.refl _ _).drew), ?_⟩; clear hK K; go_simp))
 all_goals (clear eo; refine canon_done (NoPanic.normal ?_))
 have hfar : (Value.slice q xs.length kq).ownBlock ≠ some (w.heap.size + 1) := fun e => by have h1 := (hrow.lt _ e).1; have h2 := h0.lt; have h3 : w0.drew.heap.size = w0.heap.size := rfl; omega
 have hz0 := hx0.below.size
 have h9 := (((hrow.mono (B' := w.heap.size) hz0).setOther (i := 0) (u := .int .i64 r) hfar).setOther (i := 1) (u := .int .i64 c) hfar).setOther (i := 2) (u := .slice q xs.length kq) hfar
 have hF := ((h3.set 0 (.int .i64 r)).set 1 (.int .i64 c)).set 2 (.slice q xs.length kq)
 obtain ⟨c0, c1, c2⟩ := hF.c3
 have hx9 : Ext w (((w3.setCell ⟨w.heap.size + 1, 0, none⟩ (.int .i64 r)).setCell ⟨w.heap.size + 1, 1, none⟩ (.int .i64 c)).setCell ⟨w.heap.size + 1, 2, none⟩ (.slice q xs.length kq)) := (((hx0.trans hx4).setCell (Nat.le_succ _) _).setCell (Nat.le_succ _) _).setCell (Nat.le_succ _) _
 obtain ⟨q', kq', e', oq, hkq2⟩ := h9.ownC
 simp only [Value.slice.injEq] at e'
 obtain ⟨rfl, -, rfl⟩ := e'
 clear z0 z1 z2 zl zf
 go_wp2
 exact bodyPost_ret (v := vGrid r c q xs.length kq) (by simp [results, Tryz.results122, go_sem, c0, c1, c2]) rfl ⟨⟨q, kq, rfl, oq, hkq⟩, hx9⟩
theorem fillL_step {L : List Int} {k : Nat} (h : k < L.length) : (L.take k ++ List.replicate (L.length - k) 0).set k (L.getD k 0) = L.take (k + 1) ++ List.replicate (L.length - (k + 1)) 0 := by
 have hl : (L.take k).length = k := by simp; omega
 obtain ⟨m, hm⟩ : ∃ m, L.length - k = m + 1 := ⟨L.length - k - 1, by omega⟩
 rw [List.set_append, if_neg (by omega), hl, Nat.sub_self, hm, List.replicate_succ, List.set_cons_zero, show L.length - (k + 1) = m by omega, List.take_succ_eq_append_getElem h, List.getD_eq_getElem?_getD, List.getElem?_eq_getElem h, List.append_assoc]
 rfl
theorem fillL_len {L : List Int} {k : Nat} (h : k ≤ L.length) : (L.take k ++ List.replicate (L.length - k) 0).length = L.length := by simp; omega
theorem gat_c2 (R C : Int) (p : Option Addr) (k : Nat) (xs : List Int) (r c : Int) (i N : Nat) (w : World) (hN : xs.length = N) (hx : IntsAt w p xs) (hi : r * C + c = i) (hlt : i < xs.length) (hrc : 0 ≤ r * C ∧ 0 ≤ c) (hl : xs.length ≤ 1048576) :
  Calls Tryz.prog 124 #[vGrid R C p N k, vPl r c] w fun e w' => e = .returned (.int .i64 (xs.getD i 0)) ∧ Ext w w' := by
 subst hN
 exact gat_c R C p k xs r c i w hx hi hlt hrc hl
set_option maxHeartbeats 800000 in
set_option maxRecDepth 100000 in
theorem cellsAt_c (n k m c : Nat) (p q : Option Addr) (xs : List Int) (ps : List (Int × Int)) (w : World) (hn : 17 ≤ n ∧ n ≤ 41) (hx : IntsAt w p xs) (hlen : xs.length = n * n) (hp : PlAt w q ps) (hm : ps.length = m) (hm2 : m ≤ 2000) (hb : ∀ x ∈ ps, (0 ≤ x.1 ∧ x.1 < n) ∧ (0 ≤ x.2 ∧ x.2 < n)) :
  Calls Tryz.prog 120 #[vGrid n n p (n * n) k, .slice q m c] w fun e w' => (∃ g, e = .returned (.slice (some ⟨g, 0, none⟩) m m) ∧ OwnInts w.heap.size w' (some ⟨g, 0, none⟩) (cellsL n xs ps)) ∧ Ext w w' := by
 have hN : n * n ≤ 1681 := Nat.mul_le_mul hn.2 hn.2
 have HX := Lib.hid hx; clear hx
 have HP := Lib.hid hp; clear hp
 replace hb := Lib.hid hb
 replace hlen := Lib.hid hlen
 have hLl : (cellsL n xs ps).length = m := by simp [cellsL, hm]
 have hLv : ∀ j, j < m → (cellsL n xs ps).getD j 0 = xs.getD (plIx n (ps.getD j (0, 0))) 0 := fun j hj => by
  rw [List.getD_eq_getElem?_getD, List.getElem?_eq_getElem (by omega)]
  simp only [cellsL, List.getElem_map, Option.getD_some]
  rw [List.getD_eq_getElem?_getD (l := ps), List.getElem?_eq_getElem (by omega)]
  rfl
 replace hLv := Lib.hid hLv
 replace hm := Lib.hid hm
 generalize cellsL n xs ps = L at *
 have h0 := (Blk.new w #[.int .i64 n, .int .i64 n, .slice p (n * n) k] 37).alloc (.cells (madeCells #[.int .i64 0] m) 2)
 have hown := OwnInts.made (B := w.heap.size) (N := m) (w.alloc (.cells #[.int .i64 n, .int .i64 n, .slice p (n * n) k] 37)) 2 (by simp)
 have hx0 : Ext w ((w.alloc (.cells #[.int .i64 n, .int .i64 n, .slice p (n * n) k] 37)).alloc (.cells (madeCells #[.int .i64 0] m) 2)) := ((Ext.refl w).alloc _).alloc _
 simp only [World.size_alloc] at hown
 go_enter Tryz.func120, Tryz.ntmps120
 go_wp2_with (refine make_blk Tryz.underlying24 infoInt m rfl rfl (by omega) (by omega) ?_)
 generalize (w.alloc (.cells #[.int .i64 n, .int .i64 n, .slice p (n * n) k] 37)).alloc (.cells (madeCells #[.int .i64 0] m) 2) = w0 at *
 go_loopw [13] (fun i wr => ∃ j : Nat, j ≤ m ∧ i = .int .i64 j ∧ OwnInts w.heap.size wr (some ⟨w.heap.size + 1, 0, none⟩) (L.take j ++ List.replicate (m - j) 0) ∧ Blk wr w.heap.size #[.int .i64 n, .int .i64 n, .slice p (n * n) k] 37 ∧ Ext w wr) (fun i _ => m - (intOf i).toNat)
 case atStart => exact ⟨0, by omega, rfl, by simpa using hown, h0, hx0⟩
 case round =>
  clear hown h0 hx0
  obtain ⟨j, hj, rfl, hown, h0, hext⟩ := hrel
  by_cases hlt : j < m
  ·obtain ⟨bp, op, rfl, hpl, z0, z1⟩ := (HP.out.ext hext).pl2 (k := j) (by rw [hm.out]; exact hlt)
   have hbd := hb.out _ (getD_mem (l := ps) (k := j) (d := (0, 0)) (by rw [hm.out]; exact hlt))
   have ia := plIx_eq (n := n) hbd.1 hbd.2
   have hv := hLv.out j hlt
   have hst := fillL_step (L := L) (k := j) (by omega)
   rw [hv, hLl] at hst
   clear hv
   obtain ⟨b', o', e', hB, hbl, y1, y2⟩ := hown j (by have := fillL_len (L := L) (k := j) (by omega); rw [hLl] at this; omega)
   simp only [Option.some.injEq, Addr.mk.injEq] at e'
   obtain ⟨rfl, rfl, -⟩ := e'
   generalize (L.take j ++ List.replicate (m - j) 0).getD j 0 = y at *
   have q0 := h0.cell (i := 0) (v := .int .i64 n) rfl
   have q1 := h0.cell (i := 1) (v := .int .i64 n) rfl
   have q2 := h0.cell (i := 2) (v := .slice p (n * n) k) rfl
   have ql := h0.lt
   generalize ps.getD j (0, 0) = A at *
   obtain ⟨ar, ac⟩ := A
   simp only at z0 z1 hbd ia
   generalize plIx n (ar, ac) = ai at *
   obtain ⟨hia, hia2, hia3⟩ := ia
   have hac := hbd.2.1
   replace hia := Lib.hid hia; replace hst := Lib.hid hst
   have hLl2 := Lib.hid hLl
   clear hbd
   have hatc := Lib.hid (fun W (h : Ext w W) => gat_c2 n n p k xs ar ac ai (n * n) W hlen.out (HX.out.ext h) hia.out (by rw [hlen.out]; exact hia2) ⟨hia3, hac⟩ (by rw [hlen.out]; omega))
   have hset2 := Lib.hid (fun (W : World) (h : OwnInts w.heap.size W (some ⟨w.heap.size + 1, 0, none⟩) (L.take j ++ List.replicate (m - j) 0)) => h.set (k := j) rfl (by have := fillL_len (L := L) (k := j) (by rw [hLl2.out]; omega); rw [hLl2.out] at this; omega) (xs.getD ai 0))
   generalize xs.getD ai 0 = x at *
   rw [Nat.zero_add] at y1 y2
   go_wp2_with (go_at_call 124; (with_reducible refine (hatc.out _ (hext.alloc _)).mono ?_); rintro e w5 ⟨rfl, hx5⟩; have hx6 : Ext wr w5 := ((Ext.refl wr).alloc _).trans hx5; obtain ⟨hc6, hf6, hk6, hz6⟩ := ecell hx6)
   have hown5 := hset2.out _ (hown.ext hx6)
   rw [hst.out, Nat.zero_add] at hown5
   have h05 := h0.ext hx6
   go_roundw
   case rel => exact ⟨j + 1, hlt, by go_num, hown5, h05.far (by omega) _, (hext.trans hx6).setCell (Nat.le_succ _) _⟩
   case measure => simp [intOf]; omega
  ·obtain rfl : j = m := by omega
   rw [Nat.sub_self, List.replicate_zero, List.append_nil, List.take_of_length_le (by omega)] at hown
   go_wp2_with fail
   go_ret
   exact ⟨⟨_, rfl, hown⟩, hext⟩
open Classical in
noncomputable def rfV (r c : Int) (xs : List Int) : Int × Int :=
 if ¬ matOK r c xs then (0, 1) else shareV (cellsL r.toNat xs aPl) (cellsL r.toNat xs (bPl r))
theorem cellsL_fm {n : Nat} {xs : List Int} {ps : List (Int × Int)} (h : ∀ x ∈ xs, -1 ≤ x ∧ x ≤ 1) : fmL (cellsL n xs ps) := fun x hx => by
 simp only [cellsL, List.mem_map] at hx
 obtain ⟨p, _, rfl⟩ := hx
 by_cases hl : plIx n p < xs.length
 ·rw [List.getD_eq_getElem?_getD, List.getElem?_eq_getElem hl]; exact h _ (List.getElem_mem _)
 ·rw [List.getD_eq_getElem?_getD, List.getElem?_eq_none (by omega)]; simp
theorem shareV_cd (a b : List Int) : shareV a b = (0, 7) ∨ ((shareV a b).2 = 0 ∧ 0 ≤ (shareV a b).1 ∧ (shareV a b).1 < 32) := by
 have h1 := nearV_bd a
 have h2 := nearV_bd b
 unfold shareV
 split
 ·exact .inl rfl
 ·split
  ·exact .inr ⟨rfl, by simp, by simp; omega⟩
  ·exact .inr ⟨rfl, by simp, by simp; omega⟩
set_option maxHeartbeats 800000 in
set_option maxRecDepth 100000 in
theorem iReadFormat_c (r c : Int) (p : Option Addr) (k : Nat) (xs : List Int) (w : World) (hx : IntsAt w p xs) (hl : xs.length ≤ 1048576) :
  Calls Tryz.prog 116 #[vGrid r c p xs.length k] w fun e w' => e = .returned (.tuple #[.int .i64 (rfV r c xs).1, .int .i64 (rfV r c xs).2]) ∧ Ext w w' := by
 have HX := Lib.hid hx; clear hx
 have hb := Blk.new w #[.int .i64 r, .int .i64 c, .slice p xs.length k] 37
 have hx0 : Ext w (w.alloc (.cells #[.int .i64 r, .int .i64 c, .slice p xs.length k] 37)) := (Ext.refl w).alloc _
 have hmt := Lib.hid (fun W (h : IntsAt W p xs) => iMat_c r c p k xs W h hl)
 by_cases h1 : matOK r c xs
 ·have hV : rfV r c xs = shareV (cellsL r.toNat xs aPl) (cellsL r.toNat xs (bPl r)) := by unfold rfV; rw [if_neg (not_not_intro h1)]
  rw [hV]
  obtain ⟨n, rfl, rfl, hn1, hn2, hn4, hlen, hxb⟩ := matOK_nat h1
  simp only [Int.toNat_natCast]
  have hfa := cellsL_fm (n := n) (ps := aPl) hxb
  have hfb := cellsL_fm (n := n) (ps := bPl n) hxb
  replace h1 := Lib.hid h1
  clear hV hxb
  have hN : n * n ≤ 1681 := Nat.mul_le_mul hn2 hn2
  have hcd := shareV_cd (cellsL n xs aPl) (cellsL n xs (bPl n))
  have hca := fun q m c W (h : IntsAt W p xs) (h2 : PlAt W q aPl) (h3 : aPl.length = m) => cellsAt_c n k m c p q xs aPl W ⟨hn1, hn2⟩ h hlen h2 h3 (by rw [← h3]; decide) (aPl_in hn1)
  have hcb := fun q m c W (h : IntsAt W p xs) (h2 : PlAt W q (bPl n)) (h3 : (bPl n).length = m) => cellsAt_c n k m c p q xs (bPl n) W ⟨hn1, hn2⟩ h hlen h2 h3 (by rw [← h3]; show 15 ≤ 2000; omega) (bPl_bd hn1)
  rw [← hlen] at hca hcb
  have hla : (cellsL n xs aPl).length = 15 := by simp [cellsL, aPl]
  have hlb : (cellsL n xs (bPl n)).length = 15 := by simp [cellsL, bPl]
  have hsh := fun p' q' c' d' W (h1 : IntsAt W p' (cellsL n xs aPl)) (h2 : IntsAt W q' (cellsL n xs (bPl n))) => iShare_c p' q' c' d' _ _ W h1 h2 hla hlb hfa hfb
  clear hfa hfb hla hlb
  generalize cellsL n xs aPl = LA at *
  generalize cellsL n xs (bPl n) = LB at *
  generalize shareV LA LB = V at *
  replace hca := Lib.hid hca; replace hcb := Lib.hid hcb; replace hsh := Lib.hid hsh; replace hlen := Lib.hid hlen
  have hfm := Lib.hid (fun W => iFormats_c n W (by omega))
  obtain ⟨v1, v2⟩ := V
  simp only at hsh hcd ⊢
  go_enter Tryz.func116, Tryz.ntmps116
  go_wp2_with (first
   | (go_at_call 163; (with_reducible refine (hmt.out _ (HX.out.ext hx0)).mono ?_); rintro e w1 ⟨⟨hP, rfl⟩ | ⟨hP, rfl⟩, hx1⟩ <;> (first | exact absurd h1.out hP | skip); have hb1 := hb.ext hx1; obtain ⟨q0, q1, q2⟩ := hb1.c3; have ql := hb1.lt)
   | (go_at_call 164; (with_reducible refine (hfm.out _).mono ?_); rintro e w4 ⟨⟨va, vb, rfl, hra, hrb, -⟩, hx4⟩; obtain ⟨pa, ca, rfl, haA, -⟩ := hra.nfree plF_len; obtain ⟨pb, cb, rfl, haB, -⟩ := hrb.nfree plF_len; have hb4 := hb1.ext hx4; have hx04 := (hx0.trans hx1).trans hx4))
  clear q0 q1 q2 ql hra hrb hb hb1 hx0 hx1 hx4
  rw [show aPl.length = 15 from rfl, show (bPl n).length = 15 from rfl]
  obtain ⟨q0, q1, q2⟩ := hb4.c3; have ql := hb4.lt
  refine wp_region_canon (fun w' => Ext w4 w') [(1, true), (2, true), (4, true), (5, true), (0, false), (3, false), (6, false), (7, false), (8, true), (9, true), (10, true), (11, true), (12, true)] (by kernel_rfl) (by kernel_rfl) (by decide) (by kernel_rfl) ?_ ?_
  ·exact eX
  refine canon_intro fun ops eo => ?_
  replace eo := canon_eo eo
  iterate 4 all_goals (refine cS eo rfl rfl evE ?_; simp only [ptN])
  all_goals first | (refine canon_ef (eo.out 0 rfl) rfl (fun K hK => ?_); go_simp; ((go_at_call 166; (with_reducible refine (iStdFmt_c _).mono ?_); rintro e w5 ⟨rfl, hx5⟩)); all_goals (refine hK _ _ ⟨eX, ?_⟩; clear hK K; go_simp)) | (refine canon_ef (eo.out 0 rfl) rfl (fun K hK => ?_); go_simp; ((go_at_call 120; (with_reducible refine (hca.out pa 15 ca _ (HX.out.ext (hx04.trans eX)) (haA.ext eX) rfl).mono ?_); rintro e w6 ⟨⟨ga, rfl, oqa⟩, hx6⟩)); all_goals (refine hK _ _ ⟨eX, ?_⟩; clear hK K; go_simp)) | (refine canon_ef (eo.out 0 rfl) rfl (fun K hK => ?_); go_simp; ((go_at_call 120; (with_reducible refine (hcb.out pb 15 cb _ (HX.out.ext (hx04.trans eX)) (haB.ext eX) rfl).mono ?_); rintro e w7 ⟨⟨gb, rfl, oqb⟩, hx7⟩)); all_goals (refine hK _ _ ⟨eX, ?_⟩; clear hK K; go_simp)) | (refine canon_ef (eo.out 0 rfl) rfl (fun K hK => ?_); go_simp; ((go_at_call 165; (with_reducible refine (hsh.out _ _ _ _ _ (oqa.ints.ext eX) oqb.ints).mono ?_); rintro e w8 ⟨rfl, hx8⟩)); all_goals (refine hK _ _ ⟨eX, ?_⟩; clear hK K; go_simp))
  all_goals first | (refine canon_ef (eo.out 3 rfl) rfl (fun K hK => ?_); go_simp; ((go_at_call 166; (with_reducible refine (iStdFmt_c _).mono ?_); rintro e w5 ⟨rfl, hx5⟩)); all_goals (refine hK _ _ ⟨eX, ?_⟩; clear hK K; go_simp)) | (refine canon_ef (eo.out 3 rfl) rfl (fun K hK => ?_); go_simp; ((go_at_call 120; (with_reducible refine (hca.out pa 15 ca _ (HX.out.ext (hx04.trans eX)) (haA.ext eX) rfl).mono ?_); rintro e w6 ⟨⟨ga, rfl, oqa⟩, hx6⟩)); all_goals (refine hK _ _ ⟨eX, ?_⟩; clear hK K; go_simp)) | (refine canon_ef (eo.out 3 rfl) rfl (fun K hK => ?_); go_simp; ((go_at_call 120; (with_reducible refine (hcb.out pb 15 cb _ (HX.out.ext (hx04.trans eX)) (haB.ext eX) rfl).mono ?_); rintro e w7 ⟨⟨gb, rfl, oqb⟩, hx7⟩)); all_goals (refine hK _ _ ⟨eX, ?_⟩; clear hK K; go_simp)) | (refine canon_ef (eo.out 3 rfl) rfl (fun K hK => ?_); go_simp; ((go_at_call 165; (with_reducible refine (hsh.out _ _ _ _ _ (oqa.ints.ext eX) oqb.ints).mono ?_); rintro e w8 ⟨rfl, hx8⟩)); all_goals (refine hK _ _ ⟨eX, ?_⟩; clear hK K; go_simp))
  all_goals first | (refine canon_ef (eo.out 6 rfl) rfl (fun K hK => ?_); go_simp; ((go_at_call 166; (with_reducible refine (iStdFmt_c _).mono ?_); rintro e w5 ⟨rfl, hx5⟩)); all_goals (refine hK _ _ ⟨eX, ?_⟩; clear hK K; go_simp)) | (refine canon_ef (eo.out 6 rfl) rfl (fun K hK => ?_); go_simp; ((go_at_call 120; (with_reducible refine (hca.out pa 15 ca _ (HX.out.ext (hx04.trans eX)) (haA.ext eX) rfl).mono ?_); rintro e w6 ⟨⟨ga, rfl, oqa⟩, hx6⟩)); all_goals (refine hK _ _ ⟨eX, ?_⟩; clear hK K; go_simp)) | (refine canon_ef (eo.out 6 rfl) rfl (fun K hK => ?_); go_simp; ((go_at_call 120; (with_reducible refine (hcb.out pb 15 cb _ (HX.out.ext (hx04.trans eX)) (haB.ext eX) rfl).mono ?_); rintro e w7 ⟨⟨gb, rfl, oqb⟩, hx7⟩)); all_goals (refine hK _ _ ⟨eX, ?_⟩; clear hK K; go_simp)) | (refine canon_ef (eo.out 6 rfl) rfl (fun K hK => ?_); go_simp; ((go_at_call 165; (with_reducible refine (hsh.out _ _ _ _ _ (oqa.ints.ext eX) oqb.ints).mono ?_); rintro e w8 ⟨rfl, hx8⟩)); all_goals (refine hK _ _ ⟨eX, ?_⟩; clear hK K; go_simp))
  all_goals first | (refine canon_ef (eo.out 7 rfl) rfl (fun K hK => ?_); go_simp; ((go_at_call 166; (with_reducible refine (iStdFmt_c _).mono ?_); rintro e w5 ⟨rfl, hx5⟩)); all_goals (refine hK _ _ ⟨eX, ?_⟩; clear hK K; go_simp)) | (refine canon_ef (eo.out 7 rfl) rfl (fun K hK => ?_); go_simp; ((go_at_call 120; (with_reducible refine (hca.out pa 15 ca _ (HX.out.ext (hx04.trans eX)) (haA.ext eX) rfl).mono ?_); rintro e w6 ⟨⟨ga, rfl, oqa⟩, hx6⟩)); all_goals (refine hK _ _ ⟨eX, ?_⟩; clear hK K; go_simp)) | (refine canon_ef (eo.out 7 rfl) rfl (fun K hK => ?_); go_simp; ((go_at_call 120; (with_reducible refine (hcb.out pb 15 cb _ (HX.out.ext (hx04.trans eX)) (haB.ext eX) rfl).mono ?_); rintro e w7 ⟨⟨gb, rfl, oqb⟩, hx7⟩)); all_goals (refine hK _ _ ⟨eX, ?_⟩; clear hK K; go_simp)) | (refine canon_ef (eo.out 7 rfl) rfl (fun K hK => ?_); go_simp; ((go_at_call 165; (with_reducible refine (hsh.out _ _ _ _ _ (oqa.ints.ext eX) oqb.ints).mono ?_); rintro e w8 ⟨rfl, hx8⟩)); all_goals (refine hK _ _ ⟨eX, ?_⟩; clear hK K; go_simp))
  iterate 5 all_goals (refine cS eo rfl rfl evE ?_; simp only [ptN])
  all_goals (clear eo; refine canon_done (NoPanic.normal ?_))
  have hx48 : Ext w4 w8 := eX
  clear q0 q1 q2 ql oqa oqb
  rcases hcd with hcd | ⟨rfl, -, -⟩
  ·obtain ⟨rfl, rfl⟩ := Prod.mk.inj hcd
   clear hcd
   go_wp2_with fail
   go_ret2
   exact ⟨rfl, hx04.trans hx48⟩
  ·go_wp2_with fail
   go_ret2
   exact ⟨rfl, hx04.trans hx48⟩
 ·have hV : rfV r c xs = (0, 1) := by unfold rfV; rw [if_pos h1]
  rw [hV]
  replace h1 := Lib.hid h1
  clear hV
  go_enter Tryz.func116, Tryz.ntmps116
  go_wp2_with (go_at_call 163; (with_reducible refine (hmt.out _ (HX.out.ext hx0)).mono ?_); rintro e w1 ⟨⟨hP, rfl⟩ | ⟨hP, rfl⟩, hx1⟩ <;> (first | exact absurd hP h1.out | skip))
  go_ret2
  exact ⟨rfl, hx0.trans hx1⟩
open Go.RowKit

set_option maxHeartbeats 1600000 in
set_option maxRecDepth 100000 in
theorem sPut_c (n v k : Nat) (p : Option Addr) (xs : List Int) (w : World) (hv : v < 32) (hn : 17 ≤ n ∧ n ≤ 41) (hx : IntsAt w p xs) (hlen : xs.length = n * n) :
  Calls Tryz.prog 185 #[vGrid n n p xs.length k, .int .i64 v] w fun e w' => GrdR n n (pFmt n (fmtW v) xs 15) w.heap.size e w' ∧ Ext w w' := by
 have HX := Lib.hid hx; clear hx
 have hN : n * n ≤ 1681 := Nat.mul_le_mul hn.2 hn.2
 have hN1 : 0 < n * n := Nat.mul_pos (by omega) (by omega)
 have hb := (Blk.new w #[.int .i64 n, .int .i64 n, .slice p xs.length k] 37).alloc (.cells #[.int .i64 0, .int .i64 0, .slice none 0 0] 37)
 have h0 := Blk.new (w.alloc (.cells #[.int .i64 n, .int .i64 n, .slice p xs.length k] 37)) #[.int .i64 0, .int .i64 0, .slice none 0 0] 37
 have hx0 : Ext w ((w.alloc (.cells #[.int .i64 n, .int .i64 n, .slice p xs.length k] 37)).alloc (.cells #[.int .i64 0, .int .i64 0, .slice none 0 0] 37)) := ((Ext.refl w).alloc _).alloc _
 simp only [World.size_alloc] at h0
 have hown := Lib.hid (fun W (h : IntsAt W p xs) => sOwn_c p k xs W h (by omega))
 have hwd := Lib.hid (fun W => sWord_c v W hv)
 have hfm := Lib.hid (fun W => sFormats_c n W (by omega))
 have hfl := Lib.hid (fmtW_len v)
 have hlen0 := hlen
 replace hlen := Lib.hid hlen
 have hbound : xs.length ≤ 1681 := by rw [hlen0]; exact hN
 clear hlen0
 have hpfl := Lib.hid (fun j => pFmt_len n (fmtW v) xs j)
 have hba := Lib.hid (aPl_in (n := n) hn.1)
 have hbb := Lib.hid (bPl_bd (n := n) hn.1)
 have hwd2 : ∀ W, Calls Tryz.prog 155 #[vStd, .int .i64 v] W fun e w' => (∃ p c, e = .returned (.slice p 15 c) ∧ OwnInts W.heap.size w' p (fmtW v)) ∧ Ext W w' := hwd.out
 replace hwd := Lib.hid hwd2
 clear hwd2
 generalize fmtW v = ws at *
 go_enter Tryz.func185, Tryz.ntmps185
 go_wp2_with fail
 generalize (w.alloc (.cells #[.int .i64 n, .int .i64 n, .slice p xs.length k] 37)).alloc (.cells #[.int .i64 0, .int .i64 0, .slice none 0 0] 37) = w0 at *
 go_wp2_with fail
 refine (hown.out _ (HX.out.ext hx0)).mono ?_
 rintro e w1 ⟨⟨vo, rfl, hrow⟩, hx1⟩
 obtain ⟨q, kq, rfl, oq, hkq⟩ := hrow.ownC
 clear hrow
 obtain ⟨b, o, rfl, hbB, hbl, -⟩ := oq 0 (by rw [hlen.out]; exact hN1)
 have h0l := h0.lt
 have hbl0 := hb.lt
 have hx01 := hx0.trans hx1
 have hbw : w.heap.size ≤ b := by have := hx0.below.size; omega
 have hne0 : w.heap.size + 1 ≠ b := by omega
 have hneb : w.heap.size ≠ b := by omega
 go_wp2_with (first
  | (go_at_call 69; (with_reducible refine (sStdFmt_c _).mono ?_); rintro e w2 ⟨rfl, hx2⟩)
  | (go_at_call 155; (with_reducible refine (hwd.out _).mono ?_); rintro e w3 ⟨⟨pw, cw, rfl, how⟩, hx3⟩; have hx13 := hx2.trans hx3; have hb3 := (hb.ext hx1).ext hx13; have q0 := hb3.cell (i := 0) (v := .int .i64 n) rfl; have ql := hb3.lt)
  | (go_at_call 67; (with_reducible refine (hfm.out _).mono ?_); rintro e w4 ⟨⟨va, vb, rfl, hra, hrb, -⟩, hx4⟩; obtain ⟨pa, ca, rfl, haA, hna⟩ := hra.nfree plF_len; obtain ⟨pb, cb, rfl, haB, hnb2⟩ := hrb.nfree plF_len))
 rw [show aPl.length = 15 from rfl, show (bPl n).length = 15 from rfl]
 have hx14 : Ext w1 w4 := hx13.trans hx4
 have hz1 := hx1.below.size
 have hz2 := hx2.below.size
 have hz3 := hx3.below.size
 have hW := how.ints.ext hx4
 have hnw : ∀ b' o', pw = some ⟨b', o', none⟩ → w1.heap.size ≤ b' := fun b' o' hp => by
  have := (how.lt0 (fun e => by have := hfl.out; rw [e] at this; simp at this) hp).1
  omega
 replace hna := Lib.hid hna; replace hnb2 := Lib.hid hnb2; replace hnw := Lib.hid hnw
 replace haA := Lib.hid haA; replace haB := Lib.hid haB; replace hW := Lib.hid hW
 replace oq := oq.ext hx14
 have hb4 := (hb.ext hx1).ext hx14
 have h04 := (h0.ext hx1).ext hx14
 have hx04 := hx01.trans hx14
 have oq4 := oq.mono (B' := w.heap.size) (by omega)
 clear q0 ql hra hrb hb h0 hb3 how hx3 hx4 hx2 hx13 oq hown hfm hwd
 go_loopw [9] (fun i wr => ∃ j : Nat, j ≤ 15 ∧ i = .int .i64 j ∧ OwnInts w.heap.size wr (some ⟨b, o, none⟩) (pFmt n ws xs j) ∧ But b w4 wr) (fun i _ => 15 - (intOf i).toNat)
 case atStart => exact ⟨0, by omega, rfl, oq4, But.refl _ _⟩
 case round =>
  clear oq4
  obtain ⟨j, hj, rfl, hown, hB⟩ := hrel
  by_cases hlt : j < 15
  ·obtain ⟨ba, oa, rfl, hal, za0, za1⟩ := (haA.out.butF hB (fun b' o' hp => by have := (hna.out b' o' hp).1; omega)).pl2 (k := j) hlt
   obtain ⟨bb, ob, rfl, hbl', zb0, zb1⟩ := (haB.out.butF hB (fun b' o' hp => by have := (hnb2.out b' o' hp).1; omega)).pl2 (k := j) hlt
   obtain ⟨bw, ow, rfl, hwl, zw⟩ := (hW.out.butF hB (fun b' o' hp => by have := hnw.out b' o' hp; omega)) j (by rw [hfl.out]; exact hlt)
   have na : ba ≠ b := by have := (hna.out ba oa rfl).1; omega
   have nb : bb ≠ b := by have := (hnb2.out bb ob rfl).1; omega
   have nw : bw ≠ b := by have := hnw.out bw ow rfl; omega
   have ia := plIx_eq (n := n) (p := aPl.getD j (0, 0)) (hba.out _ (getD_mem hlt)).1 (hba.out _ (getD_mem hlt)).2
   have ib := plIx_eq (n := n) (p := (bPl n).getD j (0, 0)) (hbb.out _ (getD_mem hlt)).1 (hbb.out _ (getD_mem hlt)).2
   have ba2 := (hba.out (aPl.getD j (0, 0)) (getD_mem hlt)).2.1
   have bb2 := (hbb.out ((bPl n).getD j (0, 0)) (getD_mem hlt)).2.1
   have hst : pFmt n ws xs (j + 1) = ((pFmt n ws xs j).set (plIx n (aPl.getD j (0, 0))) (ws.getD j 0)).set (plIx n ((bPl n).getD j (0, 0))) (ws.getD j 0) := rfl
   have hpl := hpfl.out j
   have hq := hb4.but hB hneb
   have q1 := hq.cell (i := 1) (v := .int .i64 n) rfl
   have ql := hq.lt
   generalize aPl.getD j (0, 0) = A at *
   generalize (bPl n).getD j (0, 0) = D at *
   obtain ⟨ar, ac⟩ := A
   obtain ⟨dr, dc⟩ := D
   generalize plIx n (ar, ac) = ai at *
   generalize plIx n (dr, dc) = di at *
   generalize ws.getD j 0 = x at *
   simp only at za0 za1 zb0 zb1 ia ib ba2 bb2
   obtain ⟨L1, hL1⟩ : ∃ z, pFmt n ws xs (j + 1) = z := ⟨_, rfl⟩
   rw [hL1] at hst
   generalize pFmt n ws xs j = L at *
   obtain ⟨hia, hia2, hia3⟩ := ia
   obtain ⟨hib, hib2, hib3⟩ := ib
   have hLn : L.length = n * n := by rw [hpl, hlen.out]
   have hs1 := hown.set (k := ai) rfl (by omega) x
   have hs2 := hs1.set (k := di) rfl (by rw [List.length_set]; omega) x
   rw [← hst] at hs2
   obtain ⟨b1, o1, e1, -, -, ya, yaf⟩ := hown ai (by omega)
   simp only [Option.some.injEq, Addr.mk.injEq] at e1
   obtain ⟨rfl, rfl, -⟩ := e1
   obtain ⟨b2, o2, e2, -, -, yd, ydf⟩ := hs1 di (by rw [List.length_set]; omega)
   simp only [Option.some.injEq, Addr.mk.injEq] at e2
   obtain ⟨rfl, rfl, -⟩ := e2
   have hbw1 : b < wr.heap.size := by
    obtain ⟨b3, o3, e3, -, h3, -⟩ := hown ai (by omega)
    simp at e3; omega
   generalize L.getD ai 0 = v1 at *
   generalize (L.set ai x).getD di 0 = v2 at *
   obtain ⟨M1, hM1⟩ : ∃ M : Int, ar * (n : Int) = M := ⟨_, rfl⟩
   obtain ⟨M2, hM2⟩ : ∃ M : Int, dr * (n : Int) = M := ⟨_, rfl⟩
   rw [hM1] at hia hia3
   rw [hM2] at hib hib3
   have w1' := IntWalk.i64_in M1 (by omega)
   have w2' := IntWalk.i64_in (ai : Int) (by omega)
   have w3' := IntWalk.i64_in M2 (by omega)
   have w4' := IntWalk.i64_in (di : Int) (by omega)
   have lai : (ai : Int) < (xs.length : Int) := by rw [hlen.out]; omega
   have ldi : (di : Int) < (xs.length : Int) := by rw [hlen.out]; omega
   replace hst := Lib.hid hst; replace hL1 := Lib.hid hL1; replace hs1 := Lib.hid hs1; replace hs2 := Lib.hid hs2
   clear hpl hLn hown
   go_wp2_with fail
   refine wp_region_canon (fun w' => But b wr w') [(0, true), (1, true), (2, true), (3, true), (4, true), (5, true), (6, true), (7, true), (8, true), (9, true), (10, true), (11, true), (12, true), (13, true), (14, true), (15, true), (16, true), (17, true), (18, true), (19, true), (20, false)] (by kernel_rfl) (by kernel_rfl) (by decide) (by kernel_rfl) ?_ ?_
   ·exact (But.refl _ _).drew
   refine canon_intro fun ops eo => ?_
   replace eo := canon_eo eo
   iterate 20 all_goals (refine cS eo rfl rfl evB ?_; simp only [ptN])
   all_goals first | (refine canon_ef (eo.out 20 rfl) rfl (fun K hK => ?_); go_simp; (skip); all_goals (refine hK _ _ ⟨(by first | exact (But.refl _ _).drew | exact (But.refl b wr).drew.setG _), ?_⟩; clear hK K; go_simp))
   all_goals (clear eo; refine canon_done (NoPanic.normal ?_))
   have hB7 : But b wr (wr.setCell ⟨b, o + ai, none⟩ (.int .i64 x)).drew := ((But.refl b wr).setG _).drew
   obtain ⟨bc5, -, bk5, -⟩ := bucell hB7
   have yb0 := (bc5 bb (ob + j * 2) hbl' nb).trans zb0
   have yb1 := (bc5 bb (ob + j * 2 + 1) hbl' nb).trans zb1
   have yw := (bc5 bw (ow + j) hwl nw).trans zw
   have yl := bk5 bb hbl'
   have ywl := bk5 bw hwl
   have ybl := bk5 b hbw1
   have hq5 := hq.but hB7 hneb
   have hs7 : OwnInts w.heap.size ((wr.setCell ⟨b, o + ai, none⟩ (.int .i64 x)).drew.setCell ⟨b, o + di, none⟩ (.int .i64 x)) (some ⟨b, o, none⟩) L1 := hs2.out.ext (Ext.refl _).drew
   have yd7 : (wr.setCell ⟨b, o + ai, none⟩ (.int .i64 x)).drew.cell? ⟨b, o + di, none⟩ = some (.int .i64 v2) := yd
   have ydf7 : (wr.setCell ⟨b, o + ai, none⟩ (.int .i64 x)).drew.frozen? ⟨b, o + di, none⟩ = false := ydf
   replace hs7 := Lib.hid hs7
   clear q1 ql za0 za1 zb0 zb1 zw hwl hal hbl' bc5 bk5 hq yd ydf ya yaf hs1 hs2
   generalize (wr.setCell ⟨b, o + ai, none⟩ (.int .i64 x)).drew = w7 at *
   have q1 := hq5.cell (i := 1) (v := .int .i64 n) rfl
   have ql := hq5.lt
   go_wp2_with fail
   refine wp_region_canon (fun w' => But b w7 w') [(0, true), (1, true), (2, true), (3, true), (4, true), (5, true), (6, true), (7, true), (8, true), (9, true), (10, true), (11, true), (12, true), (13, true), (14, true), (15, true), (16, true), (17, true), (18, true), (19, true), (20, false)] (by kernel_rfl) (by kernel_rfl) (by decide) (by kernel_rfl) ?_ ?_
   ·exact (But.refl _ _).drew
   refine canon_intro fun ops eo => ?_
   replace eo := canon_eo eo
   iterate 20 all_goals (refine cS eo rfl rfl evB ?_; simp only [ptN])
   all_goals first | (refine canon_ef (eo.out 20 rfl) rfl (fun K hK => ?_); go_simp; (skip); all_goals (refine hK _ _ ⟨(by first | exact (But.refl _ _).drew | exact (But.refl b w7).drew.setG _), ?_⟩; clear hK K; go_simp))
   all_goals (clear eo; refine canon_done (NoPanic.normal ?_))
   have hB8 : But b w7 (w7.setCell ⟨b, o + di, none⟩ (.int .i64 x)).drew := ((But.refl b w7).setG _).drew
   have hs8 : OwnInts w.heap.size (w7.setCell ⟨b, o + di, none⟩ (.int .i64 x)).drew (some ⟨b, o, none⟩) L1 := hs7.out.ext (Ext.refl _).drew
   clear q1 ql yb0 yb1 yw yl ywl ybl yd7 ydf7 hs7 hM1 hM2 hia hib w1' w2' w3' w4'
   generalize (w7.setCell ⟨b, o + di, none⟩ (.int .i64 x)).drew = w8 at *
   go_wp2_with fail
   go_roundw
   case rel => exact ⟨j + 1, hlt, by go_num, by rw [hL1.out]; exact hs8, (hB.trans hB7).trans hB8⟩
   case measure => simp [intOf]; omega
  ·obtain rfl : j = 15 := by omega
   have hb5 := hb4.but hB hneb
   have h05 := h04.but hB hne0
   have hx05 := hx04.but hB hbw
   have q0 := hb5.cell (i := 0) (v := .int .i64 n) rfl
   have q1 := hb5.cell (i := 1) (v := .int .i64 n) rfl
   have ql := hb5.lt
   have z0 := h05.cell (i := 0) (v := .int .i64 0) rfl
   have z1 := h05.cell (i := 1) (v := .int .i64 0) rfl
   have z2 := h05.cell (i := 2) (v := .slice none 0 0) rfl
   have zl := h05.lt
   have zf := h05.free
   have hF := ((h05.set 0 (.int .i64 n)).set 1 (.int .i64 n)).set 2 (.slice (some ⟨b, o, none⟩) xs.length kq)
   have C0 := Lib.hid (hF.cell (i := 0) (v := .int .i64 n) rfl); have C1 := Lib.hid (hF.cell (i := 1) (v := .int .i64 n) rfl); have C2 := Lib.hid (hF.cell (i := 2) (v := .slice (some ⟨b, o, none⟩) xs.length kq) rfl)
   have hx9 := Lib.hid (((hx05.setCell (p := ⟨w.heap.size + 1, 0, none⟩) (Nat.le_succ _) (.int .i64 n)).setCell (p := ⟨w.heap.size + 1, 1, none⟩) (Nat.le_succ _) (.int .i64 n)).setCell (p := ⟨w.heap.size + 1, 2, none⟩) (Nat.le_succ _) (.slice (some ⟨b, o, none⟩) xs.length kq))
   have oq9 := Lib.hid (((hown.setFarN (g := w.heap.size + 1) (i := 0) (v := .int .i64 n) (by omega)).setFarN (g := w.heap.size + 1) (i := 1) (v := .int .i64 n) (by omega)).setFarN (g := w.heap.size + 1) (i := 2) (v := .slice (some ⟨b, o, none⟩) xs.length kq) (by omega))
   clear hF h05 h04 hb4 hb5 hx05 hown
   go_wp2_with fail
   have c0 := C0.out; have c1 := C1.out; have c2 := C2.out
   have hpl := hpfl.out 15
   exact bodyPost_ret (v := vGrid n n (some ⟨b, o, none⟩) xs.length kq) (by simp [results, Tryz.results185, go_sem, c0, c1, c2]) rfl ⟨⟨some ⟨b, o, none⟩, kq, by rw [hpl], oq9.out, by rw [hpl]; exact hkq⟩, hx9.out⟩
set_option maxHeartbeats 1600000 in
set_option maxRecDepth 100000 in
theorem sCells_c (n k m c : Nat) (p q : Option Addr) (xs : List Int) (ps : List (Int × Int)) (w : World) (hn : 17 ≤ n ∧ n ≤ 41) (hx : IntsAt w p xs) (hlen : xs.length = n * n) (hp : PlAt w q ps) (hm : ps.length = m) (hm2 : m ≤ 2000) (hb : ∀ x ∈ ps, (0 ≤ x.1 ∧ x.1 < n) ∧ (0 ≤ x.2 ∧ x.2 < n)) :
  Calls Tryz.prog 70 #[vGrid n n p (n * n) k, .slice q m c] w fun e w' => (∃ g kg, e = .returned (.slice g m kg) ∧ OwnInts w.heap.size w' g (cellsL n xs ps)) ∧ Ext w w' := by
 have hN : n * n ≤ 1681 := Nat.mul_le_mul hn.2 hn.2
 have HX := Lib.hid hx; clear hx
 have HP := Lib.hid hp; clear hp
 replace hb := Lib.hid hb
 replace hlen := Lib.hid hlen
 have hLl : (cellsL n xs ps).length = m := by simp [cellsL, hm]
 have hLv : ∀ j, j < m → (cellsL n xs ps).take (j + 1) = (cellsL n xs ps).take j ++ [xs.getD (plIx n (ps.getD j (0, 0))) 0] := fun j hj => by
  rw [List.take_succ_eq_append_getElem (by omega)]
  simp only [cellsL, List.getElem_map]
  rw [List.getD_eq_getElem?_getD (l := ps), List.getElem?_eq_getElem (by omega)]
  rfl
 replace hLv := Lib.hid hLv
 replace hm := Lib.hid hm
 generalize cellsL n xs ps = L at *
 replace hLl := Lib.hid hLl
 have h0 := (Blk.new w #[.int .i64 n, .int .i64 n, .slice p (n * n) k] 37).alloc (.cells #[] 2)
 have hrow := RowI.made (B := w.heap.size + 1) (w := w.alloc (.cells #[.int .i64 n, .int .i64 n, .slice p (n * n) k] 37)) (by simp)
 have hx0 : Ext w ((w.alloc (.cells #[.int .i64 n, .int .i64 n, .slice p (n * n) k] 37)).alloc (.cells #[] 2)) := ((Ext.refl w).alloc _).alloc _
 simp only [World.size_alloc] at hrow
 go_enter Tryz.func70, Tryz.ntmps70
 go_wp2_with fail
 generalize (w.alloc (.cells #[.int .i64 n, .int .i64 n, .slice p (n * n) k] 37)).alloc (.cells #[] 2) = w0 at *
 go_loopw [5, 6] (fun v i wr => ∃ j : Nat, j ≤ m ∧ i = .int .i64 j ∧ RowI (w.heap.size + 1) wr v (L.take j) ∧ Blk wr w.heap.size #[.int .i64 n, .int .i64 n, .slice p (n * n) k] 37 ∧ Ext w wr) (fun _ i _ => m - (intOf i).toNat)
 case atStart => exact ⟨0, by omega, rfl, by simpa using hrow, h0, hx0⟩
 case round =>
  clear hrow h0 hx0
  obtain ⟨j, hj, rfl, hrow, h0, hext⟩ := hrel
  by_cases hlt : j < m
  ·obtain ⟨bp, op, rfl, hpl, z0, z1⟩ := (HP.out.ext hext).pl2 (k := j) (by rw [hm.out]; exact hlt)
   have hbd := hb.out _ (getD_mem (l := ps) (k := j) (d := (0, 0)) (by rw [hm.out]; exact hlt))
   have ia := plIx_eq (n := n) hbd.1 hbd.2
   have hst := hLv.out j hlt
   have q1 := h0.cell (i := 1) (v := .int .i64 n) rfl
   have q2 := h0.cell (i := 2) (v := .slice p (n * n) k) rfl
   have ql := h0.lt
   generalize ps.getD j (0, 0) = A at *
   obtain ⟨ar, ac⟩ := A
   simp only at z0 z1 hbd ia
   generalize plIx n (ar, ac) = ai at *
   obtain ⟨hia, hia2, hia3⟩ := ia
   have hac := hbd.2.1
   obtain ⟨bx, ox, rfl, hbx, y1⟩ := (HX.out.ext hext) ai (by rw [hlen.out]; exact hia2)
   generalize xs.getD ai 0 = x at *
   have hlj : (L.take j).length ≤ 2000 := by rw [List.length_take]; omega
   obtain ⟨L1, hL1⟩ : ∃ z, L.take (j + 1) = z := ⟨_, rfl⟩
   rw [hL1] at hst
   generalize L.take j = L0 at *
   obtain ⟨M1, hM1⟩ : ∃ M : Int, ar * (n : Int) = M := ⟨_, rfl⟩
   rw [hM1] at hia hia3
   have w1' := IntWalk.i64_in M1 (by omega)
   have w2' := IntWalk.i64_in (ai : Int) (by omega)
   have lai : (ai : Int) < (n : Int) * (n : Int) := by
    have : ((n * n : Nat) : Int) = (n : Int) * (n : Int) := by simp
    omega
   replace hst := Lib.hid hst; replace hL1 := Lib.hid hL1
   clear hbd
   have hbx0 : bx < w.heap.size + 1 := by obtain ⟨b', o', e', h, -⟩ := HX.out ai (by rw [hlen.out]; exact hia2); simp at e'; omega
   have hbp0 : bp < w.heap.size + 1 := by obtain ⟨b', o', e', h, -⟩ := HP.out j (by rw [hm.out]; exact hlt); simp at e'; omega
   have hb0 : w.heap.size < w.heap.size + 1 := Nat.lt_succ_self _
   go_wp2_with fail
   refine wp_region_canon (fun w' => Below (w.heap.size + 1) wr w') [(0, true), (1, true), (2, true), (3, true), (4, true), (5, true), (6, true), (7, true), (8, true), (9, true), (10, true), (11, true), (12, true), (13, true), (14, true), (15, true), (16, true), (17, true), (18, true), (19, false), (20, false), (21, true)] (by kernel_rfl) (by kernel_rfl) (by decide) (by kernel_rfl) ?_ ?_
   ·exact (Below.refl _ _).drew
   refine canon_intro fun ops eo => ?_
   replace eo := canon_eo eo
   all_goals (apply canon_st (eo.out 0 rfl) rfl; (intro w2 hS; first | (go_simp; first | done | rfl) | rfl | ((have hc' := fun b o (h : b < w.heap.size + 1) => hS.cell (p := ⟨b, o, none⟩) h); go_simp; first | done | rfl)); simp only [ptN])
   all_goals (apply canon_st (eo.out 1 rfl) rfl; (intro w2 hS; first | (go_simp; first | done | rfl) | rfl | ((have hc' := fun b o (h : b < w.heap.size + 1) => hS.cell (p := ⟨b, o, none⟩) h); go_simp; first | done | rfl)); simp only [ptN])
   all_goals (apply canon_st (eo.out 2 rfl) rfl; (intro w2 hS; first | (go_simp; first | done | rfl) | rfl | ((have hc' := fun b o (h : b < w.heap.size + 1) => hS.cell (p := ⟨b, o, none⟩) h); go_simp; first | done | rfl)); simp only [ptN])
   all_goals (apply canon_st (eo.out 3 rfl) rfl; (intro w2 hS; first | (go_simp; first | done | rfl) | rfl | ((have hc' := fun b o (h : b < w.heap.size + 1) => hS.cell (p := ⟨b, o, none⟩) h); go_simp; first | done | rfl)); simp only [ptN])
   all_goals (apply canon_st (eo.out 4 rfl) rfl; (intro w2 hS; first | (go_simp; first | done | rfl) | rfl | ((have hc' := fun b o (h : b < w.heap.size + 1) => hS.cell (p := ⟨b, o, none⟩) h); go_simp; first | done | rfl)); simp only [ptN])
   all_goals (apply canon_st (eo.out 5 rfl) rfl; (intro w2 hS; first | (go_simp; first | done | rfl) | rfl | ((have hc' := fun b o (h : b < w.heap.size + 1) => hS.cell (p := ⟨b, o, none⟩) h); go_simp; first | done | rfl)); simp only [ptN])
   all_goals (apply canon_st (eo.out 6 rfl) rfl; (intro w2 hS; first | (go_simp; first | done | rfl) | rfl | ((have hc' := fun b o (h : b < w.heap.size + 1) => hS.cell (p := ⟨b, o, none⟩) h); go_simp; first | done | rfl)); simp only [ptN])
   all_goals (apply canon_st (eo.out 7 rfl) rfl; (intro w2 hS; first | (go_simp; first | done | rfl) | rfl | ((have hc' := fun b o (h : b < w.heap.size + 1) => hS.cell (p := ⟨b, o, none⟩) h); go_simp; first | done | rfl)); simp only [ptN])
   all_goals (apply canon_st (eo.out 8 rfl) rfl; (intro w2 hS; first | (go_simp; first | done | rfl) | rfl | ((have hc' := fun b o (h : b < w.heap.size + 1) => hS.cell (p := ⟨b, o, none⟩) h); go_simp; first | done | rfl)); simp only [ptN])
   all_goals (apply canon_st (eo.out 9 rfl) rfl; (intro w2 hS; first | (go_simp; first | done | rfl) | rfl | ((have hc' := fun b o (h : b < w.heap.size + 1) => hS.cell (p := ⟨b, o, none⟩) h); go_simp; first | done | rfl)); simp only [ptN])
   all_goals (apply canon_st (eo.out 10 rfl) rfl; (intro w2 hS; first | (go_simp; first | done | rfl) | rfl | ((have hc' := fun b o (h : b < w.heap.size + 1) => hS.cell (p := ⟨b, o, none⟩) h); go_simp; first | done | rfl)); simp only [ptN])
   all_goals (apply canon_st (eo.out 11 rfl) rfl; (intro w2 hS; first | (go_simp; first | done | rfl) | rfl | ((have hc' := fun b o (h : b < w.heap.size + 1) => hS.cell (p := ⟨b, o, none⟩) h); go_simp; first | done | rfl)); simp only [ptN])
   all_goals (apply canon_st (eo.out 12 rfl) rfl; (intro w2 hS; first | (go_simp; first | done | rfl) | rfl | ((have hc' := fun b o (h : b < w.heap.size + 1) => hS.cell (p := ⟨b, o, none⟩) h); go_simp; first | done | rfl)); simp only [ptN])
   all_goals (apply canon_st (eo.out 13 rfl) rfl; (intro w2 hS; first | (go_simp; first | done | rfl) | rfl | ((have hc' := fun b o (h : b < w.heap.size + 1) => hS.cell (p := ⟨b, o, none⟩) h); go_simp; first | done | rfl)); simp only [ptN])
   all_goals (apply canon_st (eo.out 14 rfl) rfl; (intro w2 hS; first | (go_simp; first | done | rfl) | rfl | ((have hc' := fun b o (h : b < w.heap.size + 1) => hS.cell (p := ⟨b, o, none⟩) h); go_simp; first | done | rfl)); simp only [ptN])
   all_goals (apply canon_st (eo.out 15 rfl) rfl; (intro w2 hS; first | (go_simp; first | done | rfl) | rfl | ((have hc' := fun b o (h : b < w.heap.size + 1) => hS.cell (p := ⟨b, o, none⟩) h); go_simp; first | done | rfl)); simp only [ptN])
   all_goals (apply canon_st (eo.out 16 rfl) rfl; (intro w2 hS; first | (go_simp; first | done | rfl) | rfl | ((have hc' := fun b o (h : b < w.heap.size + 1) => hS.cell (p := ⟨b, o, none⟩) h); go_simp; first | done | rfl)); simp only [ptN])
   all_goals (apply canon_st (eo.out 17 rfl) rfl; (intro w2 hS; first | (go_simp; first | done | rfl) | rfl | ((have hc' := fun b o (h : b < w.heap.size + 1) => hS.cell (p := ⟨b, o, none⟩) h); go_simp; first | done | rfl)); simp only [ptN])
   all_goals (apply canon_st (eo.out 18 rfl) rfl; (intro w2 hS; first | (go_simp; first | done | rfl) | rfl | ((have hc' := fun b o (h : b < w.heap.size + 1) => hS.cell (p := ⟨b, o, none⟩) h); go_simp; first | done | rfl)); simp only [ptN])
   all_goals first | (refine canon_ef (eo.out 19 rfl) rfl (fun K hK => ?_); ((refine append1I_op (w0 := wr.drew) (hrow.drewN 0) (by omega) (show w.heap.size + 1 ≤ wr.heap.size by omega) ?_ rfl rfl; intro v9 w9 hrow9 hg9; have hlow9 : Below (w.heap.size + 1) wr w9 := (Below.refl _ wr).drew.trans (hg9.below (fun k hk => (hrow.lt k hk).1) (show w.heap.size + 1 ≤ wr.heap.size by omega)))); all_goals (refine hK _ _ ⟨(by first | assumption | exact (Below.refl _ _).drew | exact ((Below.refl _ _).drew).alloc (show w.heap.size + 1 ≤ wr.heap.size by omega) _ | exact ((Below.refl _ _).alloc (show w.heap.size + 1 ≤ wr.heap.size by omega) _).drew), ?_⟩; clear hK K; go_simp)) | (refine canon_ef (eo.out 19 rfl) rfl (fun K hK => ?_); go_simp; (skip); all_goals (refine hK _ _ ⟨(by first | assumption | exact (Below.refl _ _).drew | exact ((Below.refl _ _).drew).alloc (show w.heap.size + 1 ≤ wr.heap.size by omega) _ | exact ((Below.refl _ _).alloc (show w.heap.size + 1 ≤ wr.heap.size by omega) _).drew), ?_⟩; clear hK K; go_simp))
   all_goals first | (refine canon_ef (eo.out 20 rfl) rfl (fun K hK => ?_); ((refine append1I_op (w0 := wr.drew) (hrow.drewN 0) (by omega) (show w.heap.size + 1 ≤ wr.heap.size by omega) ?_ rfl rfl; intro v9 w9 hrow9 hg9; have hlow9 : Below (w.heap.size + 1) wr w9 := (Below.refl _ wr).drew.trans (hg9.below (fun k hk => (hrow.lt k hk).1) (show w.heap.size + 1 ≤ wr.heap.size by omega)))); all_goals (refine hK _ _ ⟨(by first | assumption | exact (Below.refl _ _).drew | exact ((Below.refl _ _).drew).alloc (show w.heap.size + 1 ≤ wr.heap.size by omega) _ | exact ((Below.refl _ _).alloc (show w.heap.size + 1 ≤ wr.heap.size by omega) _).drew), ?_⟩; clear hK K; go_simp)) | (refine canon_ef (eo.out 20 rfl) rfl (fun K hK => ?_); go_simp; (skip); all_goals (refine hK _ _ ⟨(by first | assumption | exact (Below.refl _ _).drew | exact ((Below.refl _ _).drew).alloc (show w.heap.size + 1 ≤ wr.heap.size by omega) _ | exact ((Below.refl _ _).alloc (show w.heap.size + 1 ≤ wr.heap.size by omega) _).drew), ?_⟩; clear hK K; go_simp))
   all_goals (apply canon_st (eo.out 21 rfl) rfl; (intro w2 hS; first | (go_simp; first | done | rfl) | rfl | ((have hc' := fun b o (h : b < w.heap.size + 1) => hS.cell (p := ⟨b, o, none⟩) h); go_simp; first | done | rfl)); simp only [ptN])
   all_goals (clear eo; refine canon_done (NoPanic.normal ?_))
   go_wp2_with fail
   go_roundw
   case rel => exact ⟨j + 1, hlt, by go_num, by rw [hL1.out, hst.out]; exact hrow9, h0.low hlow9 (by omega), hext.low hlow9 (by omega)⟩
   case measure => simp [intOf]; omega
  ·obtain rfl : j = m := by omega
   rw [List.take_of_length_le (by rw [hLl.out]; omega)] at hrow
   obtain ⟨g, kg, rfl, ho⟩ := hrow.own
   rw [hLl.out]
   go_wp2_with fail
   go_ret
   exact ⟨⟨g, kg, rfl, ho.mono (Nat.le_succ _)⟩, hext⟩
set_option maxHeartbeats 800000 in
set_option maxRecDepth 100000 in
theorem sReadFormat_c (r c : Int) (p : Option Addr) (k : Nat) (xs : List Int) (w : World) (hx : IntsAt w p xs) (hl : xs.length ≤ 1048576) :
  Calls Tryz.prog 36 #[vGrid r c p xs.length k] w fun e w' => e = .returned (.tuple #[.int .i64 (rfV r c xs).1, .int .i64 (rfV r c xs).2]) ∧ Ext w w' := by
 have HX := Lib.hid hx; clear hx
 have hb := Blk.new w #[.int .i64 r, .int .i64 c, .slice p xs.length k] 37
 have hx0 : Ext w (w.alloc (.cells #[.int .i64 r, .int .i64 c, .slice p xs.length k] 37)) := (Ext.refl w).alloc _
 have hmt := Lib.hid (fun W (h : IntsAt W p xs) => sMat_c r c p k xs W h hl)
 by_cases h1 : matOK r c xs
 ·have hV : rfV r c xs = shareV (cellsL r.toNat xs aPl) (cellsL r.toNat xs (bPl r)) := by unfold rfV; rw [if_neg (not_not_intro h1)]
  rw [hV]
  obtain ⟨n, rfl, rfl, hn1, hn2, hn4, hlen, hxb⟩ := matOK_nat h1
  simp only [Int.toNat_natCast]
  have hfa := cellsL_fm (n := n) (ps := aPl) hxb
  have hfb := cellsL_fm (n := n) (ps := bPl n) hxb
  replace h1 := Lib.hid h1
  clear hV hxb
  have hN : n * n ≤ 1681 := Nat.mul_le_mul hn2 hn2
  have hcd := shareV_cd (cellsL n xs aPl) (cellsL n xs (bPl n))
  have hca := fun q m c W (h : IntsAt W p xs) (h2 : PlAt W q aPl) (h3 : aPl.length = m) => sCells_c n k m c p q xs aPl W ⟨hn1, hn2⟩ h hlen h2 h3 (by rw [← h3]; decide) (aPl_in hn1)
  have hcb := fun q m c W (h : IntsAt W p xs) (h2 : PlAt W q (bPl n)) (h3 : (bPl n).length = m) => sCells_c n k m c p q xs (bPl n) W ⟨hn1, hn2⟩ h hlen h2 h3 (by rw [← h3]; show 15 ≤ 2000; omega) (bPl_bd hn1)
  rw [← hlen] at hca hcb
  have hla : (cellsL n xs aPl).length = 15 := by simp [cellsL, aPl]
  have hlb : (cellsL n xs (bPl n)).length = 15 := by simp [cellsL, bPl]
  have hsh := fun p' q' c' d' W (h1 : IntsAt W p' (cellsL n xs aPl)) (h2 : IntsAt W q' (cellsL n xs (bPl n))) => sShare_c p' q' c' d' _ _ W h1 h2 hla hlb hfa hfb
  clear hfa hfb hla hlb
  generalize cellsL n xs aPl = LA at *
  generalize cellsL n xs (bPl n) = LB at *
  generalize shareV LA LB = V at *
  replace hca := Lib.hid hca; replace hcb := Lib.hid hcb; replace hsh := Lib.hid hsh; replace hlen := Lib.hid hlen
  have hfm := Lib.hid (fun W => sFormats_c n W (by omega))
  obtain ⟨v1, v2⟩ := V
  simp only at hsh hcd ⊢
  go_enter Tryz.func36, Tryz.ntmps36
  go_wp2_with (first
   | (go_at_call 66; (with_reducible refine (hmt.out _ (HX.out.ext hx0)).mono ?_); rintro e w1 ⟨⟨hP, rfl⟩ | ⟨hP, rfl⟩, hx1⟩ <;> (first | exact absurd h1.out hP | skip); have hb1 := hb.ext hx1; obtain ⟨q0, q1, q2⟩ := hb1.c3; have ql := hb1.lt)
   | (go_at_call 67; (with_reducible refine (hfm.out _).mono ?_); rintro e w4 ⟨⟨va, vb, rfl, hra, hrb, -⟩, hx4⟩; obtain ⟨pa, ca, rfl, haA, -⟩ := hra.nfree plF_len; obtain ⟨pb, cb, rfl, haB, -⟩ := hrb.nfree plF_len; have hb4 := hb1.ext hx4; have hx04 := (hx0.trans hx1).trans hx4))
  clear q0 q1 q2 ql hra hrb hb hb1 hx0 hx1 hx4
  rw [show aPl.length = 15 from rfl, show (bPl n).length = 15 from rfl]
  obtain ⟨q0, q1, q2⟩ := hb4.c3; have ql := hb4.lt
  refine wp_region_canon (fun w' => Ext w4 w') [(1, true), (2, true), (4, true), (5, true), (0, false), (3, false), (6, false), (7, false), (8, true), (9, true), (10, true), (11, true)] (by kernel_rfl) (by kernel_rfl) (by decide) (by kernel_rfl) ?_ ?_
  ·exact eX
  refine canon_intro fun ops eo => ?_
  replace eo := canon_eo eo
  iterate 4 all_goals (refine cS eo rfl rfl evE ?_; simp only [ptN])
  all_goals first | (refine canon_ef (eo.out 0 rfl) rfl (fun K hK => ?_); go_simp; ((go_at_call 69; (with_reducible refine (sStdFmt_c _).mono ?_); rintro e w5 ⟨rfl, hx5⟩)); all_goals (refine hK _ _ ⟨eX, ?_⟩; clear hK K; go_simp)) | (refine canon_ef (eo.out 0 rfl) rfl (fun K hK => ?_); go_simp; ((go_at_call 70; (with_reducible refine (hca.out pa 15 ca _ (HX.out.ext (hx04.trans eX)) (haA.ext eX) rfl).mono ?_); rintro e w6 ⟨⟨ga, kga, rfl, oqa⟩, hx6⟩)); all_goals (refine hK _ _ ⟨eX, ?_⟩; clear hK K; go_simp)) | (refine canon_ef (eo.out 0 rfl) rfl (fun K hK => ?_); go_simp; ((go_at_call 70; (with_reducible refine (hcb.out pb 15 cb _ (HX.out.ext (hx04.trans eX)) (haB.ext eX) rfl).mono ?_); rintro e w7 ⟨⟨gb, kgb, rfl, oqb⟩, hx7⟩)); all_goals (refine hK _ _ ⟨eX, ?_⟩; clear hK K; go_simp)) | (refine canon_ef (eo.out 0 rfl) rfl (fun K hK => ?_); go_simp; ((go_at_call 68; (with_reducible refine (hsh.out _ _ _ _ _ (oqa.ints.ext eX) oqb.ints).mono ?_); rintro e w8 ⟨rfl, hx8⟩)); all_goals (refine hK _ _ ⟨eX, ?_⟩; clear hK K; go_simp))
  all_goals first | (refine canon_ef (eo.out 3 rfl) rfl (fun K hK => ?_); go_simp; ((go_at_call 69; (with_reducible refine (sStdFmt_c _).mono ?_); rintro e w5 ⟨rfl, hx5⟩)); all_goals (refine hK _ _ ⟨eX, ?_⟩; clear hK K; go_simp)) | (refine canon_ef (eo.out 3 rfl) rfl (fun K hK => ?_); go_simp; ((go_at_call 70; (with_reducible refine (hca.out pa 15 ca _ (HX.out.ext (hx04.trans eX)) (haA.ext eX) rfl).mono ?_); rintro e w6 ⟨⟨ga, kga, rfl, oqa⟩, hx6⟩)); all_goals (refine hK _ _ ⟨eX, ?_⟩; clear hK K; go_simp)) | (refine canon_ef (eo.out 3 rfl) rfl (fun K hK => ?_); go_simp; ((go_at_call 70; (with_reducible refine (hcb.out pb 15 cb _ (HX.out.ext (hx04.trans eX)) (haB.ext eX) rfl).mono ?_); rintro e w7 ⟨⟨gb, kgb, rfl, oqb⟩, hx7⟩)); all_goals (refine hK _ _ ⟨eX, ?_⟩; clear hK K; go_simp)) | (refine canon_ef (eo.out 3 rfl) rfl (fun K hK => ?_); go_simp; ((go_at_call 68; (with_reducible refine (hsh.out _ _ _ _ _ (oqa.ints.ext eX) oqb.ints).mono ?_); rintro e w8 ⟨rfl, hx8⟩)); all_goals (refine hK _ _ ⟨eX, ?_⟩; clear hK K; go_simp))
  all_goals first | (refine canon_ef (eo.out 6 rfl) rfl (fun K hK => ?_); go_simp; ((go_at_call 69; (with_reducible refine (sStdFmt_c _).mono ?_); rintro e w5 ⟨rfl, hx5⟩)); all_goals (refine hK _ _ ⟨eX, ?_⟩; clear hK K; go_simp)) | (refine canon_ef (eo.out 6 rfl) rfl (fun K hK => ?_); go_simp; ((go_at_call 70; (with_reducible refine (hca.out pa 15 ca _ (HX.out.ext (hx04.trans eX)) (haA.ext eX) rfl).mono ?_); rintro e w6 ⟨⟨ga, kga, rfl, oqa⟩, hx6⟩)); all_goals (refine hK _ _ ⟨eX, ?_⟩; clear hK K; go_simp)) | (refine canon_ef (eo.out 6 rfl) rfl (fun K hK => ?_); go_simp; ((go_at_call 70; (with_reducible refine (hcb.out pb 15 cb _ (HX.out.ext (hx04.trans eX)) (haB.ext eX) rfl).mono ?_); rintro e w7 ⟨⟨gb, kgb, rfl, oqb⟩, hx7⟩)); all_goals (refine hK _ _ ⟨eX, ?_⟩; clear hK K; go_simp)) | (refine canon_ef (eo.out 6 rfl) rfl (fun K hK => ?_); go_simp; ((go_at_call 68; (with_reducible refine (hsh.out _ _ _ _ _ (oqa.ints.ext eX) oqb.ints).mono ?_); rintro e w8 ⟨rfl, hx8⟩)); all_goals (refine hK _ _ ⟨eX, ?_⟩; clear hK K; go_simp))
  all_goals first | (refine canon_ef (eo.out 7 rfl) rfl (fun K hK => ?_); go_simp; ((go_at_call 69; (with_reducible refine (sStdFmt_c _).mono ?_); rintro e w5 ⟨rfl, hx5⟩)); all_goals (refine hK _ _ ⟨eX, ?_⟩; clear hK K; go_simp)) | (refine canon_ef (eo.out 7 rfl) rfl (fun K hK => ?_); go_simp; ((go_at_call 70; (with_reducible refine (hca.out pa 15 ca _ (HX.out.ext (hx04.trans eX)) (haA.ext eX) rfl).mono ?_); rintro e w6 ⟨⟨ga, kga, rfl, oqa⟩, hx6⟩)); all_goals (refine hK _ _ ⟨eX, ?_⟩; clear hK K; go_simp)) | (refine canon_ef (eo.out 7 rfl) rfl (fun K hK => ?_); go_simp; ((go_at_call 70; (with_reducible refine (hcb.out pb 15 cb _ (HX.out.ext (hx04.trans eX)) (haB.ext eX) rfl).mono ?_); rintro e w7 ⟨⟨gb, kgb, rfl, oqb⟩, hx7⟩)); all_goals (refine hK _ _ ⟨eX, ?_⟩; clear hK K; go_simp)) | (refine canon_ef (eo.out 7 rfl) rfl (fun K hK => ?_); go_simp; ((go_at_call 68; (with_reducible refine (hsh.out _ _ _ _ _ (oqa.ints.ext eX) oqb.ints).mono ?_); rintro e w8 ⟨rfl, hx8⟩)); all_goals (refine hK _ _ ⟨eX, ?_⟩; clear hK K; go_simp))
  iterate 4 all_goals (refine cS eo rfl rfl evE ?_; simp only [ptN])
  all_goals (clear eo; refine canon_done (NoPanic.normal ?_))
  have hx48 : Ext w4 w8 := eX
  clear q0 q1 q2 ql oqa oqb
  clear hcd
  go_wp2_with fail
  go_ret2
  exact ⟨rfl, hx04.trans hx48⟩
 ·have hV : rfV r c xs = (0, 1) := by unfold rfV; rw [if_pos h1]
  rw [hV]
  replace h1 := Lib.hid h1
  clear hV
  go_enter Tryz.func36, Tryz.ntmps36
  go_wp2_with (go_at_call 66; (with_reducible refine (hmt.out _ (HX.out.ext hx0)).mono ?_); rintro e w1 ⟨⟨hP, rfl⟩ | ⟨hP, rfl⟩, hx1⟩ <;> (first | exact absurd hP h1.out | skip))
  go_ret2
  exact ⟨rfl, hx0.trans hx1⟩
open Go.RowKit

end Go.Proofs.YtojdediohjghnaaGreatDoor
