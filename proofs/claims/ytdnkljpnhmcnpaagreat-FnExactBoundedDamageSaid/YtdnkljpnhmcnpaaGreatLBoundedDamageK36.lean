/- The damage of a stream, the reference's side. -/
import Derived.Test.YtdnkljpnhmcnpaaGreatLBoundedDamageK30
import Derived.Test.YtdnkljpnhmcnpaaGreatLBoundedDamageK35
import Derived.Test.YtdnkljpnhmcnpaaGreatLBoundedDamageK11
set_option linter.unusedVariables false
set_option linter.unusedSimpArgs false
namespace Go.Proofs.YtdnkljpnhmcnpaaGreat
open Go.RowKit

set_option maxHeartbeats 800000 in
set_option maxRecDepth 100000 in
theorem l07Marks_t (p : Option Addr) (c : Nat) (xs : List Int) (n : Int) (w : World) (hx : IntsAt w p xs) (hl : xs.length ≤ 1048576) (h : risOK 0 (n - 1) xs) (hn : 0 ≤ n ∧ n ≤ 100000) :
  Calls Tryz.prog 167 #[.slice p xs.length c, .int .i64 n] w fun e w' => e = .returned (.bool true) ∧ Ext w w' := by
 have HX := Lib.hid hx; clear hx
 have en := IntWalk.i64_in (n - 1) (by omega)
 have hr := Lib.hid (fun j (hj : j < xs.length) => h j hj)
 clear h
 go_enter Tryz.func167, Tryz.ntmps167
 go_upto_region 2 with (fail)
 go_loopw [5] (fun i wr => ∃ j : Nat, j ≤ xs.length ∧ i = .int .i64 j ∧ Ext w wr) (fun i _ => xs.length - (intOf i).toNat)
 case atStart => exact ⟨0, Nat.zero_le _, rfl, Ext.refl _⟩
 case round =>
  obtain ⟨j, hj, rfl, hxr⟩ := hrel
  by_cases hlt : j < xs.length
  ·obtain ⟨hb, hris⟩ := hr.out j hlt
   have HI := HX.out.ext hxr
   obtain ⟨b, o, rfl, hbl, y1⟩ := HI j hlt
   have hji : (j : Int) < (xs.length : Int) := by omega
   rcases Nat.eq_zero_or_pos j with rfl | hj0
   ·rw [Nat.add_zero] at y1
    generalize xs.getD 0 0 = x at *
    clear HI hris
    go_upto_region 4 with (fail)
    refine wp_region_canon (fun w' => Ext wr w') [(0, true), (1, true), (2, true), (3, true), (4, true), (5, true), (6, false), (7, true), (8, true), (9, true), (10, true), (11, true), (12, true), (13, true), (14, true), (15, true), (16, true), (17, true), (18, true), (19, true), (20, true), (21, true), (22, true), (23, true)] (by kernel_rfl) (by kernel_rfl) (by decide) (by kernel_rfl) ?_ ?_
    ·exact eX
    refine canon_intro fun ops eo => ?_
    replace eo := canon_eo eo
    iterate 6 all_goals (refine cS eo rfl rfl evE ?_; simp only [ptN])
    all_goals first | (refine canon_ef (eo.out 6 rfl) rfl (fun K hK => ?_); go_simp; ((go_at_call 29; (with_reducible refine (l01In_c _ _ _ _).mono ?_); rintro e w5 ⟨⟨hP, rfl⟩ | ⟨hP, rfl⟩, rfl⟩ <;> first | (exfalso; omega) | skip)); all_goals (refine hK _ _ ⟨eX, ?_⟩; clear hK K; go_simp))
    iterate 2 all_goals (refine cS eo rfl rfl evE ?_; simp only [ptN])
    iterate 14 all_goals ((first | refine cU eo rfl rfl rfl rfl rfl ?_ | refine cX eo rfl rfl rfl rfl rfl ?_ | refine cW eo rfl rfl rfl rfl rfl evE ?_); simp only [ptN])
    all_goals (refine cS eo rfl rfl evE ?_; simp only [ptN])
    all_goals (clear eo; refine canon_done (NoPanic.normal ?_))
    have hxd : Ext w wr.drew := hxr.drew
    go_wp2
    go_roundw
    case rel => exact ⟨1, hlt, by go_num, hxd⟩
    case measure => simp [intOf]; omega
   ·obtain ⟨i, rfl⟩ : ∃ i, j = i + 1 := ⟨j - 1, by omega⟩
    have hlt2 := hris hj0
    obtain ⟨b', o', e', hbl', y0⟩ := HI i (by omega)
    injection e' with e'
    injection e' with e1 e2 e3
    subst e1
    subst e2
    rw [show i + 1 - 1 = i from rfl] at hlt2
    have hnle : ¬ xs.getD (i + 1) 0 ≤ xs.getD i 0 := by omega
    generalize xs.getD (i + 1) 0 = x at *
    generalize xs.getD i 0 = y at *
    clear HI hris
    have hi0 : (0 : Int) < ((i + 1 : Nat) : Int) := by omega
    have hi1 : ((i + 1 : Nat) : Int) - 1 = (i : Int) := by omega
    have e1 := IntWalk.i64_in (i : Int) (by omega)
    have hil : i < xs.length := by omega
    go_upto_region 4 with (fail)
    refine wp_region_canon (fun w' => Ext wr w') [(0, true), (1, true), (2, true), (3, true), (4, true), (5, true), (6, false), (7, true), (8, true), (9, true), (10, true), (11, true), (12, true), (13, true), (14, true), (15, true), (16, true), (17, true), (18, true), (19, true), (20, true), (21, true), (22, true), (23, true)] (by kernel_rfl) (by kernel_rfl) (by decide) (by kernel_rfl) ?_ ?_
    ·exact eX
    refine canon_intro fun ops eo => ?_
    replace eo := canon_eo eo
    iterate 6 all_goals (refine cS eo rfl rfl evE ?_; simp only [ptN])
    all_goals first | (refine canon_ef (eo.out 6 rfl) rfl (fun K hK => ?_); go_simp; ((go_at_call 29; (with_reducible refine (l01In_c _ _ _ _).mono ?_); rintro e w5 ⟨⟨hP, rfl⟩ | ⟨hP, rfl⟩, rfl⟩ <;> first | (exfalso; omega) | skip)); all_goals (refine hK _ _ ⟨eX, ?_⟩; clear hK K; go_simp))
    iterate 2 all_goals (refine cS eo rfl rfl evE ?_; simp only [ptN])
    iterate 14 all_goals ((first | refine cU eo rfl rfl rfl rfl rfl ?_ | refine cX eo rfl rfl rfl rfl rfl ?_ | refine cW eo rfl rfl rfl rfl rfl evE ?_); simp only [ptN])
    all_goals (refine cS eo rfl rfl evE ?_; simp only [ptN])
    all_goals (clear eo; refine canon_done (NoPanic.normal ?_))
    have hxd : Ext w wr.drew := hxr.drew
    go_wp2
    go_roundw
    case rel => exact ⟨i + 1 + 1, hlt, by go_num, hxd⟩
    case measure => simp [intOf]; omega
  ·obtain rfl : j = xs.length := by omega
   go_wp2
   go_ret
   exact ⟨rfl, hxr⟩
def SdR (P : Prop) (e : Ending) : Prop := (P ∧ e = .returned (.tuple #[.bool true, .int .i64 0])) ∨ (¬ P ∧ e = .returned (.tuple #[.bool false, .int .i64 0]))
theorem LLs.row {B g ca n : Nat} {w : World} {Ls : List (List Int)} (h : LLs B w (.slice (some ⟨g, 0, none⟩) n ca) Ls) {i : Nat} (hi : i < Ls.length) : g < w.heap.size ∧ ∃ q c, w.cell? ⟨g, i, none⟩ = some (.slice q (Ls.getD i []).length c) ∧ IntsAt w q (Ls.getD i []) := by
 obtain ⟨g', ca', q, c, hv, h1, h2, h3⟩ := h.at hi
 injection hv with e1 e2 e3
 injection e1 with e1
 injection e1 with e4 e5 e6
 subst e4
 exact ⟨h1, q, c, h2, h3⟩
set_option maxHeartbeats 3200000 in
set_option maxRecDepth 100000 in
theorem sStreamDamage_c (p k q : Int) (D C N : Nat) (pd pe : Option Addr) (cd ce : Nat) (dm er : List Int) (w : World) (hd : IntsAt w pd dm) (he : IntsAt w pe er) (hld : dm.length ≤ 1048576) (hle : er.length ≤ 1048576) (hl : layOK p k q D C N) (hrd : risOK 0 (((D + C * N : Nat) : Int) - 1) dm) (hre : risOK 0 (((D + C * N : Nat) : Int) - 1) er) :
  Calls Tryz.prog 114 #[vLay p k q D C N, .slice pd dm.length cd, .slice pe er.length ce] w fun e w' => SdR (sdOK D C N dm er) e ∧ Ext w w' := by
 have HD := Lib.hid hd; have HE := Lib.hid he; clear hd he
 obtain ⟨⟨hN1, hN2⟩, ⟨hD1, hD2⟩, ⟨hC1, hC2⟩, hT, -, -⟩ := id hl
 have hCN : ((C * N : Nat) : Int) = (N : Int) * (C : Int) := by rw [Int.natCast_mul, Int.mul_comm]
 have hTb : D + C * N ≤ 1500 := by omega
 have hTe : (D : Int) + (N : Int) * (C : Int) = ((D + C * N : Nat) : Int) := by omega
 have hil := Lib.hid (fun W => sIsLayout_c p k q D C N W (by omega) (by omega) (by omega))
 have hto := Lib.hid (fun W => l07Total_c p k q D C N W (by omega) (by omega) (by omega))
 rw [hTe] at hto
 have hmd := Lib.hid (fun W (h : IntsAt W pd dm) => l07Marks_t pd cd dm ((D + C * N : Nat) : Int) W h hld hrd (by omega))
 have hme := Lib.hid (fun W (h : IntsAt W pe er) => l07Marks_t pe ce er ((D + C * N : Nat) : Int) W h hle hre (by omega))
 have hor := Lib.hid (fun W => l07Order_c p k q D C N W (by omega) (by omega) (by omega))
 have hll := ordL_len D C N (by omega)
 have hin := Lib.hid (fun t (h : t < D + C * N) => (ordL_in (D := D) (C := C) (N := N) (by omega) (getD_mem (d := (0, 0)) (by rw [hll]; exact h))).1)
 have hwb := fun b t => bsum_bd (L := ordL D C N) (b := b) (wtL_bd (D + C * N) dm er) t
 have hwt := fun t (h : t < D + C * N) => wtL_at (dm := dm) (er := er) h
 have hs1 := fun t b h => sumsL_step (L := ordL D C N) (wt := wtL (D + C * N) dm er) (N := N) (t := t) (b := b) h
 have hs0 := fun t h => sumsL_none (L := ordL D C N) (wt := wtL (D + C * N) dm er) (N := N) (t := t) h
 have hsz := sumsL_zero (ordL D C N) (wtL (D + C * N) dm er) N
 have hsl := fun t => sumsL_len (ordL D C N) (wtL (D + C * N) dm er) N t
 have hsa := fun t b h => sumsL_at (L := ordL D C N) (wt := wtL (D + C * N) dm er) (N := N) (t := t) (b := b) h
 have hro := fun t (h : t < D + C * N) => rowsO_at (L := ordL D C N) (i := t) (by rw [hll]; exact h)
 have hrl := rowsO_len (ordL D C N)
 rw [hll] at hrl
 have hok : sdOK D C N dm er ↔ ∀ b, b < N → bsum (ordL D C N) (wtL (D + C * N) dm er) b (D + C * N) ≤ (C : Int) := Iff.rfl
 obtain ⟨PP, hPP⟩ : ∃ PP, sdOK D C N dm er = PP := ⟨_, rfl⟩
 rw [hPP] at hok ⊢
 clear hPP
 have hTp : 0 < D + C * N := by omega
 generalize rowsO (ordL D C N) = RO at *
 generalize ordL D C N = L at *
 generalize wtL (D + C * N) dm er = wt at *
 generalize D + C * N = T at *
 have hhe := Lib.hid (fun (i : Nat) W (h : IntsAt W pe er) => l05Has_c pe ce (i : Int) er W h hle)
 have hhd := Lib.hid (fun (i : Nat) W (h : IntsAt W pd dm) => l05Has_c pd cd (i : Int) dm W h hld)
 replace hll := Lib.hid hll; replace hwb := Lib.hid hwb; replace hwt := Lib.hid hwt; replace hs1 := Lib.hid hs1; replace hs0 := Lib.hid hs0; replace hsz := Lib.hid hsz; replace hsl := Lib.hid hsl; replace hsa := Lib.hid hsa; replace hro := Lib.hid hro; replace hrl := Lib.hid hrl; replace hok := Lib.hid hok
 replace hl := Lib.hid hl
 clear hT hTe hCN hrd hre
 have hxA : Ext w (w.alloc (.cells #[.int .i64 p, .int .i64 k, .int .i64 q, .int .i64 D, .int .i64 C, .int .i64 N] 95)) := (Ext.refl w).alloc _
 have PF := Blk.new w #[.int .i64 p, .int .i64 k, .int .i64 q, .int .i64 D, .int .i64 C, .int .i64 N] 95
 have hN0 : ¬ N = 0 := by omega
 go_enter Tryz.func114, Tryz.ntmps114
 go_upto_region 1 with (fail)
 obtain ⟨gF, hgF⟩ : ∃ g, w.heap.size = g := ⟨_, rfl⟩
 rw [hgF] at PF ⊢
 clear hgF
 generalize w.alloc (.cells #[.int .i64 p, .int .i64 k, .int .i64 q, .int .i64 D, .int .i64 C, .int .i64 N] 95) = w0 at *
 obtain ⟨c0, c1, c2, c3, c4, c5⟩ := PF.c6; have cL := PF.lt
 go_upto_region 6 with (first
  | (go_at_call 110; go_loud ((with_reducible refine (hil.out _).mono ?_); rintro e1 w1 ⟨⟨hP, rfl⟩ | ⟨hP, rfl⟩, hx1⟩ <;> (first | exact absurd hl.out hP | skip); replace PF := PF.ext hx1; replace hxA := hxA.trans hx1; clear c0 c1 c2 c3 c4 c5 cL; obtain ⟨c0, c1, c2, c3, c4, c5⟩ := PF.c6; have cL := PF.lt))
  | (go_at_call 119; go_loud ((with_reducible refine (hto.out _).mono ?_); rintro e2 w2 ⟨rfl, hx2⟩; replace PF := PF.ext hx2; replace hxA := hxA.trans hx2; clear c0 c1 c2 c3 c4 c5 cL; obtain ⟨c0, c1, c2, c3, c4, c5⟩ := PF.c6; have cL := PF.lt))
  | (go_at_call 167; ((with_reducible refine (hmd.out _ (HD.out.ext hxA)).mono ?_); rintro e3 w3 ⟨rfl, hx3⟩; replace PF := PF.ext hx3; replace hxA := hxA.trans hx3; clear c0 c1 c2 c3 c4 c5 cL; obtain ⟨c0, c1, c2, c3, c4, c5⟩ := PF.c6; have cL := PF.lt))
  | (go_at_call 167; ((with_reducible refine (hme.out _ (HE.out.ext hxA)).mono ?_); rintro e3 w3 ⟨rfl, hx3⟩; replace PF := PF.ext hx3; replace hxA := hxA.trans hx3; clear c0 c1 c2 c3 c4 c5 cL; obtain ⟨c0, c1, c2, c3, c4, c5⟩ := PF.c6; have cL := PF.lt))
  | (go_at_call 168; go_loud ((with_reducible refine (hor.out _).mono ?_); rintro e6 w6 ⟨⟨v8, rfl, hO⟩, hx6⟩; replace PF := PF.ext hx6; replace hxA := hxA.trans hx6; clear c0 c1 c2 c3 c4 c5 cL; obtain ⟨c0, c1, c2, c3, c4, c5⟩ := PF.c6; have cL := PF.lt)))
 obtain ⟨g8, ca8, _, _, rfl, -, -, -⟩ := hO.at (i := 0) (by rw [hrl.out]; exact hTp)
 rw [hrl.out]
 rw [hrl.out] at hO
 have hrow := Lib.hid (fun W (hx : Ext w6 W) t (ht : t < T) => by
  have := (hO.ext hx).row (i := t) (by rw [hrl.out]; exact ht)
  rw [hro.out t ht] at this
  exact this)
 have hmd0 := OwnInts.made (B := w6.heap.size) (N := N) w6 2 (Nat.le_refl _)
 rw [← hsz.out] at hmd0
 have hx7 : Ext w6 (w6.alloc (.cells (madeCells #[.int .i64 0] N) 2)) := (Ext.refl _).alloc _
 have hlt7 : w6.heap.size < (w6.alloc (.cells (madeCells #[.int .i64 0] N) 2)).heap.size := by rw [World.size_alloc]; omega
 go_upto_region 8 with (refine make_blk Tryz.underlying22 infoInt N rfl rfl (by omega) (by omega) ?_)
 clear c0 c1 c2 c3 c4 c5 cL hO
 generalize w6.alloc (.cells (madeCells #[.int .i64 0] N) 2) = w7 at *
 go_loopw [10] (fun i wr => ∃ t : Nat, t ≤ T ∧ i = .int .i64 t ∧ OwnInts w6.heap.size wr (some ⟨w6.heap.size, 0, none⟩) (sumsL L wt N t) ∧ Ext w6 wr) (fun i _ => T + 10 - (intOf i).toNat)
 case atStart => exact ⟨0, Nat.zero_le _, rfl, hmd0, hx7⟩
 case round =>
  clear hmd0 hx7 hlt7
  obtain ⟨t, ht, rfl, hs, hxr⟩ := hrel
  by_cases hlt : t < T
  ·have hbN := hin.out t hlt
   have hst := hs1.out t _ rfl
   have hs0' := hs0.out t
   rw [hwt.out t hlt] at hst hs0'
   obtain ⟨hg8, q8, c8, hc8, hq8⟩ := hrow.out wr hxr t hlt
   have hwbt := hwb.out (L.getD t (0, 0)).1 t
   have hsat := hsa.out t (L.getD t (0, 0)).1 hbN
   generalize (L.getD t (0, 0)).1 = b at *
   generalize (L.getD t (0, 0)).2 = ee at *
   obtain ⟨bq, oq, rfl, hbq, yq⟩ := hq8 0 (by simp)
   rw [Nat.add_zero] at yq
   have yq : wr.cell? ⟨bq, oq, none⟩ = some (.int .i64 (b : Int)) := yq
   have hc8 : wr.cell? ⟨g8, t, none⟩ = some (.slice (some ⟨bq, oq, none⟩) 2 c8) := hc8
   have hblen : b < (sumsL L wt N t).length := by rw [hsl.out]; exact hbN
   obtain ⟨b', o', e', -, hbl, ys, yf⟩ := hs b hblen
   injection e' with e'
   injection e' with e1 e2 e3
   subst e1
   subst e2
   have hset := Lib.hid (fun W (h : OwnInts w6.heap.size W (some ⟨w6.heap.size, 0, none⟩) (sumsL L wt N t)) x => h.set rfl (k := b) hblen x)
   rw [hsat] at ys
   have hbi : (b : Int) < (N : Int) := by omega
   have hti : (t : Int) < (T : Int) := by omega
   generalize bsum L wt b t = sb at *
   by_cases hme2 : (t : Int) ∈ er
   ·rw [wtV_er hme2] at hst
    replace hst := Lib.hid hst
    clear hs0' hq8
    go_upto_region 11 with (go_at_call 74; go_loud ((with_reducible refine (hhe.out t _ (HE.out.ext (hxA.trans hxr))).mono ?_); rintro e9 w9 ⟨⟨hP, rfl⟩ | ⟨hP, rfl⟩, hx9⟩ <;> (first | exact absurd hme2 hP | skip)))
    have hs9 : ∀ x, OwnInts w6.heap.size (w9.setCell ⟨w6.heap.size, b, none⟩ (.int .i64 x)) (some ⟨w6.heap.size, 0, none⟩) ((sumsL L wt N t).set b x) := fun x => by have := hset.out _ (hs.ext hx9) x; rwa [Nat.zero_add] at this
    have hxr9 := hxr.trans hx9
    obtain ⟨hcA, hfA, hkA, hzA⟩ := ecell hx9
    have z1 := (hcA g8 t hg8).trans hc8
    have z2 := (hcA bq oq hbq).trans yq
    have z3 := (hcA _ _ hbl).trans ys
    have z4 := (hfA _ _ hbl).trans yf
    have z5 := hkA _ hg8; have z6 := hkA _ hbq; have z7 := hkA _ hbl
    rw [Nat.zero_add] at z3 z4
    clear hcA hfA hkA hzA ys yf hc8 yq hset hs
    go_wp2
    exact ⟨⟨t + 1, hlt, by go_num, by rw [hst.out]; exact hs9 _ , hxr9.setCell (Nat.le_refl _) _⟩, by simp [intOf]; omega⟩
   ·by_cases hmd2 : (t : Int) ∈ dm
    ·rw [wtV_dm hme2 hmd2] at hst
     replace hst := Lib.hid hst
     clear hs0' hq8
     go_upto_region 12 with (go_at_call 74; go_loud ((with_reducible refine (hhe.out t _ (HE.out.ext (hxA.trans hxr))).mono ?_); rintro e9 w8 ⟨⟨hP, rfl⟩ | ⟨hP, rfl⟩, hx8⟩ <;> (first | exact absurd hP hme2 | skip)))
     go_upto_region 13 with (go_at_call 74; go_loud ((with_reducible refine (hhd.out t _ (HD.out.ext ((hxA.trans hxr).trans hx8))).mono ?_); rintro e9 w9 ⟨⟨hP, rfl⟩ | ⟨hP, rfl⟩, hx99⟩ <;> (first | exact absurd hmd2 hP | skip)))
     have hx9 := hx8.trans hx99
     have hs9 : ∀ x, OwnInts w6.heap.size (w9.setCell ⟨w6.heap.size, b, none⟩ (.int .i64 x)) (some ⟨w6.heap.size, 0, none⟩) ((sumsL L wt N t).set b x) := fun x => by have := hset.out _ (hs.ext hx9) x; rwa [Nat.zero_add] at this
     have hxr9 := hxr.trans hx9
     obtain ⟨hcA, hfA, hkA, hzA⟩ := ecell hx9
     have z1 := (hcA g8 t hg8).trans hc8
     have z2 := (hcA bq oq hbq).trans yq
     have z3 := (hcA _ _ hbl).trans ys
     have z4 := (hfA _ _ hbl).trans yf
     have z5 := hkA _ hg8; have z6 := hkA _ hbq; have z7 := hkA _ hbl
     rw [Nat.zero_add] at z3 z4
     clear hcA hfA hkA hzA ys yf hc8 yq hset hs
     refine wp_region_ct (fun w' => Ext w6 w') (.st 0 (.st 1 (.st 2 (.st 3 (.st 7 (.st 8 (.st 9 (.st 10 (.two 4 (.st 5 (.two 6 (.one 11 (.st 12 (.one 13 (.st 14 (.one 15 (.st 16 (.st 17 (.one 18 .done)))))))) 11 (.st 12 (.two 6 (.one 13 (.st 14 (.one 15 (.st 16 (.st 17 (.one 18 .done)))))) 13 (.st 14 (.two 6 (.one 15 (.st 16 (.st 17 (.one 18 .done)))) 15 (.st 16 (.one 6 (.st 17 (.one 18 .done)))))))))) 11 (.st 12 (.two 4 (.st 5 (.two 6 (.one 13 (.st 14 (.one 15 (.st 16 (.st 17 (.one 18 .done)))))) 13 (.st 14 (.two 6 (.one 15 (.st 16 (.st 17 (.one 18 .done)))) 15 (.st 16 (.one 6 (.st 17 (.one 18 .done)))))))) 13 (.st 14 (.two 4 (.st 5 (.two 6 (.one 15 (.st 16 (.st 17 (.one 18 .done)))) 15 (.st 16 (.one 6 (.st 17 (.one 18 .done)))))) 15 (.st 16 (.one 4 (.st 5 (.one 6 (.st 17 (.one 18 .done))))))))))))))))))) (by kernel_rfl) (by kernel_rfl) (by decide) (by kernel_rfl) ?_ ?_
     ·exact hxr9.drew
     refine ct_intro fun ops eo => ?_
     replace eo := canon_eo eo
     all_goals (apply ct_st (eo.out 0 rfl) rfl; (intro w2 hS; first | (go_simp; first | done | rfl) | rfl | (skip; go_simp; first | done | rfl)); simp only [ptN])
     all_goals (apply ct_st (eo.out 1 rfl) rfl; (intro w2 hS; first | (go_simp; first | done | rfl) | rfl | (skip; go_simp; first | done | rfl)); simp only [ptN])
     all_goals (apply ct_st (eo.out 2 rfl) rfl; (intro w2 hS; first | (go_simp; first | done | rfl) | rfl | (skip; go_simp; first | done | rfl)); simp only [ptN])
     all_goals (apply ct_st (eo.out 3 rfl) rfl; (intro w2 hS; first | (go_simp; first | done | rfl) | rfl | (skip; go_simp; first | done | rfl)); simp only [ptN])
     all_goals (apply ct_st (eo.out 7 rfl) rfl; (intro w2 hS; first | (go_simp; first | done | rfl) | rfl | (skip; go_simp; first | done | rfl)); simp only [ptN])
     all_goals (apply ct_st (eo.out 8 rfl) rfl; (intro w2 hS; first | (go_simp; first | done | rfl) | rfl | (skip; go_simp; first | done | rfl)); simp only [ptN])
     all_goals (apply ct_st (eo.out 9 rfl) rfl; (intro w2 hS; first | (go_simp; first | done | rfl) | rfl | (skip; go_simp; first | done | rfl)); simp only [ptN])
     all_goals (apply ct_st (eo.out 10 rfl) rfl; (intro w2 hS; first | (go_simp; first | done | rfl) | rfl | (skip; go_simp; first | done | rfl)); simp only [ptN])
     all_goals
      refine ct_two ?_ ?_
      focus
       all_goals first | (refine ct_op (eo.out 4 rfl) rfl (fun K hK => ?_); go_simp; (skip); all_goals (refine hK _ _ ⟨(by first | exact hxr9.drew | exact hxr9.drew.setCell (Nat.le_refl _) _ | exact (hxr9.setCell (Nat.le_refl _) _).drew), ?_⟩; clear hK K; go_simp))
       all_goals (apply ct_st (eo.out 5 rfl) rfl; (intro w2 hS; first | (go_simp; first | done | rfl) | rfl | (skip; go_simp; first | done | rfl)); simp only [ptN])
       all_goals
        refine ct_two ?_ ?_
        focus
         all_goals first | (refine ct_op (eo.out 6 rfl) rfl (fun K hK => ?_); go_simp; (skip); all_goals (refine hK _ _ ⟨(by first | exact hxr9.drew | exact hxr9.drew.setCell (Nat.le_refl _) _ | exact (hxr9.setCell (Nat.le_refl _) _).drew), ?_⟩; clear hK K; go_simp))
         all_goals refine ct_one ?_
         all_goals first | (refine ct_op (eo.out 11 rfl) rfl (fun K hK => ?_); go_simp; (skip); all_goals (refine hK _ _ ⟨(by first | exact hxr9.drew | exact hxr9.drew.setCell (Nat.le_refl _) _ | exact (hxr9.setCell (Nat.le_refl _) _).drew), ?_⟩; clear hK K; go_simp))
         all_goals (apply ct_st (eo.out 12 rfl) rfl; (intro w2 hS; first | (go_simp; first | done | rfl) | rfl | (skip; go_simp; first | done | rfl)); simp only [ptN])
         all_goals refine ct_one ?_
         all_goals first | (refine ct_op (eo.out 13 rfl) rfl (fun K hK => ?_); go_simp; (skip); all_goals (refine hK _ _ ⟨(by first | exact hxr9.drew | exact hxr9.drew.setCell (Nat.le_refl _) _ | exact (hxr9.setCell (Nat.le_refl _) _).drew), ?_⟩; clear hK K; go_simp))
         all_goals (apply ct_st (eo.out 14 rfl) rfl; (intro w2 hS; first | (go_simp; first | done | rfl) | rfl | (skip; go_simp; first | done | rfl)); simp only [ptN])
         all_goals refine ct_one ?_
         all_goals first | (refine ct_op (eo.out 15 rfl) rfl (fun K hK => ?_); go_simp; (skip); all_goals (refine hK _ _ ⟨(by first | exact hxr9.drew | exact hxr9.drew.setCell (Nat.le_refl _) _ | exact (hxr9.setCell (Nat.le_refl _) _).drew), ?_⟩; clear hK K; go_simp))
         all_goals (apply ct_st (eo.out 16 rfl) rfl; (intro w2 hS; first | (go_simp; first | done | rfl) | rfl | (skip; go_simp; first | done | rfl)); simp only [ptN])
         all_goals (apply ct_st (eo.out 17 rfl) rfl; (intro w2 hS; first | (go_simp; first | done | rfl) | rfl | (skip; go_simp; first | done | rfl)); simp only [ptN])
         all_goals refine ct_one ?_
         all_goals first | (refine ct_op (eo.out 18 rfl) rfl (fun K hK => ?_); go_simp; (skip); all_goals (refine hK _ _ ⟨(by first | exact hxr9.drew | exact hxr9.drew.setCell (Nat.le_refl _) _ | exact (hxr9.setCell (Nat.le_refl _) _).drew), ?_⟩; clear hK K; go_simp))
         all_goals (clear eo; refine ct_done (NoPanic.normal ?_))
        rotate_right 1
        focus
         all_goals first | (refine ct_op (eo.out 11 rfl) rfl (fun K hK => ?_); go_simp; (skip); all_goals (refine hK _ _ ⟨(by first | exact hxr9.drew | exact hxr9.drew.setCell (Nat.le_refl _) _ | exact (hxr9.setCell (Nat.le_refl _) _).drew), ?_⟩; clear hK K; go_simp))
         all_goals (apply ct_st (eo.out 12 rfl) rfl; (intro w2 hS; first | (go_simp; first | done | rfl) | rfl | (skip; go_simp; first | done | rfl)); simp only [ptN])
         all_goals
          refine ct_two ?_ ?_
          focus
           all_goals first | (refine ct_op (eo.out 6 rfl) rfl (fun K hK => ?_); go_simp; (skip); all_goals (refine hK _ _ ⟨(by first | exact hxr9.drew | exact hxr9.drew.setCell (Nat.le_refl _) _ | exact (hxr9.setCell (Nat.le_refl _) _).drew), ?_⟩; clear hK K; go_simp))
           all_goals refine ct_one ?_
           all_goals first | (refine ct_op (eo.out 13 rfl) rfl (fun K hK => ?_); go_simp; (skip); all_goals (refine hK _ _ ⟨(by first | exact hxr9.drew | exact hxr9.drew.setCell (Nat.le_refl _) _ | exact (hxr9.setCell (Nat.le_refl _) _).drew), ?_⟩; clear hK K; go_simp))
           all_goals (apply ct_st (eo.out 14 rfl) rfl; (intro w2 hS; first | (go_simp; first | done | rfl) | rfl | (skip; go_simp; first | done | rfl)); simp only [ptN])
           all_goals refine ct_one ?_
           all_goals first | (refine ct_op (eo.out 15 rfl) rfl (fun K hK => ?_); go_simp; (skip); all_goals (refine hK _ _ ⟨(by first | exact hxr9.drew | exact hxr9.drew.setCell (Nat.le_refl _) _ | exact (hxr9.setCell (Nat.le_refl _) _).drew), ?_⟩; clear hK K; go_simp))
           all_goals (apply ct_st (eo.out 16 rfl) rfl; (intro w2 hS; first | (go_simp; first | done | rfl) | rfl | (skip; go_simp; first | done | rfl)); simp only [ptN])
           all_goals (apply ct_st (eo.out 17 rfl) rfl; (intro w2 hS; first | (go_simp; first | done | rfl) | rfl | (skip; go_simp; first | done | rfl)); simp only [ptN])
           all_goals refine ct_one ?_
           all_goals first | (refine ct_op (eo.out 18 rfl) rfl (fun K hK => ?_); go_simp; (skip); all_goals (refine hK _ _ ⟨(by first | exact hxr9.drew | exact hxr9.drew.setCell (Nat.le_refl _) _ | exact (hxr9.setCell (Nat.le_refl _) _).drew), ?_⟩; clear hK K; go_simp))
           all_goals (clear eo; refine ct_done (NoPanic.normal ?_))
          rotate_right 1
          focus
           all_goals first | (refine ct_op (eo.out 13 rfl) rfl (fun K hK => ?_); go_simp; (skip); all_goals (refine hK _ _ ⟨(by first | exact hxr9.drew | exact hxr9.drew.setCell (Nat.le_refl _) _ | exact (hxr9.setCell (Nat.le_refl _) _).drew), ?_⟩; clear hK K; go_simp))
           all_goals (apply ct_st (eo.out 14 rfl) rfl; (intro w2 hS; first | (go_simp; first | done | rfl) | rfl | (skip; go_simp; first | done | rfl)); simp only [ptN])
           all_goals
            refine ct_two ?_ ?_
            focus
             all_goals first | (refine ct_op (eo.out 6 rfl) rfl (fun K hK => ?_); go_simp; (skip); all_goals (refine hK _ _ ⟨(by first | exact hxr9.drew | exact hxr9.drew.setCell (Nat.le_refl _) _ | exact (hxr9.setCell (Nat.le_refl _) _).drew), ?_⟩; clear hK K; go_simp))
             all_goals refine ct_one ?_
             all_goals first | (refine ct_op (eo.out 15 rfl) rfl (fun K hK => ?_); go_simp; (skip); all_goals (refine hK _ _ ⟨(by first | exact hxr9.drew | exact hxr9.drew.setCell (Nat.le_refl _) _ | exact (hxr9.setCell (Nat.le_refl _) _).drew), ?_⟩; clear hK K; go_simp))
             all_goals (apply ct_st (eo.out 16 rfl) rfl; (intro w2 hS; first | (go_simp; first | done | rfl) | rfl | (skip; go_simp; first | done | rfl)); simp only [ptN])
             all_goals (apply ct_st (eo.out 17 rfl) rfl; (intro w2 hS; first | (go_simp; first | done | rfl) | rfl | (skip; go_simp; first | done | rfl)); simp only [ptN])
             all_goals refine ct_one ?_
             all_goals first | (refine ct_op (eo.out 18 rfl) rfl (fun K hK => ?_); go_simp; (skip); all_goals (refine hK _ _ ⟨(by first | exact hxr9.drew | exact hxr9.drew.setCell (Nat.le_refl _) _ | exact (hxr9.setCell (Nat.le_refl _) _).drew), ?_⟩; clear hK K; go_simp))
             all_goals (clear eo; refine ct_done (NoPanic.normal ?_))
            rotate_right 1
            focus
             all_goals first | (refine ct_op (eo.out 15 rfl) rfl (fun K hK => ?_); go_simp; (skip); all_goals (refine hK _ _ ⟨(by first | exact hxr9.drew | exact hxr9.drew.setCell (Nat.le_refl _) _ | exact (hxr9.setCell (Nat.le_refl _) _).drew), ?_⟩; clear hK K; go_simp))
             all_goals (apply ct_st (eo.out 16 rfl) rfl; (intro w2 hS; first | (go_simp; first | done | rfl) | rfl | (skip; go_simp; first | done | rfl)); simp only [ptN])
             all_goals refine ct_one ?_
             all_goals first | (refine ct_op (eo.out 6 rfl) rfl (fun K hK => ?_); go_simp; (skip); all_goals (refine hK _ _ ⟨(by first | exact hxr9.drew | exact hxr9.drew.setCell (Nat.le_refl _) _ | exact (hxr9.setCell (Nat.le_refl _) _).drew), ?_⟩; clear hK K; go_simp))
             all_goals (apply ct_st (eo.out 17 rfl) rfl; (intro w2 hS; first | (go_simp; first | done | rfl) | rfl | (skip; go_simp; first | done | rfl)); simp only [ptN])
             all_goals refine ct_one ?_
             all_goals first | (refine ct_op (eo.out 18 rfl) rfl (fun K hK => ?_); go_simp; (skip); all_goals (refine hK _ _ ⟨(by first | exact hxr9.drew | exact hxr9.drew.setCell (Nat.le_refl _) _ | exact (hxr9.setCell (Nat.le_refl _) _).drew), ?_⟩; clear hK K; go_simp))
             all_goals (clear eo; refine ct_done (NoPanic.normal ?_))
      rotate_right 1
      focus
       all_goals first | (refine ct_op (eo.out 11 rfl) rfl (fun K hK => ?_); go_simp; (skip); all_goals (refine hK _ _ ⟨(by first | exact hxr9.drew | exact hxr9.drew.setCell (Nat.le_refl _) _ | exact (hxr9.setCell (Nat.le_refl _) _).drew), ?_⟩; clear hK K; go_simp))
       all_goals (apply ct_st (eo.out 12 rfl) rfl; (intro w2 hS; first | (go_simp; first | done | rfl) | rfl | (skip; go_simp; first | done | rfl)); simp only [ptN])
       all_goals
        refine ct_two ?_ ?_
        focus
         all_goals first | (refine ct_op (eo.out 4 rfl) rfl (fun K hK => ?_); go_simp; (skip); all_goals (refine hK _ _ ⟨(by first | exact hxr9.drew | exact hxr9.drew.setCell (Nat.le_refl _) _ | exact (hxr9.setCell (Nat.le_refl _) _).drew), ?_⟩; clear hK K; go_simp))
         all_goals (apply ct_st (eo.out 5 rfl) rfl; (intro w2 hS; first | (go_simp; first | done | rfl) | rfl | (skip; go_simp; first | done | rfl)); simp only [ptN])
         all_goals
          refine ct_two ?_ ?_
          focus
           all_goals first | (refine ct_op (eo.out 6 rfl) rfl (fun K hK => ?_); go_simp; (skip); all_goals (refine hK _ _ ⟨(by first | exact hxr9.drew | exact hxr9.drew.setCell (Nat.le_refl _) _ | exact (hxr9.setCell (Nat.le_refl _) _).drew), ?_⟩; clear hK K; go_simp))
           all_goals refine ct_one ?_
           all_goals first | (refine ct_op (eo.out 13 rfl) rfl (fun K hK => ?_); go_simp; (skip); all_goals (refine hK _ _ ⟨(by first | exact hxr9.drew | exact hxr9.drew.setCell (Nat.le_refl _) _ | exact (hxr9.setCell (Nat.le_refl _) _).drew), ?_⟩; clear hK K; go_simp))
           all_goals (apply ct_st (eo.out 14 rfl) rfl; (intro w2 hS; first | (go_simp; first | done | rfl) | rfl | (skip; go_simp; first | done | rfl)); simp only [ptN])
           all_goals refine ct_one ?_
           all_goals first | (refine ct_op (eo.out 15 rfl) rfl (fun K hK => ?_); go_simp; (skip); all_goals (refine hK _ _ ⟨(by first | exact hxr9.drew | exact hxr9.drew.setCell (Nat.le_refl _) _ | exact (hxr9.setCell (Nat.le_refl _) _).drew), ?_⟩; clear hK K; go_simp))
           all_goals (apply ct_st (eo.out 16 rfl) rfl; (intro w2 hS; first | (go_simp; first | done | rfl) | rfl | (skip; go_simp; first | done | rfl)); simp only [ptN])
           all_goals (apply ct_st (eo.out 17 rfl) rfl; (intro w2 hS; first | (go_simp; first | done | rfl) | rfl | (skip; go_simp; first | done | rfl)); simp only [ptN])
           all_goals refine ct_one ?_
           all_goals first | (refine ct_op (eo.out 18 rfl) rfl (fun K hK => ?_); go_simp; (skip); all_goals (refine hK _ _ ⟨(by first | exact hxr9.drew | exact hxr9.drew.setCell (Nat.le_refl _) _ | exact (hxr9.setCell (Nat.le_refl _) _).drew), ?_⟩; clear hK K; go_simp))
           all_goals (clear eo; refine ct_done (NoPanic.normal ?_))
          rotate_right 1
          focus
           all_goals first | (refine ct_op (eo.out 13 rfl) rfl (fun K hK => ?_); go_simp; (skip); all_goals (refine hK _ _ ⟨(by first | exact hxr9.drew | exact hxr9.drew.setCell (Nat.le_refl _) _ | exact (hxr9.setCell (Nat.le_refl _) _).drew), ?_⟩; clear hK K; go_simp))
           all_goals (apply ct_st (eo.out 14 rfl) rfl; (intro w2 hS; first | (go_simp; first | done | rfl) | rfl | (skip; go_simp; first | done | rfl)); simp only [ptN])
           all_goals
            refine ct_two ?_ ?_
            focus
             all_goals first | (refine ct_op (eo.out 6 rfl) rfl (fun K hK => ?_); go_simp; (skip); all_goals (refine hK _ _ ⟨(by first | exact hxr9.drew | exact hxr9.drew.setCell (Nat.le_refl _) _ | exact (hxr9.setCell (Nat.le_refl _) _).drew), ?_⟩; clear hK K; go_simp))
             all_goals refine ct_one ?_
             all_goals first | (refine ct_op (eo.out 15 rfl) rfl (fun K hK => ?_); go_simp; (skip); all_goals (refine hK _ _ ⟨(by first | exact hxr9.drew | exact hxr9.drew.setCell (Nat.le_refl _) _ | exact (hxr9.setCell (Nat.le_refl _) _).drew), ?_⟩; clear hK K; go_simp))
             all_goals (apply ct_st (eo.out 16 rfl) rfl; (intro w2 hS; first | (go_simp; first | done | rfl) | rfl | (skip; go_simp; first | done | rfl)); simp only [ptN])
             all_goals (apply ct_st (eo.out 17 rfl) rfl; (intro w2 hS; first | (go_simp; first | done | rfl) | rfl | (skip; go_simp; first | done | rfl)); simp only [ptN])
             all_goals refine ct_one ?_
             all_goals first | (refine ct_op (eo.out 18 rfl) rfl (fun K hK => ?_); go_simp; (skip); all_goals (refine hK _ _ ⟨(by first | exact hxr9.drew | exact hxr9.drew.setCell (Nat.le_refl _) _ | exact (hxr9.setCell (Nat.le_refl _) _).drew), ?_⟩; clear hK K; go_simp))
             all_goals (clear eo; refine ct_done (NoPanic.normal ?_))
            rotate_right 1
            focus
             all_goals first | (refine ct_op (eo.out 15 rfl) rfl (fun K hK => ?_); go_simp; (skip); all_goals (refine hK _ _ ⟨(by first | exact hxr9.drew | exact hxr9.drew.setCell (Nat.le_refl _) _ | exact (hxr9.setCell (Nat.le_refl _) _).drew), ?_⟩; clear hK K; go_simp))
             all_goals (apply ct_st (eo.out 16 rfl) rfl; (intro w2 hS; first | (go_simp; first | done | rfl) | rfl | (skip; go_simp; first | done | rfl)); simp only [ptN])
             all_goals refine ct_one ?_
             all_goals first | (refine ct_op (eo.out 6 rfl) rfl (fun K hK => ?_); go_simp; (skip); all_goals (refine hK _ _ ⟨(by first | exact hxr9.drew | exact hxr9.drew.setCell (Nat.le_refl _) _ | exact (hxr9.setCell (Nat.le_refl _) _).drew), ?_⟩; clear hK K; go_simp))
             all_goals (apply ct_st (eo.out 17 rfl) rfl; (intro w2 hS; first | (go_simp; first | done | rfl) | rfl | (skip; go_simp; first | done | rfl)); simp only [ptN])
             all_goals refine ct_one ?_
             all_goals first | (refine ct_op (eo.out 18 rfl) rfl (fun K hK => ?_); go_simp; (skip); all_goals (refine hK _ _ ⟨(by first | exact hxr9.drew | exact hxr9.drew.setCell (Nat.le_refl _) _ | exact (hxr9.setCell (Nat.le_refl _) _).drew), ?_⟩; clear hK K; go_simp))
             all_goals (clear eo; refine ct_done (NoPanic.normal ?_))
        rotate_right 1
        focus
         all_goals first | (refine ct_op (eo.out 13 rfl) rfl (fun K hK => ?_); go_simp; (skip); all_goals (refine hK _ _ ⟨(by first | exact hxr9.drew | exact hxr9.drew.setCell (Nat.le_refl _) _ | exact (hxr9.setCell (Nat.le_refl _) _).drew), ?_⟩; clear hK K; go_simp))
         all_goals (apply ct_st (eo.out 14 rfl) rfl; (intro w2 hS; first | (go_simp; first | done | rfl) | rfl | (skip; go_simp; first | done | rfl)); simp only [ptN])
         all_goals
          refine ct_two ?_ ?_
          focus
           all_goals first | (refine ct_op (eo.out 4 rfl) rfl (fun K hK => ?_); go_simp; (skip); all_goals (refine hK _ _ ⟨(by first | exact hxr9.drew | exact hxr9.drew.setCell (Nat.le_refl _) _ | exact (hxr9.setCell (Nat.le_refl _) _).drew), ?_⟩; clear hK K; go_simp))
           all_goals (apply ct_st (eo.out 5 rfl) rfl; (intro w2 hS; first | (go_simp; first | done | rfl) | rfl | (skip; go_simp; first | done | rfl)); simp only [ptN])
           all_goals
            refine ct_two ?_ ?_
            focus
             all_goals first | (refine ct_op (eo.out 6 rfl) rfl (fun K hK => ?_); go_simp; (skip); all_goals (refine hK _ _ ⟨(by first | exact hxr9.drew | exact hxr9.drew.setCell (Nat.le_refl _) _ | exact (hxr9.setCell (Nat.le_refl _) _).drew), ?_⟩; clear hK K; go_simp))
             all_goals refine ct_one ?_
             all_goals first | (refine ct_op (eo.out 15 rfl) rfl (fun K hK => ?_); go_simp; (skip); all_goals (refine hK _ _ ⟨(by first | exact hxr9.drew | exact hxr9.drew.setCell (Nat.le_refl _) _ | exact (hxr9.setCell (Nat.le_refl _) _).drew), ?_⟩; clear hK K; go_simp))
             all_goals (apply ct_st (eo.out 16 rfl) rfl; (intro w2 hS; first | (go_simp; first | done | rfl) | rfl | (skip; go_simp; first | done | rfl)); simp only [ptN])
             all_goals (apply ct_st (eo.out 17 rfl) rfl; (intro w2 hS; first | (go_simp; first | done | rfl) | rfl | (skip; go_simp; first | done | rfl)); simp only [ptN])
             all_goals refine ct_one ?_
             all_goals first | (refine ct_op (eo.out 18 rfl) rfl (fun K hK => ?_); go_simp; (skip); all_goals (refine hK _ _ ⟨(by first | exact hxr9.drew | exact hxr9.drew.setCell (Nat.le_refl _) _ | exact (hxr9.setCell (Nat.le_refl _) _).drew), ?_⟩; clear hK K; go_simp))
             all_goals (clear eo; refine ct_done (NoPanic.normal ?_))
            rotate_right 1
            focus
             all_goals first | (refine ct_op (eo.out 15 rfl) rfl (fun K hK => ?_); go_simp; (skip); all_goals (refine hK _ _ ⟨(by first | exact hxr9.drew | exact hxr9.drew.setCell (Nat.le_refl _) _ | exact (hxr9.setCell (Nat.le_refl _) _).drew), ?_⟩; clear hK K; go_simp))
             all_goals (apply ct_st (eo.out 16 rfl) rfl; (intro w2 hS; first | (go_simp; first | done | rfl) | rfl | (skip; go_simp; first | done | rfl)); simp only [ptN])
             all_goals refine ct_one ?_
             all_goals first | (refine ct_op (eo.out 6 rfl) rfl (fun K hK => ?_); go_simp; (skip); all_goals (refine hK _ _ ⟨(by first | exact hxr9.drew | exact hxr9.drew.setCell (Nat.le_refl _) _ | exact (hxr9.setCell (Nat.le_refl _) _).drew), ?_⟩; clear hK K; go_simp))
             all_goals (apply ct_st (eo.out 17 rfl) rfl; (intro w2 hS; first | (go_simp; first | done | rfl) | rfl | (skip; go_simp; first | done | rfl)); simp only [ptN])
             all_goals refine ct_one ?_
             all_goals first | (refine ct_op (eo.out 18 rfl) rfl (fun K hK => ?_); go_simp; (skip); all_goals (refine hK _ _ ⟨(by first | exact hxr9.drew | exact hxr9.drew.setCell (Nat.le_refl _) _ | exact (hxr9.setCell (Nat.le_refl _) _).drew), ?_⟩; clear hK K; go_simp))
             all_goals (clear eo; refine ct_done (NoPanic.normal ?_))
          rotate_right 1
          focus
           all_goals first | (refine ct_op (eo.out 15 rfl) rfl (fun K hK => ?_); go_simp; (skip); all_goals (refine hK _ _ ⟨(by first | exact hxr9.drew | exact hxr9.drew.setCell (Nat.le_refl _) _ | exact (hxr9.setCell (Nat.le_refl _) _).drew), ?_⟩; clear hK K; go_simp))
           all_goals (apply ct_st (eo.out 16 rfl) rfl; (intro w2 hS; first | (go_simp; first | done | rfl) | rfl | (skip; go_simp; first | done | rfl)); simp only [ptN])
           all_goals refine ct_one ?_
           all_goals first | (refine ct_op (eo.out 4 rfl) rfl (fun K hK => ?_); go_simp; (skip); all_goals (refine hK _ _ ⟨(by first | exact hxr9.drew | exact hxr9.drew.setCell (Nat.le_refl _) _ | exact (hxr9.setCell (Nat.le_refl _) _).drew), ?_⟩; clear hK K; go_simp))
           all_goals (apply ct_st (eo.out 5 rfl) rfl; (intro w2 hS; first | (go_simp; first | done | rfl) | rfl | (skip; go_simp; first | done | rfl)); simp only [ptN])
           all_goals refine ct_one ?_
           all_goals first | (refine ct_op (eo.out 6 rfl) rfl (fun K hK => ?_); go_simp; (skip); all_goals (refine hK _ _ ⟨(by first | exact hxr9.drew | exact hxr9.drew.setCell (Nat.le_refl _) _ | exact (hxr9.setCell (Nat.le_refl _) _).drew), ?_⟩; clear hK K; go_simp))
           all_goals (apply ct_st (eo.out 17 rfl) rfl; (intro w2 hS; first | (go_simp; first | done | rfl) | rfl | (skip; go_simp; first | done | rfl)); simp only [ptN])
           all_goals refine ct_one ?_
           all_goals first | (refine ct_op (eo.out 18 rfl) rfl (fun K hK => ?_); go_simp; (skip); all_goals (refine hK _ _ ⟨(by first | exact hxr9.drew | exact hxr9.drew.setCell (Nat.le_refl _) _ | exact (hxr9.setCell (Nat.le_refl _) _).drew), ?_⟩; clear hK K; go_simp))
           all_goals (clear eo; refine ct_done (NoPanic.normal ?_))
     all_goals
      go_wp2
      go_roundw
      case rel => exact ⟨t + 1, hlt, by go_num, by rw [hst.out]; exact hs9 _, (hxr9.setCell (p := ⟨w6.heap.size, b, none⟩) (Nat.le_refl _) _).drew⟩
      case measure => simp [intOf]; omega
    ·rw [wtV_no hme2 hmd2] at hs0'
     have hnn := Lib.hid (hs0' rfl)
     clear hst hs0' hq8
     go_upto_region 12 with (go_at_call 74; go_loud ((with_reducible refine (hhe.out t _ (HE.out.ext (hxA.trans hxr))).mono ?_); rintro e9 w8 ⟨⟨hP, rfl⟩ | ⟨hP, rfl⟩, hx8⟩ <;> (first | exact absurd hP hme2 | skip)))
     go_wp2_with (go_at_call 74; go_loud ((with_reducible refine (hhd.out t _ (HD.out.ext ((hxA.trans hxr).trans hx8))).mono ?_); rintro e9 w9 ⟨⟨hP, rfl⟩ | ⟨hP, rfl⟩, hx99⟩ <;> (first | exact absurd hP hmd2 | skip)))
     have hx9 := hx8.trans hx99
     exact ⟨⟨t + 1, hlt, by go_num, by rw [hnn.out]; exact hs.ext hx9, hxr.trans hx9⟩, by simp [intOf]; omega⟩
  ·obtain rfl : t = T := by omega
   have PFr := PF.ext hxr
   have c4 := PFr.cell (i := 4) (v := .int .i64 C) rfl; have cL := PFr.lt
   have hss : Hid (∀ W, Ext wr W → ∀ b, b < N → w6.heap.size < W.heap.size ∧ W.cell? ⟨w6.heap.size, b, none⟩ = some (.int .i64 (bsum L wt b t))) := Lib.hid (fun W hx b hb => by
    obtain ⟨b', o', e', -, hbl, ys, -⟩ := (hs.ext hx) b (by rw [hsl.out]; exact hb)
    rw [hsa.out t b hb] at ys
    injection e' with e'
    injection e' with e1 e2 e3
    subst e1
    subst e2
    rw [Nat.zero_add] at ys
    exact ⟨hbl, ys⟩)
   have hxw := hxA.trans hxr
   clear hs
   go_upto_region 15 with (fail)
   obtain ⟨wo, rfl⟩ : ∃ wo : World, wo = wr := ⟨_, rfl⟩
   go_loopw [11] (fun i wr => ∃ k : Nat, k ≤ N ∧ i = .int .i64 k ∧ (∀ b, b < k → bsum L wt b t ≤ (C : Int)) ∧ Ext wo wr) (fun i _ => N + 10 - (intOf i).toNat)
   case atStart => exact ⟨0, Nat.zero_le _, rfl, fun b h => absurd h (Nat.not_lt_zero b), Ext.refl _⟩
   case round =>
    obtain ⟨j, hj, rfl, hall, hxj⟩ := hrel
    replace hall := Lib.hid hall
    by_cases hlj : j < N
    ·obtain ⟨hl5, y5⟩ := hss.out wr hxj j hlj
     have hxd : Ext wo wr.drew := hxj.drew
     have PFj := PFr.ext hxj
     have d4 := PFj.cell (i := 4) (v := .int .i64 C) rfl; have dL := PFj.lt
     have hji : (j : Int) < (N : Int) := by omega
     clear c4 cL
     by_cases hbig : bsum L wt j t ≤ (C : Int)
     ·have hall2 := Lib.hid (fun b (h : b < j + 1) => by
       rcases Nat.lt_or_ge b j with h1 | h1
       ·exact hall.out b h1
       ·obtain rfl : b = j := by omega
        exact hbig)
      generalize bsum L wt j t = x at *
      have hng : ¬ (C : Int) < x := by omega
      go_upto_region 17 with (fail)
      refine wp_region_canon (fun w' => Ext wr w') [(0, true), (1, true), (2, true), (3, true), (4, true), (5, true), (6, true)] (by kernel_rfl) (by kernel_rfl) (by decide) (by kernel_rfl) ?_ ?_
      ·exact eX
      refine canon_intro fun ops eo => ?_
      replace eo := canon_eo eo
      iterate 7 all_goals (refine cS eo rfl rfl evE ?_; simp only [ptN])
      all_goals (clear eo; refine canon_done (NoPanic.normal ?_))
      go_wp2
      go_roundw
      case rel => exact ⟨j + 1, hlj, by go_num, hall2.out, hxd⟩
      case measure => simp [intOf]; omega
     ·have hno : ¬ PP := fun h => hbig (hok.out.1 h j hlj)
      generalize bsum L wt j t = x at *
      have hng : (C : Int) < x := by omega
      replace hno := Lib.hid hno
      go_upto_region 17 with (fail)
      refine wp_region_canon (fun w' => Ext wr w') [(0, true), (1, true), (2, true), (3, true), (4, true), (5, true), (6, true)] (by kernel_rfl) (by kernel_rfl) (by decide) (by kernel_rfl) ?_ ?_
      ·exact eX
      refine canon_intro fun ops eo => ?_
      replace eo := canon_eo eo
      iterate 7 all_goals (refine cS eo rfl rfl evE ?_; simp only [ptN])
      all_goals (clear eo; refine canon_done (NoPanic.normal ?_))
      go_wp2
      exact bodyPost_ret (v := .tuple #[.bool false, .int .i64 0]) (by simp [results, Tryz.results114, go_sem]) rfl ⟨.inr ⟨hno.out, rfl⟩, hxw.trans hxd⟩
    ·obtain rfl : j = N := by omega
     have hyes : PP := hok.out.2 hall.out
     replace hyes := Lib.hid hyes
     go_wp2
     exact bodyPost_ret (v := .tuple #[.bool true, .int .i64 0]) (by simp [results, Tryz.results114, go_sem]) rfl ⟨.inl ⟨hyes.out, rfl⟩, hxw.trans hxj⟩
end Go.Proofs.YtdnkljpnhmcnpaaGreat
