/- The grid of fixed cells, walked on the program's side. -/
import Derived.Test.YtdnkljpnhmcnpaaGreatLBoundedDamageK14
import Derived.Laws.EntriesVeiled
set_option linter.unusedVariables false
set_option linter.unusedSimpArgs false
namespace Go.Proofs.YtdnkljpnhmcnpaaGreat
open Go.RowKit

theorem gset_c2 (B : Nat) (R C : Int) (b o k : Nat) (xs : List Int) (r c x : Int) (i N : Nat) (w : World) (hN : xs.length = N) (hown : OwnInts B w (some ⟨b, o, none⟩) xs) (hi : r * C + c = i) (hlt : i < xs.length) (hrc : 0 ≤ r * C ∧ 0 ≤ c) (hl : xs.length ≤ 1048576) :
  Calls Tryz.prog 85 #[vGrid R C (some ⟨b, o, none⟩) N k, vPl r c, .int .i64 x] w fun e w' => e = .returned (.tuple #[]) ∧ OwnInts B w' (some ⟨b, o, none⟩) (xs.set i x) ∧ But b w w' := by
 subst hN
 exact gset_c B R C b o k xs r c x i w hown hi hlt hrc hl
theorem no_step {P : Nat → Prop} {j : Nat} (h : ∀ i, i < j → ¬ P i) (h2 : ¬ P j) : ∀ i, i < j + 1 → ¬ P i := fun i hi => by
 by_cases e : i = j
 ·rw [e]; exact h2
 ·exact h i (by omega)
set_option maxHeartbeats 3200000 in
set_option maxRecDepth 100000 in
theorem iFixed_c (n : Nat) (w : World) (hn : 17 ≤ n ∧ n ≤ 41) : Calls Tryz.prog 219 #[.int .i64 n] w fun e w' => GrdR n n (fixL n) w.heap.size e w' ∧ Ext w w' := by
 have hnn := Lib.hid (fixL_len n)
 have hN : n * n ≤ 1681 := Nat.mul_le_mul hn.2 hn.2
 have hN1 : 0 < n * n := Nat.mul_pos (by omega) (by omega)
 have hb := Lib.hid (fun W => gblank_c n W (by omega))
 have b0 := Blk.new w #[.int .i64 0, .int .i64 0, .slice none 0 0] 28
 have hx0 : Ext w (w.alloc (.cells #[.int .i64 0, .int .i64 0, .slice none 0 0] 28)) := (Ext.refl w).alloc _
 go_enter Tryz.func219, Tryz.ntmps219
 go_wp2_with fail
 refine (hb.out _).mono ?_
 rintro e w1 ⟨⟨cb, rfl, hcb, hown⟩, hx1⟩
 replace b0 := b0.ext hx1
 replace hx1 := hx0.trans hx1
 simp only [World.size_alloc] at hcb
 have hown0 := hown.mono (B' := w.heap.size) (by simp)
 have hcbl : cb < w1.heap.size := (hown.lt0 (o := 0) (fun e => by have := congrArg List.length e; simp at this; omega) rfl).2
 clear hown hx0 hb
 go_wp2_with fail
 have b3 := Blk.new w1 #[.int .i64 n, .int .i64 n, .slice (some ⟨cb, 0, none⟩) (n * n) (n * n)] 28
 replace b0 := b0.alloc (.cells #[.int .i64 n, .int .i64 n, .slice (some ⟨cb, 0, none⟩) (n * n) (n * n)] 28)
 replace hown0 := hown0.ext ((Ext.refl w1).alloc (.cells #[.int .i64 n, .int .i64 n, .slice (some ⟨cb, 0, none⟩) (n * n) (n * n)] 28))
 have hcb1 : cb < w1.heap.size := hcbl
 replace hx1 := hx1.alloc (.cells #[.int .i64 n, .int .i64 n, .slice (some ⟨cb, 0, none⟩) (n * n) (n * n)] 28)
 have hg3 : w1.heap.size < (w1.alloc (.cells #[.int .i64 n, .int .i64 n, .slice (some ⟨cb, 0, none⟩) (n * n) (n * n)] 28)).heap.size := by simp
 generalize w1.alloc (.cells #[.int .i64 n, .int .i64 n, .slice (some ⟨cb, 0, none⟩) (n * n) (n * n)] 28) = w2 at *
 generalize w1.heap.size = g3 at *
 refine (patterns_c _).mono ?_
 rintro e w3 ⟨gp, rfl, hgp, hP, hx3⟩
 replace b0 := b0.ext hx3
 replace b3 := b3.ext hx3
 replace hown0 := hown0.ext hx3
 replace hx1 := hx1.trans hx3
 rw [← fixTo_0] at hown0
 have hne3 : g3 ≠ cb := by omega
 have hnep : gp ≠ cb := by omega
 have hne0 : w.heap.size ≠ cb := by omega
 clear hx3 hg3 hgp
 go_wp2_with fail
 go_loopw [5] (fun i wr => ∃ r : Nat, r ≤ n ∧ i = .int .i64 r ∧ OwnInts w.heap.size wr (some ⟨cb, 0, none⟩) (fixTo n (r * n)) ∧ Blk wr w.heap.size #[.int .i64 0, .int .i64 0, .slice none 0 0] 28 ∧ Blk wr g3 #[.int .i64 n, .int .i64 n, .slice (some ⟨cb, 0, none⟩) (n * n) (n * n)] 28 ∧ Blk wr gp patC 258 ∧ Ext w wr) (fun i _ => n - (intOf i).toNat)
 case atStart => exact ⟨0, by omega, rfl, by simpa using hown0, b0, b3, hP, hx1⟩
 case round =>
  clear hown0 b0 b3 hP hx1
  obtain ⟨r, hr, rfl, hown, b0, b3, hP, hext⟩ := hrel
  by_cases hlr : r < n
  ·have hri : (r : Int) < n := by omega
   have hrow : (r + 1) * n ≤ n * n := Nat.mul_le_mul_right n hlr
   rw [Nat.add_mul, Nat.one_mul] at hrow
   go_wp2_with fail
   go_loopw [6] (fun i wr => ∃ c : Nat, c ≤ n ∧ i = .int .i64 c ∧ OwnInts w.heap.size wr (some ⟨cb, 0, none⟩) (fixTo n (r * n + c)) ∧ Blk wr w.heap.size #[.int .i64 0, .int .i64 0, .slice none 0 0] 28 ∧ Blk wr g3 #[.int .i64 n, .int .i64 n, .slice (some ⟨cb, 0, none⟩) (n * n) (n * n)] 28 ∧ Blk wr gp patC 258 ∧ Ext w wr) (fun i _ => n - (intOf i).toNat)
   case atStart => exact ⟨0, by omega, rfl, by simpa using hown, b0, b3, hP, hext⟩
   case round =>
    clear hown b0 b3 hP hext
    obtain ⟨c, hc, rfl, hown, b0, b3, hP, hext⟩ := hrel
    by_cases hlc : c < n
    ·have hci : (c : Int) < n := by omega
     have hn0 : 17 ≤ (n : Int) ∧ (n : Int) ≤ 41 := by omega
     have hnI : 17 ≤ (n : Int) := hn0.1
     have hr0 : 0 ≤ (r : Int) ∧ (r : Int) < n := by omega
     have hc0 : 0 ≤ (c : Int) ∧ (c : Int) < n := by omega
     have hk : r * n + c < n * n := by omega
     have hrn : 0 ≤ (r : Int) * (n : Int) := Int.mul_nonneg (by omega) (by omega)
     have hfx := fixL_at (n := n) (r := r) (c := c) hlr hlc
     have hset := fixTo_step hk
     have hskip := fixTo_skip hk
     have hlen := Lib.hid (fixTo_len (n := n) (k := r * n + c) (by omega))
     rw [hfx] at hset hskip
     obtain ⟨L', hL'⟩ : ∃ z, fixTo n (r * n + c + 1) = z := ⟨_, rfl⟩
     rw [hL'] at hset hskip
     have bq := Blk.new wr #[.int .i64 r, .int .i64 c] 121
     replace hown := hown.ext ((Ext.refl wr).alloc (.cells #[.int .i64 r, .int .i64 c] 121))
     replace b0 := b0.alloc (.cells #[.int .i64 r, .int .i64 c] 121)
     have b3l := b3.lt
     replace b3 := b3.alloc (.cells #[.int .i64 r, .int .i64 c] 121)
     replace hP := hP.alloc (.cells #[.int .i64 r, .int .i64 c] 121)
     replace hext := hext.alloc (.cells #[.int .i64 r, .int .i64 c] 121)
     have hneq : wr.heap.size ≠ cb := by omega
     replace hset := Lib.hid hset; replace hskip := Lib.hid hskip; replace hfx := Lib.hid hfx; replace hL' := Lib.hid hL'
     clear b3l
     go_wp2_with fail
     generalize wr.alloc (.cells #[.int .i64 r, .int .i64 c] 121) = w4 at *
     generalize wr.heap.size = gq at *
     go_loopw [29] (fun i wr => ∃ j : Nat, j ≤ 4 ∧ i = .int .i64 j ∧ Hid (∀ i, i < j → ¬ inK i n r c) ∧ OwnInts w.heap.size wr (some ⟨cb, 0, none⟩) (fixTo n (r * n + c)) ∧ Blk wr w.heap.size #[.int .i64 0, .int .i64 0, .slice none 0 0] 28 ∧ Blk wr g3 #[.int .i64 n, .int .i64 n, .slice (some ⟨cb, 0, none⟩) (n * n) (n * n)] 28 ∧ Blk wr gp patC 258 ∧ Blk wr gq #[.int .i64 r, .int .i64 c] 121 ∧ Ext w wr) (fun i _ => 4 - (intOf i).toNat)
     case atStart => exact ⟨0, by omega, rfl, Lib.hid (fun i h => absurd h (Nat.not_lt_zero i)), hown, b0, b3, hP, bq, hext⟩
     case round =>
      clear hown b0 b3 hP bq hext
      obtain ⟨j, hj, rfl, hno, hown, b0, b3, hP, bq, hext⟩ := hrel
      have p0 := bq.cell (i := 0) (v := .int .i64 r) rfl
      have p1 := bq.cell (i := 1) (v := .int .i64 c) rfl
      have pl := bq.lt
      have t0 := b3.cell (i := 0) (v := .int .i64 n) rfl
      have t1 := b3.cell (i := 1) (v := .int .i64 n) rfl
      have t2 := b3.cell (i := 2) (v := .slice (some ⟨cb, 0, none⟩) (n * n) (n * n)) rfl
      have tl := b3.lt
      have hpl := hP.lt
      have hj5 : j = 0 ∨ j = 1 ∨ j = 2 ∨ j = 3 ∨ j = 4 := by omega
      rcases hj5 with rfl | rfl | rfl | rfl | rfl
      ·rw [show ((0 : Nat) : Int) = (0 : Int) from rfl]
       have k0 := hP.cell (i := 0) (v := .func (.func 223) #[] #[]) rfl
       have k1 := hP.cell (i := 1) (v := .func (.func 225) #[] #[]) rfl
       have hin := Lib.hid (fun W => in0_c n r c W hn0 hr0 hc0)
       have hdk := Lib.hid (fun W => dark0_c n r c W hn0 hr0 hc0)
       have hbd := fixV_bd n r c
       have hfixj := Lib.hid (fun hP => fix_0 hnI hr0 hc0 hP)
       go_wp2_with (go_at_call 223; (with_reducible refine (hin.out _).mono ?_); rintro e w5 ⟨⟨hP5, rfl⟩ | ⟨hP5, rfl⟩, hx5⟩)
       ·have hE5 : Ext wr w5 := ((Ext.refl wr).alloc _).trans hx5
        have kb := (Blk.new wr #[.func (.func 223) #[] #[], .func (.func 225) #[] #[]] 258).ext hx5
        have hnek : wr.heap.size ≠ cb := by omega
        have hv := hfixj.out hP5
        replace hown := hown.ext hE5; replace b0 := b0.ext hE5; replace b3 := b3.ext hE5; replace hP := hP.ext hE5; replace bq := bq.ext hE5; replace hext := hext.trans hE5
        clear p0 p1 pl t0 t1 t2 tl hpl k0 k1 hx5 hE5 hin hj hno hfixj
        have p0 := bq.cell (i := 0) (v := .int .i64 r) rfl
        have p1 := bq.cell (i := 1) (v := .int .i64 c) rfl
        have pl := bq.lt
        have t0 := b3.cell (i := 0) (v := .int .i64 n) rfl
        have t1 := b3.cell (i := 1) (v := .int .i64 n) rfl
        have t2 := b3.cell (i := 2) (v := .slice (some ⟨cb, 0, none⟩) (n * n) (n * n)) rfl
        have tl := b3.lt
        have k1 := kb.cell (i := 1) (v := .func (.func 225) #[] #[]) rfl
        have kl := kb.lt
        rw [hv] at hset
        generalize wr.heap.size = gk at *
        clear kb hbd
        refine wp_region_canon (fun w' => But cb w5 w') [(0, true), (1, true), (2, true), (3, true), (4, true), (5, true), (6, false), (7, false)] (by kernel_rfl) (by kernel_rfl) (by decide) (by kernel_rfl) ?_ ?_
        ·exact (But.refl _ _).drew
        refine canon_intro fun ops eo => ?_
        replace eo := canon_eo eo
        iterate 6 all_goals (refine cS eo rfl rfl evB ?_; simp only [ptN])
        all_goals first | (refine canon_ef (eo.out 6 rfl) rfl (fun K hK => ?_); go_simp; ((go_at_call 225; (with_reducible refine (hdk.out _).mono ?_); rintro e w6 ⟨rfl, hx6⟩)); all_goals (refine hK _ _ ⟨(by first | exact (But.refl _ _).drew | exact But.of ((Ext.refl _).drew.trans hx6) | exact (But.of ((Ext.refl _).drew.trans hx6)).trans hb7), ?_⟩; clear hK K; go_simp)) | (refine canon_ef (eo.out 6 rfl) rfl (fun K hK => ?_); go_simp; ((go_at_call 85; (with_reducible refine (gset_c2 w.heap.size n n cb 0 (n * n) (fixTo n (r * n + c)) r c (dkK 0 n r c) (r * n + c) (n * n) _ hlen.out (hown.ext ((Ext.refl w5).drew.trans hx6)) (by simp) (by rw [hlen.out]; omega) ⟨hrn, by omega⟩ (by rw [hlen.out]; omega)).mono ?_); rintro e w7 ⟨rfl, oq7, hb7⟩)); all_goals (refine hK _ _ ⟨(by first | exact (But.refl _ _).drew | exact But.of ((Ext.refl _).drew.trans hx6) | exact (But.of ((Ext.refl _).drew.trans hx6)).trans hb7), ?_⟩; clear hK K; go_simp))
        all_goals first | (refine canon_ef (eo.out 7 rfl) rfl (fun K hK => ?_); go_simp; ((go_at_call 225; (with_reducible refine (hdk.out _).mono ?_); rintro e w6 ⟨rfl, hx6⟩)); all_goals (refine hK _ _ ⟨(by first | exact (But.refl _ _).drew | exact But.of ((Ext.refl _).drew.trans hx6) | exact (But.of ((Ext.refl _).drew.trans hx6)).trans hb7), ?_⟩; clear hK K; go_simp)) | (refine canon_ef (eo.out 7 rfl) rfl (fun K hK => ?_); go_simp; ((go_at_call 85; (with_reducible refine (gset_c2 w.heap.size n n cb 0 (n * n) (fixTo n (r * n + c)) r c (dkK 0 n r c) (r * n + c) (n * n) _ hlen.out (hown.ext ((Ext.refl w5).drew.trans hx6)) (by simp) (by rw [hlen.out]; omega) ⟨hrn, by omega⟩ (by rw [hlen.out]; omega)).mono ?_); rintro e w7 ⟨rfl, oq7, hb7⟩)); all_goals (refine hK _ _ ⟨(by first | exact (But.refl _ _).drew | exact But.of ((Ext.refl _).drew.trans hx6) | exact (But.of ((Ext.refl _).drew.trans hx6)).trans hb7), ?_⟩; clear hK K; go_simp))
        all_goals (clear eo; refine canon_done (NoPanic.normal ?_))
        have hB7 : But cb w5 w7 := (But.of ((Ext.refl _).drew.trans hx6)).trans hb7
        rw [hset.out] at oq7
        clear p0 p1 pl t0 t1 t2 tl k1 kl
        go_wp2_with fail
        go_roundw
        case rel => exact ⟨c + 1, hlc, by go_num, by rw [← Nat.add_assoc, hL'.out]; exact oq7, b0.but hB7 hne0, b3.but hB7 hne3, hP.but hB7 hnep, hext.but hB7 (by omega)⟩
        case measure => simp [intOf]; omega
       ·have hE5 : Ext wr w5 := ((Ext.refl wr).alloc _).trans hx5
        clear p0 p1 pl t0 t1 t2 tl hpl k0 k1 hx5 hin hdk hbd
        go_wp2_with fail
        go_roundw
        case rel => exact ⟨1, by omega, by go_num, Lib.hid (no_step (j := 0) hno.out hP5), hown.ext hE5, b0.ext hE5, b3.ext hE5, hP.ext hE5, bq.ext hE5, hext.trans hE5⟩
        case measure => simp [intOf]
      ·rw [show ((1 : Nat) : Int) = (1 : Int) from rfl]
       have k0 := hP.cell (i := 2) (v := .func (.func 227) #[] #[]) rfl
       have k1 := hP.cell (i := 3) (v := .func (.func 228) #[] #[]) rfl
       have hin := Lib.hid (fun W => in1_c n r c W hn0)
       have hdk := Lib.hid (fun W => dark1_c n r c W hn0 hr0 hc0)
       have hbd := fixV_bd n r c
       have hfixj := Lib.hid (fun hP => fix_1 hnI hr0 hc0 (hno.out 0 (by omega)) hP)
       go_wp2_with (go_at_call 227; (with_reducible refine (hin.out _).mono ?_); rintro e w5 ⟨⟨hP5, rfl⟩ | ⟨hP5, rfl⟩, hx5⟩)
       ·have hE5 : Ext wr w5 := ((Ext.refl wr).alloc _).trans hx5
        have kb := (Blk.new wr #[.func (.func 227) #[] #[], .func (.func 228) #[] #[]] 258).ext hx5
        have hnek : wr.heap.size ≠ cb := by omega
        have hv := hfixj.out hP5
        replace hown := hown.ext hE5; replace b0 := b0.ext hE5; replace b3 := b3.ext hE5; replace hP := hP.ext hE5; replace bq := bq.ext hE5; replace hext := hext.trans hE5
        clear p0 p1 pl t0 t1 t2 tl hpl k0 k1 hx5 hE5 hin hj hno hfixj
        have p0 := bq.cell (i := 0) (v := .int .i64 r) rfl
        have p1 := bq.cell (i := 1) (v := .int .i64 c) rfl
        have pl := bq.lt
        have t0 := b3.cell (i := 0) (v := .int .i64 n) rfl
        have t1 := b3.cell (i := 1) (v := .int .i64 n) rfl
        have t2 := b3.cell (i := 2) (v := .slice (some ⟨cb, 0, none⟩) (n * n) (n * n)) rfl
        have tl := b3.lt
        have k1 := kb.cell (i := 1) (v := .func (.func 228) #[] #[]) rfl
        have kl := kb.lt
        rw [hv] at hset
        generalize wr.heap.size = gk at *
        clear kb hbd
        refine wp_region_canon (fun w' => But cb w5 w') [(0, true), (1, true), (2, true), (3, true), (4, true), (5, true), (6, false), (7, false)] (by kernel_rfl) (by kernel_rfl) (by decide) (by kernel_rfl) ?_ ?_
        ·exact (But.refl _ _).drew
        refine canon_intro fun ops eo => ?_
        replace eo := canon_eo eo
        iterate 6 all_goals (refine cS eo rfl rfl evB ?_; simp only [ptN])
        all_goals first | (refine canon_ef (eo.out 6 rfl) rfl (fun K hK => ?_); go_simp; ((go_at_call 228; (with_reducible refine (hdk.out _).mono ?_); rintro e w6 ⟨rfl, hx6⟩)); all_goals (refine hK _ _ ⟨(by first | exact (But.refl _ _).drew | exact But.of ((Ext.refl _).drew.trans hx6) | exact (But.of ((Ext.refl _).drew.trans hx6)).trans hb7), ?_⟩; clear hK K; go_simp)) | (refine canon_ef (eo.out 6 rfl) rfl (fun K hK => ?_); go_simp; ((go_at_call 85; (with_reducible refine (gset_c2 w.heap.size n n cb 0 (n * n) (fixTo n (r * n + c)) r c (dkK 1 n r c) (r * n + c) (n * n) _ hlen.out (hown.ext ((Ext.refl w5).drew.trans hx6)) (by simp) (by rw [hlen.out]; omega) ⟨hrn, by omega⟩ (by rw [hlen.out]; omega)).mono ?_); rintro e w7 ⟨rfl, oq7, hb7⟩)); all_goals (refine hK _ _ ⟨(by first | exact (But.refl _ _).drew | exact But.of ((Ext.refl _).drew.trans hx6) | exact (But.of ((Ext.refl _).drew.trans hx6)).trans hb7), ?_⟩; clear hK K; go_simp))
        all_goals first | (refine canon_ef (eo.out 7 rfl) rfl (fun K hK => ?_); go_simp; ((go_at_call 228; (with_reducible refine (hdk.out _).mono ?_); rintro e w6 ⟨rfl, hx6⟩)); all_goals (refine hK _ _ ⟨(by first | exact (But.refl _ _).drew | exact But.of ((Ext.refl _).drew.trans hx6) | exact (But.of ((Ext.refl _).drew.trans hx6)).trans hb7), ?_⟩; clear hK K; go_simp)) | (refine canon_ef (eo.out 7 rfl) rfl (fun K hK => ?_); go_simp; ((go_at_call 85; (with_reducible refine (gset_c2 w.heap.size n n cb 0 (n * n) (fixTo n (r * n + c)) r c (dkK 1 n r c) (r * n + c) (n * n) _ hlen.out (hown.ext ((Ext.refl w5).drew.trans hx6)) (by simp) (by rw [hlen.out]; omega) ⟨hrn, by omega⟩ (by rw [hlen.out]; omega)).mono ?_); rintro e w7 ⟨rfl, oq7, hb7⟩)); all_goals (refine hK _ _ ⟨(by first | exact (But.refl _ _).drew | exact But.of ((Ext.refl _).drew.trans hx6) | exact (But.of ((Ext.refl _).drew.trans hx6)).trans hb7), ?_⟩; clear hK K; go_simp))
        all_goals (clear eo; refine canon_done (NoPanic.normal ?_))
        have hB7 : But cb w5 w7 := (But.of ((Ext.refl _).drew.trans hx6)).trans hb7
        rw [hset.out] at oq7
        clear p0 p1 pl t0 t1 t2 tl k1 kl
        go_wp2_with fail
        go_roundw
        case rel => exact ⟨c + 1, hlc, by go_num, by rw [← Nat.add_assoc, hL'.out]; exact oq7, b0.but hB7 hne0, b3.but hB7 hne3, hP.but hB7 hnep, hext.but hB7 (by omega)⟩
        case measure => simp [intOf]; omega
       ·have hE5 : Ext wr w5 := ((Ext.refl wr).alloc _).trans hx5
        clear p0 p1 pl t0 t1 t2 tl hpl k0 k1 hx5 hin hdk hbd
        go_wp2_with fail
        go_roundw
        case rel => exact ⟨2, by omega, by go_num, Lib.hid (no_step (j := 1) hno.out hP5), hown.ext hE5, b0.ext hE5, b3.ext hE5, hP.ext hE5, bq.ext hE5, hext.trans hE5⟩
        case measure => simp [intOf]
      ·rw [show ((2 : Nat) : Int) = (2 : Int) from rfl]
       have k0 := hP.cell (i := 4) (v := .func (.func 229) #[] #[]) rfl
       have k1 := hP.cell (i := 5) (v := .func (.func 230) #[] #[]) rfl
       have hin := Lib.hid (fun W => in2_c n r c W hn0)
       have hdk := Lib.hid (fun W => dark2_c n r c W hn0 hr0 hc0)
       have hbd := fixV_bd n r c
       have hfixj := Lib.hid (fun hP => fix_2 hnI hr0 hc0 (hno.out 0 (by omega)) (hno.out 1 (by omega)) hP)
       go_wp2_with (go_at_call 229; (with_reducible refine (hin.out _).mono ?_); rintro e w5 ⟨⟨hP5, rfl⟩ | ⟨hP5, rfl⟩, hx5⟩)
       ·have hE5 : Ext wr w5 := ((Ext.refl wr).alloc _).trans hx5
        have kb := (Blk.new wr #[.func (.func 229) #[] #[], .func (.func 230) #[] #[]] 258).ext hx5
        have hnek : wr.heap.size ≠ cb := by omega
        have hv := hfixj.out hP5
        replace hown := hown.ext hE5; replace b0 := b0.ext hE5; replace b3 := b3.ext hE5; replace hP := hP.ext hE5; replace bq := bq.ext hE5; replace hext := hext.trans hE5
        clear p0 p1 pl t0 t1 t2 tl hpl k0 k1 hx5 hE5 hin hj hno hfixj
        have p0 := bq.cell (i := 0) (v := .int .i64 r) rfl
        have p1 := bq.cell (i := 1) (v := .int .i64 c) rfl
        have pl := bq.lt
        have t0 := b3.cell (i := 0) (v := .int .i64 n) rfl
        have t1 := b3.cell (i := 1) (v := .int .i64 n) rfl
        have t2 := b3.cell (i := 2) (v := .slice (some ⟨cb, 0, none⟩) (n * n) (n * n)) rfl
        have tl := b3.lt
        have k1 := kb.cell (i := 1) (v := .func (.func 230) #[] #[]) rfl
        have kl := kb.lt
        rw [hv] at hset
        generalize wr.heap.size = gk at *
        clear kb hbd
        refine wp_region_canon (fun w' => But cb w5 w') [(0, true), (1, true), (2, true), (3, true), (4, true), (5, true), (6, false), (7, false)] (by kernel_rfl) (by kernel_rfl) (by decide) (by kernel_rfl) ?_ ?_
        ·exact (But.refl _ _).drew
        refine canon_intro fun ops eo => ?_
        replace eo := canon_eo eo
        iterate 6 all_goals (refine cS eo rfl rfl evB ?_; simp only [ptN])
        all_goals first | (refine canon_ef (eo.out 6 rfl) rfl (fun K hK => ?_); go_simp; ((go_at_call 230; (with_reducible refine (hdk.out _).mono ?_); rintro e w6 ⟨rfl, hx6⟩)); all_goals (refine hK _ _ ⟨(by first | exact (But.refl _ _).drew | exact But.of ((Ext.refl _).drew.trans hx6) | exact (But.of ((Ext.refl _).drew.trans hx6)).trans hb7), ?_⟩; clear hK K; go_simp)) | (refine canon_ef (eo.out 6 rfl) rfl (fun K hK => ?_); go_simp; ((go_at_call 85; (with_reducible refine (gset_c2 w.heap.size n n cb 0 (n * n) (fixTo n (r * n + c)) r c (dkK 2 n r c) (r * n + c) (n * n) _ hlen.out (hown.ext ((Ext.refl w5).drew.trans hx6)) (by simp) (by rw [hlen.out]; omega) ⟨hrn, by omega⟩ (by rw [hlen.out]; omega)).mono ?_); rintro e w7 ⟨rfl, oq7, hb7⟩)); all_goals (refine hK _ _ ⟨(by first | exact (But.refl _ _).drew | exact But.of ((Ext.refl _).drew.trans hx6) | exact (But.of ((Ext.refl _).drew.trans hx6)).trans hb7), ?_⟩; clear hK K; go_simp))
        all_goals first | (refine canon_ef (eo.out 7 rfl) rfl (fun K hK => ?_); go_simp; ((go_at_call 230; (with_reducible refine (hdk.out _).mono ?_); rintro e w6 ⟨rfl, hx6⟩)); all_goals (refine hK _ _ ⟨(by first | exact (But.refl _ _).drew | exact But.of ((Ext.refl _).drew.trans hx6) | exact (But.of ((Ext.refl _).drew.trans hx6)).trans hb7), ?_⟩; clear hK K; go_simp)) | (refine canon_ef (eo.out 7 rfl) rfl (fun K hK => ?_); go_simp; ((go_at_call 85; (with_reducible refine (gset_c2 w.heap.size n n cb 0 (n * n) (fixTo n (r * n + c)) r c (dkK 2 n r c) (r * n + c) (n * n) _ hlen.out (hown.ext ((Ext.refl w5).drew.trans hx6)) (by simp) (by rw [hlen.out]; omega) ⟨hrn, by omega⟩ (by rw [hlen.out]; omega)).mono ?_); rintro e w7 ⟨rfl, oq7, hb7⟩)); all_goals (refine hK _ _ ⟨(by first | exact (But.refl _ _).drew | exact But.of ((Ext.refl _).drew.trans hx6) | exact (But.of ((Ext.refl _).drew.trans hx6)).trans hb7), ?_⟩; clear hK K; go_simp))
        all_goals (clear eo; refine canon_done (NoPanic.normal ?_))
        have hB7 : But cb w5 w7 := (But.of ((Ext.refl _).drew.trans hx6)).trans hb7
        rw [hset.out] at oq7
        clear p0 p1 pl t0 t1 t2 tl k1 kl
        go_wp2_with fail
        go_roundw
        case rel => exact ⟨c + 1, hlc, by go_num, by rw [← Nat.add_assoc, hL'.out]; exact oq7, b0.but hB7 hne0, b3.but hB7 hne3, hP.but hB7 hnep, hext.but hB7 (by omega)⟩
        case measure => simp [intOf]; omega
       ·have hE5 : Ext wr w5 := ((Ext.refl wr).alloc _).trans hx5
        clear p0 p1 pl t0 t1 t2 tl hpl k0 k1 hx5 hin hdk hbd
        go_wp2_with fail
        go_roundw
        case rel => exact ⟨3, by omega, by go_num, Lib.hid (no_step (j := 2) hno.out hP5), hown.ext hE5, b0.ext hE5, b3.ext hE5, hP.ext hE5, bq.ext hE5, hext.trans hE5⟩
        case measure => simp [intOf]
      ·rw [show ((3 : Nat) : Int) = (3 : Int) from rfl]
       have k0 := hP.cell (i := 6) (v := .func (.func 231) #[] #[]) rfl
       have k1 := hP.cell (i := 7) (v := .func (.func 232) #[] #[]) rfl
       have hin := Lib.hid (fun W => in3_c n r c W hn0)
       have hdk := Lib.hid (fun W => dark3_c n r c W)
       have hbd := fixV_bd n r c
       have hfixj := Lib.hid (fun hP => fix_3 hnI hr0 hc0 (hno.out 0 (by omega)) (hno.out 1 (by omega)) (hno.out 2 (by omega)) hP)
       go_wp2_with (go_at_call 231; (with_reducible refine (hin.out _).mono ?_); rintro e w5 ⟨⟨hP5, rfl⟩ | ⟨hP5, rfl⟩, hx5⟩)
       ·have hE5 : Ext wr w5 := ((Ext.refl wr).alloc _).trans hx5
        have kb := (Blk.new wr #[.func (.func 231) #[] #[], .func (.func 232) #[] #[]] 258).ext hx5
        have hnek : wr.heap.size ≠ cb := by omega
        have hv := hfixj.out hP5
        replace hown := hown.ext hE5; replace b0 := b0.ext hE5; replace b3 := b3.ext hE5; replace hP := hP.ext hE5; replace bq := bq.ext hE5; replace hext := hext.trans hE5
        clear p0 p1 pl t0 t1 t2 tl hpl k0 k1 hx5 hE5 hin hj hno hfixj
        have p0 := bq.cell (i := 0) (v := .int .i64 r) rfl
        have p1 := bq.cell (i := 1) (v := .int .i64 c) rfl
        have pl := bq.lt
        have t0 := b3.cell (i := 0) (v := .int .i64 n) rfl
        have t1 := b3.cell (i := 1) (v := .int .i64 n) rfl
        have t2 := b3.cell (i := 2) (v := .slice (some ⟨cb, 0, none⟩) (n * n) (n * n)) rfl
        have tl := b3.lt
        have k1 := kb.cell (i := 1) (v := .func (.func 232) #[] #[]) rfl
        have kl := kb.lt
        rw [hv] at hset
        generalize wr.heap.size = gk at *
        clear kb hbd
        refine wp_region_canon (fun w' => But cb w5 w') [(0, true), (1, true), (2, true), (3, true), (4, true), (5, true), (6, false), (7, false)] (by kernel_rfl) (by kernel_rfl) (by decide) (by kernel_rfl) ?_ ?_
        ·exact (But.refl _ _).drew
        refine canon_intro fun ops eo => ?_
        replace eo := canon_eo eo
        iterate 6 all_goals (refine cS eo rfl rfl evB ?_; simp only [ptN])
        all_goals first | (refine canon_ef (eo.out 6 rfl) rfl (fun K hK => ?_); go_simp; ((go_at_call 232; (with_reducible refine (hdk.out _).mono ?_); rintro e w6 ⟨rfl, hx6⟩)); all_goals (refine hK _ _ ⟨(by first | exact (But.refl _ _).drew | exact But.of ((Ext.refl _).drew.trans hx6) | exact (But.of ((Ext.refl _).drew.trans hx6)).trans hb7), ?_⟩; clear hK K; go_simp)) | (refine canon_ef (eo.out 6 rfl) rfl (fun K hK => ?_); go_simp; ((go_at_call 85; (with_reducible refine (gset_c2 w.heap.size n n cb 0 (n * n) (fixTo n (r * n + c)) r c (dkK 3 n r c) (r * n + c) (n * n) _ hlen.out (hown.ext ((Ext.refl w5).drew.trans hx6)) (by simp) (by rw [hlen.out]; omega) ⟨hrn, by omega⟩ (by rw [hlen.out]; omega)).mono ?_); rintro e w7 ⟨rfl, oq7, hb7⟩)); all_goals (refine hK _ _ ⟨(by first | exact (But.refl _ _).drew | exact But.of ((Ext.refl _).drew.trans hx6) | exact (But.of ((Ext.refl _).drew.trans hx6)).trans hb7), ?_⟩; clear hK K; go_simp))
        all_goals first | (refine canon_ef (eo.out 7 rfl) rfl (fun K hK => ?_); go_simp; ((go_at_call 232; (with_reducible refine (hdk.out _).mono ?_); rintro e w6 ⟨rfl, hx6⟩)); all_goals (refine hK _ _ ⟨(by first | exact (But.refl _ _).drew | exact But.of ((Ext.refl _).drew.trans hx6) | exact (But.of ((Ext.refl _).drew.trans hx6)).trans hb7), ?_⟩; clear hK K; go_simp)) | (refine canon_ef (eo.out 7 rfl) rfl (fun K hK => ?_); go_simp; ((go_at_call 85; (with_reducible refine (gset_c2 w.heap.size n n cb 0 (n * n) (fixTo n (r * n + c)) r c (dkK 3 n r c) (r * n + c) (n * n) _ hlen.out (hown.ext ((Ext.refl w5).drew.trans hx6)) (by simp) (by rw [hlen.out]; omega) ⟨hrn, by omega⟩ (by rw [hlen.out]; omega)).mono ?_); rintro e w7 ⟨rfl, oq7, hb7⟩)); all_goals (refine hK _ _ ⟨(by first | exact (But.refl _ _).drew | exact But.of ((Ext.refl _).drew.trans hx6) | exact (But.of ((Ext.refl _).drew.trans hx6)).trans hb7), ?_⟩; clear hK K; go_simp))
        all_goals (clear eo; refine canon_done (NoPanic.normal ?_))
        have hB7 : But cb w5 w7 := (But.of ((Ext.refl _).drew.trans hx6)).trans hb7
        rw [hset.out] at oq7
        clear p0 p1 pl t0 t1 t2 tl k1 kl
        go_wp2_with fail
        go_roundw
        case rel => exact ⟨c + 1, hlc, by go_num, by rw [← Nat.add_assoc, hL'.out]; exact oq7, b0.but hB7 hne0, b3.but hB7 hne3, hP.but hB7 hnep, hext.but hB7 (by omega)⟩
        case measure => simp [intOf]; omega
       ·have hE5 : Ext wr w5 := ((Ext.refl wr).alloc _).trans hx5
        clear p0 p1 pl t0 t1 t2 tl hpl k0 k1 hx5 hin hdk hbd
        go_wp2_with fail
        go_roundw
        case rel => exact ⟨4, by omega, by go_num, Lib.hid (no_step (j := 3) hno.out hP5), hown.ext hE5, b0.ext hE5, b3.ext hE5, hP.ext hE5, bq.ext hE5, hext.trans hE5⟩
        case measure => simp [intOf]
      ·rw [show ((4 : Nat) : Int) = (4 : Int) from rfl]
       have hv := fix_4 hnI hr0 hc0 (hno.out 0 (by omega)) (hno.out 1 (by omega)) (hno.out 2 (by omega)) (hno.out 3 (by omega))
       have hsk := Lib.hid (hskip.out hv)
       clear p0 p1 pl t0 t1 t2 tl hpl hno hv
       go_wp2_with fail
       go_roundw
       case rel => exact ⟨c + 1, hlc, by go_num, by rw [← Nat.add_assoc, hL'.out, ← hsk.out]; exact hown, b0, b3, hP, hext⟩
       case measure => simp [intOf]; omega
    ·obtain rfl : c = n := by omega
     go_wp2_with fail
     go_roundw
     case rel => exact ⟨r + 1, hlr, by go_num, by rw [Nat.add_mul, Nat.one_mul]; exact hown, b0, b3, hP, hext⟩
     case measure => simp [intOf]; omega
  ·obtain rfl : r = n := by omega
   rw [fixTo_all] at hown
   have t0 := b3.cell (i := 0) (v := .int .i64 r) rfl
   have t1 := b3.cell (i := 1) (v := .int .i64 r) rfl
   have t2 := b3.cell (i := 2) (v := .slice (some ⟨cb, 0, none⟩) (r * r) (r * r)) rfl
   have tl := b3.lt
   have q0 := b0.cell (i := 0) (v := .int .i64 0) rfl
   have q1 := b0.cell (i := 1) (v := .int .i64 0) rfl
   have q2 := b0.cell (i := 2) (v := .slice none 0 0) rfl
   have ql := b0.lt
   have qf := b0.free
   have hF := ((b0.set 0 (.int .i64 r)).set 1 (.int .i64 r)).set 2 (.slice (some ⟨cb, 0, none⟩) (r * r) (r * r))
   have C0 := Lib.hid (hF.cell (i := 0) (v := .int .i64 r) rfl); have C1 := Lib.hid (hF.cell (i := 1) (v := .int .i64 r) rfl); have C2 := Lib.hid (hF.cell (i := 2) (v := .slice (some ⟨cb, 0, none⟩) (r * r) (r * r)) rfl)
   have ho := Lib.hid (hown.keep (w' := ((wr.setCell ⟨w.heap.size, 0, none⟩ (.int .i64 r)).setCell ⟨w.heap.size, 1, none⟩ (.int .i64 r)).setCell ⟨w.heap.size, 2, none⟩ (.slice (some ⟨cb, 0, none⟩) (r * r) (r * r))) (by simp [World.setCell]) (fun b o hn hp _ => by
    simp only [Option.some.injEq, Addr.mk.injEq] at hp
    obtain ⟨rfl, -⟩ := hp
    rw [Below.heap_setCell _ _ _ _ (Ne.symm hne0), Below.heap_setCell _ _ _ _ (Ne.symm hne0), Below.heap_setCell _ _ _ _ (Ne.symm hne0)]))
   have hx9 : Ext w (((wr.setCell ⟨w.heap.size, 0, none⟩ (.int .i64 r)).setCell ⟨w.heap.size, 1, none⟩ (.int .i64 r)).setCell ⟨w.heap.size, 2, none⟩ (.slice (some ⟨cb, 0, none⟩) (r * r) (r * r))) := ((hext.setCell (Nat.le_refl _) _).setCell (Nat.le_refl _) _).setCell (Nat.le_refl _) _
   clear hF hown b0 b3 hP hext
   go_wp2_with fail
   have c0 := C0.out; have c1 := C1.out; have c2 := C2.out
   exact bodyPost_ret (v := vGrid r r (some ⟨cb, 0, none⟩) (r * r) (r * r)) (by simp [results, Tryz.results219, go_sem, c0, c1, c2]) rfl ⟨⟨some ⟨cb, 0, none⟩, r * r, by rw [hnn.out], ho.out, by rw [hnn.out]; exact Nat.le_refl _⟩, hx9⟩
end Go.Proofs.YtdnkljpnhmcnpaaGreat
