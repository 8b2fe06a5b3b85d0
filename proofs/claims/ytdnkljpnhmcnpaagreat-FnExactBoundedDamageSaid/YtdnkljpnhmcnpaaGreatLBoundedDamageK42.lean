/- Damages: the reference's fields, and what is a valid damage. -/
import Derived.Test.YtdnkljpnhmcnpaaGreatLBoundedDamageK05
set_option linter.unusedVariables false
set_option linter.unusedSimpArgs false
namespace Go.Proofs.YtdnkljpnhmcnpaaGreat
open Go.RowKit

theorem kind_cases (k : Int) : k = 1 ∨ k = 2 ∨ k = 3 ∨ k = 4 ∨ (k ≠ 1 ∧ k ≠ 2 ∧ k ≠ 3 ∧ k ≠ 4) := by omega
def fldB (k : Int) : List Bool :=
 if k = 1 then [true, true, true, false, true] else if k = 2 then [true, true, true, true, true] else if k = 3 then [false, false, true, true, true] else
 if k = 4 then [true, false, true, false, true] else [false, false, true, false, true]
theorem fldB_len (k : Int) : (fldB k).length = 5 := by
 unfold fldB
 split
 ·rfl
 split
 ·rfl
 split
 ·rfl
 split <;> rfl
set_option maxRecDepth 100000 in
theorem l27Fields_c (k : Int) (W : World) :
  Calls Tryz.prog 207 #[.int .i64 k] W fun e w' => (∃ g, e = .returned (.slice (some ⟨g, 0, none⟩) 5 5) ∧ W.heap.size ≤ g ∧ Blk w' g ((fldB k).map Value.bool).toArray 4) ∧ Ext W w' := by
 rcases kind_cases k with rfl | rfl | rfl | rfl | ⟨h1, h2, h3, h4⟩
 ·go_enter Tryz.func207, Tryz.ntmps207
  go_wp2
  go_ret
  exact ⟨⟨_, rfl, Nat.le_refl _, Blk.new W _ _⟩, eX⟩
 ·go_enter Tryz.func207, Tryz.ntmps207
  go_wp2
  go_ret
  exact ⟨⟨_, rfl, Nat.le_refl _, Blk.new W _ _⟩, eX⟩
 ·go_enter Tryz.func207, Tryz.ntmps207
  go_wp2
  go_ret
  exact ⟨⟨_, rfl, Nat.le_refl _, Blk.new W _ _⟩, eX⟩
 ·go_enter Tryz.func207, Tryz.ntmps207
  go_wp2
  go_ret
  exact ⟨⟨_, rfl, Nat.le_refl _, Blk.new W _ _⟩, eX⟩
 ·have hf : fldB k = [false, false, true, false, true] := by simp [fldB, h1, h2, h3, h4]
  rw [hf]
  have e1 : (k == 1) = false := by simpa using h1
  have e2 : (k == 2) = false := by simpa using h2
  have e3 : (k == 3) = false := by simpa using h3
  have e4 : (k == 4) = false := by simpa using h4
  go_enter Tryz.func207, Tryz.ntmps207
  go_wp2
  go_ret
  exact ⟨⟨_, rfl, Nat.le_refl _, Blk.new W _ _⟩, eX⟩
set_option maxRecDepth 100000 in
theorem l27List_c (k r c t w g : Int) (W : World) :
  Calls Tryz.prog 208 #[vDm k r c t w g] W fun e w' => (∃ b, e = .returned (.slice (some ⟨b, 0, none⟩) 5 5) ∧ W.heap.size ≤ b ∧ Blk w' b #[.int .i64 r, .int .i64 c, .int .i64 t, .int .i64 w, .int .i64 g] 2) ∧ Ext W w' := by
 have hb := Lib.hid (Blk.new (W.alloc (.cells #[.int .i64 k, .int .i64 r, .int .i64 c, .int .i64 t, .int .i64 w, .int .i64 g] 104)) #[.int .i64 r, .int .i64 c, .int .i64 t, .int .i64 w, .int .i64 g] 2)
 go_enter Tryz.func208, Tryz.ntmps208
 go_wp2
 go_ret
 have h := hb.out
 rw [World.size_alloc] at h
 exact ⟨⟨_, rfl, by omega, h⟩, eX⟩
def okI (k : Int) (F : List Bool) (L : List Int) (i : Nat) : Prop := (F.getD i false = true ∨ L.getD i 0 = 0) ∧ (-400 ≤ L.getD i 0 ∧ L.getD i 0 ≤ 400) ∧ (0 ≤ L.getD i 0 ∨ (i = 3 ∧ k = 3))
def tailOK (k t v : Int) : Prop := (k = 2 → 1 ≤ t ∧ 1 ≤ v) ∧ (k = 3 → 1 ≤ t) ∧ (k = 5 → t ≤ 256)
theorem all4 {P : Nat → Prop} : (∀ i, i < 4 → P i) ↔ P 0 ∧ P 1 ∧ P 2 ∧ P 3 := ⟨fun h => ⟨h 0 (by decide), h 1 (by decide), h 2 (by decide), h 3 (by decide)⟩, fun ⟨h0, h1, h2, h3⟩ i hi => by
 match i, hi with
 | 0, _ => exact h0
 | 1, _ => exact h1
 | 2, _ => exact h2
 | 3, _ => exact h3⟩
theorem damOK_iff (k r c t v g : Int) : damOK k r c t v g ↔ (1 ≤ k ∧ k ≤ 5) ∧ (0 ≤ g ∧ g ≤ 255) ∧ (∀ i, i < 4 → okI k (fldB k) [r, c, t, v, g] i) ∧ tailOK k t v := by
 rw [all4]
 by_cases hk : 1 ≤ k ∧ k ≤ 5
 ·have : k = 1 ∨ k = 2 ∨ k = 3 ∨ k = 4 ∨ k = 5 := by omega
  rcases this with rfl | rfl | rfl | rfl | rfl <;> simp [damOK, blotOK, scratchOK, skewOK, noiseOK, fadeOK, okI, tailOK, fldB] <;> omega
 ·refine ⟨fun h => absurd ?_ hk, fun h => absurd h.1 hk⟩
  rcases h.1 with h | h | h | h | h <;> omega
theorem sGreyD_c (n : Int) (w : World) :
  Calls Tryz.prog 107 #[.int .i64 n] w fun e w' => isB e (0 ≤ n ∧ n ≤ 255) ∧ w = w' := by
 go_enter Tryz.func107, Tryz.ntmps107
 go_wp2_with (first | (go_at_call 29; (with_reducible refine (l01In_c _ _ _ _).mono ?_); rintro e w' ⟨⟨hP, rfl⟩ | ⟨hP, rfl⟩, rfl⟩ <;> go_prune))
 all_goals (go_ret; exact ⟨(by first | exact isB_t (by skip; omega) | exact isB_f (by skip; omega) | exact isB_m (by simp only [decide_eq_true_eq, decide_eq_false_iff_not, Bool.and_eq_true, Bool.or_eq_true]; omega) | exact isB_t (by assumption) | exact isB_f (by assumption) | exact isB_t (by simp [*]; done) | exact isB_f (by simp [*]; done)), rfl⟩)
theorem blkB {W : World} {b : Nat} {L : List Bool} {t : TypeId} (h : Blk W b (L.map Value.bool).toArray t) {i : Nat} (hi : i < L.length) : W.cell? ⟨b, i, none⟩ = some (.bool (L.getD i false)) := h.cell (by simp [List.getD_eq_getElem?_getD, List.getElem?_eq_getElem hi, hi])
theorem blkI {W : World} {b : Nat} {L : List Int} {t : TypeId} (h : Blk W b (L.map (Value.int .i64)).toArray t) {i : Nat} (hi : i < L.length) : W.cell? ⟨b, i, none⟩ = some (.int .i64 (L.getD i 0)) := h.cell (by simp [List.getD_eq_getElem?_getD, List.getElem?_eq_getElem hi, hi])
set_option maxHeartbeats 1600000 in
set_option maxRecDepth 100000 in
theorem sIsDamage_c (k r c t v g : Int) (W : World) :
  Calls Tryz.prog 166 #[vDm k r c t v g] W fun e w' => isB e (damOK k r c t v g) ∧ Ext W w' := by
 have hB0 := Blk.new W #[.int .i64 k, .int .i64 r, .int .i64 c, .int .i64 t, .int .i64 v, .int .i64 g] 104
 have hx0 : Ext W (W.alloc (.cells #[.int .i64 k, .int .i64 r, .int .i64 c, .int .i64 t, .int .i64 v, .int .i64 g] 104)) := (Ext.refl W).alloc _
 by_cases hk : 1 ≤ k ∧ k ≤ 5
 ·by_cases hg : 0 ≤ g ∧ g ≤ 255
  ·have hfd := Lib.hid (fun W => l27Fields_c k W)
   have hls := Lib.hid (fun W => l27List_c k r c t v g W)
   go_enter Tryz.func166, Tryz.ntmps166
   go_upto_region 3 with (first | (go_at_call 29; (with_reducible refine (l01In_c _ _ _ _).mono ?_); rintro e w1 ⟨⟨hP, rfl⟩ | ⟨hP, rfl⟩, rfl⟩ <;> first | (exfalso; omega) | skip) | (go_at_call 107; (with_reducible refine (sGreyD_c _ _).mono ?_); rintro e w2 ⟨⟨hP, rfl⟩ | ⟨hP, rfl⟩, rfl⟩ <;> first | (exfalso; omega) | skip))
   generalize W.alloc (.cells #[.int .i64 k, .int .i64 r, .int .i64 c, .int .i64 t, .int .i64 v, .int .i64 g] 104) = w0 at *
   generalize W.heap.size = g0 at *
   obtain ⟨q0, q1, q2, q3, q4, q5⟩ := hB0.c6; have ql := hB0.lt
   refine wp_region_canon (fun w' => Ext w0 w') [(0, true), (1, true), (3, true), (2, false), (4, false), (5, true), (6, true)] (by kernel_rfl) (by kernel_rfl) (by decide) (by kernel_rfl) ?_ ?_
   ·exact eX
   refine canon_intro fun ops eo => ?_
   replace eo := canon_eo eo
   iterate 3 all_goals (refine cS eo rfl rfl evE ?_; simp only [ptN])
   all_goals first | (refine canon_ef (eo.out 2 rfl) rfl (fun K hK => ?_); go_simp; ((go_at_call 207; (with_reducible refine (hfd.out _).mono ?_); rintro e w3 ⟨⟨gf, rfl, hgf, hbf⟩, hx3⟩; obtain ⟨hc3, hf3, hk3, hz3⟩ := ecell hx3)); all_goals (refine hK _ _ ⟨(by first | assumption | exact eX), ?_⟩; clear hK K; go_simp)) | (refine canon_ef (eo.out 2 rfl) rfl (fun K hK => ?_); go_simp; ((go_at_call 208; (with_reducible refine (hls.out _).mono ?_); rintro e w4 ⟨⟨gl, rfl, hgl, hbl⟩, hx4⟩)); all_goals (refine hK _ _ ⟨(by first | assumption | exact eX), ?_⟩; clear hK K; go_simp))
   all_goals first | (refine canon_ef (eo.out 4 rfl) rfl (fun K hK => ?_); go_simp; ((go_at_call 207; (with_reducible refine (hfd.out _).mono ?_); rintro e w3 ⟨⟨gf, rfl, hgf, hbf⟩, hx3⟩; obtain ⟨hc3, hf3, hk3, hz3⟩ := ecell hx3)); all_goals (refine hK _ _ ⟨(by first | assumption | exact eX), ?_⟩; clear hK K; go_simp)) | (refine canon_ef (eo.out 4 rfl) rfl (fun K hK => ?_); go_simp; ((go_at_call 208; (with_reducible refine (hls.out _).mono ?_); rintro e w4 ⟨⟨gl, rfl, hgl, hbl⟩, hx4⟩)); all_goals (refine hK _ _ ⟨(by first | assumption | exact eX), ?_⟩; clear hK K; go_simp))
   iterate 2 all_goals (refine cS eo rfl rfl evE ?_; simp only [ptN])
   all_goals (clear eo; refine canon_done (NoPanic.normal ?_))
   clear q0 q1 q2 q3 q4 q5 ql
   have hx34 := hx3.trans hx4
   have hx04 : Ext W w4 := hx0.trans (by first | exact hx34 | exact (Ext.refl w0).drew.trans hx34)
   have hB4 := hB0.ext (w' := w4) (by first | exact hx34 | exact (Ext.refl w0).drew.trans hx34)
   have hbf4 := hbf.ext hx4
   have hblL : Blk w4 gl (([r, c, t, v, g] : List Int).map (Value.int .i64)).toArray 2 := hbl
   have hl5 := fldB_len k
   clear hbf hbl hx3 hx4 hx34 hB0 hfd hls
   go_wp2_with fail
   go_loopw [5] (fun i wr => ∃ j : Nat, j ≤ 4 ∧ i = .int .i64 j ∧ (∀ q, q < j → okI k (fldB k) [r, c, t, v, g] q) ∧ Ext w4 wr) (fun i _ => 4 - (intOf i).toNat)
   case atStart => exact ⟨0, by decide, rfl, fun q h => absurd h (Nat.not_lt_zero q), eX⟩
   case round =>
    obtain ⟨j, hj, rfl, hall, hext⟩ := hrel
    replace hall := Lib.hid hall
    have hbk := hB4.ext hext
    have q0 := hbk.cell (i := 0) (v := .int .i64 k) rfl; have q3 := hbk.cell (i := 3) (v := .int .i64 t) rfl; have q4 := hbk.cell (i := 4) (v := .int .i64 v) rfl; have ql := hbk.lt
    by_cases hlt : j < 4
    ·have y1 := blkB (hbf4.ext hext) (i := j) (by omega)
     have y2 := blkI (hblL.ext hext) (i := j) (by simp; omega)
     have y1l := (hbf4.ext hext).lt
     have y2l := (hblL.ext hext).lt
     obtain ⟨f, hfe⟩ : ∃ f, (fldB k).getD j false = f := ⟨_, rfl⟩
     obtain ⟨x, hxe⟩ : ∃ x, ([r, c, t, v, g] : List Int).getD j 0 = x := ⟨_, rfl⟩
     rw [hfe] at y1
     rw [hxe] at y2
     clear hbk hl5
     by_cases hx0e : x = 0
     ·subst hx0e
      cases f
      ·have hin : (0 : Int) ≤ 0 := Int.le_refl _
       have hoj := Lib.hid (show okI k (fldB k) [r, c, t, v, g] j from by unfold okI; rw [hxe, hfe]; exact ⟨.inr rfl, by omega, .inl (by omega)⟩)
       replace hfe := Lib.hid hfe; replace hxe := Lib.hid hxe
       go_wp2_with (go_at_call 29; (with_reducible refine (l01In_c _ _ _ _).mono ?_); rintro e w7 ⟨⟨hP, rfl⟩ | ⟨hP, rfl⟩, rfl⟩ <;> first | (exfalso; omega) | skip)
       go_roundw
       case rel => exact ⟨j + 1, by omega, by go_num, fun q hq => by
        by_cases e : q = j
        ·subst e; exact hoj.out
        ·exact hall.out q (by omega), hext⟩
       case measure => simp [intOf]; omega
      ·have hin : (0 : Int) ≤ 0 := Int.le_refl _
       have hoj := Lib.hid (show okI k (fldB k) [r, c, t, v, g] j from by unfold okI; rw [hxe, hfe]; exact ⟨.inl rfl, by omega, .inl (by omega)⟩)
       replace hfe := Lib.hid hfe; replace hxe := Lib.hid hxe
       go_wp2_with (go_at_call 29; (with_reducible refine (l01In_c _ _ _ _).mono ?_); rintro e w7 ⟨⟨hP, rfl⟩ | ⟨hP, rfl⟩, rfl⟩ <;> first | (exfalso; omega) | skip)
       go_roundw
       case rel => exact ⟨j + 1, by omega, by go_num, fun q hq => by
        by_cases e : q = j
        ·subst e; exact hoj.out
        ·exact hall.out q (by omega), hext⟩
       case measure => simp [intOf]; omega
     ·have hxb : (x != 0) = true := by simpa using hx0e
      cases f
      ·have hno := Lib.hid (show ¬ damOK k r c t v g from fun h => by
        have hh := ((damOK_iff _ _ _ _ _ _).1 h).2.2.1 j hlt
        unfold okI at hh
        rw [hxe, hfe] at hh
        rcases hh.1 with h1 | h1
        ·cases h1
        ·exact hx0e h1)
       replace hfe := Lib.hid hfe; replace hxe := Lib.hid hxe
       go_wp2_with (go_at_call 29; (with_reducible refine (l01In_c _ _ _ _).mono ?_); rintro e w7 ⟨⟨hP, rfl⟩ | ⟨hP, rfl⟩, rfl⟩ <;> first | (exfalso; omega) | skip)
       go_ret
       exact ⟨isB_f hno.out, hx04.trans hext⟩
      ·by_cases hin : -400 ≤ x ∧ x ≤ 400
       ·by_cases hneg : x < 0
        ·by_cases h3 : j = 3
         ·subst h3
          by_cases hk3 : k = 3
          ·subst hk3
           have hoj := Lib.hid (show okI 3 (fldB 3) [r, c, t, v, g] 3 from by unfold okI; rw [hxe, hfe]; exact ⟨.inl rfl, hin, .inr ⟨rfl, rfl⟩⟩)
           replace hfe := Lib.hid hfe; replace hxe := Lib.hid hxe
           go_wp2_with (go_at_call 29; (with_reducible refine (l01In_c _ _ _ _).mono ?_); rintro e w7 ⟨⟨hP, rfl⟩ | ⟨hP, rfl⟩, rfl⟩ <;> first | (exfalso; omega) | skip)
           go_roundw
           case rel => exact ⟨3 + 1, by omega, by go_num, fun q hq => by
            by_cases e : q = 3
            ·subst e; exact hoj.out
            ·exact hall.out q (by omega), hext⟩
           case measure => simp [intOf]
          ·have hkb : (k != 3) = true := by simpa using hk3
           have hno := Lib.hid (show ¬ damOK k r c t v g from fun h => by
            have hh := ((damOK_iff _ _ _ _ _ _).1 h).2.2.1 3 hlt
            unfold okI at hh
            rw [hxe, hfe] at hh
            rcases hh.2.2 with h1 | h1
            ·omega
            ·exact hk3 h1.2)
           replace hfe := Lib.hid hfe; replace hxe := Lib.hid hxe
           go_wp2_with (go_at_call 29; (with_reducible refine (l01In_c _ _ _ _).mono ?_); rintro e w7 ⟨⟨hP, rfl⟩ | ⟨hP, rfl⟩, rfl⟩ <;> first | (exfalso; omega) | skip)
           go_ret
           exact ⟨isB_f hno.out, hx04.trans hext⟩
         ·have hjb : ((j : Int) != 3) = true := by simp <;> omega
          have hno := Lib.hid (show ¬ damOK k r c t v g from fun h => by
           have hh := ((damOK_iff _ _ _ _ _ _).1 h).2.2.1 j hlt
           unfold okI at hh
           rw [hxe, hfe] at hh
           rcases hh.2.2 with h1 | h1
           ·omega
           ·exact h3 h1.1)
          replace hfe := Lib.hid hfe; replace hxe := Lib.hid hxe
          go_wp2_with (go_at_call 29; (with_reducible refine (l01In_c _ _ _ _).mono ?_); rintro e w7 ⟨⟨hP, rfl⟩ | ⟨hP, rfl⟩, rfl⟩ <;> first | (exfalso; omega) | skip)
          go_ret
          exact ⟨isB_f hno.out, hx04.trans hext⟩
        ·have hnn : 0 ≤ x := by omega
         have hoj := Lib.hid (show okI k (fldB k) [r, c, t, v, g] j from by unfold okI; rw [hxe, hfe]; exact ⟨.inl rfl, hin, .inl hnn⟩)
         replace hfe := Lib.hid hfe; replace hxe := Lib.hid hxe
         go_wp2_with (go_at_call 29; (with_reducible refine (l01In_c _ _ _ _).mono ?_); rintro e w7 ⟨⟨hP, rfl⟩ | ⟨hP, rfl⟩, rfl⟩ <;> first | (exfalso; omega) | skip)
         go_roundw
         case rel => exact ⟨j + 1, by omega, by go_num, fun q hq => by
          by_cases e : q = j
          ·subst e; exact hoj.out
          ·exact hall.out q (by omega), hext⟩
         case measure => simp [intOf]; omega
       ·have hno := Lib.hid (show ¬ damOK k r c t v g from fun h => by
         have hh := ((damOK_iff _ _ _ _ _ _).1 h).2.2.1 j hlt
         unfold okI at hh
         rw [hxe, hfe] at hh
         exact hin hh.2.1)
        replace hfe := Lib.hid hfe; replace hxe := Lib.hid hxe
        go_wp2_with (go_at_call 29; (with_reducible refine (l01In_c _ _ _ _).mono ?_); rintro e w7 ⟨⟨hP, rfl⟩ | ⟨hP, rfl⟩, rfl⟩ <;> first | (exfalso; omega) | skip)
        go_ret
        exact ⟨isB_f hno.out, hx04.trans hext⟩
    ·obtain rfl : j = 4 := by omega
     have hiff : damOK k r c t v g ↔ tailOK k t v := by
      rw [damOK_iff]
      exact ⟨fun h => h.2.2.2, fun h => ⟨hk, hg, hall.out, h⟩⟩
     have hxW := hx04.trans hext
     clear hall hbk hl5 hbf4 hblL hB4
     by_cases h2 : k = 2
     ·subst h2
      by_cases ht : 1 ≤ t
      ·have hi := Lib.hid (show damOK 2 r c t v g ↔ 1 ≤ v from by rw [hiff]; unfold tailOK; omega)
       clear hiff
       go_wp2
       go_ret
       exact ⟨isB_m (by rw [hi.out]; simp), hxW⟩
      ·have hi := Lib.hid (show ¬ damOK 2 r c t v g from by rw [hiff]; unfold tailOK; omega)
       clear hiff
       go_wp2
       go_ret
       exact ⟨isB_f hi.out, hxW⟩
     by_cases h3 : k = 3
     ·subst h3
      have hi := Lib.hid (show damOK 3 r c t v g ↔ 1 ≤ t from by rw [hiff]; unfold tailOK; omega)
      clear hiff
      go_wp2
      go_ret
      exact ⟨isB_m (by rw [hi.out]; simp), hxW⟩
     by_cases h5 : k = 5
     ·subst h5
      have hi := Lib.hid (show damOK 5 r c t v g ↔ t ≤ 256 from by rw [hiff]; unfold tailOK; omega)
      clear hiff
      go_wp2
      go_ret
      exact ⟨isB_m (by rw [hi.out]; simp), hxW⟩
     ·have hi := Lib.hid (show damOK k r c t v g from by rw [hiff]; unfold tailOK; omega)
      clear hiff
      have e2 : (k == 2) = false := by simpa using h2
      have e3 : (k == 3) = false := by simpa using h3
      have e5 : (k == 5) = false := by simpa using h5
      go_wp2
      go_ret
      exact ⟨isB_t hi.out, hxW⟩
  ·have hno := Lib.hid (show ¬ damOK k r c t v g from fun h => hg ((damOK_iff _ _ _ _ _ _).1 h).2.1)
   go_enter Tryz.func166, Tryz.ntmps166
   go_wp2_with (first | (go_at_call 29; (with_reducible refine (l01In_c _ _ _ _).mono ?_); rintro e w1 ⟨⟨hP, rfl⟩ | ⟨hP, rfl⟩, rfl⟩ <;> first | (exfalso; omega) | skip) | (go_at_call 107; (with_reducible refine (sGreyD_c _ _).mono ?_); rintro e w2 ⟨⟨hP, rfl⟩ | ⟨hP, rfl⟩, rfl⟩ <;> first | (exfalso; omega) | skip))
   go_ret
   exact ⟨isB_f hno.out, hx0⟩
 ·have hno := Lib.hid (show ¬ damOK k r c t v g from fun h => hk ((damOK_iff _ _ _ _ _ _).1 h).1)
  go_enter Tryz.func166, Tryz.ntmps166
  go_wp2_with (go_at_call 29; (with_reducible refine (l01In_c _ _ _ _).mono ?_); rintro e w1 ⟨⟨hP, rfl⟩ | ⟨hP, rfl⟩, rfl⟩ <;> first | (exfalso; omega) | skip)
  go_ret
  exact ⟨isB_f hno.out, hx0⟩
end Go.Proofs.YtdnkljpnhmcnpaaGreat
