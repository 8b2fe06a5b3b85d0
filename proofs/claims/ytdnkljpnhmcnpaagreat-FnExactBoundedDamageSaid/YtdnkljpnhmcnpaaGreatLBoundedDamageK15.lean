/- The modules of a print that damages touch, the program's side. -/
import Derived.Test.YtdnkljpnhmcnpaaGreatLBoundedDamageK12
import Derived.Test.YtdnkljpnhmcnpaaGreatLBoundedDamageK13
import Derived.Test.YtdnkljpnhmcnpaaGreatLBoundedDamageK14
import Derived.Deep.DeepCutAuto
set_option linter.unusedVariables false
set_option linter.unusedSimpArgs false
namespace Go.Proofs.YtdnkljpnhmcnpaaGreat
open Go.RowKit

theorem sq_bdT {y B : Int} (h : -B ≤ y ∧ y ≤ B) : 0 ≤ y * y ∧ y * y ≤ B * B := by
 by_cases h0 : 0 ≤ y
 ·exact ⟨Int.mul_nonneg h0 h0, Int.mul_le_mul h.2 h.2 h0 (by omega)⟩
 ·have e : y * y = (-y) * (-y) := by rw [Int.neg_mul_neg]
  rw [e]
  exact ⟨Int.mul_nonneg (by omega) (by omega), Int.mul_le_mul (by omega) (by omega) (by omega) (by omega)⟩
set_option maxRecDepth 100000 in
theorem blotT_c (k r c t v g y x : Int) (W : World) (hr : 0 ≤ r ∧ r ≤ 400) (hc : 0 ≤ c ∧ c ≤ 400) (ht : 0 ≤ t ∧ t ≤ 400) (hy : 0 ≤ y ∧ y ≤ 10000) (hx : 0 ≤ x ∧ x ≤ 10000) :
  Calls Tryz.prog 182 #[vDm k r c t v g, .int .i64 y, .int .i64 x] W fun e w' => isB e ((y - r) * (y - r) + (x - c) * (x - c) ≤ t * t) ∧ Ext W w' := by
 have q1 := sq_bdT (y := y - r) (B := 10000) (by omega)
 have q2 := sq_bdT (y := x - c) (B := 10000) (by omega)
 have q3 := sq_bdT (y := t) (B := 10000) (by omega)
 have e1 := IntWalk.i64_in (y - r) (by omega)
 have e2 := IntWalk.i64_in (x - c) (by omega)
 have hxa : Ext W (W.alloc (.cells #[.int .i64 k, .int .i64 r, .int .i64 c, .int .i64 t, .int .i64 v, .int .i64 g] 211)) := (Ext.refl W).alloc _
 have hB := Blk.new W #[.int .i64 k, .int .i64 r, .int .i64 c, .int .i64 t, .int .i64 v, .int .i64 g] 211
 have c1 := hB.cell (i := 1) (v := .int .i64 r) rfl; have c2 := hB.cell (i := 2) (v := .int .i64 c) rfl; have c3 := hB.cell (i := 3) (v := .int .i64 t) rfl; have cL := hB.lt
 go_enter Tryz.func182, Tryz.ntmps182
 go_wp2
 go_quiet (fail)
 have hBq := hB.drewN nq
 have hxq := hxa.drewN nq
 have d3 := hBq.cell (i := 3) (v := .int .i64 t) rfl; have dL := hBq.lt
 clear c1 c2 c3 cL
 generalize (W.alloc (.cells #[.int .i64 k, .int .i64 r, .int .i64 c, .int .i64 t, .int .i64 v, .int .i64 g] 211)).drewN nq = wq at *
 go_wp2
 go_ret
 exact ⟨isB_m (by simp), hxq⟩
set_option maxRecDepth 100000 in
theorem scratchT_c (k r c t v g y x : Int) (W : World) (hr : 0 ≤ r ∧ r ≤ 400) (hc : 0 ≤ c ∧ c ≤ 400) (ht : 0 ≤ t ∧ t ≤ 400) (hv : 0 ≤ v ∧ v ≤ 400) :
  Calls Tryz.prog 183 #[vDm k r c t v g, .int .i64 y, .int .i64 x] W fun e w' => isB e ((r ≤ y ∧ y ≤ r + t - 1) ∧ (c ≤ x ∧ x ≤ c + v - 1)) ∧ Ext W w' := by
 go_enter Tryz.func183, Tryz.ntmps183
 go_wp2_with (go_at_call 35; (with_reducible refine (inRange_c _ _ _ _).mono ?_); rintro e w1 ⟨⟨hP, rfl⟩ | ⟨hP, rfl⟩, rfl⟩)
 all_goals go_ret
 all_goals first
  | exact ⟨isB_t (by omega), eX⟩
  | exact ⟨isB_f (by omega), eX⟩
  | exact ⟨isB_m (by simp; omega), eX⟩
def fnV (d : Dam) : Value := if d.k = 1 then .func (.func 182) #[vDm d.k d.r d.c d.t d.w d.g] #[] else .func (.func 183) #[vDm d.k d.r d.c d.t d.w d.g] #[]
def fnF (d : Dam) : List Value := [fnV d]
set_option maxHeartbeats 800000 in
set_option maxRecDepth 100000 in
theorem touching_c (k r c t v g : Int) (W : World) :
  Calls Tryz.prog 126 #[vDm k r c t v g] W fun e w' => ((lclOK ⟨k, r, c, t, v, g⟩ ∧ e = .returned (.tuple #[fnV ⟨k, r, c, t, v, g⟩, .bool true])) ∨ (¬ lclOK ⟨k, r, c, t, v, g⟩ ∧ e = .returned (.tuple #[.nilFunc, .bool false]))) ∧ Ext W w' := by
 have hi := Lib.hid (fun W => iIsDamage_c k r c t v g W)
 have hB := Blk.new W #[.int .i64 k, .int .i64 r, .int .i64 c, .int .i64 t, .int .i64 v, .int .i64 g] 104
 have hx0 : Ext W (W.alloc (.cells #[.int .i64 k, .int .i64 r, .int .i64 c, .int .i64 t, .int .i64 v, .int .i64 g] 104)) := (Ext.refl W).alloc _
 have hmf : ∀ (fn : Fn) (first cap : Array Value) (w : World), (Instr.makeFunc fn first cap).run Tryz.prog w = .ok (.func fn first cap) w := fun _ _ _ _ => rfl
 have hd : ∀ P : Prop, (damOK k r c t v g ↔ P) → (lclOK ⟨k, r, c, t, v, g⟩ ↔ P ∧ (k = 1 ∨ k = 2)) := fun P h => by unfold lclOK dOK; simp only; rw [h]
 obtain ⟨D, hD⟩ : ∃ D, damOK k r c t v g = D := ⟨_, rfl⟩
 replace hd := hd D (by rw [hD])
 rw [hD] at hi
 clear hD
 replace hd := Lib.hid hd
 have hfn := Lib.hid (show fnV ⟨k, r, c, t, v, g⟩ = if k = 1 then .func (.func 182) #[vDm k r c t v g] #[] else .func (.func 183) #[vDm k r c t v g] #[] from rfl)
 generalize fnV ⟨k, r, c, t, v, g⟩ = FV at *
 generalize lclOK ⟨k, r, c, t, v, g⟩ = LP at *
 by_cases h1 : k = 1
 ·subst h1
  go_enter Tryz.func126, Tryz.ntmps126
  go_wp2_with (go_at_call 181; (with_reducible refine (hi.out _).mono ?_); rintro e w1 ⟨⟨hP, rfl⟩ | ⟨hP, rfl⟩, hx1⟩ <;> (have hb1 := hB.ext hx1; obtain ⟨c0, c1, c2, c3, c4, c5⟩ := hb1.c6; have cL := hb1.lt))
  ·go_ret2
   exact ⟨.inl ⟨hd.out.2 ⟨hP, by simp⟩, by rw [hfn.out]; rfl⟩, eX⟩
  ·go_ret2
   exact ⟨.inr ⟨fun h => hP (hd.out.1 h).1, rfl⟩, eX⟩
 by_cases h2 : k = 2
 ·subst h2
  go_enter Tryz.func126, Tryz.ntmps126
  go_wp2_with (go_at_call 181; (with_reducible refine (hi.out _).mono ?_); rintro e w1 ⟨⟨hP, rfl⟩ | ⟨hP, rfl⟩, hx1⟩ <;> (have hb1 := hB.ext hx1; obtain ⟨c0, c1, c2, c3, c4, c5⟩ := hb1.c6; have cL := hb1.lt))
  ·go_ret2
   exact ⟨.inl ⟨hd.out.2 ⟨hP, by simp⟩, by rw [hfn.out]; rfl⟩, eX⟩
  ·go_ret2
   exact ⟨.inr ⟨fun h => hP (hd.out.1 h).1, rfl⟩, eX⟩
 have hno : ¬ LP := fun h => by have := (hd.out.1 h).2; omega
 replace hno := Lib.hid hno
 go_enter Tryz.func126, Tryz.ntmps126
 go_wp2_with (go_at_call 181; (with_reducible refine (hi.out _).mono ?_); rintro e w1 ⟨⟨hP, rfl⟩ | ⟨hP, rfl⟩, hx1⟩ <;> (have hb1 := hB.ext hx1; obtain ⟨c0, c1, c2, c3, c4, c5⟩ := hb1.c6; have cL := hb1.lt))
 all_goals go_ret2
 all_goals exact ⟨.inr ⟨hno.out, rfl⟩, eX⟩
open Classical in
noncomputable def tmC (p t q b d l : Int) (R C : Nat) (ds : List Dam) : Int :=
 if (psR R C p t q b d l).2.2 = 0 then if ds.length ≤ 20 then if ∀ i (h : i < ds.length), lclOK (ds[i]'h) then 0 else 5 else 3 else (psR R C p t q b d l).2.2
theorem tmC_1 {p t q b d l : Int} {R C : Nat} {ds : List Dam} (h : ¬ (psR R C p t q b d l).2.2 = 0) : tmC p t q b d l R C ds = (psR R C p t q b d l).2.2 := if_neg h
theorem tmC_2 {p t q b d l : Int} {R C : Nat} {ds : List Dam} (h : (psR R C p t q b d l).2.2 = 0) (h2 : ¬ ds.length ≤ 20) : tmC p t q b d l R C ds = 3 := by unfold tmC; rw [if_pos h, if_neg h2]
theorem tmC_3 {p t q b d l : Int} {R C : Nat} {ds : List Dam} (h : (psR R C p t q b d l).2.2 = 0) (h2 : ds.length ≤ 20) (h3 : ¬ ∀ i (h : i < ds.length), lclOK (ds[i]'h)) : tmC p t q b d l R C ds = 5 := by unfold tmC; rw [if_pos h, if_pos h2, if_neg h3]
theorem tmC_0 {p t q b d l : Int} {R C : Nat} {ds : List Dam} (h : (psR R C p t q b d l).2.2 = 0) (h2 : ds.length ≤ 20) (h3 : ∀ i (h : i < ds.length), lclOK (ds[i]'h)) : tmC p t q b d l R C ds = 0 := by unfold tmC; rw [if_pos h, if_pos h2, if_pos h3]
def TmR (p t q b d l : Int) (R C : Nat) (ds : List Dam) (B : Nat) (e : Ending) (w' : World) : Prop :=
 (tmC p t q b d l R C ds = 0 ∧ ∃ v, e = .returned (.tuple #[v, .int .i64 0]) ∧ RowP B w' v (tmTo p t q ds C (R * C))) ∨ (tmC p t q b d l R C ds ≠ 0 ∧ e = .returned (.tuple #[.slice none 0 0, .int .i64 (tmC p t q b d l R C ds)]))
theorem psR_0 {p t q b d l : Int} {R C : Nat} (h : (psR R C p t q b d l).2.2 = 0) : IsPrint p t q b d l ∧ psIn R C := by
 unfold psR at h
 by_cases h1 : IsPrint p t q b d l
 ·rw [if_neg (not_not_intro h1)] at h
  by_cases h2 : psIn R C
  ·exact ⟨h1, h2⟩
  ·rw [if_pos h2] at h; exact absurd h (by simp)
 ·rw [if_pos h1] at h; exact absurd h (by simp)
theorem fnF_len (d : Dam) : (fnF d).length = 1 := rfl
theorem fnF_one (d : Dam) : ∀ u ∈ fnF d, u.oneCell' = true := by
 intro u hu
 simp only [fnF, List.mem_singleton] at hu
 subst hu
 unfold fnV
 split <;> rfl
theorem SAt.oneT {α : Type} {f : α → List Value} {w : World} {p : Option Addr} {xs : List α} (h : SAt f 1 w p xs) {i : Nat} (hi : i < xs.length) {u0 : Value} (hf : f (xs[i]'hi) = [u0]) :
  ∃ b o, p = some ⟨b, o, none⟩ ∧ b < w.heap.size ∧ w.cell? ⟨b, o + i, none⟩ = some u0 := by
 obtain ⟨b, o, e, hb, hc⟩ := h i hi
 refine ⟨b, o, e, hb, ?_⟩
 have := hc 0 u0 (by rw [hf]; rfl)
 rwa [Nat.mul_one, Nat.add_zero] at this
theorem lcl_bd {d : Dam} (h : lclOK d) : (0 ≤ d.r ∧ d.r ≤ 400) ∧ (0 ≤ d.c ∧ d.c ≤ 400) ∧ (0 ≤ d.t ∧ d.t ≤ 400) ∧ (0 ≤ d.w ∧ d.w ≤ 400) := by
 obtain ⟨⟨h1, -⟩, h2⟩ := h
 unfold blotOK scratchOK skewOK noiseOK fadeOK at h1
 omega
theorem lin_bd {r q t : Int} (h : 0 ≤ r ∧ r ≤ 400) (hq : 0 ≤ q ∧ q ≤ 16) (ht : 1 ≤ t ∧ t ≤ 12) : 0 ≤ (r + q) * t ∧ (r + q) * t ≤ 4992 := by
 constructor
 ·exact Int.mul_nonneg (by omega) (by omega)
 ·have := Int.mul_le_mul (show r + q ≤ 416 by omega) ht.2 (by omega) (by omega)
  omega
theorem take_stepT {α : Type} {xs : List α} {k : Nat} (h : k < xs.length) : xs.take (k + 1) = xs.take k ++ [xs[k]'h] := by
 rw [List.take_add_one, List.getElem?_eq_getElem h]; rfl
set_option maxHeartbeats 3200000 in
set_option maxRecDepth 100000 in
theorem iTouched_c (p t q b d l : Int) (R C : Nat) (pd : Option Addr) (cd : Nat) (ds : List Dam) (w : World) (hx : SAt fD 6 w pd ds) (hl : ds.length ≤ 1048576) :
  Calls Tryz.prog 64 #[.slice pd ds.length cd, vPrint p t q b d l, .int .i64 R, .int .i64 C] w fun e w' => TmR p t q b d l R C ds w.heap.size e w' ∧ Ext w w' := by
 have HX := Lib.hid hx; clear hx
 have hps := Lib.hid (fun W => iPrintSize_c R C p t q b d l W)
 have hB := Blk.new w #[.int .i64 p, .int .i64 t, .int .i64 q, .int .i64 b, .int .i64 d, .int .i64 l] 57
 have hx0 : Ext w (w.alloc (.cells #[.int .i64 p, .int .i64 t, .int .i64 q, .int .i64 b, .int .i64 d, .int .i64 l] 57)) := (Ext.refl w).alloc _
 by_cases h0 : ¬ (psR R C p t q b d l).2.2 = 0
 ·have hc := tmC_1 (ds := ds) h0
  unfold TmR
  rw [hc]
  clear hc
  generalize psR R C p t q b d l = PS at *
  obtain ⟨P1, P2, P3⟩ := PS
  simp only at h0 hps ⊢
  go_enter Tryz.func64, Tryz.ntmps64
  go_wp2_with (go_at_call 125; (with_reducible refine (hps.out _).mono ?_); rintro e w1 ⟨rfl, hx1⟩)
  go_ret2
  exact ⟨.inr ⟨h0, rfl⟩, eX⟩
 replace h0 := Classical.not_not.1 h0
 by_cases h20 : ¬ ds.length ≤ 20
 ·have hc := tmC_2 h0 h20
  unfold TmR
  rw [hc]
  clear hc
  generalize psR R C p t q b d l = PS at *
  obtain ⟨P1, P2, P3⟩ := PS
  simp only at h0 hps ⊢
  subst h0
  have h20i : (20 : Int) < ds.length := by omega
  go_enter Tryz.func64, Tryz.ntmps64
  go_wp2_with (go_at_call 125; (with_reducible refine (hps.out _).mono ?_); rintro e w1 ⟨rfl, hx1⟩)
  go_ret2
  exact ⟨.inr ⟨by decide, rfl⟩, eX⟩
 replace h20 := Classical.not_not.1 h20
 have h20i : ¬ (20 : Int) < ds.length := by omega
 obtain ⟨hpr, hR, hC⟩ := psR_0 h0
 obtain ⟨hp1, ht1, hq1, -, -⟩ := hpr
 have hc3 := Lib.hid (fun h3 => tmC_3 (p := p) (t := t) (q := q) (b := b) (d := d) (l := l) (R := R) (C := C) (ds := ds) h0 h20 h3)
 have hc0 := Lib.hid (fun h3 => tmC_0 (p := p) (t := t) (q := q) (b := b) (d := d) (l := l) (R := R) (C := C) (ds := ds) h0 h20 h3)
 have hT := Lib.hid (show ∀ B e w', TmR p t q b d l R C ds B e w' ↔ (tmC p t q b d l R C ds = 0 ∧ ∃ v, e = .returned (.tuple #[v, .int .i64 0]) ∧ RowP B w' v (tmTo p t q ds C (R * C))) ∨ (tmC p t q b d l R C ds ≠ 0 ∧ e = .returned (.tuple #[.slice none 0 0, .int .i64 (tmC p t q b d l R C ds)])) from fun B e w' => Iff.rfl)
 generalize TmR p t q b d l R C ds = TR at *
 generalize tmC p t q b d l R C ds = cc at *
 have hty : ∀ i (h : i < ds.length), ∀ W, Calls Tryz.prog 126 #[vDm (ds[i]'h).k (ds[i]'h).r (ds[i]'h).c (ds[i]'h).t (ds[i]'h).w (ds[i]'h).g] W fun e w' => ((lclOK (ds[i]'h) ∧ e = .returned (.tuple #[fnV (ds[i]'h), .bool true])) ∨ (¬ lclOK (ds[i]'h) ∧ e = .returned (.tuple #[.nilFunc, .bool false]))) ∧ Ext W w' := fun i h W => touching_c _ _ _ _ _ _ W
 replace hty := Lib.hid hty
 generalize psR R C p t q b d l = PS at *
 obtain ⟨P1, P2, P3⟩ := PS
 simp only at h0 hps
 subst h0
 go_enter Tryz.func64, Tryz.ntmps64
 go_upto_region 8 with (go_at_call 125; go_loud ((with_reducible refine (hps.out _).mono ?_); rintro e w1 ⟨rfl, hx1⟩))
 have hB1 := hB.ext hx1
 have hxw1 := hx0.trans hx1
 have hx12 : Ext w1 (w1.alloc (.cells #[] 166)) := (Ext.refl w1).alloc _
 have hr2 := RowS.made (f := fnF) (k := 1) 166 (B := w1.heap.size) (w := w1) (Nat.le_refl _)
 clear hB hx0 hx1
 generalize w1.alloc (.cells #[] 166) = w2 at *
 generalize Value.slice (some ⟨w1.heap.size, 0, none⟩) 0 0 = v0 at *
 obtain ⟨B1, hB1E⟩ : ∃ g, w1.heap.size = g := ⟨_, rfl⟩
 rw [hB1E] at hr2
 replace hB1E := Lib.hid hB1E
 have infoFn : (Tryz.prog.info? 166).map (fun i => (i.zero, i.size, i.bytes)) = some (some .nilFunc, 1, 8) := by kernel_rfl
 replace infoFn := Lib.hid infoFn
 clear hps
 go_loopw [13, 42] (fun v i wr => ∃ k : Nat, k ≤ ds.length ∧ i = .int .i64 k ∧ RowS 166 fnF 1 B1 wr v (ds.take k) ∧ (∀ j (h : j < ds.length), j < k → lclOK (ds[j]'h)) ∧ Ext w1 wr) (fun _ i _ => ds.length - (intOf i).toNat)
 case atStart => exact ⟨0, Nat.zero_le _, rfl, hr2, fun j _ h => absurd h (Nat.not_lt_zero j), hx12⟩
 case round =>
  obtain ⟨k, hk, rfl, hrow, hall, hext⟩ := hrel
  clear hr2 hx12
  replace hall := Lib.hid hall
  have hB2 := hB1.ext hext
  by_cases hlt : k < ds.length
  ·obtain ⟨b', o', rfl, hbl, y⟩ := (HX.out.ext (hxw1.trans hext)) k hlt
   have htk := Lib.hid (take_stepT (xs := ds) hlt)
   have hty1 := Lib.hid (hty.out k hlt)
   have hlm : (ds.take k).length ≤ 20 := by rw [List.length_take]; omega
   generalize ds.take k = TK at *
   obtain ⟨X, hX⟩ : ∃ X, ds[k]'hlt = X := ⟨_, rfl⟩
   rw [hX] at y hty1 htk
   have hnew : lclOK X → ∀ j (h : j < ds.length), j < k + 1 → lclOK (ds[j]'h) := fun h0 j h hj => by
    by_cases hjk : j = k
    ·subst hjk; rw [hX]; exact h0
    ·exact hall.out j h (by omega)
   have hbad : ¬ lclOK X → ¬ ∀ j (h : j < ds.length), lclOK (ds[j]'h) := fun h0 h => h0 (by rw [← hX]; exact h k hlt)
   replace hnew := Lib.hid hnew; replace hbad := Lib.hid hbad
   clear hX
   generalize lclOK X = LX at *
   obtain ⟨fn1, fn2, fn3, hFX⟩ : ∃ a b c, fnV X = .func a b c := by unfold fnV; split <;> exact ⟨_, _, _, rfl⟩
   rw [hFX] at hty1
   replace hFX := Lib.hid hFX
   obtain ⟨k1, r1, c1, t1, v1, g1⟩ := X
   simp only at hty1
   have y0 : wr.cell? ⟨b', o' + k * 6, none⟩ = some (.int .i64 k1) := y 0 _ rfl
   have y1 : wr.cell? ⟨b', o' + k * 6 + 1, none⟩ = some (.int .i64 r1) := y 1 _ rfl
   have y2 : wr.cell? ⟨b', o' + k * 6 + 2, none⟩ = some (.int .i64 c1) := y 2 _ rfl
   have y3 : wr.cell? ⟨b', o' + k * 6 + 3, none⟩ = some (.int .i64 t1) := y 3 _ rfl
   have y4 : wr.cell? ⟨b', o' + k * 6 + 4, none⟩ = some (.int .i64 v1) := y 4 _ rfl
   have y5 : wr.cell? ⟨b', o' + k * 6 + 5, none⟩ = some (.int .i64 g1) := y 5 _ rfl
   clear y
   have hlti : (k : Int) < ds.length := by omega
   go_upto_region 11 with (go_at_call 126; go_loud ((with_reducible refine (hty1.out _).mono ?_); rintro e w3 ⟨⟨hP, rfl⟩ | ⟨hP, rfl⟩, hx3⟩))
   ·have hrow3 := (hrow.ext ((Ext.refl wr).alloc (.cells #[.int .i64 k1, .int .i64 r1, .int .i64 c1, .int .i64 t1, .int .i64 v1, .int .i64 g1] 104))).ext hx3
    have hz3 := (hrow3.lt)
    have hx4 := (hext.trans ((Ext.refl wr).alloc (.cells #[.int .i64 k1, .int .i64 r1, .int .i64 c1, .int .i64 t1, .int .i64 v1, .int .i64 g1] 104))).trans hx3
    have hBz : B1 ≤ w3.heap.size := by have := hx4.below.size; have := hB1E.out; omega
    go_wp2_with (at_builtin; go_loud (refine appendSG (f := fnF) (k := 1) (ns := [⟨k1, r1, c1, t1, v1, g1⟩]) Tryz.underlying165 infoFn.out rfl (by omega) (by omega) fnF_len fnF_one 1 rfl hrow3 (by omega) hBz (by simp only [List.flatMap_cons, List.flatMap_nil, List.append_nil, fnF]; rw [hFX.out]) ?_ rfl rfl); intro v5 w5 hr5 hg5)
    go_roundw
    case rel => exact ⟨k + 1, hlt, by go_num, by rw [htk.out]; exact hr5, hnew.out hP, hg5.toExt hx4 (fun k hk => by rw [hB1E.out]; exact (hrow3.lt k hk).1)⟩
    case measure => simp [intOf]; omega
   ·go_wp2
    go_ret2
    have h5 := hc3.out (hbad.out hP)
    exact ⟨(hT.out _ _ _).2 (.inr ⟨by rw [h5]; decide, by rw [h5]; rfl⟩), eX⟩
  ·obtain rfl : k = ds.length := by omega
   have hcc := hc0.out fun j h => hall.out j h h
   rw [List.take_length] at hrow
   subst hcc
   obtain ⟨pt, ct, rfl, hown⟩ := hrow.own fnF_len
   have hfn := Lib.hid hown.sat
   replace hall := Lib.hid (fun j h => hall.out j h h)
   obtain ⟨wb, rfl⟩ : ∃ wb : World, wb = wr := ⟨_, rfl⟩
   clear hrow hown hty
   have hxb := hxw1.trans hext
   go_upto_region 17 with (fail)
   have hrO := RowS.made (f := plF) (k := 2) 121 (B := wb.heap.size) (w := wb) (Nat.le_refl _)
   have hxO : Ext wb (wb.alloc (.cells #[] 121)) := (Ext.refl wb).alloc _
   generalize wb.alloc (.cells #[] 121) = w4 at *
   generalize Value.slice (some ⟨wb.heap.size, 0, none⟩) 0 0 = v1 at *
   obtain ⟨B2, hB2E⟩ : ∃ g, wb.heap.size = g := ⟨_, rfl⟩
   rw [hB2E] at hrO
   replace hB2E := Lib.hid hB2E
   go_loopw [18, 19] (fun o i wr => ∃ r : Nat, r ≤ R ∧ i = .int .i64 r ∧ RowP B2 wr o (tmTo p t q ds C (r * C)) ∧ Ext wb wr) (fun _ i _ => R - (intOf i).toNat)
   case atStart => exact ⟨0, Nat.zero_le _, rfl, by rw [Nat.zero_mul]; exact hrO, hxO⟩
   case round =>
    clear hrO hxO
    obtain ⟨r, hr, rfl, hrow2, hext2⟩ := hrel
    by_cases hlr : r < R
    ·have hri : (r : Int) < R := by omega
     have hr4 : (r : Int) ≤ 400 := by omega
     have hnx : tmTo p t q ds C ((r + 1) * C) = tmTo p t q ds C (r * C + C) := by rw [Nat.add_mul, Nat.one_mul]
     replace hnx := Lib.hid hnx
     obtain ⟨wo, rfl⟩ : ∃ wo : World, wo = wr := ⟨_, rfl⟩
     go_wp2_with fail
     go_loopw [18, 20] (fun o i wr => ∃ c : Nat, c ≤ C ∧ i = .int .i64 c ∧ RowP B2 wr o (tmTo p t q ds C (r * C + c)) ∧ Ext wb wr) (fun _ i _ => C - (intOf i).toNat)
     case atStart => exact ⟨0, Nat.zero_le _, rfl, by rw [Nat.add_zero]; exact hrow2, hext2⟩
     case round =>
      clear hrow2 hext2
      obtain ⟨c, hc, rfl, hrow3, hext3⟩ := hrel
      by_cases hlc : c < C
      ·have hci : (c : Int) < C := by omega
       have hc4 : (c : Int) ≤ 400 := by omega
       have htm := Lib.hid (show (tmHit p t q ds r c → tmTo p t q ds C (r * C + (c + 1)) = tmTo p t q ds C (r * C + c) ++ [((r : Int), (c : Int))]) ∧ (¬ tmHit p t q ds r c → tmTo p t q ds C (r * C + (c + 1)) = tmTo p t q ds C (r * C + c)) from ⟨fun h => tm_yes hlc h, fun h => tm_no hlc h⟩)
       have hln := tm_len p t q ds C (r * C + c)
       have hrC : r * C + c ≤ 160400 := by have := Nat.mul_le_mul (show r ≤ 400 by omega) (show C ≤ 400 by omega); omega
       have hhit := Lib.hid (show tmHit p t q ds r c ↔ ∃ d ∈ ds, tchD d (((r : Int) + q) * t + t / 2) (((c : Int) + q) * p + p / 2) from Iff.rfl)
       generalize tmHit p t q ds r c = HIT at *
       generalize tmTo p t q ds C (r * C + c) = TL at *
       have k1 := lin_bd (r := r) (q := q) (t := t) (by omega) hq1 ht1
       have k2 := lin_bd (r := c) (q := q) (t := p) (by omega) hq1 hp1
       have hBr := hB1.ext (hext.trans hext3)
       have b1 := hBr.cell (i := 1) (v := .int .i64 t) rfl; have b0 := hBr.cell (i := 0) (v := .int .i64 p) rfl; have b2 := hBr.cell (i := 2) (v := .int .i64 q) rfl; have bL := hBr.lt
       go_upto_region 22 with (fail)
       go_quiet (fail)
       have hxq := hext3.drewN nq
       have hrowq := hrow3.ext ((Ext.refl wr).drewN nq)
       clear b0 b1 b2 bL hBr hrow3 hext3
       generalize wr.drewN nq = wq at *
       obtain ⟨Y, hY⟩ : ∃ Y, ((r : Int) + q) * t + t / 2 = Y := ⟨_, rfl⟩
       obtain ⟨X, hX⟩ : ∃ X, ((c : Int) + q) * p + p / 2 = X := ⟨_, rfl⟩
       have hYb : 0 ≤ Y ∧ Y ≤ 10000 := by omega
       have hXb : 0 ≤ X ∧ X ≤ 10000 := by omega
       rw [hY, hX] at hhit
       rw [hY, hX]
       clear hY hX k1 k2
       have hyes0 : ∀ j (h : j < ds.length), tchD (ds[j]'h) Y X → HIT := fun j h h2 => hhit.out.2 ⟨_, List.getElem_mem h, h2⟩
       have hno0 : (∀ j (h : j < ds.length), ¬ tchD (ds[j]'h) Y X) → ¬ HIT := fun h h2 => by
        obtain ⟨d, hd, h3⟩ := hhit.out.1 h2
        obtain ⟨j, hj, rfl⟩ := List.getElem_of_mem hd
        exact h j hj h3
       replace hyes0 := Lib.hid hyes0; replace hno0 := Lib.hid hno0
       clear hhit
       go_wp2_with fail
       go_loopw [18, 93] (fun o i wr => ∃ j : Nat, j ≤ ds.length ∧ i = .int .i64 j ∧ RowP B2 wr o TL ∧ Hid (∀ m (h : m < ds.length), m < j → ¬ tchD (ds[m]'h) Y X) ∧ Ext wq wr) (fun _ i _ => ds.length - (intOf i).toNat)
       case atStart => exact ⟨0, Nat.zero_le _, rfl, hrowq, Lib.hid (fun m _ h => absurd h (Nat.not_lt_zero m)), Ext.refl _⟩
       case round =>
        clear hrowq
        obtain ⟨j, hj, rfl, hrow4, hnone, hext4⟩ := hrel
        have hx4 := hxq.trans hext4
        by_cases hlj : j < ds.length
        ·have hji : (j : Int) < ds.length := by omega
         obtain ⟨bt, ot, rfl, hbt, z0⟩ := (hfn.out.ext hx4).oneT (i := j) hlj (u0 := fnV (ds[j]'hlj)) rfl
         have hlo := hall.out j hlj
         have hyes := hyes0.out j hlj
         have hstep : ¬ tchD (ds[j]'hlj) Y X → Hid (∀ m (h : m < ds.length), m < j + 1 → ¬ tchD (ds[m]'h) Y X) := fun h0 => Lib.hid fun m h hm => by
          by_cases e : m = j
          ·subst e; exact h0
          ·exact hnone.out m h (by omega)
         generalize ds[j]'hlj = XX at *
         obtain ⟨hb1, hb2, hb3, hb4⟩ := lcl_bd hlo
         have hkk := hlo.2
         obtain ⟨k1, r1, c1, t1, v1, g1⟩ := XX
         simp only at hb1 hb2 hb3 hb4 hkk
         clear hlo
         replace hyes := Lib.hid hyes; replace hstep := Lib.hid hstep
         rcases hkk with hk1 | hk1
         ·have hfv : fnV ⟨k1, r1, c1, t1, v1, g1⟩ = .func (.func 182) #[vDm k1 r1 c1 t1 v1 g1] #[] := if_pos hk1
          have htc : tchD ⟨k1, r1, c1, t1, v1, g1⟩ Y X ↔ ((Y - r1) * (Y - r1) + (X - c1) * (X - c1) ≤ t1 * t1) := by unfold tchD tch; simp [hk1]
          rw [hfv] at z0
          replace htc := Lib.hid htc
          clear hfv
          generalize tchD ⟨k1, r1, c1, t1, v1, g1⟩ Y X = TD at *
          have hct := Lib.hid (fun W => blotT_c k1 r1 c1 t1 v1 g1 Y X W hb1 hb2 hb3 hYb hXb)
          replace hk1 := Lib.hid hk1
          go_upto_if 100 with (go_at_call 182; (with_reducible refine (hct.out _).mono ?_); rintro e w7 ⟨⟨hP, rfl⟩ | ⟨hP, rfl⟩, hx7⟩)
          ·have hrow7 := hrow4.ext hx7
           have hx8 := (hx4.trans hx7)
           have hz8 := hx8.below.size
           go_wp2_with (at_builtin; go_loud (refine appendSG (ns := [((r : Int), (c : Int))]) Tryz.underlying84 infoPl rfl (by omega) (by omega) plF_len plF_one 1 rfl hrow7 (by omega) (by have := hB2E.out; omega) rfl ?_ rfl rfl); intro v9 w9 hr9 hg9)
           go_roundw
           case rel => exact ⟨c + 1, hlc, by go_num, by rw [htm.out.1 (hyes.out (htc.out.2 hP))]; exact hr9, hg9.toExt hx8 (fun k hk => by rw [hB2E.out]; exact (hrow7.lt k hk).1)⟩
           case measure => simp [intOf]; omega
          ·have hno2 : ¬ TD := fun h => absurd (htc.out.1 h) (by first | exact hP | exact Int.not_le.2 hP | omega)
           replace hno2 := Lib.hid hno2
           go_wp2
           go_roundw
           case rel => exact ⟨j + 1, hlj, by go_num, hrow4.ext hx7, hstep.out hno2.out, hext4.trans hx7⟩
           case measure => simp [intOf]; omega
         ·have hfv : fnV ⟨k1, r1, c1, t1, v1, g1⟩ = .func (.func 183) #[vDm k1 r1 c1 t1 v1 g1] #[] := if_neg (by simp only; omega)
          have htc : tchD ⟨k1, r1, c1, t1, v1, g1⟩ Y X ↔ ((r1 ≤ Y ∧ Y ≤ r1 + t1 - 1) ∧ (c1 ≤ X ∧ X ≤ c1 + v1 - 1)) := by unfold tchD tch; simp [hk1]
          rw [hfv] at z0
          replace htc := Lib.hid htc
          clear hfv
          generalize tchD ⟨k1, r1, c1, t1, v1, g1⟩ Y X = TD at *
          have hct := Lib.hid (fun W => scratchT_c k1 r1 c1 t1 v1 g1 Y X W hb1 hb2 hb3 hb4)
          replace hk1 := Lib.hid hk1
          go_upto_if 100 with (go_at_call 183; (with_reducible refine (hct.out _).mono ?_); rintro e w7 ⟨⟨hP, rfl⟩ | ⟨hP, rfl⟩, hx7⟩)
          ·have hrow7 := hrow4.ext hx7
           have hx8 := (hx4.trans hx7)
           have hz8 := hx8.below.size
           go_wp2_with (at_builtin; go_loud (refine appendSG (ns := [((r : Int), (c : Int))]) Tryz.underlying84 infoPl rfl (by omega) (by omega) plF_len plF_one 1 rfl hrow7 (by omega) (by have := hB2E.out; omega) rfl ?_ rfl rfl); intro v9 w9 hr9 hg9)
           go_roundw
           case rel => exact ⟨c + 1, hlc, by go_num, by rw [htm.out.1 (hyes.out (htc.out.2 hP))]; exact hr9, hg9.toExt hx8 (fun k hk => by rw [hB2E.out]; exact (hrow7.lt k hk).1)⟩
           case measure => simp [intOf]; omega
          ·have hno2 : ¬ TD := fun h => absurd (htc.out.1 h) (by first | exact hP | exact Int.not_le.2 hP | omega)
           replace hno2 := Lib.hid hno2
           go_wp2
           go_roundw
           case rel => exact ⟨j + 1, hlj, by go_num, hrow4.ext hx7, hstep.out hno2.out, hext4.trans hx7⟩
           case measure => simp [intOf]; omega
        ·obtain rfl : j = ds.length := by omega
         have hnn := hno0.out fun m h => hnone.out m h h
         go_wp2
         go_roundw
         case rel => exact ⟨c + 1, hlc, by go_num, by rw [htm.out.2 hnn]; exact hrow4, hx4⟩
         case measure => simp [intOf]; omega
      ·obtain rfl : c = C := by omega
       go_wp2
       go_roundw
       case rel => exact ⟨r + 1, hlr, by go_num, by rw [hnx.out]; exact hrow3, hext3⟩
       case measure => simp [intOf]; omega
    ·obtain rfl : r = R := by omega
     go_wp2
     go_ret2
     exact ⟨(hT.out _ _ _).2 (.inl ⟨by simp, _, rfl, hrow2.mono (by have := hB2E.out; have := hxb.below.size; omega)⟩), hxb.trans hext2⟩
end Go.Proofs.YtdnkljpnhmcnpaaGreat
