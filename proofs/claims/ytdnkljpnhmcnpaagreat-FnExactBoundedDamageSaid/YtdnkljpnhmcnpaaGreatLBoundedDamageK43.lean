/- The modules of a print that damages touch, the reference's side. -/
import Derived.Test.YtdnkljpnhmcnpaaGreatLBoundedDamageK15
import Derived.Test.YtdnkljpnhmcnpaaGreatLBoundedDamageK42
set_option linter.unusedVariables false
set_option linter.unusedSimpArgs false
namespace Go.Proofs.YtdnkljpnhmcnpaaGreat
open Go.RowKit

set_option maxRecDepth 100000 in
theorem l27Touches_c (k r c t v g y x : Int) (W : World) (hr : 0 ≤ r ∧ r ≤ 400) (hc : 0 ≤ c ∧ c ≤ 400) (ht : 0 ≤ t ∧ t ≤ 400) (hv : 0 ≤ v ∧ v ≤ 400) (hy : 0 ≤ y ∧ y ≤ 10000) (hx : 0 ≤ x ∧ x ≤ 10000) :
  Calls Tryz.prog 113 #[vDm k r c t v g, .int .i64 y, .int .i64 x] W fun e w' => isB e (tch k r c t v y x) ∧ Ext W w' := by
 have hxa : Ext W (W.alloc (.cells #[.int .i64 k, .int .i64 r, .int .i64 c, .int .i64 t, .int .i64 v, .int .i64 g] 104)) := (Ext.refl W).alloc _
 by_cases h1 : k = 1
 ·subst h1
  have hT : tch 1 r c t v y x ↔ (y - r) * (y - r) + (x - c) * (x - c) ≤ t * t := by unfold tch; simp
  replace hT := Lib.hid hT
  generalize tch 1 r c t v y x = TP at *
  have q1 := sq_bdT (y := y - r) (B := 10000) (by omega)
  have q2 := sq_bdT (y := x - c) (B := 10000) (by omega)
  have q3 := sq_bdT (y := t) (B := 10000) (by omega)
  have e1 := IntWalk.i64_in (y - r) (by omega)
  have e2 := IntWalk.i64_in (x - c) (by omega)
  go_enter Tryz.func113, Tryz.ntmps113
  go_wp2
  go_ret
  exact ⟨isB_m (by rw [hT.out]; simp), by first | exact hxa | exact eX⟩
 ·have hT : tch k r c t v y x ↔ (r ≤ y ∧ y ≤ r + t - 1) ∧ (c ≤ x ∧ x ≤ c + v - 1) := by unfold tch; simp [h1]
  replace hT := Lib.hid hT
  generalize tch k r c t v y x = TP at *
  go_enter Tryz.func113, Tryz.ntmps113
  go_wp2_with (go_at_call 29; (with_reducible refine (l01In_c _ _ _ _).mono ?_); rintro e w1 ⟨⟨hP, rfl⟩ | ⟨hP, rfl⟩, rfl⟩)
  all_goals go_ret
  all_goals first
   | exact ⟨isB_t (by rw [hT.out]; omega), by first | exact hxa | exact eX⟩
   | exact ⟨isB_f (by rw [hT.out]; omega), by first | exact hxa | exact eX⟩
   | exact ⟨isB_m (by rw [hT.out]; simp; omega), by first | exact hxa | exact eX⟩
set_option maxRecDepth 100000 in
theorem l27Local_c (k r c t v g : Int) (W : World) :
  Calls Tryz.prog 112 #[vDm k r c t v g] W fun e w' => isB e (lclOK ⟨k, r, c, t, v, g⟩) ∧ Ext W w' := by
 have hi := Lib.hid (fun W => sIsDamage_c k r c t v g W)
 have hB := Blk.new W #[.int .i64 k, .int .i64 r, .int .i64 c, .int .i64 t, .int .i64 v, .int .i64 g] 104
 have hx0 : Ext W (W.alloc (.cells #[.int .i64 k, .int .i64 r, .int .i64 c, .int .i64 t, .int .i64 v, .int .i64 g] 104)) := (Ext.refl W).alloc _
 have hd : ∀ P : Prop, (damOK k r c t v g ↔ P) → (lclOK ⟨k, r, c, t, v, g⟩ ↔ P ∧ (k = 1 ∨ k = 2)) := fun P h => by unfold lclOK dOK; simp only; rw [h]
 obtain ⟨D, hD⟩ : ∃ D, damOK k r c t v g = D := ⟨_, rfl⟩
 replace hd := hd D (by rw [hD])
 rw [hD] at hi
 clear hD
 replace hd := Lib.hid hd
 generalize lclOK ⟨k, r, c, t, v, g⟩ = LP at *
 go_enter Tryz.func112, Tryz.ntmps112
 go_wp2_with (go_at_call 166; (with_reducible refine (hi.out _).mono ?_); rintro e w1 ⟨⟨hP, rfl⟩ | ⟨hP, rfl⟩, hx1⟩ <;> (have hb1 := hB.ext hx1; have c0 := hb1.cell (i := 0) (v := .int .i64 k) rfl; have cL := hb1.lt))
 all_goals go_ret
 all_goals first
  | exact ⟨isB_t (hd.out.2 ⟨hP, by omega⟩), eX⟩
  | exact ⟨isB_f (fun h => hP (hd.out.1 h).1), eX⟩
  | exact ⟨isB_f (fun h => by have := (hd.out.1 h).2; omega), eX⟩
  | exact ⟨isB_m (by rw [hd.out]; simp [hP]), eX⟩
set_option maxHeartbeats 3200000 in
set_option maxRecDepth 100000 in
theorem sTouched_c (p t q b d l : Int) (R C : Nat) (pd : Option Addr) (cd : Nat) (ds : List Dam) (w : World) (hx : SAt fD 6 w pd ds) (hl : ds.length ≤ 1048576) :
  Calls Tryz.prog 56 #[.slice pd ds.length cd, vPrint p t q b d l, .int .i64 R, .int .i64 C] w fun e w' => TmR p t q b d l R C ds w.heap.size e w' ∧ Ext w w' := by
 have HX := Lib.hid hx; clear hx
 have hps := Lib.hid (fun W => sPrintSize_c R C p t q b d l W)
 have hB := Blk.new w #[.int .i64 p, .int .i64 t, .int .i64 q, .int .i64 b, .int .i64 d, .int .i64 l] 57
 have hx0 : Ext w (w.alloc (.cells #[.int .i64 p, .int .i64 t, .int .i64 q, .int .i64 b, .int .i64 d, .int .i64 l] 57)) := (Ext.refl w).alloc _
 by_cases h0 : ¬ (psR R C p t q b d l).2.2 = 0
 ·have hc := tmC_1 (ds := ds) h0
  unfold TmR
  rw [hc]
  clear hc
  generalize psR R C p t q b d l = PS at *
  obtain ⟨P1, P2, P3⟩ := PS
  simp only at h0 hps ⊢
  go_enter Tryz.func56, Tryz.ntmps56
  go_wp2_with (go_at_call 111; (with_reducible refine (hps.out _).mono ?_); rintro e w1 ⟨rfl, hx1⟩)
  go_ret2
  exact ⟨.inr ⟨h0, rfl⟩, eX⟩
 replace h0 := Classical.not_not.1 h0
 by_cases h20 : ¬ ds.length ≤ 20
 ·have hc := tmC_2 h0 h20
  unfold TmR
  rw [hc]
  clear hc
  generalize psR R C p t q b d l = PS at *
  obtain ⟨P1, P2, P3⟩ := PS
  simp only at h0 hps ⊢
  subst h0
  have h20i : (20 : Int) < ds.length := by omega
  go_enter Tryz.func56, Tryz.ntmps56
  go_wp2_with (go_at_call 111; (with_reducible refine (hps.out _).mono ?_); rintro e w1 ⟨rfl, hx1⟩)
  go_ret2
  exact ⟨.inr ⟨by decide, rfl⟩, eX⟩
 replace h20 := Classical.not_not.1 h20
 have h20i : ¬ (20 : Int) < ds.length := by omega
 obtain ⟨hpr, hR, hC⟩ := psR_0 h0
 obtain ⟨hp1, ht1, hq1, -, -⟩ := hpr
 have hc3 := Lib.hid (fun h3 => tmC_3 (p := p) (t := t) (q := q) (b := b) (d := d) (l := l) (R := R) (C := C) (ds := ds) h0 h20 h3)
 have hc0 := Lib.hid (fun h3 => tmC_0 (p := p) (t := t) (q := q) (b := b) (d := d) (l := l) (R := R) (C := C) (ds := ds) h0 h20 h3)
 have hT := Lib.hid (show ∀ B e w', TmR p t q b d l R C ds B e w' ↔ (tmC p t q b d l R C ds = 0 ∧ ∃ v, e = .returned (.tuple #[v, .int .i64 0]) ∧ RowP B w' v (tmTo p t q ds C (R * C))) ∨ (tmC p t q b d l R C ds ≠ 0 ∧ e = .returned (.tuple #[.slice none 0 0, .int .i64 (tmC p t q b d l R C ds)])) from fun B e w' => Iff.rfl)
 generalize TmR p t q b d l R C ds = TR at *
 generalize tmC p t q b d l R C ds = cc at *
 generalize psR R C p t q b d l = PS at *
 obtain ⟨P1, P2, P3⟩ := PS
 simp only at h0 hps
 subst h0
 go_enter Tryz.func56, Tryz.ntmps56
 go_upto_region 7 with (go_at_call 111; go_loud ((with_reducible refine (hps.out _).mono ?_); rintro e w1 ⟨rfl, hx1⟩))
 have hB1 := hB.ext hx1
 have hxw1 := hx0.trans hx1
 clear hB hx0 hx1 hps
 go_loopw [13] (fun i wr => ∃ k : Nat, k ≤ ds.length ∧ i = .int .i64 k ∧ Hid (∀ j (h : j < ds.length), j < k → lclOK (ds[j]'h)) ∧ Ext w1 wr) (fun i _ => ds.length - (intOf i).toNat)
 case atStart => exact ⟨0, Nat.zero_le _, rfl, Lib.hid (fun j _ h => absurd h (Nat.not_lt_zero j)), Ext.refl _⟩
 case round =>
  obtain ⟨k, hk, rfl, hall, hext⟩ := hrel
  by_cases hlt : k < ds.length
  ·obtain ⟨b', o', rfl, hbl, y⟩ := (HX.out.ext (hxw1.trans hext)) k hlt
   obtain ⟨X, hX⟩ : ∃ X, ds[k]'hlt = X := ⟨_, rfl⟩
   rw [hX] at y
   have hnew : lclOK X → Hid (∀ j (h : j < ds.length), j < k + 1 → lclOK (ds[j]'h)) := fun h0 => Lib.hid fun j h hj => by
    by_cases hjk : j = k
    ·subst hjk; rw [hX]; exact h0
    ·exact hall.out j h (by omega)
   have hbad : ¬ lclOK X → ¬ ∀ j (h : j < ds.length), lclOK (ds[j]'h) := fun h0 h => h0 (by rw [← hX]; exact h k hlt)
   replace hnew := Lib.hid hnew; replace hbad := Lib.hid hbad
   clear hX
   obtain ⟨k1, r1, c1, t1, v1, g1⟩ := X
   have hlc := Lib.hid (fun W => l27Local_c k1 r1 c1 t1 v1 g1 W)
   generalize lclOK ⟨k1, r1, c1, t1, v1, g1⟩ = LX at *
   have y0 : wr.cell? ⟨b', o' + k * 6, none⟩ = some (.int .i64 k1) := y 0 _ rfl
   have y1 : wr.cell? ⟨b', o' + k * 6 + 1, none⟩ = some (.int .i64 r1) := y 1 _ rfl
   have y2 : wr.cell? ⟨b', o' + k * 6 + 2, none⟩ = some (.int .i64 c1) := y 2 _ rfl
   have y3 : wr.cell? ⟨b', o' + k * 6 + 3, none⟩ = some (.int .i64 t1) := y 3 _ rfl
   have y4 : wr.cell? ⟨b', o' + k * 6 + 4, none⟩ = some (.int .i64 v1) := y 4 _ rfl
   have y5 : wr.cell? ⟨b', o' + k * 6 + 5, none⟩ = some (.int .i64 g1) := y 5 _ rfl
   clear y
   have hlti : (k : Int) < ds.length := by omega
   go_upto_if 46 with (go_at_call 112; (with_reducible refine (hlc.out _).mono ?_); rintro e w3 ⟨⟨hP, rfl⟩ | ⟨hP, rfl⟩, hx3⟩)
   ·go_wp2
    go_roundw
    case rel => exact ⟨k + 1, hlt, by go_num, hnew.out hP, hext.trans hx3⟩
    case measure => simp [intOf]; omega
   ·go_wp2
    go_ret2
    have h5 := hc3.out (hbad.out hP)
    exact ⟨(hT.out _ _ _).2 (.inr ⟨by rw [h5]; decide, by rw [h5]; rfl⟩), eX⟩
  ·obtain rfl : k = ds.length := by omega
   have hcc := hc0.out fun j h => hall.out j h h
   subst hcc
   replace hall := Lib.hid (fun j h => hall.out j h h)
   obtain ⟨wb, rfl⟩ : ∃ wb : World, wb = wr := ⟨_, rfl⟩
   have hxb := hxw1.trans hext
   go_upto_region 13 with (fail)
   have hrO := RowS.made (f := plF) (k := 2) 121 (B := wb.heap.size) (w := wb) (Nat.le_refl _)
   have hxO : Ext wb (wb.alloc (.cells #[] 121)) := (Ext.refl wb).alloc _
   generalize wb.alloc (.cells #[] 121) = w4 at *
   generalize Value.slice (some ⟨wb.heap.size, 0, none⟩) 0 0 = v1 at *
   obtain ⟨B2, hB2E⟩ : ∃ g, wb.heap.size = g := ⟨_, rfl⟩
   rw [hB2E] at hrO
   replace hB2E := Lib.hid hB2E
   go_loopw [14, 15] (fun o i wr => ∃ r : Nat, r ≤ R ∧ i = .int .i64 r ∧ RowP B2 wr o (tmTo p t q ds C (r * C)) ∧ Ext wb wr) (fun _ i _ => R - (intOf i).toNat)
   case atStart => exact ⟨0, Nat.zero_le _, rfl, by rw [Nat.zero_mul]; exact hrO, hxO⟩
   case round =>
    clear hrO hxO
    obtain ⟨r, hr, rfl, hrow2, hext2⟩ := hrel
    by_cases hlr : r < R
    ·have hri : (r : Int) < R := by omega
     have hr4 : (r : Int) ≤ 400 := by omega
     have hnx : tmTo p t q ds C ((r + 1) * C) = tmTo p t q ds C (r * C + C) := by rw [Nat.add_mul, Nat.one_mul]
     replace hnx := Lib.hid hnx
     obtain ⟨wo, rfl⟩ : ∃ wo : World, wo = wr := ⟨_, rfl⟩
     go_wp2_with fail
     go_loopw [14, 16] (fun o i wr => ∃ c : Nat, c ≤ C ∧ i = .int .i64 c ∧ RowP B2 wr o (tmTo p t q ds C (r * C + c)) ∧ Ext wb wr) (fun _ i _ => C - (intOf i).toNat)
     case atStart => exact ⟨0, Nat.zero_le _, rfl, by rw [Nat.add_zero]; exact hrow2, hext2⟩
     case round =>
      clear hrow2 hext2
      obtain ⟨c, hc, rfl, hrow3, hext3⟩ := hrel
      by_cases hlc : c < C
      ·have hci : (c : Int) < C := by omega
       have hc4 : (c : Int) ≤ 400 := by omega
       have htm := Lib.hid (show (tmHit p t q ds r c → tmTo p t q ds C (r * C + (c + 1)) = tmTo p t q ds C (r * C + c) ++ [((r : Int), (c : Int))]) ∧ (¬ tmHit p t q ds r c → tmTo p t q ds C (r * C + (c + 1)) = tmTo p t q ds C (r * C + c)) from ⟨fun h => tm_yes hlc h, fun h => tm_no hlc h⟩)
       have hln := tm_len p t q ds C (r * C + c)
       have hrC : r * C + c ≤ 160400 := by have := Nat.mul_le_mul (show r ≤ 400 by omega) (show C ≤ 400 by omega); omega
       have hhit := Lib.hid (show tmHit p t q ds r c ↔ ∃ d ∈ ds, tchD d (((r : Int) + q) * t + t / 2) (((c : Int) + q) * p + p / 2) from Iff.rfl)
       generalize tmHit p t q ds r c = HIT at *
       generalize tmTo p t q ds C (r * C + c) = TL at *
       have k1 := lin_bd (r := r) (q := q) (t := t) (by omega) hq1 ht1
       have k2 := lin_bd (r := c) (q := q) (t := p) (by omega) hq1 hp1
       have hBr := hB1.ext (hext.trans hext3)
       have b1 := hBr.cell (i := 1) (v := .int .i64 t) rfl; have b0 := hBr.cell (i := 0) (v := .int .i64 p) rfl; have b2 := hBr.cell (i := 2) (v := .int .i64 q) rfl; have bL := hBr.lt
       go_upto_region 18 with (fail)
       go_quiet (fail)
       have hxq := hext3.drewN nq
       have hrowq := hrow3.ext ((Ext.refl wr).drewN nq)
       clear b0 b1 b2 bL hBr hrow3 hext3
       generalize wr.drewN nq = wq at *
       obtain ⟨Y, hY⟩ : ∃ Y, ((r : Int) + q) * t + t / 2 = Y := ⟨_, rfl⟩
       obtain ⟨X, hX⟩ : ∃ X, ((c : Int) + q) * p + p / 2 = X := ⟨_, rfl⟩
       have hYb : 0 ≤ Y ∧ Y ≤ 10000 := by omega
       have hXb : 0 ≤ X ∧ X ≤ 10000 := by omega
       rw [hY, hX] at hhit
       rw [hY, hX]
       clear hY hX k1 k2
       have hyes0 : ∀ j (h : j < ds.length), tchD (ds[j]'h) Y X → HIT := fun j h h2 => hhit.out.2 ⟨_, List.getElem_mem h, h2⟩
       have hno0 : (∀ j (h : j < ds.length), ¬ tchD (ds[j]'h) Y X) → ¬ HIT := fun h h2 => by
        obtain ⟨d, hd, h3⟩ := hhit.out.1 h2
        obtain ⟨j, hj, rfl⟩ := List.getElem_of_mem hd
        exact h j hj h3
       replace hyes0 := Lib.hid hyes0; replace hno0 := Lib.hid hno0
       clear hhit
       go_wp2_with fail
       go_loopw [19, 20] (fun z i wr => ∃ (j : Nat) (Z : Bool), j ≤ ds.length ∧ i = .int .i64 j ∧ z = .bool Z ∧ Hid ((Z = true → HIT) ∧ (Z = false → ∀ m (h : m < ds.length), m < j → ¬ tchD (ds[m]'h) Y X)) ∧ Ext wq wr) (fun _ i _ => ds.length - (intOf i).toNat)
       case atStart => exact ⟨0, false, Nat.zero_le _, rfl, rfl, Lib.hid ⟨(fun h => by cases h), fun _ m _ h => absurd h (Nat.not_lt_zero m)⟩, Ext.refl _⟩
       case round =>
        obtain ⟨j, Z, hj, rfl, rfl, hZ, hext4⟩ := hrel
        have hx4 := hxq.trans hext4
        have hrow4 := hrowq.ext hext4
        by_cases hlj : j < ds.length
        ·have hji : (j : Int) < ds.length := by omega
         cases Z with
         | true =>
          have hZ2 := hZ.out.1 rfl
          replace hZ2 := Lib.hid hZ2
          go_wp2
          go_roundw
          case rel => exact ⟨j + 1, true, hlj, by go_num, rfl, Lib.hid ⟨fun _ => hZ2.out, fun h => by cases h⟩, hext4⟩
          case measure => simp [intOf]; omega
         | false =>
          obtain ⟨bt, ot, rfl, hbt, y⟩ := (HX.out.ext (hxb.trans hx4)) j hlj
          have hlo := hall.out j hlj
          have hyes := hyes0.out j hlj
          have hstep : ¬ tchD (ds[j]'hlj) Y X → ∀ m (h : m < ds.length), m < j + 1 → ¬ tchD (ds[m]'h) Y X := fun h0 m h hm => by
           by_cases e : m = j
           ·subst e; exact h0
           ·exact hZ.out.2 rfl m h (by omega)
          generalize ds[j]'hlj = XX at *
          obtain ⟨hb1, hb2, hb3, hb4⟩ := lcl_bd hlo
          obtain ⟨k1, r1, c1, t1, v1, g1⟩ := XX
          simp only at hb1 hb2 hb3 hb4
          clear hlo
          replace hyes := Lib.hid hyes; replace hstep := Lib.hid hstep
          have y0 : wr.cell? ⟨bt, ot + j * 6, none⟩ = some (.int .i64 k1) := y 0 _ rfl
          have y1 : wr.cell? ⟨bt, ot + j * 6 + 1, none⟩ = some (.int .i64 r1) := y 1 _ rfl
          have y2 : wr.cell? ⟨bt, ot + j * 6 + 2, none⟩ = some (.int .i64 c1) := y 2 _ rfl
          have y3 : wr.cell? ⟨bt, ot + j * 6 + 3, none⟩ = some (.int .i64 t1) := y 3 _ rfl
          have y4 : wr.cell? ⟨bt, ot + j * 6 + 4, none⟩ = some (.int .i64 v1) := y 4 _ rfl
          have y5 : wr.cell? ⟨bt, ot + j * 6 + 5, none⟩ = some (.int .i64 g1) := y 5 _ rfl
          clear y
          have htc : tchD ⟨k1, r1, c1, t1, v1, g1⟩ Y X ↔ tch k1 r1 c1 t1 v1 Y X := Iff.rfl
          have hct := Lib.hid (fun W => l27Touches_c k1 r1 c1 t1 v1 g1 Y X W hb1 hb2 hb3 hb4 hYb hXb)
          generalize tch k1 r1 c1 t1 v1 Y X = TC at *
          generalize tchD ⟨k1, r1, c1, t1, v1, g1⟩ Y X = TD at *
          replace htc := Lib.hid htc
          go_wp2_with (go_at_call 113; (with_reducible refine (hct.out _).mono ?_); rintro e w7 ⟨⟨hP, rfl⟩ | ⟨hP, rfl⟩, hx7⟩)
          ·have hZ2 := hyes.out (htc.out.2 hP)
           replace hZ2 := Lib.hid hZ2
           go_roundw
           case rel => exact ⟨j + 1, true, hlj, by go_num, rfl, Lib.hid ⟨fun _ => hZ2.out, fun h => by cases h⟩, hext4.trans hx7⟩
           case measure => simp [intOf]; omega
          ·have hno2 : ¬ TD := fun h => absurd (htc.out.1 h) (by first | exact hP | exact Int.not_le.2 hP | omega)
           replace hno2 := Lib.hid hno2
           go_roundw
           case rel => exact ⟨j + 1, false, hlj, by go_num, rfl, Lib.hid ⟨(fun h => by cases h), fun _ => hstep.out hno2.out⟩, hext4.trans hx7⟩
           case measure => simp [intOf]; omega
        ·obtain rfl : j = ds.length := by omega
         cases Z with
         | true =>
          have hZ2 := htm.out.1 (hZ.out.1 rfl)
          replace hZ2 := Lib.hid hZ2
          have hz8 := hx4.below.size
          go_wp2_with (at_builtin; go_loud (refine appendSG (ns := [((r : Int), (c : Int))]) Tryz.underlying84 infoPl rfl (by omega) (by omega) plF_len plF_one 1 rfl hrow4 (by omega) (by have := hB2E.out; omega) rfl ?_ rfl rfl); intro v9 w9 hr9 hg9)
          go_roundw
          case rel => exact ⟨c + 1, hlc, by go_num, by rw [hZ2.out]; exact hr9, hg9.toExt hx4 (fun k hk => by rw [hB2E.out]; exact (hrow4.lt k hk).1)⟩
          case measure => simp [intOf]; omega
         | false =>
          have hnn := htm.out.2 (hno0.out fun m h => hZ.out.2 rfl m h h)
          replace hnn := Lib.hid hnn
          go_wp2
          go_roundw
          case rel => exact ⟨c + 1, hlc, by go_num, by rw [hnn.out]; exact hrow4, hx4⟩
          case measure => simp [intOf]; omega
      ·obtain rfl : c = C := by omega
       go_wp2
       go_roundw
       case rel => exact ⟨r + 1, hlr, by go_num, by rw [hnx.out]; exact hrow3, hext3⟩
       case measure => simp [intOf]; omega
    ·obtain rfl : r = R := by omega
     go_wp2
     go_ret2
     exact ⟨(hT.out _ _ _).2 (.inl ⟨by simp, _, rfl, hrow2.mono (by have := hB2E.out; have := hxb.below.size; omega)⟩), hxb.trans hext2⟩
end Go.Proofs.YtdnkljpnhmcnpaaGreat
