/- The bounds of damages of a stacked symbol, the program's side. -/
import Derived.Test.YtdnkljpnhmcnpaaGreatLBoundedDamageK27
import Derived.Test.YtdnkljpnhmcnpaaGreatLBoundedDamageK23
import Derived.Test.YtdnkljpnhmcnpaaGreatLBoundedDamageK26
import Derived.Deep.DeepCutAuto
set_option linter.unusedVariables false
set_option linter.unusedSimpArgs false
namespace Go.Proofs.YtdnkljpnhmcnpaaGreat
open Go.RowKit

def SP (L : List (Int × Int)) (co m : Nat) (x : Int × Int) : Prop := ∃ i, i < m ∧ 7 ≤ (L.getD i (0, 0)).2 ∧ ((L.getD i (0, 0)).2 - 7) / 11 < (co : Int) + 2 ∧ x = ((L.getD i (0, 0)).1, ((L.getD i (0, 0)).2 - 7) / 11)
theorem SP_yes {L : List (Int × Int)} {co m : Nat} (h : 7 ≤ (L.getD m (0, 0)).2) (h2 : ((L.getD m (0, 0)).2 - 7) / 11 < (co : Int) + 2) (x : Int × Int) : SP L co (m + 1) x ↔ SP L co m x ∨ x = ((L.getD m (0, 0)).1, ((L.getD m (0, 0)).2 - 7) / 11) := by
 constructor
 ·rintro ⟨i, hi, h3, h4, h5⟩
  by_cases e : i = m
  ·subst e; exact .inr h5
  ·exact .inl ⟨i, by omega, h3, h4, h5⟩
 ·rintro (⟨i, hi, h3⟩ | h3)
  ·exact ⟨i, by omega, h3⟩
  ·exact ⟨m, by omega, h, h2, h3⟩
theorem SP_no {L : List (Int × Int)} {co m : Nat} (h : ¬ (7 ≤ (L.getD m (0, 0)).2 ∧ ((L.getD m (0, 0)).2 - 7) / 11 < (co : Int) + 2)) (x : Int × Int) : SP L co (m + 1) x ↔ SP L co m x := by
 constructor
 ·rintro ⟨i, hi, h3, h4, h5⟩
  by_cases e : i = m
  ·subst e; exact absurd ⟨h3, h4⟩ h
  ·exact ⟨i, by omega, h3, h4, h5⟩
 ·rintro ⟨i, hi, h3⟩
  exact ⟨i, by omega, h3⟩
theorem SP_all {L : List (Int × Int)} {co r k : Nat} (hk : k < co + 2) : SP L co L.length ((r : Int), (k : Int)) ↔ stHit L r k := by
 unfold SP stHit
 constructor
 ·rintro ⟨i, hi, h1, h2, h3⟩
  simp only [Prod.mk.injEq] at h3
  exact ⟨_, mem_getD.2 ⟨i, hi, rfl⟩, h3.1.symm, h1, h3.2.symm⟩
 ·rintro ⟨z, hz, h1, h2, h3⟩
  obtain ⟨i, hi, rfl⟩ := mem_getD.1 hz
  exact ⟨i, hi, h2, by omega, by rw [h1, h3]⟩
theorem st_yes {L : List (Int × Int)} {co r c : Nat} (hc : c < co) (h : stHit L r (c + 1)) : stE L co (r * co + (c + 1)) = stE L co (r * co + c) ++ [((r * co + c : Nat) : Int)] := by
 obtain ⟨h1, h2⟩ := rc_div (r := r) hc
 exact sel_yes (P := fun i => stHit L (i / co) (i % co + 1)) (by show stHit L ((r * co + c) / co) ((r * co + c) % co + 1); rw [h1, h2]; exact h)
theorem st_no {L : List (Int × Int)} {co r c : Nat} (hc : c < co) (h : ¬ stHit L r (c + 1)) : stE L co (r * co + (c + 1)) = stE L co (r * co + c) := by
 obtain ⟨h1, h2⟩ := rc_div (r := r) hc
 exact sel_no (P := fun i => stHit L (i / co) (i % co + 1)) (by show ¬ stHit L ((r * co + c) / co) ((r * co + c) % co + 1); rw [h1, h2]; exact h)
theorem stB_yes {L : List (Int × Int)} {co r : Nat} (h3 : r % 3 = 2) (h : stHit L r (co + 1)) : stB L co (r + 1) = stB L co r + 1 := cnt_yes (P := fun i => i % 3 = 2 ∧ stHit L i (co + 1)) ⟨h3, h⟩
theorem stB_no {L : List (Int × Int)} {co r : Nat} (h : ¬ (r % 3 = 2 ∧ stHit L r (co + 1))) : stB L co (r + 1) = stB L co r := cnt_no (P := fun i => i % 3 = 2 ∧ stHit L i (co + 1)) h
theorem MF.at {f : Int × Int → Option Value} {P : Int × Int → Prop} (h : MF f P) (x : Int × Int) : ∃ T : Bool, (f x).getD (.bool false) = .bool T ∧ (T = true ↔ P x) := by
 by_cases hp : P x
 ·exact ⟨true, by rw [(h x).1 hp]; rfl, by simp [hp]⟩
 ·exact ⟨false, by rw [(h x).2 hp]; rfl, by simp [hp]⟩
theorem cell_but {g b o : Nat} {a c : World} {v : Option Value} (h : But g a c) (hb : b < a.heap.size) (hne : b ≠ g) (hv : a.cell? ⟨b, o, none⟩ = v) : c.cell? ⟨b, o, none⟩ = v := (World.cell?_of_block (a := ⟨b, o, none⟩) (h.block b hb hne)).trans hv
set_option maxHeartbeats 3200000 in
set_option maxRecDepth 100000 in
theorem boundedStack_c (nm : ByteArray) (K p k q : Int) (co n : Nat) (ps pl : Option Addr) (ns cs nl cl : Nat) (pt : Option Addr) (ct : Nat) (L : List (Int × Int)) (w : World) (hn : n ≤ 100) (hco : co ≤ 100) (hx : PlAt w pt L) (hl : L.length ≤ 40000) (hbl : ∀ z ∈ L, (0 ≤ z.1 ∧ z.1 ≤ 1000) ∧ (0 ≤ z.2 ∧ z.2 ≤ 1000)) :
  Calls Tryz.prog 66 #[vFam nm K p k q ps ns cs co pl nl cl, .int .i64 n, .slice pt L.length ct] w fun e w' => (∃ v, e = .returned (.tuple #[v, .bool (decide (2 * (stB L co n : Int) < ((n / 3 : Nat) : Int)))]) ∧ RowI w.heap.size w' v (stE L co (n * co))) ∧ Ext w w' := by
 have HX := Lib.hid hx; clear hx
 have hbx := (Blk.new w #[.string nm, .int .i64 K, .int .i64 p, .int .i64 k, .int .i64 q, .slice ps ns cs, .int .i64 co, .slice pl nl cl] 55).alloc (.map #[] 0)
 have hm0 := MapA.made (k := 121) (E := ePl) (w.alloc (.cells #[.string nm, .int .i64 K, .int .i64 p, .int .i64 k, .int .i64 q, .slice ps ns cs, .int .i64 co, .slice pl nl cl] 55))
 have hx0 : Ext w ((w.alloc (.cells #[.string nm, .int .i64 K, .int .i64 p, .int .i64 k, .int .i64 q, .slice ps ns cs, .int .i64 co, .slice pl nl cl] 55)).alloc (.map #[] 0)) := ((Ext.refl w).alloc _).alloc _
 have hmm := @run_makeMap Tryz.prog
 have hzv : ∀ w, (zeroValue 4).run Tryz.prog w = .ok (.bool false) w := fun w => by kernel_rfl
 replace hzv := Lib.hid hzv
 replace hbl := Lib.hid hbl
 have hse := Lib.hid (fun r c (hc : c < co) => (⟨fun h => st_yes hc h, fun h => st_no hc h⟩ : (stHit L r (c + 1) → stE L co (r * co + (c + 1)) = stE L co (r * co + c) ++ [((r * co + c : Nat) : Int)]) ∧ (¬ stHit L r (c + 1) → stE L co (r * co + (c + 1)) = stE L co (r * co + c))))
 have hsb := Lib.hid (fun r => (⟨fun h3 h => stB_yes h3 h, fun h => stB_no h⟩ : (r % 3 = 2 → stHit L r (co + 1) → stB L co (r + 1) = stB L co r + 1) ∧ (¬ (r % 3 = 2 ∧ stHit L r (co + 1)) → stB L co (r + 1) = stB L co r)))
 have hsl := Lib.hid (fun m => sel_len (fun i => stHit L (i / co) (i % co + 1)) m)
 replace hsl := Lib.hid (show ∀ m, (stE L co m).length ≤ m from hsl.out)
 have hcl := Lib.hid (show ∀ m, stB L co m ≤ m from fun m => cnt_le _ m)
 have hs0 := Lib.hid (show stE L co 0 = [] from rfl)
 have hb0 := Lib.hid (show stB L co 0 = 0 from rfl)
 have hall := Lib.hid (fun (f : Int × Int → Option Value) (hf : MF f (SP L co L.length)) r kk (hk : kk < co + 2) => by
  obtain ⟨T, h1, h2⟩ := hf.at ((r : Nat), ((kk : Nat) : Int))
  exact (⟨T, h1, h2.trans (SP_all hk)⟩ : ∃ T : Bool, (f ((r : Int), (kk : Int))).getD (.bool false) = .bool T ∧ (T = true ↔ stHit L r kk)))
 generalize stE L co = SE at *
 generalize stB L co = SB at *
 generalize stHit L = SH at *
 go_enter Tryz.func66, Tryz.ntmps66
 go_upto_region 3 with (fail)
 clear hmm
 simp only [World.size_alloc] at hm0
 obtain ⟨g, hg⟩ : ∃ g, w.heap.size + 1 = g := ⟨_, rfl⟩
 have hgF : w.heap.size ≠ g := by omega
 have hgw : w.heap.size ≤ g := by omega
 rw [hg] at hm0 ⊢
 replace hg := Lib.hid hg
 have hF6 := hbx.cell (i := 6) (v := .int .i64 co) rfl; have hFl := hbx.lt
 generalize (w.alloc (.cells #[.string nm, .int .i64 K, .int .i64 p, .int .i64 k, .int .i64 q, .slice ps ns cs, .int .i64 co, .slice pl nl cl] 55)).alloc (.map #[] 0) = w1 at *
 obtain ⟨gF, hgFE⟩ : ∃ z, w.heap.size = z := ⟨_, rfl⟩
 rw [hgFE] at hgF hF6 hFl ⊢
 have hgFw : w.heap.size ≤ gF := by omega
 replace hgFE := Lib.hid hgFE
 clear hbx
 have hsp := Lib.hid (fun m => (⟨fun h h2 => SP_yes h h2, fun h => SP_no h⟩ : (7 ≤ (L.getD m (0, 0)).2 → ((L.getD m (0, 0)).2 - 7) / 11 < (co : Int) + 2 → ∀ x, SP L co (m + 1) x ↔ SP L co m x ∨ x = ((L.getD m (0, 0)).1, ((L.getD m (0, 0)).2 - 7) / 11)) ∧ (¬ (7 ≤ (L.getD m (0, 0)).2 ∧ ((L.getD m (0, 0)).2 - 7) / 11 < (co : Int) + 2) → ∀ x, SP L co (m + 1) x ↔ SP L co m x)))
 go_loopw [20] (fun i wr => ∃ (m : Nat) (f : Int × Int → Option Value), m ≤ L.length ∧ i = .int .i64 m ∧ MapA 121 ePl wr g m f ∧ Hid (MF f (SP L co m)) ∧ But g w1 wr) (fun i _ => L.length - (intOf i).toNat)
 case atStart => exact ⟨0, _, Nat.zero_le _, rfl, hm0, Lib.hid (fun x => ⟨fun ⟨i, hi, _⟩ => absurd hi (Nat.not_lt_zero i), fun _ => rfl⟩), But.refl _ _⟩
 case round =>
  clear hm0
  obtain ⟨m, f, hm, rfl, hma, hf, hB⟩ := hrel
  by_cases hlt : m < L.length
  ·have hlti : (m : Int) < L.length := by omega
   obtain ⟨b, o, rfl, hb, y0, y1⟩ := HX.out.pl2 hlt
   have hbne : b ≠ g := by omega
   obtain ⟨hcx, -, hkx, -⟩ := ecell hx0
   rw [← hcx _ _ hb] at y0 y1
   have z0 := cell_but hB (hkx _ hb) hbne y0
   have z1 := cell_but hB (hkx _ hb) hbne y1
   have hbl2 := Nat.lt_of_lt_of_le (hkx _ hb) hB.size
   have zF := cell_but hB hFl hgF hF6
   have zFl := Nat.lt_of_lt_of_le hFl hB.size
   clear hcx hkx y0 y1
   have hst := hsp.out m
   have hbd := hbl.out (L.getD m (0, 0)) (mem_getD.2 ⟨m, hlt, rfl⟩)
   generalize L.getD m (0, 0) = qq at *
   obtain ⟨qr, qc⟩ := qq
   simp only at z0 z1 hst hbd
   obtain ⟨a, rfl⟩ : ∃ a, qc = a + 7 := ⟨qc - 7, by omega⟩
   rw [Int.add_sub_cancel] at hst
   have hxp : Ext wr (wr.alloc (.cells #[.int .i64 qr, .int .i64 (a + 7)] 121)) := (Ext.refl wr).alloc _
   have e1 : IntKind.i64.wrap (a + 7 - 7) = a := by rw [Int.add_sub_cancel]; exact IntWalk.i64_in _ (by omega)
   have hB2 := hB.trans (But.of hxp)
   by_cases ha : 0 ≤ a
   ·have e2 : a.tdiv 11 = a / 11 := Int.tdiv_eq_ediv_of_nonneg ha
    have e3 : IntKind.i64.wrap (a / 11) = a / 11 := IntWalk.i64_in _ (by omega)
    have hk0 : 0 ≤ a / 11 ∧ a / 11 ≤ 100 := by omega
    by_cases hkc : a / 11 < (co : Int) + 2
    ·have hs1 := hst.1 (by omega) hkc
     generalize hKK : a / 11 = KK at *
     obtain ⟨kl, hkl⟩ := plKey (x := (qr, KK)) (by simp only; omega) (by simp only; omega)
     replace hkl := Lib.hid hkl; replace hs1 := Lib.hid hs1
     replace hKK := Lib.hid hKK
     clear hst
     go_wp2_with (first
      | (refine wp_put (y := (qr, KK)) (u := .bool true) ePl_inj (hma.ext hxp) plKeyed Tryz.underlying172 (by unfold maxLen; omega) hkl.out ?_ rfl rfl rfl; intro w8 hm8 hg8))
     go_roundw
     case rel => exact ⟨m + 1, _, hlt, by go_num, hm8, Lib.hid (hf.out.put _ hs1.out), hB2.grown hg8⟩
     case measure => simp [intOf]; omega
    ·have hs1 := hst.2 (by omega)
     replace hs1 := Lib.hid hs1
     generalize hKK : a / 11 = KK at *
     replace hKK := Lib.hid hKK
     have hkc2 : (co : Int) + 2 ≤ KK := by omega
     clear hst
     go_wp2
     go_roundw
     case rel => exact ⟨m + 1, f, hlt, by go_num, (hma.ext hxp).mono (by omega), Lib.hid (hf.out.congr hs1.out), hB2⟩
     case measure => simp [intOf]; omega
   ·have hs1 := hst.2 (by omega)
    replace hs1 := Lib.hid hs1
    clear hst
    have ha2 : a < 0 := by omega
    go_wp2
    go_roundw
    case rel => exact ⟨m + 1, f, hlt, by go_num, (hma.ext hxp).mono (by omega), Lib.hid (hf.out.congr hs1.out), hB2⟩
    case measure => simp [intOf]; omega
  ·obtain rfl : m = L.length := by omega
   have hall1 := Lib.hid (hall.out f hf.out)
   have zF := cell_but hB hFl hgF hF6
   have zFl := Nat.lt_of_lt_of_le hFl hB.size
   have hxb : Ext w wr := hx0.but hB hgw
   obtain ⟨wb, rfl⟩ : ∃ wb : World, wb = wr := ⟨_, rfl⟩
   replace hma := Lib.hid hma
   clear hB hsp hf hall hF6 hFl hx0
   go_upto_region 12 with (fail)
   have hrO := RowI.made (B := wb.heap.size) (w := wb) (Nat.le_refl _)
   have hxO : Ext wb (wb.alloc (.cells #[] 2)) := (Ext.refl wb).alloc _
   generalize wb.alloc (.cells #[] 2) = w4 at *
   generalize Value.slice (some ⟨wb.heap.size, 0, none⟩) 0 0 = v1 at *
   obtain ⟨B2, hB2E⟩ : ∃ z, wb.heap.size = z := ⟨_, rfl⟩
   have hszB : w.heap.size ≤ B2 := by have := hxb.below.size; omega
   rw [hB2E] at hrO
   replace hB2E := Lib.hid hB2E; replace hszB := Lib.hid hszB
   go_loopw [12, 13, 14, 15] (fun o x y i wr => ∃ r : Nat, r ≤ n ∧ i = .int .i64 r ∧ x = .int .i64 (r / 3 : Nat) ∧ y = .int .i64 (SB r) ∧ RowI B2 wr o (SE (r * co)) ∧ Ext wb wr) (fun _ _ _ i _ => n - (intOf i).toNat)
   case atStart => exact ⟨0, Nat.zero_le _, rfl, rfl, by rw [hb0.out]; rfl, by rw [Nat.zero_mul, hs0.out]; exact hrO, hxO⟩
   case round =>
    clear hrO hxO
    obtain ⟨r, hr, rfl, rfl, rfl, hrow2, hext2⟩ := hrel
    by_cases hlr : r < n
    ·have hri : (r : Int) < n := by omega
     have hnx : SE ((r + 1) * co) = SE (r * co + co) := by rw [Nat.add_mul, Nat.one_mul]
     replace hnx := Lib.hid hnx
     have hcr := hcl.out r
     have hsb1 := hsb.out r
     generalize hSBr : SB r = sb at *
     replace hSBr := Lib.hid hSBr
     obtain ⟨wo, rfl⟩ : ∃ wo : World, wo = wr := ⟨_, rfl⟩
     go_wp2_with fail
     go_loopw [12, 16] (fun o i wr => ∃ c : Nat, c ≤ co ∧ i = .int .i64 c ∧ RowI B2 wr o (SE (r * co + c)) ∧ Ext wb wr) (fun _ i _ => co - (intOf i).toNat)
     case atStart => exact ⟨0, Nat.zero_le _, rfl, by rw [Nat.add_zero]; exact hrow2, hext2⟩
     case round =>
      clear hrow2 hext2
      obtain ⟨c, hc, rfl, hrow3, hext3⟩ := hrel
      have y6 := ((ecell hext3).1 _ 6 zFl).trans zF
      have y6l := (ecell hext3).2.2.1 _ zFl
      by_cases hlc : c < co
      ·have hci : (c : Int) < co := by omega
       have hse1 := hse.out r c hlc
       have hln := hsl.out (r * co + c)
       obtain ⟨T, hT1, hT2⟩ := hall1.out r (c + 1) (by omega)
       have hrc1 : r * co ≤ 10000 := Nat.mul_le_mul (show r ≤ 100 by omega) hco
       have hrc2 : (r : Int) * (co : Int) = ((r * co : Nat) : Int) := (Int.natCast_mul r co).symm
       generalize SE (r * co + c) = SK at *
       generalize SH r (c + 1) = HH at *
       rw [show (((c + 1 : Nat)) : Int) = (c : Int) + 1 from by omega] at hT1
       obtain ⟨kl, hkl⟩ := plKey (x := ((r : Int), (c : Int) + 1)) (by simp only; omega) (by simp only; omega)
       replace hkl := Lib.hid hkl; replace hT1 := Lib.hid hT1
       generalize r * co = rc at *
       cases T with
       | true =>
        have h3 := hse1.1 (hT2.1 rfl)
        replace h3 := Lib.hid h3
        clear hse1 hT2
        have hzB := hext3.below.size
        go_wp2_with (first
         | (refine wp_look (y := ((r : Int), (c : Int) + 1)) (hma.out.ext hext3) plKeyed Tryz.underlying172 (z := .bool false) (hzv.out _) hkl.out ?_ rfl rfl; rw [hT1.out])
         | (at_builtin; go_loud (refine append1IG hrow3 (by omega) (by have := hB2E.out; omega) ?_ rfl rfl); intro v5 w5 hr5 hg5))
        go_roundw
        case rel =>
         (repeat apply Exists.intro)
         refine ⟨?_, rfl⟩
         exact ⟨c + 1, hlc, by go_num, (by rw [h3.out]; first | exact hr5 | simpa using hr5), hg5.toExt hext3 (fun j hj => by rw [hB2E.out]; exact (hrow3.lt j hj).1)⟩
        case measure => simp [intOf]; omega
       | false =>
        have h3 := hse1.2 (fun h => by have := hT2.2 h; cases this)
        replace h3 := Lib.hid h3
        clear hse1 hT2
        go_wp2_with (first
         | (refine wp_look (y := ((r : Int), (c : Int) + 1)) (hma.out.ext hext3) plKeyed Tryz.underlying172 (z := .bool false) (hzv.out _) hkl.out ?_ rfl rfl; rw [hT1.out]))
        go_roundw
        case rel =>
         first
          | exact ⟨c + 1, hlc, by go_num, by rw [h3.out]; exact hrow3, hext3⟩
          | ((repeat apply Exists.intro); refine ⟨?_, rfl⟩; exact ⟨c + 1, hlc, by go_num, by rw [h3.out]; exact hrow3, hext3⟩)
        case measure => simp [intOf]; omega
      ·obtain rfl : c = co := by omega
       have hrm : (r : Int).tmod 3 = (r : Int) % 3 := Int.tmod_eq_emod_of_nonneg (by omega)
       rw [← hnx.out] at hrow3
       by_cases h3 : r % 3 = 2
       ·have h3i : (r : Int) % 3 = 2 := by omega
        have hd3 : ((r : Int) % 3 == 2) = true := by simpa using h3i
        have hr3 : (r + 1) / 3 = r / 3 + 1 := by omega
        obtain ⟨T, hT1, hT2⟩ := hall1.out r (c + 1) (by omega)
        generalize SH r (c + 1) = HH at *
        rw [show (((c + 1 : Nat)) : Int) = (c : Int) + 1 from by omega] at hT1
        obtain ⟨kl, hkl⟩ := plKey (x := ((r : Int), (c : Int) + 1)) (by simp only; omega) (by simp only; omega)
        replace hkl := Lib.hid hkl; replace hT1 := Lib.hid hT1
        have hr33 : r / 3 ≤ r := Nat.div_le_self _ _
        generalize r / 3 = rd at *
        cases T with
        | true =>
         have hs4 := hsb1.1 h3 (hT2.1 rfl)
         replace hs4 := Lib.hid hs4; replace h3 := Lib.hid h3; replace hr3 := Lib.hid hr3
         clear hsb1 hT2
         go_wp2_with (first
          | (refine wp_look (y := ((r : Int), (c : Int) + 1)) (hma.out.ext hext3) plKeyed Tryz.underlying172 (z := .bool false) (hzv.out _) hkl.out ?_ rfl rfl; rw [hT1.out]))
         go_roundw
         case rel =>
          first
           | exact ⟨r + 1, hlr, by go_num, by rw [hr3.out]; go_num, by rw [hs4.out]; go_num, hrow3, hext3⟩
           | ((repeat apply Exists.intro); refine ⟨?_, rfl⟩; exact ⟨r + 1, hlr, by go_num, by rw [hr3.out]; go_num, by rw [hs4.out]; go_num, hrow3, hext3⟩)
         case measure => simp [intOf]; omega
        | false =>
         have hs4 := hsb1.2 (fun h => by have := hT2.2 h.2; cases this)
         replace hs4 := Lib.hid hs4; replace h3 := Lib.hid h3; replace hr3 := Lib.hid hr3
         clear hsb1 hT2
         go_wp2_with (first
          | (refine wp_look (y := ((r : Int), (c : Int) + 1)) (hma.out.ext hext3) plKeyed Tryz.underlying172 (z := .bool false) (hzv.out _) hkl.out ?_ rfl rfl; rw [hT1.out]))
         go_roundw
         case rel =>
          first
           | exact ⟨r + 1, hlr, by go_num, by rw [hr3.out]; go_num, by rw [hs4.out], hrow3, hext3⟩
           | ((repeat apply Exists.intro); refine ⟨?_, rfl⟩; exact ⟨r + 1, hlr, by go_num, by rw [hr3.out]; go_num, by rw [hs4.out], hrow3, hext3⟩)
         case measure => simp [intOf]; omega
       ·have h3i : ¬ (r : Int) % 3 = 2 := by omega
        have hd3 : ((r : Int) % 3 == 2) = false := by simpa using h3i
        have hr3 : (r + 1) / 3 = r / 3 := by omega
        have hs4 := hsb1.2 (fun h => h3 h.1)
        replace hs4 := Lib.hid hs4; replace h3 := Lib.hid h3; replace hr3 := Lib.hid hr3
        replace h3i := Lib.hid h3i
        clear hsb1
        go_wp2
        go_roundw
        case rel =>
         first
          | exact ⟨r + 1, hlr, by go_num, by rw [hr3.out], by rw [hs4.out], hrow3, hext3⟩
          | ((repeat apply Exists.intro); refine ⟨?_, rfl⟩; exact ⟨r + 1, hlr, by go_num, by rw [hr3.out], by rw [hs4.out], hrow3, hext3⟩)
        case measure => simp [intOf]; omega
    ·obtain rfl : r = n := by omega
     have hcr := hcl.out r
     have hr33 : r / 3 ≤ r := Nat.div_le_self _ _
     go_wp2
     go_ret2
     exact ⟨⟨_, rfl, hrow2.mono hszB.out⟩, hxb.trans hext2⟩
end Go.Proofs.YtdnkljpnhmcnpaaGreat
