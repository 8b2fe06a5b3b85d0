/- The bounds of damages of a stacked symbol, the reference's side. -/
import Derived.Test.YtdnkljpnhmcnpaaGreatLBoundedDamageK31
import Derived.Test.YtdnkljpnhmcnpaaGreatLBoundedDamageK39
import Derived.Test.YtdnkljpnhmcnpaaGreatLBoundedDamageK28
import Derived.Test.YtdnkljpnhmcnpaaGreatLBoundedDamageK36
set_option linter.unusedVariables false
set_option linter.unusedSimpArgs false
namespace Go.Proofs.YtdnkljpnhmcnpaaGreat
open Go.RowKit

def HM (L : List (Int × Int)) (r m : Nat) (bs : List Bool) : Prop := ∀ k, k < bs.length → (bs.getD k false = true ↔ ∃ i, i < m ∧ (L.getD i (0, 0)).1 = r ∧ 7 ≤ (L.getD i (0, 0)).2 ∧ ((L.getD i (0, 0)).2 - 7) / 11 = k)
theorem HM.zero (L : List (Int × Int)) (r N : Nat) : HM L r 0 (List.replicate N false) := fun k hk => by
 rw [List.length_replicate] at hk
 rw [List.getD_eq_getElem?_getD, List.getElem?_eq_getElem (by simpa using hk)]
 simp
theorem HM.no {L : List (Int × Int)} {r m : Nat} {bs : List Bool} (h : HM L r m bs) (hm : ¬ ((L.getD m (0, 0)).1 = r ∧ 7 ≤ (L.getD m (0, 0)).2 ∧ ((L.getD m (0, 0)).2 - 7) / 11 < bs.length)) : HM L r (m + 1) bs := fun k hk => by
 rw [h k hk]
 constructor
 ·rintro ⟨i, hi, hr⟩; exact ⟨i, by omega, hr⟩
 ·rintro ⟨i, hi, h1, h2, h3⟩
  by_cases e : i = m
  ·subst e; exact absurd ⟨h1, h2, by omega⟩ hm
  ·exact ⟨i, by omega, h1, h2, h3⟩
theorem HM.set {L : List (Int × Int)} {r m K : Nat} {bs : List Bool} (h : HM L r m bs) (h1 : (L.getD m (0, 0)).1 = r) (h2 : 7 ≤ (L.getD m (0, 0)).2) (h3 : ((L.getD m (0, 0)).2 - 7) / 11 = K) : HM L r (m + 1) (bs.set K true) := fun k hk => by
 rw [List.length_set] at hk
 by_cases ek : K = k
 ·subst ek
  rw [List.getD_eq_getElem?_getD, List.getElem?_set_self hk]
  simp only [Option.getD_some, true_iff]
  exact ⟨m, by omega, h1, h2, h3⟩
 ·rw [List.getD_eq_getElem?_getD, List.getElem?_set_ne ek, ← List.getD_eq_getElem?_getD, h k hk]
  constructor
  ·rintro ⟨i, hi, hr⟩; exact ⟨i, by omega, hr⟩
  ·rintro ⟨i, hi, h4, h5, h6⟩
   by_cases e : i = m
   ·subst e; omega
   ·exact ⟨i, by omega, h4, h5, h6⟩
theorem HM.all {L : List (Int × Int)} {r k : Nat} {bs : List Bool} (h : HM L r L.length bs) (hk : k < bs.length) : bs.getD k false = true ↔ stHit L r k := by
 rw [h k hk]
 unfold stHit
 constructor
 ·rintro ⟨i, hi, h1, h2, h3⟩; exact ⟨_, mem_getD.2 ⟨i, hi, rfl⟩, h1, h2, h3⟩
 ·rintro ⟨z, hz, h1, h2, h3⟩
  obtain ⟨i, hi, rfl⟩ := mem_getD.1 hz
  exact ⟨i, hi, h1, h2, h3⟩
def MS (L : List (Int × Int)) (co m : Nat) (xs : List Int) : Prop := ∀ i, i < xs.length → (xs.getD i 0 ≠ 0 ↔ i < m ∧ stHit L (i / co) (i % co + 1))
theorem MS.zero (L : List (Int × Int)) (co N : Nat) : MS L co 0 (List.replicate N 0) := fun k hk => by
 rw [List.length_replicate] at hk
 rw [List.getD_eq_getElem?_getD, List.getElem?_eq_getElem (by simpa using hk)]
 simp
theorem MS.no {L : List (Int × Int)} {co r c : Nat} {xs : List Int} (h : MS L co (r * co + c) xs) (hc : c < co) (hn : ¬ stHit L r (c + 1)) : MS L co (r * co + (c + 1)) xs := fun i hi => by
 rw [h i hi]
 constructor
 ·rintro ⟨h1, h2⟩; exact ⟨by omega, h2⟩
 ·rintro ⟨h1, h2⟩
  by_cases e : i = r * co + c
  ·obtain ⟨e1, e2⟩ := rc_div (r := r) hc
   rw [e, e1, e2] at h2
   exact absurd h2 hn
  ·exact ⟨by omega, h2⟩
theorem MS.yes {L : List (Int × Int)} {co r c : Nat} {xs : List Int} (h : MS L co (r * co + c) xs) (hc : c < co) (hn : stHit L r (c + 1)) : MS L co (r * co + (c + 1)) (xs.set (r * co + c) 1) := fun i hi => by
 rw [List.length_set] at hi
 obtain ⟨e1, e2⟩ := rc_div (r := r) hc
 by_cases e : r * co + c = i
 ·subst e
  rw [List.getD_eq_getElem?_getD, List.getElem?_set_self hi, e1, e2]
  simp only [Option.getD_some, ne_eq]
  exact ⟨fun _ => ⟨by omega, hn⟩, fun _ => by decide⟩
 ·rw [List.getD_eq_getElem?_getD, List.getElem?_set_ne e, ← List.getD_eq_getElem?_getD, h i hi]
  constructor
  ·rintro ⟨h1, h2⟩; exact ⟨by omega, h2⟩
  ·rintro ⟨h1, h2⟩; exact ⟨by omega, h2⟩
theorem MS.all {L : List (Int × Int)} {co : Nat} {xs : List Int} (h : MS L co xs.length xs) : selTo (fun i => xs.getD i 0 ≠ 0) xs.length = stE L co xs.length :=
 sel_congr _ fun i hi => by
  rw [h i hi]
  exact ⟨fun h => h.2, fun h => ⟨hi, h⟩⟩
theorem OwnCells.setFarN {B g i b o : Nat} {w : World} {cs : List Value} {v : Value} (h : OwnCells B w (some ⟨b, o, none⟩) cs) (hg : b ≠ g) : OwnCells B (w.setCell ⟨g, i, none⟩ v) (some ⟨b, o, none⟩) cs :=
 h.keep (by simp [World.setCell]) fun b' o' _ e _ => by
  injection e with e
  injection e with e1 e2 e3
  subst e1
  exact Below.heap_setCell _ _ _ _ hg
set_option maxHeartbeats 6400000 in
set_option maxRecDepth 100000 in
theorem l28StackBound_c (nm : ByteArray) (K p k q : Int) (co n : Nat) (D C N : Nat) (ps pl : Option Addr) (ns cs nl cl : Nat) (pt : Option Addr) (ct : Nat) (L : List (Int × Int)) (w : World) (hn : n ≤ 100) (hco : 1 ≤ co ∧ co ≤ 100) (hlay : layOK p k q D C N) (hTot : D + C * N = n * co) (hx : PlAt w pt L) (hl : L.length ≤ 40000) (hbl : ∀ z ∈ L, (0 ≤ z.1 ∧ z.1 ≤ 1000) ∧ (0 ≤ z.2 ∧ z.2 ≤ 1000)) :
  Calls Tryz.prog 58 #[vFam nm K p k q ps ns cs co pl nl cl, .int .i64 n, vLay p k q D C N, .slice pt L.length ct] w fun e w' => isB e (sdOK D C N (stE L co (n * co)) [] ∧ 2 * (stB L co n : Int) < ((n / 3 : Nat) : Int)) ∧ Ext w w' := by
 have HX := Lib.hid hx; clear hx
 have hTr := ris_sel (fun i => stHit L (i / co) (i % co + 1)) (n * co)
 replace hTr : risOK 0 (((n * co : Nat) : Int) - 1) (stE L co (n * co)) := hTr
 have hTl : (stE L co (n * co)).length ≤ n * co := sel_len _ _
 have hnc : n * co ≤ 10000 := Nat.mul_le_mul hn hco.2
 replace hTr : risOK 0 (((D + C * N : Nat) : Int) - 1) (stE L co (n * co)) := by rw [hTot]; exact hTr
 have hsd := Lib.hid (show ∀ W p2 c2, IntsAt W p2 (stE L co (n * co)) → Calls Tryz.prog 114 #[vLay p k q D C N, .slice p2 (stE L co (n * co)).length c2, .slice none 0 0] W fun e w' => SdR (sdOK D C N (stE L co (n * co)) []) e ∧ Ext W w' from fun W p2 c2 (h : IntsAt W p2 (stE L co (n * co))) => sStreamDamage_c p k q D C N p2 none c2 0 (stE L co (n * co)) [] W h (IntsAt_nil _ _) (by omega) (by simp) hlay hTr (fun i hi => absurd hi (Nat.not_lt_zero i)))
 obtain ⟨PS, hPS⟩ : ∃ P, sdOK D C N (stE L co (n * co)) [] = P := ⟨_, rfl⟩
 rw [hPS] at hsd ⊢
 clear hPS hTr hlay
 have hid := Lib.hid (show ∀ W p2 c2 (xs : List Int), IntsAt W p2 xs → xs.length = n * co → MS L co (n * co) xs → Calls Tryz.prog 115 #[.slice p2 (n * co) c2] W fun e w' => (∃ v, e = .returned v ∧ RowI W.heap.size w' v (stE L co (n * co))) ∧ Ext W w' from fun W p2 c2 xs h e hM => by
  have := l07Indices_c p2 c2 xs W h (by omega)
  rw [MS.all (by rw [e]; exact hM), e] at this
  exact this)
 have hmz := Lib.hid (MS.zero L co (n * co))
 have hms := Lib.hid (fun r c xs (h : MS L co (r * co + c) xs) (hc : c < co) => (⟨fun h2 => h.yes hc h2, fun h2 => h.no hc h2⟩ : (stHit L r (c + 1) → MS L co (r * co + (c + 1)) (xs.set (r * co + c) 1)) ∧ (¬ stHit L r (c + 1) → MS L co (r * co + (c + 1)) xs)))
 have hsb := Lib.hid (fun r => (⟨fun h3 h => stB_yes h3 h, fun h => stB_no h⟩ : (r % 3 = 2 → stHit L r (co + 1) → stB L co (r + 1) = stB L co r + 1) ∧ (¬ (r % 3 = 2 ∧ stHit L r (co + 1)) → stB L co (r + 1) = stB L co r)))
 have hcl := Lib.hid (show ∀ m, stB L co m ≤ m from fun m => cnt_le _ m)
 have hb0 := Lib.hid (show stB L co 0 = 0 from rfl)
 have hall := Lib.hid (fun r bs (hb : bs.length = co + 2) (h : HM L r L.length bs) kk (hk : kk < co + 2) => h.all (k := kk) (by rw [hb]; exact hk))
 generalize stE L co (n * co) = TE at *
 generalize stB L co = SB at *
 generalize stHit L = SH at *
 generalize MS L co = MM at *
 replace hbl := Lib.hid hbl
 have hbF := (Blk.new w #[.string nm, .int .i64 K, .int .i64 p, .int .i64 k, .int .i64 q, .slice ps ns cs, .int .i64 co, .slice pl nl cl] 55).alloc (.cells #[.int .i64 p, .int .i64 k, .int .i64 q, .int .i64 D, .int .i64 C, .int .i64 N] 95)
 have hbL := Blk.new (w.alloc (.cells #[.string nm, .int .i64 K, .int .i64 p, .int .i64 k, .int .i64 q, .slice ps ns cs, .int .i64 co, .slice pl nl cl] 55)) #[.int .i64 p, .int .i64 k, .int .i64 q, .int .i64 D, .int .i64 C, .int .i64 N] 95
 have hx0 : Ext w ((w.alloc (.cells #[.string nm, .int .i64 K, .int .i64 p, .int .i64 k, .int .i64 q, .slice ps ns cs, .int .i64 co, .slice pl nl cl] 55)).alloc (.cells #[.int .i64 p, .int .i64 k, .int .i64 q, .int .i64 D, .int .i64 C, .int .i64 N] 95)) := ((Ext.refl w).alloc _).alloc _
 simp only [World.size_alloc] at hbL
 have hI1 : Tryz.prog.underlying 158 = some (.slice 4) := by kernel_rfl
 have hI2 : (Tryz.prog.info? 4).map (fun i => (i.zero, i.size, i.bytes)) = some (some (.bool false), 1, 1) := by kernel_rfl
 have hnc2 : (n : Int) * (co : Int) = ((n * co : Nat) : Int) := (Int.natCast_mul n co).symm
 have hrcT := fun (r : Nat) (hr : r < n) => (by have := Nat.mul_le_mul_right co (show r + 1 ≤ n from hr); rw [Nat.add_mul, Nat.one_mul] at this; exact this : r * co + co ≤ n * co)
 obtain ⟨T0, hT0⟩ : ∃ T0, n * co = T0 := ⟨_, rfl⟩
 have hT1 : 1 ≤ n → 1 ≤ T0 := fun h => by rw [← hT0]; exact Nat.mul_le_mul h hco.1
 rw [hT0] at hTl hnc hTot hid hmz hnc2
 simp only [hT0] at hrcT
 replace hT0 := Lib.hid hT0; replace hrcT := Lib.hid hrcT; replace hT1 := Lib.hid hT1
 go_enter Tryz.func58, Tryz.ntmps58
 go_upto_region 1 with (fail)
 obtain ⟨gL, hgL⟩ : ∃ g, w.heap.size + 1 = g := ⟨_, rfl⟩
 rw [hgL] at hbL ⊢
 clear hgL
 obtain ⟨gF, hgF⟩ : ∃ g, w.heap.size = g := ⟨_, rfl⟩
 rw [hgF] at hbF ⊢
 clear hgF
 generalize (w.alloc (.cells #[.string nm, .int .i64 K, .int .i64 p, .int .i64 k, .int .i64 q, .slice ps ns cs, .int .i64 co, .slice pl nl cl] 55)).alloc (.cells #[.int .i64 p, .int .i64 k, .int .i64 q, .int .i64 D, .int .i64 C, .int .i64 N] 95) = w1 at *
 have a6 := hbF.cell (i := 6) (v := .int .i64 co) rfl; have aL := hbF.lt
 have hco1 : (co : Int) ≤ 100 := by omega
 go_upto_region 4 with (at_make; go_loud (refine make_blk Tryz.underlying22 infoInt T0 ?_ ?_ (by omega) (by omega) ?_; (first | rfl | (simp only [hnc2]; rfl)); (first | rfl | (simp only [hnc2]; rfl))))
 have hr2 := OwnInts.made (B := w1.heap.size) (N := T0) w1 2 (Nat.le_refl _)
 have hx12 : Ext w1 (w1.alloc (.cells (madeCells #[.int .i64 0] T0) 2)) := (Ext.refl w1).alloc _
 generalize w1.alloc (.cells (madeCells #[.int .i64 0] T0) 2) = w2 at *
 obtain ⟨g2, hg2⟩ : ∃ g, w1.heap.size = g := ⟨_, rfl⟩
 rw [hg2] at hr2 ⊢
 have hgl2 : g2 < w2.heap.size ∨ T0 = 0 := by
  by_cases h : T0 = 0
  ·exact .inr h
  ·left
   have := hr2.lt0 (fun e => by rw [List.replicate_eq_nil_iff] at e; exact h e) rfl
   exact this.2
 replace hg2 := Lib.hid hg2
 clear hgl2
 go_loopw [10, 11, 12] (fun x y i wr => ∃ (r : Nat) (xs : List Int), r ≤ n ∧ i = .int .i64 r ∧ x = .int .i64 (r / 3 : Nat) ∧ y = .int .i64 (SB r) ∧ xs.length = T0 ∧ Hid (MM (r * co) xs) ∧ OwnInts g2 wr (some ⟨g2, 0, none⟩) xs ∧ Ext w1 wr) (fun _ _ i _ => n - (intOf i).toNat)
 case atStart => exact ⟨0, _, Nat.zero_le _, rfl, rfl, by rw [hb0.out]; rfl, List.length_replicate, Lib.hid (by rw [Nat.zero_mul]; exact hmz.out), hr2, hx12⟩
 case round =>
  clear hr2 hx12
  obtain ⟨r, xs, hr, rfl, rfl, rfl, hxl, hM, hown, hext⟩ := hrel
  by_cases hlr : r < n
  ·have hri : (r : Int) < n := by omega
   have hr100 : r ≤ 100 := by omega
   have hcr := hcl.out r
   have hsb1 := hsb.out r
   generalize hSBr : SB r = sb at *
   replace hSBr := Lib.hid hSBr
   have hbr := hbF.ext hext
   have y6 := hbr.cell (i := 6) (v := .int .i64 co) rfl; have yL := hbr.lt
   have hrc1 := hrcT.out r hlr
   have hM1 : Hid (MM (r * co + 0) xs) := by rw [Nat.add_zero]; exact hM
   have hMe : (r + 1) * co = r * co + co := by rw [Nat.add_mul, Nat.one_mul]
   have hrc2 : (r : Int) * (co : Int) = ((r * co : Nat) : Int) := (Int.natCast_mul r co).symm
   have hmsr := Lib.hid (fun c xs (h : MM (r * co + c) xs) (hc : c < co) => hms.out r c xs h hc)
   generalize r * co = rc at *
   replace hMe := Lib.hid hMe
   clear hM
   obtain ⟨wo, rfl⟩ : ∃ wo : World, wo = wr := ⟨_, rfl⟩
   have hc2 := Lib.hid (show (co : Int) + 2 = ((co + 2 : Nat) : Int) by omega)
   go_upto_region 8 with (at_make; go_loud (refine make_blk hI1 hI2 (co + 2) ?_ ?_ (by omega) (by omega) ?_; (first | rfl | (rw [← hc2.out]; rfl)); (first | rfl | (rw [← hc2.out]; rfl))))
   have hh2 := bl_made (B := wo.heap.size) (N := co + 2) wo 4 (Nat.le_refl _)
   have hxh : Ext wo (wo.alloc (.cells (madeCells #[.bool false] (co + 2)) 4)) := (Ext.refl wo).alloc _
   generalize wo.alloc (.cells (madeCells #[.bool false] (co + 2)) 4) = w3 at *
   obtain ⟨g3, hg3⟩ : ∃ g, wo.heap.size = g := ⟨_, rfl⟩
   rw [hg3] at hh2 ⊢
   have hg23 : g3 ≠ g2 := by
    have h1 := (hown 0 (by have := hT1.out (by omega); omega))
    obtain ⟨b, o, e, -, hl, -⟩ := h1
    injection e with e
    injection e with e1 e2 e3
    omega
   replace hg3 := Lib.hid hg3
   clear y6 yL hbr
   go_loopw [14] (fun i wx => ∃ (m : Nat) (bs : List Bool), m ≤ L.length ∧ i = .int .i64 m ∧ bs.length = co + 2 ∧ Hid (HM L r m bs) ∧ OwnCells g3 wx (some ⟨g3, 0, none⟩) (bl bs) ∧ Ext wo wx) (fun i _ => L.length - (intOf i).toNat)
   case atStart => exact ⟨0, _, Nat.zero_le _, rfl, List.length_replicate, Lib.hid (HM.zero L r _), hh2, hxh⟩
   case round =>
    clear hh2 hxh
    obtain ⟨m, bs, hm, rfl, hbsl, hH, hhit, hext2⟩ := hrel
    have hbr := hbF.ext (hext.trans hext2)
    have y6 := hbr.cell (i := 6) (v := .int .i64 co) rfl; have yL := hbr.lt
    by_cases hlt : m < L.length
    ·have hlti : (m : Int) < L.length := by omega
     obtain ⟨b, o, rfl, hb, z0, z1⟩ := (HX.out.ext ((hx0.trans hext).trans hext2)).pl2 hlt
     have hno := fun h => hH.out.no (m := m) h
     have hset := fun K h1 h2 h3 => hH.out.set (m := m) (K := K) h1 h2 h3
     have hbd := hbl.out (L.getD m (0, 0)) (mem_getD.2 ⟨m, hlt, rfl⟩)
     generalize L.getD m (0, 0) = qq at *
     obtain ⟨qr, qc⟩ := qq
     simp only at z0 z1 hbd hno hset
     obtain ⟨a, rfl⟩ : ∃ a, qc = a + 7 := ⟨qc - 7, by omega⟩
     rw [Int.add_sub_cancel] at hno hset
     rw [hbsl] at hno
     have e1 : IntKind.i64.wrap (a + 7 - 7) = a := by rw [Int.add_sub_cancel]; exact IntWalk.i64_in _ (by omega)
     by_cases h1 : qr = (r : Int)
     ·subst h1
      by_cases ha : 0 ≤ a
      ·by_cases hac : a < 11 * ((co : Int) + 2)
       ·obtain ⟨K, hK⟩ : ∃ K : Nat, a / 11 = K := ⟨(a / 11).toNat, by omega⟩
        have e2 : a.tdiv 11 = a / 11 := Int.tdiv_eq_ediv_of_nonneg ha
        have hs1 := hset K rfl (by omega) hK
        have hKl : K < co + 2 := by omega
        obtain ⟨bb, ob, hbb, -, hbl2, z2, z3⟩ := hhit.bl_at (i := K) (by omega)
        injection hbb with hbb
        injection hbb with f1 f2 f3
        subst f1
        subst f2
        rw [Nat.zero_add] at z2 z3
        have hhit2 := hhit.bl_set (k := K) rfl (by omega)
        rw [Nat.zero_add] at hhit2
        have hsl : (bs.set K true).length = co + 2 := by rw [List.length_set]; exact hbsl
        have hx3 : Ext wo (wr.setCell ⟨g3, K, none⟩ (.bool true)) := hext2.setCell (p := ⟨g3, K, none⟩) (by have := hg3.out; simp only; omega) _
        generalize bs.set K true = bs2 at *
        generalize bs.getD K false = bv at *
        replace hs1 := Lib.hid hs1
        have hKi : (K : Int) < (co : Int) + 2 := by omega
        have hKi2 : (K : Int) < ((co + 2 : Nat) : Int) := by omega
        clear hno hset
        go_wp2
        go_roundw
        case rel => first
         | exact ⟨m + 1, bs2, hlt, by go_num, hsl, hs1, hhit2, hx3⟩
         | ((repeat apply Exists.intro); refine ⟨?_, rfl⟩; exact ⟨m + 1, bs2, hlt, by go_num, hsl, hs1, hhit2, hx3⟩)
        case measure => simp [intOf]; omega
       ·have hs1 := hno (fun h => by omega)
        have hac2 : 11 * ((co : Int) + 2) ≤ a := by omega
        replace hs1 := Lib.hid hs1
        clear hno hset
        go_wp2
        go_roundw
        case rel => first
         | exact ⟨m + 1, bs, hlt, by go_num, hbsl, hs1, hhit, hext2⟩
         | ((repeat apply Exists.intro); refine ⟨?_, rfl⟩; exact ⟨m + 1, bs, hlt, by go_num, hbsl, hs1, hhit, hext2⟩)
        case measure => simp [intOf]; omega
      ·have hs1 := hno (fun h => by omega)
       have ha2 : a < 0 := by omega
       replace hs1 := Lib.hid hs1
       clear hno hset
       go_wp2
       go_roundw
       case rel => first
        | exact ⟨m + 1, bs, hlt, by go_num, hbsl, hs1, hhit, hext2⟩
        | ((repeat apply Exists.intro); refine ⟨?_, rfl⟩; exact ⟨m + 1, bs, hlt, by go_num, hbsl, hs1, hhit, hext2⟩)
       case measure => simp [intOf]; omega
     ·have hs1 := hno (fun h => h1 h.1)
      have hd : (qr == (r : Int)) = false := by simpa using h1
      replace hs1 := Lib.hid hs1; replace h1 := Lib.hid h1
      clear hno hset
      go_wp2
      go_roundw
      case rel => first
       | exact ⟨m + 1, bs, hlt, by go_num, hbsl, hs1, hhit, hext2⟩
       | ((repeat apply Exists.intro); refine ⟨?_, rfl⟩; exact ⟨m + 1, bs, hlt, by go_num, hbsl, hs1, hhit, hext2⟩)
      case measure => simp [intOf]; omega
    ·obtain rfl : m = L.length := by omega
     have hb1 := Lib.hid (hall.out r bs hbsl hH.out)
     have hown2 := hown.ext hext2
     have hextA := hext.trans hext2
     clear hH y6 yL hbr hown hext hext2
     obtain ⟨wq, rfl⟩ : ∃ wq : World, wq = wr := ⟨_, rfl⟩
     go_upto_region 14 with (fail)
     go_loopw [16] (fun i wx => ∃ (c : Nat) (xs : List Int), c ≤ co ∧ i = .int .i64 c ∧ xs.length = T0 ∧ Hid (MM (rc + c) xs) ∧ OwnInts g2 wx (some ⟨g2, 0, none⟩) xs ∧ OwnCells g3 wx (some ⟨g3, 0, none⟩) (bl bs) ∧ Ext w1 wx) (fun i _ => co - (intOf i).toNat)
     case atStart => exact ⟨0, xs, Nat.zero_le _, rfl, hxl, hM1, hown2, hhit, hextA⟩
     case round =>
      clear hM1 hown2 hhit hextA hxl
      obtain ⟨c, xs, hc, rfl, hxl, hM, hown, hhit, hextA⟩ := hrel
      have hbr := hbF.ext hextA
      have y6 := hbr.cell (i := 6) (v := .int .i64 co) rfl; have yL := hbr.lt
      by_cases hlc : c < co
      ·have hci : (c : Int) < co := by omega
       have hm1 := hmsr.out c xs hM.out hlc
       obtain ⟨c1, hc1⟩ : ∃ c1, c + 1 = c1 := ⟨_, rfl⟩
       have hb2 := hb1.out c1 (by omega)
       obtain ⟨bb, ob, hbb, -, hbl2, z2, -⟩ := hhit.bl_at (i := c1) (by omega)
       injection hbb with hbb
       injection hbb with f1 f2 f3
       subst f1
       subst f2
       rw [Nat.zero_add] at z2
       have hc1i : (c : Int) + 1 = (c1 : Int) := by omega
       have hc2i : (c1 : Int) < ((co + 2 : Nat) : Int) := by omega
       have hc3i : c1 < co + 2 := by omega
       have hc4i : (c1 : Int) < (co : Int) + 2 := by omega
       obtain ⟨j1, hj1⟩ : ∃ j1, rc + c = j1 := ⟨_, rfl⟩
       rw [hc1, hj1] at hm1
       generalize bs.getD c1 false = bv at *
       generalize SH r c1 = HH at *
       have hj1i : (rc : Int) + (c : Int) = (j1 : Int) := by omega
       obtain ⟨bm, om, hbm, -, hbm2, z4, z5⟩ := hown j1 (by omega)
       injection hbm with hbm
       injection hbm with f4 f5 f6
       subst f4
       subst f5
       rw [Nat.zero_add] at z4 z5
       have hown3 := hown.set rfl (k := j1) (by omega) 1
       rw [Nat.zero_add] at hown3
       have hsl : (xs.set j1 1).length = T0 := by rw [List.length_set]; exact hxl
       have hhit3 := hhit.setFarN (i := j1) (v := .int .i64 1) hg23
       have hx3 : Ext w1 (wr.setCell ⟨g2, j1, none⟩ (.int .i64 1)) := hextA.setCell (p := ⟨g2, j1, none⟩) (by have := hg2.out; simp only; omega) _
       generalize xs.set j1 1 = xs2 at *
       generalize xs.getD j1 0 = xv at *
       have hrcI : (j1 : Int) < (T0 : Int) := by omega
       have hrcN : j1 < T0 := by omega
       replace hc1 := Lib.hid hc1
       obtain ⟨hmy, hmn⟩ := hm1
       replace hmy := Lib.hid hmy; replace hmn := Lib.hid hmn
       cases bv with
       | true =>
        have h3 := hmy.out (hb2.1 rfl)
        replace h3 := Lib.hid h3
        clear hb2
        go_wp2
        go_roundw
        case rel => first
         | exact ⟨c + 1, xs2, hlc, (by first | go_num | rw [hc1.out]), hsl, (by rw [hc1.out]; exact h3), hown3, hhit3, hx3⟩
         | ((repeat apply Exists.intro); refine ⟨?_, rfl⟩; exact ⟨c + 1, xs2, hlc, (by first | go_num | rw [hc1.out]), hsl, (by rw [hc1.out]; exact h3), hown3, hhit3, hx3⟩)
        case measure => simp [intOf]; omega
       | false =>
        have h3 := hmn.out (fun h => by have := hb2.2 h; cases this)
        replace h3 := Lib.hid h3
        clear hb2
        go_wp2
        go_roundw
        case rel => first
         | exact ⟨c + 1, xs, hlc, (by first | go_num | rw [hc1.out]), hxl, (by rw [hc1.out]; exact h3), hown, hhit, hextA⟩
         | ((repeat apply Exists.intro); refine ⟨?_, rfl⟩; exact ⟨c + 1, xs, hlc, (by first | go_num | rw [hc1.out]), hxl, (by rw [hc1.out]; exact h3), hown, hhit, hextA⟩)
        case measure => simp [intOf]; omega
      ·obtain rfl : c = co := by omega
       have hMn : Hid (MM ((r + 1) * c) xs) := by rw [hMe.out]; exact hM
       clear hM
       have hr33 : r / 3 ≤ r := Nat.div_le_self _ _
       by_cases h3 : r % 3 = 2
       ·have h3i : (r : Int) % 3 = 2 := by omega
        have hd3 : ((r : Int) % 3 == 2) = true := by simpa using h3i
        have hrm : (r : Int).tmod 3 = (r : Int) % 3 := Int.tmod_eq_emod_of_nonneg (by omega)
        have hr3 : (r + 1) / 3 = r / 3 + 1 := by omega
        obtain ⟨c1, hc1⟩ : ∃ c1, c + 1 = c1 := ⟨_, rfl⟩
        have hb2 := hb1.out c1 (by omega)
        obtain ⟨bb, ob, hbb, -, hbl2, z2, -⟩ := hhit.bl_at (i := c1) (by omega)
        injection hbb with hbb
        injection hbb with f1 f2 f3
        subst f1
        subst f2
        rw [Nat.zero_add] at z2
        have hc1i : (c : Int) + 1 = (c1 : Int) := by omega
        have hc2i : (c1 : Int) < ((c + 2 : Nat) : Int) := by omega
        have hc3i : c1 < c + 2 := by omega
        have hc4i : (c1 : Int) < (c : Int) + 2 := by omega
        rw [hc1] at hsb1
        replace hc1 := Lib.hid hc1
        generalize bs.getD c1 false = bv at *
        generalize SH r c1 = HH at *
        cases bv with
        | true =>
         have hs4 := hsb1.1 h3 (hb2.1 rfl)
         replace hs4 := Lib.hid hs4; replace h3 := Lib.hid h3; replace hr3 := Lib.hid hr3
         clear hsb1 hb2
         go_wp2
         go_roundw
         case rel => first
          | exact ⟨r + 1, xs, hlr, by go_num, (by rw [hr3.out]; exact congrArg (Value.int .i64) (by omega)), (by rw [hs4.out]; go_num), hxl, hMn, hown, hextA⟩
          | ((repeat apply Exists.intro); refine ⟨?_, rfl⟩; exact ⟨r + 1, xs, hlr, by go_num, (by rw [hr3.out]; exact congrArg (Value.int .i64) (by omega)), (by rw [hs4.out]; go_num), hxl, hMn, hown, hextA⟩)
         case measure => simp [intOf]; omega
        | false =>
         have hs4 := hsb1.2 (fun h => by have := hb2.2 h.2; cases this)
         replace hs4 := Lib.hid hs4; replace h3 := Lib.hid h3; replace hr3 := Lib.hid hr3
         clear hsb1 hb2
         go_wp2
         go_roundw
         case rel => first
          | exact ⟨r + 1, xs, hlr, by go_num, (by rw [hr3.out]; exact congrArg (Value.int .i64) (by omega)), (by rw [hs4.out]), hxl, hMn, hown, hextA⟩
          | ((repeat apply Exists.intro); refine ⟨?_, rfl⟩; exact ⟨r + 1, xs, hlr, by go_num, (by rw [hr3.out]; exact congrArg (Value.int .i64) (by omega)), (by rw [hs4.out]), hxl, hMn, hown, hextA⟩)
         case measure => simp [intOf]; omega
       ·have h3i : ¬ (r : Int) % 3 = 2 := by omega
        have hd3 : ((r : Int) % 3 == 2) = false := by simpa using h3i
        have hrm : (r : Int).tmod 3 = (r : Int) % 3 := Int.tmod_eq_emod_of_nonneg (by omega)
        have hr3 : (r + 1) / 3 = r / 3 := by omega
        have hs4 := hsb1.2 (fun h => h3 h.1)
        replace hs4 := Lib.hid hs4; replace h3 := Lib.hid h3; replace hr3 := Lib.hid hr3
        replace h3i := Lib.hid h3i
        clear hsb1
        go_wp2
        go_roundw
        case rel => first
         | exact ⟨r + 1, xs, hlr, by go_num, (by rw [hr3.out]; exact congrArg (Value.int .i64) (by omega)), (by rw [hs4.out]), hxl, hMn, hown, hextA⟩
         | ((repeat apply Exists.intro); refine ⟨?_, rfl⟩; exact ⟨r + 1, xs, hlr, by go_num, (by rw [hr3.out]; exact congrArg (Value.int .i64) (by omega)), (by rw [hs4.out]), hxl, hMn, hown, hextA⟩)
        case measure => simp [intOf]; omega
  ·obtain rfl : r = n := by omega
   have hcr := hcl.out r
   have hr33 : r / 3 ≤ r := Nat.div_le_self _ _
   have hM9 : MM T0 xs := by rw [← hT0.out]; exact hM.out
   have hidx := Lib.hid (fun W (h : IntsAt W (some ⟨g2, 0, none⟩) xs) => hid.out W (some ⟨g2, 0, none⟩) T0 xs h hxl hM9)
   have hi := Lib.hid hown.ints
   have hbr := hbL.ext hext
   obtain ⟨c0, c1, c2, c3, c4, c5⟩ := hbr.c6; have cL := hbr.lt
   clear hown hM hM9 hsb hms hall hbF a6 aL
   go_upto_region 22 with (fail)
   refine wp_region_canon (fun w' => Ext wr w') [(0, true), (1, true), (2, false), (3, false), (4, true), (5, true), (6, true), (7, true), (8, true)] (by kernel_rfl) (by kernel_rfl) (by decide) (by kernel_rfl) ?_ ?_
   ·exact eX
   refine canon_intro fun ops eo => ?_
   replace eo := canon_eo eo
   iterate 2 all_goals (refine cS eo rfl rfl evE ?_; simp only [ptN])
   all_goals first | (refine canon_ef (eo.out 2 rfl) rfl (fun K hK => ?_); go_simp; ((go_at_call 115; (with_reducible refine (hidx.out _ (hi.out.ext eX)).mono ?_); rintro e w20 ⟨⟨v20, rfl, hr20⟩, hx20⟩; obtain ⟨p20, c20, rfl, hoo20, -⟩ := hr20.ownC; replace hoo20 := Lib.hid hoo20.ints; clear hr20)); all_goals (refine hK _ _ ⟨(by first | assumption | exact eX), ?_⟩; clear hK K; go_simp))
   all_goals first | (refine canon_ef (eo.out 3 rfl) rfl (fun K hK => ?_); go_simp; ((go_at_call 114; (with_reducible refine (hsd.out _ _ _ (hoo20.out.ext eX)).mono ?_); rintro e w21 ⟨⟨hP, rfl⟩ | ⟨hP, rfl⟩, hx21⟩)); all_goals (refine hK _ _ ⟨(by first | assumption | exact eX), ?_⟩; clear hK K; go_simp))
   iterate 5 all_goals (refine cS eo rfl rfl evE ?_; simp only [ptN])
   all_goals (clear eo; refine canon_done (NoPanic.normal ?_))
   ·go_wp2
    go_ret
    exact ⟨isB_m (by simp only [decide_eq_true_eq]; exact ⟨fun h => ⟨hP, by omega⟩, fun h => by have := h.2; omega⟩), (hx0.trans hext).trans eX⟩
   ·go_wp2
    go_ret
    exact ⟨isB_f (fun h => hP h.1), (hx0.trans hext).trans eX⟩
end Go.Proofs.YtdnkljpnhmcnpaaGreat
