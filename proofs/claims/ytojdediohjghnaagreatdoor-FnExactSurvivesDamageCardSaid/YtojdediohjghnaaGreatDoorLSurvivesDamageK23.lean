/- Stacked symbols, the program's side: what a cell row shows. -/
import Derived.Test.YtojdediohjghnaaGreatDoorLSurvivesDamageK22
set_option linter.unusedVariables false
set_option linter.unusedSimpArgs false
namespace Go.Proofs.YtojdediohjghnaaGreatDoor
open Go.RowKit

theorem shRes {T : Array Value} {wF : World} {gO : Nat} {n0 n1 n2 n3 n4 n5 n6 n7 : Int} {ok : Bool} (h2 : T[2]? = some (.pointer (some ⟨gO, 0, none⟩))) (h3 : T[3]? = some (.bool ok)) (hF : Blk wF gO #[.int .i64 n0, .int .i64 n1, .int .i64 n2, .int .i64 n3, .int .i64 n4, .int .i64 n5, .int .i64 n6, .int .i64 n7] 254) :
  (results Tryz.f201 T).run Tryz.prog wF = .ok (.tuple #[.agg #[.int .i64 n0, .int .i64 n1, .int .i64 n2, .int .i64 n3, .int .i64 n4, .int .i64 n5, .int .i64 n6, .int .i64 n7], .bool ok]) wF := by
 have c0 := hF.cell (i := 0) (v := .int .i64 n0) rfl
 have c1 := hF.cell (i := 1) (v := .int .i64 n1) rfl
 have c2 := hF.cell (i := 2) (v := .int .i64 n2) rfl
 have c3 := hF.cell (i := 3) (v := .int .i64 n3) rfl
 have c4 := hF.cell (i := 4) (v := .int .i64 n4) rfl
 have c5 := hF.cell (i := 5) (v := .int .i64 n5) rfl
 have c6 := hF.cell (i := 6) (v := .int .i64 n6) rfl
 have c7 := hF.cell (i := 7) (v := .int .i64 n7) rfl
 simp [results, Tryz.results201, go_sem, h2, h3, c0, c1, c2, c3, c4, c5, c6, c7]
theorem shEnd {R : Ending → World → Prop} {a : Act} {wF : World} {gO : Nat} {n0 n1 n2 n3 n4 n5 n6 n7 : Int} {ok : Bool} (h2 : a.tmps[2]? = some (.pointer (some ⟨gO, 0, none⟩))) (h3 : a.tmps[3]? = some (.bool ok)) (hd : a.defers = []) (hF : Blk wF gO #[.int .i64 n0, .int .i64 n1, .int .i64 n2, .int .i64 n3, .int .i64 n4, .int .i64 n5, .int .i64 n6, .int .i64 n7] 254)
  (hR : R (.returned (.tuple #[.agg #[.int .i64 n0, .int .i64 n1, .int .i64 n2, .int .i64 n3, .int .i64 n4, .int .i64 n5, .int .i64 n6, .int .i64 n7], .bool ok])) wF) : bodyPost Tryz.prog Tryz.f201 R .ret a wF :=
 bodyPost_ret (shRes h2 h3 hF) hd hR
def ShR (xs : List Int) (w : World) (e : Ending) (w' : World) : Prop := ∃ (out : List Int) (ok : Bool), e = .returned (.tuple #[.agg (w8F out).toArray, .bool ok]) ∧ out.length = 8 ∧ (∀ v ∈ out, 0 ≤ v ∧ v ≤ 11) ∧ (ok = true ↔ okS xs) ∧ (ok = true → out = runsTo xs xs.length) ∧ Ext w w'
set_option maxHeartbeats 6400000 in
set_option maxRecDepth 100000 in
theorem shown_c (p : Option Addr) (c : Nat) (xs : List Int) (w : World) (hx : IntsAt w p xs) (hl : xs.length = 11) :
  Calls Tryz.prog 201 #[.slice p 11 c] w fun e w' => ShR xs w e w' := by
 have HX := Lib.hid hx; clear hx
 have hct := Lib.hid (fun W (h : IntsAt W p xs) => sContains_c p c (-1) xs W h (by omega))
 rw [hl] at hct
 obtain ⟨b, o, rfl, hbl, z0⟩ := HX.out 0 (by omega)
 obtain ⟨_, _, e10, _, z10⟩ := HX.out 10 (by omega)
 obtain ⟨rfl, rfl⟩ : b = _ ∧ o = _ := by simpa using e10
 clear e10
 rw [Nat.add_zero] at z0
 obtain ⟨x0, hx0⟩ : ∃ x, xs.getD 0 0 = x := ⟨_, rfl⟩
 obtain ⟨x10, hx10⟩ : ∃ x, xs.getD 10 0 = x := ⟨_, rfl⟩
 rw [hx0] at z0
 rw [hx10] at z10
 by_cases hm : (-1 : Int) ∈ xs
 ·have hno : ¬ okS xs := fun h => h.1 _ hm rfl
  replace hno := Lib.hid hno; clear hx0 hx10
  go_enter Tryz.func201, Tryz.ntmps201
  go_wp2_with (go_at_call 196; (with_reducible refine (hct.out _ (HX.out.ext eX)).mono ?_); rintro e w3 ⟨⟨hP, rfl⟩ | ⟨hP, rfl⟩, rfl⟩)
  exact bodyPost_ret (v := .tuple #[.agg #[.int .i64 0, .int .i64 0, .int .i64 0, .int .i64 0, .int .i64 0, .int .i64 0, .int .i64 0, .int .i64 0], .bool false]) (by simp [results, Tryz.results201, go_sem]) rfl ⟨[0, 0, 0, 0, 0, 0, 0, 0], false, rfl, rfl, (by decide), ⟨fun h => (by cases h), fun h => absurd h hno.out⟩, fun h => (by cases h), eX⟩
 ·by_cases h0 : x0 = 1
  ·by_cases h10 : x10 = 0
   ·subst h0; subst h10
    replace hx0 := Lib.hid hx0
    replace hx10 := Lib.hid hx10
    have kO : Blk ((w.alloc (.cells #[.int .i64 0, .int .i64 0, .int .i64 0, .int .i64 0, .int .i64 0, .int .i64 0, .int .i64 0, .int .i64 0] 254)).alloc (.cells #[.int .i64 0, .int .i64 0, .int .i64 0, .int .i64 0, .int .i64 0, .int .i64 0, .int .i64 0, .int .i64 0] 254)) w.heap.size #[.int .i64 0, .int .i64 0, .int .i64 0, .int .i64 0, .int .i64 0, .int .i64 0, .int .i64 0, .int .i64 0] 254 := (Blk.new w #[.int .i64 0, .int .i64 0, .int .i64 0, .int .i64 0, .int .i64 0, .int .i64 0, .int .i64 0, .int .i64 0] 254).alloc (.cells #[.int .i64 0, .int .i64 0, .int .i64 0, .int .i64 0, .int .i64 0, .int .i64 0, .int .i64 0, .int .i64 0] 254)
    have kW : Blk ((w.alloc (.cells #[.int .i64 0, .int .i64 0, .int .i64 0, .int .i64 0, .int .i64 0, .int .i64 0, .int .i64 0, .int .i64 0] 254)).alloc (.cells #[.int .i64 0, .int .i64 0, .int .i64 0, .int .i64 0, .int .i64 0, .int .i64 0, .int .i64 0, .int .i64 0] 254)) (w.heap.size + 1) (w8F (runsTo xs 0)).toArray 254 := by
     have := Blk.new (w.alloc (.cells #[.int .i64 0, .int .i64 0, .int .i64 0, .int .i64 0, .int .i64 0, .int .i64 0, .int .i64 0, .int .i64 0] 254)) #[.int .i64 0, .int .i64 0, .int .i64 0, .int .i64 0, .int .i64 0, .int .i64 0, .int .i64 0, .int .i64 0] 254
     rwa [World.size_alloc] at this
    have x1 : Ext w ((w.alloc (.cells #[.int .i64 0, .int .i64 0, .int .i64 0, .int .i64 0, .int .i64 0, .int .i64 0, .int .i64 0, .int .i64 0] 254)).alloc (.cells #[.int .i64 0, .int .i64 0, .int .i64 0, .int .i64 0, .int .i64 0, .int .i64 0, .int .i64 0, .int .i64 0] 254)) := ((Ext.refl w).alloc _).alloc _
    go_enter Tryz.func201, Tryz.ntmps201
    go_wp2_with (go_at_call 196; (with_reducible refine (hct.out _ (HX.out.ext eX)).mono ?_); rintro e w3 ⟨⟨hP, rfl⟩ | ⟨hP, rfl⟩, rfl⟩)
    ·exact absurd hP hm
    have hm2 := Lib.hid hm
    clear hct hP hm
    generalize ((w.alloc (.cells #[.int .i64 0, .int .i64 0, .int .i64 0, .int .i64 0, .int .i64 0, .int .i64 0, .int .i64 0, .int .i64 0] 254)).alloc (.cells #[.int .i64 0, .int .i64 0, .int .i64 0, .int .i64 0, .int .i64 0, .int .i64 0, .int .i64 0, .int .i64 0] 254)) = w1 at *
    obtain ⟨gO, hgO⟩ : ∃ g, w.heap.size = g := ⟨_, rfl⟩
    obtain ⟨gW, hgW⟩ : ∃ g, w.heap.size + 1 = g := ⟨_, rfl⟩
    have hne : w.heap.size ≤ gO ∧ w.heap.size ≤ gW ∧ gO ≠ gW ∧ b ≠ gW ∧ b ≠ gO := by omega
    rw [hgW] at kW ⊢
    rw [hgO] at kO ⊢
    clear hgO hgW z0 z10
    go_loopw [5, 29] (fun pt i wr => ∃ k : Nat, k ≤ 11 ∧ i = .int .i64 k ∧ pt = .int .i64 (((runsTo xs k).length - 1 : Nat)) ∧ (runsTo xs k).length ≤ 8 ∧ Blk wr gW (w8F (runsTo xs k)).toArray 254 ∧ Blk wr gO #[.int .i64 0, .int .i64 0, .int .i64 0, .int .i64 0, .int .i64 0, .int .i64 0, .int .i64 0, .int .i64 0] 254 ∧ Ext w wr) (fun _ i _ => 11 - (intOf i).toNat)
    case atStart => exact ⟨0, Nat.zero_le _, rfl, rfl, Nat.zero_le _, kW, kO, x1⟩
    case round =>
     clear kW kO x1
     obtain ⟨k, hk, rfl, rfl, h8, hW, hO, hext⟩ := hrel
     by_cases hlt : k < 11
     ·obtain ⟨b', o', e0, hbl2, zk⟩ := (HX.out.ext hext) k (by omega)
      obtain ⟨rfl, rfl⟩ : b' = b ∧ o' = o := by simpa using e0.symm
      clear e0
      have hWl := hW.lt; have hWf := hW.free
      have hbd := runsTo_bd xs k ((runsTo xs k).length - 1)
      by_cases hgo : 0 < k ∧ xs.getD k 0 = xs.getD (k - 1) 0
      ·have hst := runsTo_go hgo
       obtain ⟨hk0, hxe⟩ := hgo
       obtain ⟨_, _, e0, _, zp⟩ := (HX.out.ext hext) (k - 1) (by omega)
       obtain ⟨rfl, rfl⟩ : b' = _ ∧ o' = _ := by simpa using e0
       clear e0
       rw [← hxe] at zp
       clear hxe
       generalize xs.getD k 0 = xk at *
       have hl0 := (runsTo_len xs k).2 hk0
       have hW2 := hW.set ((runsTo xs k).length - 1) (.int .i64 ((runsTo xs k).getD ((runsTo xs k).length - 1) 0 + 1))
       rw [w8_upd (by omega) _ (l' := runsTo xs (k + 1)) (fun i _ => by rw [hst]; exact incL_getD hl0 i)] at hW2
       have hO2 := hO.far (g' := gW) (i := (runsTo xs k).length - 1) hne.2.2.1 (.int .i64 ((runsTo xs k).getD ((runsTo xs k).length - 1) 0 + 1))
       have hx2 := hext.setCell (p := ⟨gW, (runsTo xs k).length - 1, none⟩) hne.2.1 (.int .i64 ((runsTo xs k).getD ((runsTo xs k).length - 1) 0 + 1))
       have zq := hW.cell (w8_at (ns := runsTo xs k) (k := (runsTo xs k).length - 1) (by omega))
       have hlen2 : (runsTo xs (k + 1)).length = (runsTo xs k).length := by rw [hst, incL_len]
       have hq : (runsTo xs k).length - 1 < 8 := by omega
       have hfin := Lib.hid (show ((runsTo xs k).length - 1 = (runsTo xs (k + 1)).length - 1 ∧ (runsTo xs (k + 1)).length ≤ 8) from ⟨by rw [hlen2], by omega⟩)
       clear hst hlen2 hl0 hW hO
       generalize (runsTo xs k).length - 1 = q at *
       generalize (runsTo xs k).getD q 0 = y at *
       go_wp2
       exact ⟨⟨k + 1, hlt, by go_num, by rw [← hfin.out.1], hfin.out.2, hW2, hO2, hx2⟩, by simp [intOf]; omega⟩
      ·have hst := runsTo_new hgo
       rcases Nat.eq_zero_or_pos k with rfl | hk0
       ·clear hgo
        generalize xs.getD 0 0 = xk at *
        have hW2 := hW.set 0 (.int .i64 1)
        rw [w8_upd (by omega) _ (l' := runsTo xs (0 + 1)) (fun i _ => by rw [hst]; exact app1_getD [] i)] at hW2
        have hO2 := hO.far (g' := gW) (i := 0) hne.2.2.1 (.int .i64 1)
        have hx2 := hext.setCell (p := ⟨gW, 0, none⟩) hne.2.1 (.int .i64 1)
        have zq : wr.cell? ⟨gW, 0, none⟩ = some (.int .i64 0) := hW.cell (w8_at (ns := runsTo xs 0) (k := 0) (by omega))
        have hfin := Lib.hid (show (0 : Nat) = (runsTo xs (0 + 1)).length - 1 ∧ (runsTo xs (0 + 1)).length ≤ 8 from by rw [hst]; exact ⟨rfl, (by decide : (1 : Nat) ≤ 8)⟩)
        clear hst hW hO h8 hbd
        rw [show (runsTo xs 0).length - 1 = 0 from rfl, show ((0 : Nat) : Int) = 0 from rfl]
        rw [Nat.add_zero] at zk
        go_wp2
        exact ⟨⟨0 + 1, hlt, by go_num, by rw [← hfin.out.1]; rfl, hfin.out.2, hW2, hO2, hx2⟩, by simp [intOf]⟩
       ·have hxe : xs.getD k 0 ≠ xs.getD (k - 1) 0 := fun e => hgo ⟨hk0, e⟩
        clear hgo
        obtain ⟨_, _, e0, _, zp⟩ := (HX.out.ext hext) (k - 1) (by omega)
        obtain ⟨rfl, rfl⟩ : b' = _ ∧ o' = _ := by simpa using e0
        clear e0
        generalize xs.getD k 0 = xk at *
        generalize xs.getD (k - 1) 0 = xp at *
        have hxb : (xk == xp) = false := by simpa using hxe
        have hl0 := (runsTo_len xs k).2 hk0
        by_cases h7 : (runsTo xs k).length = 8
        ·have hno : ¬ okS xs := fun h => by
          have h1 := runsTo_mono xs (i := k + 1) (j := xs.length) (by omega)
          rw [hst, List.length_append, h7, h.2.2.2] at h1
          exact absurd h1 (by decide)
         replace hno := Lib.hid hno
         have hbA : ∀ i, 0 ≤ (runsTo xs k).getD i 0 ∧ (runsTo xs k).getD i 0 ≤ k := runsTo_bd xs k
         rw [w8_lit] at hW
         have hnz : (runsTo xs k).length - 1 = 7 := by omega
         rw [hnz, show ((7 : Nat) : Int) = 7 from rfl]
         have hb8 := Lib.hid (show ∀ v ∈ [(runsTo xs k).getD 0 0, (runsTo xs k).getD 1 0, (runsTo xs k).getD 2 0, (runsTo xs k).getD 3 0, (runsTo xs k).getD 4 0, (runsTo xs k).getD 5 0, (runsTo xs k).getD 6 0, (runsTo xs k).getD 7 0], 0 ≤ v ∧ v ≤ 11 from by intro v hv; simp only [List.mem_cons, List.not_mem_nil, or_false] at hv; rcases hv with rfl | rfl | rfl | rfl | rfl | rfl | rfl | rfl <;> exact ⟨(hbA _).1, Int.le_trans (hbA _).2 (by omega)⟩)
         clear hbA
         generalize (runsTo xs k).getD 0 0 = n0 at *
         generalize (runsTo xs k).getD 1 0 = n1 at *
         generalize (runsTo xs k).getD 2 0 = n2 at *
         generalize (runsTo xs k).getD 3 0 = n3 at *
         generalize (runsTo xs k).getD 4 0 = n4 at *
         generalize (runsTo xs k).getD 5 0 = n5 at *
         generalize (runsTo xs k).getD 6 0 = n6 at *
         generalize (runsTo xs k).getD 7 0 = n7 at *
         have hOl := hO.lt
         have hOf := hO.free
         obtain ⟨q0, q1, q2, q3, q4, q5, q6, q7⟩ := hW.c8
         clear h7 hst hl0 hbd h8 hnz
         go_wp2_with (refine wp_store8 hO ?_ rfl rfl; intro w9 hE9 hB9 hF9)
         refine shEnd (ok := false) (by rfl) (by first | rfl | simp [hq7]) rfl hF9 ?_; exact ⟨[n0, n1, n2, n3, n4, n5, n6, n7], false, rfl, rfl, hb8.out, ⟨fun h => (by cases h), fun h => absurd h hno.out⟩, fun h => (by cases h), hE9 _ hext hne.1⟩
        ·have hW2 := hW.set (runsTo xs k).length (.int .i64 ((runsTo xs k).getD (runsTo xs k).length 0 + 1))
         rw [w8_upd (by omega) _ (l' := runsTo xs (k + 1)) (fun i _ => by rw [hst]; exact app1_getD _ i)] at hW2
         have hO2 := hO.far (g' := gW) (i := (runsTo xs k).length) hne.2.2.1 (.int .i64 ((runsTo xs k).getD (runsTo xs k).length 0 + 1))
         have hx2 := hext.setCell (p := ⟨gW, (runsTo xs k).length, none⟩) hne.2.1 (.int .i64 ((runsTo xs k).getD (runsTo xs k).length 0 + 1))
         have zq := hW.cell (w8_at (ns := runsTo xs k) (k := (runsTo xs k).length) (by omega))
         have hbd2 := runsTo_bd xs k (runsTo xs k).length
         have hlen2 : (runsTo xs (k + 1)).length = (runsTo xs k).length + 1 := by rw [hst, List.length_append]; rfl
         have hfin := Lib.hid (show ((runsTo xs k).length = (runsTo xs (k + 1)).length - 1 ∧ (runsTo xs (k + 1)).length ≤ 8) from ⟨by omega, by omega⟩)
         clear hst hlen2 hW hO hbd
         obtain ⟨q, hq⟩ : ∃ q, (runsTo xs k).length = q + 1 := ⟨(runsTo xs k).length - 1, by omega⟩
         rw [hq] at hW2 hO2 hx2 zq hbd2 hfin h8 h7
         rw [show (runsTo xs k).length - 1 = q from by omega]
         generalize (runsTo xs k).getD (q + 1) 0 = y at *
         clear hq hl0 hxe
         go_wp2
         exact ⟨⟨k + 1, hlt, by go_num, by rw [← hfin.out.1]; rfl, hfin.out.2, hW2, hO2, hx2⟩, by simp [intOf]; omega⟩
     ·skip
      obtain rfl : k = 11 := by omega
      have hok : ((runsTo xs 11).length = 8) ↔ okS xs := ⟨fun h => ⟨fun x hx e => hm2.out (e ▸ hx), hx0.out, by rw [hl]; exact hx10.out, by rw [hl]; exact h⟩, fun h => by have := h.2.2.2; rw [hl] at this; exact this⟩
      have hpos := (runsTo_len xs 11).2 (by decide)
      have heq : (runsTo xs 11).length = 8 → [(runsTo xs 11).getD 0 0, (runsTo xs 11).getD 1 0, (runsTo xs 11).getD 2 0, (runsTo xs 11).getD 3 0, (runsTo xs 11).getD 4 0, (runsTo xs 11).getD 5 0, (runsTo xs 11).getD 6 0, (runsTo xs 11).getD 7 0] = runsTo xs 11 := fun h => by
       obtain ⟨m0, m1, m2, m3, m4, m5, m6, m7, e⟩ := eight_of h
       rw [e]
       rfl
      rw [w8_lit] at hW
      obtain ⟨L, hL⟩ : ∃ L, (runsTo xs 11).length = L := ⟨_, rfl⟩
      rw [hL] at hok hpos heq h8 ⊢
      clear hL
      replace heq := Lib.hid heq
      replace hok := Lib.hid hok
      have hbA : ∀ i, 0 ≤ (runsTo xs 11).getD i 0 ∧ (runsTo xs 11).getD i 0 ≤ (11 : Nat) := runsTo_bd xs 11
      obtain ⟨R, hR⟩ : ∃ R, runsTo xs 11 = R := ⟨_, rfl⟩
      rw [hR] at heq hW hbA
      have hb8 := Lib.hid (show ∀ v ∈ [R.getD 0 0, R.getD 1 0, R.getD 2 0, R.getD 3 0, R.getD 4 0, R.getD 5 0, R.getD 6 0, R.getD 7 0], 0 ≤ v ∧ v ≤ 11 from by intro v hv; simp only [List.mem_cons, List.not_mem_nil, or_false] at hv; rcases hv with rfl | rfl | rfl | rfl | rfl | rfl | rfl | rfl <;> exact ⟨(hbA _).1, Int.le_trans (hbA _).2 (by omega)⟩)
      clear hbA
      generalize R.getD 0 0 = n0 at *
      generalize R.getD 1 0 = n1 at *
      generalize R.getD 2 0 = n2 at *
      generalize R.getD 3 0 = n3 at *
      generalize R.getD 4 0 = n4 at *
      generalize R.getD 5 0 = n5 at *
      generalize R.getD 6 0 = n6 at *
      generalize R.getD 7 0 = n7 at *
      have hOl := hO.lt
      have hOf := hO.free
      obtain ⟨q0, q1, q2, q3, q4, q5, q6, q7⟩ := hW.c8
      by_cases hL8 : L = 8
      ·subst hL8
       rw [show ((8 - 1 : Nat) : Int) = 7 from rfl, show ((11 : Nat) : Int) = 11 from rfl]
       go_wp2_with (refine wp_store8 hO ?_ rfl rfl; intro w9 hE9 hB9 hF9)
       refine shEnd (ok := true) (by rfl) (by first | rfl | simp [hq7]) rfl hF9 ?_; exact ⟨[n0, n1, n2, n3, n4, n5, n6, n7], true, rfl, rfl, hb8.out, ⟨fun _ => hok.out.1 trivial, fun _ => rfl⟩, fun _ => by rw [hl]; exact (heq.out trivial).trans hR.symm, hE9 _ hext hne.1⟩
      ·obtain ⟨q, rfl⟩ : ∃ q, L = q + 1 := ⟨L - 1, by omega⟩
       have hq7 : ((q : Int) == 7) = false := by simp; omega
       have hno := Lib.hid (fun h => hL8 (hok.out.2 h))
       rw [show q + 1 - 1 = q from rfl, show ((11 : Nat) : Int) = 11 from rfl]
       go_wp2_with (refine wp_store8 hO ?_ rfl rfl; intro w9 hE9 hB9 hF9)
       refine shEnd (ok := false) (by rfl) (by first | rfl | simp [hq7]) rfl hF9 ?_; exact ⟨[n0, n1, n2, n3, n4, n5, n6, n7], false, rfl, rfl, hb8.out, ⟨fun h => (by cases h), fun h => absurd h hno.out⟩, fun h => (by cases h), hE9 _ hext hne.1⟩
   ·have hno : ¬ okS xs := fun h => h10 (by have := h.2.2.1; rw [hl] at this; exact hx10.symm.trans this)
    replace hno := Lib.hid hno; clear hx0 hx10
    go_enter Tryz.func201, Tryz.ntmps201
    go_wp2_with (go_at_call 196; (with_reducible refine (hct.out _ (HX.out.ext eX)).mono ?_); rintro e w3 ⟨⟨hP, rfl⟩ | ⟨hP, rfl⟩, rfl⟩)
    all_goals first | (exact absurd hP hm) | skip
    exact bodyPost_ret (v := .tuple #[.agg #[.int .i64 0, .int .i64 0, .int .i64 0, .int .i64 0, .int .i64 0, .int .i64 0, .int .i64 0, .int .i64 0], .bool false]) (by simp [results, Tryz.results201, go_sem]) rfl ⟨[0, 0, 0, 0, 0, 0, 0, 0], false, rfl, rfl, (by decide), ⟨fun h => (by cases h), fun h => absurd h hno.out⟩, fun h => (by cases h), eX⟩
  ·have hno : ¬ okS xs := fun h => h0 (hx0.symm.trans h.2.1)
   replace hno := Lib.hid hno; clear hx0 hx10
   go_enter Tryz.func201, Tryz.ntmps201
   go_wp2_with (go_at_call 196; (with_reducible refine (hct.out _ (HX.out.ext eX)).mono ?_); rintro e w3 ⟨⟨hP, rfl⟩ | ⟨hP, rfl⟩, rfl⟩)
   all_goals first | (exact absurd hP hm) | skip
   exact bodyPost_ret (v := .tuple #[.agg #[.int .i64 0, .int .i64 0, .int .i64 0, .int .i64 0, .int .i64 0, .int .i64 0, .int .i64 0, .int .i64 0], .bool false]) (by simp [results, Tryz.results201, go_sem]) rfl ⟨[0, 0, 0, 0, 0, 0, 0, 0], false, rfl, rfl, (by decide), ⟨fun h => (by cases h), fun h => absurd h hno.out⟩, fun h => (by cases h), eX⟩
end Go.Proofs.YtojdediohjghnaaGreatDoor
