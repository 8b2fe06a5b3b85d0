/- Stacked symbols, the program's side: the values of a row. -/
import Derived.Test.YtojdediohjghnaaGreatDoorLSurvivesDamageK23
import Derived.Test.YtojdediohjghnaaGreatDoorLSurvivesDamageK07
set_option linter.unusedVariables false
set_option linter.unusedSimpArgs false
namespace Go.Proofs.YtojdediohjghnaaGreatDoor
open Go.RowKit Go.MapKept Go.ChangeMaps Go.Maps

theorem IntsAt.sub {w : World} {b o : Nat} {xs : List Int} (h : IntsAt w (some ⟨b, o, none⟩) xs) (i m : Nat) : IntsAt w (some ⟨b, o + i, none⟩) ((xs.drop i).take m) := fun j hj => by
 have hj2 : j < m ∧ i + j < xs.length := by
  rw [List.length_take, List.length_drop] at hj
  omega
 obtain ⟨b', o', e, h2, h3⟩ := h (i + j) hj2.2
 obtain ⟨rfl, rfl⟩ : b = b' ∧ o = o' := by simpa using e
 refine ⟨b, o + i, rfl, h2, ?_⟩
 have hv : ((xs.drop i).take m).getD j 0 = xs.getD (i + j) 0 := by
  rw [List.getD_eq_getElem?_getD, List.getD_eq_getElem?_getD, List.getElem?_take_of_lt hj2.1, List.getElem?_drop]
 rw [hv, Nat.add_assoc]
 exact h3
def rowN (n : Nat) : Nat := (n - 15) / 11
theorem rowN_more {n j : Nat} : j < rowN n ↔ 7 + 11 * j + 11 + 8 ≤ n := by
 unfold rowN
 omega
theorem idxF_val (x : L8) : idxF 120 x = match idxP x.1 with
  | some i => some (.int .i64 (i : Nat))
  | none => none := by
 unfold idxF
 cases h : idxP x.1 with
 | none => rfl
 | some i => exact if_pos (idxP_some h).1
set_option maxHeartbeats 1600000 in
set_option maxRecDepth 100000 in
theorem readRow_c (g : Nat) (b o c : Nat) (xs : List Int) (cl : Int) (w : World) (hm : MapA 254 eW8 w g 120 (idxF 120)) (hx : IntsAt w (some ⟨b, o, none⟩) xs) (hl : xs.length ≤ 100000) (hc : xs.length ≤ c) (hbd : ∀ x ∈ xs, -1 ≤ x ∧ x ≤ 1) :
  Calls Tryz.prog 168 #[.map (some g), .slice (some ⟨b, o, none⟩) xs.length c, .int .i64 cl] w fun e w' => (∃ v, e = .returned v ∧ RowI w.heap.size w' v (rowV xs cl (rowN xs.length))) ∧ Ext w w' := by
 have HX := Lib.hid hx; clear hx
 have hsh := Lib.hid (fun p c ys W (h : IntsAt W p ys) (h2 : ys.length = 11) => shown_c p c ys W h h2)
 have hbd2 := Lib.hid hbd; clear hbd
 go_enter Tryz.func168, Tryz.ntmps168
 go_wp2
 go_loopw [7, 8] (fun v at_ wr => ∃ j q : Nat, j ≤ rowN xs.length ∧ Hid (q = 7 + 11 * j) ∧ at_ = .int .i64 q ∧ RowI w.heap.size wr v (rowV xs cl j) ∧ Ext w wr) (fun _ i _ => 200000 - (intOf i).toNat)
 case atStart => exact ⟨0, 7, Nat.zero_le _, Lib.hid rfl, rfl, RowI.made (Nat.le_refl _), (Ext.refl w).alloc _⟩
 case round =>
  obtain ⟨j, q, hj, hq, rfl, hown, hext⟩ := hrel
  by_cases hlt : j < rowN xs.length
  ·have hmore : q + 11 + 8 ≤ xs.length := by have := rowN_more.1 hlt; have := hq.out; omega
   have hin : q + 11 ≤ xs.length := by omega
   have hy := (HX.out.ext hext).sub q 11
   have hyl : ((xs.drop q).take 11).length = 11 := by rw [List.length_take, List.length_drop]; omega
   have hyb : ∀ x ∈ (xs.drop q).take 11, -1 ≤ x ∧ x ≤ 1 := fun x hm => hbd2.out x (List.mem_of_mem_drop (List.mem_of_mem_take hm))
   have hrow : rowV xs cl (j + 1) = rowV xs cl j ++ [rvl ((xs.drop q).take 11) cl] := by rw [rowV_succ, hq.out]
   have hjl := rowV_len xs cl j
   have hjr : rowN xs.length ≤ 10000 := by unfold rowN; omega
   generalize (xs.drop q).take 11 = ys at *
   have hyes := Lib.hid (fun h => rvl_ok (cl := cl) (show 0 < ys.length by omega) hyb h)
   have hnoo := Lib.hid (fun h => rvl_no (cl := cl) (show 0 < ys.length by omega) hyb h)
   replace hrow := Lib.hid hrow; replace hyl := Lib.hid hyl
   generalize rowV xs cl j = V at *
   clear hyb
   have hc3 := Lib.hid (hsh.out (some ⟨b, o + q, none⟩) (c - q) ys _ hy hyl.out)
   clear hy
   have hcq : q ≤ c := by omega
   go_upto_region 7 with (first
    | (go_at_call 201; (with_reducible refine (hc3.out).mono ?_); rintro e w3 ⟨out, ok, rfl, ho8, hob, hok, hrun, hx3⟩; obtain ⟨n0, n1, n2, n3, n4, n5, n6, n7, rfl⟩ := eight_of ho8)
    | (refine wp_store8 (Blk.new w3 _ _) ?_ rfl rfl; intro w5 hE5 hB5 hF5))
   replace hF5 : Blk w5 w3.heap.size #[.int .i64 n0, .int .i64 n1, .int .i64 n2, .int .i64 n3, .int .i64 n4, .int .i64 n5, .int .i64 n6, .int .i64 n7] 254 := hF5
   have hx35 := hE5 w3 ((Ext.refl w3).alloc _) (Nat.le_refl _)
   have hext5 := (hext.trans hx3).trans hx35
   have hown5 := (hown.ext hx3).ext hx35
   have hm5 := hm.ext hext5
   have hB : w.heap.size ≤ w5.heap.size := hext5.size
   obtain ⟨kl, hkl⟩ := w8Key (x := ⟨[n0, n1, n2, n3, n4, n5, n6, n7], rfl⟩) (fun v hv => by have := hob v hv; omega)
   have hval := idxF_val ⟨[n0, n1, n2, n3, n4, n5, n6, n7], rfl⟩
   obtain ⟨k0, k1, k2, k3, k4, k5, k6, k7⟩ := hF5.c8
   have kL := hF5.lt
   replace hkl := Lib.hid hkl; replace hrun := Lib.hid hrun; replace hok := Lib.hid hok
   clear hE5 hB5 hF5 hx35 hx3 hown hext hob hc3
   have hr1 : ok = true → rvl ys cl = match idxP [n0, n1, n2, n3, n4, n5, n6, n7] with
     | some i => if (i : Int) % 3 = cl ∧ i < 96 then ((i / 3 : Nat) : Int) else -1
     | none => -1 := fun h => by rw [hrun.out h]; exact hyes.out (hok.out.1 h)
   have hr2 : ok = false → rvl ys cl = -1 := fun h => hnoo.out (fun h2 => by have := hok.out.2 h2; rw [h] at this; cases this)
   simp only at hval
   cases hI : idxP [n0, n1, n2, n3, n4, n5, n6, n7] with
   | none =>
    have hR : rvl ys cl = -1 := by
     cases hok2 : ok with
     | true => rw [hr1 hok2, hI]
     | false => exact hr2 hok2
    rw [hR] at hrow
    rw [hI] at hval
    replace hval := Lib.hid hval
    clear hr1 hr2 hI hR hrun
    go_upto_region 8 with (refine wp_lookok (y := (⟨[n0, n1, n2, n3, n4, n5, n6, n7], rfl⟩ : L8)) hm5 w8Keyed Tryz.underlying225 (z := .int .i64 0) (by kernel_rfl) hkl.out ?_ rfl rfl; rw [hval.out])
    cases ok with
    | true =>
     go_wp2_with (at_builtin; go_loud (refine append1I hown5 (by omega) (by omega) ?_ rfl rfl); intro v6 w6 hown6 hb6)
     exact ⟨⟨j + 1, q + 11, hlt, Lib.hid (by have := hq.out; omega), by go_num, by rw [hrow.out]; exact hown6, hext5.trans3 hb6⟩, by simp [intOf]; omega⟩
    | false =>
     go_wp2_with (at_builtin; go_loud (refine append1I hown5 (by omega) (by omega) ?_ rfl rfl); intro v6 w6 hown6 hb6)
     exact ⟨⟨j + 1, q + 11, hlt, Lib.hid (by have := hq.out; omega), by go_num, by rw [hrow.out]; exact hown6, hext5.trans3 hb6⟩, by simp [intOf]; omega⟩
   | some i =>
    have hi := (idxP_some hI).1
    rw [hI] at hval
    replace hval := Lib.hid hval
    go_upto_region 8 with (refine wp_lookok (y := (⟨[n0, n1, n2, n3, n4, n5, n6, n7], rfl⟩ : L8)) hm5 w8Keyed Tryz.underlying225 (z := .int .i64 0) (by kernel_rfl) hkl.out ?_ rfl rfl; rw [hval.out])
    cases ok with
    | false =>
     rw [hr2 rfl] at hrow
     clear hr1 hr2 hI hrun
     go_wp2_with (at_builtin; go_loud (refine append1I hown5 (by omega) (by omega) ?_ rfl rfl); intro v6 w6 hown6 hb6)
     exact ⟨⟨j + 1, q + 11, hlt, Lib.hid (by have := hq.out; omega), by go_num, by rw [hrow.out]; exact hown6, hext5.trans3 hb6⟩, by simp [intOf]; omega⟩
    | true =>
     have hr := hr1 rfl
     rw [hI] at hr
     simp only at hr
     clear hr1 hr2 hI hrun
     by_cases h96 : i < 96
     ·by_cases h3 : (i : Int) % 3 = cl
      ·rw [if_pos ⟨h3, h96⟩] at hr
       rw [hr] at hrow
       have h3b : ((i : Int) % 3 == cl) = true := by simpa using h3
       clear hr h3
       go_wp2_with (at_builtin; go_loud (refine append1I hown5 (by omega) (by omega) ?_ rfl rfl); intro v6 w6 hown6 hb6)
       exact ⟨⟨j + 1, q + 11, hlt, Lib.hid (by have := hq.out; omega), by go_num, by rw [hrow.out]; exact hown6, hext5.trans3 hb6⟩, by simp [intOf]; omega⟩
      ·rw [if_neg (fun h => h3 h.1)] at hr
       rw [hr] at hrow
       have h3b : ((i : Int) % 3 == cl) = false := by simpa using h3
       clear hr h3
       go_wp2_with (at_builtin; go_loud (refine append1I hown5 (by omega) (by omega) ?_ rfl rfl); intro v6 w6 hown6 hb6)
       exact ⟨⟨j + 1, q + 11, hlt, Lib.hid (by have := hq.out; omega), by go_num, by rw [hrow.out]; exact hown6, hext5.trans3 hb6⟩, by simp [intOf]; omega⟩
     ·rw [if_neg (fun h => h96 h.2)] at hr
      rw [hr] at hrow
      clear hr
      go_wp2_with (at_builtin; go_loud (refine append1I hown5 (by omega) (by omega) ?_ rfl rfl); intro v6 w6 hown6 hb6)
      exact ⟨⟨j + 1, q + 11, hlt, Lib.hid (by have := hq.out; omega), by go_num, by rw [hrow.out]; exact hown6, hext5.trans3 hb6⟩, by simp [intOf]; omega⟩
  ·have hno : ¬ q + 11 + 8 ≤ xs.length := fun h => hlt (rowN_more.2 (by have := hq.out; omega))
   obtain rfl : j = rowN xs.length := by omega
   have hqb : q ≤ 100020 := by have := hq.out; unfold rowN at this; omega
   go_wp2
   go_ret
   exact ⟨⟨_, rfl, hown⟩, hext⟩
end Go.Proofs.YtojdediohjghnaaGreatDoor
/- Stacked symbols, the reference's side: widths and values of cells. -/
namespace Go.Proofs.YtojdediohjghnaaGreatDoor
open Go.RowKit

def gdX (xs : List Int) : Prop := (∀ x ∈ xs, 0 ≤ x) ∧ xs.getD 0 0 ≠ 0
def WdR (xs : List Int) (w : World) (e : Ending) (w' : World) : Prop :=
 (gdX xs ∧ ∃ v, e = .returned (.tuple #[v, .bool true]) ∧ RowI w.heap.size w' v (runsTo xs xs.length)) ∨ (¬ gdX xs ∧ e = .returned (.tuple #[.slice none 0 0, .bool false]))
theorem at_mem {xs : List Int} {k : Nat} (h : k < xs.length) : xs.getD k 0 ∈ xs := by
 rw [List.getD_eq_getElem?_getD, List.getElem?_eq_getElem h]
 exact List.getElem_mem h
set_option maxHeartbeats 1600000 in
set_option maxRecDepth 100000 in
theorem l17Widths_c (b o c : Nat) (xs : List Int) (w : World) (hx : IntsAt w (some ⟨b, o, none⟩) xs) (hl : xs.length = 11) :
  Calls Tryz.prog 191 #[.slice (some ⟨b, o, none⟩) 11 c] w fun e w' => WdR xs w e w' ∧ Ext w w' := by
 have HX := Lib.hid hx; clear hx
 have hg0 := Lib.hid (fun (h : xs.getD 0 0 ≠ 0) (h2 : ∀ x ∈ xs.take 11, 0 ≤ x) => (show gdX xs from ⟨by rwa [List.take_of_length_le (by omega)] at h2, h⟩))
 have hm0 := RowI.made (B := w.heap.size) (w := w) (Nat.le_refl _)
 have hx0 : Ext w (w.alloc (.cells #[] 2)) := (Ext.refl w).alloc _
 go_enter Tryz.func191, Tryz.ntmps191
 go_wp2
 go_loopw [4, 5] (fun v i wr => ∃ k : Nat, k ≤ 11 ∧ i = .int .i64 k ∧ RowI w.heap.size wr v (runsTo xs k) ∧ Hid ((0 < k → xs.getD 0 0 ≠ 0) ∧ ∀ x ∈ xs.take k, 0 ≤ x) ∧ Ext w wr) (fun _ i _ => 11 - (intOf i).toNat)
 case atStart => exact ⟨0, Nat.zero_le _, rfl, hm0, Lib.hid ⟨fun h => absurd h (Nat.lt_irrefl 0), by simp⟩, hx0⟩
 case round =>
  clear hm0 hx0
  obtain ⟨k, hk, rfl, hown, hgd, hext⟩ := hrel
  by_cases hlt : k < 11
  ·obtain ⟨_, _, e0, hbl, zk⟩ := (HX.out.ext hext) k (by omega)
   obtain ⟨rfl, rfl⟩ : b = _ ∧ o = _ := by simpa using e0
   clear e0
   obtain ⟨_, _, e0, _, z0⟩ := (HX.out.ext hext) 0 (by omega)
   obtain ⟨rfl, rfl⟩ : b = _ ∧ o = _ := by simpa using e0
   clear e0
   rw [Nat.add_zero] at z0
   have hkm := at_mem (xs := xs) (k := k) (by omega)
   by_cases hneg : xs.getD k 0 < 0
   ·have hno := Lib.hid (show ¬ gdX xs from fun h => absurd (h.1 _ hkm) (by omega))
    clear hown hkm
    generalize xs.getD k 0 = xk at *
    generalize xs.getD 0 0 = x0 at *
    go_wp2
    go_ret2
    exact ⟨.inr ⟨hno.out, rfl⟩, hext⟩
   ·by_cases hz : xs.getD 0 0 = 0
    ·have hno := Lib.hid (show ¬ gdX xs from fun h => h.2 hz)
     clear hown hkm
     rw [hz] at z0
     generalize xs.getD k 0 = xk at *
     go_wp2
     go_ret2
     exact ⟨.inr ⟨hno.out, rfl⟩, hext⟩
    ·have hnx := Lib.hid (show (0 < k + 1 → xs.getD 0 0 ≠ 0) ∧ ∀ x ∈ xs.take (k + 1), 0 ≤ x from ⟨fun _ => hz, take_all (by omega) hgd.out.2 (by omega)⟩)
     have hzb : (xs.getD 0 0 == 0) = false := by simpa using hz
     clear hkm hz hgd
     rcases Nat.eq_zero_or_pos k with rfl | hk0
     ·have hst := Lib.hid (runsTo_new (xs := xs) (k := 0) (fun h => absurd h.1 (Nat.lt_irrefl 0)))
      have hLl := (runsTo_len xs 0).1
      generalize runsTo xs 0 = L at *
      generalize xs.getD 0 0 = x0 at *
      rw [show ((0 : Nat) : Int) = 0 from rfl]
      rw [Nat.add_zero] at zk
      go_wp2
      go_quiet (fail)
      have hext2 := hext.drewN nq
      have hown2 := hown.drewN nq
      have hwB : w.heap.size ≤ (wr.drewN nq).heap.size := hext2.size
      generalize wr.drewN nq = w4 at *
      go_wp2_with (at_builtin; go_loud (refine append1I hown2 (by omega) (by omega) ?_ rfl rfl); intro v6 w6 hown6 hb6)
      exact ⟨⟨0 + 1, hlt, by go_num, by rw [hst.out]; exact hown6, hnx, hext2.trans3 hb6⟩, by simp [intOf]⟩
     ·obtain ⟨m, rfl⟩ : ∃ m, k = m + 1 := ⟨k - 1, by omega⟩
      have hk0i : (0 : Int) < ((m + 1 : Nat) : Int) := by omega
      have hkm : ((m + 1 : Nat) : Int) - 1 = (m : Int) := by omega
      obtain ⟨_, _, e0, _, zp⟩ := (HX.out.ext hext) m (by omega)
      obtain ⟨rfl, rfl⟩ : b = _ ∧ o = _ := by simpa using e0
      clear e0
      have hLl := runsTo_len xs (m + 1)
      have hLb := runsTo_bd xs (m + 1) ((runsTo xs (m + 1)).length - 1)
      by_cases heq : xs.getD (m + 1) 0 = xs.getD m 0
      ·have hst := Lib.hid (runsTo_go (xs := xs) (k := m + 1) ⟨hk0, heq⟩)
       rw [heq] at zk hneg
       have hLp := hLl.2 hk0
       have hL1 := hLl.1
       clear heq hLl
       unfold incL at hst
       obtain ⟨g, c', hv4, hBg, hgl, hgc, hgf, hlc, hset⟩ := hown.stored (k := (runsTo xs (m + 1)).length - 1) (by omega)
       subst hv4
       generalize runsTo xs (m + 1) = L at *
       generalize xs.getD m 0 = xp at *
       generalize xs.getD 0 0 = x0 at *
       obtain ⟨q, hq⟩ : ∃ q, L.length = q + 1 := ⟨L.length - 1, by omega⟩
       rw [hq] at hgc hgf hset hst hLb hlc ⊢
       rw [Nat.add_sub_cancel] at hgc hgf hset hst hLb
       generalize L.getD q 0 = y at *
       have hset2 := Lib.hid (hset (y + 1))
       clear hset hown
       go_wp2
       go_quiet (fail)
       have hx9 := (hext.drewN nq).setCell (p := ⟨g, q, none⟩) hBg (.int .i64 (y + 1))
       have hs9 : RowI w.heap.size ((wr.drewN nq).setCell ⟨g, q, none⟩ (.int .i64 (y + 1))) (.slice (some ⟨g, 0, none⟩) (q + 1) c') (L.set q (y + 1)) := hset2.out
       have hgl9 : g < (wr.drewN nq).heap.size := hgl
       have hgc9 : (wr.drewN nq).cell? ⟨g, q, none⟩ = some (.int .i64 y) := hgc
       have hgf9 : (wr.drewN nq).frozen? ⟨g, q, none⟩ = false := hgf
       generalize wr.drewN nq = w4 at *
       go_wp2
       exact ⟨⟨m + 1 + 1, hlt, by go_num, by rw [hst.out]; exact hs9, hnx, hx9⟩, by simp [intOf]; omega⟩
      ·have hst := Lib.hid (runsTo_new (xs := xs) (k := m + 1) (fun h => heq h.2))
       have hne : (xs.getD (m + 1) 0 == xs.getD m 0) = false := by simpa using heq
       have hL1 := hLl.1
       clear heq hLl hLb
       generalize runsTo xs (m + 1) = L at *
       generalize xs.getD (m + 1) 0 = xk at *
       generalize xs.getD m 0 = xp at *
       generalize xs.getD 0 0 = x0 at *
       go_wp2
       go_quiet (fail)
       have hext2 := hext.drewN nq
       have hown2 := hown.drewN nq
       have hwB : w.heap.size ≤ (wr.drewN nq).heap.size := hext2.size
       generalize wr.drewN nq = w4 at *
       go_wp2_with (at_builtin; go_loud (refine append1I hown2 (by omega) (by omega) ?_ rfl rfl); intro v6 w6 hown6 hb6)
       exact ⟨⟨m + 1 + 1, hlt, by go_num, by rw [hst.out]; exact hown6, hnx, hext2.trans3 hb6⟩, by simp [intOf]; omega⟩
  ·obtain rfl : k = 11 := by omega
   go_wp2
   go_ret2
   exact ⟨.inl ⟨hg0.out (hgd.out.1 (by omega)) hgd.out.2, _, rfl, by rw [hl]; exact hown⟩, hext⟩
theorem rvl_hit {xs : List Int} {cl : Int} {i : Nat} (h : gdX xs) (hi : i < 120) (he : PAT.getD i [] = runsTo xs xs.length) : rvl xs cl = if (i : Int) % 3 = cl ∧ i < 96 then ((i / 3 : Nat) : Int) else -1 := by
 unfold rvl
 rw [if_pos (show (∀ x ∈ xs, 0 ≤ x) ∧ xs.getD 0 0 ≠ 0 from h), ← he, idxP_at i hi]
theorem rvl_none {xs : List Int} {cl : Int} (h : gdX xs) (hn : ∀ i, i < 120 → PAT.getD i [] ≠ runsTo xs xs.length) : rvl xs cl = -1 := by
 unfold rvl
 rw [if_pos (show (∀ x ∈ xs, 0 ≤ x) ∧ xs.getD 0 0 ≠ 0 from h)]
 cases hI : idxP (runsTo xs xs.length) with
 | none => rfl
 | some i => exact absurd (idxP_some hI).2 (hn i (idxP_some hI).1)
theorem rvl_bad {xs : List Int} {cl : Int} (h : ¬ gdX xs) : rvl xs cl = -1 := if_neg h
set_option maxHeartbeats 1600000 in
set_option maxRecDepth 100000 in
theorem l17Value_c (B : Nat) (v : Value) (b o c : Nat) (xs : List Int) (cl : Int) (w : World) (hA : LLs B w v PAT) (hx : IntsAt w (some ⟨b, o, none⟩) xs) (hl : xs.length = 11) :
  Calls Tryz.prog 153 #[v, .slice (some ⟨b, o, none⟩) 11 c, .int .i64 cl] w fun e w' => e = .returned (.int .i64 (rvl xs cl)) ∧ Ext w w' := by
 have HX := Lib.hid hx; clear hx
 have hcw := Lib.hid (l17Widths_c b o c xs w HX.out hl)
 obtain ⟨pv, cv, rfl⟩ := hA.len
 have hPl := PAT_len
 rw [hPl]
 have hRl := (runsTo_len xs xs.length).1
 by_cases hgd : gdX xs
 ·have hnone := Lib.hid (fun h => rvl_none (cl := cl) hgd h)
  have hhit := Lib.hid (fun i hi h => rvl_hit (cl := cl) (i := i) hgd hi h)
  obtain ⟨z, hz⟩ : ∃ z, rvl xs cl = z := ⟨_, rfl⟩
  rw [hz] at hnone hhit ⊢
  obtain ⟨R, hR⟩ : ∃ R, runsTo xs xs.length = R := ⟨_, rfl⟩
  rw [hR] at hnone hhit hRl
  clear hz
  go_enter Tryz.func153, Tryz.ntmps153
  go_upto_region 3 with (go_at_call 191; go_loud ((with_reducible refine (hcw.out).mono ?_); rintro e w3 ⟨⟨_, v3, rfl, hR3⟩ | ⟨hbad, rfl⟩, hx3⟩ <;> (first | exact absurd hgd hbad | skip)))
  rw [hR] at hR3
  obtain ⟨p3, c3, rfl, ho3, -⟩ := hR3.ownC
  have hA3 := hA.ext hx3
  have hi3 := ho3.ints
  clear hA hcw hR3 ho3
  replace hA3 := Lib.hid hA3
  go_loopw [9] (fun i wr => ∃ k : Nat, k ≤ 120 ∧ i = .int .i64 k ∧ Hid (z = -1 ∨ ∀ j, j < k → PAT.getD j [] ≠ R) ∧ Ext w3 wr) (fun i _ => 120 - (intOf i).toNat)
  case atStart => exact ⟨0, Nat.zero_le _, rfl, Lib.hid (.inr (fun j hj => absurd hj (Nat.not_lt_zero j))), Ext.refl _⟩
  case round =>
   obtain ⟨k, hk, rfl, hT, hext⟩ := hrel
   by_cases hlt : k < 120
   ·obtain ⟨g, ca, q, c', e7, hgl, hqc, hqi⟩ := (hA3.out.ext hext).at (show k < PAT.length by omega)
    injection e7 with e1 e2 e3
    subst e1; subst e3
    clear e2
    have hP8 := PAT_at8 k hlt
    rw [hP8] at hqc
    have hcs := Lib.hid (l05Same_c q p3 c' c3 (PAT.getD k []) R wr hqi (hi3.ext hext) (by omega) (by omega))
    rw [hP8] at hcs
    by_cases hPR : PAT.getD k [] = R
    ·have hzk := hhit.out k hlt hPR
     by_cases h3 : (k : Int) % 3 = cl
     ·have h3b : ((k : Int) % 3 == cl) = true := by simpa using h3
      by_cases h96 : k < 96
      ·have h96i : (k : Int) / 3 < 32 := by omega
       rw [if_pos ⟨h3, h96⟩] at hzk
       have e5 : (k : Int) / 3 = ((k / 3 : Nat) : Int) := by omega
       rw [← e5] at hzk
       replace hzk := Lib.hid hzk
       clear h3 e5
       go_wp2_with (go_at_call 192; (with_reducible refine (hcs.out).mono ?_); rintro e w4 ⟨⟨hP, rfl⟩ | ⟨hP, rfl⟩, n, rfl⟩ <;> (first | exact absurd hPR hP | skip))
       go_ret
       exact ⟨by rw [hzk.out]; rfl, (hx3.trans hext).drewN _⟩
      ·have h96i : ¬ (k : Int) / 3 < 32 := by omega
       rw [if_neg (fun h => h96 h.2)] at hzk
       replace hzk := Lib.hid (show z = -1 ∨ ∀ j, j < k + 1 → PAT.getD j [] ≠ R from .inl hzk)
       clear h3
       go_wp2_with (go_at_call 192; (with_reducible refine (hcs.out).mono ?_); rintro e w4 ⟨⟨hP, rfl⟩ | ⟨hP, rfl⟩, n, rfl⟩ <;> (first | exact absurd hPR hP | skip))
       exact ⟨⟨k + 1, hlt, by go_num, hzk, hext.drewN _⟩, by simp [intOf]; omega⟩
     ·have h3b : ((k : Int) % 3 == cl) = false := by simpa using h3
      rw [if_neg (fun h => h3 h.1)] at hzk
      replace hzk := Lib.hid (show z = -1 ∨ ∀ j, j < k + 1 → PAT.getD j [] ≠ R from .inl hzk)
      clear h3
      go_wp2_with (go_at_call 192; (with_reducible refine (hcs.out).mono ?_); rintro e w4 ⟨⟨hP, rfl⟩ | ⟨hP, rfl⟩, n, rfl⟩ <;> (first | exact absurd hPR hP | skip))
      exact ⟨⟨k + 1, hlt, by go_num, hzk, hext.drewN _⟩, by simp [intOf]; omega⟩
    ·have hzk : Hid (z = -1 ∨ ∀ j, j < k + 1 → PAT.getD j [] ≠ R) := Lib.hid (hT.out.imp id (fun h j hj => by
      rcases Nat.lt_or_ge j k with h1 | h1
      ·exact h j h1
      ·obtain rfl : j = k := by omega
       exact hPR))
     go_wp2_with (go_at_call 192; (with_reducible refine (hcs.out).mono ?_); rintro e w4 ⟨⟨hP, rfl⟩ | ⟨hP, rfl⟩, n, rfl⟩ <;> (first | exact absurd hP hPR | skip))
     exact ⟨⟨k + 1, hlt, by go_num, hzk, hext.drewN _⟩, by simp [intOf]; omega⟩
   ·obtain rfl : k = 120 := by omega
    have hzk : z = -1 := hT.out.elim id (fun h => hnone.out h)
    replace hzk := Lib.hid hzk
    go_wp2
    go_ret
    exact ⟨by rw [hzk.out]; rfl, hx3.trans hext⟩
 ·have hzk := rvl_bad (cl := cl) hgd
  rw [hzk]
  go_enter Tryz.func153, Tryz.ntmps153
  go_upto_region 3 with (go_at_call 191; go_loud ((with_reducible refine (hcw.out).mono ?_); rintro e w3 ⟨⟨hbad, _⟩ | ⟨_, rfl⟩, hx3⟩ <;> (first | exact absurd hbad hgd | skip)))
  refine wp_loop_rounds 1 ?_
  rw [rounds_succ]
  go_wp2
  go_ret
  exact ⟨rfl, hx3⟩
end Go.Proofs.YtojdediohjghnaaGreatDoor
