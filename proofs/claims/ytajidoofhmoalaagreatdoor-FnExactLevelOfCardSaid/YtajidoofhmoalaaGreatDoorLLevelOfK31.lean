/- Stacked symbols, the program's side: the values of a row. -/
import Derived.Test.YtajidoofhmoalaaGreatDoorLLevelOfK30
set_option linter.unusedVariables false
set_option linter.unusedSimpArgs false
namespace Go.Proofs.YtajidoofhmoalaaGreatDoor
open Go.RowKit Go.MapKept Go.ChangeMaps Go.Maps

theorem IntsAt.sub {w : World} {b o : Nat} {xs : List Int} (h : IntsAt w (some ⟨b, o, none⟩) xs) (i m : Nat) : IntsAt w (some ⟨b, o + i, none⟩) ((xs.drop i).take m) := fun j hj => by
  have hj2 : j < m ∧ i + j < xs.length := by
    rw [List.length_take, List.length_drop] at hj
    omega
  obtain ⟨b', o', e, h2, h3⟩ := h (i + j) hj2.2
  obtain ⟨rfl, rfl⟩ : b = b' ∧ o = o' := by simpa using e
  refine ⟨b, o + i, rfl, h2, ?_⟩
  have hv : ((xs.drop i).take m).getD j 0 = xs.getD (i + j) 0 := by
    rw [List.getD_eq_getElem?_getD, List.getD_eq_getElem?_getD, List.getElem?_take_of_lt hj2.1, List.getElem?_drop]
  rw [hv, Nat.add_assoc]
  exact h3
def rowN (n : Nat) : Nat := (n - 15) / 11
theorem rowN_more {n j : Nat} : j < rowN n ↔ 7 + 11 * j + 11 + 8 ≤ n := by
  unfold rowN
  omega
theorem idxF_val (x : L8) : idxF 120 x = match idxP x.1 with
    | some i => some (.int .i64 (i : Nat))
    | none => none := by
  unfold idxF
  cases h : idxP x.1 with
  | none => rfl
  | some i => exact if_pos (idxP_some h).1
set_option maxHeartbeats 1600000 in
set_option maxRecDepth 100000 in
theorem readRow_c (g : Nat) (b o c : Nat) (xs : List Int) (cl : Int) (w : World) (hm : MapA 255 eW8 w g 120 (idxF 120)) (hx : IntsAt w (some ⟨b, o, none⟩) xs) (hl : xs.length ≤ 100000) (hc : xs.length ≤ c) (hbd : ∀ x ∈ xs, -1 ≤ x ∧ x ≤ 1) :
    Calls Tryz.prog 178 #[.map (some g), .slice (some ⟨b, o, none⟩) xs.length c, .int .i64 cl] w fun e w' => (∃ v, e = .returned v ∧ RowI w.heap.size w' v (rowV xs cl (rowN xs.length))) ∧ Ext w w' := by
  have HX := Lib.hid hx; clear hx
  have hsh := Lib.hid (fun p c ys W (h : IntsAt W p ys) (h2 : ys.length = 11) => shown_c p c ys W h h2)
  have hbd2 := Lib.hid hbd; clear hbd
  go_enter Tryz.func178, Tryz.ntmps178
  go_wp2
  go_loopw [7, 8] (fun v at_ wr => ∃ j q : Nat, j ≤ rowN xs.length ∧ Hid (q = 7 + 11 * j) ∧ at_ = .int .i64 q ∧ RowI w.heap.size wr v (rowV xs cl j) ∧ Ext w wr) (fun _ i _ => 200000 - (intOf i).toNat)
  case atStart => exact ⟨0, 7, Nat.zero_le _, Lib.hid rfl, rfl, RowI.made (Nat.le_refl _), (Ext.refl w).alloc _⟩
  case round =>
    obtain ⟨j, q, hj, hq, rfl, hown, hext⟩ := hrel
    by_cases hlt : j < rowN xs.length
    · have hmore : q + 11 + 8 ≤ xs.length := by have := rowN_more.1 hlt; have := hq.out; omega
      have hin : q + 11 ≤ xs.length := by omega
      have hy := (HX.out.ext hext).sub q 11
      have hyl : ((xs.drop q).take 11).length = 11 := by rw [List.length_take, List.length_drop]; omega
      have hyb : ∀ x ∈ (xs.drop q).take 11, -1 ≤ x ∧ x ≤ 1 := fun x hm => hbd2.out x (List.mem_of_mem_drop (List.mem_of_mem_take hm))
      have hrow : rowV xs cl (j + 1) = rowV xs cl j ++ [rvl ((xs.drop q).take 11) cl] := by rw [rowV_succ, hq.out]
      have hjl := rowV_len xs cl j
      have hjr : rowN xs.length ≤ 10000 := by unfold rowN; omega
      generalize (xs.drop q).take 11 = ys at *
      have hyes := Lib.hid (fun h => rvl_ok (cl := cl) (show 0 < ys.length by omega) hyb h)
      have hnoo := Lib.hid (fun h => rvl_no (cl := cl) (show 0 < ys.length by omega) hyb h)
      replace hrow := Lib.hid hrow; replace hyl := Lib.hid hyl
      generalize rowV xs cl j = V at *
      clear hyb
      have hc3 := Lib.hid (hsh.out (some ⟨b, o + q, none⟩) (c - q) ys _ hy hyl.out)
      clear hy
      have hcq : q ≤ c := by omega
      go_upto_region 7 with (first
        | (go_at_call 209; (with_reducible refine (hc3.out).mono ?_); rintro e w3 ⟨out, ok, rfl, ho8, hob, hok, hrun, hx3⟩; obtain ⟨n0, n1, n2, n3, n4, n5, n6, n7, rfl⟩ := eight_of ho8)
        | (refine wp_store8 (Blk.new w3 _ _) ?_ rfl rfl; intro w5 hE5 hB5 hF5))
      replace hF5 : Blk w5 w3.heap.size #[.int .i64 n0, .int .i64 n1, .int .i64 n2, .int .i64 n3, .int .i64 n4, .int .i64 n5, .int .i64 n6, .int .i64 n7] 255 := hF5
      have hx35 := hE5 w3 ((Ext.refl w3).alloc _) (Nat.le_refl _)
      have hext5 := (hext.trans hx3).trans hx35
      have hown5 := (hown.ext hx3).ext hx35
      have hm5 := hm.ext hext5
      have hB : w.heap.size ≤ w5.heap.size := hext5.size
      obtain ⟨kl, hkl⟩ := w8Key (x := ⟨[n0, n1, n2, n3, n4, n5, n6, n7], rfl⟩) (fun v hv => by have := hob v hv; omega)
      have hval := idxF_val ⟨[n0, n1, n2, n3, n4, n5, n6, n7], rfl⟩
      have k0 := hF5.cell (i := 0) (v := .int .i64 n0) rfl; have k1 := hF5.cell (i := 1) (v := .int .i64 n1) rfl; have k2 := hF5.cell (i := 2) (v := .int .i64 n2) rfl; have k3 := hF5.cell (i := 3) (v := .int .i64 n3) rfl; have k4 := hF5.cell (i := 4) (v := .int .i64 n4) rfl; have k5 := hF5.cell (i := 5) (v := .int .i64 n5) rfl; have k6 := hF5.cell (i := 6) (v := .int .i64 n6) rfl; have k7 := hF5.cell (i := 7) (v := .int .i64 n7) rfl
      have kL := hF5.lt
      replace hkl := Lib.hid hkl; replace hrun := Lib.hid hrun; replace hok := Lib.hid hok
      clear hE5 hB5 hF5 hx35 hx3 hown hext hob hc3
      have hr1 : ok = true → rvl ys cl = match idxP [n0, n1, n2, n3, n4, n5, n6, n7] with
          | some i => if (i : Int) % 3 = cl ∧ i < 96 then ((i / 3 : Nat) : Int) else -1
          | none => -1 := fun h => by rw [hrun.out h]; exact hyes.out (hok.out.1 h)
      have hr2 : ok = false → rvl ys cl = -1 := fun h => hnoo.out (fun h2 => by have := hok.out.2 h2; rw [h] at this; cases this)
      simp only at hval
      cases hI : idxP [n0, n1, n2, n3, n4, n5, n6, n7] with
      | none =>
        have hR : rvl ys cl = -1 := by
          cases hok2 : ok with
          | true => rw [hr1 hok2, hI]
          | false => exact hr2 hok2
        rw [hR] at hrow
        rw [hI] at hval
        replace hval := Lib.hid hval
        clear hr1 hr2 hI hR hrun
        go_upto_region 8 with (refine wp_lookok (y := (⟨[n0, n1, n2, n3, n4, n5, n6, n7], rfl⟩ : L8)) hm5 w8Keyed Tryz.underlying229 (z := .int .i64 0) (by kernel_rfl) hkl.out ?_ rfl rfl; rw [hval.out])
        cases ok with
        | true =>
          go_wp2_with (at_builtin; go_loud (refine append1I hown5 (by omega) (by omega) ?_ rfl rfl); intro v6 w6 hown6 hb6)
          exact ⟨⟨j + 1, q + 11, hlt, Lib.hid (by have := hq.out; omega), by go_num, by rw [hrow.out]; exact hown6, hext5.trans3 hb6⟩, by simp [intOf]; omega⟩
        | false =>
          go_wp2_with (at_builtin; go_loud (refine append1I hown5 (by omega) (by omega) ?_ rfl rfl); intro v6 w6 hown6 hb6)
          exact ⟨⟨j + 1, q + 11, hlt, Lib.hid (by have := hq.out; omega), by go_num, by rw [hrow.out]; exact hown6, hext5.trans3 hb6⟩, by simp [intOf]; omega⟩
      | some i =>
        have hi := (idxP_some hI).1
        rw [hI] at hval
        replace hval := Lib.hid hval
        go_upto_region 8 with (refine wp_lookok (y := (⟨[n0, n1, n2, n3, n4, n5, n6, n7], rfl⟩ : L8)) hm5 w8Keyed Tryz.underlying229 (z := .int .i64 0) (by kernel_rfl) hkl.out ?_ rfl rfl; rw [hval.out])
        cases ok with
        | false =>
          rw [hr2 rfl] at hrow
          clear hr1 hr2 hI hrun
          go_wp2_with (at_builtin; go_loud (refine append1I hown5 (by omega) (by omega) ?_ rfl rfl); intro v6 w6 hown6 hb6)
          exact ⟨⟨j + 1, q + 11, hlt, Lib.hid (by have := hq.out; omega), by go_num, by rw [hrow.out]; exact hown6, hext5.trans3 hb6⟩, by simp [intOf]; omega⟩
        | true =>
          have hr := hr1 rfl
          rw [hI] at hr
          simp only at hr
          clear hr1 hr2 hI hrun
          by_cases h96 : i < 96
          · by_cases h3 : (i : Int) % 3 = cl
            · rw [if_pos ⟨h3, h96⟩] at hr
              rw [hr] at hrow
              have h3b : ((i : Int) % 3 == cl) = true := by simpa using h3
              clear hr h3
              go_wp2_with (at_builtin; go_loud (refine append1I hown5 (by omega) (by omega) ?_ rfl rfl); intro v6 w6 hown6 hb6)
              exact ⟨⟨j + 1, q + 11, hlt, Lib.hid (by have := hq.out; omega), by go_num, by rw [hrow.out]; exact hown6, hext5.trans3 hb6⟩, by simp [intOf]; omega⟩
            · rw [if_neg (fun h => h3 h.1)] at hr
              rw [hr] at hrow
              have h3b : ((i : Int) % 3 == cl) = false := by simpa using h3
              clear hr h3
              go_wp2_with (at_builtin; go_loud (refine append1I hown5 (by omega) (by omega) ?_ rfl rfl); intro v6 w6 hown6 hb6)
              exact ⟨⟨j + 1, q + 11, hlt, Lib.hid (by have := hq.out; omega), by go_num, by rw [hrow.out]; exact hown6, hext5.trans3 hb6⟩, by simp [intOf]; omega⟩
          · rw [if_neg (fun h => h96 h.2)] at hr
            rw [hr] at hrow
            clear hr
            go_wp2_with (at_builtin; go_loud (refine append1I hown5 (by omega) (by omega) ?_ rfl rfl); intro v6 w6 hown6 hb6)
            exact ⟨⟨j + 1, q + 11, hlt, Lib.hid (by have := hq.out; omega), by go_num, by rw [hrow.out]; exact hown6, hext5.trans3 hb6⟩, by simp [intOf]; omega⟩
    · have hno : ¬ q + 11 + 8 ≤ xs.length := fun h => hlt (rowN_more.2 (by have := hq.out; omega))
      obtain rfl : j = rowN xs.length := by omega
      have hqb : q ≤ 100020 := by have := hq.out; unfold rowN at this; omega
      go_wp2
      go_ret
      exact ⟨⟨_, rfl, hown⟩, hext⟩
end Go.Proofs.YtajidoofhmoalaaGreatDoor
