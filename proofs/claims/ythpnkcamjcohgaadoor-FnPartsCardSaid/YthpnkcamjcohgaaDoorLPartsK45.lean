/- The walk of the law on parts. -/
import Derived.Test.YthpnkcamjcohgaaDoorLPartsK35
import Derived.Test.YthpnkcamjcohgaaDoorLPartsK41
import Derived.Test.YthpnkcamjcohgaaDoorLPartsK42
import Derived.Test.YthpnkcamjcohgaaDoorLPartsK44
/-! The walk of the law on parts. -/
namespace Go.Proofs.YthpnkcamjcohgaaDoor
set_option linter.unusedVariables false
set_option linter.unusedSimpArgs false
open Go.RowKit

section
variable {α : Type} {f : α → List Value} {k : Nat} {e t : TypeId} {w : World} {xs ys : List α}
theorem SAt.newsP {ad : Addr} (hf : ∀ x, (f x).length = k) (hk : 0 < k) (h : SAt f k w (some ad) xs) : ∀ j u, (xs.flatMap f)[j]? = some u → w.cell? (ad.add j) = some u := fun j u hu => by
  have hj : j < xs.length * k := by have := (List.getElem?_eq_some_iff.1 hu).1; rw [flat_len hf] at this; exact this
  have hi : j / k < xs.length := (Nat.div_lt_iff_lt_mul hk).2 hj
  have hm : j % k < k := Nat.mod_lt _ hk
  have e2 : j / k * k + j % k = j := by rw [Nat.mul_comm]; exact Nat.div_add_mod j k
  have h2 := flat_get hf xs (j / k) hi (j % k) hm
  rw [e2] at h2
  rw [h2] at hu
  obtain ⟨b, o, e3, _, h3⟩ := h (j / k) hi
  obtain rfl := Option.some.inj e3
  rw [addr_add]
  have h4 := h3 (j % k) u hu
  have e4 : o + j / k * k + j % k = o + j := by omega
  rw [e4] at h4
  exact h4
theorem SAt.takeP {p : Option Addr} (h : SAt f k w p xs) (m : Nat) : SAt f k w p (xs.take m) := fun i hi => by
  have hi' : i < xs.length := by rw [List.length_take] at hi; omega
  obtain ⟨b, o, e1, h1, h2⟩ := h i hi'
  exact ⟨b, o, e1, h1, fun j u hu => h2 j u (by rw [List.getElem_take] at hu; exact hu)⟩
theorem SAt.dropP {b o : Nat} (h : SAt f k w (some ⟨b, o, none⟩) xs) (m : Nat) : SAt f k w (some ⟨b, o + m * k, none⟩) (xs.drop m) := fun i hi => by
  have hi' : m + i < xs.length := by rw [List.length_drop] at hi; omega
  obtain ⟨b', o', e1, h1, h2⟩ := h (m + i) hi'
  simp only [Option.some.injEq, Addr.mk.injEq, and_true] at e1
  obtain ⟨rfl, rfl⟩ := e1
  refine ⟨b, _, rfl, h1, fun j u hu => ?_⟩
  have h3 := h2 j u (by rw [List.getElem_drop] at hu; exact hu)
  rw [Nat.add_mul] at h3
  rw [show o + m * k + i * k + j = o + (m * k + i * k) + j by omega]
  exact h3
variable {Q : Exit → Act → World → Prop} {K : Act → World → Prop} {a : Act} {dst : Option Tmp} {s x : Operand} {ty : TypeId} {pos : String} {after : Array Edge} {gd : Option (Nat × Bool)} {B : Nat} {w0 : World} {v : Value}
theorem appendSL_opP {z : Value} {bytes c : Nat} {ad : Addr} (ht : Tryd.prog.underlying t = some (.slice e)) (hinfo : (Tryd.prog.info? e).map (fun i => (i.zero, i.size, i.bytes)) = some (some z, k, bytes)) (hz : z.cells.size = k) (hk : 0 < k) (hbytes : bytes ≤ 128)
    (hf : ∀ x, (f x).length = k) (h1 : ∀ x, ∀ u ∈ f x, u.oneCell' = true) (m : Nat) (hm : m = ys.length)
    (hown : RowS e f k B w0 v xs) (hy : SAt f k w0 (some ad) ys) (hlen : xs.length + m < 1099511627775) (hB : B ≤ w0.heap.size)
    (h : ∀ v' w', RowS e f k B w' v' (xs ++ ys) → Grew v w0 w' v' → K (a.put dst v') w') (hs : a.eval s = v) (hx : a.eval x = .slice (some ad) m c) :
    Oper.wp Tryd.prog ⟨dst, .call { callee := .builtin .append, args := #[s, x], argTypes := #[t, t] }, ty, pos, after, gd⟩ a w0 K Q := by
  subst hm
  obtain ⟨i0, hi, hz0, hz1, hz2⟩ := info_parts hinfo
  obtain ⟨v', w', hr, h2, h3⟩ := run_append_own2 (w := w0) B t ty e i0 z k bytes ht hi hz0 hz1 hz2 hz hk v xs.length (xs.flatMap f) hown ad ys.length c (ys.flatMap f) (by rw [flat_len hf]) (hy.newsP hf hk) (fun u hu => by
    obtain ⟨y, _, hy⟩ := List.mem_flatMap.1 hu
    exact h1 y u hy) (by unfold maxLen; omega) (by
    have := Nat.mul_le_mul (show xs.length + ys.length ≤ 1099511627776 from by omega) hbytes
    omega) hB
  unfold Oper.wp execOp
  simp only [resolve, invoke, builtin, Sem.run_bind, Sem.run_pure, Result.andThen_ok, List.map_toArray, List.map_cons, List.map_nil, hs, hx, hr]
  refine h v' w' ?_ h3
  unfold RowS
  rw [List.length_append, List.flatMap_append]
  exact h2
end
set_option maxHeartbeats 3200000 in
set_option maxRecDepth 100000 in
theorem fnParts_law (pp : Option Addr) (c : Nat) (code : List Int) (w : World) (hx : U8At w pp code) (hl : code.length ≤ maxLen) :
    Calls Tryd.prog 4 #[.slice pp code.length c] w fun e w' => e = .returned (.bool true) ∧ Ext w w' := by
  have HX := Lib.hid hx; clear hx
  by_cases h4 : code.length ≤ 4096
  · go_enter Tryd.func4, Tryd.ntmps4
    go_wp2_with (first
      | (go_at_call 12; (with_reducible refine (big_c _ _ _ _ hl).mono ?_); rintro e w1 ⟨⟨hP, rfl⟩ | ⟨hP, rfl⟩, rfl⟩ <;> first | (exfalso; omega) | skip))
    refine (DrawSplitMessage_c _ _ _ _ HX.out h4).mono ?_
    rintro e w2 ⟨fp, fk, fq, t, cap, rfl, ht, hx2⟩
    have hA := Blk.new w2 #[.int .i64 fp, .int .i64 fk, .int .i64 fq] 32
    have hxa : Ext w2 (w2.alloc (.cells #[.int .i64 fp, .int .i64 fk, .int .i64 fq] 32)) := (Ext.refl w2).alloc _
    have hx3 := hx2.trans hxa
    have him := Lib.hid (fun W => (iSplitMessage_c fp fk fq t cap W (by omega)).mono (fun e w' (h : PLC _ _ _ _ ∧ _) => (And.intro (show ∃ p c, e = .returned (.tuple #[.slice p (smV fp fk fq t cap).1.length c, .int .i64 (smV fp fk fq t cap).2]) ∧ OwnCells _ w' p ((smV fp fk fq t cap).1.flatMap ptF) ∧ (smV fp fk fq t cap).1.length ≤ c from h.1) h.2)))
    have hsm := Lib.hid (fun W => (sSplitMessage_c fp fk fq t cap W (by omega)).mono (fun e w' (h : PLC _ _ _ _ ∧ _) => (And.intro (show ∃ p c, e = .returned (.tuple #[.slice p (smV fp fk fq t cap).1.length c, .int .i64 (smV fp fk fq t cap).2]) ∧ OwnCells _ w' p ((smV fp fk fq t cap).1.flatMap ptF) ∧ (smV fp fk fq t cap).1.length ≤ c from h.1) h.2)))
    have hok := Lib.hid (fun Y (h : smV fp fk fq t cap = (Y, 0)) => smV_ok h)
    generalize smV fp fk fq t cap = V at *
    obtain ⟨Y, cd⟩ := V
    simp only [Prod.mk.injEq] at him hsm hok
    clear hx2 hxa
    go_wp2_with fail
    generalize w2.alloc (.cells #[.int .i64 fp, .int .i64 fk, .int .i64 fq] 32) = w3 at *
    generalize w2.heap.size = gA at *
    refine (him.out _).mono ?_
    rintro e w4 ⟨⟨p1, c1, rfl, o1, hc1⟩, hx4⟩
    have a4 := hA.ext hx4; have hx04 := hx3.trans hx4
    have q0 := a4.cell (i := 0) (v := .int .i64 fp) rfl; have q1 := a4.cell (i := 1) (v := .int .i64 fk) rfl; have q2 := a4.cell (i := 2) (v := .int .i64 fq) rfl; have ql := a4.lt
    clear him hA hx3 hx4
    go_wp2_with fail
    clear q0 q1 q2 ql a4
    refine (hsm.out _).mono ?_
    rintro e w5 ⟨⟨p2, c2, rfl, o2, hc2⟩, hx5⟩
    have hx05 := hx04.trans hx5
    have s1 := Lib.hid ((o1.ext hx5).sat ptF_len (by omega))
    have s2 := Lib.hid (o2.sat ptF_len (by omega))
    clear hsm o1 o2 hx04 hx5
    by_cases h0 : cd = 0
    · subst h0
      obtain ⟨L, hY, hcat, ⟨hn1, hn8⟩, hLs, ht4⟩ := hok.out Y ⟨rfl, rfl⟩
      obtain ⟨n, hn⟩ : ∃ n, L.length = n := ⟨_, rfl⟩
      rw [hn] at hY hn1 hn8
      have hYl : Y.length = n := by rw [hY, mkP_len, hn]
      have hpb := par_bd t
      have HY := Lib.hid hY; have HN := Lib.hid hn; have HC := Lib.hid hcat; have HL := Lib.hid hLs; have HP := Lib.hid hpb
      rw [hYl] at hc1 hc2
      rw [hYl]
      have HYl := Lib.hid hYl
      clear hY hn hcat hLs hok hpb hYl
      have hI1 : Tryd.prog.underlying 35 = some (.slice 39) := by kernel_rfl
      have hI2 : (Tryd.prog.info? 39).map (fun i => (i.zero, i.size, i.bytes)) = some (some (.agg #[.int .i64 0, .int .i64 0, .int .i64 0, .string ByteArray.empty]), 4, 40) := by kernel_rfl
      have ht2 : ∀ j, j < n → ∃ b1 o1 b2 o2, p1 = some ⟨b1, o1, none⟩ ∧ p2 = some ⟨b2, o2, none⟩ ∧ b1 < w5.heap.size ∧ b2 < w5.heap.size ∧ (w5.cell? ⟨b1, o1 + j * 4, none⟩ = some (.int .i64 (j : Nat)) ∧ w5.cell? ⟨b1, o1 + j * 4 + 1, none⟩ = some (.int .i64 n) ∧ w5.cell? ⟨b1, o1 + j * 4 + 2, none⟩ = some (.int .i64 (par t)) ∧ w5.cell? ⟨b1, o1 + j * 4 + 3, none⟩ = some (.string (L.getD j ByteArray.empty))) ∧ (w5.cell? ⟨b2, o2 + j * 4, none⟩ = some (.int .i64 (j : Nat)) ∧ w5.cell? ⟨b2, o2 + j * 4 + 1, none⟩ = some (.int .i64 n) ∧ w5.cell? ⟨b2, o2 + j * 4 + 2, none⟩ = some (.int .i64 (par t)) ∧ w5.cell? ⟨b2, o2 + j * 4 + 3, none⟩ = some (.string (L.getD j ByteArray.empty))) := fun j hj => by
        have hg : Y[j]? = some ((j : Int), (n : Int), par t, L.getD j ByteArray.empty) := by
          rw [HY.out, mkP_at _ _ L 0 j (by rw [HN.out]; exact hj), Nat.zero_add]
        have hjl : j < Y.length := by rw [HYl.out]; exact hj
        rw [List.getElem?_eq_getElem hjl, Option.some.injEq] at hg
        obtain ⟨b1, o1, e1, l1, d1⟩ := SAt.four s1.out hjl (u0 := .int .i64 (j : Nat)) (u1 := .int .i64 n) (u2 := .int .i64 (par t)) (u3 := .string (L.getD j ByteArray.empty)) (by rw [hg]; rfl)
        obtain ⟨b2, o2, e2, l2, d2⟩ := SAt.four s2.out hjl (u0 := .int .i64 (j : Nat)) (u1 := .int .i64 n) (u2 := .int .i64 (par t)) (u3 := .string (L.getD j ByteArray.empty)) (by rw [hg]; rfl)
        exact ⟨b1, o1, b2, o2, e1, e2, l1, l2, d1, d2⟩
      obtain ⟨b1, o1, b2, o2, rfl, rfl, hl1, hl2, -, -⟩ := ht2 0 (by omega)
      have HT2 : Hid (∀ j, j < n → (w5.cell? ⟨b1, o1 + j * 4, none⟩ = some (.int .i64 (j : Nat)) ∧ w5.cell? ⟨b1, o1 + j * 4 + 1, none⟩ = some (.int .i64 n) ∧ w5.cell? ⟨b1, o1 + j * 4 + 2, none⟩ = some (.int .i64 (par t)) ∧ w5.cell? ⟨b1, o1 + j * 4 + 3, none⟩ = some (.string (L.getD j ByteArray.empty))) ∧ (w5.cell? ⟨b2, o2 + j * 4, none⟩ = some (.int .i64 (j : Nat)) ∧ w5.cell? ⟨b2, o2 + j * 4 + 1, none⟩ = some (.int .i64 n) ∧ w5.cell? ⟨b2, o2 + j * 4 + 2, none⟩ = some (.int .i64 (par t)) ∧ w5.cell? ⟨b2, o2 + j * 4 + 3, none⟩ = some (.string (L.getD j ByteArray.empty)))) := Lib.hid (fun j hj => by
        obtain ⟨_, _, _, _, e1, e2, _, _, d1, d2⟩ := ht2 j hj
        simp only [Option.some.injEq, Addr.mk.injEq, and_true] at e1 e2
        obtain ⟨rfl, rfl⟩ := e1
        obtain ⟨rfl, rfl⟩ := e2
        exact ⟨d1, d2⟩)
      clear ht2
      have hz5 := hx05.below.size
      have en := IntWalk.i64_in ((n : Int) - 1) (by omega)
      go_wp2_with fail
      clear en
      go_loopw [10, 11] (fun back i wx => ∃ r : Nat, r ≤ n ∧ i = .int .i64 ((r : Int) - 1) ∧ RowS 39 ptF 4 w5.heap.size wx back ((Y.drop r).reverse) ∧ Ext w5 wx) (fun _ i _ => (intOf i + 1).toNat)
      case atStart => exact ⟨n, Nat.le_refl _, rfl, by rw [show Y.drop n = [] from List.drop_eq_nil_of_le (by rw [HYl.out]; exact Nat.le_refl _)]; exact RowS.made _ (Nat.le_refl _), (by repeat (first | exact Ext.refl _ | assumption | refine Ext.drew ?_ | refine Ext.drewN ?_ _ | refine Ext.iter ?_ _ _ | refine Ext.alloc ?_ _ | refine Ext.setCell ?_ (by first | exact Nat.le_refl _ | (simp <;> omega)) _ | refine Ext.trans2 (by assumption) ?_))⟩
      case round =>
        obtain ⟨r, hr, rfl, hown, hE⟩ := hrel
        rcases r with _ | r
        · obtain ⟨p3, c3, rfl, o3, hc3⟩ := hown.ownC ptF_len
          have hYr : (Y.drop 0).reverse = (mkP (n : Int) (par t) 0 L).reverse := by rw [List.drop_zero, HY.out]
          rw [hYr] at hown o3 hc3 ⊢
          clear hYr
          have hPS := ps_back (n := n) (y := par t) (L := L) HN.out hn1 hn8 HP.out HL.out
          have hPl := hPS.len
          rw [hPl] at hc3 ⊢
          have s3 := Lib.hid o3.sat
          have hjp := Lib.hid (fun W hW => joinParts_c hPS (fun _ i hi => ⟨n - 1 - i, by omega, by omega⟩) (fun _ => ⟨by rw [HC.out], by rw [HC.out]; exact ht4⟩) t 0 (fun _ => ⟨HC.out.symm, rfl⟩) (fun h => absurd rfl h) p3 c3 W hW)
          clear hPS hPl o3 hown
          have htt : (t.toList == t.toList) = true := by simp
          have htn : (!(t.toList == t.toList)) = false := by simp
          go_wp2_with fail
          refine (hjp.out _ s3.out).mono ?_
          rintro e w6 ⟨rfl, hx6⟩
          have hx06 := (hx05.trans hE).trans hx6
          have hx56 := hE.trans hx6
          clear hjp hE hx6
          go_wp2_with fail
          refine (roll_c pp c code 1201 _ (HX.out.ext hx06) h4).mono ?_
          rintro e w7 ⟨⟨gd, rfl, hgd, hD⟩, hx7⟩
          have hgw : w6.heap.size ≤ gd := by omega
          clear hgd
          go_wp2_with fail
          refine (below_c gd n _ hD (by omega)).mono ?_
          rintro e w8 ⟨k, rfl, hk0, hk1, -, hb8⟩
          obtain ⟨k, rfl⟩ : ∃ k' : Nat, k = k' := ⟨k.toNat, by omega⟩
          have hx68 : Ext w6 w8 := hx7.but hb8 hgw
          have hx58 := hx56.trans hx68
          have hx08 := hx06.trans hx68
          clear hx06 hx56 hx68 hb8 hx7 hD hgw hk0
          have s18 := Lib.hid (show SAt ptF 4 w8 (some ⟨b1, o1, none⟩) Y from fun i hi => by
            obtain ⟨b', o', e1, l1, d1⟩ := s1.out i hi
            exact ⟨b', o', e1, (ecell hx58).2.2.1 _ l1, fun j u hu => by rw [(ecell hx58).1 _ _ l1]; exact d1 j u hu⟩)
          clear s1 s2 s3 HT2
          go_upto_region 19 with fail
          have hrow0 : RowS 39 ptF 4 w8.heap.size (w8.alloc (.cells #[] 39)).drew (.slice (some ⟨w8.heap.size, 0, none⟩) 0 0) [] := RowS.made _ (Nat.le_refl _)
          have ek := IntWalk.i64_in ((k : Int) + 1) (by omega)
          have ek0 : (0 : Int) ≤ (k : Int) + 1 := by omega
          have ekt : ((k : Int) + 1).toNat = k + 1 := by omega
          have ekn : ((k : Int) + 1) ≤ n := by omega
          have htl : (Y.take k).length = k := by rw [List.length_take, HYl.out]; omega
          have hdl : (Y.drop (k + 1)).length = n - (k + 1) := by rw [List.length_drop, HYl.out]
          have HTL := Lib.hid htl; have HDL := Lib.hid hdl; clear htl hdl
          obtain ⟨XS, hXS⟩ : ∃ XS, Y.take k ++ Y.drop (k + 1) = XS := ⟨_, rfl⟩
          have HXS := Lib.hid hXS; clear hXS
          have sT := Lib.hid (s18.out.takeP k); have sD := Lib.hid (s18.out.dropP (k + 1))
          have hPS := ps_some (n := n) (k := k) (y := par t) (L := L) HN.out
          have HPS := Lib.hid (show 2 ≤ n → PS (fun j => if j < k then j else j + 1) (n - 1) n (par t) L XS from fun h2 => by
            rw [← HXS.out, HY.out]
            exact hPS h2 hn8 (by omega) HP.out HL.out)
          clear hPS
          have hXSl := Lib.hid (show XS.length = n - 1 from by rw [← HXS.out, List.length_append, HTL.out, HDL.out]; omega)
          generalize Y.take k = TK at *
          generalize Y.drop (k + 1) = DK at *
          have hl1' : b1 < w8.heap.size := (ecell hx58).2.2.1 _ hl1
          have hkn1 : k + 1 ≤ n := by omega
          have hkc : k ≤ c1 := by omega
          have hkc1 : k + 1 ≤ c1 := by omega
          have hkk : (k : Int) ≤ (k : Int) + 1 := by omega
          by_cases hcap : c1 = k + 1
          · skip
            refine wp_region_canon (fun w' => Ext w8 w') [(1, true), (2, true), (3, true), (5, true), (6, true), (7, true), (8, true), (0, false), (4, false), (9, false), (10, true)] (by kernel_rfl) (by kernel_rfl) (by decide) (by kernel_rfl) ?_ ?_
            · exact (by repeat (first | exact Ext.refl _ | assumption | refine Ext.drew ?_ | refine Ext.drewN ?_ _ | refine Ext.iter ?_ _ _ | refine Ext.alloc ?_ _ | refine Ext.setCell ?_ (by first | exact Nat.le_refl _ | (simp <;> omega)) _ | refine Ext.trans2 (by assumption) ?_))
            refine canon_intro fun ops eo => ?_
            have ho0 := canon_at eo 0 rfl
            have ho1 := canon_at eo 1 rfl
            have ho2 := canon_at eo 2 rfl
            have ho3 := canon_at eo 3 rfl
            have ho4 := canon_at eo 4 rfl
            have ho5 := canon_at eo 5 rfl
            have ho6 := canon_at eo 6 rfl
            have ho7 := canon_at eo 7 rfl
            have ho8 := canon_at eo 8 rfl
            have ho9 := canon_at eo 9 rfl
            have ho10 := canon_at eo 10 rfl
            clear eo
            all_goals (apply canon_st ho1 rfl; (intro w2 hS; first | (go_simp; first | done | rfl) | rfl | (obtain ⟨hc', hf', hk', hz⟩ := ecell hS; go_simp; first | done | rfl)); simp only [Act.put, List.setIfInBounds_toArray, List.set_cons_zero, List.set_cons_succ])
            all_goals clear ho1
            all_goals (apply canon_st ho2 rfl; (intro w2 hS; first | (go_simp; first | done | rfl) | rfl | (obtain ⟨hc', hf', hk', hz⟩ := ecell hS; go_simp; first | done | rfl)); simp only [Act.put, List.setIfInBounds_toArray, List.set_cons_zero, List.set_cons_succ])
            all_goals clear ho2
            all_goals (apply canon_st ho3 rfl; (intro w2 hS; first | (go_simp; first | done | rfl) | rfl | (obtain ⟨hc', hf', hk', hz⟩ := ecell hS; go_simp; first | done | rfl)); simp only [Act.put, List.setIfInBounds_toArray, List.set_cons_zero, List.set_cons_succ])
            all_goals clear ho3
            all_goals (apply canon_st ho5 rfl; (intro w2 hS; first | (go_simp; first | done | rfl) | rfl | (obtain ⟨hc', hf', hk', hz⟩ := ecell hS; go_simp; first | done | rfl)); simp only [Act.put, List.setIfInBounds_toArray, List.set_cons_zero, List.set_cons_succ])
            all_goals clear ho5
            all_goals (apply canon_st ho6 rfl; (intro w2 hS; first | (go_simp; first | done | rfl) | rfl | (obtain ⟨hc', hf', hk', hz⟩ := ecell hS; go_simp; first | done | rfl)); simp only [Act.put, List.setIfInBounds_toArray, List.set_cons_zero, List.set_cons_succ])
            all_goals clear ho6
            all_goals (apply canon_st ho7 rfl; (intro w2 hS; first | (go_simp; first | done | rfl) | rfl | (obtain ⟨hc', hf', hk', hz⟩ := ecell hS; go_simp; first | done | rfl)); simp only [Act.put, List.setIfInBounds_toArray, List.set_cons_zero, List.set_cons_succ])
            all_goals clear ho7
            all_goals (apply canon_st ho8 rfl; (intro w2 hS; first | (go_simp; first | done | rfl) | rfl | (obtain ⟨hc', hf', hk', hz⟩ := ecell hS; go_simp; first | done | rfl)); simp only [Act.put, List.setIfInBounds_toArray, List.set_cons_zero, List.set_cons_succ])
            all_goals clear ho8
            all_goals first | (refine canon_ef ho0 rfl (fun K hK => ?_); (refine appendSL_opP hI1 hI2 rfl (by omega) (by omega) ptF_len ptF_one k HTL.out.symm hrow0 (fun i hi => by obtain ⟨b', o', e1, l1, d1⟩ := sT.out i hi; have hxx : Ext w8 (w8.alloc (.cells #[] 39)).drew := (by repeat (first | exact Ext.refl _ | assumption | refine Ext.drew ?_ | refine Ext.drewN ?_ _ | refine Ext.iter ?_ _ _ | refine Ext.alloc ?_ _ | refine Ext.setCell ?_ (by first | exact Nat.le_refl _ | (simp <;> omega)) _ | refine Ext.trans2 (by assumption) ?_)); exact ⟨b', o', e1, (ecell hxx).2.2.1 _ l1, fun j u hu => by rw [(ecell hxx).1 _ _ l1]; exact d1 j u hu⟩) (by simp; omega) (by simp) ?_ rfl rfl; intro v9 w9 hq9 hg9; simp only [List.nil_append] at hq9; have hx9 : Ext w8 w9 := hg9.toExt (by repeat (first | exact Ext.refl _ | assumption | refine Ext.drew ?_ | refine Ext.drewN ?_ _ | refine Ext.iter ?_ _ _ | refine Ext.alloc ?_ _ | refine Ext.setCell ?_ (by first | exact Nat.le_refl _ | (simp <;> omega)) _ | refine Ext.trans2 (by assumption) ?_)) (fun k hk => (hrow0.lt k hk).1); obtain ⟨p9, d9, rfl, hq9o, hc9⟩ := hq9.ownC ptF_len; clear hg9); all_goals (refine hK _ _ ⟨(by first | assumption | exact (by repeat (first | exact Ext.refl _ | assumption | refine Ext.drew ?_ | refine Ext.drewN ?_ _ | refine Ext.iter ?_ _ _ | refine Ext.alloc ?_ _ | refine Ext.setCell ?_ (by first | exact Nat.le_refl _ | (simp <;> omega)) _ | refine Ext.trans2 (by assumption) ?_))), ?_⟩; clear hK K; go_simp)) | (refine canon_ef ho0 rfl (fun K hK => ?_); (refine appendSL_opP hI1 hI2 rfl (by omega) (by omega) ptF_len ptF_one (n - (k + 1)) HDL.out.symm hq9 (fun i hi => absurd hi (by rw [HDL.out]; omega)) (by rw [HTL.out]; omega) hx9.below.size ?_ rfl rfl; intro v10 w10 hq10 hg10; rw [HXS.out] at hq10; have hx10 : Ext w8 w10 := hg10.toExt hx9 (fun k hk => (hq9.lt k hk).1); obtain ⟨p10, d10, rfl, hq10o, hc10⟩ := hq10.ownC ptF_len; clear hg10); all_goals (refine hK _ _ ⟨(by first | assumption | exact (by repeat (first | exact Ext.refl _ | assumption | refine Ext.drew ?_ | refine Ext.drewN ?_ _ | refine Ext.iter ?_ _ _ | refine Ext.alloc ?_ _ | refine Ext.setCell ?_ (by first | exact Nat.le_refl _ | (simp <;> omega)) _ | refine Ext.trans2 (by assumption) ?_))), ?_⟩; clear hK K; go_simp)) | (refine canon_ef ho0 rfl (fun K hK => ?_); go_simp; (skip); all_goals (refine hK _ _ ⟨(by first | assumption | exact (by repeat (first | exact Ext.refl _ | assumption | refine Ext.drew ?_ | refine Ext.drewN ?_ _ | refine Ext.iter ?_ _ _ | refine Ext.alloc ?_ _ | refine Ext.setCell ?_ (by first | exact Nat.le_refl _ | (simp <;> omega)) _ | refine Ext.trans2 (by assumption) ?_))), ?_⟩; clear hK K; go_simp))
            all_goals clear ho0
            all_goals first | (refine canon_ef ho4 rfl (fun K hK => ?_); (refine appendSL_opP hI1 hI2 rfl (by omega) (by omega) ptF_len ptF_one k HTL.out.symm hrow0 (fun i hi => by obtain ⟨b', o', e1, l1, d1⟩ := sT.out i hi; have hxx : Ext w8 (w8.alloc (.cells #[] 39)).drew := (by repeat (first | exact Ext.refl _ | assumption | refine Ext.drew ?_ | refine Ext.drewN ?_ _ | refine Ext.iter ?_ _ _ | refine Ext.alloc ?_ _ | refine Ext.setCell ?_ (by first | exact Nat.le_refl _ | (simp <;> omega)) _ | refine Ext.trans2 (by assumption) ?_)); exact ⟨b', o', e1, (ecell hxx).2.2.1 _ l1, fun j u hu => by rw [(ecell hxx).1 _ _ l1]; exact d1 j u hu⟩) (by simp; omega) (by simp) ?_ rfl rfl; intro v9 w9 hq9 hg9; simp only [List.nil_append] at hq9; have hx9 : Ext w8 w9 := hg9.toExt (by repeat (first | exact Ext.refl _ | assumption | refine Ext.drew ?_ | refine Ext.drewN ?_ _ | refine Ext.iter ?_ _ _ | refine Ext.alloc ?_ _ | refine Ext.setCell ?_ (by first | exact Nat.le_refl _ | (simp <;> omega)) _ | refine Ext.trans2 (by assumption) ?_)) (fun k hk => (hrow0.lt k hk).1); obtain ⟨p9, d9, rfl, hq9o, hc9⟩ := hq9.ownC ptF_len; clear hg9); all_goals (refine hK _ _ ⟨(by first | assumption | exact (by repeat (first | exact Ext.refl _ | assumption | refine Ext.drew ?_ | refine Ext.drewN ?_ _ | refine Ext.iter ?_ _ _ | refine Ext.alloc ?_ _ | refine Ext.setCell ?_ (by first | exact Nat.le_refl _ | (simp <;> omega)) _ | refine Ext.trans2 (by assumption) ?_))), ?_⟩; clear hK K; go_simp)) | (refine canon_ef ho4 rfl (fun K hK => ?_); (refine appendSL_opP hI1 hI2 rfl (by omega) (by omega) ptF_len ptF_one (n - (k + 1)) HDL.out.symm hq9 (fun i hi => absurd hi (by rw [HDL.out]; omega)) (by rw [HTL.out]; omega) hx9.below.size ?_ rfl rfl; intro v10 w10 hq10 hg10; rw [HXS.out] at hq10; have hx10 : Ext w8 w10 := hg10.toExt hx9 (fun k hk => (hq9.lt k hk).1); obtain ⟨p10, d10, rfl, hq10o, hc10⟩ := hq10.ownC ptF_len; clear hg10); all_goals (refine hK _ _ ⟨(by first | assumption | exact (by repeat (first | exact Ext.refl _ | assumption | refine Ext.drew ?_ | refine Ext.drewN ?_ _ | refine Ext.iter ?_ _ _ | refine Ext.alloc ?_ _ | refine Ext.setCell ?_ (by first | exact Nat.le_refl _ | (simp <;> omega)) _ | refine Ext.trans2 (by assumption) ?_))), ?_⟩; clear hK K; go_simp)) | (refine canon_ef ho4 rfl (fun K hK => ?_); go_simp; (skip); all_goals (refine hK _ _ ⟨(by first | assumption | exact (by repeat (first | exact Ext.refl _ | assumption | refine Ext.drew ?_ | refine Ext.drewN ?_ _ | refine Ext.iter ?_ _ _ | refine Ext.alloc ?_ _ | refine Ext.setCell ?_ (by first | exact Nat.le_refl _ | (simp <;> omega)) _ | refine Ext.trans2 (by assumption) ?_))), ?_⟩; clear hK K; go_simp))
            all_goals clear ho4
            all_goals first | (refine canon_ef ho9 rfl (fun K hK => ?_); (refine appendSL_opP hI1 hI2 rfl (by omega) (by omega) ptF_len ptF_one k HTL.out.symm hrow0 (fun i hi => by obtain ⟨b', o', e1, l1, d1⟩ := sT.out i hi; have hxx : Ext w8 (w8.alloc (.cells #[] 39)).drew := (by repeat (first | exact Ext.refl _ | assumption | refine Ext.drew ?_ | refine Ext.drewN ?_ _ | refine Ext.iter ?_ _ _ | refine Ext.alloc ?_ _ | refine Ext.setCell ?_ (by first | exact Nat.le_refl _ | (simp <;> omega)) _ | refine Ext.trans2 (by assumption) ?_)); exact ⟨b', o', e1, (ecell hxx).2.2.1 _ l1, fun j u hu => by rw [(ecell hxx).1 _ _ l1]; exact d1 j u hu⟩) (by simp; omega) (by simp) ?_ rfl rfl; intro v9 w9 hq9 hg9; simp only [List.nil_append] at hq9; have hx9 : Ext w8 w9 := hg9.toExt (by repeat (first | exact Ext.refl _ | assumption | refine Ext.drew ?_ | refine Ext.drewN ?_ _ | refine Ext.iter ?_ _ _ | refine Ext.alloc ?_ _ | refine Ext.setCell ?_ (by first | exact Nat.le_refl _ | (simp <;> omega)) _ | refine Ext.trans2 (by assumption) ?_)) (fun k hk => (hrow0.lt k hk).1); obtain ⟨p9, d9, rfl, hq9o, hc9⟩ := hq9.ownC ptF_len; clear hg9); all_goals (refine hK _ _ ⟨(by first | assumption | exact (by repeat (first | exact Ext.refl _ | assumption | refine Ext.drew ?_ | refine Ext.drewN ?_ _ | refine Ext.iter ?_ _ _ | refine Ext.alloc ?_ _ | refine Ext.setCell ?_ (by first | exact Nat.le_refl _ | (simp <;> omega)) _ | refine Ext.trans2 (by assumption) ?_))), ?_⟩; clear hK K; go_simp)) | (refine canon_ef ho9 rfl (fun K hK => ?_); (refine appendSL_opP hI1 hI2 rfl (by omega) (by omega) ptF_len ptF_one (n - (k + 1)) HDL.out.symm hq9 (fun i hi => absurd hi (by rw [HDL.out]; omega)) (by rw [HTL.out]; omega) hx9.below.size ?_ rfl rfl; intro v10 w10 hq10 hg10; rw [HXS.out] at hq10; have hx10 : Ext w8 w10 := hg10.toExt hx9 (fun k hk => (hq9.lt k hk).1); obtain ⟨p10, d10, rfl, hq10o, hc10⟩ := hq10.ownC ptF_len; clear hg10); all_goals (refine hK _ _ ⟨(by first | assumption | exact (by repeat (first | exact Ext.refl _ | assumption | refine Ext.drew ?_ | refine Ext.drewN ?_ _ | refine Ext.iter ?_ _ _ | refine Ext.alloc ?_ _ | refine Ext.setCell ?_ (by first | exact Nat.le_refl _ | (simp <;> omega)) _ | refine Ext.trans2 (by assumption) ?_))), ?_⟩; clear hK K; go_simp)) | (refine canon_ef ho9 rfl (fun K hK => ?_); go_simp; (skip); all_goals (refine hK _ _ ⟨(by first | assumption | exact (by repeat (first | exact Ext.refl _ | assumption | refine Ext.drew ?_ | refine Ext.drewN ?_ _ | refine Ext.iter ?_ _ _ | refine Ext.alloc ?_ _ | refine Ext.setCell ?_ (by first | exact Nat.le_refl _ | (simp <;> omega)) _ | refine Ext.trans2 (by assumption) ?_))), ?_⟩; clear hK K; go_simp))
            all_goals clear ho9
            all_goals (apply canon_st ho10 rfl; (intro w2 hS; first | (go_simp; first | done | rfl) | rfl | (obtain ⟨hc', hf', hk', hz⟩ := ecell hS; go_simp; first | done | rfl)); simp only [Act.put, List.setIfInBounds_toArray, List.set_cons_zero, List.set_cons_succ])
            all_goals clear ho10
            all_goals refine canon_done (NoPanic.normal ?_)
            have hx010 := hx08.trans hx10
            have s10 := Lib.hid hq10o.sat
            clear hx9 hx10 hq9 hq10 hq9o hq10o hrow0 s18 sT sD ek ekt
            by_cases hn2 : 2 ≤ n
            · have hPS := HPS.out hn2
              have hmp := Lib.hid (fun W hW => missingParts_c hPS (k := k) (by omega) (some_mis (by omega)) p10 d10 W hW)
              have hjq := Lib.hid (fun W hW => joinParts_c hPS (fun h => absurd h (by omega)) (fun h => absurd h (by omega)) ByteArray.empty 5 (fun h => absurd h (by omega)) (fun _ => ⟨rfl, rfl⟩) p10 d10 W hW)
              rw [← hXSl.out] at hmp hjq
              have hxl := hXSl.out
              have hxl0 : ((XS.length : Int) == 0) = false := by rw [beq_eq_false_iff_ne]; omega
              have hli : ∀ W p c, IntsAt W p [(k : Int)] → Calls Tryd.prog 20 #[.slice p 1 c, .slice (some ⟨W.heap.size, 0, none⟩) 1 1] (W.alloc (.cells #[.int .i64 k] 2)) fun e w' => e = .returned (.bool true) ∧ Ext W w' := fun W p c hW =>
                (likeInts_c p (some ⟨W.heap.size, 0, none⟩) c 1 [(k : Int)] [(k : Int)] _ (hW.ext ((Ext.refl W).alloc _)) (IntsAt_alloc W [(k : Int)] 2) (by simp) (by simp)).mono fun e w' h => by
                  rcases h with ⟨⟨_, h⟩ | ⟨h, _⟩, n, hn⟩
                  · exact ⟨h, by rw [hn]; exact ((Ext.refl W).alloc _).drewN n⟩
                  · exact absurd rfl h
              replace hli := Lib.hid hli
              replace hxl := Lib.hid hxl
              clear hPS
              go_wp2_with fail
              refine (hmp.out _ s10.out).mono ?_
              rintro e w11 ⟨⟨p11, c11, rfl, o11⟩, hx11⟩
              have s11 := Lib.hid (show SAt ptF 4 w11 p10 XS from fun i hi => by
                obtain ⟨b', o', e1, l1, d1⟩ := s10.out i hi
                exact ⟨b', o', e1, (ecell hx11).2.2.1 _ l1, fun j u hu => by rw [(ecell hx11).1 _ _ l1]; exact d1 j u hu⟩)
              have i11 := Lib.hid o11.ints
              have hx011 := hx010.trans hx11
              clear hmp s10 o11 hx010 hx11
              go_wp2_with fail
              refine (hjq.out _ s11.out).mono ?_
              rintro e w12 ⟨rfl, hx12⟩
              have i12 := Lib.hid (i11.out.ext hx12)
              have hx012 := hx011.trans hx12
              clear hjq s11 i11 hx011 hx12
              go_wp2_with (go_at_call 20; (with_reducible refine (hli.out _ _ _ i12.out).mono ?_); rintro e w13 ⟨rfl, hx13⟩)
              go_ret
              exact ⟨rfl, hx012.trans hx13⟩
            · have hxl := hXSl.out
              have hxl0 : ((XS.length : Int) == 0) = true := by rw [beq_iff_eq]; omega
              replace hxl := Lib.hid hxl
              go_wp2
              go_ret
              exact ⟨rfl, hx010⟩
          · skip
            refine wp_region_canon (fun w' => Ext w8 w') [(1, true), (2, true), (3, true), (5, true), (6, true), (7, true), (8, true), (0, false), (4, false), (9, false), (10, true)] (by kernel_rfl) (by kernel_rfl) (by decide) (by kernel_rfl) ?_ ?_
            · exact (by repeat (first | exact Ext.refl _ | assumption | refine Ext.drew ?_ | refine Ext.drewN ?_ _ | refine Ext.iter ?_ _ _ | refine Ext.alloc ?_ _ | refine Ext.setCell ?_ (by first | exact Nat.le_refl _ | (simp <;> omega)) _ | refine Ext.trans2 (by assumption) ?_))
            refine canon_intro fun ops eo => ?_
            have ho0 := canon_at eo 0 rfl
            have ho1 := canon_at eo 1 rfl
            have ho2 := canon_at eo 2 rfl
            have ho3 := canon_at eo 3 rfl
            have ho4 := canon_at eo 4 rfl
            have ho5 := canon_at eo 5 rfl
            have ho6 := canon_at eo 6 rfl
            have ho7 := canon_at eo 7 rfl
            have ho8 := canon_at eo 8 rfl
            have ho9 := canon_at eo 9 rfl
            have ho10 := canon_at eo 10 rfl
            clear eo
            all_goals (apply canon_st ho1 rfl; (intro w2 hS; first | (go_simp; first | done | rfl) | rfl | (obtain ⟨hc', hf', hk', hz⟩ := ecell hS; go_simp; first | done | rfl)); simp only [Act.put, List.setIfInBounds_toArray, List.set_cons_zero, List.set_cons_succ])
            all_goals clear ho1
            all_goals (apply canon_st ho2 rfl; (intro w2 hS; first | (go_simp; first | done | rfl) | rfl | (obtain ⟨hc', hf', hk', hz⟩ := ecell hS; go_simp; first | done | rfl)); simp only [Act.put, List.setIfInBounds_toArray, List.set_cons_zero, List.set_cons_succ])
            all_goals clear ho2
            all_goals (apply canon_st ho3 rfl; (intro w2 hS; first | (go_simp; first | done | rfl) | rfl | (obtain ⟨hc', hf', hk', hz⟩ := ecell hS; go_simp; first | done | rfl)); simp only [Act.put, List.setIfInBounds_toArray, List.set_cons_zero, List.set_cons_succ])
            all_goals clear ho3
            all_goals (apply canon_st ho5 rfl; (intro w2 hS; first | (go_simp; first | done | rfl) | rfl | (obtain ⟨hc', hf', hk', hz⟩ := ecell hS; go_simp; first | done | rfl)); simp only [Act.put, List.setIfInBounds_toArray, List.set_cons_zero, List.set_cons_succ])
            all_goals clear ho5
            all_goals (apply canon_st ho6 rfl; (intro w2 hS; first | (go_simp; first | done | rfl) | rfl | (obtain ⟨hc', hf', hk', hz⟩ := ecell hS; go_simp; first | done | rfl)); simp only [Act.put, List.setIfInBounds_toArray, List.set_cons_zero, List.set_cons_succ])
            all_goals clear ho6
            all_goals (apply canon_st ho7 rfl; (intro w2 hS; first | (go_simp; first | done | rfl) | rfl | (obtain ⟨hc', hf', hk', hz⟩ := ecell hS; go_simp; first | done | rfl)); simp only [Act.put, List.setIfInBounds_toArray, List.set_cons_zero, List.set_cons_succ])
            all_goals clear ho7
            all_goals (apply canon_st ho8 rfl; (intro w2 hS; first | (go_simp; first | done | rfl) | rfl | (obtain ⟨hc', hf', hk', hz⟩ := ecell hS; go_simp; first | done | rfl)); simp only [Act.put, List.setIfInBounds_toArray, List.set_cons_zero, List.set_cons_succ])
            all_goals clear ho8
            all_goals first | (refine canon_ef ho0 rfl (fun K hK => ?_); (refine appendSL_opP hI1 hI2 rfl (by omega) (by omega) ptF_len ptF_one k HTL.out.symm hrow0 (fun i hi => by obtain ⟨b', o', e1, l1, d1⟩ := sT.out i hi; have hxx : Ext w8 (w8.alloc (.cells #[] 39)).drew := (by repeat (first | exact Ext.refl _ | assumption | refine Ext.drew ?_ | refine Ext.drewN ?_ _ | refine Ext.iter ?_ _ _ | refine Ext.alloc ?_ _ | refine Ext.setCell ?_ (by first | exact Nat.le_refl _ | (simp <;> omega)) _ | refine Ext.trans2 (by assumption) ?_)); exact ⟨b', o', e1, (ecell hxx).2.2.1 _ l1, fun j u hu => by rw [(ecell hxx).1 _ _ l1]; exact d1 j u hu⟩) (by simp; omega) (by simp) ?_ rfl rfl; intro v9 w9 hq9 hg9; simp only [List.nil_append] at hq9; have hx9 : Ext w8 w9 := hg9.toExt (by repeat (first | exact Ext.refl _ | assumption | refine Ext.drew ?_ | refine Ext.drewN ?_ _ | refine Ext.iter ?_ _ _ | refine Ext.alloc ?_ _ | refine Ext.setCell ?_ (by first | exact Nat.le_refl _ | (simp <;> omega)) _ | refine Ext.trans2 (by assumption) ?_)) (fun k hk => (hrow0.lt k hk).1); obtain ⟨p9, d9, rfl, hq9o, hc9⟩ := hq9.ownC ptF_len; clear hg9); all_goals (refine hK _ _ ⟨(by first | assumption | exact (by repeat (first | exact Ext.refl _ | assumption | refine Ext.drew ?_ | refine Ext.drewN ?_ _ | refine Ext.iter ?_ _ _ | refine Ext.alloc ?_ _ | refine Ext.setCell ?_ (by first | exact Nat.le_refl _ | (simp <;> omega)) _ | refine Ext.trans2 (by assumption) ?_))), ?_⟩; clear hK K; go_simp)) | (refine canon_ef ho0 rfl (fun K hK => ?_); (refine appendSL_opP hI1 hI2 rfl (by omega) (by omega) ptF_len ptF_one (n - (k + 1)) HDL.out.symm hq9 (fun i hi => by obtain ⟨b', o', e1, l1, d1⟩ := sD.out i hi; exact ⟨b', o', e1, (ecell hx9).2.2.1 _ l1, fun j u hu => by rw [(ecell hx9).1 _ _ l1]; exact d1 j u hu⟩) (by rw [HTL.out]; omega) hx9.below.size ?_ rfl rfl; intro v10 w10 hq10 hg10; rw [HXS.out] at hq10; have hx10 : Ext w8 w10 := hg10.toExt hx9 (fun k hk => (hq9.lt k hk).1); obtain ⟨p10, d10, rfl, hq10o, hc10⟩ := hq10.ownC ptF_len; clear hg10); all_goals (refine hK _ _ ⟨(by first | assumption | exact (by repeat (first | exact Ext.refl _ | assumption | refine Ext.drew ?_ | refine Ext.drewN ?_ _ | refine Ext.iter ?_ _ _ | refine Ext.alloc ?_ _ | refine Ext.setCell ?_ (by first | exact Nat.le_refl _ | (simp <;> omega)) _ | refine Ext.trans2 (by assumption) ?_))), ?_⟩; clear hK K; go_simp)) | (refine canon_ef ho0 rfl (fun K hK => ?_); go_simp; (skip); all_goals (refine hK _ _ ⟨(by first | assumption | exact (by repeat (first | exact Ext.refl _ | assumption | refine Ext.drew ?_ | refine Ext.drewN ?_ _ | refine Ext.iter ?_ _ _ | refine Ext.alloc ?_ _ | refine Ext.setCell ?_ (by first | exact Nat.le_refl _ | (simp <;> omega)) _ | refine Ext.trans2 (by assumption) ?_))), ?_⟩; clear hK K; go_simp))
            all_goals clear ho0
            all_goals first | (refine canon_ef ho4 rfl (fun K hK => ?_); (refine appendSL_opP hI1 hI2 rfl (by omega) (by omega) ptF_len ptF_one k HTL.out.symm hrow0 (fun i hi => by obtain ⟨b', o', e1, l1, d1⟩ := sT.out i hi; have hxx : Ext w8 (w8.alloc (.cells #[] 39)).drew := (by repeat (first | exact Ext.refl _ | assumption | refine Ext.drew ?_ | refine Ext.drewN ?_ _ | refine Ext.iter ?_ _ _ | refine Ext.alloc ?_ _ | refine Ext.setCell ?_ (by first | exact Nat.le_refl _ | (simp <;> omega)) _ | refine Ext.trans2 (by assumption) ?_)); exact ⟨b', o', e1, (ecell hxx).2.2.1 _ l1, fun j u hu => by rw [(ecell hxx).1 _ _ l1]; exact d1 j u hu⟩) (by simp; omega) (by simp) ?_ rfl rfl; intro v9 w9 hq9 hg9; simp only [List.nil_append] at hq9; have hx9 : Ext w8 w9 := hg9.toExt (by repeat (first | exact Ext.refl _ | assumption | refine Ext.drew ?_ | refine Ext.drewN ?_ _ | refine Ext.iter ?_ _ _ | refine Ext.alloc ?_ _ | refine Ext.setCell ?_ (by first | exact Nat.le_refl _ | (simp <;> omega)) _ | refine Ext.trans2 (by assumption) ?_)) (fun k hk => (hrow0.lt k hk).1); obtain ⟨p9, d9, rfl, hq9o, hc9⟩ := hq9.ownC ptF_len; clear hg9); all_goals (refine hK _ _ ⟨(by first | assumption | exact (by repeat (first | exact Ext.refl _ | assumption | refine Ext.drew ?_ | refine Ext.drewN ?_ _ | refine Ext.iter ?_ _ _ | refine Ext.alloc ?_ _ | refine Ext.setCell ?_ (by first | exact Nat.le_refl _ | (simp <;> omega)) _ | refine Ext.trans2 (by assumption) ?_))), ?_⟩; clear hK K; go_simp)) | (refine canon_ef ho4 rfl (fun K hK => ?_); (refine appendSL_opP hI1 hI2 rfl (by omega) (by omega) ptF_len ptF_one (n - (k + 1)) HDL.out.symm hq9 (fun i hi => by obtain ⟨b', o', e1, l1, d1⟩ := sD.out i hi; exact ⟨b', o', e1, (ecell hx9).2.2.1 _ l1, fun j u hu => by rw [(ecell hx9).1 _ _ l1]; exact d1 j u hu⟩) (by rw [HTL.out]; omega) hx9.below.size ?_ rfl rfl; intro v10 w10 hq10 hg10; rw [HXS.out] at hq10; have hx10 : Ext w8 w10 := hg10.toExt hx9 (fun k hk => (hq9.lt k hk).1); obtain ⟨p10, d10, rfl, hq10o, hc10⟩ := hq10.ownC ptF_len; clear hg10); all_goals (refine hK _ _ ⟨(by first | assumption | exact (by repeat (first | exact Ext.refl _ | assumption | refine Ext.drew ?_ | refine Ext.drewN ?_ _ | refine Ext.iter ?_ _ _ | refine Ext.alloc ?_ _ | refine Ext.setCell ?_ (by first | exact Nat.le_refl _ | (simp <;> omega)) _ | refine Ext.trans2 (by assumption) ?_))), ?_⟩; clear hK K; go_simp)) | (refine canon_ef ho4 rfl (fun K hK => ?_); go_simp; (skip); all_goals (refine hK _ _ ⟨(by first | assumption | exact (by repeat (first | exact Ext.refl _ | assumption | refine Ext.drew ?_ | refine Ext.drewN ?_ _ | refine Ext.iter ?_ _ _ | refine Ext.alloc ?_ _ | refine Ext.setCell ?_ (by first | exact Nat.le_refl _ | (simp <;> omega)) _ | refine Ext.trans2 (by assumption) ?_))), ?_⟩; clear hK K; go_simp))
            all_goals clear ho4
            all_goals first | (refine canon_ef ho9 rfl (fun K hK => ?_); (refine appendSL_opP hI1 hI2 rfl (by omega) (by omega) ptF_len ptF_one k HTL.out.symm hrow0 (fun i hi => by obtain ⟨b', o', e1, l1, d1⟩ := sT.out i hi; have hxx : Ext w8 (w8.alloc (.cells #[] 39)).drew := (by repeat (first | exact Ext.refl _ | assumption | refine Ext.drew ?_ | refine Ext.drewN ?_ _ | refine Ext.iter ?_ _ _ | refine Ext.alloc ?_ _ | refine Ext.setCell ?_ (by first | exact Nat.le_refl _ | (simp <;> omega)) _ | refine Ext.trans2 (by assumption) ?_)); exact ⟨b', o', e1, (ecell hxx).2.2.1 _ l1, fun j u hu => by rw [(ecell hxx).1 _ _ l1]; exact d1 j u hu⟩) (by simp; omega) (by simp) ?_ rfl rfl; intro v9 w9 hq9 hg9; simp only [List.nil_append] at hq9; have hx9 : Ext w8 w9 := hg9.toExt (by repeat (first | exact Ext.refl _ | assumption | refine Ext.drew ?_ | refine Ext.drewN ?_ _ | refine Ext.iter ?_ _ _ | refine Ext.alloc ?_ _ | refine Ext.setCell ?_ (by first | exact Nat.le_refl _ | (simp <;> omega)) _ | refine Ext.trans2 (by assumption) ?_)) (fun k hk => (hrow0.lt k hk).1); obtain ⟨p9, d9, rfl, hq9o, hc9⟩ := hq9.ownC ptF_len; clear hg9); all_goals (refine hK _ _ ⟨(by first | assumption | exact (by repeat (first | exact Ext.refl _ | assumption | refine Ext.drew ?_ | refine Ext.drewN ?_ _ | refine Ext.iter ?_ _ _ | refine Ext.alloc ?_ _ | refine Ext.setCell ?_ (by first | exact Nat.le_refl _ | (simp <;> omega)) _ | refine Ext.trans2 (by assumption) ?_))), ?_⟩; clear hK K; go_simp)) | (refine canon_ef ho9 rfl (fun K hK => ?_); (refine appendSL_opP hI1 hI2 rfl (by omega) (by omega) ptF_len ptF_one (n - (k + 1)) HDL.out.symm hq9 (fun i hi => by obtain ⟨b', o', e1, l1, d1⟩ := sD.out i hi; exact ⟨b', o', e1, (ecell hx9).2.2.1 _ l1, fun j u hu => by rw [(ecell hx9).1 _ _ l1]; exact d1 j u hu⟩) (by rw [HTL.out]; omega) hx9.below.size ?_ rfl rfl; intro v10 w10 hq10 hg10; rw [HXS.out] at hq10; have hx10 : Ext w8 w10 := hg10.toExt hx9 (fun k hk => (hq9.lt k hk).1); obtain ⟨p10, d10, rfl, hq10o, hc10⟩ := hq10.ownC ptF_len; clear hg10); all_goals (refine hK _ _ ⟨(by first | assumption | exact (by repeat (first | exact Ext.refl _ | assumption | refine Ext.drew ?_ | refine Ext.drewN ?_ _ | refine Ext.iter ?_ _ _ | refine Ext.alloc ?_ _ | refine Ext.setCell ?_ (by first | exact Nat.le_refl _ | (simp <;> omega)) _ | refine Ext.trans2 (by assumption) ?_))), ?_⟩; clear hK K; go_simp)) | (refine canon_ef ho9 rfl (fun K hK => ?_); go_simp; (skip); all_goals (refine hK _ _ ⟨(by first | assumption | exact (by repeat (first | exact Ext.refl _ | assumption | refine Ext.drew ?_ | refine Ext.drewN ?_ _ | refine Ext.iter ?_ _ _ | refine Ext.alloc ?_ _ | refine Ext.setCell ?_ (by first | exact Nat.le_refl _ | (simp <;> omega)) _ | refine Ext.trans2 (by assumption) ?_))), ?_⟩; clear hK K; go_simp))
            all_goals clear ho9
            all_goals (apply canon_st ho10 rfl; (intro w2 hS; first | (go_simp; first | done | rfl) | rfl | (obtain ⟨hc', hf', hk', hz⟩ := ecell hS; go_simp; first | done | rfl)); simp only [Act.put, List.setIfInBounds_toArray, List.set_cons_zero, List.set_cons_succ])
            all_goals clear ho10
            all_goals refine canon_done (NoPanic.normal ?_)
            have hx010 := hx08.trans hx10
            have s10 := Lib.hid hq10o.sat
            clear hx9 hx10 hq9 hq10 hq9o hq10o hrow0 s18 sT sD ek ekt
            by_cases hn2 : 2 ≤ n
            · have hPS := HPS.out hn2
              have hmp := Lib.hid (fun W hW => missingParts_c hPS (k := k) (by omega) (some_mis (by omega)) p10 d10 W hW)
              have hjq := Lib.hid (fun W hW => joinParts_c hPS (fun h => absurd h (by omega)) (fun h => absurd h (by omega)) ByteArray.empty 5 (fun h => absurd h (by omega)) (fun _ => ⟨rfl, rfl⟩) p10 d10 W hW)
              rw [← hXSl.out] at hmp hjq
              have hxl := hXSl.out
              have hxl0 : ((XS.length : Int) == 0) = false := by rw [beq_eq_false_iff_ne]; omega
              have hli : ∀ W p c, IntsAt W p [(k : Int)] → Calls Tryd.prog 20 #[.slice p 1 c, .slice (some ⟨W.heap.size, 0, none⟩) 1 1] (W.alloc (.cells #[.int .i64 k] 2)) fun e w' => e = .returned (.bool true) ∧ Ext W w' := fun W p c hW =>
                (likeInts_c p (some ⟨W.heap.size, 0, none⟩) c 1 [(k : Int)] [(k : Int)] _ (hW.ext ((Ext.refl W).alloc _)) (IntsAt_alloc W [(k : Int)] 2) (by simp) (by simp)).mono fun e w' h => by
                  rcases h with ⟨⟨_, h⟩ | ⟨h, _⟩, n, hn⟩
                  · exact ⟨h, by rw [hn]; exact ((Ext.refl W).alloc _).drewN n⟩
                  · exact absurd rfl h
              replace hli := Lib.hid hli
              replace hxl := Lib.hid hxl
              clear hPS
              go_wp2_with fail
              refine (hmp.out _ s10.out).mono ?_
              rintro e w11 ⟨⟨p11, c11, rfl, o11⟩, hx11⟩
              have s11 := Lib.hid (show SAt ptF 4 w11 p10 XS from fun i hi => by
                obtain ⟨b', o', e1, l1, d1⟩ := s10.out i hi
                exact ⟨b', o', e1, (ecell hx11).2.2.1 _ l1, fun j u hu => by rw [(ecell hx11).1 _ _ l1]; exact d1 j u hu⟩)
              have i11 := Lib.hid o11.ints
              have hx011 := hx010.trans hx11
              clear hmp s10 o11 hx010 hx11
              go_wp2_with fail
              refine (hjq.out _ s11.out).mono ?_
              rintro e w12 ⟨rfl, hx12⟩
              have i12 := Lib.hid (i11.out.ext hx12)
              have hx012 := hx011.trans hx12
              clear hjq s11 i11 hx011 hx12
              go_wp2_with (go_at_call 20; (with_reducible refine (hli.out _ _ _ i12.out).mono ?_); rintro e w13 ⟨rfl, hx13⟩)
              go_ret
              exact ⟨rfl, hx012.trans hx13⟩
            · have hxl := hXSl.out
              have hxl0 : ((XS.length : Int) == 0) = true := by rw [beq_iff_eq]; omega
              replace hxl := Lib.hid hxl
              go_wp2
              go_ret
              exact ⟨rfl, hx010⟩
        · have ei : (((r + 1 : Nat) : Int) - 1) = (r : Int) := by omega
          rw [ei]
          clear ei
          obtain ⟨⟨y0, y1, y2, y3⟩, ⟨z0, z1, z2, z3⟩⟩ := HT2.out r (by omega)
          replace y0 := ((ecell hE).1 b1 _ hl1).trans y0; replace y1 := ((ecell hE).1 b1 _ hl1).trans y1; replace y2 := ((ecell hE).1 b1 _ hl1).trans y2; replace y3 := ((ecell hE).1 b1 _ hl1).trans y3
          replace z0 := ((ecell hE).1 b2 _ hl2).trans z0; replace z1 := ((ecell hE).1 b2 _ hl2).trans z1; replace z2 := ((ecell hE).1 b2 _ hl2).trans z2; replace z3 := ((ecell hE).1 b2 _ hl2).trans z3
          have hw1 := (ecell hE).2.2.1 b1 hl1; have hw2 := (ecell hE).2.2.1 b2 hl2
          have hri : (r : Int) < n := by omega
          have hst := Lib.hid (show (Y.drop r).reverse = (Y.drop (r + 1)).reverse ++ [((r : Int), (n : Int), par t, L.getD r ByteArray.empty)] from by
            have hjl : r < Y.length := by rw [HYl.out]; omega
            rw [List.drop_eq_getElem_cons hjl, List.reverse_cons]
            congr 2
            have hg : Y[r]? = some ((r : Int), (n : Int), par t, L.getD r ByteArray.empty) := by
              rw [HY.out, mkP_at _ _ L 0 r (by rw [HN.out]; omega), Nat.zero_add]
            rw [List.getElem?_eq_getElem hjl, Option.some.injEq] at hg
            exact hg)
          have hbl : ((Y.drop (r + 1)).reverse).length < 1000 := by rw [List.length_reverse, List.length_drop, HYl.out]; omega
          generalize (Y.drop (r + 1)).reverse = BK at *
          generalize L.getD r ByteArray.empty = T at *
          have hTT : (T.toList == T.toList) = true := by simp
          go_wp2_with fail
          go_quiet (fail)
          have hown6 : RowS 39 ptF 4 w5.heap.size (wr.drewN nq) _ BK := hown
          have hE6 : Ext w5 (wr.drewN nq) := hE.drewN nq
          replace y0 : (wr.drewN nq).cell? ⟨b1, o1 + r * 4, none⟩ = some (.int .i64 (r : Nat)) := y0
          replace y1 : (wr.drewN nq).cell? ⟨b1, o1 + r * 4 + 1, none⟩ = some (.int .i64 n) := y1
          replace y2 : (wr.drewN nq).cell? ⟨b1, o1 + r * 4 + 2, none⟩ = some (.int .i64 (par t)) := y2
          replace y3 : (wr.drewN nq).cell? ⟨b1, o1 + r * 4 + 3, none⟩ = some (.string T) := y3
          replace hw1 : b1 < (wr.drewN nq).heap.size := hw1
          have hz6 : w5.heap.size ≤ (wr.drewN nq).heap.size := hE.below.size
          clear z0 z1 z2 z3 hown hE hw2
          generalize wr.drewN nq = w6 at *
          have er := IntWalk.i64_in ((r : Int) - 1) (by omega)
          go_wp2_with (at_builtin; go_loud (refine append1S (w0 := w6) hI1 hI2 rfl (by omega) (by omega) ptF_len ptF_one (n := ((r : Int), (n : Int), par t, T)) hown6 (by omega) hz6 rfl ?_ rfl rfl); intro v1 w7 hown7 hb7)
          go_roundw
          case rel => exact ⟨r, by omega, rfl, by rw [hst.out]; exact hown7, hE6.trans3 hb7⟩
          case measure => (try simp [intOf]) <;> omega
    · have h0b : (cd != 0) = true := by simpa using h0
      go_wp2
      go_ret
      exact ⟨rfl, hx05⟩
  · go_enter Tryd.func4, Tryd.ntmps4
    go_wp2_with (go_at_call 12; (with_reducible refine (big_c _ _ _ _ hl).mono ?_); rintro e w1 ⟨⟨hP, rfl⟩ | ⟨hP, rfl⟩, rfl⟩ <;> first | (exfalso; omega) | skip)
    go_ret
    exact ⟨rfl, Ext.refl _⟩
end Go.Proofs.YthpnkcamjcohgaaDoor
