/- Stacked symbols, the program's side: the level that the rows tell. -/
import Derived.Test.YtojdediohjghnaaGreatDoorLSurvivesDamageK25
import Derived.Test.YtojdediohjghnaaGreatDoorLSurvivesDamageK21
import Derived.Test.YtojdediohjghnaaGreatDoorLSurvivesDamageK24
set_option linter.unusedVariables false
set_option linter.unusedSimpArgs false
namespace Go.Proofs.YtojdediohjghnaaGreatDoor
open Go.RowKit

def v4 (f : Nat → Nat) : Array Value := #[.int .i64 (f 0), .int .i64 (f 1), .int .i64 (f 2), .int .i64 (f 3)]
theorem v4_at {f : Nat → Nat} {k : Nat} (h : k < 4) : (v4 f)[k]? = some (.int .i64 (f k)) := by
 rcases (by omega : k = 0 ∨ k = 1 ∨ k = 2 ∨ k = 3) with rfl | rfl | rfl | rfl <;> rfl
theorem v4_ext {f g : Nat → Nat} (h : ∀ k, k < 4 → f k = g k) : v4 f = v4 g := by
 unfold v4
 rw [h 0 (by omega), h 1 (by omega), h 2 (by omega), h 3 (by omega)]
theorem v4_set {f g : Nat → Nat} {k : Nat} (hk : k < 4) (h1 : g k = f k + 1) (h2 : ∀ i, i < 4 → i ≠ k → g i = f i) : (v4 f).setIfInBounds k (.int .i64 ((f k : Int) + 1)) = v4 g := by
 have e : ((f k : Int) + 1) = ((g k : Nat) : Int) := by omega
 rw [e]
 rcases (by omega : k = 0 ∨ k = 1 ∨ k = 2 ∨ k = 3) with rfl | rfl | rfl | rfl
 ·show #[_, _, _, _] = _
  unfold v4
  rw [h2 1 (by omega) (by omega), h2 2 (by omega) (by omega), h2 3 (by omega) (by omega)]
 ·show #[_, _, _, _] = _
  unfold v4
  rw [h2 0 (by omega) (by omega), h2 2 (by omega) (by omega), h2 3 (by omega) (by omega)]
 ·show #[_, _, _, _] = _
  unfold v4
  rw [h2 0 (by omega) (by omega), h2 1 (by omega) (by omega), h2 3 (by omega) (by omega)]
 ·show #[_, _, _, _] = _
  unfold v4
  rw [h2 0 (by omega) (by omega), h2 1 (by omega) (by omega), h2 2 (by omega) (by omega)]
theorem ix4_0 (a b c d : Int) (w : World) : (Instr.index 224 (.agg #[.int .i64 a, .int .i64 b, .int .i64 c, .int .i64 d]) (.int .i64 0)).run Tryz.prog w = .ok (.int .i64 a) w := by kernel_rfl
theorem ix4_1 (a b c d : Int) (w : World) : (Instr.index 224 (.agg #[.int .i64 a, .int .i64 b, .int .i64 c, .int .i64 d]) (.int .i64 1)).run Tryz.prog w = .ok (.int .i64 b) w := by kernel_rfl
theorem ix4_2 (a b c d : Int) (w : World) : (Instr.index 224 (.agg #[.int .i64 a, .int .i64 b, .int .i64 c, .int .i64 d]) (.int .i64 2)).run Tryz.prog w = .ok (.int .i64 c) w := by kernel_rfl
theorem ix4_3 (a b c d : Int) (w : World) : (Instr.index 224 (.agg #[.int .i64 a, .int .i64 b, .int .i64 c, .int .i64 d]) (.int .i64 3)).run Tryz.prog w = .ok (.int .i64 d) w := by kernel_rfl
def vtR (xs : List Int) (C m n r k : Nat) : Nat := vt n (fun v => votes xs C m r v) k
theorem vtR_bd (xs : List Int) (C m n r k : Nat) : vtR xs C m n r k ≤ r := by
 unfold vtR vt
 split
 ·exact votes_bd _ _ _ _ _
 ·exact Nat.zero_le _
theorem vtR_zero (xs : List Int) (C m n k : Nat) : vtR xs C m n 0 k = 0 := by
 unfold vtR vt
 split <;> rfl
theorem vtR_hit {xs : List Int} {C m n r : Nat} {v : Nat} (h : r % 3 = 2) (hv : (rowsV xs C m r).getD (m - 1) 0 = v) (hn : v < n) : vtR xs C m n (r + 1) v = vtR xs C m n r v + 1 := by
 unfold vtR
 rw [vt_in hn, vt_in hn, votes_hit h hv]
theorem vtR_far {xs : List Int} {C m n r k : Nat} {v : Int} (hv : (rowsV xs C m r).getD (m - 1) 0 = v) (h : (k : Int) ≠ v ∨ ¬ k < n) : vtR xs C m n (r + 1) k = vtR xs C m n r k := by
 unfold vtR
 by_cases hn : k < n
 ·rw [vt_in hn, vt_in hn]
  exact votes_miss (fun e => by
   rcases h with h | h
   ·exact h (by rw [← e.2]; exact hv)
   ·exact h hn)
 ·rw [vt_out hn, vt_out hn]
theorem vtR_skip {xs : List Int} {C m n r k : Nat} (h : r % 3 ≠ 2) : vtR xs C m n (r + 1) k = vtR xs C m n r k := by
 unfold vtR vt
 split
 ·exact votes_miss (fun e => h e.1)
 ·rfl
set_option maxHeartbeats 3200000 in
set_option maxRecDepth 100000 in
theorem stackLevel_c (nm : ByteArray) (K p k q co : Int) (ps pl : Option Addr) (ns cs nl cl : Nat) (R C b o cap : Nat) (xs : List Int) (w : World) (hn : nl ≤ 4) (hx : IntsAt w (some ⟨b, o, none⟩) xs) (hl : xs.length = R * C) (hC : 26 ≤ C) (hcap : xs.length ≤ cap) (h4 : R * C ≤ 40000) (hbd : ∀ x ∈ xs, -1 ≤ x ∧ x ≤ 1) :
  Calls Tryz.prog 117 #[vFam nm K p k q ps ns cs co pl nl cl, vGrid R C (some ⟨b, o, none⟩) xs.length cap] w fun e w' => e = .returned (.tuple #[.int .i64 (topTo (vtR xs C (rowN C) nl R) 4), .bool (decide (0 < vtR xs C (rowN C) nl R (topTo (vtR xs C (rowN C) nl R) 4)))]) ∧ Ext w w' := by
 have HX := Lib.hid hx; clear hx
 have hm1 : 1 ≤ rowN C := by unfold rowN; omega
 have hmC : rowN C ≤ C := by unfold rowN; omega
 have hR4 : R ≤ 40000 := by
  have : R * 1 ≤ R * C := Nat.mul_le_mul_left _ (by omega)
  omega
 obtain ⟨m, hm⟩ : ∃ m, rowN C = m + 1 := ⟨rowN C - 1, by omega⟩
 have hsv := Lib.hid (fun W (h : IntsAt W (some ⟨b, o, none⟩) xs) => stackValues_c R C b o cap xs W h hl (by omega) hcap h4 hbd)
 have hhl := Lib.hid (fun lv W => iHasLevel_c nm K p k q co ps pl ns cs nl cl lv W (by omega))
 rw [hm] at hsv ⊢
 obtain ⟨f, hf⟩ : ∃ f, vtR xs C (m + 1) nl R = f := ⟨_, rfl⟩
 rw [hf]
 replace hf := Lib.hid hf
 have hvb := Lib.hid (fun r j => vtR_bd xs C (m + 1) nl r j)
 have hmb : R = 0 ∨ m ≤ 40000 := by
  rcases Nat.eq_zero_or_pos R with h | h
  ·exact .inl h
  ·have : 1 * C ≤ R * C := Nat.mul_le_mul_right _ h
   exact .inr (by omega)
 clear hl hbd h4
 have hb0 := (((Blk.new w #[.string nm, .int .i64 K, .int .i64 p, .int .i64 k, .int .i64 q, .slice ps ns cs, .int .i64 co, .slice pl nl cl] 35).alloc (.cells #[.int .i64 R, .int .i64 C, .slice (some ⟨b, o, none⟩) xs.length cap] 37)).alloc (.cells #[.int .i64 0, .int .i64 0, .int .i64 0, .int .i64 0] 224))
 have hb1 := (Blk.new1 w (.cells #[.string nm, .int .i64 K, .int .i64 p, .int .i64 k, .int .i64 q, .slice ps ns cs, .int .i64 co, .slice pl nl cl] 35) #[.int .i64 R, .int .i64 C, .slice (some ⟨b, o, none⟩) xs.length cap] 37).alloc (.cells #[.int .i64 0, .int .i64 0, .int .i64 0, .int .i64 0] 224)
 have hb2 := Blk.new ((w.alloc (.cells #[.string nm, .int .i64 K, .int .i64 p, .int .i64 k, .int .i64 q, .slice ps ns cs, .int .i64 co, .slice pl nl cl] 35)).alloc (.cells #[.int .i64 R, .int .i64 C, .slice (some ⟨b, o, none⟩) xs.length cap] 37)) #[.int .i64 0, .int .i64 0, .int .i64 0, .int .i64 0] 224
 rw [World.size_alloc, World.size_alloc] at hb2
 have hx0 : Ext w (((w.alloc (.cells #[.string nm, .int .i64 K, .int .i64 p, .int .i64 k, .int .i64 q, .slice ps ns cs, .int .i64 co, .slice pl nl cl] 35)).alloc (.cells #[.int .i64 R, .int .i64 C, .slice (some ⟨b, o, none⟩) xs.length cap] 37)).alloc (.cells #[.int .i64 0, .int .i64 0, .int .i64 0, .int .i64 0] 224)) := (((Ext.refl w).alloc _).alloc _).alloc _
 have hz4 := Lib.hid (show #[.int .i64 0, .int .i64 0, .int .i64 0, .int .i64 0] = v4 (vtR xs C (m + 1) nl 0) from by unfold v4; simp only [vtR_zero]; rfl)
 go_enter Tryz.func117, Tryz.ntmps117
 go_upto_region 2 with (fail)
 obtain ⟨c0, c1, c2⟩ := hb1.c3; have cL := hb1.lt
 have hcall := Lib.hid (hsv.out _ (HX.out.ext hx0))
 have hfl := hb0.lt
 have hvl := hb2.lt
 obtain ⟨gF, hgF⟩ : ∃ g, w.heap.size = g := ⟨_, rfl⟩
 obtain ⟨gG, hgG⟩ : ∃ g, w.heap.size + 1 = g := ⟨_, rfl⟩
 obtain ⟨gV, hgV⟩ : ∃ g, w.heap.size + 1 + 1 = g := ⟨_, rfl⟩
 have hne : w.heap.size ≤ gV ∧ gF ≠ gV := by omega
 rw [hgV] at hb2 hvl ⊢
 rw [hgG] at hb1 c0 c1 c2 cL ⊢
 rw [hgF] at hb0 hfl ⊢
 replace hgV := Lib.hid hgV; replace hgG := Lib.hid hgG; replace hgF := Lib.hid hgF
 generalize (((w.alloc (.cells #[.string nm, .int .i64 K, .int .i64 p, .int .i64 k, .int .i64 q, .slice ps ns cs, .int .i64 co, .slice pl nl cl] 35)).alloc (.cells #[.int .i64 R, .int .i64 C, .slice (some ⟨b, o, none⟩) xs.length cap] 37)).alloc (.cells #[.int .i64 0, .int .i64 0, .int .i64 0, .int .i64 0] 224)) = w0 at *
 go_upto_region 3 with (go_at_call 119; go_loud ((with_reducible refine (hcall.out).mono ?_); rintro e w1 ⟨⟨gL, rfl, hL⟩, hx1⟩))
 have hb01 := hb0.ext hx1
 have hb21 := hb2.ext hx1
 rw [hz4.out] at hb21
 have hx11 := hx0.trans hx1
 clear hb0 hb1 hb2 hcall c0 c1 c2 cL hx1 hx0
 go_loopw [16] (fun i wr => ∃ r : Nat, r ≤ R ∧ i = .int .i64 r ∧ Blk wr gV (v4 (vtR xs C (m + 1) nl r)) 224 ∧ But gV w1 wr) (fun i _ => R - (intOf i).toNat)
 case atStart => exact ⟨0, Nat.zero_le _, rfl, hb21, But.refl _ _⟩
 case round =>
  clear hb21
  obtain ⟨r, hr, rfl, hV, hB⟩ := hrel
  have HB := hb01.but hB hne.2
  by_cases hlt : r < R
  ·obtain ⟨hLl, q1, q2, hLc, hLx⟩ := (hL.but hB hvl).row hlt
   have hmb2 : m ≤ 40000 := by omega
   have hlen := rowsV_len xs C (m + 1) r
   obtain ⟨bq, oq, rfl, hql, hqv⟩ := hLx m (by show m < (rowsV xs C (m + 1) r).length; omega)
   obtain ⟨v, hv⟩ : ∃ v, (rowsV xs C (m + 1) r).getD (m + 1 - 1) 0 = v := ⟨_, rfl⟩
   have hqv2 : wr.cell? ⟨bq, oq + m, none⟩ = some (.int .i64 v) := by rw [← hv]; exact hqv
   rw [hlen] at hLc
   clear hqv hLx
   have hVl := hV.lt; have hVf := hV.free
   obtain ⟨a0, a1, a2, a3, a4, a5, a6, a7⟩ := HB.c8; have aL := HB.lt
   by_cases h3 : r % 3 = 2
   ·have h3b : (r : Int) % 3 = 2 := by omega
    by_cases hin : 0 ≤ v ∧ v ≤ (nl : Int) - 1
    ·obtain ⟨j, rfl⟩ : ∃ j : Nat, v = j := ⟨v.toNat, by omega⟩
     have hjn : j < nl := by omega
     have hj4 : j < 4 := by omega
     have hset := v4_set (f := vtR xs C (m + 1) nl r) (g := vtR xs C (m + 1) nl (r + 1)) hj4 (vtR_hit h3 hv hjn) (fun i _ hne => vtR_far hv (.inl (by omega)))
     have kj := v4_at (f := vtR xs C (m + 1) nl r) hj4
     have hbj := hvb.out r j
     generalize vtR xs C (m + 1) nl r j = y at *
     generalize v4 (vtR xs C (m + 1) nl r) = A at *
     replace hset := Lib.hid hset
     replace kj := Lib.hid kj
     clear hv h3
     go_wp2_with (go_at_call 118; go_loud ((with_reducible refine (hhl.out _ _).mono ?_); rintro e w5 ⟨⟨hP, rfl⟩ | ⟨hP, rfl⟩, hx5⟩ <;> (first | exact absurd hin hP | skip); have hV5 := hV.ext hx5; have kj5 := hV5.cell kj.out; have hs5 := hV5.set j (.int .i64 ((y : Int) + 1)); rw [hset.out] at hs5; have hl5 := hV5.lt; have hf5 := hV5.free; have hB5 := hB.trans ((But.of hx5).trans (But.set w5 gV j (.int .i64 ((y : Int) + 1)))); clear hV5))
     exact ⟨⟨r + 1, hlt, by go_num, hs5, hB5⟩, by simp [intOf]; omega⟩
    ·have hset := v4_ext (f := vtR xs C (m + 1) nl r) (g := vtR xs C (m + 1) nl (r + 1)) (fun i _ => (vtR_far hv (by omega)).symm)
     rw [hset] at hV
     clear hset hv h3
     go_wp2_with (go_at_call 118; go_loud ((with_reducible refine (hhl.out _ _).mono ?_); rintro e w5 ⟨⟨hP, rfl⟩ | ⟨hP, rfl⟩, hx5⟩ <;> (first | exact absurd hP hin | skip); have hV5 := hV.ext hx5; have hB5 := hB.trans (But.of hx5)))
     exact ⟨⟨r + 1, hlt, by go_num, hV5, hB5⟩, by simp [intOf]; omega⟩
   ·have h3b : ((r : Int) % 3 == 2) = false := by simp; omega
    have hset := v4_ext (f := vtR xs C (m + 1) nl r) (g := vtR xs C (m + 1) nl (r + 1)) (fun i _ => (vtR_skip h3).symm)
    rw [hset] at hV
    clear hset hv h3
    go_wp2
    exact ⟨⟨r + 1, hlt, by go_num, hV, hB⟩, by simp [intOf]; omega⟩
  ·obtain rfl : r = R := by omega
   have hxr := hx11.but hB hne.1
   have hfb := hvb.out r
   clear hvb hlt
   rw [hf.out] at hV hfb
   clear hL hb01 hB HB hx11 hz4
   go_upto_region 10 with (fail)
   obtain ⟨k0, k1, k2, k3⟩ := hV.c4
   have hVl := hV.lt
   go_upto_region 11 with (fail)
   have hat := Lib.hid (fun j (h : j < 4) => hV.cell (v4_at (f := f) h))
   clear k0 k1 k2 k3 hV
   go_loopw [10, 42] (fun bb i w9 => ∃ j : Nat, j ≤ 4 ∧ i = .int .i64 j ∧ bb = .int .i64 (topTo f j) ∧ w9 = wr) (fun _ i _ => 4 - (intOf i).toNat)
   case atStart => exact ⟨0, Nat.zero_le _, rfl, rfl, rfl⟩
   case round =>
    obtain ⟨j, hj, rfl, rfl, rfl⟩ := hrel
    have i0 := ix4_0; have i1 := ix4_1; have i2 := ix4_2; have i3 := ix4_3
    have htb : topTo f j < 4 := by have := topTo_lt f j; omega
    have ct := hat.out _ htb
    by_cases hlt : j < 4
    ·by_cases hgt : f (topTo f j) < f j
     ·have hst := Lib.hid (topTo_up hgt)
      have hgi : ((f (topTo f j) : Nat) : Int) < (f j : Nat) := by omega
      clear hgt
      generalize topTo f j = t at *
      rcases (by omega : j = 0 ∨ j = 1 ∨ j = 2 ∨ j = 3) with rfl | rfl | rfl | rfl
      ·rw [show ((0 : Nat) : Int) = 0 from rfl]
       go_wp2
       exact ⟨⟨1, by omega, by go_num, by first | (rw [hst.out]; done) | (rw [hst.out]; rfl), by first | rfl | trivial⟩, by simp [intOf]⟩
      ·rw [show ((1 : Nat) : Int) = 1 from rfl]
       go_wp2
       exact ⟨⟨2, by omega, by go_num, by first | (rw [hst.out]; done) | (rw [hst.out]; rfl), by first | rfl | trivial⟩, by simp [intOf]⟩
      ·rw [show ((2 : Nat) : Int) = 2 from rfl]
       go_wp2
       exact ⟨⟨3, by omega, by go_num, by first | (rw [hst.out]; done) | (rw [hst.out]; rfl), by first | rfl | trivial⟩, by simp [intOf]⟩
      ·rw [show ((3 : Nat) : Int) = 3 from rfl]
       go_wp2
       exact ⟨⟨4, by omega, by go_num, by first | (rw [hst.out]; done) | (rw [hst.out]; rfl), by first | rfl | trivial⟩, by simp [intOf]⟩
     ·have hst := Lib.hid (topTo_no hgt)
      have hgi : ((f j : Nat) : Int) ≤ (f (topTo f j) : Nat) := by omega
      clear hgt
      generalize topTo f j = t at *
      rcases (by omega : j = 0 ∨ j = 1 ∨ j = 2 ∨ j = 3) with rfl | rfl | rfl | rfl
      ·rw [show ((0 : Nat) : Int) = 0 from rfl]
       go_wp2
       exact ⟨⟨1, by omega, by go_num, by first | (rw [hst.out]; done) | (rw [hst.out]; rfl), by first | rfl | trivial⟩, by simp [intOf]⟩
      ·rw [show ((1 : Nat) : Int) = 1 from rfl]
       go_wp2
       exact ⟨⟨2, by omega, by go_num, by first | (rw [hst.out]; done) | (rw [hst.out]; rfl), by first | rfl | trivial⟩, by simp [intOf]⟩
      ·rw [show ((2 : Nat) : Int) = 2 from rfl]
       go_wp2
       exact ⟨⟨3, by omega, by go_num, by first | (rw [hst.out]; done) | (rw [hst.out]; rfl), by first | rfl | trivial⟩, by simp [intOf]⟩
      ·rw [show ((3 : Nat) : Int) = 3 from rfl]
       go_wp2
       exact ⟨⟨4, by omega, by go_num, by first | (rw [hst.out]; done) | (rw [hst.out]; rfl), by first | rfl | trivial⟩, by simp [intOf]⟩
    ·obtain rfl : j = 4 := by omega
     obtain ⟨t, ht⟩ : ∃ t, topTo f 4 = t := ⟨_, rfl⟩
     rw [ht] at htb ct ⊢
     replace ht := Lib.hid ht
     go_wp2
     go_quiet (fail)
     go_wp2
     go_ret2
     exact ⟨by rw [ht.out]; rfl, hxr.drewN _⟩
end Go.Proofs.YtojdediohjghnaaGreatDoor
/- Stacked symbols, the reference's side: rows of values and the level that they tell. -/
namespace Go.Proofs.YtojdediohjghnaaGreatDoor
open Go.RowKit

set_option maxHeartbeats 1600000 in
set_option maxRecDepth 100000 in
theorem l17Read_c (b o c : Nat) (xs : List Int) (cl : Int) (w : World) (hx : IntsAt w (some ⟨b, o, none⟩) xs) (hl : xs.length ≤ 100000) (hc : xs.length ≤ c) :
  Calls Tryz.prog 105 #[.slice (some ⟨b, o, none⟩) xs.length c, .int .i64 cl] w fun e w' => (∃ v, e = .returned v ∧ RowI w.heap.size w' v (rowV xs cl (rowN xs.length))) ∧ Ext w w' := by
 have HX := Lib.hid hx; clear hx
 have hall := Lib.hid (l17All_c w)
 have hvv := Lib.hid (fun B v b o c ys W (hA : LLs B W v PAT) (h : IntsAt W (some ⟨b, o, none⟩) ys) (h2 : ys.length = 11) => l17Value_c B v b o c ys cl W hA h h2)
 go_enter Tryz.func105, Tryz.ntmps105
 go_wp2_with (go_at_call 152; go_loud ((with_reducible refine (hall.out).mono ?_); rintro e w2 ⟨⟨vA, rfl, hA⟩, hx2⟩))
 have hm0 := RowI.made (B := w2.heap.size) (w := w2) (Nat.le_refl _)
 have hx0 : Ext w2 (w2.alloc (.cells #[] 2)) := (Ext.refl w2).alloc _
 replace hA := Lib.hid hA
 go_loopw [6, 7] (fun v at_ wr => ∃ j q : Nat, j ≤ rowN xs.length ∧ Hid (q = 7 + 11 * j) ∧ at_ = .int .i64 q ∧ RowI w2.heap.size wr v (rowV xs cl j) ∧ Ext w2 wr) (fun _ i _ => 200000 - (intOf i).toNat)
 case atStart => exact ⟨0, 7, Nat.zero_le _, Lib.hid rfl, rfl, hm0, hx0⟩
 case round =>
  clear hm0 hx0
  obtain ⟨j, q, hj, hq, rfl, hown, hext⟩ := hrel
  by_cases hlt : j < rowN xs.length
  ·have hmore : q + 11 + 8 ≤ xs.length := by have := rowN_more.1 hlt; have := hq.out; omega
   have hin : q + 11 ≤ xs.length := by omega
   have hy := (HX.out.ext (hx2.trans hext)).sub q 11
   have hyl : ((xs.drop q).take 11).length = 11 := by rw [List.length_take, List.length_drop]; omega
   have hrow : rowV xs cl (j + 1) = rowV xs cl j ++ [rvl ((xs.drop q).take 11) cl] := by rw [rowV_succ, hq.out]
   have hjl := rowV_len xs cl j
   have hjr : rowN xs.length ≤ 10000 := by unfold rowN; omega
   generalize (xs.drop q).take 11 = ys at *
   replace hrow := Lib.hid hrow
   generalize rowV xs cl j = V at *
   have hc3 := Lib.hid (hvv.out _ _ b (o + q) (c - q) ys _ (hA.out.ext hext) hy hyl)
   have hcq : q ≤ c := by omega
   clear hy hyl
   go_wp2_with (first
    | (go_at_call 153; go_loud ((with_reducible refine (hc3.out).mono ?_); rintro e w4 ⟨rfl, hx4⟩; have hown4 := hown.ext hx4; have hB4 : w2.heap.size ≤ w4.heap.size := (hext.trans hx4).size))
    | (at_builtin; (refine append1I hown4 (by omega) (by omega) ?_ rfl rfl); intro v6 w6 hown6 hb6))
   exact ⟨⟨j + 1, q + 11, hlt, Lib.hid (by have := hq.out; omega), by go_num, by rw [hrow.out]; exact hown6, (hext.trans hx4).trans3 hb6⟩, by simp [intOf]; omega⟩
  ·have hno : ¬ q + 11 + 8 ≤ xs.length := fun h => hlt (rowN_more.2 (by have := hq.out; omega))
   obtain rfl : j = rowN xs.length := by omega
   have hqb : q ≤ 100020 := by have := hq.out; unfold rowN at this; omega
   go_wp2
   go_ret
   exact ⟨⟨_, rfl, hown.mono hx2.size⟩, hx2.trans hext⟩
set_option maxRecDepth 100000 in
theorem l17Values_c (R C b o cap r : Nat) (xs : List Int) (w : World) (hx : IntsAt w (some ⟨b, o, none⟩) xs) (hl : xs.length = R * C) (hC : 1 ≤ C) (hcap : xs.length ≤ cap) (h4 : R * C ≤ 40000) (hr : r < R) :
  Calls Tryz.prog 65 #[vGrid R C (some ⟨b, o, none⟩) xs.length cap, .int .i64 r] w fun e w' => (∃ v, e = .returned v ∧ RowI w.heap.size w' v (rowsV xs C (rowN C) r)) ∧ Ext w w' := by
 have h2 : (r + 1) * C ≤ R * C := Nat.mul_le_mul_right _ hr
 have hR4 : r ≤ 40000 := by
  have : R * 1 ≤ R * C := Nat.mul_le_mul_left _ hC
  omega
 have hx0 : Ext w (w.alloc (.cells #[.int .i64 R, .int .i64 C, .slice (some ⟨b, o, none⟩) xs.length cap] 37)) := (Ext.refl w).alloc _
 have hrl := rowL_len (c := C) hl hr
 have hra := rowL_at (c := C) hl hr (hx.ext hx0)
 obtain ⟨K1, hK1⟩ : ∃ K1 : Nat, r * C = K1 := ⟨_, rfl⟩
 rw [Nat.add_mul, Nat.one_mul, hK1] at h2
 rw [hK1] at hra
 have e1 : (r : Int) * (C : Int) = (K1 : Int) := by rw [← hK1]; simp
 have e2 : ((r : Int) + 1) * (C : Int) = ((K1 + C : Nat) : Int) := by rw [Int.add_mul, e1]; omega
 have hsl : ∀ W, (Instr.slice 24 (.slice (some ⟨b, o, none⟩) xs.length cap) (some (.int .i64 (K1 : Int))) (some (.int .i64 ((K1 + C : Nat) : Int))) none).run Tryz.prog W = .ok (.slice (some ⟨b, o + K1, none⟩) C (cap - K1)) W := fun W => by
  have := Lib.run_slice_window (P := Tryz.prog) W 24 2 Tryz.underlying24 (fun w => by kernel_rfl) b o xs.length cap K1 (K1 + C) (by omega) (by omega)
  rwa [show K1 + C - K1 = C by omega] at this
 have hcall := Lib.hid (l17Read_c b (o + K1) (cap - K1) (rowL C xs r) ((r : Int) % 3) _ hra (by omega) (by omega))
 rw [hrl] at hcall
 have hF : rowV (rowL C xs r) ((r : Int) % 3) (rowN C) = rowsV xs C (rowN C) r := by
  show _ = rowV (rowL C xs r) (((r % 3 : Nat)) : Int) (rowN C)
  rw [show (((r % 3 : Nat)) : Int) = (r : Int) % 3 from by omega]
 rw [hF] at hcall
 have hk1 : K1 + C ≤ 40000 := by omega
 have e3 := IntWalk.i64_in (K1 : Int) (by omega)
 have e4 := IntWalk.i64_in (((K1 + C : Nat)) : Int) (by omega)
 replace hK1 := Lib.hid hK1
 replace hl := Lib.hid hl
 obtain ⟨Z, hZ⟩ : ∃ Z : Nat, K1 + C = Z := ⟨_, rfl⟩
 rw [hZ] at e2 e4 hsl
 replace hZ := Lib.hid hZ
 clear hra hF
 go_enter Tryz.func65, Tryz.ntmps65
 go_wp2_with (go_at_call 105; go_loud ((with_reducible refine (hcall.out).mono ?_); rintro e w4 ⟨⟨v, rfl, hv⟩, hx4⟩))
 go_ret
 exact ⟨⟨_, rfl, hv.mono hx0.size⟩, hx0.trans hx4⟩
end Go.Proofs.YtojdediohjghnaaGreatDoor
