/- The damage of a stream, the program's side. -/
import Derived.Test.YtdnkljpnhmcnpaaGreatLBoundedDamageK34
import Derived.Test.YtdnkljpnhmcnpaaGreatLBoundedDamageK36
set_option linter.unusedVariables false
set_option linter.unusedSimpArgs false
namespace Go.Proofs.YtdnkljpnhmcnpaaGreat
open Go.RowKit

def wrL (v : Int) (l ws : List Int) : List Int := l.foldl (fun ws i => ws.set i.toNat v) ws
theorem wrL_len (v : Int) (l ws : List Int) : (wrL v l ws).length = ws.length := by
 unfold wrL
 induction l generalizing ws with
 | nil => rfl
 | cons x l ih => rw [List.foldl_cons, ih, List.length_set]
theorem wrL_step {v : Int} {l ws : List Int} {j : Nat} (h : j < l.length) : wrL v (l.take (j + 1)) ws = (wrL v (l.take j) ws).set (l.getD j 0).toNat v := by
 unfold wrL
 rw [← List.take_append_getElem h, List.foldl_append, List.getD_eq_getElem?_getD, List.getElem?_eq_getElem h]
 rfl
theorem wrL_at {v : Int} {i : Nat} : ∀ {l ws : List Int}, (∀ x, x ∈ l → 0 ≤ x) → i < ws.length → (wrL v l ws).getD i 0 = if (i : Int) ∈ l then v else ws.getD i 0
 | [], ws, _, _ => by rw [if_neg (by simp)]; rfl
 | x :: l, ws, h, hi => by
  have ih := wrL_at (v := v) (l := l) (ws := ws.set x.toNat v) (fun y hy => h y (List.mem_cons_of_mem _ hy)) (by rw [List.length_set]; exact hi)
  have hx := h x (by simp)
  show (wrL v l (ws.set x.toNat v)).getD i 0 = _
  rw [ih]
  by_cases h1 : (i : Int) ∈ l
  ·rw [if_pos h1, if_pos (List.mem_cons_of_mem _ h1)]
  ·rw [if_neg h1]
   by_cases h2 : (i : Int) = x
   ·subst h2
    rw [if_pos (by simp), List.getD_eq_getElem?_getD, List.getElem?_set]
    simp [hi]
   ·rw [if_neg (by simp [h1, h2]), List.getD_eq_getElem?_getD, List.getElem?_set, if_neg (by omega), ← List.getD_eq_getElem?_getD]
theorem ris_pos {hi : Int} {l : List Int} (h : risOK 0 hi l) : ∀ x, x ∈ l → 0 ≤ x := fun x hx => by
 obtain ⟨j, hj, rfl⟩ := List.mem_iff_getElem.1 hx
 have := (h j hj).1.1
 rwa [List.getD_eq_getElem?_getD, List.getElem?_eq_getElem hj] at this
theorem wrL_wt {T : Nat} {dm er : List Int} (hd : ∀ x, x ∈ dm → 0 ≤ x) (he : ∀ x, x ∈ er → 0 ≤ x) : wrL 1 er (wrL 2 dm (List.replicate T 0)) = wtL T dm er := by
 apply List.ext_getElem
 ·rw [wrL_len, wrL_len, wtL_len, List.length_replicate]
 ·intro i h1 h2
  have hi : i < T := by rwa [wtL_len] at h2
  have e1 := wrL_at (v := 1) (i := i) (l := er) (ws := wrL 2 dm (List.replicate T 0)) he (by rw [wrL_len, List.length_replicate]; exact hi)
  have e2 := wrL_at (v := 2) (i := i) (l := dm) (ws := List.replicate T 0) hd (by rw [List.length_replicate]; exact hi)
  rw [e2] at e1
  have e3 := wtL_at (dm := dm) (er := er) hi
  rw [List.getD_eq_getElem?_getD, List.getElem?_eq_getElem h1] at e1
  rw [List.getD_eq_getElem?_getD, List.getElem?_eq_getElem h2] at e3
  simp only [Option.getD_some] at e1 e3
  rw [e1, e3]
  unfold wtV
  split
  ·rfl
  ·split
   ·rfl
   ·rw [List.getD_eq_getElem?_getD, List.getElem?_replicate]; split <;> rfl
theorem sum_take {f : List Int} {i : Nat} (h : i < f.length) : (f.take (i + 1)).sum = (f.take i).sum + f.getD i 0 := by
 rw [← List.take_append_getElem h, List.sum_append, List.getD_eq_getElem?_getD, List.getElem?_eq_getElem h]
 simp
theorem sum_bd {f : List Int} (h : ∀ i, 0 ≤ f.getD i 0 ∧ f.getD i 0 ≤ 2) : ∀ i, i ≤ f.length → 0 ≤ (f.take i).sum ∧ (f.take i).sum ≤ 2 * i
 | 0, _ => by simp
 | i + 1, hi => by
  have ih := sum_bd h i (by omega)
  have := h i
  rw [sum_take (by omega)]
  omega
set_option maxHeartbeats 3200000 in
set_option maxRecDepth 100000 in
theorem iStreamDamage_c (p k q : Int) (D C N : Nat) (pd pe : Option Addr) (cd ce : Nat) (dm er : List Int) (w : World) (hd : IntsAt w pd dm) (he : IntsAt w pe er) (hld : dm.length ≤ 1048576) (hle : er.length ≤ 1048576) (hl : layOK p k q D C N) (hrd : risOK 0 (((D + C * N : Nat) : Int) - 1) dm) (hre : risOK 0 (((D + C * N : Nat) : Int) - 1) er) :
  Calls Tryz.prog 69 #[vLay p k q D C N, .slice pd dm.length cd, .slice pe er.length ce] w fun e w' => SdR (sdOK D C N dm er) e ∧ Ext w w' := by
 have HD := Lib.hid hd; have HE := Lib.hid he; clear hd he
 obtain ⟨⟨hN1, hN2⟩, ⟨hD1, hD2⟩, ⟨hC1, hC2⟩, hT, -, -⟩ := id hl
 have hCN : ((C * N : Nat) : Int) = (N : Int) * (C : Int) := by rw [Int.natCast_mul, Int.mul_comm]
 have hTb : D + C * N ≤ 1500 := by omega
 have hTe : (D : Int) + (N : Int) * (C : Int) = ((D + C * N : Nat) : Int) := by omega
 have hil := Lib.hid (fun W => iIsLayout_c p k q D C N W (by omega) (by omega) (by omega))
 have hto := Lib.hid (fun W => total_c p k q D C N W (by omega) (by omega) (by omega))
 rw [hTe] at hto
 have hmd := Lib.hid (fun W (h : IntsAt W pd dm) => rises_c pd cd 0 (((D + C * N : Nat) : Int) - 1) dm W h hld)
 have hme := Lib.hid (fun W (h : IntsAt W pe er) => rises_c pe ce 0 (((D + C * N : Nat) : Int) - 1) er W h hle)
 have hshN := Lib.hid (fun b => (shN_le D N b).2)
 have hDN := Lib.hid (Nat.le_trans (Nat.div_le_self D N) (by omega : D ≤ 1500))
 have hwL := wrL_wt (T := D + C * N) (ris_pos hrd) (ris_pos hre)
 have hspl := Lib.hid (fun W ps (h : IntsAt W ps (wtL (D + C * N) dm er)) => by
  have := split_c p k q D C N (by omega) (by omega) (by omega) ps (D + C * N) (wtL (D + C * N) dm er) W h (wtL_len _ _ _) (wtL_bd _ _ _)
  rwa [wtL_len] at this)
 have hok : sdOK D C N dm er ↔ ∀ b, b < N → bsum (ordL D C N) (wtL (D + C * N) dm er) b (D + C * N) ≤ (C : Int) := Iff.rfl
 obtain ⟨PP, hPP⟩ : ∃ PP, sdOK D C N dm er = PP := ⟨_, rfl⟩
 rw [hPP] at hok ⊢
 clear hPP
 have hTp : 0 < D + C * N := by omega
 generalize ordL D C N = L at *
 generalize wtL (D + C * N) dm er = wt at *
 generalize D + C * N = T at *
 generalize shN D N = SH at *
 have eT := IntWalk.i64_in ((T : Int) - 1) (by omega)
 replace hok := Lib.hid hok; replace hl := Lib.hid hl; replace hrd := Lib.hid hrd; replace hre := Lib.hid hre; replace hwL := Lib.hid hwL
 clear hT hTe hCN
 have hxA : Ext w (w.alloc (.cells #[.int .i64 p, .int .i64 k, .int .i64 q, .int .i64 D, .int .i64 C, .int .i64 N] 95)) := (Ext.refl w).alloc _
 have PF := Blk.new w #[.int .i64 p, .int .i64 k, .int .i64 q, .int .i64 D, .int .i64 C, .int .i64 N] 95
 go_enter Tryz.func69, Tryz.ntmps69
 go_upto_region 1 with (fail)
 obtain ⟨gF, hgF⟩ : ∃ g, w.heap.size = g := ⟨_, rfl⟩
 rw [hgF] at PF ⊢
 clear hgF
 generalize w.alloc (.cells #[.int .i64 p, .int .i64 k, .int .i64 q, .int .i64 D, .int .i64 C, .int .i64 N] 95) = w0 at *
 obtain ⟨c0, c1, c2, c3, c4, c5⟩ := PF.c6; have cL := PF.lt
 go_upto_region 5 with (first
  | (go_at_call 124; go_loud ((with_reducible refine (hil.out _).mono ?_); rintro e1 w1 ⟨⟨hP, rfl⟩ | ⟨hP, rfl⟩, hx1⟩ <;> (first | exact absurd hl.out hP | skip); replace PF := PF.ext hx1; replace hxA := hxA.trans hx1; clear c0 c1 c2 c3 c4 c5 cL; obtain ⟨c0, c1, c2, c3, c4, c5⟩ := PF.c6; have cL := PF.lt))
  | (go_at_call 68; go_loud ((with_reducible refine (hto.out _).mono ?_); rintro e2 w2 ⟨rfl, hx2⟩; replace PF := PF.ext hx2; replace hxA := hxA.trans hx2; clear c0 c1 c2 c3 c4 c5 cL; obtain ⟨c0, c1, c2, c3, c4, c5⟩ := PF.c6; have cL := PF.lt))
  | (go_at_call 129; ((with_reducible refine (hmd.out _ (HD.out.ext hxA)).mono ?_); rintro e3 w3 ⟨⟨hP3, rfl⟩ | ⟨hP3, rfl⟩, rfl⟩ <;> (first | exact absurd hrd.out hP3 | skip)))
  | (go_at_call 129; ((with_reducible refine (hme.out _ (HE.out.ext hxA)).mono ?_); rintro e3 w3 ⟨⟨hP3, rfl⟩ | ⟨hP3, rfl⟩, rfl⟩ <;> (first | exact absurd hre.out hP3 | skip)))
  | (refine make_blk Tryz.underlying22 infoInt T rfl rfl (by omega) (by omega) ?_))
 go_upto_region 6 with (first
  | (go_at_call 124; go_loud ((with_reducible refine (hil.out _).mono ?_); rintro e1 w1 ⟨⟨hP, rfl⟩ | ⟨hP, rfl⟩, hx1⟩ <;> (first | exact absurd hl.out hP | skip); replace PF := PF.ext hx1; replace hxA := hxA.trans hx1; clear c0 c1 c2 c3 c4 c5 cL; obtain ⟨c0, c1, c2, c3, c4, c5⟩ := PF.c6; have cL := PF.lt))
  | (go_at_call 68; go_loud ((with_reducible refine (hto.out _).mono ?_); rintro e2 w2 ⟨rfl, hx2⟩; replace PF := PF.ext hx2; replace hxA := hxA.trans hx2; clear c0 c1 c2 c3 c4 c5 cL; obtain ⟨c0, c1, c2, c3, c4, c5⟩ := PF.c6; have cL := PF.lt))
  | (go_at_call 129; ((with_reducible refine (hmd.out _ (HD.out.ext hxA)).mono ?_); rintro e3 w3 ⟨⟨hP3, rfl⟩ | ⟨hP3, rfl⟩, rfl⟩ <;> (first | exact absurd hrd.out hP3 | skip)))
  | (go_at_call 129; ((with_reducible refine (hme.out _ (HE.out.ext hxA)).mono ?_); rintro e3 w3 ⟨⟨hP3, rfl⟩ | ⟨hP3, rfl⟩, rfl⟩ <;> (first | exact absurd hre.out hP3 | skip)))
  | (refine make_blk Tryz.underlying22 infoInt T rfl rfl (by omega) (by omega) ?_))
 have hown : OwnInts w2.heap.size (w2.alloc (.cells (madeCells #[.int .i64 0] T) 2)) (some ⟨w2.heap.size, 0, none⟩) (wrL 2 (dm.take 0) (List.replicate T 0)) := OwnInts.made (B := w2.heap.size) (N := T) w2 2 (Nat.le_refl _)
 have hx7 : Ext w2 (w2.alloc (.cells (madeCells #[.int .i64 0] T) 2)) := (Ext.refl _).alloc _
 generalize w2.alloc (.cells (madeCells #[.int .i64 0] T) 2) = w7 at *
 replace hrd := Lib.hid (fun j (h : j < dm.length) => hrd.out j h); replace hre := Lib.hid (fun j (h : j < er.length) => hre.out j h)
 clear c0 c1 c2 c3 c4 c5 cL
 go_upto_region 7 with (fail)
 go_loopw [40] (fun i wr => ∃ j : Nat, j ≤ dm.length ∧ i = .int .i64 j ∧ OwnInts w2.heap.size wr (some ⟨w2.heap.size, 0, none⟩) (wrL 2 (dm.take j) (List.replicate T 0)) ∧ Ext w2 wr) (fun i _ => dm.length + 10 - (intOf i).toNat)
 case atStart => exact ⟨0, Nat.zero_le _, rfl, hown, hx7⟩
 case round =>
  clear hown hx7
  obtain ⟨j, hj, rfl, hs, hxr⟩ := hrel
  by_cases hlt : j < dm.length
  ·have hr := (hrd.out j hlt).1
   obtain ⟨b, o, rfl, hbl, y1⟩ := (HD.out.ext (hxA.trans hxr)) j hlt
   have hput := Lib.hid (wrL_step (v := 2) (ws := (List.replicate T 0)) hlt)
   obtain ⟨n, hn⟩ : ∃ n : Nat, dm.getD j 0 = (n : Int) := ⟨(dm.getD j 0).toNat, by omega⟩
   rw [hn] at y1 hr
   have hnT : n < T := by omega
   obtain ⟨b', o', e', -, hbl2, ys, yf⟩ := hs n (by rw [wrL_len]; simpa [wrL_len] using hnT)
   injection e' with e'
   injection e' with e1 e2 e3
   subst e1
   subst e2
   have hset := fun x => hs.set (k := n) rfl (by rw [wrL_len]; simpa [wrL_len] using hnT) x
   replace hset := Lib.hid hset
   rw [Nat.zero_add] at ys yf
   have hji : (j : Int) < (dm.length : Int) := by omega
   have hni : (n : Int) < (T : Int) := by omega
   have hxs : ∀ x : Int, Ext w2 (wr.setCell ⟨w2.heap.size, n, none⟩ (.int .i64 x)) := fun x => hxr.setCell (Nat.le_refl _) _
   go_wp2
   exact ⟨⟨j + 1, hlt, by go_num, by rw [hput.out, hn]; have := hset.out 2; rwa [Nat.zero_add] at this, hxs _⟩, by simp [intOf]; omega⟩
  ·obtain rfl : j = dm.length := by omega
   rw [List.take_length] at hs
   have hZl : (wrL 2 dm (List.replicate T 0)).length = T := by rw [wrL_len, List.length_replicate]
   generalize wrL 2 dm (List.replicate T 0) = Z2 at *
   obtain ⟨wo, rfl⟩ : ∃ wo : World, wo = wr := ⟨_, rfl⟩
   go_upto_region 12 with (fail)
   go_loopw [50] (fun i wr => ∃ j : Nat, j ≤ er.length ∧ i = .int .i64 j ∧ OwnInts w2.heap.size wr (some ⟨w2.heap.size, 0, none⟩) (wrL 1 (er.take j) Z2) ∧ Ext w2 wr) (fun i _ => er.length + 10 - (intOf i).toNat)
   case atStart => exact ⟨0, Nat.zero_le _, rfl, hs, hxr⟩
   case round =>
    clear hs hxr
    obtain ⟨j, hj, rfl, hs, hxr⟩ := hrel
    by_cases hlt : j < er.length
    ·have hr := (hre.out j hlt).1
     obtain ⟨b, o, rfl, hbl, y1⟩ := (HE.out.ext (hxA.trans hxr)) j hlt
     have hput := Lib.hid (wrL_step (v := 1) (ws := Z2) hlt)
     obtain ⟨n, hn⟩ : ∃ n : Nat, er.getD j 0 = (n : Int) := ⟨(er.getD j 0).toNat, by omega⟩
     rw [hn] at y1 hr
     have hnT : n < T := by omega
     obtain ⟨b', o', e', -, hbl2, ys, yf⟩ := hs n (by rw [wrL_len]; rw [hZl]; exact hnT)
     injection e' with e'
     injection e' with e1 e2 e3
     subst e1
     subst e2
     have hset := fun x => hs.set (k := n) rfl (by rw [wrL_len]; rw [hZl]; exact hnT) x
     replace hset := Lib.hid hset
     rw [Nat.zero_add] at ys yf
     have hji : (j : Int) < (er.length : Int) := by omega
     have hni : (n : Int) < (T : Int) := by omega
     have hxs : ∀ x : Int, Ext w2 (wr.setCell ⟨w2.heap.size, n, none⟩ (.int .i64 x)) := fun x => hxr.setCell (Nat.le_refl _) _
     go_wp2
     exact ⟨⟨j + 1, hlt, by go_num, by rw [hput.out, hn]; have := hset.out 1; rwa [Nat.zero_add] at this, hxs _⟩, by simp [intOf]; omega⟩
    ·obtain rfl : j = er.length := by omega
     rw [List.take_length, hwL.out] at hs
     have hiw := hs.ints
     have hxw := hxA.trans hxr
     replace PF := PF.ext hxr
     obtain ⟨c0, c1, c2, c3, c4, c5⟩ := PF.c6; have cL := PF.lt
     clear hs
     go_upto_region 17 with (go_at_call 130; ((with_reducible refine (hspl.out _ _ hiw).mono ?_); rintro e9 w9 ⟨⟨gW, rfl, hgW, hrows⟩, hx9⟩))
     replace hxw := hxw.trans hx9
     replace PF := PF.ext hx9
     replace hrows := Lib.hid hrows
     clear hiw hxr c0 c1 c2 c3 c4 c5 cL
     have c4 := PF.cell (i := 4) (v := .int .i64 C) rfl; have cL := PF.lt
     go_loop [62] (fun i => ∃ b : Nat, b ≤ N ∧ i = .int .i64 b ∧ Hid (∀ c, c < b → bsum L wt c T ≤ (C : Int))) (fun i => N + 10 - (intOf i).toNat)
     case atStart => exact ⟨0, Nat.zero_le _, rfl, Lib.hid (fun c h => absurd h (Nat.not_lt_zero c))⟩
     case round =>
      obtain ⟨b, hb, rfl, hall⟩ := hrel
      by_cases hlb : b < N
      ·obtain ⟨r, f, hc, hf, hfl, hfs, hfb⟩ := hrows.out b hlb
       have hShb := hshN.out b
       have hDN2 := hDN.out
       have hst := Lib.hid (fun i (h : i < f.length) => sum_take h)
       have hsb := Lib.hid (sum_bd hfb)
       have hs0 : (f.take 0).sum = 0 := rfl
       have hsn : (f.take f.length).sum = bsum L wt b T := by rw [List.take_length]; exact hfs
       obtain ⟨S, hS⟩ : ∃ S : Nat → Int, (fun i => (f.take i).sum) = S := ⟨_, rfl⟩
       have hS2 : ∀ i, (f.take i).sum = S i := fun i => by rw [← hS]
       simp only [hS2] at hst hsb hs0 hsn
       clear hS hS2 hfs hfb
       rw [hfl] at hsn hst hsb
       have HF := Lib.hid hf
       clear hf
       have hbi : (b : Int) < (N : Int) := by omega
       obtain ⟨n, hn⟩ : ∃ n, SH b + C = n := ⟨_, rfl⟩
       rw [hn] at hc hfl hsn hst hsb
       have hnb : n ≤ 1700 := by omega
       have y5 := hgW
       go_upto_region 21 with (fail)
       go_loop [15, 68] (fun s i => ∃ j : Nat, j ≤ n ∧ i = .int .i64 j ∧ s = .int .i64 (S j)) (fun _ i => n + 10 - (intOf i).toNat)
       case atStart => exact ⟨0, Nat.zero_le _, rfl, by rw [hs0]⟩
       case round =>
        obtain ⟨j, hj, rfl, rfl⟩ := hrel
        by_cases hlj : j < n
        ·obtain ⟨rb, ro, e', hrl, yr⟩ := HF.out j (by rw [hfl]; exact hlj)
         injection e' with e'
         injection e' with e1 e2 e3
         subst e1
         subst e2
         have hst1 := hst.out j hlj
         have hsb1 := hsb.out j hj
         have hsb2 := hsb.out (j + 1) hlj
         rw [Nat.zero_add] at yr
         generalize f.getD j 0 = x at *
         have hji : (j : Int) < (n : Int) := by omega
         have eS := IntWalk.i64_in (S j + x) (by omega)
         rw [← hst1] at eS
         go_wp2
         exact ⟨⟨j + 1, hlj, by go_num, by first | rfl | rw [hst1]⟩, by simp [intOf]; omega⟩
        ·obtain rfl : j = n := by omega
         rw [hsn]
         by_cases hbig : bsum L wt b T ≤ (C : Int)
         ·have hall2 := Lib.hid (fun c (h : c < b + 1) => by
           rcases Nat.lt_or_ge c b with h1 | h1
           ·exact hall.out c h1
           ·obtain rfl : c = b := by omega
            exact hbig)
          generalize bsum L wt b T = x at *
          have hng : ¬ (C : Int) < x := by omega
          go_wp2
          exact ⟨⟨b + 1, hlb, by go_num, hall2⟩, by simp [intOf]; omega⟩
         ·have hno : ¬ PP := fun h => hbig (hok.out.1 h b hlb)
          generalize bsum L wt b T = x at *
          have hng : (C : Int) < x := by omega
          replace hno := Lib.hid hno
          go_wp2
          exact bodyPost_ret (v := .tuple #[.bool false, .int .i64 0]) (by simp [results, Tryz.results69, go_sem]) rfl ⟨.inr ⟨hno.out, rfl⟩, hxw⟩
      ·obtain rfl : b = N := by omega
       have hyes := Lib.hid (hok.out.2 hall.out)
       go_wp2
       exact bodyPost_ret (v := .tuple #[.bool true, .int .i64 0]) (by simp [results, Tryz.results69, go_sem]) rfl ⟨.inl ⟨hyes.out, rfl⟩, hxw⟩
end Go.Proofs.YtdnkljpnhmcnpaaGreat
