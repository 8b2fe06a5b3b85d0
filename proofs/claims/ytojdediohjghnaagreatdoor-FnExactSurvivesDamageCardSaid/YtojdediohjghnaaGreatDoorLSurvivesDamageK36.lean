/- The order of a stream over its blocks, the reference's side. -/
import Derived.Test.YtojdediohjghnaaGreatDoorLSurvivesDamageK33
import Derived.Test.YtojdediohjghnaaGreatDoorLSurvivesDamageK07
import Derived.Test.YtojdediohjghnaaGreatDoorLSurvivesDamageK32
import Derived.Test.YtojdediohjghnaaGreatDoorLSurvivesDamageK26
import Derived.Test.YtojdediohjghnaaGreatDoorLSurvivesDamageK31
import Derived.Test.YtojdediohjghnaaGreatDoorLSurvivesDamageK14
import Derived.Test.YtojdediohjghnaaGreatDoorLSurvivesDamageK17
set_option linter.unusedVariables false
set_option linter.unusedSimpArgs false
namespace Go.Proofs.YtojdediohjghnaaGreatDoor
open Go.RowKit

def rowsO (L : List (Nat × Nat)) : List (List Int) := L.map fun x => [(x.1 : Int), (x.2 : Int)]
theorem rowsO_len (L : List (Nat × Nat)) : (rowsO L).length = L.length := by simp [rowsO]
theorem rowsO_app (L : List (Nat × Nat)) (a b : Nat) : rowsO (L ++ [(a, b)]) = rowsO L ++ [[(a : Int), (b : Int)]] := by simp [rowsO]
theorem rowsO_at {L : List (Nat × Nat)} {i : Nat} (h : i < L.length) : (rowsO L).getD i [] = [((L.getD i (0, 0)).1 : Int), ((L.getD i (0, 0)).2 : Int)] := by
 unfold rowsO
 rw [List.getD_eq_getElem?_getD, List.getElem?_map, List.getD_eq_getElem?_getD (l := L), List.getElem?_eq_getElem h]
 rfl
theorem o1_le (D N : Nat) : ∀ q, (o1To D N q).length ≤ q
 | 0 => Nat.le_refl _
 | q + 1 => by
  have ih := o1_le D N q
  by_cases h : q / N < shN D N (q % N)
  ·rw [o1_up h, List.length_append, List.length_singleton]; omega
  ·rw [o1_no h]; omega
section
variable {ops : Array Oper} {Q : Exit → Act → World → Prop} {rest : List Oper} {a : Act} {dst : Option Tmp} {s x : Operand} {ty : TypeId} {pos : String} {after : Array Edge} {B : Nat} {w0 : World} {v : Value} {Ls : List (List Int)}
theorem append2L {n1 n2 : Int} (h0 : LLs B w0 v Ls) (hlen : Ls.length < 1000000) (hB : B ≤ w0.heap.size)
  (h : ∀ v' w', LLs B w' v' (Ls ++ [[n1, n2]]) → Below B w0 w' → wpList Tryz.prog ops Q rest (a.put dst v') w') (hs : a.eval s = v) (hx : a.eval x = .slice (some ⟨w0.heap.size + 1, 0, none⟩) 1 1) :
  wpList Tryz.prog ops Q (⟨dst, .call { callee := .builtin .append, args := #[s, x], argTypes := #[77, 77] }, ty, pos, after, none⟩ :: rest) a ((w0.alloc (.cells #[.int .i64 n1, .int .i64 n2] 2)).alloc (.cells #[.slice (some ⟨w0.heap.size, 0, none⟩) 2 2] 24)) := by
 have hxa : Ext w0 (w0.alloc (.cells #[.int .i64 n1, .int .i64 n2] 2)) := (Ext.refl _).alloc _
 have hv := h0.lt
 refine append1L (w0 := w0.alloc (.cells #[.int .i64 n1, .int .i64 n2] 2)) (l := [n1, n2]) (c := 2) (p := some ⟨w0.heap.size, 0, none⟩) (h0.ext hxa) (IntsAt_alloc w0 [n1, n2] 2) (fun b o e => ?_) hlen (by rw [World.size_alloc]; omega) (fun v' w' h1 h2 => h v' w' h1 ?_) hs (by rw [World.size_alloc]; exact hx)
 ·injection e with e
  injection e with e1 e2 e3
  subst e1
  exact ⟨hB, by rw [World.size_alloc]; omega, fun h => absurd (hv _ h).2 (Nat.lt_irrefl _)⟩
 ·exact (hxa.below.mono hB).trans (h2.below (fun k hk => (hv k hk).1) (by rw [World.size_alloc]; omega))
end
set_option maxHeartbeats 1600000 in
set_option maxRecDepth 100000 in
theorem l07Order_c (p k q : Int) (D C N : Nat) (w : World) (hN : 1 ≤ N ∧ N ≤ 16) (hD : D ≤ 1500) (hC : C ≤ 64) :
  Calls Tryz.prog 41 #[vLay p k q D C N] w fun e w' => (∃ v, e = .returned v ∧ LLs w.heap.size w' v (rowsO (ordL D C N))) ∧ Ext w w' := by
 have hsz := Lib.hid (fun b (hb : b ≤ 100) W => by
  have := sSize7_c p k q D C N b W (by omega) (by omega) (by omega)
  rwa [shV_nat hN.1] at this)
 have hqd := Lib.hid (fun e b (h : b < N) => qdiv (e := e) (b := b) (N := N) h)
 have hDN : D / N ≤ 1500 := Nat.le_trans (Nat.div_le_self _ _) hD
 have hdv : (D : Int).tdiv (N : Int) = ((D / N : Nat) : Int) := by
  rw [Int.tdiv_eq_ediv_of_nonneg (by omega)]; exact (Int.natCast_ediv _ _).symm
 have hdv2 : (D : Int) / (N : Int) = ((D / N : Nat) : Int) := (Int.natCast_ediv _ _).symm
 have hxA : Ext w (w.alloc (.cells #[.int .i64 p, .int .i64 k, .int .i64 q, .int .i64 D, .int .i64 C, .int .i64 N] 55)) := (Ext.refl w).alloc _
 have PF := Blk.new w #[.int .i64 p, .int .i64 k, .int .i64 q, .int .i64 D, .int .i64 C, .int .i64 N] 55
 have hfin : ordL D C N = o1To D N ((D / N + 1) * N) ++ o2To D N (C * N) := rfl
 have hshb := Lib.hid (fun b => (shN_le D N b).2)
 have ho1 := Lib.hid (fun q h => o1_up (D := D) (N := N) (q := q) h); have ho2 := Lib.hid (fun q h => o1_no (D := D) (N := N) (q := q) h); have ho3 := Lib.hid (fun q => o2_up D N q)
 have hl1 := Lib.hid (o1_le D N); have hl2 := Lib.hid (o2_len D N)
 have h10 : o1To D N 0 = [] := rfl
 have h20 : o2To D N 0 = [] := rfl
 obtain ⟨E, hE⟩ : ∃ E, D / N = E := ⟨_, rfl⟩
 rw [hE] at hdv hdv2 hDN hfin hshb
 obtain ⟨O, hO⟩ : ∃ O, ordL D C N = O := ⟨_, rfl⟩
 rw [hO] at hfin ⊢
 replace hfin := Lib.hid hfin
 replace hO := Lib.hid hO; replace hE := Lib.hid hE
 generalize o1To D N = P1 at *
 generalize o2To D N = P2 at *
 generalize shN D N = SH at *
 go_enter Tryz.func41, Tryz.ntmps41
 go_upto_region 1 with (fail)
 obtain ⟨gF, hgF⟩ : ∃ g, w.heap.size = g := ⟨_, rfl⟩
 have hBw := hxA.below.size
 rw [hgF] at PF ⊢
 clear hgF
 generalize w.alloc (.cells #[.int .i64 p, .int .i64 k, .int .i64 q, .int .i64 D, .int .i64 C, .int .i64 N] 55) = w0 at *
 have hr0 : LLs w0.heap.size (w0.alloc (.cells #[] 24)) (.slice (some ⟨w0.heap.size, 0, none⟩) 0 0) (rowsO (P1 (0 * N))) := by
  rw [Nat.zero_mul, h10]; exact LLs.made (Nat.le_refl _)
 have hx0 : Ext w0 (w0.alloc (.cells #[] 24)) := (Ext.refl _).alloc _
 go_upto_region 3 with (fail)
 generalize w0.alloc (.cells #[] 24) = w1 at *
 generalize Value.slice (some ⟨w0.heap.size, 0, none⟩) 0 0 = v1 at *
 have hN0 : ¬ (N : Int) = 0 := by omega
 have hN0b : ((N : Int) == 0) = false := by simpa using hN0
 have e1 := IntWalk.i64_in (E : Int) (by omega)
 go_loopw [3, 4] (fun v i wr => ∃ e : Nat, e ≤ E + 1 ∧ i = .int .i64 e ∧ LLs w0.heap.size wr v (rowsO (P1 (e * N))) ∧ Ext w0 wr) (fun _ i _ => E + 10 - (intOf i).toNat)
 case atStart => exact ⟨0, Nat.zero_le _, rfl, hr0, hx0⟩
 case round =>
  clear hr0 hx0
  obtain ⟨e, he, rfl, hr, hx⟩ := hrel
  have HB := PF.ext hx
  have c0 := HB.cell (i := 3) (v := .int .i64 D) rfl; have c1 := HB.cell (i := 5) (v := .int .i64 N) rfl; have cL := HB.lt
  by_cases hlt : e ≤ E
  ·have hlti : (e : Int) ≤ (E : Int) := by omega
   have hQ : e * N ≤ 1500 * 16 := Nat.mul_le_mul (by omega) hN.2
   go_upto_region 6 with (fail)
   clear c0 c1 cL HB
   obtain ⟨wo, rfl⟩ : ∃ wo : World, wo = wr := ⟨_, rfl⟩
   have hr2 : LLs w0.heap.size wo u3 (rowsO (P1 (e * N + 0))) := hr
   go_loopw [3, 5] (fun v i wr => ∃ b : Nat, b ≤ N ∧ i = .int .i64 b ∧ LLs w0.heap.size wr v (rowsO (P1 (e * N + b))) ∧ Ext w0 wr) (fun _ i _ => N + 10 - (intOf i).toNat)
   case atStart => exact ⟨0, Nat.zero_le _, rfl, hr2, hx⟩
   case round =>
    clear hr2 hr hx
    obtain ⟨b, hb, rfl, hr, hx⟩ := hrel
    have HB := PF.ext hx
    obtain ⟨c0, c1, c2, c3, c4, c5⟩ := HB.c6; have cL := HB.lt
    by_cases hlb : b < N
    ·obtain ⟨hq1, hq2⟩ := hqd.out e b hlb
     have hll := hl1.out (e * N + b)
     have hup := ho1.out (e * N + b); have hno := ho2.out (e * N + b)
     rw [hq1, hq2] at hup hno
     have hcall := Lib.hid (hsz.out b (by omega))
     have hSb := hshb.out b
     generalize SH b = S at *
     obtain ⟨q0, hq0⟩ : ∃ q0, e * N + b = q0 := ⟨_, rfl⟩
     rw [hq0] at hr hll hup hno
     have hq3 : e * N + (b + 1) = q0 + 1 := by omega
     replace hq0 := Lib.hid hq0; replace hq3 := Lib.hid hq3
     have hlL := rowsO_len (P1 q0)
     have hlb2 : (rowsO (P1 q0)).length < 1000000 := by have := hq0.out; omega
     clear hlL hll
     by_cases hes : e < S
     ·have hup2 := hup hes
      have happ := Lib.hid (show rowsO (P1 (q0 + 1)) = rowsO (P1 q0) ++ [[(b : Int), (e : Int)]] from by rw [hup2, rowsO_app])
      clear hup hno hup2
      generalize rowsO (P1 q0) = Lq at *
      go_wp2_with (first
       | (go_at_call 73; go_loud ((with_reducible refine (hcall.out _).mono ?_); rintro e5 w5 ⟨rfl, hx5⟩; have hr5 := hr.ext hx5; have hx05 := hx.trans hx5; have hB5 := hx05.below.size))
       | (at_builtin; go_loud (refine append2L hr5 hlb2 hB5 ?_ rfl rfl); intro v9 w9 hr9 hb9))
      exact ⟨⟨b + 1, hlb, by go_num, by rw [hq3.out, happ.out]; exact hr9, Below.trans hx05 hb9⟩, by simp [intOf]; omega⟩
     ·have hno2 := Lib.hid (hno hes)
      clear hup hno
      go_wp2_with (go_at_call 73; go_loud ((with_reducible refine (hcall.out _).mono ?_); rintro e5 w5 ⟨rfl, hx5⟩; have hr5 := hr.ext hx5; have hx05 := hx.trans hx5))
      exact ⟨⟨b + 1, hlb, by go_num, by rw [hq3.out, hno2.out]; exact hr5, hx05⟩, by simp [intOf]; omega⟩
    ·obtain rfl : b = N := by omega
     have hq3 : e * b + b = (e + 1) * b := by rw [Nat.add_mul, Nat.one_mul]
     rw [hq3] at hr
     go_wp2
     exact ⟨⟨e + 1, by omega, by go_num, hr, hx⟩, by simp [intOf]; omega⟩
  ·obtain rfl : e = E + 1 := by omega
   have hlti : ¬ ((E : Int) + 1 ≤ (E : Int)) := by omega
   go_upto_region 11 with (fail)
   clear c0 c1 cL HB e1 hN0 hN0b hdv hdv2 hlti
   have hr2 : LLs w0.heap.size wr u3 (rowsO (P1 ((E + 1) * N) ++ P2 (0 * N))) := by rw [Nat.zero_mul, h20, List.append_nil]; exact hr
   have hl1' := hl1.out ((E + 1) * N)
   have hQ1 : (E + 1) * N ≤ 1501 * 16 := Nat.mul_le_mul (by omega) hN.2
   generalize P1 ((E + 1) * N) = M1 at *
   clear ho1 ho2 hl1 hr
   obtain ⟨wp, rfl⟩ : ∃ wp : World, wp = wr := ⟨_, rfl⟩
   go_loopw [3, 6] (fun v i wr => ∃ e : Nat, e ≤ C ∧ i = .int .i64 e ∧ LLs w0.heap.size wr v (rowsO (M1 ++ P2 (e * N))) ∧ Ext w0 wr) (fun _ i _ => C + 10 - (intOf i).toNat)
   case atStart => exact ⟨0, Nat.zero_le _, rfl, hr2, hx⟩
   case round =>
    clear hr2 hx
    obtain ⟨e, he, rfl, hr, hx⟩ := hrel
    have HB := PF.ext hx
    have c0 := HB.cell (i := 4) (v := .int .i64 C) rfl; have c1 := HB.cell (i := 5) (v := .int .i64 N) rfl; have cL := HB.lt
    by_cases hlt : e < C
    ·have hQ : e * N ≤ 64 * 16 := Nat.mul_le_mul (by omega) hN.2
     go_upto_region 14 with (fail)
     clear c0 c1 cL HB
     obtain ⟨wo, rfl⟩ : ∃ wo : World, wo = wr := ⟨_, rfl⟩
     have hr2 : LLs w0.heap.size wo u3 (rowsO (M1 ++ P2 (e * N + 0))) := hr
     go_loopw [3, 7] (fun v i wr => ∃ b : Nat, b ≤ N ∧ i = .int .i64 b ∧ LLs w0.heap.size wr v (rowsO (M1 ++ P2 (e * N + b))) ∧ Ext w0 wr) (fun _ i _ => N + 10 - (intOf i).toNat)
     case atStart => exact ⟨0, Nat.zero_le _, rfl, hr2, hx⟩
     case round =>
      clear hr2 hr hx
      obtain ⟨b, hb, rfl, hr, hx⟩ := hrel
      have HB := PF.ext hx
      obtain ⟨c0, c1, c2, c3, c4, c5⟩ := HB.c6; have cL := HB.lt
      by_cases hlb : b < N
      ·obtain ⟨hq1, hq2⟩ := hqd.out e b hlb
       have hll := hl2.out (e * N + b)
       have hup := ho3.out (e * N + b)
       rw [hq1, hq2] at hup
       have hcall := Lib.hid (hsz.out b (by omega))
       have hSb := hshb.out b
       generalize SH b = S at *
       obtain ⟨q0, hq0⟩ : ∃ q0, e * N + b = q0 := ⟨_, rfl⟩
       rw [hq0] at hr hll hup
       have hq3 : e * N + (b + 1) = q0 + 1 := by omega
       replace hq0 := Lib.hid hq0; replace hq3 := Lib.hid hq3
       have hlL := rowsO_len (M1 ++ P2 q0)
       rw [List.length_append] at hlL
       have hlb2 : (rowsO (M1 ++ P2 q0)).length < 1000000 := by have := hq0.out; omega
       clear hlL hll
       have happ := Lib.hid (show rowsO (M1 ++ P2 (q0 + 1)) = rowsO (M1 ++ P2 q0) ++ [[(b : Int), (S : Int) + (e : Int)]] from by rw [hup, ← List.append_assoc, rowsO_app, Int.natCast_add])
       clear hup
       generalize rowsO (M1 ++ P2 q0) = Lq at *
       go_wp2_with (first
        | (go_at_call 73; go_loud ((with_reducible refine (hcall.out _).mono ?_); rintro e5 w5 ⟨rfl, hx5⟩; have hr5 := hr.ext hx5; have hx05 := hx.trans hx5; have hB5 := hx05.below.size))
        | (at_builtin; go_loud (refine append2L hr5 hlb2 hB5 ?_ rfl rfl); intro v9 w9 hr9 hb9))
       exact ⟨⟨b + 1, hlb, by go_num, by rw [hq3.out, happ.out]; exact hr9, Below.trans hx05 hb9⟩, by simp [intOf]; omega⟩
      ·obtain rfl : b = N := by omega
       have hq3 : e * b + b = (e + 1) * b := by rw [Nat.add_mul, Nat.one_mul]
       rw [hq3] at hr
       go_wp2
       exact ⟨⟨e + 1, by omega, by go_num, hr, hx⟩, by simp [intOf]; omega⟩
    ·obtain rfl : e = C := by omega
     rw [← hfin.out] at hr
     go_wp2
     go_ret
     exact ⟨⟨_, rfl, hr.mono hBw⟩, hxA.trans hx⟩
end Go.Proofs.YtojdediohjghnaaGreatDoor
/- Stacked symbols, the reference's side: the elements and the erasures. -/
namespace Go.Proofs.YtojdediohjghnaaGreatDoor
open Go.RowKit

theorem IntsAt.cellN {w : World} {b o m : Nat} {l : List Int} (h : IntsAt w (some ⟨b, o, none⟩) l) (hm : m < l.length) : b < w.heap.size ∧ w.cell? ⟨b, o + m, none⟩ = some (.int .i64 (l.getD m 0)) := by
 obtain ⟨b', o', e, h2, h3⟩ := h m hm
 obtain ⟨rfl, rfl⟩ : b = b' ∧ o = o' := by simpa using e
 exact ⟨h2, h3⟩
theorem win_getD {A : List Int} {co m : Nat} (h1 : 1 ≤ m) (h2 : m ≤ co) : ((A.drop 1).take co).getD (m - 1) 0 = A.getD m 0 := by
 rw [List.getD_eq_getElem?_getD, List.getD_eq_getElem?_getD, List.getElem?_take_of_lt (by omega), List.getElem?_drop, show 1 + (m - 1) = m from by omega]
set_option maxHeartbeats 3200000 in
set_option maxRecDepth 100000 in
theorem l17Elements_c (nm : ByteArray) (K p k q : Int) (ps pl : Option Addr) (ns cs nl cl : Nat) (R C co b o cap : Nat) (xs : List Int) (w : World) (hx : IntsAt w (some ⟨b, o, none⟩) xs) (hl : xs.length = R * C) (hC : rowN C = co + 2) (hC26 : 26 ≤ C) (hcap : xs.length ≤ cap) (h4 : R * C ≤ 40000) :
  Calls Tryz.prog 102 #[vFam nm K p k q ps ns cs co pl nl cl, vGrid R C (some ⟨b, o, none⟩) xs.length cap] w fun e w' => StE w.heap.size w' (flatV xs C co R) e ∧ Ext w w' := by
 have HX := Lib.hid hx; clear hx
 have hR4 : R ≤ 40000 := by
  have : R * 1 ≤ R * C := Nat.mul_le_mul_left _ (by omega)
  omega
 have hRc : R * co ≤ 40000 := Nat.le_trans (Nat.mul_le_mul_left _ (by unfold rowN at hC; omega)) h4
 have hsv := Lib.hid (fun r W (h : IntsAt W (some ⟨b, o, none⟩) xs) (hr : r < R) => l17Values_c R C b o cap r xs W h hl (by omega) hcap h4 hr)
 rw [hC] at hsv
 have hmb : R = 0 ∨ co ≤ 40000 := by
  rcases Nat.eq_zero_or_pos R with h | h
  ·exact .inl h
  ·have : 1 * co ≤ R * co := Nat.mul_le_mul_right _ h
   exact .inr (by omega)
 clear hl h4 hC hC26
 have hfl := Lib.hid (fun r => flatV_len xs C co r)
 have hfs := Lib.hid (fun r => flatV_succ xs C co r)
 have hf0 : flatV xs C co 0 = [] := rfl
 obtain ⟨G, hG⟩ : ∃ G, flatV xs C co = G := ⟨_, rfl⟩
 rw [hG] at hfl hfs hf0 ⊢
 have hrl := Lib.hid (fun r => rowsV_len xs C (co + 2) r)
 obtain ⟨m2, hm2⟩ : ∃ m2, co + 2 = m2 := ⟨_, rfl⟩
 rw [hm2] at hsv hfs hrl
 have hsv2 : Hid (∀ r W, IntsAt W (some ⟨b, o, none⟩) xs → r < R → Calls Tryz.prog 65 #[vGrid R C (some ⟨b, o, none⟩) xs.length cap, .int .i64 r] W fun e w' => (∃ b9 o9 c9, e = .returned (.slice (some ⟨b9, o9, none⟩) m2 c9) ∧ IntsAt w' (some ⟨b9, o9, none⟩) (rowsV xs C m2 r) ∧ W.heap.size ≤ b9) ∧ Ext W w') := Lib.hid (fun r W h hr => (hsv.out r W h hr).mono (fun e w' ⟨⟨v9, he, hR⟩, hx⟩ => by
  have hn9 := hR.lt
  obtain ⟨p9, c9, hv9, ho9, -⟩ := hR.ownC
  obtain ⟨b9, o9, he9, -, -⟩ := ho9.ints 0 (by rw [hrl.out r]; omega)
  subst he9
  rw [hrl.out r] at hv9
  subst hv9
  exact ⟨⟨b9, o9, c9, he, ho9.ints, (hn9 b9 rfl).1⟩, hx⟩))
 clear hsv
 have hb0 := (Blk.new w #[.string nm, .int .i64 K, .int .i64 p, .int .i64 k, .int .i64 q, .slice ps ns cs, .int .i64 co, .slice pl nl cl] 35).alloc (.cells #[.int .i64 R, .int .i64 C, .slice (some ⟨b, o, none⟩) xs.length cap] 37)
 have hb1 := (Blk.new1 w (.cells #[.string nm, .int .i64 K, .int .i64 p, .int .i64 k, .int .i64 q, .slice ps ns cs, .int .i64 co, .slice pl nl cl] 35) #[.int .i64 R, .int .i64 C, .slice (some ⟨b, o, none⟩) xs.length cap] 37)
 have hx0 : Ext w ((w.alloc (.cells #[.string nm, .int .i64 K, .int .i64 p, .int .i64 k, .int .i64 q, .slice ps ns cs, .int .i64 co, .slice pl nl cl] 35)).alloc (.cells #[.int .i64 R, .int .i64 C, .slice (some ⟨b, o, none⟩) xs.length cap] 37)) := ((Ext.refl w).alloc _).alloc _
 go_enter Tryz.func102, Tryz.ntmps102
 go_upto_region 1 with (fail)
 obtain ⟨gF, hgF⟩ : ∃ g, w.heap.size = g := ⟨_, rfl⟩
 obtain ⟨gG, hgG⟩ : ∃ g, w.heap.size + 1 = g := ⟨_, rfl⟩
 rw [hgG] at hb1 ⊢
 have hBg := hx0.below.size
 rw [hgF] at hb0 ⊢
 clear hgG hgF
 generalize ((w.alloc (.cells #[.string nm, .int .i64 K, .int .i64 p, .int .i64 k, .int .i64 q, .slice ps ns cs, .int .i64 co, .slice pl nl cl] 35)).alloc (.cells #[.int .i64 R, .int .i64 C, .slice (some ⟨b, o, none⟩) xs.length cap] 37)) = w0 at *
 have hT := TwoE.start (B := w0.heap.size) (w := w0) (Nat.le_refl _)
 have hx2 : Ext w0 ((w0.alloc (.cells #[] 2)).alloc (.cells #[] 2)) := ((Ext.refl w0).alloc _).alloc _
 rw [← hf0] at hT
 replace hf0 := Lib.hid hf0
 go_upto_region 3 with (fail)
 generalize (w0.alloc (.cells #[] 2)).alloc (.cells #[] 2) = w2 at *
 generalize Value.slice (some ⟨w0.heap.size, 0, none⟩) 0 0 = v4 at *
 generalize Value.slice (some ⟨w0.heap.size + 1, 0, none⟩) 0 0 = v5 at *
 go_loopw [6, 7, 8] (fun x4 x5 i wr => ∃ r : Nat, r ≤ R ∧ i = .int .i64 r ∧ TwoE w0.heap.size wr x4 x5 (G r) ∧ Ext w0 wr) (fun _ _ i _ => R - (intOf i).toNat)
 case atStart => exact ⟨0, Nat.zero_le _, rfl, hT, hx2⟩
 case round =>
  clear hT hx2
  obtain ⟨r, hr, rfl, hT, hext⟩ := hrel
  have HG := hb1.ext hext
  obtain ⟨c0, c1, c2⟩ := HG.c3; have cL := HG.lt
  by_cases hlt : r < R
  ·have hco4 : co ≤ 40000 := by omega
   have hcall := Lib.hid (hsv2.out r wr (HX.out.ext (hx0.trans hext)) hlt)
   have hlr := hrl.out r
   have hst := hfs.out r
   have hGl := hfl.out r
   obtain ⟨A, hA⟩ : ∃ A, rowsV xs C m2 r = A := ⟨_, rfl⟩
   rw [hA] at hcall hlr hst
   have hll : ((A.drop 1).take co).length = co := by rw [List.length_take, List.length_drop, hlr]; omega
   have hlv := Lib.hid (fun m (h1 : 1 ≤ m) (h2 : m ≤ co) => win_getD (A := A) (co := co) (m := m) h1 h2)
   generalize (A.drop 1).take co = l at *
   have hrr : (r + 1) * co ≤ R * co := Nat.mul_le_mul_right _ hlt
   rw [Nat.add_mul, Nat.one_mul] at hrr
   have hG0 : (G r).length + co ≤ 40000 := by omega
   clear hGl hrr
   replace hst := Lib.hid hst
   obtain ⟨F0, hF0⟩ : ∃ F0, G r = F0 := ⟨_, rfl⟩
   rw [hF0] at hT hst hG0
   replace hF0 := Lib.hid hF0
   replace hll := Lib.hid hll
   replace hlr := Lib.hid hlr
   replace hm2 := Lib.hid hm2
   replace hA := Lib.hid hA
   go_upto_region 7 with (go_at_call 65; go_loud ((with_reducible refine (hcall.out).mono ?_); rintro e w3 ⟨⟨b9, o9, c9, rfl, hI9, hb9⟩, hx3⟩))
   obtain ⟨wo, rfl⟩ : ∃ wo : World, wo = wr := ⟨_, rfl⟩
   have hT2 : TwoE w0.heap.size w3 u6 u7 (F0 ++ l.take (1 - 1)) := by simpa using hT.ext hx3
   have hs4 : SegV wo.heap.size w3 w3 u6 := SegV.start hT.el (Nat.le_refl _) w3
   have hs5 : SegV wo.heap.size w3 w3 u7 := SegV.start hT.un (Nat.le_refl _) w3
   have hx03 := hext.trans hx3
   clear c0 c1 c2 cL HG hcall
   go_loopw [6, 7, 10] (fun x4 x5 i wr => ∃ m : Nat, (1 ≤ m ∧ m ≤ co + 1) ∧ i = .int .i64 m ∧ TwoE w0.heap.size wr x4 x5 (F0 ++ l.take (m - 1)) ∧ SegV wo.heap.size w3 wr x4 ∧ SegV wo.heap.size w3 wr x5 ∧ Ext w0 wr) (fun _ _ i _ => 50000 - (intOf i).toNat)
   case atStart => exact ⟨1, ⟨Nat.le_refl _, by omega⟩, rfl, hT2, hs4, hs5, hx03⟩
   case round =>
    clear hT2 hT hs4 hs5 hext hx03
    obtain ⟨m, ⟨hm1, hm⟩, rfl, hT, hS4, hS5, hext⟩ := hrel
    have HB := hb0.ext hext
    have a6 := HB.cell (i := 6) (v := .int .i64 co) rfl
    have aL := HB.lt
    clear HB
    by_cases hltj : m ≤ co
    ·have hup := take_up (l := l) (j := m - 1) (by rw [hll.out]; omega) F0
     rw [hlv.out m hm1 hltj, show m - 1 + 1 = m from by omega] at hup
     have hlen : (F0 ++ l.take (m - 1)).length ≤ 40000 := by rw [List.length_append, List.length_take]; have := hll.out; omega
     have hcl := Lib.hid (fun w' v' (hS : SegV wo.heap.size w3 w' v') => (hI9.segV (fun b o e => by obtain ⟨rfl, rfl⟩ : b9 = b ∧ o9 = o := (by simpa using e); exact hb9) hS).cellN (m := m) (by rw [hlr.out]; have := hm2.out; omega))
     obtain ⟨v, hv⟩ : ∃ v, A.getD m 0 = v := ⟨_, rfl⟩
     rw [hv] at hcl hup
     replace hv := Lib.hid hv
     obtain ⟨hql, hqv⟩ := hcl.out _ _ hS4
     have hm2' := hm2.out
     obtain ⟨F1, hF1⟩ : ∃ F1, F0 ++ l.take (m - 1) = F1 := ⟨_, rfl⟩
     rw [hF1] at hT hup hlen
     replace hF1 := Lib.hid hF1
     replace hup := Lib.hid hup
     have hmm : m < m2 := by omega
     clear hm2'
     obtain ⟨e5, e6, e7⟩ := hT
     have hpl := pos0_len F1
     have hnl := negs_len F1
     have hwB : w0.heap.size ≤ wr.heap.size := hext.size
     have hv4 := e5.lt
     have hv5 := e6.lt
     have e7' : ∀ k, u6.ownBlock = some k → u7.ownBlock ≠ some k := fun k h1 h2 => e7 k h2 h1
     obtain ⟨p4, c4, rfl, -, -⟩ := e5.ownC
     rw [hpl] at *
     have hpb : (pos0 F1).length ≤ 100000 := by rw [pos0_len]; omega
     have hnb : (negs F1).length ≤ 100000 := by omega
     replace e7' := Lib.hid e7'
     replace e7 := Lib.hid e7
     by_cases hneg : v < 0
     ·have hP := Lib.hid (show pos0 (F1 ++ [v]) = pos0 F1 ++ [max 0 v] from by rw [pos0_app])
      have hN := Lib.hid (negs_up (l := F1) hneg)
      go_wp2_with (first
       | (at_builtin; go_loud (refine append_two e6 e5 e7'.out hnb hwB ?_ rfl rfl); intro v6 w6 k1 k2 k3 hg6; have hB6 := Nat.le_trans hwB hg6.by_.size; have hS6 := hS5.grew hg6; have hx6 := hg6.toExt hext (fun k h => (hv5 k h).1); obtain ⟨hql6, hqv6⟩ := hcl.out _ _ hS6)
       | (at_builtin; go_loud (refine append_two k2 k1 (fun k h1 h2 => k3 k h2 h1) hpb hB6 ?_ rfl rfl); intro v7 w7 m1 m2' m3 hg7))
      have hS7 := (hS6.swap hS4).grew hg7
      exact ⟨⟨m + 1, ⟨by omega, by omega⟩, by go_num, ⟨by rw [show m + 1 - 1 = m from rfl, hup.out, hP.out]; exact m1, by rw [show m + 1 - 1 = m from rfl, hup.out, hN.out]; exact m2', m3⟩, hS7, hS7.swap hS6, hg7.toExt hx6 (fun k h => (hv4 k h).1)⟩, by simp [intOf]; omega⟩
     ·have hP := Lib.hid (show pos0 (F1 ++ [v]) = pos0 F1 ++ [max 0 v] from by rw [pos0_app])
      have hN := Lib.hid (negs_no (l := F1) hneg)
      go_wp2_with (at_builtin; go_loud (refine append_two e5 e6 e7.out hpb hwB ?_ rfl rfl); intro v7 w7 m1 m2' m3 hg7)
      have hS7 := hS4.grew hg7
      exact ⟨⟨m + 1, ⟨by omega, by omega⟩, by go_num, ⟨by rw [show m + 1 - 1 = m from rfl, hup.out, hP.out]; exact m1, by rw [show m + 1 - 1 = m from rfl, hup.out, hN.out]; exact m2', m3⟩, hS7, hS7.swap hS5, hg7.toExt hext (fun k h => (hv4 k h).1)⟩, by simp [intOf]; omega⟩
    ·obtain rfl : m = co + 1 := by omega
     rw [show co + 1 - 1 = co from rfl, List.take_of_length_le (Nat.le_of_eq hll.out), ← hst.out] at hT
     go_wp2
     exact ⟨⟨r + 1, hlt, by go_num, hT, hext⟩, by simp [intOf]; omega⟩
  ·obtain rfl : r = R := by omega
   go_wp2
   exact bodyPost_ret (v := .tuple #[u6, u7]) (by simp [results, Tryz.results102, go_sem]) rfl ⟨StE.of (hT.low hBg), hx0.trans hext⟩
end Go.Proofs.YtojdediohjghnaaGreatDoor
/- Elements of a matrix symbol, the program's side. -/
namespace Go.Proofs.YtojdediohjghnaaGreatDoor
open Go.RowKit

theorem or_step {x b : Int} (hx : 0 ≤ x ∧ x < 1000) (hb : 0 ≤ b ∧ b ≤ 1) : bits .or .i64 (x * 2) b = 2 * x + b := by
 obtain ⟨X, rfl⟩ : ∃ X : Nat, x = X := ⟨x.toNat, by omega⟩
 obtain ⟨c, rfl⟩ : ∃ c : Nat, b = c := ⟨b.toNat, by omega⟩
 have h := bits_or_nat (2 * X) c (by omega) (by omega)
 rw [show (2 * X) ||| c = 2 * X + c from by rw [← shl1_or (a := X) (show c ≤ 1 by omega), Nat.shiftLeft_eq]; congr 1; omega] at h
 rw [show (X : Int) * 2 = ((2 * X : Nat) : Int) from by omega, h]
 omega
theorem elTo_small {ds : List Int} (hb : ∀ x ∈ ds, -1 ≤ x ∧ x ≤ 1) (a : Nat) {k : Nat} (hk : k ≤ 8) : -1 ≤ elTo ds a k ∧ elTo ds a k ≤ 255 := by
 have h := elTo_bd hb a k
 have h2 : (2 : Nat) ^ k ≤ 2 ^ 8 := Nat.pow_le_pow_right (by omega) hk
 omega
set_option maxHeartbeats 1600000 in
set_option maxRecDepth 100000 in
theorem takeElements_c (n wd kc : Nat) (p : Option Addr) (xs : List Int) (w : World) (hn : 17 ≤ n ∧ n ≤ 41) (h4 : n % 4 = 1) (hx : IntsAt w p xs) (hlen : xs.length = n * n) (hw1 : 1 ≤ wd) (hw8 : wd ≤ 8) (hbd : ∀ x ∈ xs, -1 ≤ x ∧ x ≤ 1) :
  Calls Tryz.prog 78 #[vGrid n n p (n * n) kc, .int .i64 wd] w fun e w' => StE w.heap.size w' (elemsV wd (cellsL n xs (dpL n)) ((dpL n).length / wd)) e ∧ Ext w w' := by
 have HX := Lib.hid hx; clear hx
 have hml := dpL_len hn.2
 have hdb := Lib.hid (fun a k => elTo_small (cellsL_fm (n := n) (ps := dpL n) hbd) a (k := k))
 have hab := Lib.hid (fun k => at_bd (cellsL_fm (n := n) (ps := dpL n) hbd) k)
 have hpl := Lib.hid (fun W => iPlaces_c n W hn h4)
 obtain ⟨m, hm⟩ : ∃ m, (dpL n).length = m := ⟨_, rfl⟩
 have hca := Lib.hid (fun q c W (h : IntsAt W p xs) (h2 : PlAt W q (dpL n)) => cellsAt_c n kc m c p q xs (dpL n) W hn h hlen h2 hm (by omega) (dpL_bd hn h4))
 have hdl : (cellsL n xs (dpL n)).length = m := by rw [← hm]; simp [cellsL]
 rw [hm] at hml ⊢
 obtain ⟨ds, hds⟩ : ∃ ds, cellsL n xs (dpL n) = ds := ⟨_, rfl⟩
 rw [hds] at hca hdl hdb hab ⊢
 replace hm := Lib.hid hm; replace hds := Lib.hid hds; replace hdl := Lib.hid hdl; replace hlen := Lib.hid hlen
 clear hbd
 have hb0 := Blk.new w #[.int .i64 n, .int .i64 n, .slice p (n * n) kc] 37
 have hx0 : Ext w (w.alloc (.cells #[.int .i64 n, .int .i64 n, .slice p (n * n) kc] 37)) := (Ext.refl w).alloc _
 obtain ⟨f0, f1, f2⟩ := hb0.c3; have fl := hb0.lt
 go_enter Tryz.func78, Tryz.ntmps78
 go_upto_region 1 with (fail)
 generalize w.alloc (.cells #[.int .i64 n, .int .i64 n, .slice p (n * n) kc] 37) = w0 at *
 go_cut [6] (fun s wx => ∃ g, s = .slice (some ⟨g, 0, none⟩) m m ∧ IntsAt wx (some ⟨g, 0, none⟩) ds ∧ Ext w0 wx)
 case first =>
  rename_i J1 K1 hJ1 hK1
  refine wp_region_canon (fun w' => Ext w0 w') [(0, true), (1, true), (2, true), (3, false), (4, false), (5, true)] (by kernel_rfl) (by kernel_rfl) (by decide) (by kernel_rfl) ?_ ?_
  ·exact eX
  refine canon_intro fun ops eo => ?_
  replace eo := canon_eo eo
  iterate 3 all_goals (refine cS eo rfl rfl evE ?_; simp only [ptN])
  all_goals first | (refine canon_ef (eo.out 3 rfl) rfl (fun K hK => ?_); go_simp; ((go_at_call 121; (with_reducible refine (hpl.out _).mono ?_); rintro e w1 ⟨⟨v1, rfl, hr1⟩, hx1⟩; obtain ⟨pp, cp, hv1, hA1, hf1⟩ := hr1.nfree plF_len; rw [hm.out] at hv1; subst hv1)); all_goals (refine hK _ _ ⟨eX, ?_⟩; clear hK K; go_simp))
  all_goals first | (refine canon_ef (eo.out 4 rfl) rfl (fun K hK => ?_); go_simp; ((go_at_call 120; (with_reducible refine (hca.out pp cp _ (HX.out.ext (hx0.trans eX)) (hA1.ext eX)).mono ?_); rintro e w2 ⟨⟨g, rfl, hg⟩, hx2⟩)); all_goals (refine hK _ _ ⟨eX, ?_⟩; clear hK K; go_simp))
  all_goals (refine cS eo rfl rfl evE ?_; simp only [ptN])
  all_goals (clear eo; refine canon_done (NoPanic.normal ?_))
  refine hK1 _ _ (hJ1 _ _ ?_)
  (repeat apply Exists.intro)
  refine ⟨?_, rfl⟩
  exact ⟨_, rfl, hg.ints, eX⟩
 case rest =>
  obtain ⟨g, rfl, hI, hxw⟩ := hcut
  have hxa := hx0.trans hxw
  have hgl : 0 < m → g < wc.heap.size := fun h => (hI.cellN (m := 0) (by rw [hdl.out]; exact h)).1
  have hT0 : TwoE wc.heap.size ((wc.alloc (.cells #[] 2)).alloc (.cells #[] 2)) (.slice (some ⟨wc.heap.size, 0, none⟩) 0 0) (.slice (some ⟨wc.heap.size + 1, 0, none⟩) 0 0) (elemsV wd ds 0) := TwoE.start (Nat.le_refl _)
  have hx2 : Ext wc ((wc.alloc (.cells #[] 2)).alloc (.cells #[] 2)) := ((Ext.refl _).alloc _).alloc _
  clear f0 f1 f2 fl hb0 hx0 hxw hpl hca HX
  go_upto_region 4 with (fail)
  obtain ⟨wo, rfl⟩ : ∃ wo : World, wo = wc := ⟨_, rfl⟩
  generalize (wo.alloc (.cells #[] 2)).alloc (.cells #[] 2) = w2 at *
  generalize Value.slice (some ⟨wo.heap.size, 0, none⟩) 0 0 = v4 at *
  generalize Value.slice (some ⟨wo.heap.size + 1, 0, none⟩) 0 0 = v5 at *
  go_loopw [7, 8, 9] (fun x7 x8 i wr => ∃ j A : Nat, j * wd = A ∧ A ≤ m ∧ i = .int .i64 A ∧ TwoE wo.heap.size wr x7 x8 (elemsV wd ds j) ∧ Ext wo wr) (fun _ _ i _ => m + 10 - (intOf i).toNat)
  case atStart => exact ⟨0, 0, Nat.zero_mul _, Nat.zero_le _, rfl, hT0, hx2⟩
  case round =>
   clear hT0 hx2
   obtain ⟨j, A, hA, hAm, rfl, hT, hext⟩ := hrel
   have hmore := more_iff (w := wd) (n := m) (j := j) (by omega)
   have hnd := Nat.div_mul_le_self m wd
   by_cases hlt : A + wd ≤ m
   ·have hsu := elemsV_succ wd ds j
    rw [hA] at hsu
    have hA1 : (j + 1) * wd = A + wd := by rw [Nat.add_mul, Nat.one_mul, hA]
    have hel := elemsV_len wd ds j
    have hjm : j ≤ 1681 := by have : j * 1 ≤ j * wd := Nat.mul_le_mul_left _ hw1; omega
    obtain ⟨F1, hF1⟩ : ∃ F1, elemsV wd ds j = F1 := ⟨_, rfl⟩
    rw [hF1] at hT hsu hel
    have hFl : F1.length ≤ 1681 := by omega
    replace hel := Lib.hid hel
    replace hF1 := Lib.hid hF1; replace hsu := Lib.hid hsu; replace hA := Lib.hid hA; replace hA1 := Lib.hid hA1
    clear hmore hnd
    have hsl : ∀ W, (Instr.slice 24 (.slice (some ⟨g, 0, none⟩) m m) (some (.int .i64 (A : Int))) (some (.int .i64 ((A : Int) + (wd : Int)))) none).run Tryz.prog W = .ok (.slice (some ⟨g, A, none⟩) wd (m - A)) W := fun W => by
     have := Lib.run_slice_window (P := Tryz.prog) W 24 2 Tryz.underlying24 (fun w => by kernel_rfl) g 0 m m A (A + wd) (by omega) (by omega)
     rwa [Nat.zero_add, show A + wd - A = wd by omega, show (((A + wd : Nat)) : Int) = (A : Int) + (wd : Int) from by omega] at this
    have hIr := hI.ext hext
    go_upto_region 8 with (fail)
    obtain ⟨wi, rfl⟩ : ∃ wi : World, wi = wr := ⟨_, rfl⟩
    go_loopw [10, 36] (fun x i wr => ∃ q : Nat, q ≤ wd ∧ x = .int .i64 (elTo ds A q) ∧ i = .int .i64 q ∧ wr = wi) (fun _ i _ => wd - (intOf i).toNat)
    case atStart => exact ⟨0, Nat.zero_le _, rfl, rfl, rfl⟩
    case round =>
     obtain ⟨q, hq, rfl, rfl, rfl⟩ := hrel
     have hxb := hdb.out A q (by omega)
     by_cases hltq : q < wd
     ·obtain ⟨k1, k2⟩ := hIr.cellN (m := A + q) (by rw [hdl.out]; omega)
      rw [Nat.zero_add] at k2
      have hst := elTo_s ds A q
      have hvb := hab.out (A + q)
      generalize ds.getD (A + q) 0 = v at *
      generalize elTo ds A q = x at *
      by_cases hv : v < 0
      ·rw [stepE_no (.inl hv)] at hst
       replace hst := Lib.hid hst
       go_wp2
       exact ⟨⟨q + 1, hltq, by rw [hst.out], by go_num, trivial⟩, by simp [intOf]; omega⟩
      ·by_cases hxn : x < 0
       ·rw [stepE_no (.inr hxn)] at hst
        replace hst := Lib.hid hst
        go_wp2
        exact ⟨⟨q + 1, hltq, by rw [hst.out], by go_num, trivial⟩, by simp [intOf]; omega⟩
       ·rw [stepE_yes (fun h => h.elim hv hxn)] at hst
        have ho := or_step (x := x) (b := v) (by omega) (by omega)
        replace hst := Lib.hid hst
        go_wp2
        exact ⟨⟨q + 1, hltq, by rw [hst.out], by go_num, trivial⟩, by simp [intOf]; omega⟩
     ·obtain rfl : q = wd := by omega
      generalize elTo ds A q = v at *
      obtain ⟨e5, e6, e7⟩ := hT
      have hpl := pos0_len F1
      have hnl := negs_len F1
      have hwB := hext.size
      have hv4 := e5.lt
      have hv5 := e6.lt
      have e7' : ∀ k, u7.ownBlock = some k → u8.ownBlock ≠ some k := fun k h1 h2 => e7 k h2 h1
      obtain ⟨p4, c4, rfl, -, -⟩ := e5.ownC
      rw [hpl] at *
      have hpb : (pos0 F1).length ≤ 100000 := by rw [pos0_len]; omega
      have hnb : (negs F1).length ≤ 100000 := by omega
      replace e7' := Lib.hid e7'
      replace e7 := Lib.hid e7
      by_cases hneg : v < 0
      ·have hP := Lib.hid (show pos0 (F1 ++ [v]) = pos0 F1 ++ [0] from by rw [pos0_app, show max 0 v = 0 from by omega])
       have hN := Lib.hid (negs_up (l := F1) hneg)
       go_wp2_with (first
        | (at_builtin; go_loud (refine append_two e6 e5 e7'.out hnb hwB ?_ rfl rfl); intro v6 w6 k1 k2 k3 hg6; have hB6 := Nat.le_trans hwB hg6.by_.size; have hx6 := hg6.toExt hext (fun k h => (hv5 k h).1))
        | (at_builtin; go_loud (refine append_two k2 k1 (fun k h1 h2 => k3 k h2 h1) hpb hB6 ?_ rfl rfl); intro v7 w7 m1 m2' m3 hg7))
       exact ⟨⟨j + 1, A + q, hA1.out, hlt, by go_num, ⟨by rw [hsu.out, hP.out]; exact m1, by rw [hsu.out, hN.out]; exact m2', m3⟩, hg7.toExt hx6 (fun k h => (hv4 k h).1)⟩, by simp [intOf]; omega⟩
      ·have hP := Lib.hid (show pos0 (F1 ++ [v]) = pos0 F1 ++ [v] from by rw [pos0_app, show max 0 v = v from by omega])
       have hN := Lib.hid (negs_no (l := F1) hneg)
       go_wp2_with (at_builtin; go_loud (refine append_two e5 e6 e7.out hpb hwB ?_ rfl rfl); intro v7 w7 m1 m2' m3 hg7)
       exact ⟨⟨j + 1, A + q, hA1.out, hlt, by go_num, ⟨by rw [hsu.out, hP.out]; exact m1, by rw [hsu.out, hN.out]; exact m2', m3⟩, hg7.toExt hext (fun k h => (hv4 k h).1)⟩, by simp [intOf]; omega⟩
   ·have hjm2 : j = m / wd := by
     have h1 : ¬ j < m / wd := fun h => hlt (by have := hmore.1 h; omega)
     have h2 : j ≤ m / wd := (Nat.le_div_iff_mul_le (by omega)).2 (by omega)
     omega
    rw [hjm2] at hT
    go_wp2
    exact bodyPost_ret (v := .tuple #[u7, u8]) (by simp [results, Tryz.results78, go_sem]) rfl ⟨StE.of (hT.low hxa.below.size), hxa.trans hext⟩
end Go.Proofs.YtojdediohjghnaaGreatDoor
