/- The order of a stream over its blocks, as the program yields it. -/
import Derived.Test.YtdnkljpnhmcnpaaGreatLBoundedDamageK30
import Derived.RangeFuncNested
import Derived.RangeFuncBound
import Derived.RangeFuncCalls
import Derived.RangeFuncLeaves
import Derived.Shelf.Abstract
import Derived.OwnWalkIn
import Derived.TacticsInMore
import Derived.LoopNIn
import Derived.LoopIn
import Derived.Sort.QuietIn
set_option linter.unusedVariables false
set_option linter.unusedSimpArgs false
namespace Go.Proofs.YtdnkljpnhmcnpaaGreat
open Go.RowKit Go.Shelf

theorem o1_mono (D N : Nat) (q : Nat) : ∀ d, (o1To D N q).length ≤ (o1To D N (q + d)).length
 | 0 => Nat.le_refl _
 | d + 1 => by
  have ih := o1_mono D N q d
  by_cases h : (q + d) / N < shN D N ((q + d) % N)
  ·rw [← Nat.add_assoc, o1_up h, List.length_append]; omega
  ·rw [← Nat.add_assoc, o1_no h]; exact ih
theorem o1_lt {D N q : Nat} (hN : 1 ≤ N) (hq : q + 1 ≤ (D / N + 1) * N) (h : q / N < shN D N (q % N)) : (o1To D N q).length < D := by
 have h1 := o1_mono D N (q + 1) ((D / N + 1) * N - (q + 1))
 rw [Nat.add_sub_cancel' hq, o1_all D N hN, o1_up h, List.length_append, List.length_singleton] at h1
 omega
def KpO (g : Nat) (w w' : World) : Prop := w'.heap[g]? = w.heap[g]? ∧ w.heap.size ≤ w'.heap.size
theorem KpO.trans {g : Nat} {x y z : World} (h : KpO g x y) (k : KpO g y z) : KpO g x z := ⟨k.1.trans h.1, Nat.le_trans h.2 k.2⟩
theorem KpO.ext {g : Nat} {x y : World} (h : Ext x y) (hg : g < x.heap.size) : KpO g x y := ⟨h.below.block g hg, h.below.size⟩
theorem KpO.blk {g : Nat} {w w' : World} {cs : Array Value} {t : TypeId} (h : KpO g w w') (hb : Blk w g cs t) : Blk w' g cs t := h.1.trans hb
theorem Ext.grown {w w' : World} (h : Ext w w') : w.grownBy w' none := ⟨h.below.os, h.below.tape, h.below.output, h.below.size, fun k hk _ => h.below.block k hk⟩
set_option maxHeartbeats 1600000 in
set_option maxRecDepth 100000 in
theorem order1_in (n : Nat) (l g : Nat) (p k q : Int) (D C N : Nat) (hN : 1 ≤ N ∧ N ≤ 16) (hD : D ≤ 1500) (hC : C ≤ 64) (J Jx : List (Nat × Nat) → World → Prop)
  (hY : ∀ pre x W, J pre W → pre.length < D + C * N → (x.1 < N ∧ x.2 < shN D N x.1 + C) → YieldAt Fence.wide (n - 1) Tryz.prog l #[.int .i64 (x.1 : Nat), .int .i64 (x.2 : Nat)] W fun e W' =>
   (e = .returned (.bool true) ∧ J (pre ++ [x]) W' ∧ KpO g W W') ∨ (e = .returned (.bool false) ∧ Jx (pre ++ [x]) W'))
  (W : World) (hJ : ∀ s w w', J s w → Ext w w' → J s w') (hB : Blk W g #[.int .i64 p, .int .i64 k, .int .i64 q, .int .i64 D, .int .i64 C, .int .i64 N] 95) (h0 : J [] W) :
  CallsIn Fence.wide n Tryz.prog 218 #[.func (.yield l) #[] #[], .pointer (some ⟨g, 0, none⟩)] W fun e W' => (∃ v, e = .returned v) ∧
   ((∃ ys, ys = ordL D C N ∧ J ys W') ∨ (∃ pre : List (Nat × Nat), True ∧ Jx pre W')) := by
 have hsz : ∀ (b : Int) B W, b = (B : Nat) → B ≤ 100 → Calls Tryz.prog 187 #[vLay p k q D C N, .int .i64 b] W fun e w' => e = .returned (.int .i64 (shN D N B : Int)) ∧ Ext W w' := fun b B W h1 hb => by
  have := iShare7_c p k q D C N b W (by omega) (by omega) (by omega)
  subst h1
  rwa [shV_nat hN.1] at this
 have hqd := Lib.hid (fun e b (h : b < N) => qdiv (e := e) (b := b) (N := N) h)
 have hDN : D / N ≤ 1500 := Nat.le_trans (Nat.div_le_self _ _) hD
 have hfin : ordL D C N = o1To D N (shN D N (N - 1) * N) ++ o2To D N (C * N) := by rw [o1_last D N hN.1]; rfl
 have hshb := Lib.hid (fun b => (shN_le D N b).2)
 have ho1 := Lib.hid (fun q h => o1_up (D := D) (N := N) (q := q) h); have ho2 := Lib.hid (fun q h => o1_no (D := D) (N := N) (q := q) h); have ho3 := Lib.hid (fun q => o2_up D N q)
 have hl1 := Lib.hid (fun q h1 h2 => o1_lt (D := D) (N := N) (q := q) hN.1 h1 h2); have hl2 := Lib.hid (o2_len D N)
 have hla : (o1To D N (shN D N (N - 1) * N)).length = D := by rw [o1_last D N hN.1]; exact o1_all D N hN.1
 have h10 : o1To D N 0 = [] := rfl
 have h20 : o2To D N 0 = [] := rfl
 have hlong : shN D N (N - 1) ≤ D / N + 1 := (shN_le D N _).2
 have hsl := Lib.hid (fun W => hsz ((N : Int) - 1) (N - 1) W (by omega) (by omega))
 obtain ⟨E, hE⟩ : ∃ E, D / N = E := ⟨_, rfl⟩
 rw [hE] at hDN hshb hlong hl1
 obtain ⟨O, hO⟩ : ∃ O, ordL D C N = O := ⟨_, rfl⟩
 rw [hO] at hfin ⊢
 replace hfin := Lib.hid hfin; replace hla := Lib.hid hla
 replace hO := Lib.hid hO; replace hE := Lib.hid hE
 generalize o1To D N = P1 at *
 generalize o2To D N = P2 at *
 generalize shN D N = SH at *
 have hYk := Lib.hid (fun pre (a b : Nat) W hj h (h2 : a < N ∧ b < SH a + C) => hY pre (a, b) W hj h h2)
 replace hJ := Lib.hid hJ
 replace hsz := Lib.hid hsz
 clear hY
 obtain ⟨LG, hLG⟩ : ∃ LG, SH (N - 1) = LG := ⟨_, rfl⟩
 rw [hLG] at hlong hsl hfin hla
 clear hLG
 obtain ⟨c0, c1, c2, c3, c4, c5⟩ := hB.c6; have cL := hB.lt
 refine callsIn_of_wp Tryz.func218 rfl trivial ?_ rfl
 simp only [Tryz.ntmps218, List.size_toArray, List.length_cons, List.length_nil, Nat.reduceAdd, Nat.reduceSub, Array.replicate_succ, Array.replicate_zero, List.push_toArray, List.append_toArray, List.nil_append, List.cons_append]
 gi_wp2
 refine ⟨trivial, (fun h => by cases h), (callsIn_wide.2 (hsl.out _)).mono ?_⟩
 rintro e1 w1 ⟨rfl, hx1⟩
 have hB1 := hB.ext hx1
 have hJ1 : J (P1 (0 * N)) w1 := by rw [Nat.zero_mul, h10]; exact hJ.out _ _ _ h0 hx1
 clear c0 c1 c2 c3 c4 c5 cL h0 hB h10
 gi_wp2
 gi_loopw [4] (fun i wr => ∃ e : Nat, e ≤ LG ∧ i = .int .i64 e ∧ J (P1 (e * N)) wr ∧ Blk wr g #[.int .i64 p, .int .i64 k, .int .i64 q, .int .i64 D, .int .i64 C, .int .i64 N] 95) (fun i _ => LG + 10 - (intOf i).toNat)
 case atStart => exact ⟨0, Nat.zero_le _, rfl, hJ1, hB1⟩
 case round =>
  clear hJ1 hB1
  obtain ⟨e, he, rfl, hj, hB⟩ := hrel
  have c5 := hB.cell (i := 5) (v := .int .i64 N) rfl; have cL := hB.lt
  by_cases hlt : e < LG
  ·have hQ : (e + 1) * N ≤ (E + 1) * N := Nat.mul_le_mul_right N (by omega)
   rw [Nat.add_mul, Nat.one_mul] at hQ
   gi_wp2
   clear c5 cL
   obtain ⟨wo, rfl⟩ : ∃ wo : World, wo = wr := ⟨_, rfl⟩
   have hj2 : J (P1 (e * N + 0)) wo := hj
   gi_loopw [5] (fun i wr => ∃ b : Nat, b ≤ N ∧ i = .int .i64 b ∧ J (P1 (e * N + b)) wr ∧ Blk wr g #[.int .i64 p, .int .i64 k, .int .i64 q, .int .i64 D, .int .i64 C, .int .i64 N] 95) (fun i _ => N + 10 - (intOf i).toNat)
   case atStart => exact ⟨0, Nat.zero_le _, rfl, hj2, hB⟩
   case round =>
    clear hj2 hj hB
    obtain ⟨b, hb, rfl, hj, hB⟩ := hrel
    obtain ⟨c0, c1, c2, c3, c4, c5⟩ := hB.c6; have cL := hB.lt
    by_cases hlb : b < N
    ·obtain ⟨hq1, hq2⟩ := hqd.out e b hlb
     have hup := ho1.out (e * N + b); have hno := ho2.out (e * N + b); have hln := hl1.out (e * N + b) (by omega)
     rw [hq1, hq2] at hup hno hln
     have hcall := Lib.hid (fun W => hsz.out (b : Int) b W rfl (by omega))
     have hSb := hshb.out b
     have hYb := Lib.hid (fun pre e W hj h h2 => hYk.out pre b e W hj h h2)
     generalize SH b = S at *
     obtain ⟨q0, hq0⟩ : ∃ q0, e * N + b = q0 := ⟨_, rfl⟩
     rw [hq0] at hj hup hno hln
     have hq3 : e * N + (b + 1) = q0 + 1 := by omega
     replace hq0 := Lib.hid hq0; replace hq3 := Lib.hid hq3
     gi_wp2
     refine ⟨trivial, (fun h => by cases h), (callsIn_wide.2 (hcall.out _)).mono ?_⟩
     rintro e1 w5 ⟨rfl, hx5⟩
     have hj5 := hJ.out _ _ _ hj hx5
     have hB5 := hB.ext hx5
     clear c0 c1 c2 c3 c4 c5 cL hj hB
     by_cases hes : e < S
     ·have hup2 := Lib.hid (hup hes)
      obtain ⟨fn, tmps, assign, body, hy, hR⟩ := hYb.out (P1 q0) e w5 hj5 (by have := hln hes; omega) ⟨hlb, by omega⟩
      clear hup hno hln
      gi_wp2
      refine ⟨(fun h => by cases h), hR.mono ?_⟩
      rintro e2 W3 (⟨rfl, hJ3, hk3⟩ | ⟨rfl, hJx3⟩)
      ·have hb3 := hk3.blk hB5
       clear hy hR hj5 hB5 hx5
       gi_wp2
       go_roundw
       case rel => exact ⟨b + 1, hlb, by go_num, by rw [hq3.out, hup2.out]; exact hJ3, hb3⟩
       case measure => simp [intOf]; omega
      ·gi_wp2
       refine bodyPost_ret (results_none rfl _ _ _) rfl ?_
       exact ⟨⟨_, rfl⟩, .inr ⟨_, trivial, hJx3⟩⟩
     ·have hno2 := Lib.hid (hno hes)
      have hes2 : ¬ (e : Int) < (S : Int) := by omega
      have hes3 : decide ((e : Int) < (S : Int)) = false := by simpa using hes
      clear hup hno hln hx5
      gi_wp2
      refine ⟨(fun _ h => by cases h), ?_⟩
      gi_wp2
      go_roundw
      case rel => exact ⟨b + 1, hlb, by go_num, by rw [hq3.out, hno2.out]; exact hj5, hB5⟩
      case measure => simp [intOf]; omega
    ·obtain rfl : b = N := by omega
     have hq3 : e * b + b = (e + 1) * b := by rw [Nat.add_mul, Nat.one_mul]
     rw [hq3] at hj
     gi_wp2
     go_roundw
     case rel => exact ⟨e + 1, hlt, by go_num, hj, hB⟩
     case measure => simp [intOf]; omega
  ·obtain rfl : e = LG := by omega
   gi_wp2
   clear c5 cL
   have hj0 : J (P1 (e * N) ++ P2 (0 * N)) wr := by rw [Nat.zero_mul, h20, List.append_nil]; exact hj
   generalize P1 (e * N) = M1 at *
   clear hj ho1 ho2 hl1
   obtain ⟨wp, rfl⟩ : ∃ wp : World, wp = wr := ⟨_, rfl⟩
   gi_loopw [6] (fun i wr => ∃ e : Nat, e ≤ C ∧ i = .int .i64 e ∧ J (M1 ++ P2 (e * N)) wr ∧ Blk wr g #[.int .i64 p, .int .i64 k, .int .i64 q, .int .i64 D, .int .i64 C, .int .i64 N] 95) (fun i _ => C + 10 - (intOf i).toNat)
   case atStart => exact ⟨0, Nat.zero_le _, rfl, hj0, hB⟩
   case round =>
    clear hj0 hB
    obtain ⟨e, he, rfl, hj, hB⟩ := hrel
    have c4 := hB.cell (i := 4) (v := .int .i64 C) rfl; have cL := hB.lt
    by_cases hlt : e < C
    ·have hQ : (e + 1) * N ≤ C * N := Nat.mul_le_mul_right N (by omega)
     rw [Nat.add_mul, Nat.one_mul] at hQ
     gi_wp2
     clear c4 cL
     obtain ⟨wo, rfl⟩ : ∃ wo : World, wo = wr := ⟨_, rfl⟩
     have hj2 : J (M1 ++ P2 (e * N + 0)) wo := hj
     gi_loopw [7] (fun i wr => ∃ b : Nat, b ≤ N ∧ i = .int .i64 b ∧ J (M1 ++ P2 (e * N + b)) wr ∧ Blk wr g #[.int .i64 p, .int .i64 k, .int .i64 q, .int .i64 D, .int .i64 C, .int .i64 N] 95) (fun i _ => N + 10 - (intOf i).toNat)
     case atStart => exact ⟨0, Nat.zero_le _, rfl, hj2, hB⟩
     case round =>
      clear hj2 hj hB
      obtain ⟨b, hb, rfl, hj, hB⟩ := hrel
      obtain ⟨c0, c1, c2, c3, c4, c5⟩ := hB.c6; have cL := hB.lt
      by_cases hlb : b < N
      ·obtain ⟨hq1, hq2⟩ := hqd.out e b hlb
       have hup := ho3.out (e * N + b)
       have hln := hl2.out (e * N + b)
       rw [hq1, hq2] at hup
       have hcall := Lib.hid (fun W => hsz.out (b : Int) b W rfl (by omega))
       have hSb := hshb.out b
       have hYb := Lib.hid (fun pre e W hj h h2 => hYk.out pre b e W hj h h2)
       generalize SH b = S at *
       obtain ⟨q0, hq0⟩ : ∃ q0, e * N + b = q0 := ⟨_, rfl⟩
       rw [hq0] at hj hup hln
       have hq3 : e * N + (b + 1) = q0 + 1 := by omega
       have hlen : (M1 ++ P2 q0).length < D + C * N := by rw [List.length_append, hla.out, hln]; omega
       replace hq0 := Lib.hid hq0; replace hq3 := Lib.hid hq3
       gi_wp2
       refine ⟨trivial, (fun h => by cases h), (callsIn_wide.2 (hcall.out _)).mono ?_⟩
       rintro e1 w5 ⟨rfl, hx5⟩
       have hj5 := hJ.out _ _ _ hj hx5
       have hB5 := hB.ext hx5
       clear c0 c1 c2 c3 c4 c5 cL hj hB
       obtain ⟨fn, tmps, assign, body, hy, hR⟩ := hYb.out (M1 ++ P2 q0) (S + e) w5 hj5 hlen ⟨hlb, by omega⟩
       have hup2 := Lib.hid (show M1 ++ P2 (q0 + 1) = (M1 ++ P2 q0) ++ [(b, S + e)] from by rw [hup, List.append_assoc])
       rw [Int.natCast_add] at hy
       clear hup hln hlen
       gi_wp2
       refine ⟨(fun h => by cases h), hR.mono ?_⟩
       rintro e2 W3 (⟨rfl, hJ3, hk3⟩ | ⟨rfl, hJx3⟩)
       ·have hb3 := hk3.blk hB5
        clear hy hR hj5 hB5 hx5
        gi_wp2
        go_roundw
        case rel => exact ⟨b + 1, hlb, by go_num, by rw [hq3.out, hup2.out]; exact hJ3, hb3⟩
        case measure => simp [intOf]; omega
       ·gi_wp2
        refine bodyPost_ret (results_none rfl _ _ _) rfl ?_
        exact ⟨⟨_, rfl⟩, .inr ⟨_, trivial, hJx3⟩⟩
      ·obtain rfl : b = N := by omega
       have hq3 : e * b + b = (e + 1) * b := by rw [Nat.add_mul, Nat.one_mul]
       rw [hq3] at hj
       gi_wp2
       go_roundw
       case rel => exact ⟨e + 1, hlt, by go_num, hj, hB⟩
       case measure => simp [intOf]; omega
    ·obtain rfl : e = C := by omega
     rw [← hfin.out] at hj
     gi_wp2
     go_end0
     exact ⟨⟨_, rfl⟩, .inl ⟨_, rfl, hj⟩⟩
abbrev BlkE (D C N : Nat) := {x : Nat × Nat // x.1 < N ∧ x.2 < shN D N x.1 + C}
theorem order1_seq (m g : Nat) (p k q : Int) (D C N : Nat) (hN : 1 ≤ N ∧ N ≤ 16) (hD : D ≤ 1500) (hC : C ≤ 64) (w : World) (hB : Blk w g #[.int .i64 p, .int .i64 k, .int .i64 q, .int .i64 D, .int .i64 C, .int .i64 N] 95) :
  SeqStopsK Fence.wide m Tryz.prog 218 #[.pointer (some ⟨g, 0, none⟩)] (fun x : BlkE D C N => #[.int .i64 (x.1.1 : Nat), .int .i64 (x.1.2 : Nat)]) (KpO g) (fun ys => ys.map (·.1) = ordL D C N) (fun _ => True) (D + C * N) w := by
 intro l J Jx W hW hJ _ hY h0
 have hB' : Blk W g #[.int .i64 p, .int .i64 k, .int .i64 q, .int .i64 D, .int .i64 C, .int .i64 N] 95 := (hW.block g hB.lt).trans hB
 refine (order1_in m l g p k q D C N hN hD hC (fun L W => ∃ ys : List (BlkE D C N), ys.map (·.1) = L ∧ J ys W) (fun _ W => ∃ ys : List (BlkE D C N), Jx ys W) ?_ W ?_ hB' ⟨[], rfl, h0⟩).mono ?_
 ·rintro pre x W1 ⟨ys, rfl, hj⟩ hlen hv
  obtain ⟨fn, tmps, assign, body, hy, hR⟩ := hY ys ⟨x, hv⟩ W1 hj (by simpa using hlen)
  refine ⟨fn, tmps, assign, body, hy, hR.mono ?_⟩
  rintro e W' (⟨h1, h2, h3⟩ | ⟨h1, h2⟩)
  ·exact .inl ⟨h1, ⟨ys ++ [⟨x, hv⟩], by simp, h2⟩, h3⟩
  ·exact .inr ⟨h1, ⟨_, h2⟩⟩
 ·rintro s w1 w2 ⟨ys, h1, h2⟩ hx
  exact ⟨ys, h1, hJ ys w1 w2 none h2 hx.grown (fun r e => by cases e)⟩
 ·rintro e W' ⟨h1, ⟨L, rfl, ys, h2, h3⟩ | ⟨pre, _, ys, h3⟩⟩
  ·exact ⟨h1, .inl ⟨ys, h2, h3⟩⟩
  ·exact ⟨h1, .inr ⟨ys, trivial, h3⟩⟩
end Go.Proofs.YtdnkljpnhmcnpaaGreat
