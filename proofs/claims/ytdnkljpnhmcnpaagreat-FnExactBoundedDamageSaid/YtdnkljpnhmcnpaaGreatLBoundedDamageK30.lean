/- The order of a stream over its blocks: plain laws. -/
import Derived.Test.YtdnkljpnhmcnpaaGreatLBoundedDamageK10
import Derived.Test.YtdnkljpnhmcnpaaGreatLBoundedDamageK25
import Derived.Test.YtdnkljpnhmcnpaaGreatLBoundedDamageK15
import Derived.Test.YtdnkljpnhmcnpaaGreatLBoundedDamageK26
import Derived.Test.YtdnkljpnhmcnpaaGreatLBoundedDamageK29
set_option linter.unusedVariables false
set_option linter.unusedSimpArgs false
namespace Go.Proofs.YtdnkljpnhmcnpaaGreat
open Go.RowKit

def shN (D N b : Nat) : Nat := if N - D % N ≤ b then D / N + 1 else D / N
theorem shV_nat {D N b : Nat} (hN : 1 ≤ N) : shV D N b = (shN D N b : Int) := by
 have h : D % N < N := Nat.mod_lt _ hN
 unfold shV shN
 have e1 : ((D : Int) / (N : Int)) = ((D / N : Nat) : Int) := (Int.natCast_ediv _ _).symm
 have e2 : ((D : Int) % (N : Int)) = ((D % N : Nat) : Int) := (Int.natCast_emod _ _).symm
 rw [e1, e2]
 by_cases h2 : N - D % N ≤ b
 ·rw [if_pos h2, if_pos (by omega)]; rfl
 ·rw [if_neg h2, if_neg (by omega)]
theorem shN_le (D N b : Nat) : D / N ≤ shN D N b ∧ shN D N b ≤ D / N + 1 := by unfold shN; split <;> omega
def o1To (D N : Nat) : Nat → List (Nat × Nat)
 | 0 => []
 | q + 1 => if q / N < shN D N (q % N) then o1To D N q ++ [(q % N, q / N)] else o1To D N q
theorem o1_up {D N q : Nat} (h : q / N < shN D N (q % N)) : o1To D N (q + 1) = o1To D N q ++ [(q % N, q / N)] := if_pos h
theorem o1_no {D N q : Nat} (h : ¬ q / N < shN D N (q % N)) : o1To D N (q + 1) = o1To D N q := if_neg h
def o2To (D N : Nat) : Nat → List (Nat × Nat)
 | 0 => []
 | q + 1 => o2To D N q ++ [(q % N, shN D N (q % N) + q / N)]
theorem o2_up (D N q : Nat) : o2To D N (q + 1) = o2To D N q ++ [(q % N, shN D N (q % N) + q / N)] := rfl
theorem o2_len (D N : Nat) : ∀ q, (o2To D N q).length = q
 | 0 => rfl
 | q + 1 => by rw [o2_up, List.length_append, o2_len D N q]; rfl
theorem o1_in {D N : Nat} (hN : 1 ≤ N) : ∀ {q : Nat} {x : Nat × Nat}, x ∈ o1To D N q → x.1 < N ∧ x.2 < shN D N x.1 ∧ x.2 * N + x.1 < q
 | 0, x, h => by cases h
 | q + 1, x, h => by
  by_cases hc : q / N < shN D N (q % N)
  ·rw [o1_up hc, List.mem_append] at h
   rcases h with h | h
   ·have := o1_in hN h
    omega
   ·obtain rfl : x = (q % N, q / N) := by simpa using h
    have := Nat.div_add_mod q N
    have h2 := Nat.mod_lt q hN
    rw [Nat.mul_comm] at this
    exact ⟨h2, hc, by show q / N * N + q % N < q + 1; omega⟩
  ·rw [o1_no hc] at h
   have := o1_in hN h
   omega
theorem o2_in {D N : Nat} (hN : 1 ≤ N) : ∀ {q : Nat} {x : Nat × Nat}, x ∈ o2To D N q → x.1 < N ∧ shN D N x.1 ≤ x.2 ∧ (x.2 - shN D N x.1) * N + x.1 < q
 | 0, x, h => by cases h
 | q + 1, x, h => by
  rw [o2_up, List.mem_append] at h
  rcases h with h | h
  ·have := o2_in hN h
   omega
  ·obtain rfl : x = (q % N, shN D N (q % N) + q / N) := by simpa using h
   have := Nat.div_add_mod q N
   have h2 := Nat.mod_lt q hN
   rw [Nat.mul_comm] at this
   refine ⟨h2, Nat.le_add_right _ _, ?_⟩
   show (shN D N (q % N) + q / N - shN D N (q % N)) * N + q % N < q + 1
   rw [Nat.add_sub_cancel_left]
   omega
theorem o1_nodup {D N : Nat} (hN : 1 ≤ N) : ∀ q, (o1To D N q).Nodup
 | 0 => List.nodup_nil
 | q + 1 => by
  by_cases hc : q / N < shN D N (q % N)
  ·rw [o1_up hc]
   refine List.nodup_append.2 ⟨o1_nodup hN q, by simp, fun a ha b hb => ?_⟩
   obtain rfl : b = (q % N, q / N) := by simpa using hb
   rintro rfl
   have := (o1_in hN ha).2.2
   have h3 := Nat.div_add_mod q N
   rw [Nat.mul_comm] at h3
   have h4 : q / N * N + q % N < q := this
   omega
  ·rw [o1_no hc]; exact o1_nodup hN q
theorem o2_nodup {D N : Nat} (hN : 1 ≤ N) : ∀ q, (o2To D N q).Nodup
 | 0 => List.nodup_nil
 | q + 1 => by
  rw [o2_up]
  refine List.nodup_append.2 ⟨o2_nodup hN q, by simp, fun a ha b hb => ?_⟩
  obtain rfl : b = (q % N, shN D N (q % N) + q / N) := by simpa using hb
  rintro rfl
  have := (o2_in hN ha).2.2
  have h3 := Nat.div_add_mod q N
  rw [Nat.mul_comm] at h3
  have h4 : (shN D N (q % N) + q / N - shN D N (q % N)) * N + q % N < q := this
  rw [Nat.add_sub_cancel_left] at h4
  omega
theorem o1_len (D N : Nat) (hN : 1 ≤ N) : ∀ q, q ≤ (D / N + 1) * N → (o1To D N q).length = if q ≤ D / N * N then q else D / N * N + ((q - D / N * N) - (N - D % N))
 | 0, _ => by rw [if_pos (Nat.zero_le _)]; rfl
 | q + 1, hq => by
  have ih := o1_len D N hN q (by omega)
  have hd := Nat.div_add_mod q N
  have hm := Nat.mod_lt q hN
  have hr := Nat.mod_lt D hN
  rw [Nat.mul_comm] at hd
  rw [Nat.add_mul, Nat.one_mul] at hq
  by_cases h1 : q + 1 ≤ D / N * N
  ·have h2 : q / N < D / N := by
    refine Nat.lt_of_not_le fun h => ?_
    have := Nat.mul_le_mul_right N h
    omega
   rw [o1_up (Nat.lt_of_lt_of_le h2 (shN_le D N _).1), List.length_append, ih, if_pos (by omega), if_pos h1]
   rfl
  ·have h2 : q / N = D / N := by
    have h3 : D / N ≤ q / N := (Nat.le_div_iff_mul_le hN).2 (by omega)
    have h4 : q / N < D / N + 1 := Nat.div_lt_of_lt_mul (by rw [Nat.mul_comm, Nat.add_mul, Nat.one_mul]; omega)
    omega
   have h5 : D / N * N + q % N = q := by rw [← h2]; omega
   rw [if_neg h1]
   by_cases hc : N - D % N ≤ q % N
   ·rw [o1_up (by rw [h2]; unfold shN; rw [if_pos hc]; omega), List.length_append, ih, List.length_singleton]
    split <;> omega
   ·rw [o1_no (by rw [h2]; unfold shN; rw [if_neg hc]; omega), ih]
    split <;> omega
def ordL (D C N : Nat) : List (Nat × Nat) := o1To D N ((D / N + 1) * N) ++ o2To D N (C * N)
theorem o1_all (D N : Nat) (hN : 1 ≤ N) : (o1To D N ((D / N + 1) * N)).length = D := by
 have hr := Nat.mod_lt D hN
 have hd := Nat.div_add_mod D N
 rw [Nat.mul_comm] at hd
 rw [o1_len D N hN _ (Nat.le_refl _), Nat.add_mul, Nat.one_mul, if_neg (by omega)]
 omega
theorem ordL_len (D C N : Nat) (hN : 1 ≤ N) : (ordL D C N).length = D + C * N := by
 unfold ordL
 rw [List.length_append, o1_all D N hN, o2_len]
theorem ordL_nodup (D C N : Nat) (hN : 1 ≤ N) : (ordL D C N).Nodup := by
 refine List.nodup_append.2 ⟨o1_nodup hN _, o2_nodup hN _, fun a ha b hb => ?_⟩
 rintro rfl
 have h1 := (o1_in hN ha).2.1
 have h2 := (o2_in hN hb).2.1
 omega
theorem ordL_in {D C N : Nat} (hN : 1 ≤ N) {x : Nat × Nat} (h : x ∈ ordL D C N) : x.1 < N ∧ x.2 < shN D N x.1 + C := by
 unfold ordL at h
 rw [List.mem_append] at h
 rcases h with h | h
 ·have := o1_in hN h
  omega
 ·obtain ⟨h1, h2, h3⟩ := o2_in hN h
  refine ⟨h1, ?_⟩
  have h4 : x.2 - shN D N x.1 < C := by
   refine Nat.lt_of_not_le fun h5 => ?_
   have := Nat.mul_le_mul_right N h5
   omega
  omega
theorem qdiv {e b N : Nat} (h : b < N) : (e * N + b) / N = e ∧ (e * N + b) % N = b := by
 refine ⟨?_, ?_⟩
 ·rw [Nat.mul_comm, Nat.mul_add_div (by omega), Nat.div_eq_of_lt h]; omega
 ·rw [Nat.mul_comm, Nat.mul_add_mod, Nat.mod_eq_of_lt h]
theorem o1_last (D N : Nat) (hN : 1 ≤ N) : o1To D N (shN D N (N - 1) * N) = o1To D N ((D / N + 1) * N) := by
 have hr := Nat.mod_lt D hN
 by_cases h : D % N = 0
 ·have e : shN D N (N - 1) = D / N := by unfold shN; rw [if_neg (by omega)]
  rw [e]
  have hs : ∀ d, d ≤ N → o1To D N (D / N * N + d) = o1To D N (D / N * N) := by
   intro d
   induction d with
   | zero => intro _; rfl
   | succ d ih =>
    intro hd
    obtain ⟨h2, h3⟩ := qdiv (e := D / N) (b := d) (N := N) (by omega)
    rw [← Nat.add_assoc, o1_no (by rw [h2, h3]; unfold shN; rw [if_neg (by omega)]; omega), ih (by omega)]
  rw [Nat.add_mul, Nat.one_mul, hs N (Nat.le_refl _)]
 ·have e : shN D N (N - 1) = D / N + 1 := by unfold shN; rw [if_pos (by omega)]
  rw [e]
def bsum (L : List (Nat × Nat)) (wt : List Int) (b : Nat) : Nat → Int
 | 0 => 0
 | t + 1 => if (L.getD t (0, 0)).1 = b then bsum L wt b t + wt.getD t 0 else bsum L wt b t
theorem bsum_at {L : List (Nat × Nat)} {wt : List Int} {b t : Nat} (h : (L.getD t (0, 0)).1 = b) : bsum L wt b (t + 1) = bsum L wt b t + wt.getD t 0 := if_pos h
theorem bsum_no {L : List (Nat × Nat)} {wt : List Int} {b t : Nat} (h : ¬ (L.getD t (0, 0)).1 = b) : bsum L wt b (t + 1) = bsum L wt b t := if_neg h
theorem bsum_bd {L : List (Nat × Nat)} {wt : List Int} {b : Nat} (h : ∀ i, 0 ≤ wt.getD i 0 ∧ wt.getD i 0 ≤ 2) : ∀ t, 0 ≤ bsum L wt b t ∧ bsum L wt b t ≤ 2 * t
 | 0 => ⟨Int.le_refl _, by simp [bsum]⟩
 | t + 1 => by
  have ih := bsum_bd (L := L) (b := b) h t
  have := h t
  by_cases hc : (L.getD t (0, 0)).1 = b
  ·rw [bsum_at hc]; omega
  ·rw [bsum_no hc]; omega
structure WordOK (L : List (Nat × Nat)) (wt : List Int) (b t : Nat) (n : Nat) (wd : List Int) : Prop where
 len : wd.length = n
 sum : wd.sum = bsum L wt b t
 zero : ∀ i, t ≤ i → i < L.length → (L.getD i (0, 0)).1 = b → wd.getD (L.getD i (0, 0)).2 0 = 0
theorem sum_set {l : List Int} {i : Nat} (h : i < l.length) (v : Int) : (l.set i v).sum = l.sum - l.getD i 0 + v := by
 induction l generalizing i with
 | nil => exact absurd h (Nat.not_lt_zero i)
 | cons x l ih =>
  cases i with
  | zero => simp; omega
  | succ i =>
   have := ih (i := i) (by simpa using h)
   simp only [List.set_cons_succ, List.sum_cons, List.getD_cons_succ]
   omega
theorem getD_setNe {l : List Int} {i j : Nat} (v : Int) (h : i ≠ j) : (l.set i v).getD j 0 = l.getD j 0 := by
 rw [List.getD_eq_getElem?_getD, List.getElem?_set_ne h, ← List.getD_eq_getElem?_getD]
theorem WordOK.next {L : List (Nat × Nat)} {wt : List Int} {b t n : Nat} {wd : List Int} (h : WordOK L wt b t n wd) (hn : L.Nodup) (ht : t < L.length) (hb : (L.getD t (0, 0)).1 = b) (he : (L.getD t (0, 0)).2 < n) : WordOK L wt b (t + 1) n (wd.set (L.getD t (0, 0)).2 (wt.getD t 0)) := by
 refine ⟨by rw [List.length_set]; exact h.len, ?_, fun i hi hil hib => ?_⟩
 ·rw [sum_set (by rw [h.len]; exact he), h.zero t (Nat.le_refl _) ht hb, h.sum, bsum_at hb]; omega
 ·have hne : (L.getD t (0, 0)).2 ≠ (L.getD i (0, 0)).2 := fun e => by
   have e2 : L.getD t (0, 0) = L.getD i (0, 0) := Prod.ext (by rw [hb, hib]) e
   rw [List.getD_eq_getElem?_getD, List.getD_eq_getElem?_getD, List.getElem?_eq_getElem ht, List.getElem?_eq_getElem hil] at e2
   have := (List.getElem_inj hn).1 (Option.some.inj (congrArg some e2))
   omega
  rw [getD_setNe _ hne]
  exact h.zero i (by omega) hil hib
theorem WordOK.skip {L : List (Nat × Nat)} {wt : List Int} {b t n : Nat} {wd : List Int} (h : WordOK L wt b t n wd) (hb : ¬ (L.getD t (0, 0)).1 = b) : WordOK L wt b (t + 1) n wd :=
 ⟨h.len, by rw [bsum_no hb]; exact h.sum, fun i hi hil hib => h.zero i (by omega) hil hib⟩
theorem WordOK.start (L : List (Nat × Nat)) (wt : List Int) (b n : Nat) : WordOK L wt b 0 n (List.replicate n 0) := by
 refine ⟨List.length_replicate, ?_, fun i _ _ _ => ?_⟩
 ·show (List.replicate n (0 : Int)).sum = 0
  induction n with
  | zero => rfl
  | succ n ih => rw [List.replicate_succ, List.sum_cons, ih]; rfl
 ·rw [List.getD_eq_getElem?_getD, List.getElem?_replicate]
  split <;> rfl
end Go.Proofs.YtdnkljpnhmcnpaaGreat
/- The damage of a stream: plain values. -/
namespace Go.Proofs.YtdnkljpnhmcnpaaGreat
open Go.RowKit

def wtV (dm er : List Int) (i : Nat) : Int := if (i : Int) ∈ er then 1 else if (i : Int) ∈ dm then 2 else 0
theorem wtV_er {dm er : List Int} {i : Nat} (h : (i : Int) ∈ er) : wtV dm er i = 1 := if_pos h
theorem wtV_dm {dm er : List Int} {i : Nat} (h : ¬ (i : Int) ∈ er) (h2 : (i : Int) ∈ dm) : wtV dm er i = 2 := by unfold wtV; rw [if_neg h, if_pos h2]
theorem wtV_no {dm er : List Int} {i : Nat} (h : ¬ (i : Int) ∈ er) (h2 : ¬ (i : Int) ∈ dm) : wtV dm er i = 0 := by unfold wtV; rw [if_neg h, if_neg h2]
def wtL (n : Nat) (dm er : List Int) : List Int := (List.range n).map (wtV dm er)
theorem wtL_len (n : Nat) (dm er : List Int) : (wtL n dm er).length = n := by simp [wtL]
theorem wtL_at {n : Nat} {dm er : List Int} {i : Nat} (h : i < n) : (wtL n dm er).getD i 0 = wtV dm er i := by
 rw [List.getD_eq_getElem?_getD, List.getElem?_eq_getElem (by rw [wtL_len]; exact h)]
 simp [wtL]
theorem wtL_bd (n : Nat) (dm er : List Int) (i : Nat) : 0 ≤ (wtL n dm er).getD i 0 ∧ (wtL n dm er).getD i 0 ≤ 2 := by
 by_cases h : i < n
 ·rw [wtL_at h]
  unfold wtV
  split
  ·omega
  ·split <;> omega
 ·rw [List.getD_eq_getElem?_getD, List.getElem?_eq_none (by rw [wtL_len]; omega)]
  exact ⟨by decide, by decide⟩
def sumsL (L : List (Nat × Nat)) (wt : List Int) (N t : Nat) : List Int := (List.range N).map fun b => bsum L wt b t
theorem sumsL_len (L : List (Nat × Nat)) (wt : List Int) (N t : Nat) : (sumsL L wt N t).length = N := by simp [sumsL]
theorem sumsL_at {L : List (Nat × Nat)} {wt : List Int} {N t b : Nat} (h : b < N) : (sumsL L wt N t).getD b 0 = bsum L wt b t := by
 rw [List.getD_eq_getElem?_getD, List.getElem?_eq_getElem (by rw [sumsL_len]; exact h)]
 simp [sumsL]
theorem sumsL_zero (L : List (Nat × Nat)) (wt : List Int) (N : Nat) : sumsL L wt N 0 = List.replicate N 0 := by
 apply List.ext_getElem
 ·simp [sumsL]
 ·intro i h1 h2
  simp [sumsL, bsum]
theorem sumsL_step {L : List (Nat × Nat)} {wt : List Int} {N t b : Nat} (hb : (L.getD t (0, 0)).1 = b) : sumsL L wt N (t + 1) = (sumsL L wt N t).set b (bsum L wt b t + wt.getD t 0) := by
 apply List.ext_getElem
 ·simp [sumsL]
 ·intro i h1 h2
  rw [List.getElem_set]
  by_cases h : b = i
  ·subst h
   rw [if_pos rfl]
   simp only [sumsL, List.getElem_map, List.getElem_range]
   exact bsum_at hb
  ·rw [if_neg h]
   simp only [sumsL, List.getElem_map, List.getElem_range]
   exact bsum_no (by rw [hb]; exact h)
theorem sumsL_none {L : List (Nat × Nat)} {wt : List Int} {N t : Nat} (h0 : wt.getD t 0 = 0) : sumsL L wt N (t + 1) = sumsL L wt N t := by
 apply List.ext_getElem
 ·simp [sumsL]
 ·intro i h1 h2
  simp only [sumsL, List.getElem_map, List.getElem_range]
  by_cases h : (L.getD t (0, 0)).1 = i
  ·rw [bsum_at h, h0]; omega
  ·exact bsum_no h
def sdOK (D C N : Nat) (dm er : List Int) : Prop := ∀ b, b < N → bsum (ordL D C N) (wtL (D + C * N) dm er) b (D + C * N) ≤ (C : Int)
end Go.Proofs.YtdnkljpnhmcnpaaGreat
/- The size of a symbol, on both sides. -/
namespace Go.Proofs.YtdnkljpnhmcnpaaGreat
open Go.RowKit

def colsV (K co n : Int) : Int := if K = 2 then 15 + 11 * (co + 2) else n
theorem colsV_st {K co n : Int} (h : K = 2) : colsV K co n = 15 + 11 * (co + 2) := if_pos h
theorem colsV_mx {K co n : Int} (h : ¬ K = 2) : colsV K co n = n := if_neg h
theorem rowWidth_c (n : Int) (w : World) (hn : -1000 ≤ n ∧ n ≤ 1000) : Calls Tryz.prog 249 #[.int .i64 n] w fun e w' => e = .returned (.int .i64 (15 + 11 * n)) ∧ Ext w w' := by
 go_enter Tryz.func249, Tryz.ntmps249
 go_wp2
 go_ret
 exact ⟨ret_int (by omega), eX⟩
abbrev fam8 (nm : ByteArray) (K p k q : Int) (ps : Option Addr) (ns cs : Nat) (co : Int) (pl : Option Addr) (nl cl : Nat) : Array Value := #[.string nm, .int .i64 K, .int .i64 p, .int .i64 k, .int .i64 q, .slice ps ns cs, .int .i64 co, .slice pl nl cl]
set_option maxRecDepth 100000 in
theorem kind_c (nm : ByteArray) (K p k q co : Int) (ps pl : Option Addr) (ns cs nl cl : Nat) (w : World) :
  Calls Tryz.prog 65 #[vFam nm K p k q ps ns cs co pl nl cl] w fun e w' => e = .returned (if K = 2 then .iface 170 (vFam nm K p k q ps ns cs co pl nl cl) else .iface 171 (vFam nm K p k q ps ns cs co pl nl cl)) ∧ Ext w w' := by
 have hx0 : Ext w (w.alloc (.cells (fam8 nm K p k q ps ns cs co pl nl cl) 55)) := (Ext.refl w).alloc _
 by_cases hK : K = 2
 ·rw [if_pos hK]
  subst hK
  go_enter Tryz.func65, Tryz.ntmps65
  go_wp2
  go_ret
  exact ⟨rfl, hx0⟩
 ·rw [if_neg hK]
  have hKb : (K == 2) = false := by simpa using hK
  go_enter Tryz.func65, Tryz.ntmps65
  go_wp2
  go_ret
  exact ⟨rfl, hx0⟩
set_option maxRecDepth 100000 in
theorem stackedCols_c (nm : ByteArray) (K p k q co n : Int) (ps pl : Option Addr) (ns cs nl cl : Nat) (w : World) (hco : 0 ≤ co ∧ co ≤ 100) :
  Calls Tryz.prog 248 #[vFam nm K p k q ps ns cs co pl nl cl, .int .i64 n] w fun e w' => e = .returned (.int .i64 (15 + 11 * (co + 2))) ∧ Ext w w' := by
 have hx0 : Ext w (w.alloc (.cells (fam8 nm K p k q ps ns cs co pl nl cl) 170)) := (Ext.refl w).alloc _
 go_enter Tryz.func248, Tryz.ntmps248
 go_wp2_with (go_at_call 249; (with_reducible refine (rowWidth_c _ _ (by omega)).mono ?_); rintro e w1 ⟨rfl, hx1⟩)
 go_ret
 exact ⟨rfl, hx0.trans hx1⟩
set_option maxRecDepth 100000 in
theorem matrixCols_c (nm : ByteArray) (K p k q co n : Int) (ps pl : Option Addr) (ns cs nl cl : Nat) (w : World) :
  Calls Tryz.prog 250 #[vFam nm K p k q ps ns cs co pl nl cl, .int .i64 n] w fun e w' => e = .returned (.int .i64 n) ∧ Ext w w' := by
 have hx0 : Ext w (w.alloc (.cells (fam8 nm K p k q ps ns cs co pl nl cl) 171)) := (Ext.refl w).alloc _
 go_enter Tryz.func250, Tryz.ntmps250
 go_wp2
 go_ret
 exact ⟨rfl, hx0⟩
set_option maxRecDepth 100000 in
theorem l18Cols_c (nm : ByteArray) (K p k q co n : Int) (ps pl : Option Addr) (ns cs nl cl : Nat) (w : World) (hco : 0 ≤ co ∧ co ≤ 100) (hK : K = 1 ∨ K = 2) :
  Calls Tryz.prog 57 #[vFam nm K p k q ps ns cs co pl nl cl, .int .i64 n] w fun e w' => e = .returned (.int .i64 (colsV K co n)) ∧ Ext w w' := by
 have hx0 : Ext w (w.alloc (.cells (fam8 nm K p k q ps ns cs co pl nl cl) 55)) := (Ext.refl w).alloc _
 rcases hK with rfl | rfl
 ·rw [colsV_mx (by decide)]
  go_enter Tryz.func57, Tryz.ntmps57
  go_wp2
  go_ret
  exact ⟨rfl, hx0⟩
 ·rw [colsV_st rfl]
  go_enter Tryz.func57, Tryz.ntmps57
  go_wp2
  go_ret
  exact ⟨rfl, hx0⟩
theorem mCols_m (v : Array Value) (w : World) : (Go.method 379 171 (.agg v) "loop.example/g00879/impl.cols").run Tryz.prog w = .ok (250, .agg v) w := by kernel_rfl
theorem sCols_m (v : Array Value) (w : World) : (Go.method 379 170 (.agg v) "loop.example/g00879/impl.cols").run Tryz.prog w = .ok (248, .agg v) w := by kernel_rfl
end Go.Proofs.YtdnkljpnhmcnpaaGreat
/- What BoundedDamage tells: plain values. -/
namespace Go.Proofs.YtdnkljpnhmcnpaaGreat
open Go.RowKit

structure Fm where
 nm : ByteArray
 K : Int
 p : Int
 k : Int
 q : Int
 co : Int
 ss : List Int
 ls : List Int
structure Pr where
 p : Int
 t : Int
 q : Int
 b : Int
 d : Int
 l : Int
def prOK (x : Pr) : Prop := IsPrint x.p x.t x.q x.b x.d x.l
noncomputable def bdLo (f : Fm) (n l : Int) : Int := loC f.nm f.K f.p f.k f.q f.ss f.co f.ls n l
def bdR (n : Int) : Nat := n.toNat
def bdCols (f : Fm) (n : Int) : Nat := (colsV f.K f.co n).toNat
noncomputable def bdTm (f : Fm) (n : Int) (x : Pr) (ds : List Dam) : Int := tmC x.p x.t x.q x.b x.d x.l (bdR n) (bdCols f n) ds
noncomputable def bdL (f : Fm) (n : Int) (x : Pr) (ds : List Dam) : List (Int × Int) := tmTo x.p x.t x.q ds (bdCols f n) (bdR n * bdCols f n)
open Classical in
noncomputable def bdC (f : Fm) (n l : Int) (x : Pr) (ds : List Dam) : Int := if prOK x then if bdLo f n l = 0 then bdTm f n x ds else bdLo f n l else 1
def bdW (f : Fm) : Nat := fW (fldSize f.p f.k)
noncomputable def bdSd (f : Fm) (n l : Int) (E : List Int) : Prop := sdOK (lyD f.K f.p f.k f.co n (f.ls.getD l.toNat 0)).toNat (lyC f.K f.p f.k f.co n (f.ls.getD l.toNat 0)).toNat (lyN f.K f.p f.k f.co n).toNat E []
noncomputable def bdP (f : Fm) (n l : Int) (x : Pr) (ds : List Dam) : Prop :=
 (f.K = 2 ∧ 2 * (stB (bdL f n x ds) f.co.toNat (bdR n) : Int) < ((bdR n / 3 : Nat) : Int) ∧ bdSd f n l (stE (bdL f n x ds) f.co.toNat (bdR n * f.co.toNat))) ∨
 (f.K ≠ 2 ∧ okM (bdL f n x ds) (bdR n) ∧ bdSd f n l (teE (bdL f n x ds) (dpL (bdR n)) (bdW f) ((dpL (bdR n)).length / bdW f)))
open Classical in
noncomputable def bdB (f : Fm) (n l : Int) (x : Pr) (ds : List Dam) : Bool := decide (bdC f n l x ds = 0 ∧ bdP f n l x ds)
def BdE (f : Fm) (n l : Int) (x : Pr) (ds : List Dam) (e : Ending) : Prop := e = .returned (.tuple #[.bool (bdB f n l x ds), .int .i64 (bdC f n l x ds)])
open Classical in
theorem bd_1 {f : Fm} {n l : Int} {x : Pr} {ds : List Dam} (h : ¬ prOK x) : bdC f n l x ds = 1 ∧ bdB f n l x ds = false := by
 have e : bdC f n l x ds = 1 := if_neg h
 exact ⟨e, decide_eq_false fun h2 => by rw [e] at h2; exact absurd h2.1 (by decide)⟩
open Classical in
theorem bd_2 {f : Fm} {n l : Int} {x : Pr} {ds : List Dam} (h : prOK x) (h2 : ¬ bdLo f n l = 0) : bdC f n l x ds = bdLo f n l ∧ bdB f n l x ds = false := by
 have e : bdC f n l x ds = bdLo f n l := by unfold bdC; rw [if_pos h, if_neg h2]
 exact ⟨e, decide_eq_false fun h3 => h2 (by rw [← e]; exact h3.1)⟩
open Classical in
theorem bd_3 {f : Fm} {n l : Int} {x : Pr} {ds : List Dam} (h : prOK x) (h2 : bdLo f n l = 0) (h3 : ¬ bdTm f n x ds = 0) : bdC f n l x ds = bdTm f n x ds ∧ bdB f n l x ds = false := by
 have e : bdC f n l x ds = bdTm f n x ds := by unfold bdC; rw [if_pos h, if_pos h2]
 exact ⟨e, decide_eq_false fun h4 => h3 (by rw [← e]; exact h4.1)⟩
open Classical in
theorem bd_4 {f : Fm} {n l : Int} {x : Pr} {ds : List Dam} (h : prOK x) (h2 : bdLo f n l = 0) (h3 : bdTm f n x ds = 0) : bdC f n l x ds = 0 ∧ (bdP f n l x ds → bdB f n l x ds = true) ∧ (¬ bdP f n l x ds → bdB f n l x ds = false) := by
 have e : bdC f n l x ds = 0 := by unfold bdC; rw [if_pos h, if_pos h2]; exact h3
 exact ⟨e, fun h4 => decide_eq_true ⟨e, h4⟩, fun h4 => decide_eq_false fun h5 => h4 h5.2⟩
theorem bd_lay {f : Fm} {n l : Int} (h : bdLo f n l = 0) : ∃ D C N R cO Cc : Nat,
  lyD f.K f.p f.k f.co n (f.ls.getD l.toNat 0) = D ∧ lyC f.K f.p f.k f.co n (f.ls.getD l.toNat 0) = C ∧ lyN f.K f.p f.k f.co n = N ∧ n = R ∧ f.co = cO ∧ colsV f.K f.co n = Cc ∧
  layOK f.p f.k f.q D C N ∧ R ≤ 41 ∧ Cc ≤ 400 ∧
  ((f.K = 1 ∧ f.p = 2 ∧ fldOK 2 f.k f.q ∧ cO = 0 ∧ (17 ≤ R ∧ R ≤ 41) ∧ R % 4 = 1 ∧ D + C * N = (dpL R).length / fW (fldSize 2 f.k)) ∨ (f.K = 2 ∧ (1 ≤ cO ∧ cO ≤ 8) ∧ D + C * N = R * cO)) := by
 obtain ⟨hF, ⟨hm, hl0, hl1⟩, hlay⟩ := loC_ok h
 obtain ⟨i, hi, e0⟩ := List.getElem_of_mem hm
 have e1 : f.ss.getD i 0 = n := by rw [List.getD_eq_getElem?_getD, List.getElem?_eq_getElem hi, e0]; rfl
 have hsz := fam_size hF hi
 rw [e1] at hsz
 have hb := hlay
 obtain ⟨⟨hN1, hN2⟩, ⟨hD1, hD2⟩, ⟨hC1, hC2⟩, -, -, -⟩ := id hlay
 have hT : lyD f.K f.p f.k f.co n (f.ls.getD l.toNat 0) + lyN f.K f.p f.k f.co n * lyC f.K f.p f.k f.co n (f.ls.getD l.toNat 0) = elV f.K f.p f.k f.co n := by unfold lyD; omega
 obtain ⟨D, hD⟩ : ∃ D : Nat, lyD f.K f.p f.k f.co n (f.ls.getD l.toNat 0) = D := ⟨(lyD f.K f.p f.k f.co n (f.ls.getD l.toNat 0)).toNat, by omega⟩
 obtain ⟨C, hC⟩ : ∃ C : Nat, lyC f.K f.p f.k f.co n (f.ls.getD l.toNat 0) = C := ⟨(lyC f.K f.p f.k f.co n (f.ls.getD l.toNat 0)).toNat, by omega⟩
 obtain ⟨N, hN⟩ : ∃ N : Nat, lyN f.K f.p f.k f.co n = N := ⟨(lyN f.K f.p f.k f.co n).toNat, by omega⟩
 rw [hD, hC, hN] at hlay hT
 have hCN : ((C * N : Nat) : Int) = (N : Int) * (C : Int) := by rw [Int.natCast_mul, Int.mul_comm]
 rcases hsz with ⟨hK, hs⟩ | ⟨hK, hs, hc⟩
 ·obtain ⟨R, hR⟩ : ∃ R : Nat, n = R := ⟨n.toNat, by have := hs.1; omega⟩
  have hk : f.p = 2 ∧ fldOK f.p f.k f.q ∧ f.co = 0 := by
   rcases hF.2.2.2.2 with ⟨_, e2, e3, e4, _⟩ | ⟨e, _⟩
   ·exact ⟨e2, e3, e4⟩
   ·omega
  obtain ⟨hp, hfl, hco⟩ := hk
  rw [hp] at hfl
  have hel : elV f.K f.p f.k f.co n = (((dpL R).length / fW (fldSize 2 f.k) : Nat) : Int) := by rw [hK, hR, hp, elV1, Int.natCast_ediv]
  rw [hel] at hT
  have hs1 := hs.1
  have hs2 := hs.2
  refine ⟨D, C, N, R, 0, R, hD, hC, hN, hR, by rw [hco]; rfl, by rw [hK, colsV_mx (by decide), hR], hlay, by omega, by omega, .inl ⟨hK, hp, hfl, rfl, by omega, by omega, by omega⟩⟩
 ·obtain ⟨R, hR⟩ : ∃ R : Nat, n = R := ⟨n.toNat, by omega⟩
  obtain ⟨cO, hO⟩ : ∃ cO : Nat, f.co = cO := ⟨f.co.toNat, by omega⟩
  have hel : elV f.K f.p f.k f.co n = ((R * cO : Nat) : Int) := by rw [hK, hR, hO, elV2, Int.natCast_mul]
  rw [hel] at hT
  refine ⟨D, C, N, R, cO, 15 + 11 * (cO + 2), hD, hC, hN, hR, hO, by rw [hK, colsV_st rfl, hO]; omega, hlay, by omega, by omega, .inr ⟨hK, by omega, by omega⟩⟩
end Go.Proofs.YtdnkljpnhmcnpaaGreat
