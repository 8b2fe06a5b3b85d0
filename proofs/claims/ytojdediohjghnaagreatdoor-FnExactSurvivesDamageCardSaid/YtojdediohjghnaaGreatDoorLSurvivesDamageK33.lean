/- The order of a stream over its blocks: plain laws. -/
import Derived.Test.YtojdediohjghnaaGreatDoorLSurvivesDamageK18
import Derived.Test.YtojdediohjghnaaGreatDoorLSurvivesDamageK32
import Derived.Test.YtojdediohjghnaaGreatDoorLSurvivesDamageK19
set_option linter.unusedVariables false
set_option linter.unusedSimpArgs false
namespace Go.Proofs.YtojdediohjghnaaGreatDoor
open Go.RowKit

def shN (D N b : Nat) : Nat := if N - D % N ≤ b then D / N + 1 else D / N
theorem shV_nat {D N b : Nat} (hN : 1 ≤ N) : shV D N b = (shN D N b : Int) := by
 have h : D % N < N := Nat.mod_lt _ hN
 unfold shV shN
 have e1 : ((D : Int) / (N : Int)) = ((D / N : Nat) : Int) := (Int.natCast_ediv _ _).symm
 have e2 : ((D : Int) % (N : Int)) = ((D % N : Nat) : Int) := (Int.natCast_emod _ _).symm
 rw [e1, e2]
 by_cases h2 : N - D % N ≤ b
 ·rw [if_pos h2, if_pos (by omega)]; rfl
 ·rw [if_neg h2, if_neg (by omega)]
theorem shN_le (D N b : Nat) : D / N ≤ shN D N b ∧ shN D N b ≤ D / N + 1 := by unfold shN; split <;> omega
def o1To (D N : Nat) : Nat → List (Nat × Nat)
 | 0 => []
 | q + 1 => if q / N < shN D N (q % N) then o1To D N q ++ [(q % N, q / N)] else o1To D N q
theorem o1_up {D N q : Nat} (h : q / N < shN D N (q % N)) : o1To D N (q + 1) = o1To D N q ++ [(q % N, q / N)] := if_pos h
theorem o1_no {D N q : Nat} (h : ¬ q / N < shN D N (q % N)) : o1To D N (q + 1) = o1To D N q := if_neg h
def o2To (D N : Nat) : Nat → List (Nat × Nat)
 | 0 => []
 | q + 1 => o2To D N q ++ [(q % N, shN D N (q % N) + q / N)]
theorem o2_up (D N q : Nat) : o2To D N (q + 1) = o2To D N q ++ [(q % N, shN D N (q % N) + q / N)] := rfl
theorem o2_len (D N : Nat) : ∀ q, (o2To D N q).length = q
 | 0 => rfl
 | q + 1 => by rw [o2_up, List.length_append, o2_len D N q]; rfl
theorem o1_in {D N : Nat} (hN : 1 ≤ N) : ∀ {q : Nat} {x : Nat × Nat}, x ∈ o1To D N q → x.1 < N ∧ x.2 < shN D N x.1 ∧ x.2 * N + x.1 < q
 | 0, x, h => by cases h
 | q + 1, x, h => by
  by_cases hc : q / N < shN D N (q % N)
  ·rw [o1_up hc, List.mem_append] at h
   rcases h with h | h
   ·have := o1_in hN h
    omega
   ·obtain rfl : x = (q % N, q / N) := by simpa using h
    have := Nat.div_add_mod q N
    have h2 := Nat.mod_lt q hN
    rw [Nat.mul_comm] at this
    exact ⟨h2, hc, by show q / N * N + q % N < q + 1; omega⟩
  ·rw [o1_no hc] at h
   have := o1_in hN h
   omega
theorem o2_in {D N : Nat} (hN : 1 ≤ N) : ∀ {q : Nat} {x : Nat × Nat}, x ∈ o2To D N q → x.1 < N ∧ shN D N x.1 ≤ x.2 ∧ (x.2 - shN D N x.1) * N + x.1 < q
 | 0, x, h => by cases h
 | q + 1, x, h => by
  rw [o2_up, List.mem_append] at h
  rcases h with h | h
  ·have := o2_in hN h
   omega
  ·obtain rfl : x = (q % N, shN D N (q % N) + q / N) := by simpa using h
   have := Nat.div_add_mod q N
   have h2 := Nat.mod_lt q hN
   rw [Nat.mul_comm] at this
   refine ⟨h2, Nat.le_add_right _ _, ?_⟩
   show (shN D N (q % N) + q / N - shN D N (q % N)) * N + q % N < q + 1
   rw [Nat.add_sub_cancel_left]
   omega
theorem o1_nodup {D N : Nat} (hN : 1 ≤ N) : ∀ q, (o1To D N q).Nodup
 | 0 => List.nodup_nil
 | q + 1 => by
  by_cases hc : q / N < shN D N (q % N)
  ·rw [o1_up hc]
   refine List.nodup_append.2 ⟨o1_nodup hN q, by simp, fun a ha b hb => ?_⟩
   obtain rfl : b = (q % N, q / N) := by simpa using hb
   rintro rfl
   have := (o1_in hN ha).2.2
   have h3 := Nat.div_add_mod q N
   rw [Nat.mul_comm] at h3
   have h4 : q / N * N + q % N < q := this
   omega
  ·rw [o1_no hc]; exact o1_nodup hN q
theorem o2_nodup {D N : Nat} (hN : 1 ≤ N) : ∀ q, (o2To D N q).Nodup
 | 0 => List.nodup_nil
 | q + 1 => by
  rw [o2_up]
  refine List.nodup_append.2 ⟨o2_nodup hN q, by simp, fun a ha b hb => ?_⟩
  obtain rfl : b = (q % N, shN D N (q % N) + q / N) := by simpa using hb
  rintro rfl
  have := (o2_in hN ha).2.2
  have h3 := Nat.div_add_mod q N
  rw [Nat.mul_comm] at h3
  have h4 : (shN D N (q % N) + q / N - shN D N (q % N)) * N + q % N < q := this
  rw [Nat.add_sub_cancel_left] at h4
  omega
theorem o1_len (D N : Nat) (hN : 1 ≤ N) : ∀ q, q ≤ (D / N + 1) * N → (o1To D N q).length = if q ≤ D / N * N then q else D / N * N + ((q - D / N * N) - (N - D % N))
 | 0, _ => by rw [if_pos (Nat.zero_le _)]; rfl
 | q + 1, hq => by
  have ih := o1_len D N hN q (by omega)
  have hd := Nat.div_add_mod q N
  have hm := Nat.mod_lt q hN
  have hr := Nat.mod_lt D hN
  rw [Nat.mul_comm] at hd
  rw [Nat.add_mul, Nat.one_mul] at hq
  by_cases h1 : q + 1 ≤ D / N * N
  ·have h2 : q / N < D / N := by
    refine Nat.lt_of_not_le fun h => ?_
    have := Nat.mul_le_mul_right N h
    omega
   rw [o1_up (Nat.lt_of_lt_of_le h2 (shN_le D N _).1), List.length_append, ih, if_pos (by omega), if_pos h1]
   rfl
  ·have h2 : q / N = D / N := by
    have h3 : D / N ≤ q / N := (Nat.le_div_iff_mul_le hN).2 (by omega)
    have h4 : q / N < D / N + 1 := Nat.div_lt_of_lt_mul (by rw [Nat.mul_comm, Nat.add_mul, Nat.one_mul]; omega)
    omega
   have h5 : D / N * N + q % N = q := by rw [← h2]; omega
   rw [if_neg h1]
   by_cases hc : N - D % N ≤ q % N
   ·rw [o1_up (by rw [h2]; unfold shN; rw [if_pos hc]; omega), List.length_append, ih, List.length_singleton]
    split <;> omega
   ·rw [o1_no (by rw [h2]; unfold shN; rw [if_neg hc]; omega), ih]
    split <;> omega
def ordL (D C N : Nat) : List (Nat × Nat) := o1To D N ((D / N + 1) * N) ++ o2To D N (C * N)
theorem o1_all (D N : Nat) (hN : 1 ≤ N) : (o1To D N ((D / N + 1) * N)).length = D := by
 have hr := Nat.mod_lt D hN
 have hd := Nat.div_add_mod D N
 rw [Nat.mul_comm] at hd
 rw [o1_len D N hN _ (Nat.le_refl _), Nat.add_mul, Nat.one_mul, if_neg (by omega)]
 omega
theorem ordL_len (D C N : Nat) (hN : 1 ≤ N) : (ordL D C N).length = D + C * N := by
 unfold ordL
 rw [List.length_append, o1_all D N hN, o2_len]
theorem ordL_nodup (D C N : Nat) (hN : 1 ≤ N) : (ordL D C N).Nodup := by
 refine List.nodup_append.2 ⟨o1_nodup hN _, o2_nodup hN _, fun a ha b hb => ?_⟩
 rintro rfl
 have h1 := (o1_in hN ha).2.1
 have h2 := (o2_in hN hb).2.1
 omega
theorem ordL_in {D C N : Nat} (hN : 1 ≤ N) {x : Nat × Nat} (h : x ∈ ordL D C N) : x.1 < N ∧ x.2 < shN D N x.1 + C := by
 unfold ordL at h
 rw [List.mem_append] at h
 rcases h with h | h
 ·have := o1_in hN h
  omega
 ·obtain ⟨h1, h2, h3⟩ := o2_in hN h
  refine ⟨h1, ?_⟩
  have h4 : x.2 - shN D N x.1 < C := by
   refine Nat.lt_of_not_le fun h5 => ?_
   have := Nat.mul_le_mul_right N h5
   omega
  omega
theorem qdiv {e b N : Nat} (h : b < N) : (e * N + b) / N = e ∧ (e * N + b) % N = b := by
 refine ⟨?_, ?_⟩
 ·rw [Nat.mul_comm, Nat.mul_add_div (by omega), Nat.div_eq_of_lt h]; omega
 ·rw [Nat.mul_comm, Nat.mul_add_mod, Nat.mod_eq_of_lt h]
theorem o1_last (D N : Nat) (hN : 1 ≤ N) : o1To D N (shN D N (N - 1) * N) = o1To D N ((D / N + 1) * N) := by
 have hr := Nat.mod_lt D hN
 by_cases h : D % N = 0
 ·have e : shN D N (N - 1) = D / N := by unfold shN; rw [if_neg (by omega)]
  rw [e]
  have hs : ∀ d, d ≤ N → o1To D N (D / N * N + d) = o1To D N (D / N * N) := by
   intro d
   induction d with
   | zero => intro _; rfl
   | succ d ih =>
    intro hd
    obtain ⟨h2, h3⟩ := qdiv (e := D / N) (b := d) (N := N) (by omega)
    rw [← Nat.add_assoc, o1_no (by rw [h2, h3]; unfold shN; rw [if_neg (by omega)]; omega), ih (by omega)]
  rw [Nat.add_mul, Nat.one_mul, hs N (Nat.le_refl _)]
 ·have e : shN D N (N - 1) = D / N + 1 := by unfold shN; rw [if_pos (by omega)]
  rw [e]
def bsum (L : List (Nat × Nat)) (wt : List Int) (b : Nat) : Nat → Int
 | 0 => 0
 | t + 1 => if (L.getD t (0, 0)).1 = b then bsum L wt b t + wt.getD t 0 else bsum L wt b t
theorem bsum_at {L : List (Nat × Nat)} {wt : List Int} {b t : Nat} (h : (L.getD t (0, 0)).1 = b) : bsum L wt b (t + 1) = bsum L wt b t + wt.getD t 0 := if_pos h
theorem bsum_no {L : List (Nat × Nat)} {wt : List Int} {b t : Nat} (h : ¬ (L.getD t (0, 0)).1 = b) : bsum L wt b (t + 1) = bsum L wt b t := if_neg h
theorem bsum_bd {L : List (Nat × Nat)} {wt : List Int} {b : Nat} (h : ∀ i, 0 ≤ wt.getD i 0 ∧ wt.getD i 0 ≤ 2) : ∀ t, 0 ≤ bsum L wt b t ∧ bsum L wt b t ≤ 2 * t
 | 0 => ⟨Int.le_refl _, by simp [bsum]⟩
 | t + 1 => by
  have ih := bsum_bd (L := L) (b := b) h t
  have := h t
  by_cases hc : (L.getD t (0, 0)).1 = b
  ·rw [bsum_at hc]; omega
  ·rw [bsum_no hc]; omega
structure WordOK (L : List (Nat × Nat)) (wt : List Int) (b t : Nat) (n : Nat) (wd : List Int) : Prop where
 len : wd.length = n
 sum : wd.sum = bsum L wt b t
 zero : ∀ i, t ≤ i → i < L.length → (L.getD i (0, 0)).1 = b → wd.getD (L.getD i (0, 0)).2 0 = 0
theorem sum_set {l : List Int} {i : Nat} (h : i < l.length) (v : Int) : (l.set i v).sum = l.sum - l.getD i 0 + v := by
 induction l generalizing i with
 | nil => exact absurd h (Nat.not_lt_zero i)
 | cons x l ih =>
  cases i with
  | zero => simp; omega
  | succ i =>
   have := ih (i := i) (by simpa using h)
   simp only [List.set_cons_succ, List.sum_cons, List.getD_cons_succ]
   omega
theorem getD_setNe {l : List Int} {i j : Nat} (v : Int) (h : i ≠ j) : (l.set i v).getD j 0 = l.getD j 0 := by
 rw [List.getD_eq_getElem?_getD, List.getElem?_set_ne h, ← List.getD_eq_getElem?_getD]
theorem WordOK.next {L : List (Nat × Nat)} {wt : List Int} {b t n : Nat} {wd : List Int} (h : WordOK L wt b t n wd) (hn : L.Nodup) (ht : t < L.length) (hb : (L.getD t (0, 0)).1 = b) (he : (L.getD t (0, 0)).2 < n) : WordOK L wt b (t + 1) n (wd.set (L.getD t (0, 0)).2 (wt.getD t 0)) := by
 refine ⟨by rw [List.length_set]; exact h.len, ?_, fun i hi hil hib => ?_⟩
 ·rw [sum_set (by rw [h.len]; exact he), h.zero t (Nat.le_refl _) ht hb, h.sum, bsum_at hb]; omega
 ·have hne : (L.getD t (0, 0)).2 ≠ (L.getD i (0, 0)).2 := fun e => by
   have e2 : L.getD t (0, 0) = L.getD i (0, 0) := Prod.ext (by rw [hb, hib]) e
   rw [List.getD_eq_getElem?_getD, List.getD_eq_getElem?_getD, List.getElem?_eq_getElem ht, List.getElem?_eq_getElem hil] at e2
   have := (List.getElem_inj hn).1 (Option.some.inj (congrArg some e2))
   omega
  rw [getD_setNe _ hne]
  exact h.zero i (by omega) hil hib
theorem WordOK.skip {L : List (Nat × Nat)} {wt : List Int} {b t n : Nat} {wd : List Int} (h : WordOK L wt b t n wd) (hb : ¬ (L.getD t (0, 0)).1 = b) : WordOK L wt b (t + 1) n wd :=
 ⟨h.len, by rw [bsum_no hb]; exact h.sum, fun i hi hil hib => h.zero i (by omega) hil hib⟩
theorem WordOK.start (L : List (Nat × Nat)) (wt : List Int) (b n : Nat) : WordOK L wt b 0 n (List.replicate n 0) := by
 refine ⟨List.length_replicate, ?_, fun i _ _ _ => ?_⟩
 ·show (List.replicate n (0 : Int)).sum = 0
  induction n with
  | zero => rfl
  | succ n ih => rw [List.replicate_succ, List.sum_cons, ih]; rfl
 ·rw [List.getD_eq_getElem?_getD, List.getElem?_replicate]
  split <;> rfl
end Go.Proofs.YtojdediohjghnaaGreatDoor
/- The damage of a stream: plain values. -/
namespace Go.Proofs.YtojdediohjghnaaGreatDoor
open Go.RowKit

def wtV (dm er : List Int) (i : Nat) : Int := if (i : Int) ∈ er then 1 else if (i : Int) ∈ dm then 2 else 0
theorem wtV_er {dm er : List Int} {i : Nat} (h : (i : Int) ∈ er) : wtV dm er i = 1 := if_pos h
theorem wtV_dm {dm er : List Int} {i : Nat} (h : ¬ (i : Int) ∈ er) (h2 : (i : Int) ∈ dm) : wtV dm er i = 2 := by unfold wtV; rw [if_neg h, if_pos h2]
theorem wtV_no {dm er : List Int} {i : Nat} (h : ¬ (i : Int) ∈ er) (h2 : ¬ (i : Int) ∈ dm) : wtV dm er i = 0 := by unfold wtV; rw [if_neg h, if_neg h2]
def wtL (n : Nat) (dm er : List Int) : List Int := (List.range n).map (wtV dm er)
theorem wtL_len (n : Nat) (dm er : List Int) : (wtL n dm er).length = n := by simp [wtL]
theorem wtL_at {n : Nat} {dm er : List Int} {i : Nat} (h : i < n) : (wtL n dm er).getD i 0 = wtV dm er i := by
 rw [List.getD_eq_getElem?_getD, List.getElem?_eq_getElem (by rw [wtL_len]; exact h)]
 simp [wtL]
theorem wtL_bd (n : Nat) (dm er : List Int) (i : Nat) : 0 ≤ (wtL n dm er).getD i 0 ∧ (wtL n dm er).getD i 0 ≤ 2 := by
 by_cases h : i < n
 ·rw [wtL_at h]
  unfold wtV
  split
  ·omega
  ·split <;> omega
 ·rw [List.getD_eq_getElem?_getD, List.getElem?_eq_none (by rw [wtL_len]; omega)]
  exact ⟨by decide, by decide⟩
def sumsL (L : List (Nat × Nat)) (wt : List Int) (N t : Nat) : List Int := (List.range N).map fun b => bsum L wt b t
theorem sumsL_len (L : List (Nat × Nat)) (wt : List Int) (N t : Nat) : (sumsL L wt N t).length = N := by simp [sumsL]
theorem sumsL_at {L : List (Nat × Nat)} {wt : List Int} {N t b : Nat} (h : b < N) : (sumsL L wt N t).getD b 0 = bsum L wt b t := by
 rw [List.getD_eq_getElem?_getD, List.getElem?_eq_getElem (by rw [sumsL_len]; exact h)]
 simp [sumsL]
theorem sumsL_zero (L : List (Nat × Nat)) (wt : List Int) (N : Nat) : sumsL L wt N 0 = List.replicate N 0 := by
 apply List.ext_getElem
 ·simp [sumsL]
 ·intro i h1 h2
  simp [sumsL, bsum]
theorem sumsL_step {L : List (Nat × Nat)} {wt : List Int} {N t b : Nat} (hb : (L.getD t (0, 0)).1 = b) : sumsL L wt N (t + 1) = (sumsL L wt N t).set b (bsum L wt b t + wt.getD t 0) := by
 apply List.ext_getElem
 ·simp [sumsL]
 ·intro i h1 h2
  rw [List.getElem_set]
  by_cases h : b = i
  ·subst h
   rw [if_pos rfl]
   simp only [sumsL, List.getElem_map, List.getElem_range]
   exact bsum_at hb
  ·rw [if_neg h]
   simp only [sumsL, List.getElem_map, List.getElem_range]
   exact bsum_no (by rw [hb]; exact h)
theorem sumsL_none {L : List (Nat × Nat)} {wt : List Int} {N t : Nat} (h0 : wt.getD t 0 = 0) : sumsL L wt N (t + 1) = sumsL L wt N t := by
 apply List.ext_getElem
 ·simp [sumsL]
 ·intro i h1 h2
  simp only [sumsL, List.getElem_map, List.getElem_range]
  by_cases h : (L.getD t (0, 0)).1 = i
  ·rw [bsum_at h, h0]; omega
  ·exact bsum_no h
def sdOK (D C N : Nat) (dm er : List Int) : Prop := ∀ b, b < N → bsum (ordL D C N) (wtL (D + C * N) dm er) b (D + C * N) ≤ (C : Int)
end Go.Proofs.YtojdediohjghnaaGreatDoor
/- What SurvivesDamage tells: plain values. -/
namespace Go.Proofs.YtojdediohjghnaaGreatDoor
open Go.RowKit

theorem ris_mono {k : Nat} {l : List Int} (h : risOK 0 ((k : Int) - 1) l) : risOK 0 (((k + 1 : Nat) : Int) - 1) l := fun i hi => by
 have := h i hi
 exact ⟨⟨this.1.1, by omega⟩, this.2⟩
theorem ris_snoc {k : Nat} {l : List Int} (h : risOK 0 ((k : Int) - 1) l) : risOK 0 (((k + 1 : Nat) : Int) - 1) (l ++ [(k : Int)]) := fun i hi => by
 rw [List.length_append, List.length_singleton] at hi
 have e : ∀ j, j < l.length → (l ++ [(k : Int)]).getD j 0 = l.getD j 0 := fun j hj => getD_app l _ hj
 rcases Nat.lt_or_ge i l.length with h1 | h1
 ·have := h i h1
  rw [e i h1]
  refine ⟨⟨this.1.1, by omega⟩, fun h0 => ?_⟩
  rw [e (i - 1) (by omega)]
  exact this.2 h0
 ·obtain rfl : i = l.length := by omega
  have e2 : (l ++ [(k : Int)]).getD l.length 0 = k := by
   rw [List.getD_eq_getElem?_getD, List.getElem?_append_right (Nat.le_refl _)]
   simp
  rw [e2]
  refine ⟨⟨by omega, by omega⟩, fun h0 => ?_⟩
  rw [e _ (by omega)]
  have := (h (l.length - 1) (by omega)).1.2
  omega
theorem ris_dmg (A B F : List Int) : ∀ k : Nat, risOK 0 ((k : Int) - 1) (dmgTo A B F k)
 | 0 => fun i hi => absurd hi (Nat.not_lt_zero i)
 | k + 1 => by
  by_cases h : F.getD k 0 < 0 ∨ A.getD k 0 = B.getD k 0
  ·rw [dmg_no h]; exact ris_mono (ris_dmg A B F k)
  ·rw [dmg_up h]; exact ris_snoc (ris_dmg A B F k)
theorem ris_neg (l : List Int) : ∀ k : Nat, risOK 0 ((k : Int) - 1) (negTo l k)
 | 0 => fun i hi => absurd hi (Nat.not_lt_zero i)
 | k + 1 => by
  by_cases h : l.getD k 0 < 0
  ·rw [negTo_up h]; exact ris_snoc (ris_neg l k)
  ·rw [negTo_no h]; exact ris_mono (ris_neg l k)
open Classical in
noncomputable def svC (nm : ByteArray) (K p k q : Int) (ss : List Int) (co : Int) (ls : List Int) (r1 c1 : Int) (xs1 : List Int) (r2 c2 : Int) (xs2 : List Int) : Int :=
 if dmC nm K p k q ss co ls r1 c1 xs1 r2 c2 xs2 = 0 then (if lvL K r1 c1 xs1 ls.length = lvL K r2 c2 xs2 ls.length then 0 else 5) else dmC nm K p k q ss co ls r1 c1 xs1 r2 c2 xs2
noncomputable def svX (K r c : Int) (xs ls : List Int) : Int := ls.getD (lvL K r c xs ls.length).toNat 0
open Classical in
noncomputable def svB (nm : ByteArray) (K p k q : Int) (ss : List Int) (co : Int) (ls : List Int) (r1 c1 : Int) (xs1 : List Int) (r2 c2 : Int) (xs2 : List Int) : Bool :=
 decide (dmC nm K p k q ss co ls r1 c1 xs1 r2 c2 xs2 = 0 ∧ lvL K r1 c1 xs1 ls.length = lvL K r2 c2 xs2 ls.length ∧ sdOK (lyD K p k co r1 (svX K r1 c1 xs1 ls)).toNat (lyC K p k co r1 (svX K r1 c1 xs1 ls)).toNat (lyN K p k co r1).toNat (dmX nm K p k q ss co ls r1 c1 xs1 r2 c2 xs2) (dmY nm K p k q ss co ls r1 c1 xs1 r2 c2 xs2))
open Classical in
theorem sv_1 {nm : ByteArray} {K p k q co r1 c1 r2 c2 : Int} {ss ls xs1 xs2 : List Int} (h : ¬ dmC nm K p k q ss co ls r1 c1 xs1 r2 c2 xs2 = 0) : svC nm K p k q ss co ls r1 c1 xs1 r2 c2 xs2 = dmC nm K p k q ss co ls r1 c1 xs1 r2 c2 xs2 ∧ svB nm K p k q ss co ls r1 c1 xs1 r2 c2 xs2 = false :=
 ⟨if_neg h, decide_eq_false (fun h2 => h h2.1)⟩
open Classical in
theorem sv_2 {nm : ByteArray} {K p k q co r1 c1 r2 c2 : Int} {ss ls xs1 xs2 : List Int} (h : dmC nm K p k q ss co ls r1 c1 xs1 r2 c2 xs2 = 0) (h2 : ¬ lvL K r1 c1 xs1 ls.length = lvL K r2 c2 xs2 ls.length) : svC nm K p k q ss co ls r1 c1 xs1 r2 c2 xs2 = 5 ∧ svB nm K p k q ss co ls r1 c1 xs1 r2 c2 xs2 = false :=
 ⟨by unfold svC; rw [if_pos h, if_neg h2], decide_eq_false (fun h3 => h2 h3.2.1)⟩
open Classical in
theorem sv_3 {nm : ByteArray} {K p k q co r1 c1 r2 c2 : Int} {ss ls xs1 xs2 : List Int} {D C N : Nat} (h : dmC nm K p k q ss co ls r1 c1 xs1 r2 c2 xs2 = 0) (h2 : lvL K r1 c1 xs1 ls.length = lvL K r2 c2 xs2 ls.length) (hD : lyD K p k co r1 (svX K r1 c1 xs1 ls) = D) (hC : lyC K p k co r1 (svX K r1 c1 xs1 ls) = C) (hN : lyN K p k co r1 = N) :
  svC nm K p k q ss co ls r1 c1 xs1 r2 c2 xs2 = 0 ∧ (sdOK D C N (dmX nm K p k q ss co ls r1 c1 xs1 r2 c2 xs2) (dmY nm K p k q ss co ls r1 c1 xs1 r2 c2 xs2) → svB nm K p k q ss co ls r1 c1 xs1 r2 c2 xs2 = true) ∧ (¬ sdOK D C N (dmX nm K p k q ss co ls r1 c1 xs1 r2 c2 xs2) (dmY nm K p k q ss co ls r1 c1 xs1 r2 c2 xs2) → svB nm K p k q ss co ls r1 c1 xs1 r2 c2 xs2 = false) := by
 have eD : (lyD K p k co r1 (svX K r1 c1 xs1 ls)).toNat = D := by rw [hD, Int.toNat_natCast]
 have eC : (lyC K p k co r1 (svX K r1 c1 xs1 ls)).toNat = C := by rw [hC, Int.toNat_natCast]
 have eN : (lyN K p k co r1).toNat = N := by rw [hN, Int.toNat_natCast]
 refine ⟨by unfold svC; rw [if_pos h, if_pos h2], fun h3 => ?_, fun h3 => ?_⟩
 ·refine decide_eq_true ⟨h, h2, ?_⟩
  rw [eD, eC, eN]; exact h3
 ·refine decide_eq_false (fun h4 => h3 ?_)
  have := h4.2.2
  rwa [eD, eC, eN] at this
theorem sv_ok {nm : ByteArray} {K p k q co r1 c1 r2 c2 : Int} {ss ls xs1 xs2 : List Int} (h : dmC nm K p k q ss co ls r1 c1 xs1 r2 c2 xs2 = 0) :
  (lvR nm K p k q ss co ls r1 c1 xs1).2 = 0 ∧ (lvR nm K p k q ss co ls r2 c2 xs2).2 = 0 ∧ (stF nm K p k q ss co ls r1 c1 xs1).length = (stF nm K p k q ss co ls r2 c2 xs2).length := by
 by_cases h1 : (lvR nm K p k q ss co ls r1 c1 xs1).2 = 0
 ·by_cases h2 : (lvR nm K p k q ss co ls r2 c2 xs2).2 = 0
  ·by_cases h3 : (stF nm K p k q ss co ls r1 c1 xs1).length = (stF nm K p k q ss co ls r2 c2 xs2).length
   ·exact ⟨h1, h2, h3⟩
   ·rw [(dm_3 h1 h2 h3).1] at h; exact absurd h (by decide)
  ·rw [(dm_2 h1 h2).1] at h; exact absurd h h2
 ·rw [(dm_1 h1).1] at h; exact absurd h h1
theorem lv_facts {nm : ByteArray} {K p k q co r c : Int} {ss ls xs : List Int} (h : (lvR nm K p k q ss co ls r c xs).2 = 0) :
  (famOK nm K p k q ss co ls ∧ gridOK r c xs ∧ r ∈ ss ∧ c = colsV K co r) ∧ lvG K p k q co ls r c xs ∧ (lvR nm K p k q ss co ls r c xs).1 = lvL K r c xs ls.length ∧ ∃ l : Nat, lvL K r c xs ls.length = l ∧ l < ls.length ∧ svX K r c xs ls = ls.getD l 0 ∧ (1 ≤ ls.getD l 0 ∧ ls.getD l 0 ≤ 80) := by
 obtain ⟨hz, hg⟩ := lvR_iff.1 h
 obtain ⟨⟨hF, hG⟩, hin, hc⟩ := szC_zero hz
 have hb := hg.1
 refine ⟨⟨hF, hG, hin, hc⟩, hg, by rw [lvR_ok hz hg], (lvL K r c xs ls.length).toNat, by omega, by omega, rfl, (hF.2.2.2.1 _ (by omega)).1⟩
theorem sv_lay {nm : ByteArray} {K p k q co r1 c1 r2 c2 : Int} {ss ls xs1 xs2 : List Int} (h : dmC nm K p k q ss co ls r1 c1 xs1 r2 c2 xs2 = 0) :
  ∃ D C N : Nat, lyD K p k co r1 (svX K r1 c1 xs1 ls) = D ∧ lyC K p k co r1 (svX K r1 c1 xs1 ls) = C ∧ lyN K p k co r1 = N ∧ layOK p k q D C N ∧ risOK 0 (((D + C * N : Nat) : Int) - 1) (dmX nm K p k q ss co ls r1 c1 xs1 r2 c2 xs2) ∧ risOK 0 (((D + C * N : Nat) : Int) - 1) (dmY nm K p k q ss co ls r1 c1 xs1 r2 c2 xs2) := by
 obtain ⟨h1, h2, h3⟩ := sv_ok h
 obtain ⟨⟨hF, hG, hin, hc⟩, hg, -, -⟩ := lv_facts h1
 have hl : layOK p k q (lyD K p k co r1 (svX K r1 c1 xs1 ls)) (lyC K p k co r1 (svX K r1 c1 xs1 ls)) (lyN K p k co r1) := hg.2
 have hlen := strF_len (p := p) (k := k) c1 xs1 (famS hF hin)
 have hT : lyD K p k co r1 (svX K r1 c1 xs1 ls) + lyN K p k co r1 * lyC K p k co r1 (svX K r1 c1 xs1 ls) = elV K p k co r1 := by unfold lyD; omega
 obtain ⟨D, hD⟩ : ∃ D : Nat, lyD K p k co r1 (svX K r1 c1 xs1 ls) = D := ⟨(lyD K p k co r1 (svX K r1 c1 xs1 ls)).toNat, by have := hl.2.1.1; have := hl.1.1; omega⟩
 obtain ⟨C, hC⟩ : ∃ C : Nat, lyC K p k co r1 (svX K r1 c1 xs1 ls) = C := ⟨(lyC K p k co r1 (svX K r1 c1 xs1 ls)).toNat, by have := hl.2.2.1.1; omega⟩
 obtain ⟨N, hN⟩ : ∃ N : Nat, lyN K p k co r1 = N := ⟨(lyN K p k co r1).toNat, by have := hl.1.1; omega⟩
 rw [hD, hC, hN] at hl hT
 refine ⟨D, C, N, hD, hC, hN, hl, ?_⟩
 have hn : (stF nm K p k q ss co ls r1 c1 xs1).length = D + C * N := by
  rw [stF_ok h1]
  have : ((C * N : Nat) : Int) = (N : Int) * (C : Int) := by rw [Int.natCast_mul, Int.mul_comm]
  omega
 rw [show dmX nm K p k q ss co ls r1 c1 xs1 r2 c2 xs2 = _ from if_pos h, show dmY nm K p k q ss co ls r1 c1 xs1 r2 c2 xs2 = _ from if_pos h]
 refine ⟨?_, ?_⟩
 ·rw [hn]; exact ris_dmg _ _ _ _
 ·unfold negs
  rw [← h3, hn]; exact ris_neg _ _
end Go.Proofs.YtojdediohjghnaaGreatDoor
