
/- Plain facts: a written format stands at both lists of places, and a few turned cells leave it near. -/
import Derived.Test.YthokkmbdkjpbcaaGreatMat
import Derived.Test.YthokkmbdkjpbcaaGreatDraw
namespace Go.Proofs.YthokkmbdkjpbcaaGreat
set_option linter.unusedVariables false
set_option linter.unusedSimpArgs false
open Go.RowKit

/-- The indices of all places of a format. -/
def ixA (n : Nat) : List Nat := aPl.map (plIx n)
def ixB (n : Nat) : List Nat := (bPl n).map (plIx n)
theorem ix_ok : ∀ m : Nat, m < 7 → (ixA (17 + 4 * m) ++ ixB (17 + 4 * m)).Nodup := by decide +kernel
theorem ix_nodup {n : Nat} (h : 17 ≤ n ∧ n ≤ 41) (h4 : n % 4 = 1) : (ixA n ++ ixB n).Nodup := by
  obtain ⟨m, rfl⟩ : ∃ m, n = 17 + 4 * m := ⟨(n - 17) / 4, by omega⟩
  exact ix_ok m (by omega)
theorem ixA_at (n k : Nat) (hk : k < 15) : (ixA n).getD k 0 = plIx n (aPl.getD k (0, 0)) := by
  unfold ixA
  rw [List.getD_eq_getElem?_getD, List.getD_eq_getElem?_getD, List.getElem?_map, List.getElem?_eq_getElem (show k < aPl.length from hk)]; rfl
theorem ixB_at (n k : Nat) (hk : k < 15) : (ixB n).getD k 0 = plIx n ((bPl n).getD k (0, 0)) := by
  unfold ixB
  rw [List.getD_eq_getElem?_getD, List.getD_eq_getElem?_getD, List.getElem?_map, List.getElem?_eq_getElem (show k < (bPl n).length from hk)]; rfl
/-- The cells at some indices. -/
def atL (xs : List Int) (is : List Nat) : List Int := is.map fun i => xs.getD i 0
theorem cellsA (n : Nat) (xs : List Int) : cellsL n xs aPl = atL xs (ixA n) := by
  unfold cellsL atL ixA; rw [List.map_map]; rfl
theorem cellsB (n : Nat) (xs : List Int) : cellsL n xs (bPl n) = atL xs (ixB n) := by
  unfold cellsL atL ixB; rw [List.map_map]; rfl
theorem atL_at (xs : List Int) (is : List Nat) {k : Nat} (hk : k < is.length) : (atL xs is).getD k 0 = xs.getD (is.getD k 0) 0 := by
  unfold atL
  rw [List.getD_eq_getElem?_getD, List.getElem?_map, List.getElem?_eq_getElem hk, List.getD_eq_getElem?_getD (l := is), List.getElem?_eq_getElem hk]; rfl
theorem atL_out (xs : List Int) (is : List Nat) {k : Nat} (hk : ¬ k < is.length) : (atL xs is).getD k 0 = 0 := by
  rw [List.getD_eq_getElem?_getD, List.getElem?_eq_none (by unfold atL; rw [List.length_map]; omega)]; rfl
theorem getD_set {xs : List Int} {i j : Nat} {v : Int} (hi : i < xs.length) : (xs.set i v).getD j 0 = if i = j then v else xs.getD j 0 := by
  by_cases h : i = j
  · subst h
    rw [if_pos rfl, List.getD_eq_getElem?_getD, List.getElem?_set_self hi]; rfl
  · rw [if_neg h, List.getD_eq_getElem?_getD, List.getElem?_set_ne h, ← List.getD_eq_getElem?_getD]
theorem nodup_at {is : List Nat} (h : is.Nodup) {i j : Nat} (hi : i < is.length) (hj : j < is.length) (e : is.getD i 0 = is.getD j 0) : i = j := by
  rw [List.getD_eq_getElem?_getD, List.getD_eq_getElem?_getD, List.getElem?_eq_getElem hi, List.getElem?_eq_getElem hj] at e
  exact (List.getElem_inj h).1 e
/-- Turning the cell of one place turns one of the cells read. -/
theorem atL_set {xs : List Int} {is : List Nat} (h : is.Nodup) {k : Nat} (hk : k < is.length) (hx : is.getD k 0 < xs.length) (v : Int) (j : Nat) :
    (atL (xs.set (is.getD k 0) v) is).getD j 0 = if k = j then v else (atL xs is).getD j 0 := by
  by_cases hj : j < is.length
  · rw [atL_at _ _ hj, getD_set hx, atL_at _ _ hj]
    by_cases e : k = j
    · rw [if_pos e, if_pos (by rw [e])]
    · rw [if_neg e, if_neg (fun h' => e (nodup_at h hk hj h'))]
  · rw [if_neg (by omega), atL_out _ _ hj, atL_out _ _ hj]
theorem atL_far {xs : List Int} {is : List Nat} {i : Nat} (h : i ∉ is) (v : Int) : atL (xs.set i v) is = atL xs is := by
  unfold atL
  refine List.map_congr_left fun j hj => ?_
  rw [List.getD_eq_getElem?_getD, List.getElem?_set_ne (fun e => h (by rw [e]; exact hj)), ← List.getD_eq_getElem?_getD]
theorem difTo_s (w l : List Int) (k : Nat) : difTo w l (k + 1) = difTo w l k + if l.getD k 0 < 0 then 0 else if l.getD k 0 = w.getD k 0 then 0 else 1 := rfl
theorem difTo_turn {w l l' : List Int} {i : Nat} : ∀ k, (∀ j, j ≠ i → l.getD j 0 = l'.getD j 0) → difTo w l k ≤ difTo w l' k + if i < k then 1 else 0
  | 0, _ => by simp [difTo]
  | k + 1, h => by
    have ih := difTo_turn (w := w) (i := i) k h
    rw [difTo_s, difTo_s]
    generalize difTo w l k = A at *
    generalize difTo w l' k = B at *
    by_cases e : k = i
    · subst e
      rw [if_neg (Nat.lt_irrefl k)] at ih
      rw [if_pos (Nat.lt_succ_self k)]
      have : (if l.getD k 0 < 0 then 0 else if l.getD k 0 = w.getD k 0 then 0 else 1) ≤ 1 := by split <;> (try split) <;> omega
      omega
    · rw [h k e]
      by_cases e2 : i < k
      · rw [if_pos e2] at ih; rw [if_pos (show i < k + 1 by omega)]; omega
      · rw [if_neg e2] at ih; rw [if_neg (show ¬ i < k + 1 by omega)]; omega
/-- At most j wrong cells in each list of places; none is unknown. -/
def FmtK (n : Nat) (ws : List Int) (j : Nat) (ys : List Int) : Prop :=
  ys.length = n * n ∧ (∀ y ∈ ys, -1 ≤ y ∧ y ≤ 1) ∧ ((∀ k, 0 ≤ (atL ys (ixA n)).getD k 0) ∧ difTo ws (atL ys (ixA n)) 15 ≤ j) ∧ ((∀ k, 0 ≤ (atL ys (ixB n)).getD k 0) ∧ difTo ws (atL ys (ixB n)) 15 ≤ j)
theorem getD_memN {l : List Nat} {k : Nat} (h : k < l.length) : l.getD k 0 ∈ l := by
  rw [List.getD_eq_getElem?_getD, List.getElem?_eq_getElem h]; exact List.getElem_mem _
theorem FmtK.turn {n : Nat} {ws : List Int} {j : Nat} {ys : List Int} (h : FmtK n ws j ys) (hn : 17 ≤ n ∧ n ≤ 41) (h4 : n % 4 = 1) {k m : Nat} (hk : k < 15) (hm : m < 15) {u v : Int} (hu : 0 ≤ u ∧ u ≤ 1) (hv : 0 ≤ v ∧ v ≤ 1) :
    FmtK n ws (j + 1) ((ys.set (plIx n (aPl.getD k (0, 0))) u).set (plIx n ((bPl n).getD m (0, 0))) v) := by
  obtain ⟨h1, h2, ⟨h3, h5⟩, h6, h7⟩ := h
  have hnd := ix_nodup hn h4
  obtain ⟨hA, hB, hAB⟩ := List.nodup_append.1 hnd
  have ia := plIx_eq (aPl_in hn.1 _ (getD_mem (d := (0, 0)) (show k < aPl.length from hk))).1 (aPl_in hn.1 _ (getD_mem (d := (0, 0)) (show k < aPl.length from hk))).2
  have ib := plIx_eq (bPl_bd hn.1 _ (getD_mem (d := (0, 0)) (show m < (bPl n).length from hm))).1 (bPl_bd hn.1 _ (getD_mem (d := (0, 0)) (show m < (bPl n).length from hm))).2
  rw [← ixA_at n k hk] at ia ⊢
  rw [← ixB_at n m hm] at ib ⊢
  have la : (ixA n).length = 15 := by unfold ixA; rw [List.length_map]; rfl
  have lb : (ixB n).length = 15 := by unfold ixB; rw [List.length_map]; rfl
  have ma := getD_memN (l := ixA n) (k := k) (by omega)
  have mb := getD_memN (l := ixB n) (k := m) (by omega)
  have hxl : (ixA n).getD k 0 < ys.length := by rw [h1]; exact ia.2.1
  have hyl : (ixB n).getD m 0 < (ys.set ((ixA n).getD k 0) u).length := by rw [List.length_set, h1]; exact ib.2.1
  refine ⟨by rw [List.length_set, List.length_set]; exact h1, ?_, ?_, ?_⟩
  · intro y hy
    rcases List.mem_or_eq_of_mem_set hy with hy | rfl
    · rcases List.mem_or_eq_of_mem_set hy with hy | rfl
      · exact h2 y hy
      · omega
    · omega
  · rw [atL_far (fun hb => hAB _ hb _ mb rfl)]
    have e := atL_set hA (by omega) hxl u
    refine ⟨fun i => ?_, ?_⟩
    · rw [e]; split
      · exact hu.1
      · exact h3 i
    · have := difTo_turn (w := ws) (l := atL (ys.set ((ixA n).getD k 0) u) (ixA n)) (l' := atL ys (ixA n)) (i := k) 15 (fun i hi => by rw [e, if_neg (Ne.symm hi)])
      rw [if_pos hk] at this
      omega
  · have e := atL_set (xs := ys.set ((ixA n).getD k 0) u) hB (by omega) hyl v
    have e2 : atL (ys.set ((ixA n).getD k 0) u) (ixB n) = atL ys (ixB n) := atL_far (fun hb => hAB _ ma _ hb rfl) u
    rw [e2] at e
    refine ⟨fun i => ?_, ?_⟩
    · rw [e]; split
      · exact hv.1
      · exact h6 i
    · have := difTo_turn (w := ws) (l := atL ((ys.set ((ixA n).getD k 0) u).set ((ixB n).getD m 0) v) (ixB n)) (l' := atL ys (ixB n)) (i := m) 15 (fun i hi => by rw [e, if_neg (Ne.symm hi)])
      rw [if_pos hm] at this
      omega
/-- A format that has been written is in its places. -/
theorem pFmt_at {n : Nat} {ws xs : List Int} (hn : 17 ≤ n ∧ n ≤ 41) (h4 : n % 4 = 1) (hl : xs.length = n * n) : ∀ k, k ≤ 15 →
    ∀ j, j < k → (pFmt n ws xs k).getD ((ixA n).getD j 0) 0 = ws.getD j 0 ∧ (pFmt n ws xs k).getD ((ixB n).getD j 0) 0 = ws.getD j 0
  | 0, _, j, hj => absurd hj (Nat.not_lt_zero j)
  | k + 1, hk, j, hj => by
    have ih := pFmt_at (ws := ws) hn h4 hl k (by omega)
    have hnd := ix_nodup hn h4
    obtain ⟨hA, hB, hAB⟩ := List.nodup_append.1 hnd
    have hla := pFmt_len n ws xs k
    have la : (ixA n).length = 15 := by unfold ixA; rw [List.length_map]; rfl
    have lb : (ixB n).length = 15 := by unfold ixB; rw [List.length_map]; rfl
    have ia := (plIx_eq (aPl_in hn.1 _ (getD_mem (d := (0, 0)) (show k < aPl.length from by show k < 15; omega))).1 (aPl_in hn.1 _ (getD_mem (d := (0, 0)) (show k < aPl.length from by show k < 15; omega))).2).2.1
    have ib := (plIx_eq (bPl_bd hn.1 _ (getD_mem (d := (0, 0)) (show k < (bPl n).length from by show k < 15; omega))).1 (bPl_bd hn.1 _ (getD_mem (d := (0, 0)) (show k < (bPl n).length from by show k < 15; omega))).2).2.1
    unfold pFmt
    rw [← ixA_at n k (by omega)] at ia ⊢
    rw [← ixB_at n k (by omega)] at ib ⊢
    rw [getD_set (by rw [List.length_set, hla, hl]; exact ib), getD_set (by rw [hla, hl]; exact ia), getD_set (by rw [List.length_set, hla, hl]; exact ib), getD_set (by rw [hla, hl]; exact ia)]
    have maj := getD_memN (l := ixA n) (k := j) (by omega)
    have mbj := getD_memN (l := ixB n) (k := j) (by omega)
    have mak := getD_memN (l := ixA n) (k := k) (by omega)
    have mbk := getD_memN (l := ixB n) (k := k) (by omega)
    rw [if_neg (fun e => hAB _ maj _ mbk e.symm)]
    by_cases e : k = j
    · subst e
      exact ⟨by rw [if_pos rfl], by rw [if_pos rfl]⟩
    · have := ih j (by omega)
      rw [if_neg (fun h => e (nodup_at hA (by omega) (by omega) h)), if_neg (fun h => e (nodup_at hB (by omega) (by omega) h)), if_neg (fun h => hAB _ mak _ mbj h)]
      exact this
theorem FmtK.mat {n : Nat} {ws ys : List Int} {j : Nat} (h : FmtK n ws j ys) (hn : 17 ≤ n ∧ n ≤ 41) (h4 : n % 4 = 1) : matOK n n ys := by
  have hle : n * n ≤ 41 * 41 := Nat.mul_le_mul hn.2 hn.2
  refine ⟨⟨by omega, by omega, ?_, by rw [h.1]; simp, h.2.1⟩, rfl, by omega, by omega⟩
  have : ((n * n : Nat) : Int) ≤ 1681 := by omega
  rw [Int.natCast_mul] at this
  omega
theorem FmtK.read {n v j : Nat} {ys : List Int} (hv : v < 32) (h : FmtK n (fmtW v) j ys) (hj : j ≤ 3) (hn : 17 ≤ n ∧ n ≤ 41) (h4 : n % 4 = 1) : rfV n n ys = ((v : Int), 0) := by
  have hm := h.mat hn h4
  unfold rfV
  rw [if_neg (not_not_intro hm), Int.toNat_natCast, cellsA, cellsB]
  exact share_is hv h.2.2.1.1 h.2.2.2.1 (Nat.le_trans h.2.2.1.2 hj) (Nat.le_trans h.2.2.2.2 hj)
/-! Dice whose code lies among the first blocks: as in Draw, with this bound kept. -/
end Go.Proofs.YthokkmbdkjpbcaaGreat
