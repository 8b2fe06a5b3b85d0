/- Plain facts: a written format stands at both lists of places, and a few turned cells leave it near. -/
import Derived.Test.YtajidoofhmoalaaGreatDoorLLevelOfK19
import Derived.Test.YtajidoofhmoalaaGreatDoorLLevelOfK18
set_option linter.unusedVariables false
set_option linter.unusedSimpArgs false
namespace Go.Proofs.YtajidoofhmoalaaGreatDoor
open Go.RowKit

def ixA (n : Nat) : List Nat := aPl.map (plIx n)
def ixB (n : Nat) : List Nat := (bPl n).map (plIx n)
theorem ix_ok : ∀ m : Nat, m < 7 → (ixA (17 + 4 * m) ++ ixB (17 + 4 * m)).Nodup := by decide +kernel
theorem ix_nodup {n : Nat} (h : 17 ≤ n ∧ n ≤ 41) (h4 : n % 4 = 1) : (ixA n ++ ixB n).Nodup := by
  obtain ⟨m, rfl⟩ : ∃ m, n = 17 + 4 * m := ⟨(n - 17) / 4, by omega⟩
  exact ix_ok m (by omega)
theorem ixA_at (n k : Nat) (hk : k < 15) : (ixA n).getD k 0 = plIx n (aPl.getD k (0, 0)) := by
  unfold ixA
  rw [List.getD_eq_getElem?_getD, List.getD_eq_getElem?_getD, List.getElem?_map, List.getElem?_eq_getElem (show k < aPl.length from hk)]; rfl
theorem ixB_at (n k : Nat) (hk : k < 15) : (ixB n).getD k 0 = plIx n ((bPl n).getD k (0, 0)) := by
  unfold ixB
  rw [List.getD_eq_getElem?_getD, List.getD_eq_getElem?_getD, List.getElem?_map, List.getElem?_eq_getElem (show k < (bPl n).length from hk)]; rfl
def atL (xs : List Int) (is : List Nat) : List Int := is.map fun i => xs.getD i 0
theorem cellsA (n : Nat) (xs : List Int) : cellsL n xs aPl = atL xs (ixA n) := by
  unfold cellsL atL ixA; rw [List.map_map]; rfl
theorem cellsB (n : Nat) (xs : List Int) : cellsL n xs (bPl n) = atL xs (ixB n) := by
  unfold cellsL atL ixB; rw [List.map_map]; rfl
theorem getD_set {xs : List Int} {i j : Nat} {v : Int} (hi : i < xs.length) : (xs.set i v).getD j 0 = if i = j then v else xs.getD j 0 := by
  by_cases h : i = j
  · subst h
    rw [if_pos rfl, List.getD_eq_getElem?_getD, List.getElem?_set_self hi]; rfl
  · rw [if_neg h, List.getD_eq_getElem?_getD, List.getElem?_set_ne h, ← List.getD_eq_getElem?_getD]
theorem nodup_at {is : List Nat} (h : is.Nodup) {i j : Nat} (hi : i < is.length) (hj : j < is.length) (e : is.getD i 0 = is.getD j 0) : i = j := by
  rw [List.getD_eq_getElem?_getD, List.getD_eq_getElem?_getD, List.getElem?_eq_getElem hi, List.getElem?_eq_getElem hj] at e
  exact (List.getElem_inj h).1 e
def FmtK (n : Nat) (ws : List Int) (j : Nat) (ys : List Int) : Prop :=
  ys.length = n * n ∧ (∀ y ∈ ys, -1 ≤ y ∧ y ≤ 1) ∧ ((∀ k, 0 ≤ (atL ys (ixA n)).getD k 0) ∧ difTo ws (atL ys (ixA n)) 15 ≤ j) ∧ ((∀ k, 0 ≤ (atL ys (ixB n)).getD k 0) ∧ difTo ws (atL ys (ixB n)) 15 ≤ j)
theorem getD_memN {l : List Nat} {k : Nat} (h : k < l.length) : l.getD k 0 ∈ l := by
  rw [List.getD_eq_getElem?_getD, List.getElem?_eq_getElem h]; exact List.getElem_mem _
theorem pFmt_at {n : Nat} {ws xs : List Int} (hn : 17 ≤ n ∧ n ≤ 41) (h4 : n % 4 = 1) (hl : xs.length = n * n) : ∀ k, k ≤ 15 →
    ∀ j, j < k → (pFmt n ws xs k).getD ((ixA n).getD j 0) 0 = ws.getD j 0 ∧ (pFmt n ws xs k).getD ((ixB n).getD j 0) 0 = ws.getD j 0
  | 0, _, j, hj => absurd hj (Nat.not_lt_zero j)
  | k + 1, hk, j, hj => by
    have ih := pFmt_at (ws := ws) hn h4 hl k (by omega)
    have hnd := ix_nodup hn h4
    obtain ⟨hA, hB, hAB⟩ := List.nodup_append.1 hnd
    have hla := pFmt_len n ws xs k
    have la : (ixA n).length = 15 := by unfold ixA; rw [List.length_map]; rfl
    have lb : (ixB n).length = 15 := by unfold ixB; rw [List.length_map]; rfl
    have ia := (plIx_eq (aPl_in hn.1 _ (getD_mem (d := (0, 0)) (show k < aPl.length from by show k < 15; omega))).1 (aPl_in hn.1 _ (getD_mem (d := (0, 0)) (show k < aPl.length from by show k < 15; omega))).2).2.1
    have ib := (plIx_eq (bPl_bd hn.1 _ (getD_mem (d := (0, 0)) (show k < (bPl n).length from by show k < 15; omega))).1 (bPl_bd hn.1 _ (getD_mem (d := (0, 0)) (show k < (bPl n).length from by show k < 15; omega))).2).2.1
    unfold pFmt
    rw [← ixA_at n k (by omega)] at ia ⊢
    rw [← ixB_at n k (by omega)] at ib ⊢
    rw [getD_set (by rw [List.length_set, hla, hl]; exact ib), getD_set (by rw [hla, hl]; exact ia), getD_set (by rw [List.length_set, hla, hl]; exact ib), getD_set (by rw [hla, hl]; exact ia)]
    have maj := getD_memN (l := ixA n) (k := j) (by omega)
    have mbj := getD_memN (l := ixB n) (k := j) (by omega)
    have mak := getD_memN (l := ixA n) (k := k) (by omega)
    have mbk := getD_memN (l := ixB n) (k := k) (by omega)
    rw [if_neg (fun e => hAB _ maj _ mbk e.symm)]
    by_cases e : k = j
    · subst e
      exact ⟨by rw [if_pos rfl], by rw [if_pos rfl]⟩
    · have := ih j (by omega)
      rw [if_neg (fun h => e (nodup_at hA (by omega) (by omega) h)), if_neg (fun h => e (nodup_at hB (by omega) (by omega) h)), if_neg (fun h => hAB _ mak _ mbj h)]
      exact this
theorem FmtK.mat {n : Nat} {ws ys : List Int} {j : Nat} (h : FmtK n ws j ys) (hn : 17 ≤ n ∧ n ≤ 41) (h4 : n % 4 = 1) : matOK n n ys := by
  have hle : n * n ≤ 41 * 41 := Nat.mul_le_mul hn.2 hn.2
  refine ⟨⟨by omega, by omega, ?_, by rw [h.1]; simp, h.2.1⟩, rfl, by omega, by omega⟩
  have : ((n * n : Nat) : Int) ≤ 1681 := by omega
  rw [Int.natCast_mul] at this
  omega
theorem FmtK.read {n v j : Nat} {ys : List Int} (hv : v < 32) (h : FmtK n (fmtW v) j ys) (hj : j ≤ 3) (hn : 17 ≤ n ∧ n ≤ 41) (h4 : n % 4 = 1) : rfV n n ys = ((v : Int), 0) := by
  have hm := h.mat hn h4
  unfold rfV
  rw [if_neg (not_not_intro hm), Int.toNat_natCast, cellsA, cellsB]
  exact share_is hv h.2.2.1.1 h.2.2.2.1 (Nat.le_trans h.2.2.1.2 hj) (Nat.le_trans h.2.2.2.2 hj)
end Go.Proofs.YtajidoofhmoalaaGreatDoor
