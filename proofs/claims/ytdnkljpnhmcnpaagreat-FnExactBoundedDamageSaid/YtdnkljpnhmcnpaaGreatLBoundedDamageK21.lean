/- Plain facts: a written format stands at both lists of places, and a few turned cells leave it near. -/
import Derived.Test.YtdnkljpnhmcnpaaGreatLBoundedDamageK19
import Derived.Test.YtdnkljpnhmcnpaaGreatLBoundedDamageK18
set_option linter.unusedVariables false
set_option linter.unusedSimpArgs false
namespace Go.Proofs.YtdnkljpnhmcnpaaGreat
open Go.RowKit

def ixA (n : Nat) : List Nat := aPl.map (plIx n)
def ixB (n : Nat) : List Nat := (bPl n).map (plIx n)
theorem ix_ok : ∀ m : Nat, m < 7 → (ixA (17 + 4 * m) ++ ixB (17 + 4 * m)).Nodup := by decide +kernel
theorem ix_nodup {n : Nat} (h : 17 ≤ n ∧ n ≤ 41) (h4 : n % 4 = 1) : (ixA n ++ ixB n).Nodup := by
 obtain ⟨m, rfl⟩ : ∃ m, n = 17 + 4 * m := ⟨(n - 17) / 4, by omega⟩
 exact ix_ok m (by omega)
theorem ixA_at (n k : Nat) (hk : k < 15) : (ixA n).getD k 0 = plIx n (aPl.getD k (0, 0)) := by
 unfold ixA
 rw [List.getD_eq_getElem?_getD, List.getD_eq_getElem?_getD, List.getElem?_map, List.getElem?_eq_getElem (show k < aPl.length from hk)]; rfl
theorem ixB_at (n k : Nat) (hk : k < 15) : (ixB n).getD k 0 = plIx n ((bPl n).getD k (0, 0)) := by
 unfold ixB
 rw [List.getD_eq_getElem?_getD, List.getD_eq_getElem?_getD, List.getElem?_map, List.getElem?_eq_getElem (show k < (bPl n).length from hk)]; rfl
def atL (xs : List Int) (is : List Nat) : List Int := is.map fun i => xs.getD i 0
theorem cellsA (n : Nat) (xs : List Int) : cellsL n xs aPl = atL xs (ixA n) := by
 unfold cellsL atL ixA; rw [List.map_map]; rfl
theorem cellsB (n : Nat) (xs : List Int) : cellsL n xs (bPl n) = atL xs (ixB n) := by
 unfold cellsL atL ixB; rw [List.map_map]; rfl
theorem atL_at (xs : List Int) (is : List Nat) {k : Nat} (hk : k < is.length) : (atL xs is).getD k 0 = xs.getD (is.getD k 0) 0 := by
 unfold atL
 rw [List.getD_eq_getElem?_getD, List.getElem?_map, List.getElem?_eq_getElem hk, List.getD_eq_getElem?_getD (l := is), List.getElem?_eq_getElem hk]; rfl
theorem atL_out (xs : List Int) (is : List Nat) {k : Nat} (hk : ¬ k < is.length) : (atL xs is).getD k 0 = 0 := by
 rw [List.getD_eq_getElem?_getD, List.getElem?_eq_none (by unfold atL; rw [List.length_map]; omega)]; rfl
theorem getD_set {xs : List Int} {i j : Nat} {v : Int} (hi : i < xs.length) : (xs.set i v).getD j 0 = if i = j then v else xs.getD j 0 := by
 by_cases h : i = j
 ·subst h
  rw [if_pos rfl, List.getD_eq_getElem?_getD, List.getElem?_set_self hi]; rfl
 ·rw [if_neg h, List.getD_eq_getElem?_getD, List.getElem?_set_ne h, ← List.getD_eq_getElem?_getD]
theorem nodup_at {is : List Nat} (h : is.Nodup) {i j : Nat} (hi : i < is.length) (hj : j < is.length) (e : is.getD i 0 = is.getD j 0) : i = j := by
 rw [List.getD_eq_getElem?_getD, List.getD_eq_getElem?_getD, List.getElem?_eq_getElem hi, List.getElem?_eq_getElem hj] at e
 exact (List.getElem_inj h).1 e
theorem difTo_s (w l : List Int) (k : Nat) : difTo w l (k + 1) = difTo w l k + if l.getD k 0 < 0 then 0 else if l.getD k 0 = w.getD k 0 then 0 else 1 := rfl
def FmtK (n : Nat) (ws : List Int) (j : Nat) (ys : List Int) : Prop :=
 ys.length = n * n ∧ (∀ y ∈ ys, -1 ≤ y ∧ y ≤ 1) ∧ ((∀ k, 0 ≤ (atL ys (ixA n)).getD k 0) ∧ difTo ws (atL ys (ixA n)) 15 ≤ j) ∧ ((∀ k, 0 ≤ (atL ys (ixB n)).getD k 0) ∧ difTo ws (atL ys (ixB n)) 15 ≤ j)
theorem getD_memN {l : List Nat} {k : Nat} (h : k < l.length) : l.getD k 0 ∈ l := by
 rw [List.getD_eq_getElem?_getD, List.getElem?_eq_getElem h]; exact List.getElem_mem _
theorem difTo_self {w l : List Int} : ∀ k, (∀ j, j < k → l.getD j 0 = w.getD j 0) → difTo w l k = 0
 | 0, _ => rfl
 | k + 1, h => by
  rw [difTo_s, difTo_self k (fun j hj => h j (by omega)), h k (by omega)]
  split <;> simp
theorem pFmt_at {n : Nat} {ws xs : List Int} (hn : 17 ≤ n ∧ n ≤ 41) (h4 : n % 4 = 1) (hl : xs.length = n * n) : ∀ k, k ≤ 15 →
  ∀ j, j < k → (pFmt n ws xs k).getD ((ixA n).getD j 0) 0 = ws.getD j 0 ∧ (pFmt n ws xs k).getD ((ixB n).getD j 0) 0 = ws.getD j 0
 | 0, _, j, hj => absurd hj (Nat.not_lt_zero j)
 | k + 1, hk, j, hj => by
  have ih := pFmt_at (ws := ws) hn h4 hl k (by omega)
  have hnd := ix_nodup hn h4
  obtain ⟨hA, hB, hAB⟩ := List.nodup_append.1 hnd
  have hla := pFmt_len n ws xs k
  have la : (ixA n).length = 15 := by unfold ixA; rw [List.length_map]; rfl
  have lb : (ixB n).length = 15 := by unfold ixB; rw [List.length_map]; rfl
  have ia := (plIx_eq (aPl_in hn.1 _ (getD_mem (d := (0, 0)) (show k < aPl.length from by show k < 15; omega))).1 (aPl_in hn.1 _ (getD_mem (d := (0, 0)) (show k < aPl.length from by show k < 15; omega))).2).2.1
  have ib := (plIx_eq (bPl_bd hn.1 _ (getD_mem (d := (0, 0)) (show k < (bPl n).length from by show k < 15; omega))).1 (bPl_bd hn.1 _ (getD_mem (d := (0, 0)) (show k < (bPl n).length from by show k < 15; omega))).2).2.1
  unfold pFmt
  rw [← ixA_at n k (by omega)] at ia ⊢
  rw [← ixB_at n k (by omega)] at ib ⊢
  rw [getD_set (by rw [List.length_set, hla, hl]; exact ib), getD_set (by rw [hla, hl]; exact ia), getD_set (by rw [List.length_set, hla, hl]; exact ib), getD_set (by rw [hla, hl]; exact ia)]
  have maj := getD_memN (l := ixA n) (k := j) (by omega)
  have mbj := getD_memN (l := ixB n) (k := j) (by omega)
  have mak := getD_memN (l := ixA n) (k := k) (by omega)
  have mbk := getD_memN (l := ixB n) (k := k) (by omega)
  rw [if_neg (fun e => hAB _ maj _ mbk e.symm)]
  by_cases e : k = j
  ·subst e
   exact ⟨by rw [if_pos rfl], by rw [if_pos rfl]⟩
  ·have := ih j (by omega)
   rw [if_neg (fun h => e (nodup_at hA (by omega) (by omega) h)), if_neg (fun h => e (nodup_at hB (by omega) (by omega) h)), if_neg (fun h => hAB _ mak _ mbj h)]
   exact this
theorem pFmt_bd {n v : Nat} {xs : List Int} (hv : v < 32) (h : ∀ x ∈ xs, -1 ≤ x ∧ x ≤ 1) : ∀ k, ∀ x ∈ pFmt n (fmtW v) xs k, -1 ≤ x ∧ x ≤ 1
 | 0 => h
 | k + 1 => fun x hx => by
  have ih := pFmt_bd (n := n) hv h k
  have hw : 0 ≤ (fmtW v).getD k 0 ∧ (fmtW v).getD k 0 ≤ 1 := by
   by_cases hk : k < (fmtW v).length
   ·exact fmtW_bd v hv _ (getD_mem hk)
   ·rw [List.getD_eq_getElem?_getD, List.getElem?_eq_none (by omega)]; simp
  unfold pFmt at hx
  rcases List.mem_or_eq_of_mem_set hx with hx | rfl
  ·rcases List.mem_or_eq_of_mem_set hx with hx | rfl
   ·exact ih x hx
   ·omega
  ·omega
theorem FmtK.start {n v : Nat} {xs : List Int} (hv : v < 32) (hn : 17 ≤ n ∧ n ≤ 41) (h4 : n % 4 = 1) (hl : xs.length = n * n) (h : ∀ x ∈ xs, -1 ≤ x ∧ x ≤ 1) : FmtK n (fmtW v) 0 (pFmt n (fmtW v) xs 15) := by
 have la : (ixA n).length = 15 := by unfold ixA; rw [List.length_map]; rfl
 have lb : (ixB n).length = 15 := by unfold ixB; rw [List.length_map]; rfl
 have hat := pFmt_at (ws := fmtW v) hn h4 hl 15 (Nat.le_refl _)
 have hw : ∀ k, 0 ≤ (fmtW v).getD k 0 := fun k => by
  by_cases hk : k < (fmtW v).length
  ·exact (fmtW_bd v hv _ (getD_mem hk)).1
  ·rw [List.getD_eq_getElem?_getD, List.getElem?_eq_none (by omega)]; simp
 have eA : ∀ j, j < 15 → (atL (pFmt n (fmtW v) xs 15) (ixA n)).getD j 0 = (fmtW v).getD j 0 := fun j hj => by rw [atL_at _ _ (by omega), (hat j hj).1]
 have eB : ∀ j, j < 15 → (atL (pFmt n (fmtW v) xs 15) (ixB n)).getD j 0 = (fmtW v).getD j 0 := fun j hj => by rw [atL_at _ _ (by omega), (hat j hj).2]
 have nA : ∀ (ys : List Int) (is : List Nat) (k : Nat), is.length = 15 → ¬ k < 15 → (atL ys is).getD k 0 = 0 := fun ys is k hi hk => atL_out _ _ (by omega)
 refine ⟨by rw [pFmt_len]; exact hl, pFmt_bd hv h 15, ⟨fun k => ?_, ?_⟩, fun k => ?_, ?_⟩
 ·by_cases hk : k < 15
  ·rw [eA k hk]; exact hw k
  ·rw [nA _ _ _ la hk]; exact Int.le_refl 0
 ·rw [difTo_self 15 eA]; exact Nat.le_refl 0
 ·by_cases hk : k < 15
  ·rw [eB k hk]; exact hw k
  ·rw [nA _ _ _ lb hk]; exact Int.le_refl 0
 ·rw [difTo_self 15 eB]; exact Nat.le_refl 0
theorem FmtK.mat {n : Nat} {ws ys : List Int} {j : Nat} (h : FmtK n ws j ys) (hn : 17 ≤ n ∧ n ≤ 41) (h4 : n % 4 = 1) : matOK n n ys := by
 have hle : n * n ≤ 41 * 41 := Nat.mul_le_mul hn.2 hn.2
 refine ⟨⟨by omega, by omega, ?_, by rw [h.1]; simp, h.2.1⟩, rfl, by omega, by omega⟩
 have : ((n * n : Nat) : Int) ≤ 1681 := by omega
 rw [Int.natCast_mul] at this
 omega
theorem FmtK.read {n v j : Nat} {ys : List Int} (hv : v < 32) (h : FmtK n (fmtW v) j ys) (hj : j ≤ 3) (hn : 17 ≤ n ∧ n ≤ 41) (h4 : n % 4 = 1) : rfV n n ys = ((v : Int), 0) := by
 have hm := h.mat hn h4
 unfold rfV
 rw [if_neg (not_not_intro hm), Int.toNat_natCast, cellsA, cellsB]
 exact share_is hv h.2.2.1.1 h.2.2.2.1 (Nat.le_trans h.2.2.1.2 hj) (Nat.le_trans h.2.2.2.2 hj)
def DiceN (n0 : Nat) (w : World) (g : Nat) : Prop := ∃ (p : Option Addr) (code : List Int) (c i : Nat) (h : Int), Blk w g #[.slice p code.length c, .int .i64 i, .int .u64 h] 82 ∧ U8At w p code ∧ (∀ b o, 0 < code.length → p = some ⟨b, o, none⟩ → b ≠ g ∧ b < n0) ∧ i ≤ code.length ∧ code.length ≤ 4096
theorem DiceN.ext {n0 : Nat} {w w' : World} {g : Nat} (h : DiceN n0 w g) (hb : Ext w w') : DiceN n0 w' g := by
 obtain ⟨p, code, c, i, hh, h1, h2, h3⟩ := h
 exact ⟨p, code, c, i, hh, h1.ext hb, h2.ext hb, h3⟩
theorem DiceN.lt {n0 : Nat} {w : World} {g : Nat} (h : DiceN n0 w g) : g < w.heap.size := by
 obtain ⟨_, _, _, _, _, h1, _⟩ := h
 exact h1.lt
theorem DiceN.setFar {n0 : Nat} {w : World} {g b i : Nat} {v : Value} (h : DiceN n0 w g) (hne : g ≠ b) (hb : n0 ≤ b) : DiceN n0 (w.setCell ⟨b, i, none⟩ v) g := by
 obtain ⟨p, code, c, j, x, h1, h2, h3, h4⟩ := h
 exact ⟨p, code, c, j, x, h1.far hne v, h2.but (But.set w b i v) (fun b' o' hn e => by have := (h3 b' o' hn e).2; omega), h3, h4⟩
end Go.Proofs.YtdnkljpnhmcnpaaGreat
