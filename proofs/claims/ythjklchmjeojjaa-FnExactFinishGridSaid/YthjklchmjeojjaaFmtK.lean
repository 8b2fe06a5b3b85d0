
/- Plain facts: a written format stands at both lists of places, and a few turned cells leave it near. -/
import Derived.Test.YthjklchmjeojjaaMat
import Derived.Test.YthjklchmjeojjaaDraw
namespace Go.Proofs.Ythjklchmjeojjaa
set_option linter.unusedVariables false
set_option linter.unusedSimpArgs false
open Go.RowKit

/-- The indices of all places of a format. -/
def ixA (n : Nat) : List Nat := aPl.map (plIx n)
def ixB (n : Nat) : List Nat := (bPl n).map (plIx n)
theorem ix_ok : ∀ m : Nat, m < 7 → (ixA (17 + 4 * m) ++ ixB (17 + 4 * m)).Nodup := by decide +kernel
theorem ix_nodup {n : Nat} (h : 17 ≤ n ∧ n ≤ 41) (h4 : n % 4 = 1) : (ixA n ++ ixB n).Nodup := by
  obtain ⟨m, rfl⟩ : ∃ m, n = 17 + 4 * m := ⟨(n - 17) / 4, by omega⟩
  exact ix_ok m (by omega)
theorem ixA_at (n k : Nat) (hk : k < 15) : (ixA n).getD k 0 = plIx n (aPl.getD k (0, 0)) := by
  unfold ixA
  rw [List.getD_eq_getElem?_getD, List.getD_eq_getElem?_getD, List.getElem?_map, List.getElem?_eq_getElem (show k < aPl.length from hk)]; rfl
theorem ixB_at (n k : Nat) (hk : k < 15) : (ixB n).getD k 0 = plIx n ((bPl n).getD k (0, 0)) := by
  unfold ixB
  rw [List.getD_eq_getElem?_getD, List.getD_eq_getElem?_getD, List.getElem?_map, List.getElem?_eq_getElem (show k < (bPl n).length from hk)]; rfl
/-- The cells at some indices. -/
def atL (xs : List Int) (is : List Nat) : List Int := is.map fun i => xs.getD i 0
theorem cellsA (n : Nat) (xs : List Int) : cellsL n xs aPl = atL xs (ixA n) := by
  unfold cellsL atL ixA; rw [List.map_map]; rfl
theorem cellsB (n : Nat) (xs : List Int) : cellsL n xs (bPl n) = atL xs (ixB n) := by
  unfold cellsL atL ixB; rw [List.map_map]; rfl
theorem atL_at (xs : List Int) (is : List Nat) {k : Nat} (hk : k < is.length) : (atL xs is).getD k 0 = xs.getD (is.getD k 0) 0 := by
  unfold atL
  rw [List.getD_eq_getElem?_getD, List.getElem?_map, List.getElem?_eq_getElem hk, List.getD_eq_getElem?_getD (l := is), List.getElem?_eq_getElem hk]; rfl
theorem atL_out (xs : List Int) (is : List Nat) {k : Nat} (hk : ¬ k < is.length) : (atL xs is).getD k 0 = 0 := by
  rw [List.getD_eq_getElem?_getD, List.getElem?_eq_none (by unfold atL; rw [List.length_map]; omega)]; rfl
theorem getD_set {xs : List Int} {i j : Nat} {v : Int} (hi : i < xs.length) : (xs.set i v).getD j 0 = if i = j then v else xs.getD j 0 := by
  by_cases h : i = j
  · subst h
    rw [if_pos rfl, List.getD_eq_getElem?_getD, List.getElem?_set_self hi]; rfl
  · rw [if_neg h, List.getD_eq_getElem?_getD, List.getElem?_set_ne h, ← List.getD_eq_getElem?_getD]
theorem nodup_at {is : List Nat} (h : is.Nodup) {i j : Nat} (hi : i < is.length) (hj : j < is.length) (e : is.getD i 0 = is.getD j 0) : i = j := by
  rw [List.getD_eq_getElem?_getD, List.getD_eq_getElem?_getD, List.getElem?_eq_getElem hi, List.getElem?_eq_getElem hj] at e
  exact (List.getElem_inj h).1 e
/-- Turning the cell of one place turns one of the cells read. -/
theorem atL_set {xs : List Int} {is : List Nat} (h : is.Nodup) {k : Nat} (hk : k < is.length) (hx : is.getD k 0 < xs.length) (v : Int) (j : Nat) :
    (atL (xs.set (is.getD k 0) v) is).getD j 0 = if k = j then v else (atL xs is).getD j 0 := by
  by_cases hj : j < is.length
  · rw [atL_at _ _ hj, getD_set hx, atL_at _ _ hj]
    by_cases e : k = j
    · rw [if_pos e, if_pos (by rw [e])]
    · rw [if_neg e, if_neg (fun h' => e (nodup_at h hk hj h'))]
  · rw [if_neg (by omega), atL_out _ _ hj, atL_out _ _ hj]
theorem atL_far {xs : List Int} {is : List Nat} {i : Nat} (h : i ∉ is) (v : Int) : atL (xs.set i v) is = atL xs is := by
  unfold atL
  refine List.map_congr_left fun j hj => ?_
  rw [List.getD_eq_getElem?_getD, List.getElem?_set_ne (fun e => h (by rw [e]; exact hj)), ← List.getD_eq_getElem?_getD]
theorem difTo_s (w l : List Int) (k : Nat) : difTo w l (k + 1) = difTo w l k + if l.getD k 0 < 0 then 0 else if l.getD k 0 = w.getD k 0 then 0 else 1 := rfl
theorem difTo_eq {w l l' : List Int} : ∀ k, (∀ j, j < k → l.getD j 0 = l'.getD j 0) → difTo w l k = difTo w l' k
  | 0, _ => rfl
  | k + 1, h => by
    rw [difTo_s, difTo_s, difTo_eq k (fun j hj => h j (by omega)), h k (by omega)]
theorem difTo_turn {w l l' : List Int} {i : Nat} : ∀ k, (∀ j, j ≠ i → l.getD j 0 = l'.getD j 0) → difTo w l k ≤ difTo w l' k + if i < k then 1 else 0
  | 0, _ => by simp [difTo]
  | k + 1, h => by
    have ih := difTo_turn (w := w) (i := i) k h
    rw [difTo_s, difTo_s]
    generalize difTo w l k = A at *
    generalize difTo w l' k = B at *
    by_cases e : k = i
    · subst e
      rw [if_neg (Nat.lt_irrefl k)] at ih
      rw [if_pos (Nat.lt_succ_self k)]
      have : (if l.getD k 0 < 0 then 0 else if l.getD k 0 = w.getD k 0 then 0 else 1) ≤ 1 := by split <;> (try split) <;> omega
      omega
    · rw [h k e]
      by_cases e2 : i < k
      · rw [if_pos e2] at ih; rw [if_pos (show i < k + 1 by omega)]; omega
      · rw [if_neg e2] at ih; rw [if_neg (show ¬ i < k + 1 by omega)]; omega
/-- At most j wrong cells in each list of places; none is unknown. -/
def FmtK (n : Nat) (ws : List Int) (j : Nat) (ys : List Int) : Prop :=
  ys.length = n * n ∧ (∀ y ∈ ys, -1 ≤ y ∧ y ≤ 1) ∧ ((∀ k, 0 ≤ (atL ys (ixA n)).getD k 0) ∧ difTo ws (atL ys (ixA n)) 15 ≤ j) ∧ ((∀ k, 0 ≤ (atL ys (ixB n)).getD k 0) ∧ difTo ws (atL ys (ixB n)) 15 ≤ j)
theorem getD_memN {l : List Nat} {k : Nat} (h : k < l.length) : l.getD k 0 ∈ l := by
  rw [List.getD_eq_getElem?_getD, List.getElem?_eq_getElem h]; exact List.getElem_mem _
theorem FmtK.turn {n : Nat} {ws : List Int} {j : Nat} {ys : List Int} (h : FmtK n ws j ys) (hn : 17 ≤ n ∧ n ≤ 41) (h4 : n % 4 = 1) {k m : Nat} (hk : k < 15) (hm : m < 15) {u v : Int} (hu : 0 ≤ u ∧ u ≤ 1) (hv : 0 ≤ v ∧ v ≤ 1) :
    FmtK n ws (j + 1) ((ys.set (plIx n (aPl.getD k (0, 0))) u).set (plIx n ((bPl n).getD m (0, 0))) v) := by
  obtain ⟨h1, h2, ⟨h3, h5⟩, h6, h7⟩ := h
  have hnd := ix_nodup hn h4
  obtain ⟨hA, hB, hAB⟩ := List.nodup_append.1 hnd
  have ia := plIx_eq (aPl_in hn.1 _ (getD_mem (d := (0, 0)) (show k < aPl.length from hk))).1 (aPl_in hn.1 _ (getD_mem (d := (0, 0)) (show k < aPl.length from hk))).2
  have ib := plIx_eq (bPl_bd hn.1 _ (getD_mem (d := (0, 0)) (show m < (bPl n).length from hm))).1 (bPl_bd hn.1 _ (getD_mem (d := (0, 0)) (show m < (bPl n).length from hm))).2
  rw [← ixA_at n k hk] at ia ⊢
  rw [← ixB_at n m hm] at ib ⊢
  have la : (ixA n).length = 15 := by unfold ixA; rw [List.length_map]; rfl
  have lb : (ixB n).length = 15 := by unfold ixB; rw [List.length_map]; rfl
  have ma := getD_memN (l := ixA n) (k := k) (by omega)
  have mb := getD_memN (l := ixB n) (k := m) (by omega)
  have hxl : (ixA n).getD k 0 < ys.length := by rw [h1]; exact ia.2.1
  have hyl : (ixB n).getD m 0 < (ys.set ((ixA n).getD k 0) u).length := by rw [List.length_set, h1]; exact ib.2.1
  refine ⟨by rw [List.length_set, List.length_set]; exact h1, ?_, ?_, ?_⟩
  · intro y hy
    rcases List.mem_or_eq_of_mem_set hy with hy | rfl
    · rcases List.mem_or_eq_of_mem_set hy with hy | rfl
      · exact h2 y hy
      · omega
    · omega
  · rw [atL_far (fun hb => hAB _ hb _ mb rfl)]
    have e := atL_set hA (by omega) hxl u
    refine ⟨fun i => ?_, ?_⟩
    · rw [e]; split
      · exact hu.1
      · exact h3 i
    · have := difTo_turn (w := ws) (l := atL (ys.set ((ixA n).getD k 0) u) (ixA n)) (l' := atL ys (ixA n)) (i := k) 15 (fun i hi => by rw [e, if_neg (Ne.symm hi)])
      rw [if_pos hk] at this
      omega
  · have e := atL_set (xs := ys.set ((ixA n).getD k 0) u) hB (by omega) hyl v
    have e2 : atL (ys.set ((ixA n).getD k 0) u) (ixB n) = atL ys (ixB n) := atL_far (fun hb => hAB _ ma _ hb rfl) u
    rw [e2] at e
    refine ⟨fun i => ?_, ?_⟩
    · rw [e]; split
      · exact hv.1
      · exact h6 i
    · have := difTo_turn (w := ws) (l := atL ((ys.set ((ixA n).getD k 0) u).set ((ixB n).getD m 0) v) (ixB n)) (l' := atL ys (ixB n)) (i := m) 15 (fun i hi => by rw [e, if_neg (Ne.symm hi)])
      rw [if_pos hm] at this
      omega
theorem difTo_self {w l : List Int} : ∀ k, (∀ j, j < k → l.getD j 0 = w.getD j 0) → difTo w l k = 0
  | 0, _ => rfl
  | k + 1, h => by
    rw [difTo_s, difTo_self k (fun j hj => h j (by omega)), h k (by omega)]
    split <;> simp
/-- A format that has been written is in its places. -/
theorem pFmt_at {n : Nat} {ws xs : List Int} (hn : 17 ≤ n ∧ n ≤ 41) (h4 : n % 4 = 1) (hl : xs.length = n * n) : ∀ k, k ≤ 15 →
    ∀ j, j < k → (pFmt n ws xs k).getD ((ixA n).getD j 0) 0 = ws.getD j 0 ∧ (pFmt n ws xs k).getD ((ixB n).getD j 0) 0 = ws.getD j 0
  | 0, _, j, hj => absurd hj (Nat.not_lt_zero j)
  | k + 1, hk, j, hj => by
    have ih := pFmt_at (ws := ws) hn h4 hl k (by omega)
    have hnd := ix_nodup hn h4
    obtain ⟨hA, hB, hAB⟩ := List.nodup_append.1 hnd
    have hla := pFmt_len n ws xs k
    have la : (ixA n).length = 15 := by unfold ixA; rw [List.length_map]; rfl
    have lb : (ixB n).length = 15 := by unfold ixB; rw [List.length_map]; rfl
    have ia := (plIx_eq (aPl_in hn.1 _ (getD_mem (d := (0, 0)) (show k < aPl.length from by show k < 15; omega))).1 (aPl_in hn.1 _ (getD_mem (d := (0, 0)) (show k < aPl.length from by show k < 15; omega))).2).2.1
    have ib := (plIx_eq (bPl_bd hn.1 _ (getD_mem (d := (0, 0)) (show k < (bPl n).length from by show k < 15; omega))).1 (bPl_bd hn.1 _ (getD_mem (d := (0, 0)) (show k < (bPl n).length from by show k < 15; omega))).2).2.1
    unfold pFmt
    rw [← ixA_at n k (by omega)] at ia ⊢
    rw [← ixB_at n k (by omega)] at ib ⊢
    rw [getD_set (by rw [List.length_set, hla, hl]; exact ib), getD_set (by rw [hla, hl]; exact ia), getD_set (by rw [List.length_set, hla, hl]; exact ib), getD_set (by rw [hla, hl]; exact ia)]
    have maj := getD_memN (l := ixA n) (k := j) (by omega)
    have mbj := getD_memN (l := ixB n) (k := j) (by omega)
    have mak := getD_memN (l := ixA n) (k := k) (by omega)
    have mbk := getD_memN (l := ixB n) (k := k) (by omega)
    rw [if_neg (fun e => hAB _ maj _ mbk e.symm)]
    by_cases e : k = j
    · subst e
      exact ⟨by rw [if_pos rfl], by rw [if_pos rfl]⟩
    · have := ih j (by omega)
      rw [if_neg (fun h => e (nodup_at hA (by omega) (by omega) h)), if_neg (fun h => e (nodup_at hB (by omega) (by omega) h)), if_neg (fun h => hAB _ mak _ mbj h)]
      exact this
theorem pFmt_bd {n v : Nat} {xs : List Int} (hv : v < 32) (h : ∀ x ∈ xs, -1 ≤ x ∧ x ≤ 1) : ∀ k, ∀ x ∈ pFmt n (fmtW v) xs k, -1 ≤ x ∧ x ≤ 1
  | 0 => h
  | k + 1 => fun x hx => by
    have ih := pFmt_bd (n := n) hv h k
    have hw : 0 ≤ (fmtW v).getD k 0 ∧ (fmtW v).getD k 0 ≤ 1 := by
      by_cases hk : k < (fmtW v).length
      · exact fmtW_bd v hv _ (getD_mem hk)
      · rw [List.getD_eq_getElem?_getD, List.getElem?_eq_none (by omega)]; simp
    unfold pFmt at hx
    rcases List.mem_or_eq_of_mem_set hx with hx | rfl
    · rcases List.mem_or_eq_of_mem_set hx with hx | rfl
      · exact ih x hx
      · omega
    · omega
theorem FmtK.start {n v : Nat} {xs : List Int} (hv : v < 32) (hn : 17 ≤ n ∧ n ≤ 41) (h4 : n % 4 = 1) (hl : xs.length = n * n) (h : ∀ x ∈ xs, -1 ≤ x ∧ x ≤ 1) : FmtK n (fmtW v) 0 (pFmt n (fmtW v) xs 15) := by
  have la : (ixA n).length = 15 := by unfold ixA; rw [List.length_map]; rfl
  have lb : (ixB n).length = 15 := by unfold ixB; rw [List.length_map]; rfl
  have hat := pFmt_at (ws := fmtW v) hn h4 hl 15 (Nat.le_refl _)
  have hw : ∀ k, 0 ≤ (fmtW v).getD k 0 := fun k => by
    by_cases hk : k < (fmtW v).length
    · exact (fmtW_bd v hv _ (getD_mem hk)).1
    · rw [List.getD_eq_getElem?_getD, List.getElem?_eq_none (by omega)]; simp
  have eA : ∀ j, j < 15 → (atL (pFmt n (fmtW v) xs 15) (ixA n)).getD j 0 = (fmtW v).getD j 0 := fun j hj => by rw [atL_at _ _ (by omega), (hat j hj).1]
  have eB : ∀ j, j < 15 → (atL (pFmt n (fmtW v) xs 15) (ixB n)).getD j 0 = (fmtW v).getD j 0 := fun j hj => by rw [atL_at _ _ (by omega), (hat j hj).2]
  have nA : ∀ (ys : List Int) (is : List Nat) (k : Nat), is.length = 15 → ¬ k < 15 → (atL ys is).getD k 0 = 0 := fun ys is k hi hk => atL_out _ _ (by omega)
  refine ⟨by rw [pFmt_len]; exact hl, pFmt_bd hv h 15, ⟨fun k => ?_, ?_⟩, fun k => ?_, ?_⟩
  · by_cases hk : k < 15
    · rw [eA k hk]; exact hw k
    · rw [nA _ _ _ la hk]; exact Int.le_refl 0
  · rw [difTo_self 15 eA]; exact Nat.le_refl 0
  · by_cases hk : k < 15
    · rw [eB k hk]; exact hw k
    · rw [nA _ _ _ lb hk]; exact Int.le_refl 0
  · rw [difTo_self 15 eB]; exact Nat.le_refl 0
theorem FmtK.mat {n : Nat} {ws ys : List Int} {j : Nat} (h : FmtK n ws j ys) (hn : 17 ≤ n ∧ n ≤ 41) (h4 : n % 4 = 1) : matOK n n ys := by
  have hle : n * n ≤ 41 * 41 := Nat.mul_le_mul hn.2 hn.2
  refine ⟨⟨by omega, by omega, ?_, by rw [h.1]; simp, h.2.1⟩, rfl, by omega, by omega⟩
  have : ((n * n : Nat) : Int) ≤ 1681 := by omega
  rw [Int.natCast_mul] at this
  omega
theorem FmtK.read {n v j : Nat} {ys : List Int} (hv : v < 32) (h : FmtK n (fmtW v) j ys) (hj : j ≤ 3) (hn : 17 ≤ n ∧ n ≤ 41) (h4 : n % 4 = 1) : rfV n n ys = ((v : Int), 0) := by
  have hm := h.mat hn h4
  unfold rfV
  rw [if_neg (not_not_intro hm), Int.toNat_natCast, cellsA, cellsB]
  exact share_is hv h.2.2.1.1 h.2.2.2.1 (Nat.le_trans h.2.2.1.2 hj) (Nat.le_trans h.2.2.2.2 hj)
/-! Dice whose code lies among the first blocks: as in Draw, with this bound kept. -/
/-- Block g holds dice; their code lies below n0. -/
def DiceN (n0 : Nat) (w : World) (g : Nat) : Prop := ∃ (p : Option Addr) (code : List Int) (c i : Nat) (h : Int), Blk w g #[.slice p code.length c, .int .i64 i, .int .u64 h] 63 ∧ U8At w p code ∧ (∀ b o, 0 < code.length → p = some ⟨b, o, none⟩ → b ≠ g ∧ b < n0) ∧ i ≤ code.length ∧ code.length ≤ 4096
theorem DiceN.ext {n0 : Nat} {w w' : World} {g : Nat} (h : DiceN n0 w g) (hb : Ext w w') : DiceN n0 w' g := by
  obtain ⟨p, code, c, i, hh, h1, h2, h3⟩ := h
  exact ⟨p, code, c, i, hh, h1.ext hb, h2.ext hb, h3⟩
theorem DiceN.lt {n0 : Nat} {w : World} {g : Nat} (h : DiceN n0 w g) : g < w.heap.size := by
  obtain ⟨_, _, _, _, _, h1, _⟩ := h
  exact h1.lt
theorem DiceN.setFar {n0 : Nat} {w : World} {g b i : Nat} {v : Value} (h : DiceN n0 w g) (hne : g ≠ b) (hb : n0 ≤ b) : DiceN n0 (w.setCell ⟨b, i, none⟩ v) g := by
  obtain ⟨p, code, c, j, x, h1, h2, h3, h4⟩ := h
  exact ⟨p, code, c, j, x, h1.far hne v, h2.but (But.set w b i v) (fun b' o' hn e => by have := (h3 b' o' hn e).2; omega), h3, h4⟩
set_option maxRecDepth 100000 in
theorem roll_n (n0 : Nat) (p : Option Addr) (c : Nat) (code : List Int) (sd : Int) (w : World) (hx : U8At w p code) (hn0 : ∀ b o, 0 < code.length → p = some ⟨b, o, none⟩ → b < n0) (hl : code.length ≤ 4096) :
    Calls Try.prog 12 #[.slice p code.length c, .int .u64 sd] w fun e w' => (∃ g, e = .returned (.pointer (some ⟨g, 0, none⟩)) ∧ g = w.heap.size ∧ DiceN n0 w' g) ∧ Ext w w' := by
  go_enter Try.func12, Try.ntmps12
  go_wp2
  go_loopw [6] (fun i wr => ∃ (k : Nat) (h : Int), k ≤ code.length ∧ i = .int .i64 k ∧ Blk wr w.heap.size #[.slice p code.length c, .int .i64 0, .int .u64 h] 63 ∧ Ext w wr) (fun i _ => code.length - (intOf i).toNat)
  case atStart => exact ⟨0, _, Nat.zero_le _, rfl, Blk.new w _ _, (by repeat (first | exact Ext.refl _ | assumption | refine Ext.drew ?_ | refine Ext.drewN ?_ _ | refine Ext.iter ?_ _ _ | refine Ext.alloc ?_ _ | refine Ext.setCell ?_ (by first | exact Nat.le_refl _ | (simp <;> omega)) _ | refine Ext.trans2 (by assumption) ?_))⟩
  case round =>
    obtain ⟨k, h, hk, rfl, hb, hext⟩ := hrel
    by_cases hlt : k < code.length
    · obtain ⟨b, o, rfl, hbl, h1, h2, h3⟩ := (hx.ext hext) k hlt
      generalize code.getD k 0 = x at *
      clear hx
      have q0 := hb.cell (i := 2) (v := .int .u64 h) rfl
      have q1 := hb.lt
      have q2 := hb.free
      go_wp2_with fail
      go_region
      all_goals go_wp2
      all_goals go_roundw
      case rel => exact ⟨k + 1, _, hlt, by go_num, hb.set 2 _, (hext.setCell (Nat.le_refl _) _).drew⟩
      case measure => simp [intOf]; omega
    · have hd : DiceN n0 wr w.heap.size := ⟨p, code, c, 0, h, hb, hx.ext hext, fun b o hn e => by
        obtain ⟨b', o', e', hlt', _⟩ := hx 0 hn
        have e2 := hn0 b o hn e
        rw [e] at e'
        simp at e'
        exact ⟨by omega, e2⟩, Nat.zero_le _, hl⟩
      clear hx
      go_wp2
      go_ret
      exact ⟨⟨_, rfl, rfl, hd⟩, hext⟩

/-- A number below n has been rolled; only the dice have turned. -/
def BelowN (n0 g : Nat) (n : Int) (w : World) (e : Ending) (w' : World) : Prop := ∃ x : Int, e = .returned (.int .i64 x) ∧ 0 ≤ x ∧ x < n ∧ DiceN n0 w' g ∧ But g w w'
set_option maxRecDepth 100000 in
theorem below_n (n0 g : Nat) (n : Int) (w : World) (h : DiceN n0 w g) (hn : 1 ≤ n ∧ n ≤ 1099511627776) :
    Calls Try.prog 13 #[.pointer (some ⟨g, 0, none⟩), .int .i64 n] w fun e w' => BelowN n0 g n w e w' := by
  obtain ⟨p, code, c, i, h, hb, hu, hpg, hi, hcl⟩ := h
  have q0 := hb.cell (i := 0) (v := .slice p code.length c) rfl
  have q1 := hb.cell (i := 1) (v := .int .i64 i) rfl
  have q2 := hb.cell (i := 2) (v := .int .u64 h) rfl
  have q3 := hb.lt
  have q4 := hb.free
  have hm1 : ∀ y : Int, 0 ≤ y → 0 ≤ y % n ∧ y % n < n := fun y _ => ⟨Int.emod_nonneg _ (by omega), Int.emod_lt_of_pos _ (by omega)⟩
  have hm1 := Lib.hid hm1
  have hmk := fun a => and_mask a
  have HMK := Lib.hid hmk; clear hmk
  have hM := HMK.out (IntKind.u64.wrap (IntKind.u64.wrap (h * 6364136223846793005) + 1442695040888963407) / 8589934592)
  by_cases hlt : i < code.length
  · obtain ⟨b, o, rfl, hbl, u1, u2, u3⟩ := hu i hlt
    have hbg := (hpg b o (by omega) rfl).1
    have HU := Lib.hid hu; have HP := Lib.hid hpg; clear hu hpg
    generalize code.getD i 0 = x at *
    have hd2 : (i : Int) < code.length := by omega
    go_enter Try.func13, Try.ntmps13
    go_wp2_with fail
    generalize bits BinOp.and IntKind.u64 (IntKind.u64.wrap (IntKind.u64.wrap (h * 6364136223846793005) + 1442695040888963407) / 8589934592) 16777215 = y at *
    generalize IntKind.u64.wrap (IntKind.u64.wrap (h * 6364136223846793005) + 1442695040888963407) / 8589934592 = y2 at *
    generalize IntKind.u64.wrap (IntKind.u64.wrap (h * 6364136223846793005) + 1442695040888963407) = H at *
    go_region
    go_wp2
    have e4 := IntWalk.i64_in x (by omega)
    have e5 := IntWalk.i64_in (y + x) (by omega)
    go_region
    clear e4 e5
    have hB2 := ((hb.set 2 (.int .u64 H)).set 1 (.int .i64 ((i : Int) + 1)))
    have hbt : But g w ((w.setCell ⟨g, 2, none⟩ (.int .u64 H)).setCell ⟨g, 1, none⟩ (.int .i64 ((i : Int) + 1))) := (But.set w g 2 _).trans (But.set _ g 1 _)
    have hfin : DiceN n0 ((w.setCell ⟨g, 2, none⟩ (.int .u64 H)).setCell ⟨g, 1, none⟩ (.int .i64 ((i : Int) + 1))) g := ⟨_, code, c, i + 1, _, hB2, (HU.out.but hbt (fun b o h e => (HP.out b o h e).1)), HP.out, by omega, hcl⟩
    have hfin := Lib.hid hfin
    have hbt := Lib.hid hbt
    go_wp2
    go_ret
    exact ⟨_, rfl, (hm1.out _ (by omega)).1, (hm1.out _ (by omega)).2, hfin.out, by repeat (first | exact hbt.out | refine But.drew ?_ | refine But.drewN ?_ _)⟩
  · have HU := Lib.hid hu; have HP := Lib.hid hpg; clear hu hpg
    have hd2 : ¬ (i : Int) < code.length := by omega
    go_enter Try.func13, Try.ntmps13
    go_wp2_with fail
    generalize bits BinOp.and IntKind.u64 (IntKind.u64.wrap (IntKind.u64.wrap (h * 6364136223846793005) + 1442695040888963407) / 8589934592) 16777215 = y at *
    generalize IntKind.u64.wrap (IntKind.u64.wrap (h * 6364136223846793005) + 1442695040888963407) / 8589934592 = y2 at *
    generalize IntKind.u64.wrap (IntKind.u64.wrap (h * 6364136223846793005) + 1442695040888963407) = H at *
    go_region
    have hB2 := hb.set 2 (.int .u64 H)
    have hbt := But.set w g 2 (.int .u64 H)
    have hfin : DiceN n0 (w.setCell ⟨g, 2, none⟩ (.int .u64 H)) g := ⟨_, code, c, i, _, hB2, (HU.out.but hbt (fun b o h e => (HP.out b o h e).1)), HP.out, by omega, hcl⟩
    have hfin := Lib.hid hfin
    have hbt := Lib.hid hbt
    go_wp2
    go_ret
    exact ⟨_, rfl, (hm1.out _ (by omega)).1, (hm1.out _ (by omega)).2, hfin.out, by repeat (first | exact hbt.out | refine But.drew ?_ | refine But.drewN ?_ _)⟩
end Go.Proofs.Ythjklchmjeojjaa
