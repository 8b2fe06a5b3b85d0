/- The text of a job, and how its lines tell it: plain laws. -/
import Derived.Test.YthpnkcamjcohgaaGreatDoorLJobsReadK16
import Derived.Test.YthpnkcamjcohgaaGreatDoorLJobsReadK12
namespace Go.Proofs.YthpnkcamjcohgaaGreatDoor
set_option linter.unusedVariables false
set_option linter.unusedSimpArgs false
open Go.RowKit

/-- Cells that are known. -/
def z1 (xs : List Int) : Prop := ∀ x ∈ xs, x = 0 ∨ x = 1
/-- How many cells of a run stand open before cell k. -/
def penR (xs : List Int) : Nat → Nat
  | 0 => 0
  | k + 1 => if k + 1 = xs.length ∨ xs.getD (k + 1) 0 ≠ xs.getD k 0 then 0 else penR xs k + 1
def letB (x : Int) : ByteArray := if x = 1 then ⟨#[98]⟩ else ⟨#[97]⟩
/-- The text of the runs that end before cell k. -/
def rowR (xs : List Int) : Nat → ByteArray
  | 0 => ByteArray.empty
  | k + 1 => if k + 1 = xs.length ∨ xs.getD (k + 1) 0 ≠ xs.getD k 0 then rowR xs k ++ dec ((penR xs k + 1 : Nat) : Int) ++ letB (xs.getD k 0) else rowR xs k
theorem rowR_cut {xs : List Int} {k : Nat} (h : k + 1 = xs.length ∨ xs.getD (k + 1) 0 ≠ xs.getD k 0) : rowR xs (k + 1) = rowR xs k ++ dec ((penR xs k + 1 : Nat) : Int) ++ letB (xs.getD k 0) ∧ penR xs (k + 1) = 0 := ⟨if_pos h, if_pos h⟩
theorem rowR_go {xs : List Int} {k : Nat} (h : ¬ (k + 1 = xs.length ∨ xs.getD (k + 1) 0 ≠ xs.getD k 0)) : rowR xs (k + 1) = rowR xs k ∧ penR xs (k + 1) = penR xs k + 1 := ⟨if_neg h, if_neg h⟩
theorem penR_le (xs : List Int) : ∀ k, penR xs k ≤ k
  | 0 => Nat.le_refl _
  | k + 1 => by
    have := penR_le xs k
    unfold penR
    split <;> omega
theorem penR_eq (xs : List Int) : ∀ k, k < xs.length → ∀ i, k - penR xs k ≤ i → i ≤ k → xs.getD i 0 = xs.getD k 0
  | 0, _, i, _, h => by rw [show i = 0 by omega]
  | k + 1, hk, i, h1, h2 => by
    by_cases hi : i = k + 1
    · rw [hi]
    · unfold penR at h1
      split at h1
      · omega
      · rename_i hc
        simp only [not_or, Classical.not_not] at hc
        rw [hc.2]
        exact penR_eq xs k (by omega) i (by omega) (by omega)
theorem penR_end {xs : List Int} (h : 0 < xs.length) : penR xs xs.length = 0 := by
  obtain ⟨k, hk⟩ : ∃ k, xs.length = k + 1 := ⟨xs.length - 1, by omega⟩
  rw [hk]
  unfold penR
  rw [if_pos (.inl hk.symm)]
open Classical in
/-- One byte of a band's line: how many rows, the cells, open digits (m: as the program reads it; else as the reference does). -/
noncomputable def stepJ (m : Bool) (C : Nat) : Option (Nat × List Int × List UInt8) → UInt8 → Option (Nat × List Int × List UInt8)
  | none, _ => none
  | some (c, r, d), b =>
    if b = 120 then (if Numl d ∧ r = [] ∧ (if m = true then c = 1 else 1 ≤ nvF 0 d ∧ nvF 0 d ≤ 40000) then some (nvF 0 d, [], []) else none)
    else if b = 97 ∨ b = 98 then (if Numl d ∧ 1 ≤ nvF 0 d ∧ nvF 0 d + r.length ≤ C then some (c, r ++ List.replicate (nvF 0 d) ((b.toNat : Int) - 97), []) else none)
    else if isDg b ∧ (m = true → d.length < 6) then some (c, r, d ++ [b]) else none
open Classical in
theorem stepJ_some (m : Bool) (C c : Nat) (r : List Int) (d : List UInt8) (b : UInt8) : stepJ m C (some (c, r, d)) b =
    (if b = 120 then (if Numl d ∧ r = [] ∧ (if m = true then c = 1 else 1 ≤ nvF 0 d ∧ nvF 0 d ≤ 40000) then some (nvF 0 d, [], []) else none)
    else if b = 97 ∨ b = 98 then (if Numl d ∧ 1 ≤ nvF 0 d ∧ nvF 0 d + r.length ≤ C then some (c, r ++ List.replicate (nvF 0 d) ((b.toNat : Int) - 97), []) else none)
    else if isDg b ∧ (m = true → d.length < 6) then some (c, r, d ++ [b]) else none) := rfl
noncomputable def foldJ (m : Bool) (C : Nat) (l : List UInt8) (st : Option (Nat × List Int × List UInt8)) : Option (Nat × List Int × List UInt8) := l.foldl (stepJ m C) st
theorem foldJ_app (m : Bool) (C : Nat) (l k : List UInt8) (st) : foldJ m C (l ++ k) st = foldJ m C k (foldJ m C l st) := List.foldl_append
theorem foldJ_none (m : Bool) (C : Nat) : ∀ l, foldJ m C l none = none
  | [] => rfl
  | _ :: l => foldJ_none m C l
theorem dg_ne {b : UInt8} (h : isDg b) : b ≠ 120 ∧ b ≠ 97 ∧ b ≠ 98 ∧ b ≠ 10 ∧ b ≠ 32 := by
  unfold isDg at h
  refine ⟨?_, ?_, ?_, ?_, ?_⟩ <;> (rintro rfl; simp at h)
theorem foldJ_dg (m : Bool) (C c : Nat) (r : List Int) : ∀ (l d : List UInt8), (∀ b ∈ l, isDg b) → d.length + l.length ≤ 6 → foldJ m C l (some (c, r, d)) = some (c, r, d ++ l)
  | [], d, _, _ => by rw [List.append_nil]; rfl
  | b :: l, d, h, hl => by
    have hb := h b (by simp)
    obtain ⟨h1, h2, h3, -, -⟩ := dg_ne hb
    have hs : stepJ m C (some (c, r, d)) b = some (c, r, d ++ [b]) := by
      rw [stepJ_some, if_neg h1, if_neg (by simp [h2, h3]), if_pos ⟨hb, fun _ => by simp at hl; omega⟩]
    show foldJ m C l (stepJ m C (some (c, r, d)) b) = _
    rw [hs, foldJ_dg m C c r l _ (fun x hx => h x (by simp [hx])) (by simp at hl ⊢; omega), List.append_assoc]
    rfl
theorem dec_len : ∀ (k n : Nat), n < 10 ^ (k + 1) → (Lib.decDigits n).length ≤ k + 1
  | 0, n, h => by rw [Lib.decDigits, dif_pos (by simpa using h)]; simp
  | k + 1, n, h => by
    by_cases h1 : n < 10
    · rw [Lib.decDigits, dif_pos h1]; simp
    · rw [Lib.decDigits, dif_neg h1, List.length_append]
      have := dec_len k (n / 10) (by rw [Nat.pow_succ] at h; omega)
      simp only [List.length_singleton]; omega
theorem foldJ_dec (m : Bool) (C c n : Nat) (r : List Int) (hn : n ≤ 999999) : foldJ m C (Lib.decDigits n) (some (c, r, [])) = some (c, r, Lib.decDigits n) := by
  have h := dec_len 5 n (by omega)
  rw [foldJ_dg m C c r _ [] (dec_num n).2.1.2.1 (by simp; omega)]
  rfl
theorem letB_list {x : Int} (h : x = 0 ∨ x = 1) : ∃ b : UInt8, (letB x).data.toList = [b] ∧ (b = 97 ∨ b = 98) ∧ (b.toNat : Int) - 97 = x := by
  rcases h with rfl | rfl
  · exact ⟨97, rfl, .inl rfl, rfl⟩
  · exact ⟨98, rfl, .inr rfl, rfl⟩
theorem foldJ_run (m : Bool) (C c n : Nat) (r : List Int) (x : Int) (hx : x = 0 ∨ x = 1) (h1 : 1 ≤ n) (h2 : n + r.length ≤ C) (hn : n ≤ 999999) :
    foldJ m C (Lib.decDigits n ++ (letB x).data.toList) (some (c, r, [])) = some (c, r ++ List.replicate n x, []) := by
  obtain ⟨b, e1, e2, e3⟩ := letB_list hx
  rw [foldJ_app, foldJ_dec m C c n r hn, e1]
  show stepJ m C (some (c, r, Lib.decDigits n)) b = _
  have hb : b ≠ 120 := by rcases e2 with rfl | rfl <;> decide
  have hv := (dec_num n).1
  rw [stepJ_some, if_neg hb, if_pos e2, hv, if_pos ⟨(dec_num n).2.1, h1, h2⟩, e3]
theorem app_list (a b : ByteArray) : (a ++ b).data.toList = a.data.toList ++ b.data.toList := by simp
theorem take_run {xs : List Int} {k p : Nat} (hk : k < xs.length) (hp : p ≤ k) (he : ∀ i, k - p ≤ i → i ≤ k → xs.getD i 0 = xs.getD k 0) :
    xs.take (k - p) ++ List.replicate (p + 1) (xs.getD k 0) = xs.take (k + 1) := by
  apply List.ext_getElem?
  intro i
  by_cases h1 : i < k - p
  · rw [List.getElem?_append_left (by rw [List.length_take]; omega), List.getElem?_take_of_lt h1, List.getElem?_take_of_lt (by omega)]
  · rw [List.getElem?_append_right (by rw [List.length_take]; omega), List.length_take]
    by_cases h2 : i < k + 1
    · have hi := he i (by omega) (by omega)
      rw [List.getElem?_replicate, if_pos (by omega), List.getElem?_take_of_lt h2, List.getElem?_eq_getElem (by omega)]
      rw [List.getD_eq_getElem?_getD, List.getElem?_eq_getElem (by omega)] at hi
      exact congrArg some hi.symm
    · rw [List.getElem?_replicate, if_neg (by omega), List.getElem?_eq_none (by rw [List.length_take]; omega)]
theorem z1_at {xs : List Int} (h : z1 xs) {k : Nat} (hk : k < xs.length) : xs.getD k 0 = 0 ∨ xs.getD k 0 = 1 := at_all (P := fun x => x = 0 ∨ x = 1) hk h
theorem rowR_fold (m : Bool) (C c : Nat) {xs : List Int} (hz : z1 xs) (hC : xs.length ≤ C) (h4 : xs.length ≤ 40000) :
    ∀ k, k ≤ xs.length → foldJ m C (rowR xs k).data.toList (some (c, [], [])) = some (c, xs.take (k - penR xs k), [])
  | 0, _ => rfl
  | k + 1, hk => by
    have ih := rowR_fold m C c hz hC h4 k (by omega)
    have hp := penR_le xs k
    by_cases hc : k + 1 = xs.length ∨ xs.getD (k + 1) 0 ≠ xs.getD k 0
    · rw [(rowR_cut hc).1, (rowR_cut hc).2, app_list, app_list, dec_list, List.append_assoc, foldJ_app, ih]
      rw [foldJ_run m C c (penR xs k + 1) _ _ (z1_at hz (by omega)) (by omega) (by rw [List.length_take]; omega) (by omega)]
      rw [take_run (by omega) hp (penR_eq xs k (by omega))]
      rfl
    · rw [(rowR_go hc).1, (rowR_go hc).2, ih, show k + 1 - (penR xs k + 1) = k - penR xs k by omega]
def xB : ByteArray := ⟨#[120]⟩
def nlB : ByteArray := ⟨#[10]⟩
/-- The text of a band of n rows that are xs. -/
def bandT (n : Int) (xs : List Int) : ByteArray := (if 1 < n then dec n ++ xB else ByteArray.empty) ++ rowR xs xs.length
theorem band_fold (m : Bool) (n : Nat) {xs : List Int} (hz : z1 xs) (h0 : 0 < xs.length) (h4 : xs.length ≤ 40000) (h1 : 1 ≤ n) (hn : n ≤ 40000) :
    foldJ m xs.length (bandT n xs).data.toList (some (1, [], [])) = some (n, xs, []) := by
  have hr := rowR_fold m xs.length n hz (Nat.le_refl _) h4 xs.length (Nat.le_refl _)
  rw [penR_end h0, Nat.sub_zero, List.take_length] at hr
  unfold bandT
  rw [app_list, foldJ_app]
  have hp : foldJ m xs.length (if 1 < (n : Int) then dec n ++ xB else ByteArray.empty).data.toList (some (1, [], [])) = some (n, [], []) := by
    split
    · rw [app_list, dec_list, foldJ_app, foldJ_dec m _ _ n _ (by omega)]
      show stepJ m xs.length (some (1, [], Lib.decDigits n)) 120 = _
      have hv := (dec_num n).1
      rw [stepJ_some, if_pos rfl, hv, if_pos ⟨(dec_num n).2.1, rfl, by cases m <;> simp <;> omega⟩]
    · rw [show n = 1 by omega]; rfl
  rw [hp, hr]
theorem rowR_mem {xs : List Int} (hz : z1 xs) : ∀ k, k ≤ xs.length → ∀ b ∈ (rowR xs k).data.toList, isDg b ∨ b = 97 ∨ b = 98
  | 0, _, b, hb => by simp [rowR] at hb
  | k + 1, hk, b, hb => by
    have ih := rowR_mem hz k (by omega)
    unfold rowR at hb
    split at hb
    · obtain ⟨y, e1, e2, -⟩ := letB_list (z1_at hz (show k < xs.length by omega))
      rw [app_list, app_list, dec_list, e1] at hb
      simp only [List.mem_append, List.mem_singleton] at hb
      rcases hb with (hb | hb) | rfl
      · exact ih b hb
      · exact .inl ((dec_num _).2.1.2.1 b hb)
      · exact .inr e2
    · exact ih b hb
theorem band_nl {n : Int} {xs : List Int} (hz : z1 xs) (hn : 0 ≤ n) : (10 : UInt8) ∉ (bandT n xs).data.toList := fun hb => by
  unfold bandT at hb
  rw [app_list, List.mem_append] at hb
  rcases hb with hb | hb
  · split at hb
    · obtain ⟨u, rfl⟩ := Int.eq_ofNat_of_zero_le hn
      rw [app_list, List.mem_append] at hb
      rcases hb with hb | hb
      · exact (dg_ne ((dec_num u).2.1.2.1 _ (by rw [← dec_list]; exact hb))).2.2.2.1 rfl
      · simp [xB] at hb
    · simp at hb
  · rcases rowR_mem hz _ (Nat.le_refl _) _ hb with h | h | h
    · exact (dg_ne h).2.2.2.1 rfl
    · simp at h
    · simp at h
/-- The rows ahead of band i. -/
def sumN (L : List Int) (i : Nat) : Nat := ((L.take i).map Int.toNat).sum
theorem sumN_succ {L : List Int} {i : Nat} (h : i < L.length) : sumN L (i + 1) = sumN L i + (L.getD i 0).toNat := by
  unfold sumN
  rw [List.take_succ_eq_append_getElem h, List.map_append, List.sum_append, List.getD_eq_getElem?_getD, List.getElem?_eq_getElem h]
  simp
theorem sumN_app {L M : List Int} {i : Nat} (h : i ≤ L.length) : sumN (L ++ M) i = sumN L i := by
  unfold sumN
  rw [List.take_append_of_le_length h]
theorem sumN_mono (L : List Int) {i j : Nat} (h : i ≤ j) : sumN L i ≤ sumN L j := by
  induction j with
  | zero => rw [show i = 0 by omega]; exact Nat.le_refl _
  | succ j ih =>
    by_cases e : i = j + 1
    · rw [e]; exact Nat.le_refl _
    · have h1 := ih (by omega)
      by_cases hj : j < L.length
      · rw [sumN_succ hj]; omega
      · have : sumN L (j + 1) = sumN L j := by unfold sumN; rw [List.take_of_length_le (by omega), List.take_of_length_le (by omega)]
        omega
/-- What the bands of the first k rows are. -/
structure BandsOK (C : Nat) (xs : List Int) (k : Nat) (L : List Int) : Prop where
  pos : ∀ x ∈ L, 1 ≤ x
  sum : sumN L L.length = k
  same : ∀ i, i < L.length → ∀ j, j < (L.getD i 0).toNat → rowL C xs (sumN L i + j) = rowL C xs (sumN L i)
theorem getD_app_last (L : List Int) (x : Int) : (L ++ [x]).getD L.length 0 = x := by simp
theorem getD_app_lt {L M : List Int} {i : Nat} (h : i < L.length) : (L ++ M).getD i 0 = L.getD i 0 := by
  rw [List.getD_eq_getElem?_getD, List.getD_eq_getElem?_getD, List.getElem?_append_left h]
theorem bandsTo_ok (C : Nat) (xs : List Int) : ∀ k, BandsOK C xs k (bandsTo C xs k)
  | 0 => ⟨by simp [bandsTo], rfl, fun i h => by simp [bandsTo] at h⟩
  | k + 1 => by
    obtain ⟨h1, h2, h3⟩ := bandsTo_ok C xs k
    have hb := bandsTo_bd C xs k
    rw [bandsTo_succ]
    generalize bandsTo C xs k = L at *
    split
    · rename_i hc
      obtain ⟨hk, hr⟩ := hc
      have hne : L ≠ [] := List.length_pos_iff.1 (hb.2.1 hk)
      obtain ⟨M, x, rfl⟩ : ∃ M x, L = M ++ [x] := ⟨L.dropLast, L.getLast hne, (List.dropLast_concat_getLast hne).symm⟩
      have hx := h1 x (by simp)
      have hi : incLast (M ++ [x]) = M ++ [x + 1] := by
        unfold incLast
        simp [List.set_append]
      rw [hi]
      have hl : (M ++ [x]).length = M.length + 1 := by simp
      have hl2 : (M ++ [x + 1]).length = M.length + 1 := by simp
      rw [hl, sumN_succ (by rw [hl]; omega), sumN_app (Nat.le_refl _), getD_app_last] at h2
      refine ⟨fun y hy => ?_, ?_, fun i hi2 j hj => ?_⟩
      · rw [List.mem_append, List.mem_singleton] at hy
        rcases hy with hy | rfl
        · exact h1 y (by simp [hy])
        · omega
      · rw [hl2, sumN_succ (by rw [hl2]; omega), sumN_app (Nat.le_refl _), getD_app_last]
        omega
      · by_cases e : i = M.length
        · subst e
          rw [getD_app_last] at hj
          have h4 := h3 M.length (by rw [hl]; omega)
          rw [getD_app_last] at h4
          rw [sumN_app (Nat.le_refl _)] at h4 ⊢
          by_cases ej : j < x.toNat
          · exact h4 j ej
          · have h5 := h4 (x.toNat - 1) (by omega)
            rw [show sumN M M.length + j = k by omega, hr, ← h5]
            congr 1
            omega
        · have hi3 : i < M.length := by omega
          have h4 := h3 i (by omega)
          rw [getD_app_lt hi3, sumN_app (by omega)] at h4
          rw [getD_app_lt hi3] at hj
          rw [sumN_app (by omega)]
          exact h4 j hj
    · have hl : (L ++ [(1 : Int)]).length = L.length + 1 := by simp
      refine ⟨fun y hy => ?_, ?_, fun i hi2 j hj => ?_⟩
      · rw [List.mem_append, List.mem_singleton] at hy
        rcases hy with hy | rfl
        · exact h1 y hy
        · omega
      · rw [hl, sumN_succ (by rw [hl]; omega), sumN_app (Nat.le_refl _), getD_app_last, h2]
        rfl
      · by_cases e : i = L.length
        · subst e
          rw [getD_app_last] at hj
          rw [show j = 0 by omega, Nat.add_zero]
        · have hi3 : i < L.length := by omega
          rw [getD_app_lt hi3] at hj
          rw [sumN_app (by omega)]
          exact h3 i hi3 j hj
open Classical in
/-- One line: the cells with the rows of its band. -/
noncomputable def lineJ (m : Bool) (R C : Nat) : Option (List Int) → List UInt8 → Option (List Int)
  | none, _ => none
  | some cs, l => match foldJ m C l (some (1, [], [])) with
    | some (n, r, d) => if (m = true → d = []) ∧ r.length = C ∧ cs.length + n * C ≤ R * C then some (cs ++ (List.replicate n r).flatten) else none
    | none => none
open Classical in
theorem lineJ_some (m : Bool) (R C n : Nat) (cs r : List Int) (d l : List UInt8) (h : foldJ m C l (some (1, [], [])) = some (n, r, d)) :
    lineJ m R C (some cs) l = if (m = true → d = []) ∧ r.length = C ∧ cs.length + n * C ≤ R * C then some (cs ++ (List.replicate n r).flatten) else none := by
  show (match foldJ m C l (some (1, [], [])) with
    | some (n, r, d) => if (m = true → d = []) ∧ r.length = C ∧ cs.length + n * C ≤ R * C then some (cs ++ (List.replicate n r).flatten) else none
    | none => none) = _
  rw [h]
noncomputable def rowsJ (m : Bool) (R C : Nat) (ls : List (List UInt8)) : Option (List Int) := ls.foldl (lineJ m R C) (some [])
def lineT (C : Nat) (xs L : List Int) (i : Nat) : ByteArray := bandT (L.getD i 0) (rowL C xs (sumN L i))
def linesT (C : Nat) (xs L : List Int) : List (List UInt8) := (List.range L.length).map fun i => (lineT C xs L i).data.toList
/-- A grid that has a job. -/
structure okJ (R C : Nat) (xs : List Int) : Prop where
  r1 : 1 ≤ R
  c1 : 1 ≤ C
  le : R * C ≤ 40000
  len : xs.length = R * C
  known : z1 xs
theorem okJ.cle {R C : Nat} {xs : List Int} (h : okJ R C xs) : C ≤ 40000 := by
  have h1 := h.le
  have : 1 * C ≤ R * C := Nat.mul_le_mul_right _ h.r1
  omega
theorem okJ.rle {R C : Nat} {xs : List Int} (h : okJ R C xs) : R ≤ 40000 := by
  have h1 := h.le
  have : R * 1 ≤ R * C := Nat.mul_le_mul_left _ h.c1
  omega
theorem rowL_z1 {C : Nat} {xs : List Int} (h : z1 xs) (k : Nat) : z1 (rowL C xs k) := fun x hx => h x (List.mem_of_mem_drop (List.mem_of_mem_take hx))
theorem take_rows {C k n : Nat} {xs : List Int} (hl : (k + n) * C ≤ xs.length) (h : ∀ j, j < n → rowL C xs (k + j) = rowL C xs k) :
    xs.take (k * C) ++ (List.replicate n (rowL C xs k)).flatten = xs.take ((k + n) * C) := by
  induction n with
  | zero => simp
  | succ n ih =>
    have e1 : (k + (n + 1)) * C = (k + n) * C + C := by rw [← Nat.add_assoc, Nat.add_mul (k + n), Nat.one_mul]
    rw [e1] at hl ⊢
    have ih' := ih (by omega) (fun j hj => h j (by omega))
    rw [List.replicate_succ', List.flatten_append, ← List.append_assoc, ih']
    have hr := h n (by omega)
    rw [List.flatten_singleton, ← hr]
    unfold rowL
    rw [List.take_add]
theorem rows_take (m : Bool) {R C : Nat} {xs : List Int} (h : okJ R C xs) {L : List Int} (hL : BandsOK C xs R L) : ∀ i, i ≤ L.length → rowsJ m R C ((linesT C xs L).take i) = some (xs.take (sumN L i * C))
  | 0, _ => by simp [rowsJ, sumN]
  | i + 1, hi => by
    have ih := rows_take m h hL i (by omega)
    have hi2 : i < L.length := by omega
    have hs := sumN_succ hi2
    have hm := sumN_mono L (show i + 1 ≤ L.length from hi)
    rw [hL.sum] at hm
    have hx := at_all (P := fun x => 1 ≤ x) hi2 hL.pos
    obtain ⟨n, hn⟩ : ∃ n : Nat, L.getD i 0 = n := ⟨(L.getD i 0).toNat, by omega⟩
    have hsame := hL.same i hi2
    rw [hn, Int.toNat_natCast] at hsame hs
    have hlen : (sumN L i + n) * C ≤ xs.length := by
      rw [h.len]
      exact Nat.mul_le_mul_right _ (by omega)
    have hk : sumN L i < R := by omega
    have hrl : (rowL C xs (sumN L i)).length = C := rowL_len h.len hk
    have hll : (linesT C xs L)[i]? = some (lineT C xs L i).data.toList := by
      unfold linesT
      rw [List.getElem?_map, List.getElem?_range hi2]; rfl
    rw [List.take_add_one, hll]
    show ((linesT C xs L).take i ++ [_]).foldl (lineJ m R C) (some []) = _
    rw [List.foldl_append]
    show lineJ m R C (rowsJ m R C _) _ = _
    rw [ih]
    have hf := band_fold m n (rowL_z1 (C := C) h.known (sumN L i)) (by rw [hrl]; exact h.c1) (by rw [hrl]; exact h.cle) (by omega) (by have := h.rle; omega)
    rw [hrl] at hf
    unfold lineT
    rw [hn, lineJ_some m R C n _ _ _ _ hf]
    have hcs : (xs.take (sumN L i * C)).length = sumN L i * C := by
      rw [List.length_take]
      have : sumN L i * C ≤ (sumN L i + n) * C := Nat.mul_le_mul_right _ (by omega)
      omega
    rw [if_pos ⟨fun _ => rfl, hrl, by rw [hcs, ← Nat.add_mul, ← h.len]; exact hlen⟩, take_rows hlen hsame, hs]
theorem rows_all (m : Bool) {R C : Nat} {xs : List Int} (h : okJ R C xs) {L : List Int} (hL : BandsOK C xs R L) : rowsJ m R C (linesT C xs L) = some xs := by
  have := rows_take m h hL L.length (Nat.le_refl _)
  rw [List.take_of_length_le (by simp [linesT]), hL.sum, ← h.len, List.take_length] at this
  exact this
/-- The bands' text. -/
def bdT (C : Nat) (xs L : List Int) : Nat → ByteArray
  | 0 => ByteArray.empty
  | i + 1 => bdT C xs L i ++ lineT C xs L i ++ nlB
def pgB : ByteArray := ⟨#[112, 97, 103, 101, 32]⟩
def enB : ByteArray := ⟨#[101, 110, 100, 10]⟩
def headT (R C : Nat) : ByteArray := pgB ++ (dec R ++ spB ++ dec C)
/-- The text of a job. -/
def jobT (R C : Nat) (xs : List Int) : ByteArray := headT R C ++ nlB ++ bdT C xs (bandsTo C xs R) (bandsTo C xs R).length ++ enB
theorem bdT_list (C : Nat) (xs L : List Int) : ∀ i, i ≤ L.length → (bdT C xs L i).data.toList = ((linesT C xs L).take i).flatMap (· ++ [10])
  | 0, _ => by simp [bdT]
  | i + 1, hi => by
    have ih := bdT_list C xs L i (by omega)
    have hll : (linesT C xs L)[i]? = some (lineT C xs L i).data.toList := by
      unfold linesT
      rw [List.getElem?_map, List.getElem?_range (by omega)]; rfl
    unfold bdT
    rw [app_list, app_list, ih, List.take_add_one, hll, List.flatMap_append, List.append_assoc]
    simp [nlB]
theorem spl_lines {y : UInt8} : ∀ (ls : List (List UInt8)) (t : List UInt8), (∀ l ∈ ls, y ∉ l) → spl y (ls.flatMap (· ++ [y]) ++ t) = ls ++ spl y t
  | [], t, _ => rfl
  | l :: ls, t, h => by
    rw [List.flatMap_cons, List.append_assoc, List.append_assoc]
    show spl y (l ++ y :: (ls.flatMap (· ++ [y]) ++ t)) = _
    rw [spl_pre _ (h l (by simp)), spl_lines ls t (fun x hx => h x (by simp [hx]))]
    rfl
theorem dec_no (n : Nat) {b : UInt8} (hb : b = 10 ∨ b = 32) : b ∉ (dec n).data.toList := fun h => by
  rw [dec_list] at h
  have := dg_ne ((dec_num n).2.1.2.1 _ h)
  rcases hb with rfl | rfl
  · exact this.2.2.2.1 rfl
  · exact this.2.2.2.2 rfl
theorem head_nl (R C : Nat) : (10 : UInt8) ∉ (headT R C).data.toList := fun h => by
  unfold headT at h
  rw [app_list, app_list, app_list] at h
  simp only [List.mem_append] at h
  rcases h with h | (h | h) | h
  · simp [pgB] at h
  · exact dec_no R (.inl rfl) h
  · simp [spB] at h
  · exact dec_no C (.inl rfl) h
def pgW : List UInt8 := [112, 97, 103, 101]
theorem head_spl (R C : Nat) : spl 32 (headT R C).data.toList = [pgW, (dec R).data.toList, (dec C).data.toList] := by
  unfold headT
  rw [app_list, app_list, app_list]
  have e : pgB.data.toList ++ ((dec R).data.toList ++ spB.data.toList ++ (dec C).data.toList) = pgW ++ 32 :: ((dec R).data.toList ++ 32 :: (dec C).data.toList) := by
    rw [List.append_assoc]
    rfl
  rw [e, spl_pre _ (by decide), spl_pre _ (dec_no R (.inr rfl)), spl_none (dec_no C (.inr rfl))]
def enW : List UInt8 := [101, 110, 100]
/-- The lines of a job. -/
theorem job_spl {R C : Nat} {xs : List Int} (h : okJ R C xs) :
    spl 10 (jobT R C xs).data.toList = (headT R C).data.toList :: (linesT C xs (bandsTo C xs R) ++ [enW, []]) := by
  have hL := bandsTo_ok C xs R
  unfold jobT
  generalize bandsTo C xs R = L at *
  rw [app_list, app_list, app_list, bdT_list C xs L _ (Nat.le_refl _), List.take_of_length_le (by simp [linesT])]
  have e : (headT R C).data.toList ++ nlB.data.toList ++ (linesT C xs L).flatMap (· ++ [10]) ++ enB.data.toList = (headT R C).data.toList ++ 10 :: ((linesT C xs L).flatMap (· ++ [10]) ++ (enW ++ 10 :: [])) := by
    rw [List.append_assoc, List.append_assoc]
    rfl
  rw [e, spl_pre _ (head_nl R C), spl_lines _ _ ?_, spl_pre _ (by decide)]
  · rfl
  · intro l hl
    unfold linesT at hl
    obtain ⟨i, hi, rfl⟩ := List.mem_map.1 hl
    have hi2 : i < L.length := List.mem_range.1 hi
    have hx := at_all (P := fun x => 1 ≤ x) hi2 hL.pos
    exact band_nl (rowL_z1 h.known _) (by omega)
theorem job_inj {R C R' C' : Nat} {xs xs' : List Int} (h : okJ R C xs) (h' : okJ R' C' xs') (e : jobT R C xs = jobT R' C' xs') : R = R' ∧ C = C' ∧ xs = xs' := by
  have h1 := job_spl h
  rw [e, job_spl h'] at h1
  simp only [List.cons.injEq] at h1
  obtain ⟨h1, h2⟩ := h1
  have h3 := head_spl R C
  rw [← h1, head_spl] at h3
  simp only [List.cons.injEq, true_and, and_true] at h3
  have hd : ∀ {a b : Nat}, (dec a).data.toList = (dec b).data.toList → a = b := fun {a b} h => by
    have := dec_val (n := a)
    rw [h, dec_val] at this
    exact this.symm
  obtain rfl := hd h3.1
  obtain rfl := hd h3.2
  refine ⟨rfl, rfl, ?_⟩
  have h4 := List.append_cancel_right h2
  have h5 := rows_all true h (bandsTo_ok C' xs R')
  rw [← h4, rows_all true h' (bandsTo_ok C' xs' R')] at h5
  exact (Option.some.inj h5).symm
end Go.Proofs.YthpnkcamjcohgaaGreatDoor
