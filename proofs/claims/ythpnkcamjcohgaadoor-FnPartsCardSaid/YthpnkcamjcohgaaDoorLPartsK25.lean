/- The best segmentation is the shortest one. -/
import Derived.Test.YthpnkcamjcohgaaDoorLPartsK14
namespace Go.Proofs.YthpnkcamjcohgaaDoor
set_option linter.unusedVariables false
set_option linter.unusedSimpArgs false
open Go.RowKit

theorem ext_none {a : ByteArray} {i j : Nat} (h : a.size ≤ i ∨ j ≤ i) : a.extract i j = ByteArray.empty := by
  apply ByteArray.ext
  rw [ByteArray.data_extract]
  apply Array.eq_empty_of_size_eq_zero
  have hl : a.data.size = a.size := rfl
  rw [Array.size_extract]
  omega
theorem ext_all (a : ByteArray) : a.extract 0 a.size = a := by simp
theorem app_pre_le {a b : ByteArray} {k : Nat} (h : k ≤ a.size) : (a ++ b).extract 0 k = a.extract 0 k := by
  rw [ByteArray.extract_append, ext_none (a := b) (.inr (by omega)), ByteArray.append_empty]
theorem app_suf_ge {a b : ByteArray} {k : Nat} (h : a.size ≤ k) : (a ++ b).extract k (a.size + b.size) = b.extract (k - a.size) b.size := by
  rw [ByteArray.extract_append, ext_none (a := a) (.inl h), ByteArray.empty_append, Nat.add_sub_cancel_left]
theorem upd_le {b x : Cell} : (b.upd x).len ≤ x.len ∧ (b.cnt ≠ 0 → (b.upd x).len ≤ b.len) := by
  unfold Cell.upd
  by_cases h0 : b.cnt = 0
  · rw [if_pos (.inl h0)]
    exact ⟨Int.le_refl _, fun h => absurd h0 h⟩
  · by_cases hb : x.better b = true
    · rw [if_pos (.inr hb)]
      refine ⟨Int.le_refl _, fun _ => ?_⟩
      unfold Cell.better at hb
      split at hb
      · have := of_decide_eq_true hb; omega
      · omega
    · rw [if_neg (by simp [h0, hb])]
      refine ⟨?_, fun _ => Int.le_refl _⟩
      unfold Cell.better at hb
      split at hb
      · simp at hb; omega
      · omega
theorem foldT_le {L : Nat → Cell} {d : Nat} {m : Int} {b : Cell} (hL : ∀ j, 0 ≤ (L j).cnt) (hm : 1 ≤ m) (hb : b.cnt = 0 ∨ b.good) : ∀ T, (b.cnt ≠ 0 → (foldT L d m b T).len ≤ b.len) ∧ ∀ t, 1 ≤ t → t ≤ T → (foldT L d m b T).len ≤ (cand L d m t).len := by
  intro T
  induction T with
  | zero => exact ⟨fun _ => Int.le_refl _, fun t h1 h2 => by omega⟩
  | succ T ih =>
    have hz := foldT_zero (d := d) hL hm hb T
    have hu := upd_le (b := foldT L d m b T) (x := cand L d m (T + 1))
    refine ⟨fun h0 => ?_, fun t h1 h2 => ?_⟩
    · show ((foldT L d m b T).upd (cand L d m (T + 1))).len ≤ b.len
      have hn : (foldT L d m b T).cnt ≠ 0 := by
        cases T with
        | zero => exact h0
        | succ T =>
          have := foldT_good (d := d) hL hm hb (T + 1) (by omega)
          simp only [Cell.good] at this
          omega
      exact Int.le_trans (hu.2 hn) (ih.1 h0)
    · show ((foldT L d m b T).upd (cand L d m (T + 1))).len ≤ (cand L d m t).len
      by_cases e : t = T + 1
      · subst e; exact hu.1
      · have hn : (foldT L d m b T).cnt ≠ 0 := by
          have := foldT_good (d := d) hL hm hb T (by omega)
          simp only [Cell.good] at this
          omega
        exact Int.le_trans (hu.2 hn) (ih.2 t h1 (by omega))
theorem foldM_le {s : ByteArray} {L : Nat → Cell} {d : Nat} (hL : ∀ j, 0 ≤ (L j).cnt) : ∀ M, ∀ m t : Nat, 1 ≤ m → m ≤ M → 1 ≤ t → t ≤ farF m s d → (foldM s L d M).len ≤ (cand L d m t).len := by
  intro M
  induction M with
  | zero => intro m t h1 h2; omega
  | succ M ih =>
    intro m t h1 h2 h3 h4
    have hz := foldM_zero (s := s) (d := d) hL M
    have hf := foldT_le (d := d) (m := ((M + 1 : Nat) : Int)) hL (by omega) hz (farF ((M + 1 : Nat) : Int) s d)
    show (foldT L d ((M + 1 : Nat) : Int) (foldM s L d M) (farF ((M + 1 : Nat) : Int) s d)).len ≤ _
    by_cases e : m = M + 1
    · subst e; exact hf.2 t h3 h4
    · have hi := ih m t h1 (by omega) h3 h4
      have hn : (foldM s L d M).cnt ≠ 0 := by
        rcases hz with h0 | h0
        · exfalso
          -- some candidate was there, so the count is not zero
          have : ∀ K, m ≤ K → (foldM s L d K).good := by
            intro K
            induction K with
            | zero => intro h; omega
            | succ K ihK =>
              intro hK
              have hzK := foldM_zero (s := s) (d := d) hL K
              by_cases e2 : m = K + 1
              · subst e2
                exact foldT_good hL (by omega) hzK _ (fun h => by omega)
              · have hg := ihK (by omega)
                exact foldT_good hL (by omega) hzK _ (fun _ => hg)
          have := this M (by omega)
          simp only [Cell.good] at this
          omega
        · simp only [Cell.good] at h0; omega
      exact Int.le_trans (hf.1 hn) hi
theorem cell_le (s : ByteArray) {d m t : Nat} (hd : 1 ≤ d) (hm : 1 ≤ m ∧ m ≤ 4) (ht : 1 ≤ t) (hf : t ≤ farF m s d) : (cell s d).len ≤ segW m t + (cell s (d - t)).len := by
  obtain ⟨k, rfl⟩ : ∃ k, d = k + 1 := ⟨d - 1, by omega⟩
  have hL : ∀ j, 0 ≤ (cell s j).cnt := fun j => (cell_ok s j).2.2.1
  rw [cell_succ]
  exact foldM_le hL 4 m t hm.1 hm.2 ht hf
theorem far_of (s : ByteArray) {d t : Nat} {m : Int} (hd : d ≤ s.size) (ht : t ≤ d) (h255 : t ≤ 255) (h : AllIn m (s.extract (s.size - d) (s.size - d + t))) : t ≤ farF m s d := by
  by_cases e : t ≤ farF m s d
  · exact e
  · exfalso
    have hsz : (s.extract (s.size - d) (s.size - d + t)).size = t := by rw [ByteArray.size_extract]; omega
    rcases farF_stop m s d hd with h1 | h1 | h1
    · omega
    · omega
    · have := h (farF m s d) (by omega)
      rw [ByteArray.getElem_extract] at this
      rw [byteAt_eq (show s.size - d + farF m s d < s.size by omega)] at h1
      omega
theorem append_split {a b s : ByteArray} {i j : Nat} (hj : j ≤ s.size) (hi : i ≤ j) (h : a ++ b = s.extract i j) : a = s.extract i (i + a.size) ∧ b = s.extract (i + a.size) j ∧ i + a.size ≤ j := by
  have hs : a.size + b.size = j - i := by
    have := congrArg ByteArray.size h
    rw [ByteArray.size_append, ByteArray.size_extract] at this
    omega
  refine ⟨?_, ?_, by omega⟩
  · have h1 := congrArg (fun x : ByteArray => x.extract 0 a.size) h
    simp only [ByteArray.extract_extract] at h1
    have h2 : (a ++ b).extract 0 a.size = a := by rw [app_pre_le (Nat.le_refl _), ext_all]
    rw [h2, Nat.add_zero, Nat.min_eq_left (by omega)] at h1
    exact h1
  · have h1 := congrArg (fun x : ByteArray => x.extract a.size (a.size + b.size)) h
    simp only [ByteArray.extract_extract] at h1
    have h2 : (a ++ b).extract a.size (a.size + b.size) = b := by rw [app_suf_ge (Nat.le_refl _), Nat.sub_self, ext_all]
    rw [h2, Nat.min_eq_right (by omega)] at h1
    exact h1
theorem segsOK_cons {x : Sg} {xs : List Sg} (h : segsOK (x :: xs)) : IsSeg x.1 x.2 ∧ segsOK xs := ⟨h x (by simp), fun y hy => h y (by simp [hy])⟩
theorem segsSum_cons (x : Sg) (xs : List Sg) : segsSum (x :: xs) = segLen x.1 x.2 + segsSum xs := by simp [segsSum]
theorem cell_best (s : ByteArray) : ∀ xs, segsOK xs → ∀ d, d ≤ s.size → joined xs = s.extract (s.size - d) s.size → (cell s d).len ≤ segsSum xs := by
  intro xs
  induction xs with
  | nil =>
    intro _ d hd h
    have := congrArg ByteArray.size h
    rw [ByteArray.size_extract] at this
    simp [joined] at this
    have e : d = 0 := by omega
    subst e
    simp [cell_zero, Cell.zero, segsSum]
  | cons x xs ih =>
    intro hok d hd h
    obtain ⟨hx, hxs⟩ := segsOK_cons hok
    rw [joined_cons] at h
    obtain ⟨h1, h2, h3⟩ := append_split (Nat.le_refl _) (by omega) h
    have hsz := hx.2.1
    have hi := ih hxs (d - x.2.size) (by omega) (by rw [h2]; congr 1; omega)
    have hall := hx.2.2
    rw [h1] at hall
    have hf := far_of s hd (show x.2.size ≤ d by omega) hsz.2 hall
    obtain ⟨m, hm⟩ : ∃ m : Nat, x.1 = m := ⟨x.1.toNat, by have := hx.1; omega⟩
    have hm4 := hx.1
    rw [hm] at hf hm4
    have hc := cell_le s (d := d) (m := m) (t := x.2.size) (by omega) (by omega) hsz.1 hf
    rw [segsSum_cons, segLen, hm]
    unfold segW at hc
    omega
/-- No segmentation is shorter. -/
theorem best_le {s : ByteArray} {xs : List Sg} (h : segsOK xs) (hj : joined xs = s) : (cell s s.size).len ≤ segsSum xs :=
  cell_best s xs h s.size (Nat.le_refl _) (by rw [hj, Nat.sub_self]; simp)
theorem bests_whole (s : ByteArray) : joined (bests s s.size) = s := by
  rw [bests_joined s s.size (Nat.le_refl _), Nat.sub_self]
  simp
theorem joined_append (xs ys : List Sg) : joined (xs ++ ys) = joined xs ++ joined ys := by
  induction xs with
  | nil => simp [joined]
  | cons x xs ih => rw [List.cons_append, joined_cons, joined_cons, ih, ByteArray.append_assoc]
theorem segsSum_append (xs ys : List Sg) : segsSum (xs ++ ys) = segsSum xs + segsSum ys := by simp [segsSum]
theorem segsOK_append {xs ys : List Sg} (h : segsOK xs) (k : segsOK ys) : segsOK (xs ++ ys) := fun x hx => by
  rcases List.mem_append.1 hx with h' | h'
  · exact h x h'
  · exact k x h'
theorem segsSum_nil : segsSum [] = 0 := rfl
theorem joined_nil : joined [] = ByteArray.empty := rfl
end Go.Proofs.YthpnkcamjcohgaaDoor
