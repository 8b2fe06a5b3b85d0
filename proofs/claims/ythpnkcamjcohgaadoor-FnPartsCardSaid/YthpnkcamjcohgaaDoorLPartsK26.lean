/- The best segmentations of the beginnings of a message: plain laws. -/
import Derived.Test.YthpnkcamjcohgaaDoorLPartsK25
namespace Go.Proofs.YthpnkcamjcohgaaDoor
set_option linter.unusedVariables false
set_option linter.unusedSimpArgs false
open Go.RowKit

/-- How many bytes in a row before the place e have a value in mode m; at most 255. -/
def backF (m : Int) (s : ByteArray) : Nat → Nat
  | 0 => 0
  | e + 1 => if charVal m (byteAt s e) < 0 then 0 else min (backF m s e + 1) 255
theorem backF_le (m : Int) (s : ByteArray) (e : Nat) : backF m s e ≤ 255 ∧ backF m s e ≤ e := by
  induction e with
  | zero => simp [backF]
  | succ e ih =>
    simp only [backF]
    split <;> omega
theorem backF_valid (m : Int) (s : ByteArray) : ∀ (e t : Nat), 1 ≤ t → t ≤ backF m s e → 0 ≤ charVal m (byteAt s (e - t)) := by
  intro e
  induction e with
  | zero => intro t h1 h2; simp [backF] at h2; omega
  | succ e ih =>
    intro t h1 h2
    simp only [backF] at h2
    split at h2
    · omega
    · rename_i h0
      by_cases et : t = 1
      · subst et
        rw [Nat.add_sub_cancel]
        omega
      · have := ih (t - 1) (by omega) (by omega)
        rwa [show e - (t - 1) = e + 1 - t by omega] at this
theorem backF_stop (m : Int) (s : ByteArray) : ∀ (e : Nat), backF m s e = 255 ∨ backF m s e = e ∨ charVal m (byteAt s (e - (backF m s e + 1))) < 0 := by
  intro e
  induction e with
  | zero => simp [backF]
  | succ e ih =>
    simp only [backF]
    split
    · rename_i h0
      exact .inr (.inr (by rw [Nat.zero_add, Nat.add_sub_cancel]; exact h0))
    · rename_i h0
      have := backF_le m s e
      rcases ih with h | h | h
      · left; omega
      · by_cases h2 : e + 1 ≤ 255
        · right; left; omega
        · left; omega
      · by_cases h2 : backF m s e + 1 ≤ 255
        · right; right
          rw [Nat.min_eq_left h2, show e + 1 - (backF m s e + 1 + 1) = e - (backF m s e + 1) by omega]
          exact h
        · left; omega
theorem back_of (s : ByteArray) {e t : Nat} {m : Int} (he : e ≤ s.size) (ht : t ≤ e) (h255 : t ≤ 255) (h : AllIn m (s.extract (e - t) e)) : t ≤ backF m s e := by
  by_cases hc : t ≤ backF m s e
  · exact hc
  · exfalso
    have hsz : (s.extract (e - t) e).size = t := by rw [ByteArray.size_extract]; omega
    rcases backF_stop m s e with h1 | h1 | h1
    · omega
    · omega
    · have := h (t - (backF m s e + 1)) (by omega)
      rw [ByteArray.getElem_extract] at this
      rw [byteAt_eq (show e - (backF m s e + 1) < s.size by omega)] at h1
      have e2 : e - t + (t - (backF m s e + 1)) = e - (backF m s e + 1) := by omega
      simp only [e2] at this
      omega
theorem back_in (s : ByteArray) {e t : Nat} {m : Int} (he : e ≤ s.size) (ht : t ≤ backF m s e) : AllIn m (s.extract (e - t) e) := fun j hj => by
  have hl := backF_le m s e
  have hsz : (s.extract (e - t) e).size = t := by rw [ByteArray.size_extract]; omega
  rw [ByteArray.getElem_extract]
  have := backF_valid m s e (t - j) (by omega) (by omega)
  rw [byteAt_eq (show e - (t - j) < s.size by omega)] at this
  have e2 : e - (t - j) = e - t + j := by omega
  simp only [e2] at this
  exact this
/-- The length of the best segmentation of the first e bytes. -/
def pre (s : ByteArray) (e : Nat) : Int := (cell (s.extract 0 e) (s.extract 0 e).size).len
theorem pre_zero (s : ByteArray) : pre s 0 = 0 := by
  unfold pre
  have : s.extract 0 0 = ByteArray.empty := ext_none (.inr (Nat.le_refl _))
  rw [this]
  rfl
theorem pre_bd (s : ByteArray) {e : Nat} (he : e ≤ s.size) : 0 ≤ pre s e ∧ pre s e ≤ 19 * e := by
  have := cell_ok (s.extract 0 e) (s.extract 0 e).size
  have hsz : (s.extract 0 e).size = e := by rw [ByteArray.size_extract]; omega
  unfold pre
  rw [hsz] at this ⊢
  exact ⟨this.1, this.2.1⟩
theorem pre_cand (s : ByteArray) {e n : Nat} {m : Int} (he : e ≤ s.size) (hm : 1 ≤ m ∧ m ≤ 4) (h1 : 1 ≤ n) (hn : n ≤ backF m s e) : pre s e ≤ pre s (e - n) + segW m n := by
  have hl := backF_le m s e
  have hsz : (s.extract (e - n) e).size = n := by rw [ByteArray.size_extract]; omega
  have hS : IsSeg m (s.extract (e - n) e) := ⟨hm, by rw [hsz]; omega, back_in s he hn⟩
  have hb := bests_ok (s.extract 0 (e - n)) _ (Nat.le_refl _)
  have h3 := best_le (s := s.extract 0 e) (xs := bests (s.extract 0 (e - n)) (s.extract 0 (e - n)).size ++ [(m, s.extract (e - n) e)]) (segsOK_append hb (fun y hy => by simp at hy; subst hy; exact hS)) (by
    rw [joined_append, bests_whole, joined_cons, joined_nil, ByteArray.append_empty, ByteArray.extract_append_extract, Nat.min_eq_left (by omega), Nat.max_eq_right (by omega)])
  rw [segsSum_append, bests_sum _ _ (Nat.le_refl _), segsSum_cons, segsSum_nil, segLen] at h3
  dsimp only at h3
  rw [hsz] at h3
  unfold pre segW
  omega
theorem pre_last (s : ByteArray) {e : Nat} (he : e ≤ s.size) (h1 : 1 ≤ e) : ∃ m n : Nat, (1 ≤ m ∧ m ≤ 4) ∧ 1 ≤ n ∧ n ≤ backF m s e ∧ pre s (e - n) + segW m n ≤ pre s e := by
  have hsz : (s.extract 0 e).size = e := by rw [ByteArray.size_extract]; omega
  have hj := bests_whole (s.extract 0 e)
  have hO := bests_ok (s.extract 0 e) _ (Nat.le_refl _)
  have hs := bests_sum (s.extract 0 e) _ (Nat.le_refl _)
  rcases List.eq_nil_or_concat (bests (s.extract 0 e) (s.extract 0 e).size) with h | ⟨xs, y, h⟩
  · rw [h] at hj
    have := congrArg ByteArray.size hj
    rw [hsz, joined_nil] at this
    simp at this
    omega
  · rw [List.concat_eq_append] at h
    rw [h] at hj hO hs
    rw [joined_append, joined_cons, joined_nil, ByteArray.append_empty] at hj
    obtain ⟨p1, p2, p3⟩ := append_split he (Nat.zero_le _) hj
    have hy : IsSeg y.1 y.2 := hO y (by simp)
    have hxs : segsOK xs := fun z hz => hO z (by simp [hz])
    have hsum : (joined xs).size + y.2.size = e := by
      have := congrArg ByteArray.size hj
      rw [hsz, ByteArray.size_append] at this
      exact this
    rw [Nat.zero_add] at p1 p2
    have e1 : (joined xs).size = e - y.2.size := by omega
    have h2 := best_le (s := s.extract 0 (e - y.2.size)) hxs (by rw [← e1]; exact p1)
    rw [segsSum_append, segsSum_cons, segsSum_nil, segLen] at hs
    obtain ⟨m, hm⟩ : ∃ m : Nat, y.1 = m := ⟨y.1.toNat, by have := hy.1; omega⟩
    have hall := hy.2.2
    rw [hm] at hall hs
    have hm4 := hy.1
    have hy2 := hy.2.1
    rw [p2, e1] at hall
    refine ⟨m, y.2.size, by omega, hy2.1, back_of s he (by omega) hy2.2 hall, ?_⟩
    unfold pre segW
    omega
/-- b is the least one of the candidates that were seen: those of the modes below M, and of mode M those of less than t bytes. -/
def Least (s : ByteArray) (e M t : Nat) (b : Int) : Prop :=
  (∀ m n : Nat, 1 ≤ m → m ≤ 4 → 1 ≤ n → n ≤ backF m s e → (m < M ∨ m = M ∧ n < t) → 0 ≤ b ∧ b ≤ pre s (e - n) + segW m n) ∧
  (b = -1 ∨ ∃ m n : Nat, (1 ≤ m ∧ m ≤ 4) ∧ 1 ≤ n ∧ n ≤ backF m s e ∧ b = pre s (e - n) + segW m n)
theorem Least.start (s : ByteArray) (e : Nat) : Least s e 1 1 (-1) := ⟨fun m n h1 _ h2 _ h => by omega, .inl rfl⟩
theorem Least.bd {s : ByteArray} {e M t : Nat} {b : Int} (h : Least s e M t b) (he : e ≤ s.size) : -1 ≤ b ∧ b ≤ 19 * e + 3000 := by
  rcases h.2 with rfl | ⟨m, n, hm, h1, h2, rfl⟩
  · omega
  · have hl := backF_le m s e
    have := pre_bd s (e := e - n) (by omega)
    have h3 := segW_bd m n (by omega)
    omega
theorem Least.upd {s : ByteArray} {e M t : Nat} {b : Int} (h : Least s e M t b) (he : e ≤ s.size) (hM : 1 ≤ M ∧ M ≤ 4) (ht : 1 ≤ t) (hf : t ≤ backF M s e) (hb : b < 0 ∨ pre s (e - t) + segW M t < b) : Least s e M (t + 1) (pre s (e - t) + segW M t) := by
  have hl := backF_le M s e
  have hp := pre_bd s (e := e - t) (by omega)
  have h3 := segW_bd M t (by omega)
  refine ⟨fun m n h1 h2 h4 h5 hv => ⟨by omega, ?_⟩, .inr ⟨M, t, hM, ht, hf, rfl⟩⟩
  by_cases hc : m < M ∨ m = M ∧ n < t
  · have := h.1 m n h1 h2 h4 h5 hc
    omega
  · obtain rfl : m = M := by omega
    obtain rfl : n = t := by omega
    omega
theorem Least.stay {s : ByteArray} {e M t : Nat} {b : Int} (h : Least s e M t b) (hb : ¬ b < 0) (hb2 : ¬ pre s (e - t) + segW M t < b) : Least s e M (t + 1) b := by
  refine ⟨fun m n h1 h2 h4 h5 hv => ?_, h.2⟩
  by_cases hc : m < M ∨ m = M ∧ n < t
  · exact h.1 m n h1 h2 h4 h5 hc
  · obtain rfl : m = M := by omega
    obtain rfl : n = t := by omega
    omega
theorem Least.next {s : ByteArray} {e M t : Nat} {b : Int} (h : Least s e M t b) (ht : t = backF M s e + 1) : Least s e (M + 1) 1 b :=
  ⟨fun m n h1 h2 h4 h5 hv => h.1 m n h1 h2 h4 h5 (by
    by_cases hc : m < M
    · exact .inl hc
    · obtain rfl : m = M := by omega
      exact .inr ⟨rfl, by omega⟩), h.2⟩
theorem Least.done {s : ByteArray} {e : Nat} {b : Int} (h : Least s e 5 1 b) (he : e ≤ s.size) (h1 : 1 ≤ e) : b = pre s e := by
  obtain ⟨m, n, hm, hn1, hn, hle⟩ := pre_last s he h1
  have h2 := h.1 m n hm.1 hm.2 hn1 hn (.inl (by omega))
  rcases h.2 with rfl | ⟨m', n', hm', hn1', hn', rfl⟩
  · omega
  · have := pre_cand s he (m := m') (by omega) hn1' hn'
    omega
end Go.Proofs.YthpnkcamjcohgaaDoor
