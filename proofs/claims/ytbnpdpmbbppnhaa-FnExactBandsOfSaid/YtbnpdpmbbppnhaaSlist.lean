
/- Slices of structs: an argument opened; a table filled from the front. -/
import Derived.Test.YtbnpdpmbbppnhaaStructs
import Derived.Test.YtbnpdpmbbppnhaaRead
namespace Go.Proofs.Ytbnpdpmbbppnhaa
set_option linter.unusedVariables false
set_option linter.unusedSimpArgs false
open Go.RowKit

theorem rd_list {α : Type} [Inhabited α] {f : α → List Value} {k : Nat} {e : Sh} {w : World} {v : Value} (G : α → Prop) (he : e.size = k) (hk : 0 < k)
    (hd : ∀ cs, rd w e cs → ∃ x : α, f x = cs ∧ G x) (h : rd w (.sl e) [v]) : ∃ p cap xs, v = .slice p xs.length cap ∧ xs.length ≤ maxLen ∧ SAt f k w p xs ∧ ∀ x ∈ xs, G x := by
  rcases h with h | ⟨a, len, cap, h, hl, hm, hc⟩
  · simp at h
    exact ⟨none, 0, [], by simpa using h, by simp, SAt.nil _ _, by simp⟩
  · simp at h
    have hx : ∀ i, ∃ x : α, i < len → G x ∧ ∀ j, j < k → w.cell? (a.add (i * k + j)) = (f x)[j]? ∧ (f x).length = k := by
      intro i
      by_cases hi : i < len
      · obtain ⟨cs', h1, h2, h3⟩ := hc i hi
        obtain ⟨x, hx, hg⟩ := hd cs' h3
        exact ⟨x, fun _ => ⟨hg, fun j hj => ⟨by rw [hx, ← h2 j (by omega), he], by rw [hx, h1, he]⟩⟩⟩
      · exact ⟨default, fun h => absurd h hi⟩
    obtain ⟨X, hX⟩ := Classical.axiomOfChoice hx
    refine ⟨some a, cap, (List.range len).map X, by simpa using h, by simp; omega, fun i hi => ?_, fun x hx => ?_⟩
    · simp at hi
      obtain ⟨z0, zl⟩ := (hX 0 (by omega)).2 0 hk
      have z1 := (cell_lt (z0.trans (List.getElem?_eq_getElem (by omega)))).2
      obtain ⟨hg, hcell⟩ := hX i hi
      obtain ⟨h0, hlen⟩ := hcell 0 hk
      have h1 := (cell_lt (h0.trans (List.getElem?_eq_getElem (by omega))))
      obtain ⟨b, o, sp⟩ := a
      have h2 : sp = none := by simpa [Addr.add] using z1
      subst h2
      refine ⟨b, o, rfl, by rw [addr_add] at h1; exact h1.1, fun j u hj => ?_⟩
      simp only [List.getElem_map, List.getElem_range] at hj
      have hjk : j < k := by rw [← hlen]; exact (List.getElem?_eq_some_iff.1 hj).1
      have := (hcell j hjk).1
      rw [addr_add] at this
      rw [Nat.add_assoc, this, hj]
    · simp at hx
      obtain ⟨i, hi, rfl⟩ := hx
      exact (hX i hi).1

/-- Cells from o on are set to vs. -/
def putL (cs : Array Value) (o : Nat) : List Value → Array Value
  | [] => cs
  | v :: vs => putL (cs.setIfInBounds o v) (o + 1) vs
theorem putL_size (vs : List Value) : ∀ (cs : Array Value) (o : Nat), (putL cs o vs).size = cs.size := by
  induction vs with
  | nil => intro cs o; rfl
  | cons v vs ih => intro cs o; rw [putL, ih]; simp
theorem putL_far (vs : List Value) : ∀ (cs : Array Value) (o i : Nat), (i < o ∨ o + vs.length ≤ i) → (putL cs o vs)[i]? = cs[i]? := by
  induction vs with
  | nil => intro cs o i _; rfl
  | cons v vs ih =>
    intro cs o i h
    simp only [List.length_cons] at h
    rw [putL, ih _ _ _ (by omega), Array.getElem?_setIfInBounds_ne (by omega)]
theorem putL_at (vs : List Value) : ∀ (cs : Array Value) (o j : Nat), o + vs.length ≤ cs.size → j < vs.length → (putL cs o vs)[o + j]? = vs[j]? := by
  induction vs with
  | nil => intro cs o j _ h; simp at h
  | cons v vs ih =>
    intro cs o j h hj
    simp only [List.length_cons] at h hj
    rw [putL]
    cases j with
    | zero =>
      rw [putL_far _ _ _ _ (by omega), Nat.add_zero, Array.getElem?_setIfInBounds_self_of_lt (by omega)]
      rfl
    | succ j =>
      rw [show o + (j + 1) = o + 1 + j by omega, ih _ _ _ (by simp; omega) (by omega)]
      rfl

/-- The first i elements of xs stand in the cells. -/
def TabS {α : Type} (f : α → List Value) (k : Nat) (xs : List α) (cs : Array Value) (i : Nat) : Prop :=
  cs.size = xs.length * k ∧ ∀ j (h : j < xs.length), j < i → ∀ q, q < k → cs[j * k + q]? = (f (xs[j]'h))[q]?
section
variable {α : Type} {f : α → List Value} {k : Nat} {xs : List α} {cs : Array Value} {i : Nat}
theorem TabS.step (hf : ∀ x, (f x).length = k) (h : TabS f k xs cs i) (hi : i < xs.length) : TabS f k xs (putL cs (i * k) (f (xs[i]'hi))) (i + 1) := by
  have hb : i * k + k ≤ xs.length * k := by
    have := Nat.mul_le_mul_right k (show i + 1 ≤ xs.length from hi)
    rwa [Nat.add_mul, Nat.one_mul] at this
  refine ⟨by rw [putL_size]; exact h.1, fun j hj hji q hq => ?_⟩
  by_cases e : j = i
  · subst e
    exact putL_at _ _ _ _ (by rw [hf, h.1]; exact hb) (by rw [hf]; exact hq)
  · have hlt : j < i := by omega
    have : j * k + k ≤ i * k := by
      have := Nat.mul_le_mul_right k (show j + 1 ≤ i from hlt)
      rwa [Nat.add_mul, Nat.one_mul] at this
    rw [putL_far _ _ _ _ (by omega)]
    exact h.2 j hj hlt q hq
theorem TabS.own {B : Nat} {w : World} {g : Nat} {t : TypeId} (h : TabS f k xs cs xs.length) (hf : ∀ x, (f x).length = k) (hb : Blk w g cs t) (hB : B ≤ g) : SOwn f k B w (some ⟨g, 0, none⟩) xs := by
  intro j hj
  refine ⟨g, 0, rfl, hB, hb.lt, fun q v hq => ?_, fun q => hb.free q⟩
  have hqk : q < k := by rw [← hf (xs[j]'hj)]; exact (List.getElem?_eq_some_iff.1 hq).1
  rw [Nat.zero_add]
  exact hb.cell ((h.2 j hj hj q hqk).trans hq)
end

end Go.Proofs.Ytbnpdpmbbppnhaa
