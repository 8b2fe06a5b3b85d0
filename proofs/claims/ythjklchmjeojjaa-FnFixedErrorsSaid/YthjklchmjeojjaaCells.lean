
/- Cells of one's own, written one by one. -/
import Derived.Test.YthjklchmjeojjaaStructs
namespace Go.Proofs.Ythjklchmjeojjaa
set_option linter.unusedVariables false
set_option linter.unusedSimpArgs false
open Go.RowKit

/-- The cells at p read as cs, lie from block B on and may be written. -/
def OwnCells (B : Nat) (w : World) (p : Option Addr) (cs : List Value) : Prop :=
  ∀ i (h : i < cs.length), ∃ b o, p = some ⟨b, o, none⟩ ∧ B ≤ b ∧ b < w.heap.size ∧ w.cell? ⟨b, o + i, none⟩ = some (cs[i]'h) ∧ w.frozen? ⟨b, o + i, none⟩ = false
theorem OwnCells.nil (B : Nat) (w : World) (p : Option Addr) : OwnCells B w p [] := fun i hi => absurd hi (Nat.not_lt_zero i)
theorem OwnCells.ext {B : Nat} {w w' : World} {p : Option Addr} {cs : List Value} (h : OwnCells B w p cs) (hb : Ext w w') : OwnCells B w' p cs := fun i hi => by
  obtain ⟨b, o, h1, hB, h2, h3, h4⟩ := h i hi
  obtain ⟨hc, hf, hk, _⟩ := ecell hb
  exact ⟨b, o, h1, hB, hk _ h2, by rw [hc _ _ h2]; exact h3, by rw [hf _ _ h2]; exact h4⟩
theorem OwnCells.mono {B B' : Nat} {w : World} {p : Option Addr} {cs : List Value} (h : OwnCells B w p cs) (hB : B' ≤ B) : OwnCells B' w p cs := fun i hi => by
  obtain ⟨b, o, h1, h0, h2⟩ := h i hi
  exact ⟨b, o, h1, Nat.le_trans hB h0, h2⟩
theorem OwnCells.lt0 {B b o : Nat} {w : World} {p : Option Addr} {cs : List Value} (h : OwnCells B w p cs) (hn : 0 < cs.length) (hp : p = some ⟨b, o, none⟩) : B ≤ b ∧ b < w.heap.size := by
  obtain ⟨b', o', h1, h2, h3, _⟩ := h 0 hn
  rw [hp] at h1
  simp at h1
  omega
theorem OwnCells.keep {B : Nat} {w w' : World} {q : Option Addr} {cs : List Value} (h : OwnCells B w q cs) (hs : w.heap.size ≤ w'.heap.size) (hk : ∀ b o, 0 < cs.length → q = some ⟨b, o, none⟩ → b < w.heap.size → w'.heap[b]? = w.heap[b]?) : OwnCells B w' q cs := fun i hi => by
  obtain ⟨b, o, h1, hB, h2, h3, h4⟩ := h i hi
  exact ⟨b, o, h1, hB, Nat.lt_of_lt_of_le h2 hs, (World.cell?_of_block (a := ⟨b, o + i, none⟩) (hk b o (by omega) h1 h2)).trans h3, (World.frozen?_of_block (a := ⟨b, o + i, none⟩) (hk b o (by omega) h1 h2)).trans h4⟩
theorem OwnCells.set {B : Nat} {w : World} {p : Option Addr} {cs : List Value} (h : OwnCells B w p cs) {k b o : Nat} (hp : p = some ⟨b, o, none⟩) (hk : k < cs.length) (v : Value) :
    OwnCells B (w.setCell ⟨b, o + k, none⟩ v) p (cs.set k v) := fun i hi => by
  rw [List.length_set] at hi
  obtain ⟨b', o', h1, hB, h2, h3, h4⟩ := h i hi
  have e : b' = b ∧ o' = o := by rw [hp] at h1; simp at h1; omega
  obtain ⟨rfl, rfl⟩ := e
  refine ⟨b', o', hp, hB, by simpa [World.setCell] using h2, ?_, by rw [World.frozen?_setCell]; exact h4⟩
  by_cases e : i = k
  · subst e
    rw [World.cell?_setCell_same w _ _ h3]
    simp
  · rw [World.cell?_setCell_other w _ _ _ (by simp <;> omega), h3]
    rw [List.getElem_set_ne (Ne.symm e)]
theorem OwnCells.setAt {B : Nat} {w : World} {p : Option Addr} {P c R : List Value} (h : OwnCells B w p (P ++ (c ++ R))) {b o j n : Nat} (hp : p = some ⟨b, o, none⟩) (hn : n = P.length + j) (hj : j < c.length) (v : Value) :
    OwnCells B (w.setCell ⟨b, o + n, none⟩ v) p (P ++ (c.set j v ++ R)) := by
  subst hn
  have := h.set hp (k := P.length + j) (by simp; omega) v
  rw [List.set_append_right _ _ (by omega), Nat.add_sub_cancel_left, List.set_append_left _ _ hj] at this
  exact this
section
variable {α : Type} {f : α → List Value} {k B : Nat} {w : World} {p : Option Addr} {xs : List α}
theorem SOwn.cells (hf : ∀ x, (f x).length = k) (h : SOwn f k B w p xs) : OwnCells B w p (xs.flatMap f) := fun i hi => by
  rw [flat_len hf] at hi
  have hk : 0 < k := by
    rcases Nat.eq_zero_or_pos k with e | e
    · subst e; simp at hi
    · exact e
  have hq : i / k < xs.length := Nat.div_lt_of_lt_mul (by rwa [Nat.mul_comm] at hi)
  have hr : i % k < k := Nat.mod_lt _ hk
  have he : i = i / k * k + i % k := by have := Nat.div_add_mod i k; rw [Nat.mul_comm] at this; omega
  obtain ⟨b, o, h1, hB, h2, h3, h4⟩ := h (i / k) hq
  refine ⟨b, o, h1, hB, h2, ?_, h4 _⟩
  have hg := flat_get hf xs (i / k) hq (i % k) hr
  rw [← he] at hg
  have := h3 (i % k) _ (by rw [← hg]; exact List.getElem?_eq_getElem (by rw [flat_len hf]; exact hi))
  rwa [Nat.add_assoc, ← he] at this
theorem OwnCells.sat (hf : ∀ x, (f x).length = k) (hk : 0 < k) (h : OwnCells B w p (xs.flatMap f)) : SAt f k w p xs := fun i hi => by
  have hb : i * k + k ≤ xs.length * k := by
    have := Nat.mul_le_mul_right k (show i + 1 ≤ xs.length from hi)
    rwa [Nat.add_mul, Nat.one_mul] at this
  obtain ⟨b, o, h1, hB, h2, _⟩ := h (i * k) (by rw [flat_len hf]; omega)
  refine ⟨b, o, h1, h2, fun j v hv => ?_⟩
  have hj : j < k := by rw [← hf (xs[i]'hi)]; exact (List.getElem?_eq_some_iff.1 hv).1
  obtain ⟨b', o', h1', _, _, h3, _⟩ := h (i * k + j) (by rw [flat_len hf]; omega)
  rw [h1] at h1'
  simp at h1'
  obtain ⟨rfl, rfl⟩ := h1'
  rw [Nat.add_assoc, h3]
  have := flat_get hf xs i hi j hj
  rw [List.getElem?_eq_getElem (by rw [flat_len hf]; omega), hv] at this
  exact this
end

/-- Of what was there only p's block has turned, and that only if n > 0; nothing below B. -/
def Marked (B : Nat) (p : Option Addr) (n : Nat) (w w' : World) : Prop :=
  Below B w w' ∧ ∀ k, k < w.heap.size → (∀ b o, 0 < n → p = some ⟨b, o, none⟩ → b ≠ k) → w'.heap[k]? = w.heap[k]?
section
variable {B n : Nat} {p : Option Addr} {w w' w'' : World}
theorem Marked.refl (B : Nat) (p : Option Addr) (n : Nat) (w : World) : Marked B p n w w := ⟨Below.refl _ _, fun _ _ _ => rfl⟩
theorem Marked.ext (h : Marked B p n w w') (k : Ext w' w'') (hB : B ≤ w'.heap.size) : Marked B p n w w'' :=
  ⟨h.1.trans (k.below.mono hB), fun i hi hd => (k.below.block i (Nat.lt_of_lt_of_le hi h.1.size)).trans (h.2 i hi hd)⟩
theorem Marked.set (h : Marked B p n w w') {b o j : Nat} (hp : p = some ⟨b, o, none⟩) (hn : 0 < n) (hB : B ≤ b) (v : Value) : Marked B p n w (w'.setCell ⟨b, j, none⟩ v) :=
  ⟨h.1.setCell hB v, fun i hi hd => (Below.heap_setCell w' ⟨b, j, none⟩ v i (fun e => hd b o hn hp e.symm)).trans (h.2 i hi hd)⟩
end

end Go.Proofs.Ythjklchmjeojjaa
