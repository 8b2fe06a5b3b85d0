
/- Slices of whole numbers that a function makes itself: append, make. -/
import Derived.Test.YtbnpdpmbbppnhaaInts
namespace Go.Proofs.Ytbnpdpmbbppnhaa
set_option linter.unusedVariables false
set_option linter.unusedSimpArgs false
open Go.RowKit

theorem infoInt : (Try.prog.info? 2).map (fun i => (i.zero, i.size, i.bytes)) = some (some (.int .i64 0), 1, 8) := by kernel_rfl

/-- v is nil or a slice in a block of its own from B on; its numbers are xs. -/
def RowI (B : Nat) (w : World) (v : Value) (xs : List Int) : Prop := w.ownsRow B 2 1 v xs.length (xs.map (Value.int .i64))

theorem RowI.nil (B : Nat) (w : World) : RowI B w (.slice none 0 0) [] := World.ownsRow_nil _ _ _ _
theorem RowI.alloc {B : Nat} {w : World} {v : Value} {xs : List Int} (h : RowI B w v xs) (o : Obj) : RowI B (w.alloc o) v xs := World.ownsRow.alloc h o
theorem RowI.lt {B : Nat} {w : World} {v : Value} {xs : List Int} (h : RowI B w v xs) : ∀ k, v.ownBlock = some k → B ≤ k ∧ k < w.heap.size := World.ownsRow.lt h
theorem RowI.mono {B B' : Nat} {w : World} {v : Value} {xs : List Int} (h : RowI B w v xs) (hB : B' ≤ B) : RowI B' w v xs := by
  refine ⟨h.1, ?_⟩
  rcases h.2 with h2 | ⟨g, cap, cur, hv, hg, r⟩
  · exact .inl h2
  · exact .inr ⟨g, cap, cur, hv, Nat.le_trans hB hg, r⟩
theorem RowI.below {B B' : Nat} {w w' : World} {v : Value} {xs : List Int} (h : RowI B w v xs) (hb : Below B' w w') (hB : ∀ k, v.ownBlock = some k → k < B') : RowI B w' v xs := by
  refine ⟨h.1, ?_⟩
  rcases h.2 with h2 | ⟨g, cap, cur, hv, hg, hh, r⟩
  · exact .inl h2
  · exact .inr ⟨g, cap, cur, hv, hg, by rw [hb.block g (hB g (by rw [hv]; rfl))]; exact hh, r⟩
theorem RowI.ext {B : Nat} {w w' : World} {v : Value} {xs : List Int} (h : RowI B w v xs) (hb : Ext w w') : RowI B w' v xs :=
  h.below hb.below fun k hk => (h.lt k hk).2
theorem RowI.drewN {B : Nat} {w : World} {v : Value} {xs : List Int} (h : RowI B w v xs) (n : Nat) : RowI B (w.drewN n) v xs := h
theorem RowI.own {B : Nat} {w : World} {v : Value} {xs : List Int} (h : RowI B w v xs) : ∃ p c, v = .slice p xs.length c ∧ OwnInts B w p xs := by
  rcases h.2 with ⟨h2, hn⟩ | ⟨g, cap, cur, hv, hg, hh, r⟩
  · have : xs = [] := List.eq_nil_of_length_eq_zero hn
    subst this
    exact ⟨none, 0, h2, OwnInts.nil _ _ _⟩
  · refine ⟨some ⟨g, 0, none⟩, cap, hv, fun i hi => ⟨g, 0, rfl, hg, ?_, ?_, ?_⟩⟩
    · exact (Array.getElem?_eq_some_iff.1 hh).1
    · have h' : w.ownsRow B 2 1 (.slice (some ⟨g, 0, none⟩) xs.length cap) xs.length (xs.map (Value.int .i64)) := by rw [← hv]; exact h
      have := h'.cellAt i (by omega)
      rw [Nat.zero_add, this]
      simp [hi]
    · have h' : w.ownsRow B 2 1 (.slice (some ⟨g, 0, none⟩) xs.length cap) xs.length (xs.map (Value.int .i64)) := by rw [← hv]; exact h
      exact h'.frozenAt _

theorem RowI.ownC {B : Nat} {w : World} {v : Value} {xs : List Int} (h : RowI B w v xs) : ∃ p c, v = .slice p xs.length c ∧ OwnInts B w p xs ∧ xs.length ≤ c := by
  obtain ⟨p, c, hv, ho⟩ := h.own
  refine ⟨p, c, hv, ho, ?_⟩
  rcases h.2 with ⟨h2, hn⟩ | ⟨g, cap, cur, h2, _, _, hc, _⟩
  · omega
  · rw [hv] at h2
    simp at h2
    omega
theorem RowI.made {B : Nat} {w : World} (hB : B ≤ w.heap.size) : RowI B (w.alloc (.cells #[] 2)) (.slice (some ⟨w.heap.size, 0, none⟩) 0 0) [] :=
  World.ownsRow_made w #[] 0 hB (by unfold maxLen; omega) rfl

section
variable {ops : Array Oper} {Q : Exit → Act → World → Prop} {rest : List Oper} {a : Act} {dst : Option Tmp} {s x : Operand} {ty : TypeId} {pos : String} {after : Array Edge} {B : Nat} {w0 : World} {v : Value} {xs : List Int} {n : Int}
theorem append1I (hown : RowI B w0 v xs) (hlen : xs.length < 1099511627776) (hB : B ≤ w0.heap.size)
    (h : ∀ v' w', RowI B w' v' (xs ++ [n]) → Below B w0 w' → wpList Try.prog ops Q rest (a.put dst v') w') (hs : a.eval s = v) (hx : a.eval x = .slice (some ⟨w0.heap.size, 0, none⟩) 1 1) :
    wpList Try.prog ops Q (⟨dst, .call { callee := .builtin .append, args := #[s, x], argTypes := #[26, 26] }, ty, pos, after, none⟩ :: rest) a (w0.alloc (.cells #[.int .i64 n] 2)) := by
  obtain ⟨i0, hi, hz0, hz1, hz2⟩ := info_parts infoInt
  refine wpList_append_own _ rfl s x 26 rfl B 2 i0 (.int .i64 0) 1 8 Try.underlying26 hi hz0 hz1 hz2 rfl (by decide) v xs.length (xs.map (Value.int .i64)) hs (World.ownsRow.alloc hown _) ⟨w0.heap.size, 0, none⟩ 1 1 [.int .i64 n] hx rfl ?_ ?_ ?_ ?_ ?_ ?_
  · intro j u hj
    match j, hj with
    | 0, hj =>
      simp at hj
      subst hj
      have : (w0.alloc (.cells #[.int .i64 n] 2)).heap[w0.heap.size]? = some (.cells #[.int .i64 n] 2) := (MapKept.heap_alloc w0 _).1
      simp only [World.cell?, Addr.add, if_true, this]
      rfl
    | j + 1, hj => simp at hj
  · intro u hu
    simp at hu
    subst hu
    rfl
  · unfold maxLen; omega
  · omega
  · simp; omega
  · intro v' w' h1 h2 _
    refine h v' w' ?_ ?_
    · have e : (xs ++ [n]).length = xs.length + 1 := by simp
      unfold RowI
      rw [e]
      simpa using h1
    · exact Below.grown ((Below.refl B w0).alloc hB _) h2 (by simp; omega) (fun k hk => (hown.lt k hk).1)
end

end Go.Proofs.Ytbnpdpmbbppnhaa
