
/- Rows of bytes that a function makes itself: append of a byte, of a string; the string of a row. -/
import Derived.Test.YthjklchmjeojjaaInts
import Derived.Lib.AppendStr
import Derived.Laws.IdiomStrings
import Derived.Lib.BufferRead
namespace Go.Proofs.Ythjklchmjeojjaa
set_option linter.unusedVariables false
set_option linter.unusedSimpArgs false
open Go.RowKit

theorem infoByte : (Try.prog.info? 5).map (fun i => (i.zero, i.size, i.bytes)) = some (some (.int .u8 0), 1, 1) := by kernel_rfl

/-- v is nil or a row of bytes in a block of its own from B on; its bytes are those of s. -/
def RowB (B : Nat) (w : World) (v : Value) (s : ByteArray) : Prop := w.ownsRow B 5 1 v s.size (Lib.strCells s)
section
variable {B : Nat} {w w' : World} {v : Value} {s : ByteArray}
theorem RowB.nil (B : Nat) (w : World) : RowB B w (.slice none 0 0) ByteArray.empty := World.ownsRow_nil _ _ _ _
theorem RowB.made (hB : B ≤ w.heap.size) : RowB B (w.alloc (.cells #[] 5)) (.slice (some ⟨w.heap.size, 0, none⟩) 0 0) ByteArray.empty :=
  World.ownsRow_made w #[] 0 hB (by unfold maxLen; omega) rfl
theorem RowB.room (hB : B ≤ w.heap.size) (z : Array Value) (n : Nat) (hz : z.size = 1) (hn : n ≤ maxLen) : RowB B (w.alloc (.cells (madeCells z n) 5)) (.slice (some ⟨w.heap.size, 0, none⟩) 0 n) ByteArray.empty :=
  World.ownsRow_made w _ n hB hn (by simp [size_madeCells])
theorem RowB.alloc (h : RowB B w v s) (o : Obj) : RowB B (w.alloc o) v s := World.ownsRow.alloc h o
theorem RowB.lt (h : RowB B w v s) : ∀ k, v.ownBlock = some k → B ≤ k ∧ k < w.heap.size := World.ownsRow.lt h
theorem RowB.mono {B' : Nat} (h : RowB B w v s) (hB : B' ≤ B) : RowB B' w v s := by
  refine ⟨h.1, ?_⟩
  rcases h.2 with h2 | ⟨g, cap, cur, hv, hg, r⟩
  · exact .inl h2
  · exact .inr ⟨g, cap, cur, hv, Nat.le_trans hB hg, r⟩
theorem RowB.below {B' : Nat} (h : RowB B w v s) (hb : Below B' w w') (hB : ∀ k, v.ownBlock = some k → k < B') : RowB B w' v s := by
  refine ⟨h.1, ?_⟩
  rcases h.2 with h2 | ⟨g, cap, cur, hv, hg, hh, r⟩
  · exact .inl h2
  · exact .inr ⟨g, cap, cur, hv, hg, by rw [hb.block g (hB g (by rw [hv]; rfl))]; exact hh, r⟩
theorem RowB.ext (h : RowB B w v s) (hb : Ext w w') : RowB B w' v s := h.below hb.below fun k hk => (h.lt k hk).2
theorem RowB.drewN (h : RowB B w v s) (n : Nat) : RowB B (w.drewN n) v s := h
theorem RowB.slice (h : RowB B w v s) : ∃ p c, v = .slice p s.size c := by
  rcases h.2 with ⟨h2, hn⟩ | ⟨g, cap, cur, hv, _⟩
  · exact ⟨none, 0, by rw [h2, hn]⟩
  · exact ⟨_, _, hv⟩
theorem RowB.conv (h : RowB B w v s) : (convert 22 9 v).run Try.prog w = .ok (.string s) w := by
  have u1 : Try.prog.underlying 22 = some (.slice 5) := by kernel_rfl
  have u2 : Try.prog.underlying 5 = some (.int .u8) := by kernel_rfl
  have u3 : Try.prog.underlying 9 = some .string := by kernel_rfl
  rcases h.2 with ⟨h2, hn⟩ | ⟨g, cap, cur, hv, hg, hh, r⟩
  · have e : s = ByteArray.empty := by
      apply ByteArray.ext
      apply Array.eq_empty_of_size_eq_zero
      exact hn
    rw [h2, e]
    exact Lib.run_convert_nil_bytes w _ _ _ _ u1 u2 u3
  · have h' : w.ownsRow B 5 1 (.slice (some ⟨g, 0, none⟩) s.size cap) s.size (Lib.strCells s) := by rw [← hv]; exact h
    have hl : s.data.toList.length = s.size := by simp
    have := run_convert_bytes_back (P := Try.prog) w 22 9 5 ⟨g, 0, none⟩ cap s.data.toList u1 u2 u3 (fun j hj => by
      have hj2 : j < s.size := by omega
      have hc := h'.cellAt j (by omega)
      rw [addr_add, Nat.zero_add, hc]
      simp [Lib.strCells, hj2])
    rw [hl] at this
    rw [hv, this]
end

theorem strCells_append (s t : ByteArray) : Lib.strCells (s ++ t) = Lib.strCells s ++ Lib.strCells t := by
  simp [Lib.strCells]
theorem strCells_push (s : ByteArray) (b : UInt8) : Lib.strCells (s.push b) = Lib.strCells s ++ [.int .u8 b.toNat] := by
  simp [Lib.strCells, ByteArray.push]

section
variable {ops : Array Oper} {Q : Exit → Act → World → Prop} {rest : List Oper} {a : Act} {dst : Option Tmp} {s x : Operand} {ty : TypeId} {pos : String} {after : Array Edge} {B : Nat} {w0 : World} {v : Value} {xs : ByteArray}
theorem appendSB {t : ByteArray} (hown : RowB B w0 v xs) (hlen : xs.size + t.size < 1099511627776) (hB : B ≤ w0.heap.size)
    (h : ∀ v' w', RowB B w' v' (xs ++ t) → Below B w0 w' → wpList Try.prog ops Q rest (a.put dst v') w') (hs : a.eval s = v) (hx : a.eval x = .string t) :
    wpList Try.prog ops Q (⟨dst, .call { callee := .builtin .append, args := #[s, x], argTypes := #[22, 9] }, ty, pos, after, none⟩ :: rest) a w0 := by
  obtain ⟨i0, hi, hz0, hz1, hz2⟩ := info_parts infoByte
  refine Lib.wpList_append_own_string _ rfl s x 22 9 rfl B 5 i0 (by kernel_rfl) (by kernel_rfl) hi hz0 hz1 hz2 v xs.size (Lib.strCells xs) hs hown t hx (by unfold maxLen; omega) (by omega) hB ?_
  intro v' w' h1 h2 _
  refine h v' w' ?_ ?_
  · unfold RowB
    rw [strCells_append, ByteArray.size_append]
    exact h1
  · exact Below.grown (Below.refl B w0) h2 hB (fun k hk => (hown.lt k hk).1)
theorem append1B {n : UInt8} (hown : RowB B w0 v xs) (hlen : xs.size < 1099511627776) (hB : B ≤ w0.heap.size) {cv : Value} (hcv : cv = .int .u8 n.toNat)
    (h : ∀ v' w', RowB B w' v' (xs.push n) → Below B w0 w' → wpList Try.prog ops Q rest (a.put dst v') w') (hs : a.eval s = v) (hx : a.eval x = .slice (some ⟨w0.heap.size, 0, none⟩) 1 1) :
    wpList Try.prog ops Q (⟨dst, .call { callee := .builtin .append, args := #[s, x], argTypes := #[22, 22] }, ty, pos, after, none⟩ :: rest) a (w0.alloc (.cells #[cv] 5)) := by
  subst hcv
  obtain ⟨i0, hi, hz0, hz1, hz2⟩ := info_parts infoByte
  refine wpList_append_own _ rfl s x 22 rfl B 5 i0 (.int .u8 0) 1 1 Try.underlying22 hi hz0 hz1 hz2 rfl (by decide) v xs.size (Lib.strCells xs) hs (World.ownsRow.alloc hown _) ⟨w0.heap.size, 0, none⟩ 1 1 [.int .u8 n.toNat] hx rfl ?_ ?_ ?_ ?_ ?_ ?_
  · intro j u hj
    match j, hj with
    | 0, hj =>
      simp at hj
      subst hj
      have : (w0.alloc (.cells #[.int .u8 n.toNat] 5)).heap[w0.heap.size]? = some (.cells #[.int .u8 n.toNat] 5) := (MapKept.heap_alloc w0 _).1
      simp only [World.cell?, Addr.add, if_true, this]
      rfl
    | j + 1, hj => simp at hj
  · intro u hu
    simp at hu
    subst hu
    rfl
  · unfold maxLen; omega
  · omega
  · simp; omega
  · intro v' w' h1 h2 _
    refine h v' w' ?_ ?_
    · have e : (xs.push n).size = xs.size + 1 := by simp
      unfold RowB
      rw [e, strCells_push]
      exact h1
    · exact Below.grown ((Below.refl B w0).alloc hB _) h2 (by simp; omega) (fun k hk => (hown.lt k hk).1)
end

end Go.Proofs.Ythjklchmjeojjaa
