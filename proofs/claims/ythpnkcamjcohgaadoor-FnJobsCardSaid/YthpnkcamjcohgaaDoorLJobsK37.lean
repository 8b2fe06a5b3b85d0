/- The reference's cut of a string into words; words as numbers. -/
import Derived.Test.YthpnkcamjcohgaaDoorLJobsK36
namespace Go.Proofs.YthpnkcamjcohgaaDoor
set_option linter.unusedVariables false
set_option linter.unusedSimpArgs false
open Go.RowKit

def wdF (x : ByteArray) : List Value := [.string x]
theorem wdF_len (x : ByteArray) : (wdF x).length = 1 := rfl
/-- Words in a row. -/
def WdI (B : Nat) (wr : World) (o : Value) (acc : List ByteArray) : Prop := ∃ p c, o = .slice p acc.length c ∧ RowS 9 wdF 1 B wr o acc ∧ SAt wdF 1 wr p acc ∧ acc.length ≤ c
theorem WdI.of {B : Nat} {w : World} {v : Value} {acc : List ByteArray} (h : RowS 9 wdF 1 B w v acc) : WdI B w v acc := by
  obtain ⟨p, c, e, ho⟩ := h.own wdF_len
  refine ⟨p, c, e, h, ho.sat, ?_⟩
  rcases h.2 with ⟨h2, hn⟩ | ⟨g, cap, cur, hv2, _, _, hle, _⟩
  · rw [hn]; omega
  · rw [e] at hv2
    simp at hv2
    omega
theorem ext_list (s : ByteArray) (a b : Nat) : (s.extract a b).data.toList = (s.data.toList.drop a).take (b - a) := by
  rw [Lib.extract_data]
/-- The state of the cut. -/
def WdL (y : UInt8) (L : List UInt8) (N : Nat) (ps : List ByteArray) (f k : Nat) : Prop :=
  ps.length ≤ k ∧ ((k ≤ N ∧ f ≤ k ∧ ps.map (·.data.toList) ++ spl y (L.drop f) = spl y L ∧ y ∉ (L.drop f).take (k - f)) ∨ (k = N + 1 ∧ ps.map (·.data.toList) = spl y L))
theorem WdL.step {y : UInt8} {L : List UInt8} {N : Nat} {ps : List ByteArray} {f k : Nat} (h : WdL y L N ps f k) (hk : k < N) (hN : L.length = N) (hne : L[k]'(by omega) ≠ y) : WdL y L N ps f (k + 1) := by
  obtain ⟨h0, ⟨h1, h2, h3, h4⟩ | ⟨h1, _⟩⟩ := h
  · refine ⟨by omega, .inl ⟨hk, by omega, h3, ?_⟩⟩
    have hlt : k - f < (L.drop f).length := by rw [List.length_drop]; omega
    rw [show k + 1 - f = (k - f) + 1 by omega, List.take_succ_eq_append_getElem hlt]
    intro hm
    rcases List.mem_append.1 hm with hm | hm
    · exact h4 hm
    · have e := List.mem_singleton.1 hm
      rw [List.getElem_drop] at e
      apply hne
      rw [e]
      congr 1
      omega
  · omega
theorem WdL.cut {y : UInt8} {s : ByteArray} {ps : List ByteArray} {f k : Nat} (h : WdL y s.data.toList s.size ps f k) (hk : k < s.size) (hy : s.data.toList[k]'(by simpa using hk) = y) : WdL y s.data.toList s.size (ps ++ [s.extract f k]) (k + 1) (k + 1) := by
  have hN : s.data.toList.length = s.size := by simp
  obtain ⟨h0, ⟨h1, h2, h3, h4⟩ | ⟨h1, _⟩⟩ := h
  · refine ⟨by simp; omega, .inl ⟨hk, Nat.le_refl _, ?_, by simp⟩⟩
    rw [← h3, List.map_append, List.append_assoc]
    congr 1
    have hd : s.data.toList.drop f = (s.data.toList.drop f).take (k - f) ++ y :: s.data.toList.drop (k + 1) := by
      have hlt : k - f < (s.data.toList.drop f).length := by rw [List.length_drop]; omega
      have e1 := (List.take_append_drop (k - f) (s.data.toList.drop f)).symm
      have e2 : s.data.toList.drop k = s.data.toList[k]'(by simpa using hk) :: s.data.toList.drop (k + 1) := List.drop_eq_getElem_cons _
      rw [List.drop_drop, show f + (k - f) = k by omega, e2, hy] at e1
      exact e1
    show [(s.extract f k).data.toList] ++ _ = _
    rw [ext_list]
    conv => rhs; rw [hd]
    rw [spl_pre _ h4]
    rfl
  · omega
theorem WdL.last {y : UInt8} {s : ByteArray} {ps : List ByteArray} {f : Nat} (h : WdL y s.data.toList s.size ps f s.size) : WdL y s.data.toList s.size (ps ++ [s.extract f s.size]) (s.size + 1) (s.size + 1) := by
  have hN : s.data.toList.length = s.size := by simp
  obtain ⟨h0, ⟨h1, h2, h3, h4⟩ | ⟨h1, _⟩⟩ := h
  · refine ⟨by simp; omega, .inr ⟨rfl, ?_⟩⟩
    rw [← h3, List.map_append]
    congr 1
    show [(s.extract f s.size).data.toList] = _
    rw [ext_list]
    have e : (s.data.toList.drop f).take (s.size - f) = s.data.toList.drop f := List.take_of_length_le (by rw [List.length_drop]; omega)
    rw [e] at h4 ⊢
    rw [spl_none h4]
  · omega
theorem WdL.done {y : UInt8} {L : List UInt8} {N : Nat} {ps : List ByteArray} {f k : Nat} (h : WdL y L N ps f k) (hk : N < k) : ps.map (·.data.toList) = spl y L ∧ k = N + 1 := by
  obtain ⟨h0, ⟨h1, _⟩ | ⟨h1, h2⟩⟩ := h
  · omega
  · exact ⟨h2, h1⟩
end Go.Proofs.YthpnkcamjcohgaaDoor
