/- Pieces of strings: plain laws. -/
import Derived.Test.YthpnkcamjcohgaaDoorLBatchTextLK35
import Derived.Test.YthpnkcamjcohgaaDoorLBatchTextLK31
namespace Go.Proofs.YthpnkcamjcohgaaDoor
set_option linter.unusedVariables false
set_option linter.unusedSimpArgs false
open Go.RowKit

/-- All pieces of a list at a byte. -/
def spl (y : UInt8) : List UInt8 → List (List UInt8)
  | [] => [[]]
  | b :: l => if b = y then [] :: spl y l else match spl y l with
    | h :: t => (b :: h) :: t
    | [] => [[b]]
theorem spl_ne (y : UInt8) : ∀ l, spl y l ≠ []
  | [] => by simp [spl]
  | b :: l => by
    unfold spl
    split
    · simp
    · split <;> simp
theorem spl_none {y : UInt8} : ∀ {l : List UInt8}, y ∉ l → spl y l = [l]
  | [], _ => rfl
  | b :: l, h => by
    simp only [List.mem_cons, not_or] at h
    unfold spl
    rw [if_neg (fun e => h.1 e.symm), spl_none h.2]
theorem spl_pre {y : UInt8} : ∀ {a : List UInt8} (b : List UInt8), y ∉ a → spl y (a ++ y :: b) = a :: spl y b
  | [], b, _ => by
    show spl y (y :: b) = _
    rw [spl, if_pos rfl]
  | x :: a, b, h => by
    simp only [List.mem_cons, not_or] at h
    show spl y (x :: (a ++ y :: b)) = _
    rw [spl, if_neg (fun e => h.1 e.symm), spl_pre b h.2]
theorem spl_len (y : UInt8) : ∀ l, (spl y l).length ≤ l.length + 1
  | [] => by simp [spl]
  | b :: l => by
    have ih := spl_len y l
    unfold spl
    split
    · simp; omega
    · split
      · rename_i h t e
        rw [e] at ih
        simp at ih ⊢; omega
      · simp
theorem spl_one {y : UInt8} {l p : List UInt8} (h : spl y l = [p]) : l = p ∧ y ∉ l := by
  by_cases hy : y ∈ l
  · obtain ⟨pre, post, rfl, hp⟩ := List.eq_append_cons_of_mem hy
    rw [spl_pre post hp] at h
    simp only [List.cons.injEq] at h
    exact absurd h.2 (spl_ne y post)
  · rw [spl_none hy] at h
    simp only [List.cons.injEq, and_true] at h
    exact ⟨h, hy⟩
theorem spl_more {y : UInt8} {l p q : List UInt8} {r : List (List UInt8)} (h : spl y l = p :: q :: r) : ∃ l', l = p ++ y :: l' ∧ spl y l' = q :: r := by
  by_cases hy : y ∈ l
  · obtain ⟨pre, post, rfl, hp⟩ := List.eq_append_cons_of_mem hy
    rw [spl_pre post hp] at h
    simp only [List.cons.injEq] at h
    exact ⟨post, by rw [h.1], h.2⟩
  · rw [spl_none hy] at h
    simp at h
theorem splitK_spl (y : UInt8) : ∀ (k : Nat) (l : List UInt8), ((spl y l).length ≤ k + 1 → Lib.splitK [y] 0 k l = spl y l) ∧ (k + 1 < (spl y l).length → (Lib.splitK [y] 0 k l).length = k + 1) := by
  intro k
  induction k with
  | zero =>
    intro l
    refine ⟨fun h => ?_, fun _ => rfl⟩
    cases hs : spl y l with
    | nil => exact absurd hs (spl_ne y l)
    | cons p t =>
      rw [hs] at h
      obtain rfl : t = [] := by simpa using h
      rw [(spl_one hs).1]; rfl
  | succ k ih =>
    intro l
    by_cases hy : y ∈ l
    · obtain ⟨pre, post, rfl, hp⟩ := List.eq_append_cons_of_mem hy
      have hi : Lib.index (pre ++ y :: post) [y] = (pre.length : Int) := by rw [Lib.index_one]; exact indexByte_pre y pre post hp
      have hm : ¬ (Lib.index (pre ++ y :: post) [y] == -1) = true := fun e => by have := beq_iff_eq.1 e; omega
      have hd : (pre ++ y :: post).drop (pre.length + [y].length) = post := by simp
      have ht : (pre ++ y :: post).take pre.length = pre := by simp
      have hk : Lib.splitK [y] 0 (k + 1) (pre ++ y :: post) = pre :: Lib.splitK [y] 0 k post := by
        rw [Lib.splitK, if_neg hm, hi, Int.toNat_natCast, hd, Nat.add_zero, ht]
      rw [hk, spl_pre post hp]
      have := ih post
      refine ⟨fun h => by rw [this.1 (by simp at h; omega)], fun h => by rw [List.length_cons, this.2 (by simp at h; omega)]⟩
    · have hi : Lib.index l [y] = -1 := by
        rw [Lib.index_one]
        clear ih
        induction l with
        | nil => rfl
        | cons b l ih =>
          simp only [List.mem_cons, not_or] at hy
          have hb : ¬ b = y := fun e => hy.1 e.symm
          simp [Lib.indexByte, ih hy.2, hb]
      have hk : Lib.splitK [y] 0 (k + 1) l = [l] := by
        rw [Lib.splitK, if_pos (by rw [hi]; rfl)]
      rw [hk, spl_none hy]
      exact ⟨fun _ => rfl, fun h => by simp at h⟩
/-- The library's cut into at most n pieces, at a byte. -/
theorem splitB_spl (y : UInt8) (s : ByteArray) (n m : Nat) (hm : m < n) :
    (Lib.splitB ⟨#[y]⟩ 0 (min n (s.size + 1) - 1) s).length = m ↔ (spl y s.data.toList).length = m := by
  have hd := Lib.splitB_data ⟨#[y]⟩ 0 (min n (s.size + 1) - 1) s
  have hl : (Lib.splitB ⟨#[y]⟩ 0 (min n (s.size + 1) - 1) s).length = (Lib.splitK [y] 0 (min n (s.size + 1) - 1) s.data.toList).length := by rw [← hd, List.length_map]
  have hs := spl_len y s.data.toList
  have hsz : s.data.toList.length = s.size := by simp
  obtain ⟨h1, h2⟩ := splitK_spl y (min n (s.size + 1) - 1) s.data.toList
  rw [hl]
  by_cases h : (spl y s.data.toList).length ≤ min n (s.size + 1) - 1 + 1
  · rw [h1 h]
  · rw [h2 (by omega)]
    omega
theorem splitB_eq (y : UInt8) (s : ByteArray) (n m : Nat) (hm : m < n) (h : (spl y s.data.toList).length = m) :
    (Lib.splitB ⟨#[y]⟩ 0 (min n (s.size + 1) - 1) s).map (·.data.toList) = spl y s.data.toList := by
  have hs := spl_len y s.data.toList
  have hsz : s.data.toList.length = s.size := by simp
  rw [Lib.splitB_data]
  exact (splitK_spl y _ _).1 (by omega)
end Go.Proofs.YthpnkcamjcohgaaDoor
