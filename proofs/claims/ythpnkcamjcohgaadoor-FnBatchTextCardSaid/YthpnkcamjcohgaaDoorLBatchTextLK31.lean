/- Texts of batches: plain laws. -/
import Derived.Test.YthpnkcamjcohgaaDoorLBatchTextLK26
import Derived.Lib.Replace
import Derived.Lib.SplitLaws
import Derived.Lib.IndexBytes
namespace Go.Proofs.YthpnkcamjcohgaaDoor
set_option linter.unusedVariables false
set_option linter.unusedSimpArgs false
open Go.RowKit

theorem indexByte_pre (x : UInt8) : ∀ (pre post : List UInt8), x ∉ pre → Lib.indexByte (pre ++ x :: post) x = (pre.length : Int) := by
  intro pre
  induction pre with
  | nil => intro post _; simp [Lib.indexByte]
  | cons b l ih =>
    intro post h
    simp only [List.mem_cons, not_or] at h
    have := ih post h.2
    simp only [List.cons_append, Lib.indexByte, this]
    have hb : ¬ b = x := fun e => h.1 e.symm
    first
      | (simp [hb]; done)
      | (simp [hb]; omega)
theorem replaceK_one (x y : UInt8) : ∀ (k : Nat) (s : List UInt8), s.count x = k → Lib.replaceK [x] [y] k s = s.map fun b => if b = x then y else b := by
  intro k
  induction k with
  | zero =>
    intro s h
    have hx : x ∉ s := List.count_eq_zero.1 h
    simp only [Lib.replaceK]
    have : s.map (fun b => if b = x then y else b) = s.map id := List.map_congr_left fun b hb => by
      rw [if_neg (fun e => hx (by rw [← e]; exact hb))]; rfl
    rw [this, List.map_id]
  | succ k ih =>
    intro s h
    have hx : x ∈ s := List.count_pos_iff.1 (by omega)
    obtain ⟨pre, post, rfl, hp⟩ := List.eq_append_cons_of_mem hx
    have hi : Lib.index (pre ++ x :: post) [x] = (pre.length : Int) := by rw [Lib.index_one]; exact indexByte_pre x pre post hp
    rw [Lib.replaceK_hit _ _ _ _ _ hi]
    have hc : post.count x = k := by
      rw [List.count_append, List.count_cons_self, List.count_eq_zero.2 hp] at h
      omega
    have hd : (pre ++ x :: post).drop (pre.length + [x].length) = post := by simp
    have ht : (pre ++ x :: post).take pre.length = pre := by simp
    rw [hd, ht, ih post hc]
    have hm : pre.map (fun b => if b = x then y else b) = pre := by
      have : pre.map (fun b => if b = x then y else b) = pre.map id := List.map_congr_left fun b hb => by
        rw [if_neg (fun e => hp (by rw [← e]; exact hb))]; rfl
      rw [this, List.map_id]
    simp [hm]
theorem replaceAll_one (x y : UInt8) (h : x ≠ y) (s : List UInt8) : Lib.replaceAll s [x] [y] = s.map fun b => if b = x then y else b := by
  have hne : ([x] == [y]) = false := by simp [h]
  unfold Lib.replaceAll Lib.replace
  rw [hne]
  simp only [Bool.false_eq_true, if_false, Lib.replaceNum]
  rw [if_pos (Or.inl (by omega)), Lib.count_one]
  exact replaceK_one x y _ s rfl
theorem decDigits_ge (u : Nat) : ∀ b ∈ Lib.decDigits u, 48 ≤ b.toNat ∧ b.toNat ≤ 57 := by
  induction u using Nat.strongRecOn with
  | _ u ih =>
    intro b hb
    by_cases h : u < 10
    · rw [Lib.decDigits, dif_pos h] at hb
      simp at hb
      subst hb
      simp
      omega
    · rw [Lib.decDigits, dif_neg h, List.mem_append] at hb
      rcases hb with hb | hb
      · exact ih (u / 10) (by omega) b hb
      · simp at hb
        subst hb
        simp
        omega
theorem itoa_map (n : Int) (h : 0 ≤ n) : (Lib.itoa n).map (fun b => if b = (32 : UInt8) then (47 : UInt8) else b) = Lib.itoa n := by
  obtain ⟨u, rfl⟩ := Int.eq_ofNat_of_zero_le h
  rw [Lib.itoa_nonneg]
  have : (Lib.decDigits u).map (fun b => if b = (32 : UInt8) then (47 : UInt8) else b) = (Lib.decDigits u).map id := List.map_congr_left fun b hb => by
    have h8 := decDigits_ge u b hb
    rw [if_neg (fun e => by rw [e] at h8; simp at h8)]; rfl
  rw [this, List.map_id]
def spB : ByteArray := ByteArray.mk #[32]
def slB : ByteArray := ByteArray.mk #[47]
/-- The numbers' text, as the program writes it, and with slashes. -/
theorem slashed {f st c wd : Int} (h0 : 0 ≤ f) (h1 : 0 ≤ st) (h2 : 0 ≤ c) (h3 : 0 ≤ wd) :
    (⟨(Lib.replaceAll (dec f ++ spB ++ dec st ++ spB ++ dec c ++ spB ++ dec wd).data.toList [32] [47]).toArray⟩ : ByteArray) = dec f ++ slB ++ dec st ++ slB ++ dec c ++ slB ++ dec wd := by
  rw [replaceAll_one 32 47 (by decide)]
  apply ByteArray.ext
  simp [dec, spB, slB, itoa_map _ h0, itoa_map _ h1, itoa_map _ h2, itoa_map _ h3]
end Go.Proofs.YthpnkcamjcohgaaDoor
