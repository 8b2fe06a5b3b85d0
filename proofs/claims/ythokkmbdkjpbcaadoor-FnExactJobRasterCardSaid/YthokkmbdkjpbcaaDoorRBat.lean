
/- The batch of a text: plain laws. -/
import Derived.Test.YthokkmbdkjpbcaaDoorNumsW
import Derived.Test.YthokkmbdkjpbcaaDoorBatchT
namespace Go.Proofs.YthokkmbdkjpbcaaDoor
set_option linter.unusedVariables false
set_option linter.unusedSimpArgs false
open Go.RowKit

theorem bytes_eq {a b : ByteArray} (h : a.data.toList = b.data.toList) : a = b := ByteArray.ext (Array.toList_inj.1 h)
theorem spl_le (y : UInt8) : ∀ (l : List UInt8), ∀ x ∈ spl y l, x.length ≤ l.length
  | [], x, hx => by
    simp [spl] at hx
    rw [hx]; exact Nat.le_refl _
  | b :: l, x, hx => by
    have ih := spl_le y l
    unfold spl at hx
    split at hx
    · rcases List.mem_cons.1 hx with rfl | hx
      · simp
      · have := ih x hx
        simp; omega
    · split at hx
      · rename_i h t e
        rw [e] at ih
        rcases List.mem_cons.1 hx with rfl | hx
        · have := ih h (by simp)
          simp; omega
        · have := ih x (by simp [hx])
          simp; omega
      · rw [List.mem_singleton.1 hx]; simp
theorem pieces_le {y : UInt8} {s : ByteArray} {ps : List ByteArray} (h : ps.map (·.data.toList) = spl y s.data.toList) : (∀ x ∈ ps, x.size ≤ s.size) ∧ ps.length ≤ s.size + 1 ∧ ps ≠ [] := by
  have hs : s.data.toList.length = s.size := by simp
  refine ⟨fun x hx => ?_, ?_, fun e => ?_⟩
  · have h1 := spl_le y s.data.toList x.data.toList (by rw [← h]; exact List.mem_map_of_mem hx)
    have h2 : x.data.toList.length = x.size := by simp
    omega
  · have h1 := spl_len y s.data.toList
    rw [← h, List.length_map] at h1
    omega
  · rw [e] at h
    exact spl_ne y _ h.symm
theorem map_inj : ∀ {ps qs : List ByteArray}, ps.map (·.data.toList) = qs.map (·.data.toList) → ps = qs
  | [], [], _ => rfl
  | [], _ :: _, h => by simp at h
  | _ :: _, [], h => by simp at h
  | p :: ps, q :: qs, h => by
    simp only [List.map_cons, List.cons.injEq] at h
    rw [bytes_eq h.1, map_inj h.2]
/-- The text of a batch has been read. -/
def RbE (s : ByteArray) (e : Ending) : Prop :=
  (∃ (a : ByteArray) (f st c wd : Int), e = .returned (.tuple #[vBatch a f st c wd, .bool true]) ∧ batOK a f st c wd ∧ s = batT a f st c wd) ∨
  (e = .returned (.tuple #[vBatch ByteArray.empty 0 0 0 0, .bool false]) ∧ ∀ (a : ByteArray) (f st c wd : Int), batOK a f st c wd → s ≠ batT a f st c wd)
theorem RbE.no {s : ByteArray} (h : ∀ (a : ByteArray) (f st c wd : Int), batOK a f st c wd → s ≠ batT a f st c wd) : RbE s (.returned (.tuple #[vBatch ByteArray.empty 0 0 0 0, .bool false])) := .inr ⟨rfl, h⟩
end Go.Proofs.YthokkmbdkjpbcaaDoor
