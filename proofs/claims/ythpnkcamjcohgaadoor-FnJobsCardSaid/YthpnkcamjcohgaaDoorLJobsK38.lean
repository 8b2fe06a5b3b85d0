/- Words read as numbers by the reference. -/
import Derived.Test.YthpnkcamjcohgaaDoorLJobsK37
import Derived.Test.YthpnkcamjcohgaaDoorLJobsK27
import Derived.Test.YthpnkcamjcohgaaDoorLJobsK31
import Derived.Test.YthpnkcamjcohgaaDoorLJobsK02
import Derived.Shelf.Vars
namespace Go.Proofs.YthpnkcamjcohgaaDoor
set_option linter.unusedVariables false
set_option linter.unusedSimpArgs false
open Go.RowKit

theorem SAt.wd {w : World} {p : Option Addr} {xs : List ByteArray} (h : SAt wdF 1 w p xs) {i : Nat} (hi : i < xs.length) :
    ∃ b o, p = some ⟨b, o, none⟩ ∧ b < w.heap.size ∧ w.cell? ⟨b, o + i, none⟩ = some (.string (xs[i]'hi)) := by
  obtain ⟨b, o, h1, h2, h3⟩ := h i hi
  have := h3 0 (.string (xs[i]'hi)) rfl
  rw [Nat.mul_one, Nat.add_zero] at this
  exact ⟨b, o, h1, h2, this⟩
/-- The first k words are these numbers. -/
def NuL (ws : List ByteArray) (ns : List Int) : Prop := ∀ j (h : j < ws.length) (h2 : j < ns.length), ∃ m : Nat, ns[j]'h2 = m ∧ ws[j]'h = dec m ∧ m ≤ 999999999999
theorem NuL.push {ws : List ByteArray} {ns : List Int} {m : Nat} (h : NuL ws ns) (hk : ns.length < ws.length) (hm : ws[ns.length]'hk = dec m) (hb : m ≤ 999999999999) : NuL ws (ns ++ [(m : Int)]) := fun j h1 h2 => by
  by_cases e : j < ns.length
  · obtain ⟨q, g1, g2, g3⟩ := h j h1 e
    exact ⟨q, by rw [List.getElem_append_left e]; exact g1, g2, g3⟩
  · have e2 : j = ns.length := by simp at h2; omega
    subst e2
    exact ⟨m, by simp, hm, hb⟩
end Go.Proofs.YthpnkcamjcohgaaDoor
/- Valid batches, the program's side. -/
namespace Go.Proofs.YthpnkcamjcohgaaDoor
set_option linter.unusedVariables false
set_option linter.unusedSimpArgs false
open Go.RowKit

end Go.Proofs.YthpnkcamjcohgaaDoor
/- How the laws measure, copy and compare batches. -/
namespace Go.Proofs.YthpnkcamjcohgaaDoor
set_option linter.unusedVariables false
set_option linter.unusedSimpArgs false
open Go.RowKit

end Go.Proofs.YthpnkcamjcohgaaDoor
/- The text of a batch, on both sides. -/
namespace Go.Proofs.YthpnkcamjcohgaaDoor
set_option linter.unusedVariables false
set_option linter.unusedSimpArgs false
open Go.RowKit

/-- The text of a batch that is valid. -/
def batT (s : ByteArray) (f st c wd : Int) : ByteArray := s ++ slB ++ dec f ++ slB ++ dec st ++ slB ++ dec c ++ slB ++ dec wd
/-- The library's variable that its search functions read holds a number. -/
def MaxC (w : World) : Prop := ∃ m, w.cell? ⟨1, 0, none⟩ = some (.int .i64 m)
theorem MaxC.of {w : World} (h : w.ShapedOpen Tryd.prog) : MaxC w := cell_of_shapedOpen_int (zero := #[.int .i64 0]) (t := 3) h (of_decide_eq_true (by kernel_rfl)) (by kernel_rfl) rfl (by kernel_rfl) (by kernel_rfl) Tryd.underlying3
theorem MaxC.ext {w w' : World} (h : MaxC w) (hb : Ext w w') : MaxC w' := by
  obtain ⟨m, hm⟩ := h
  exact ⟨m, by rw [(ecell hb).1 _ _ (cell_lt hm).1]; exact hm⟩
end Go.Proofs.YthpnkcamjcohgaaDoor
/- The batch of a text: plain laws. -/
namespace Go.Proofs.YthpnkcamjcohgaaDoor
set_option linter.unusedVariables false
set_option linter.unusedSimpArgs false
open Go.RowKit

theorem bytes_eqJ {a b : ByteArray} (h : a.data.toList = b.data.toList) : a = b := ByteArray.ext (Array.toList_inj.1 h)
theorem spl_le (y : UInt8) : ∀ (l : List UInt8), ∀ x ∈ spl y l, x.length ≤ l.length
  | [], x, hx => by
    simp [spl] at hx
    rw [hx]; exact Nat.le_refl _
  | b :: l, x, hx => by
    have ih := spl_le y l
    unfold spl at hx
    split at hx
    · rcases List.mem_cons.1 hx with rfl | hx
      · simp
      · have := ih x hx
        simp; omega
    · split at hx
      · rename_i h t e
        rw [e] at ih
        rcases List.mem_cons.1 hx with rfl | hx
        · have := ih h (by simp)
          simp; omega
        · have := ih x (by simp [hx])
          simp; omega
      · rw [List.mem_singleton.1 hx]; simp
theorem pieces_le {y : UInt8} {s : ByteArray} {ps : List ByteArray} (h : ps.map (·.data.toList) = spl y s.data.toList) : (∀ x ∈ ps, x.size ≤ s.size) ∧ ps.length ≤ s.size + 1 ∧ ps ≠ [] := by
  have hs : s.data.toList.length = s.size := by simp
  refine ⟨fun x hx => ?_, ?_, fun e => ?_⟩
  · have h1 := spl_le y s.data.toList x.data.toList (by rw [← h]; exact List.mem_map_of_mem hx)
    have h2 : x.data.toList.length = x.size := by simp
    omega
  · have h1 := spl_len y s.data.toList
    rw [← h, List.length_map] at h1
    omega
  · rw [e] at h
    exact spl_ne y _ h.symm
/-- The text of a batch has been read. -/
def RbE (s : ByteArray) (e : Ending) : Prop :=
  (∃ (a : ByteArray) (f st c wd : Int), e = .returned (.tuple #[vBatch a f st c wd, .bool true]) ∧ batOK a f st c wd ∧ s = batT a f st c wd) ∨
  (e = .returned (.tuple #[vBatch ByteArray.empty 0 0 0 0, .bool false]) ∧ ∀ (a : ByteArray) (f st c wd : Int), batOK a f st c wd → s ≠ batT a f st c wd)
theorem RbE.no {s : ByteArray} (h : ∀ (a : ByteArray) (f st c wd : Int), batOK a f st c wd → s ≠ batT a f st c wd) : RbE s (.returned (.tuple #[vBatch ByteArray.empty 0 0 0 0, .bool false])) := .inr ⟨rfl, h⟩
end Go.Proofs.YthpnkcamjcohgaaDoor
