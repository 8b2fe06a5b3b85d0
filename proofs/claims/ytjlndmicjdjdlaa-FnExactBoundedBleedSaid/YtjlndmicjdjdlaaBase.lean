/- What all texts of this seat share: imports, small lemmas on plain values. -/
import Derived.Test.YtjlndmicjdjdlaaRows
import Derived.WalkKit
import Derived.Deep.QuietTactic
import Derived.BigQuiet
import Derived.Lib.Hide
import Derived.ProofKit
import Derived.OpenShut
import Derived.WalkSmall
namespace Go.Proofs.Ytjlndmicjdjdlaa
set_option linter.unusedVariables false
set_option linter.unusedSimpArgs false
open Go.RowKit

/-- Of what was there nothing has turned; new blocks may have come. -/
def Ext (w w' : World) : Prop := Below w.heap.size w w'
theorem Ext.below {w w' : World} (h : Ext w w') : Below w.heap.size w w' := h
theorem Ext.refl (w : World) : Ext w w := Below.refl _ _
theorem Ext.trans {a b c : World} (h : Ext a b) (k : Ext b c) : Ext a c := Below.trans h (Below.mono k h.size)
theorem Ext.trans2 {a b c : World} (k : Ext b c) (h : Ext a b) : Ext a c := h.trans k
theorem Ext.drew {a w : World} (h : Ext a w) : Ext a w.drew := Below.drew h
theorem Ext.drewN {a w : World} (h : Ext a w) (n : Nat) : Ext a (w.drewN n) := below_drewN h n
theorem Ext.alloc {a w : World} (h : Ext a w) (o : Obj) : Ext a (w.alloc o) := Below.alloc h h.size o
theorem Ext.setCell {a w : World} (h : Ext a w) {p : Addr} (hp : a.heap.size ≤ p.block) (v : Value) : Ext a (w.setCell p v) := Below.setCell h hp v
theorem ecell {W w1 : World} (hb : Ext W w1) : (∀ b o, b < W.heap.size → w1.cell? ⟨b, o, none⟩ = W.cell? ⟨b, o, none⟩) ∧ (∀ b o, b < W.heap.size → w1.frozen? ⟨b, o, none⟩ = W.frozen? ⟨b, o, none⟩) ∧ (∀ k, k < W.heap.size → k < w1.heap.size) ∧ W.heap.size ≤ w1.heap.size :=
  ⟨fun b o h => hb.below.cell (p := ⟨b, o, none⟩) h, fun b o h => hb.below.frozen (p := ⟨b, o, none⟩) h, fun _ h => Nat.lt_of_lt_of_le h hb.below.size, hb.below.size⟩

theorem ret_int {k : IntKind} {a b : Int} (h : a = b) : Ending.returned (.int k a) = .returned (.int k b) := by rw [h]
theorem ret_bool {a b : Bool} (h : a = b) : Ending.returned (.bool a) = .returned (.bool b) := by rw [h]

theorem ret_2i {a b c d : Int} (h : a = c ∧ b = d) : Ending.returned (.tuple #[.int .i64 a, .int .i64 b]) = .returned (.tuple #[.int .i64 c, .int .i64 d]) := by rw [h.1, h.2]

/-- The call's result is the truth of P. -/
def isB (e : Ending) (P : Prop) : Prop := (P ∧ e = .returned (.bool true)) ∨ (¬P ∧ e = .returned (.bool false))
theorem isB_t {P : Prop} (h : P) : isB (.returned (.bool true)) P := .inl ⟨h, rfl⟩
theorem isB_f {P : Prop} (h : ¬P) : isB (.returned (.bool false)) P := .inr ⟨h, rfl⟩
theorem isB_m {P : Prop} {b : Bool} (h : b = true ↔ P) : isB (.returned (.bool b)) P := by
  cases b
  · exact isB_f (by rw [← h]; simp)
  · exact isB_t (h.1 rfl)

end Go.Proofs.Ytjlndmicjdjdlaa
