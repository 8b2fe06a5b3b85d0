/- Texts of the claim. -/
import Derived.Test.YthpnkcamjcohgaaDoorLBatchTextLK13
import Derived.Test.YthpnkcamjcohgaaDoorLBatchTextLK04
import Derived.Test.YthpnkcamjcohgaaDoorLBatchTextLK12
import Derived.Lib.SlBytesRow
namespace Go.Proofs.YthpnkcamjcohgaaDoor
set_option linter.unusedVariables false
set_option linter.unusedSimpArgs false
open Go.RowKit

/-- The first M modes' widths are in the table, and of mode M + 1 those of fewer than t bytes. -/
def WTab (cs : Array Value) (M t : Nat) : Prop := cs.size = 1280 ∧ ∀ m n : Nat, 1 ≤ m → 1 ≤ n → n ≤ 255 → (m < M ∨ (m = M ∧ n < t)) → cs[m * 256 + n]? = some (.int .i64 (segW m n))
set_option maxRecDepth 100000 in
theorem WTab.step {cs : Array Value} {M t : Nat} (h : WTab cs M t) (hM : 1 ≤ M ∧ M ≤ 4) (ht : 1 ≤ t ∧ t ≤ 255) : WTab (cs.setIfInBounds (M * 256 + t) (.int .i64 (segW M t))) M (t + 1) := by
  refine ⟨by simpa using h.1, fun m n h1 h2 h3 h4 => ?_⟩
  by_cases e : m * 256 + n = M * 256 + t
  · have e1 : m = M ∧ n = t := by omega
    rw [e, Array.getElem?_setIfInBounds_self_of_lt (by rw [h.1]; omega), e1.1, e1.2]
  · rw [Array.getElem?_setIfInBounds_ne (by omega)]
    exact h.2 m n h1 h2 h3 (by omega)
theorem WTab.next {cs : Array Value} {M t : Nat} (h : WTab cs M t) (ht : 256 ≤ t) : WTab cs (M + 1) 1 :=
  ⟨h.1, fun m n h1 h2 h3 h4 => h.2 m n h1 h2 h3 (by omega)⟩

/-- A mode whose row lies from block B on. -/
def ModeB (B : Nat) (w : World) (m : Int) (v : Value) : Prop := ModeV w m v ∧ ∀ b o s k, v = .iface 239 (.agg #[s, .slice (some ⟨b, o, none⟩) k k]) → B ≤ b
theorem ModeB.ext {B : Nat} {w w' : World} {m : Int} {v : Value} (h : ModeB B w m v) (hb : Ext w w') : ModeB B w' m v := ⟨h.1.ext hb, h.2⟩
theorem ModeB.mono {B B' : Nat} {w : World} {m : Int} {v : Value} (h : ModeB B w m v) (hB : B' ≤ B) : ModeB B' w m v := ⟨h.1, fun b o s k e => Nat.le_trans hB (h.2 b o s k e)⟩
theorem ModeB.set {B : Nat} {w : World} {m : Int} {v : Value} (h : ModeB B w m v) {g : Nat} (hg : g < B) (i : Nat) (u : Value) : ModeB B (w.setCell ⟨g, i, none⟩ u) m v := by
  refine ⟨?_, h.2⟩
  rcases h.1 with ⟨h1, p, n, h2, h3, h4⟩ | h1
  · refine .inl ⟨h1, p, n, h2, h3, fun j hj => ?_⟩
    obtain ⟨b, o, hp, hlt, hc⟩ := h4 j hj
    have hB : B ≤ b := h.2 b o _ n (by rw [h2, hp])
    have e : (w.setCell ⟨g, i, none⟩ u).heap[b]? = w.heap[b]? := Below.heap_setCell w _ u b (by show b ≠ g; omega)
    refine ⟨b, o, hp, by simpa [World.setCell] using hlt, ?_⟩
    rw [← hc]
    simp only [World.cell?, e]
  · exact .inr h1
end Go.Proofs.YthpnkcamjcohgaaDoor
/- How the program writes a segment. -/
/-! How the program writes a segment. -/
namespace Go.Proofs.YthpnkcamjcohgaaDoor
set_option linter.unusedVariables false
set_option linter.unusedSimpArgs false
open Go.RowKit

def iBase (m : Int) : Int := if m = 1 then 10 else if m = 2 then 45 else if m = 3 then 32 else 256
end Go.Proofs.YthpnkcamjcohgaaDoor

/-! Reading a segment from bits: the numbers, the plain reading. -/
namespace Go.Proofs.YthpnkcamjcohgaaDoor
set_option linter.unusedVariables false
set_option linter.unusedSimpArgs false
open Go.RowKit

end Go.Proofs.YthpnkcamjcohgaaDoor
