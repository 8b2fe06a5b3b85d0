/- A world in which only one old block has turned; taking a byte into the reach of each mode. -/
import Derived.Test.YthpnkcamjcohgaaDoorLBatchTextLK14
import Derived.Test.YthpnkcamjcohgaaDoorLBatchTextLK04
/-! A world in which only one old block has turned; taking a byte into the reach of each mode. -/
namespace Go.Proofs.YthpnkcamjcohgaaDoor
set_option linter.unusedVariables false
set_option linter.unusedSimpArgs false
open Go.RowKit

/-- The next reach of mode m where it was x and the byte b comes before. -/
def nextR (m b x : Int) : Int := if charVal m b < 0 then 0 else min (x + 1) 255
/-- Of the modes below M the next reach is in the block, of the others the old one. -/
def RTab (x : Int → Int) (b : Int) (cs : Array Value) (M : Nat) : Prop := cs.size = 5 ∧ ∀ m : Nat, 1 ≤ m → m ≤ 4 → cs[m]? = some (.int .i64 (if m < M then nextR m b (x m) else x m))
theorem RTab.step {x : Int → Int} {b : Int} {cs : Array Value} {M : Nat} (h : RTab x b cs M) (hM : 1 ≤ M ∧ M ≤ 4) {v : Int} (hv : v = nextR M b (x M)) : RTab x b (cs.setIfInBounds M (.int .i64 v)) (M + 1) := by
  refine ⟨by simpa using h.1, fun m h1 h2 => ?_⟩
  by_cases e : m = M
  · subst e
    rw [Array.getElem?_setIfInBounds_self_of_lt (by rw [h.1]; omega), if_pos (by omega), hv]
  · rw [Array.getElem?_setIfInBounds_ne (by omega), h.2 m h1 h2]
    by_cases e2 : m < M
    · rw [if_pos e2, if_pos (by omega)]
    · rw [if_neg e2, if_neg (by omega)]

end Go.Proofs.YthpnkcamjcohgaaDoor

/-! The best segmentation: the table of choices. -/
namespace Go.Proofs.YthpnkcamjcohgaaDoor
set_option linter.unusedVariables false
set_option linter.unusedSimpArgs false
open Go.RowKit

def Cell.val (c : Cell) : Value := .agg #[.int .i64 c.len, .int .i64 c.cnt, .int .i64 c.size, .int .i64 c.mode]
def Cell.cells (c : Cell) : Array Value := #[.int .i64 c.len, .int .i64 c.cnt, .int .i64 c.size, .int .i64 c.mode]
/-- The table holds the choices of the rests of up to d bytes. -/
def DTab (s : ByteArray) (cs : Array Value) (d : Nat) : Prop := cs.size = (s.size + 1) * 4 ∧ ∀ j, j ≤ d → j ≤ s.size → ∀ k, k < 4 → cs[(s.size - j) * 4 + k]? = (cell s j).cells[k]?
theorem DTab.zero (s : ByteArray) : DTab s (madeCells Cell.zero.val.cells ((s.size + 1) * 4)) 0 := by
  refine ⟨size_madeCells _ _, fun j h1 h2 k hk => ?_⟩
  obtain rfl : j = 0 := by omega
  rw [made_get (by omega), cell_zero]
  have e : ((s.size - 0) * 4 + k) % Cell.zero.val.cells.size = k := by
    show ((s.size - 0) * 4 + k) % 4 = k
    omega
  rw [e]
  match k, hk with
  | 0, _ => rfl
  | 1, _ => rfl
  | 2, _ => rfl
  | 3, _ => rfl
def put4 (cs : Array Value) (o : Nat) (c : Cell) : Array Value :=
  (((cs.setIfInBounds o (.int .i64 c.len)).setIfInBounds (o + 1) (.int .i64 c.cnt)).setIfInBounds (o + 2) (.int .i64 c.size)).setIfInBounds (o + 3) (.int .i64 c.mode)
theorem put4_ne {cs : Array Value} {o i : Nat} {c : Cell} (h : i < o ∨ o + 4 ≤ i) : (put4 cs o c)[i]? = cs[i]? := by
  unfold put4
  rw [Array.getElem?_setIfInBounds_ne (by omega), Array.getElem?_setIfInBounds_ne (by omega), Array.getElem?_setIfInBounds_ne (by omega), Array.getElem?_setIfInBounds_ne (by omega)]
theorem put4_at {cs : Array Value} {o k : Nat} {c : Cell} (h : o + 4 ≤ cs.size) (hk : k < 4) : (put4 cs o c)[o + k]? = c.cells[k]? := by
  unfold put4
  match k, hk with
  | 3, _ => rw [Array.getElem?_setIfInBounds_self_of_lt (by simp; omega)]; rfl
  | 2, _ => rw [Array.getElem?_setIfInBounds_ne (by omega), Array.getElem?_setIfInBounds_self_of_lt (by simp; omega)]; rfl
  | 1, _ => rw [Array.getElem?_setIfInBounds_ne (by omega), Array.getElem?_setIfInBounds_ne (by omega), Array.getElem?_setIfInBounds_self_of_lt (by simp; omega)]; rfl
  | 0, _ => rw [Array.getElem?_setIfInBounds_ne (by omega), Array.getElem?_setIfInBounds_ne (by omega), Array.getElem?_setIfInBounds_ne (by omega), Nat.add_zero, Array.getElem?_setIfInBounds_self_of_lt (by omega)]; rfl
theorem DTab.put {s : ByteArray} {cs : Array Value} {d : Nat} (h : DTab s cs d) (hd : d < s.size) : DTab s (put4 cs ((s.size - 1 - d) * 4) (cell s (d + 1))) (d + 1) := by
  refine ⟨by simp [put4, h.1], fun j h1 h2 k hk => ?_⟩
  by_cases e : j = d + 1
  · subst e
    rw [show s.size - (d + 1) = s.size - 1 - d by omega]
    exact put4_at (by rw [h.1]; omega) hk
  · rw [put4_ne (by omega)]
    exact h.2 j (by omega) h2 k hk
theorem Blk.put4 {w : World} {g : Nat} {t : TypeId} {cs : Array Value} (h : Blk w g cs t) (o : Nat) (x : Cell) :
    Blk ((((w.setCell ⟨g, o, none⟩ (.int .i64 x.len)).setCell ⟨g, o + 1, none⟩ (.int .i64 x.cnt)).setCell ⟨g, o + 2, none⟩ (.int .i64 x.size)).setCell ⟨g, o + 3, none⟩ (.int .i64 x.mode)) g (put4 cs o x) t :=
  (((h.set o (.int .i64 x.len)).set (o + 1) (.int .i64 x.cnt)).set (o + 2) (.int .i64 x.size)).set (o + 3) (.int .i64 x.mode)
section
variable {w wr w' : World} {gT gF gw gb : Nat} {csT csF csw : Array Value}
end
end Go.Proofs.YthpnkcamjcohgaaDoor
