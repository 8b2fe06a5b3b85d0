/- Texts of the claim. -/
import Derived.Test.YthpnkcamjcohgaaGreatDoorLJoinedJobsK08
import Derived.Test.YthpnkcamjcohgaaGreatDoorLJoinedJobsK04
import Derived.Lib.SlBytesRow
namespace Go.Proofs.YthpnkcamjcohgaaGreatDoor
set_option linter.unusedVariables false
set_option linter.unusedSimpArgs false
open Go.RowKit

/-- The first M modes' widths are in the table, and of mode M + 1 those of fewer than t bytes. -/
def WTab (cs : Array Value) (M t : Nat) : Prop := cs.size = 1280 ∧ ∀ m n : Nat, 1 ≤ m → 1 ≤ n → n ≤ 255 → (m < M ∨ (m = M ∧ n < t)) → cs[m * 256 + n]? = some (.int .i64 (segW m n))
set_option maxRecDepth 100000 in
theorem WTab.step {cs : Array Value} {M t : Nat} (h : WTab cs M t) (hM : 1 ≤ M ∧ M ≤ 4) (ht : 1 ≤ t ∧ t ≤ 255) : WTab (cs.setIfInBounds (M * 256 + t) (.int .i64 (segW M t))) M (t + 1) := by
  refine ⟨by simpa using h.1, fun m n h1 h2 h3 h4 => ?_⟩
  by_cases e : m * 256 + n = M * 256 + t
  · have e1 : m = M ∧ n = t := by omega
    rw [e, Array.getElem?_setIfInBounds_self_of_lt (by rw [h.1]; omega), e1.1, e1.2]
  · rw [Array.getElem?_setIfInBounds_ne (by omega)]
    exact h.2 m n h1 h2 h3 (by omega)
theorem WTab.next {cs : Array Value} {M t : Nat} (h : WTab cs M t) (ht : 256 ≤ t) : WTab cs (M + 1) 1 :=
  ⟨h.1, fun m n h1 h2 h3 h4 => h.2 m n h1 h2 h3 (by omega)⟩

end Go.Proofs.YthpnkcamjcohgaaGreatDoor
/- How the program writes a segment. -/
/-! How the program writes a segment. -/
namespace Go.Proofs.YthpnkcamjcohgaaGreatDoor
set_option linter.unusedVariables false
set_option linter.unusedSimpArgs false
open Go.RowKit

theorem Blk.grew {w w' : World} {v v' : Value} {g : Nat} {cs : Array Value} {t : TypeId} (h : Blk w g cs t) (k : Grew v w w' v') (hne : v.ownBlock ≠ some g) : Blk w' g cs t :=
  (k.by_.block g h.lt (fun e => hne e.symm)).trans h
/-- What a grown row leaves alone: all blocks from n0 on, where the row lay below n0. -/
theorem gcell {v o : Value} {W wr : World} {n0 : Nat} (h : Grew v W wr o) (hv : ∀ k, v.ownBlock = some k → k < n0) :
    (∀ b o, n0 ≤ b → b < W.heap.size → wr.cell? ⟨b, o, none⟩ = W.cell? ⟨b, o, none⟩) ∧ (∀ b o, n0 ≤ b → b < W.heap.size → wr.frozen? ⟨b, o, none⟩ = W.frozen? ⟨b, o, none⟩) ∧ (∀ k, k < W.heap.size → k < wr.heap.size) ∧ W.heap.size ≤ wr.heap.size := by
  have hb : ∀ b, n0 ≤ b → b < W.heap.size → wr.heap[b]? = W.heap[b]? := fun b h1 h2 => h.by_.block b h2 fun e => by have := hv b e.symm; omega
  exact ⟨fun b o h1 h2 => World.cell?_of_block (a := ⟨b, o, none⟩) (hb b h1 h2), fun b o h1 h2 => World.frozen?_of_block (a := ⟨b, o, none⟩) (hb b h1 h2), fun k hk => Nat.lt_of_lt_of_le hk h.by_.size, h.by_.size⟩
theorem IntsAt.grew {v o : Value} {W wr : World} {n0 : Nat} {p : Option Addr} {xs : List Int} (hx : IntsAt W p xs) (h : Grew v W wr o) (hv : ∀ k, v.ownBlock = some k → k < n0) (hp : ∀ b o, p = some ⟨b, o, none⟩ → n0 ≤ b) : IntsAt wr p xs := fun i hi => by
  obtain ⟨b, o', e, hb, hc⟩ := hx i hi
  exact ⟨b, o', e, Nat.lt_of_lt_of_le hb h.by_.size, by rw [(gcell h hv).1 b _ (hp _ _ e) hb]; exact hc⟩

def iBase (m : Int) : Int := if m = 1 then 10 else if m = 2 then 45 else if m = 3 then 32 else 256
end Go.Proofs.YthpnkcamjcohgaaGreatDoor

/-! Reading a segment from bits: the numbers, the plain reading. -/
namespace Go.Proofs.YthpnkcamjcohgaaGreatDoor
set_option linter.unusedVariables false
set_option linter.unusedSimpArgs false
open Go.RowKit

end Go.Proofs.YthpnkcamjcohgaaGreatDoor
/- A world in which only one old block has turned; taking a byte into the reach of each mode. -/
/-! A world in which only one old block has turned; taking a byte into the reach of each mode. -/
namespace Go.Proofs.YthpnkcamjcohgaaGreatDoor
set_option linter.unusedVariables false
set_option linter.unusedSimpArgs false
open Go.RowKit

/-- The next reach of mode m where it was x and the byte b comes before. -/
def nextR (m b x : Int) : Int := if charVal m b < 0 then 0 else min (x + 1) 255
/-- Of the modes below M the next reach is in the block, of the others the old one. -/
def RTab (x : Int → Int) (b : Int) (cs : Array Value) (M : Nat) : Prop := cs.size = 5 ∧ ∀ m : Nat, 1 ≤ m → m ≤ 4 → cs[m]? = some (.int .i64 (if m < M then nextR m b (x m) else x m))
theorem RTab.step {x : Int → Int} {b : Int} {cs : Array Value} {M : Nat} (h : RTab x b cs M) (hM : 1 ≤ M ∧ M ≤ 4) {v : Int} (hv : v = nextR M b (x M)) : RTab x b (cs.setIfInBounds M (.int .i64 v)) (M + 1) := by
  refine ⟨by simpa using h.1, fun m h1 h2 => ?_⟩
  by_cases e : m = M
  · subst e
    rw [Array.getElem?_setIfInBounds_self_of_lt (by rw [h.1]; omega), if_pos (by omega), hv]
  · rw [Array.getElem?_setIfInBounds_ne (by omega), h.2 m h1 h2]
    by_cases e2 : m < M
    · rw [if_pos e2, if_pos (by omega)]
    · rw [if_neg e2, if_neg (by omega)]

end Go.Proofs.YthpnkcamjcohgaaGreatDoor

/-! The best segmentation: the table of choices. -/
namespace Go.Proofs.YthpnkcamjcohgaaGreatDoor
set_option linter.unusedVariables false
set_option linter.unusedSimpArgs false
open Go.RowKit

def Cell.val (c : Cell) : Value := .agg #[.int .i64 c.len, .int .i64 c.cnt, .int .i64 c.size, .int .i64 c.mode]
def Cell.cells (c : Cell) : Array Value := #[.int .i64 c.len, .int .i64 c.cnt, .int .i64 c.size, .int .i64 c.mode]
/-- The table holds the choices of the rests of up to d bytes. -/
def DTab (s : ByteArray) (cs : Array Value) (d : Nat) : Prop := cs.size = (s.size + 1) * 4 ∧ ∀ j, j ≤ d → j ≤ s.size → ∀ k, k < 4 → cs[(s.size - j) * 4 + k]? = (cell s j).cells[k]?
theorem DTab.zero (s : ByteArray) : DTab s (madeCells Cell.zero.val.cells ((s.size + 1) * 4)) 0 := by
  refine ⟨size_madeCells _ _, fun j h1 h2 k hk => ?_⟩
  obtain rfl : j = 0 := by omega
  rw [made_get (by omega), cell_zero]
  have e : ((s.size - 0) * 4 + k) % Cell.zero.val.cells.size = k := by
    show ((s.size - 0) * 4 + k) % 4 = k
    omega
  rw [e]
  match k, hk with
  | 0, _ => rfl
  | 1, _ => rfl
  | 2, _ => rfl
  | 3, _ => rfl
def put4 (cs : Array Value) (o : Nat) (c : Cell) : Array Value :=
  (((cs.setIfInBounds o (.int .i64 c.len)).setIfInBounds (o + 1) (.int .i64 c.cnt)).setIfInBounds (o + 2) (.int .i64 c.size)).setIfInBounds (o + 3) (.int .i64 c.mode)
theorem put4_ne {cs : Array Value} {o i : Nat} {c : Cell} (h : i < o ∨ o + 4 ≤ i) : (put4 cs o c)[i]? = cs[i]? := by
  unfold put4
  rw [Array.getElem?_setIfInBounds_ne (by omega), Array.getElem?_setIfInBounds_ne (by omega), Array.getElem?_setIfInBounds_ne (by omega), Array.getElem?_setIfInBounds_ne (by omega)]
theorem put4_at {cs : Array Value} {o k : Nat} {c : Cell} (h : o + 4 ≤ cs.size) (hk : k < 4) : (put4 cs o c)[o + k]? = c.cells[k]? := by
  unfold put4
  match k, hk with
  | 3, _ => rw [Array.getElem?_setIfInBounds_self_of_lt (by simp; omega)]; rfl
  | 2, _ => rw [Array.getElem?_setIfInBounds_ne (by omega), Array.getElem?_setIfInBounds_self_of_lt (by simp; omega)]; rfl
  | 1, _ => rw [Array.getElem?_setIfInBounds_ne (by omega), Array.getElem?_setIfInBounds_ne (by omega), Array.getElem?_setIfInBounds_self_of_lt (by simp; omega)]; rfl
  | 0, _ => rw [Array.getElem?_setIfInBounds_ne (by omega), Array.getElem?_setIfInBounds_ne (by omega), Array.getElem?_setIfInBounds_ne (by omega), Nat.add_zero, Array.getElem?_setIfInBounds_self_of_lt (by omega)]; rfl
theorem DTab.put {s : ByteArray} {cs : Array Value} {d : Nat} (h : DTab s cs d) (hd : d < s.size) : DTab s (put4 cs ((s.size - 1 - d) * 4) (cell s (d + 1))) (d + 1) := by
  refine ⟨by simp [put4, h.1], fun j h1 h2 k hk => ?_⟩
  by_cases e : j = d + 1
  · subst e
    rw [show s.size - (d + 1) = s.size - 1 - d by omega]
    exact put4_at (by rw [h.1]; omega) hk
  · rw [put4_ne (by omega)]
    exact h.2 j (by omega) h2 k hk
theorem Blk.put4 {w : World} {g : Nat} {t : TypeId} {cs : Array Value} (h : Blk w g cs t) (o : Nat) (x : Cell) :
    Blk ((((w.setCell ⟨g, o, none⟩ (.int .i64 x.len)).setCell ⟨g, o + 1, none⟩ (.int .i64 x.cnt)).setCell ⟨g, o + 2, none⟩ (.int .i64 x.size)).setCell ⟨g, o + 3, none⟩ (.int .i64 x.mode)) g (put4 cs o x) t :=
  (((h.set o (.int .i64 x.len)).set (o + 1) (.int .i64 x.cnt)).set (o + 2) (.int .i64 x.size)).set (o + 3) (.int .i64 x.mode)
section
variable {w wr w' : World} {gT gF gw gb : Nat} {csT csF csw : Array Value}
end
end Go.Proofs.YthpnkcamjcohgaaGreatDoor
