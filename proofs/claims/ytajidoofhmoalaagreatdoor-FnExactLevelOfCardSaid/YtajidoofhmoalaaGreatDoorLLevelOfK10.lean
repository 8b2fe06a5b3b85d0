/- Texts of the claim. -/
import Derived.Test.YtajidoofhmoalaaGreatDoorLLevelOfK09
import Derived.Test.YtajidoofhmoalaaGreatDoorLLevelOfK05
import Derived.Lib.SlBytesRow
import Derived.Test.YtajidoofhmoalaaGreatDoorLLevelOfK01
import Derived.Test.YtajidoofhmoalaaGreatDoorLLevelOfK03
set_option linter.unusedVariables false
set_option linter.unusedSimpArgs false
namespace Go.Proofs.YtajidoofhmoalaaGreatDoor
open Go.RowKit

def WTab (cs : Array Value) (M t : Nat) : Prop := cs.size = 1280 ∧ ∀ m n : Nat, 1 ≤ m → 1 ≤ n → n ≤ 255 → (m < M ∨ (m = M ∧ n < t)) → cs[m * 256 + n]? = some (.int .i64 (segW m n))
set_option maxRecDepth 100000 in
theorem WTab.step {cs : Array Value} {M t : Nat} (h : WTab cs M t) (hM : 1 ≤ M ∧ M ≤ 4) (ht : 1 ≤ t ∧ t ≤ 255) : WTab (cs.setIfInBounds (M * 256 + t) (.int .i64 (segW M t))) M (t + 1) := by
  refine ⟨by simpa using h.1, fun m n h1 h2 h3 h4 => ?_⟩
  by_cases e : m * 256 + n = M * 256 + t
  · have e1 : m = M ∧ n = t := by omega
    rw [e, Array.getElem?_setIfInBounds_self_of_lt (by rw [h.1]; omega), e1.1, e1.2]
  · rw [Array.getElem?_setIfInBounds_ne (by omega)]
    exact h.2 m n h1 h2 h3 (by omega)
theorem WTab.next {cs : Array Value} {M t : Nat} (h : WTab cs M t) (ht : 256 ≤ t) : WTab cs (M + 1) 1 :=
  ⟨h.1, fun m n h1 h2 h3 h4 => h.2 m n h1 h2 h3 (by omega)⟩

end Go.Proofs.YtajidoofhmoalaaGreatDoor
/- How the program writes a segment. -/
namespace Go.Proofs.YtajidoofhmoalaaGreatDoor
open Go.RowKit

theorem Blk.grew {w w' : World} {v v' : Value} {g : Nat} {cs : Array Value} {t : TypeId} (h : Blk w g cs t) (k : Grew v w w' v') (hne : v.ownBlock ≠ some g) : Blk w' g cs t :=
  (k.by_.block g h.lt (fun e => hne e.symm)).trans h
theorem gcell {v o : Value} {W wr : World} {n0 : Nat} (h : Grew v W wr o) (hv : ∀ k, v.ownBlock = some k → k < n0) :
    (∀ b o, n0 ≤ b → b < W.heap.size → wr.cell? ⟨b, o, none⟩ = W.cell? ⟨b, o, none⟩) ∧ (∀ b o, n0 ≤ b → b < W.heap.size → wr.frozen? ⟨b, o, none⟩ = W.frozen? ⟨b, o, none⟩) ∧ (∀ k, k < W.heap.size → k < wr.heap.size) ∧ W.heap.size ≤ wr.heap.size := by
  have hb : ∀ b, n0 ≤ b → b < W.heap.size → wr.heap[b]? = W.heap[b]? := fun b h1 h2 => h.by_.block b h2 fun e => by have := hv b e.symm; omega
  exact ⟨fun b o h1 h2 => World.cell?_of_block (a := ⟨b, o, none⟩) (hb b h1 h2), fun b o h1 h2 => World.frozen?_of_block (a := ⟨b, o, none⟩) (hb b h1 h2), fun k hk => Nat.lt_of_lt_of_le hk h.by_.size, h.by_.size⟩
theorem IntsAt.grew {v o : Value} {W wr : World} {n0 : Nat} {p : Option Addr} {xs : List Int} (hx : IntsAt W p xs) (h : Grew v W wr o) (hv : ∀ k, v.ownBlock = some k → k < n0) (hp : ∀ b o, p = some ⟨b, o, none⟩ → n0 ≤ b) : IntsAt wr p xs := fun i hi => by
  obtain ⟨b, o', e, hb, hc⟩ := hx i hi
  exact ⟨b, o', e, Nat.lt_of_lt_of_le hb h.by_.size, by rw [(gcell h hv).1 b _ (hp _ _ e) hb]; exact hc⟩

def iBase (m : Int) : Int := if m = 1 then 10 else if m = 2 then 45 else if m = 3 then 32 else 256
end Go.Proofs.YtajidoofhmoalaaGreatDoor

namespace Go.Proofs.YtajidoofhmoalaaGreatDoor
open Go.RowKit

end Go.Proofs.YtajidoofhmoalaaGreatDoor
/- A world in which only one old block has turned; taking a byte into the reach of each mode. -/
namespace Go.Proofs.YtajidoofhmoalaaGreatDoor
open Go.RowKit

def nextR (m b x : Int) : Int := if charVal m b < 0 then 0 else min (x + 1) 255
def RTab (x : Int → Int) (b : Int) (cs : Array Value) (M : Nat) : Prop := cs.size = 5 ∧ ∀ m : Nat, 1 ≤ m → m ≤ 4 → cs[m]? = some (.int .i64 (if m < M then nextR m b (x m) else x m))
theorem RTab.step {x : Int → Int} {b : Int} {cs : Array Value} {M : Nat} (h : RTab x b cs M) (hM : 1 ≤ M ∧ M ≤ 4) {v : Int} (hv : v = nextR M b (x M)) : RTab x b (cs.setIfInBounds M (.int .i64 v)) (M + 1) := by
  refine ⟨by simpa using h.1, fun m h1 h2 => ?_⟩
  by_cases e : m = M
  · subst e
    rw [Array.getElem?_setIfInBounds_self_of_lt (by rw [h.1]; omega), if_pos (by omega), hv]
  · rw [Array.getElem?_setIfInBounds_ne (by omega), h.2 m h1 h2]
    by_cases e2 : m < M
    · rw [if_pos e2, if_pos (by omega)]
    · rw [if_neg e2, if_neg (by omega)]

end Go.Proofs.YtajidoofhmoalaaGreatDoor

namespace Go.Proofs.YtajidoofhmoalaaGreatDoor
open Go.RowKit

def Cell.val (c : Cell) : Value := .agg #[.int .i64 c.len, .int .i64 c.cnt, .int .i64 c.size, .int .i64 c.mode]
def Cell.cells (c : Cell) : Array Value := #[.int .i64 c.len, .int .i64 c.cnt, .int .i64 c.size, .int .i64 c.mode]
def DTab (s : ByteArray) (cs : Array Value) (d : Nat) : Prop := cs.size = (s.size + 1) * 4 ∧ ∀ j, j ≤ d → j ≤ s.size → ∀ k, k < 4 → cs[(s.size - j) * 4 + k]? = (cell s j).cells[k]?
theorem DTab.zero (s : ByteArray) : DTab s (madeCells Cell.zero.val.cells ((s.size + 1) * 4)) 0 := by
  refine ⟨size_madeCells _ _, fun j h1 h2 k hk => ?_⟩
  obtain rfl : j = 0 := by omega
  rw [made_get (by omega), cell_zero]
  have e : ((s.size - 0) * 4 + k) % Cell.zero.val.cells.size = k := by
    show ((s.size - 0) * 4 + k) % 4 = k
    omega
  rw [e]
  match k, hk with
  | 0, _ => rfl
  | 1, _ => rfl
  | 2, _ => rfl
  | 3, _ => rfl
def put4 (cs : Array Value) (o : Nat) (c : Cell) : Array Value :=
  (((cs.setIfInBounds o (.int .i64 c.len)).setIfInBounds (o + 1) (.int .i64 c.cnt)).setIfInBounds (o + 2) (.int .i64 c.size)).setIfInBounds (o + 3) (.int .i64 c.mode)
theorem put4_ne {cs : Array Value} {o i : Nat} {c : Cell} (h : i < o ∨ o + 4 ≤ i) : (put4 cs o c)[i]? = cs[i]? := by
  unfold put4
  rw [Array.getElem?_setIfInBounds_ne (by omega), Array.getElem?_setIfInBounds_ne (by omega), Array.getElem?_setIfInBounds_ne (by omega), Array.getElem?_setIfInBounds_ne (by omega)]
theorem put4_at {cs : Array Value} {o k : Nat} {c : Cell} (h : o + 4 ≤ cs.size) (hk : k < 4) : (put4 cs o c)[o + k]? = c.cells[k]? := by
  unfold put4
  match k, hk with
  | 3, _ => rw [Array.getElem?_setIfInBounds_self_of_lt (by simp; omega)]; rfl
  | 2, _ => rw [Array.getElem?_setIfInBounds_ne (by omega), Array.getElem?_setIfInBounds_self_of_lt (by simp; omega)]; rfl
  | 1, _ => rw [Array.getElem?_setIfInBounds_ne (by omega), Array.getElem?_setIfInBounds_ne (by omega), Array.getElem?_setIfInBounds_self_of_lt (by simp; omega)]; rfl
  | 0, _ => rw [Array.getElem?_setIfInBounds_ne (by omega), Array.getElem?_setIfInBounds_ne (by omega), Array.getElem?_setIfInBounds_ne (by omega), Nat.add_zero, Array.getElem?_setIfInBounds_self_of_lt (by omega)]; rfl
theorem DTab.put {s : ByteArray} {cs : Array Value} {d : Nat} (h : DTab s cs d) (hd : d < s.size) : DTab s (put4 cs ((s.size - 1 - d) * 4) (cell s (d + 1))) (d + 1) := by
  refine ⟨by simp [put4, h.1], fun j h1 h2 k hk => ?_⟩
  by_cases e : j = d + 1
  · subst e
    rw [show s.size - (d + 1) = s.size - 1 - d by omega]
    exact put4_at (by rw [h.1]; omega) hk
  · rw [put4_ne (by omega)]
    exact h.2 j (by omega) h2 k hk
theorem Blk.put4 {w : World} {g : Nat} {t : TypeId} {cs : Array Value} (h : Blk w g cs t) (o : Nat) (x : Cell) :
    Blk ((((w.setCell ⟨g, o, none⟩ (.int .i64 x.len)).setCell ⟨g, o + 1, none⟩ (.int .i64 x.cnt)).setCell ⟨g, o + 2, none⟩ (.int .i64 x.size)).setCell ⟨g, o + 3, none⟩ (.int .i64 x.mode)) g (put4 cs o x) t :=
  (((h.set o (.int .i64 x.len)).set (o + 1) (.int .i64 x.cnt)).set (o + 2) (.int .i64 x.size)).set (o + 3) (.int .i64 x.mode)
section
variable {w wr w' : World} {gT gF gw gb : Nat} {csT csF csw : Array Value}
end
end Go.Proofs.YtajidoofhmoalaaGreatDoor
/- The best length and the best segments. -/
namespace Go.Proofs.YtajidoofhmoalaaGreatDoor
open Go.RowKit

end Go.Proofs.YtajidoofhmoalaaGreatDoor

namespace Go.Proofs.YtajidoofhmoalaaGreatDoor
open Go.RowKit

def WTb (s : ByteArray) (cs : Array Value) (d : Nat) (b : Cell) : Prop := DTab s cs d ∧ (b.cnt ≠ 0 → ∀ k, k < 4 → cs[(s.size - 1 - d) * 4 + k]? = b.cells[k]?)
theorem WTb.done {s : ByteArray} {cs : Array Value} {d : Nat} (h : WTb s cs d (cell s (d + 1))) (hd : d < s.size) : DTab s cs (d + 1) := by
  refine ⟨h.1.1, fun j h1 h2 k hk => ?_⟩
  by_cases e : j = d + 1
  · subst e
    have hg := cell_good s (d + 1) (by omega)
    rw [show s.size - (d + 1) = s.size - 1 - d by omega]
    exact h.2 (by unfold Cell.good at hg; omega) k hk
  · exact h.1.2 j (by omega) h2 k hk
theorem WTb.put {s : ByteArray} {cs : Array Value} {d : Nat} {b : Cell} (h : WTb s cs d b) (hd : d < s.size) (x : Cell) : WTb s (put4 cs ((s.size - 1 - d) * 4) x) d x := by
  refine ⟨⟨by simp [put4, h.1.1], fun j h1 h2 k hk => ?_⟩, fun _ k hk => put4_at (by rw [h.1.1]; omega) hk⟩
  rw [put4_ne (by omega)]
  exact h.1.2 j h1 h2 k hk
theorem WTb.cells {s : ByteArray} {cs : Array Value} {d : Nat} {b : Cell} (h : WTb s cs d b) (hb : b.cnt ≠ 0) :
    cs[(s.size - 1 - d) * 4]? = some (.int .i64 b.len) ∧ cs[(s.size - 1 - d) * 4 + 1]? = some (.int .i64 b.cnt) ∧ cs[(s.size - 1 - d) * 4 + 2]? = some (.int .i64 b.size) ∧ cs[(s.size - 1 - d) * 4 + 3]? = some (.int .i64 b.mode) :=
  ⟨h.2 hb 0 (by omega), h.2 hb 1 (by omega), h.2 hb 2 (by omega), h.2 hb 3 (by omega)⟩
end Go.Proofs.YtajidoofhmoalaaGreatDoor

namespace Go.Proofs.YtajidoofhmoalaaGreatDoor
open Go.RowKit

end Go.Proofs.YtajidoofhmoalaaGreatDoor
/- Lists of segments: how the laws hand them on; their length. -/
namespace Go.Proofs.YtajidoofhmoalaaGreatDoor
open Go.RowKit

theorem SAt.two {α : Type} {f : α → List Value} {w : World} {p : Option Addr} {xs : List α} (h : SAt f 2 w p xs) {i : Nat} (hi : i < xs.length) {u v : Value} (hf : f (xs[i]'hi) = [u, v]) :
    ∃ b o, p = some ⟨b, o, none⟩ ∧ b < w.heap.size ∧ w.cell? ⟨b, o + i * 2, none⟩ = some u ∧ w.cell? ⟨b, o + i * 2 + 1, none⟩ = some v := by
  obtain ⟨b, o, h1, h2, h3⟩ := h i hi
  rw [hf] at h3
  exact ⟨b, o, h1, h2, h3 0 u rfl, h3 1 v rfl⟩

end Go.Proofs.YtajidoofhmoalaaGreatDoor

namespace Go.Proofs.YtajidoofhmoalaaGreatDoor
open Go.RowKit

end Go.Proofs.YtajidoofhmoalaaGreatDoor
/- The joined text of segments; segmentations. -/
namespace Go.Proofs.YtajidoofhmoalaaGreatDoor
open Go.RowKit

def joined (xs : List Sg) : ByteArray := xs.foldl (fun a x => a ++ x.2) ByteArray.empty
end Go.Proofs.YtajidoofhmoalaaGreatDoor
/- The best segments are segments; how many bits a segment has. -/
namespace Go.Proofs.YtajidoofhmoalaaGreatDoor
open Go.RowKit

end Go.Proofs.YtajidoofhmoalaaGreatDoor
/- How the program reads a segment. -/
namespace Go.Proofs.YtajidoofhmoalaaGreatDoor
open Go.RowKit

def chr (m v : Int) : UInt8 := if m = 4 then UInt8.ofNat v.toNat else (modeSet m).data.toList.getD v.toNat 0
def gq (g b : Int) : Nat → Int
  | 0 => g
  | j + 1 => gq g b j / b
def dig (m g : Int) (n : Nat) : List UInt8 := (List.range n).map fun i => chr m (gq g (iBase m) (n - 1 - i) % iBase m)
def PTab (m g : Int) (n : Nat) (cs : Array Value) (j : Nat) : Prop := cs.size = n ∧ ∀ q, q < n → n ≤ q + j → cs[q]? = some (.int .u8 (chr m (gq g (iBase m) (n - 1 - q) % iBase m)).toNat)
theorem PTab.step {m g : Int} {n : Nat} {cs : Array Value} {j : Nat} (h : PTab m g n cs j) (hj : j < n) : PTab m g n (cs.setIfInBounds (n - 1 - j) (.int .u8 (chr m (gq g (iBase m) j % iBase m)).toNat)) (j + 1) := by
  refine ⟨by simpa using h.1, fun q h1 h2 => ?_⟩
  by_cases e : q = n - 1 - j
  · subst e
    rw [Array.getElem?_setIfInBounds_self_of_lt (by rw [h.1]; omega), show n - 1 - (n - 1 - j) = j by omega]
  · rw [Array.getElem?_setIfInBounds_ne (by omega)]
    exact h.2 q h1 (by omega)
theorem PTab.all {m g : Int} {n : Nat} {cs : Array Value} (h : PTab m g n cs n) : cs.toList = Lib.strCells ⟨(dig m g n).toArray⟩ := by
  apply List.ext_getElem?
  intro q
  by_cases hq : q < n
  · have := h.2 q hq (by omega)
    rw [Array.getElem?_toList, this]
    simp [Lib.strCells, dig, hq]
  · rw [List.getElem?_eq_none (by rw [Array.length_toList, h.1]; omega), List.getElem?_eq_none (by simp [Lib.strCells, dig]; omega)]
end Go.Proofs.YtajidoofhmoalaaGreatDoor

namespace Go.Proofs.YtajidoofhmoalaaGreatDoor
open Go.RowKit

section
variable {ops : Array Oper} {Q : Exit → Act → World → Prop} {rest : List Oper} {a : Act} {dst : Option Tmp} {s x : Operand} {ty : TypeId} {pos : String} {after : Array Edge} {B : Nat} {w0 : World} {v : Value} {xs : ByteArray}
end

theorem make_cap {ops : Array Oper} {rest : List Oper} {dst : Option Tmp} {ty : TypeId} {pos : String} {after : Array Edge} {a : Act} {w : World} {Q : Exit → Act → World → Prop} {t e : TypeId} {z : Value} {size bytes : Nat} {l c : Operand}
    (ht : Tryz.prog.underlying t = some (.slice e)) (hinfo : (Tryz.prog.info? e).map (fun i => (i.zero, i.size, i.bytes)) = some (some z, size, bytes)) (n : Nat)
    (hl : a.eval l = .int .i64 0) (hc : a.eval c = .int .i64 n) (hb : bytes * n ≤ 281474976710656) (hn : n ≤ 281474976710656)
    (h : wpList Tryz.prog ops Q rest (a.put dst (.slice (some ⟨w.heap.size, 0, none⟩) 0 n)) (w.alloc (.cells (madeCells z.cells (n * size)) e))) :
    wpList Tryz.prog ops Q (⟨dst, .makeSlice t l c, ty, pos, after, none⟩ :: rest) a w := by
  obtain ⟨i, hi, hzz⟩ := Option.map_eq_some_iff.1 hinfo
  simp only [Prod.mk.injEq] at hzz
  obtain ⟨hz, hs, hb'⟩ := hzz
  subst hs
  refine wpList_plain rfl fun K hK' => ?_
  have hb2 : (i.bytes : Int) * (n : Int) ≤ 281474976710656 := by
    have h : ((i.bytes * n : Nat) : Int) ≤ 281474976710656 := by rw [hb']; omega
    rwa [Int.natCast_mul] at h
  have hr := run_make (P := Tryz.prog) w t e i z ht hi hz .i64 .i64 0 n (by omega) (by omega) hb2 (by omega)
  simp only [Int.toNat_natCast] at hr
  unfold Oper.wp
  simp [execOp, hl, hc, hr, Result.andThen]
  exact hK' _ _ h

end Go.Proofs.YtajidoofhmoalaaGreatDoor

namespace Go.Proofs.YtajidoofhmoalaaGreatDoor
open Go.RowKit

end Go.Proofs.YtajidoofhmoalaaGreatDoor
