
/- Channels in one goroutine: a send into a buffer with room, a receive, in a walk of the kit's own. -/
import Derived.Test.YtdjknkmifaomgaaGreatBits
import Derived.Conc.LoneCalls
import Derived.Test.YtdjknkmifaomgaaGreatStructs
import Derived.Deep.Cut
import Derived.Test.YtdjknkmifaomgaaGreatWriteI
/-! Channels in one goroutine: a send into a buffer with room, a receive, in a walk of the kit's own. -/
namespace Go.Proofs.YtdjknkmifaomgaaGreat
set_option linter.unusedVariables false
set_option linter.unusedSimpArgs false
open Go.RowKit Go.Conc

section
variable {P : Program} {ops : Array Oper} {Q : Exit → Act → World → Prop} {i : Nat} {rest : List Nat} {o : Oper} {a : Act} {w : World}
/-- What is left of a region, said of the machine's own steps. -/
def OpsSem (P : Program) (ops : Array Oper) (Q : Exit → Act → World → Prop) (l : List Nat) (a : Act) (w : World) : Prop :=
  ∀ (b : Frame) (k : List Item) (cs : List Frame), ∃ e a' w', Q e a' w' ∧ Arrives P (lone (b.at a (.inRegion ops l :: k)) cs w) b k cs e a' w'
theorem ops_nil (h : Q .normal a w) : OpsSem P ops Q [] a w := fun _ _ _ => ⟨.normal, a, w, h, .one step_region_end⟩
theorem wp_region_sem {id : Nat} (h : OpsSem P ops Q (List.range ops.size) a w) : (Code.region id ops false).wp P Q a w :=
  fun b k cs => let ⟨e, a', w', q, r⟩ := h b k cs; ⟨e, a', w', q, .of_steps (.one step_region) r⟩
theorem ops_fin (ho : ops[i]? = some o) (b : Frame) (k : List Item) (v : Value) : (b.at a (.inRegion ops (i :: rest) :: k)).finish v = b.at (a.put o.dst v) (.inRegion ops rest :: k) := by
  rw [Frame.finish_at, ho]; rfl
theorem ops_value {v : Value} {w' : World} (ho : ops[i]? = some o) (hg : o.guard = none) (hr : (execOp a.eval o).run P w = .ok (.value v) w') (h : OpsSem P ops Q rest (a.put o.dst v) w') : OpsSem P ops Q (i :: rest) a w := fun b k cs => by
  obtain ⟨e, a', w'', hq, harr⟩ := h b k cs
  have hgo := stepG_op (P := P) (b := b) (k := k) (cs := cs) (w := w) (rest := rest) ho (show Region.wanted o (yielded ops a.tmps) = true by simp [Region.wanted, hg])
  refine ⟨e, a', w'', hq, .of_steps (.one (step_lone_go ?_)) harr⟩
  rw [hgo, ← ops_fin ho]
  simp [stepG.apply, hr]
theorem stepG_commE {b : Frame} {k : List Item} {cs : List Frame} {cases : Array CommCase} {blocking : Bool} {shape : CommShape} {w' : World} (ho : ops[i]? = some o) (hg : o.guard = none)
    (hr : (execOp a.eval o).run P w = .ok (.comm cases blocking shape) w') :
    ∃ es, stepG P true (G (b.at a (.inRegion ops (i :: rest) :: k)) cs) w = .comm (G (b.at a (.inRegion ops (i :: rest) :: k)) cs) cases blocking shape w' es := by
  rw [stepG_oper ho (by simp [Region.wanted, hg])]
  simp [stepG.apply, hr, G, Frame.at, GStep.after]
theorem ops_send {x y : Operand} {c cap s r : Nat} {buf : Array Value} {v : Value} {tm : Bool} (ho : ops[i]? = some o) (hg : o.guard = none) (hop : o.op = .send x y) (hx : a.eval x = .chan (some c)) (hy : a.eval y = v)
    (hc : w.heap[c]? = some (.chan cap buf false s r tm)) (hroom : buf.size < cap) (h : OpsSem P ops Q rest (a.put o.dst undef) (w.setChan c cap (buf.push v) false (s + 1) r tm)) : OpsSem P ops Q (i :: rest) a w := fun b k cs => by
  obtain ⟨e, a', w'', hq, harr⟩ := h b k cs
  obtain ⟨es, hG⟩ := stepG_commE (P := P) (b := b) (k := k) (cs := cs) (rest := rest) (a := a) (w := w) (w' := w) (cases := #[scase c v (.tuple #[])]) (blocking := true) (shape := .send) ho hg (by simp [execOp, hop, hx, hy, scase])
  refine ⟨e, a', w'', hq, .of_steps (.one ?_) harr⟩
  rw [lone_eq_solo, step_lone_send_room hG hc hroom, ops_fin ho]
  rfl
theorem ops_recv_buf {t : TypeId} {d : ChanDir} {el : TypeId} {x : Operand} {c cap s r : Nat} {buf : Array Value} {z : Value} {tm closed : Bool} (ho : ops[i]? = some o) (hg : o.guard = none) (hop : o.op = .recv t x true) (ht : P.underlying t = some (.chan d el)) (hz : (zeroValue el).run P w = .ok z w) (hx : a.eval x = .chan (some c))
    (hc : w.heap[c]? = some (.chan cap buf closed s r tm)) (hsome : 0 < buf.size) (h : OpsSem P ops Q rest (a.put o.dst (.tuple #[buf.getD 0 undef, .bool true])) (w.setChan c cap (buf.extract 1 buf.size) closed s (r + 1) tm)) : OpsSem P ops Q (i :: rest) a w := fun b k cs => by
  obtain ⟨e, a', w'', hq, harr⟩ := h b k cs
  obtain ⟨es, hG⟩ := stepG_commE (P := P) (b := b) (k := k) (cs := cs) (rest := rest) (a := a) (w := w) (w' := w) (cases := #[rcase c z]) (blocking := true) (shape := .recv true) ho hg (by simp [execOp, hop, hx, rcase, run_underlying ht, hz])
  refine ⟨e, a', w'', hq, .of_steps (.one ?_) harr⟩
  rw [lone_eq_solo, step_lone_recv_buf true hG hc hsome, ops_fin ho]
  rfl
theorem ops_recv_shut {t : TypeId} {d : ChanDir} {el : TypeId} {x : Operand} {c cap s r : Nat} {z : Value} {tm : Bool} (ho : ops[i]? = some o) (hg : o.guard = none) (hop : o.op = .recv t x true) (ht : P.underlying t = some (.chan d el)) (hz : (zeroValue el).run P w = .ok z w) (hx : a.eval x = .chan (some c))
    (hc : w.heap[c]? = some (.chan cap #[] true s r tm)) (h : OpsSem P ops Q rest (a.put o.dst (.tuple #[z, .bool false])) w) : OpsSem P ops Q (i :: rest) a w := fun b k cs => by
  obtain ⟨e, a', w'', hq, harr⟩ := h b k cs
  obtain ⟨es, hG⟩ := stepG_commE (P := P) (b := b) (k := k) (cs := cs) (rest := rest) (a := a) (w := w) (w' := w) (cases := #[rcase c z]) (blocking := true) (shape := .recv true) ho hg (by simp [execOp, hop, hx, rcase, run_underlying ht, hz])
  refine ⟨e, a', w'', hq, .of_steps (.one ?_) harr⟩
  rw [lone_eq_solo, step_lone_recv_shut true hG hc, ops_fin ho]
  rfl
end

/-- A channel of room for so many, which holds these numbers. -/
def ChanI (w : World) (c cap : Nat) (xs : List Int) (closed : Bool) : Prop := ∃ s r, w.heap[c]? = some (.chan cap (xs.map (Value.int .i64)).toArray closed s r false)
theorem ChanI.lt {w : World} {c cap : Nat} {xs : List Int} {closed : Bool} (h : ChanI w c cap xs closed) : c < w.heap.size := by
  obtain ⟨s, r, h⟩ := h
  exact (Array.getElem?_eq_some_iff.1 h).1
theorem ChanI.ext {w w' : World} {c cap : Nat} {xs : List Int} {closed : Bool} (h : ChanI w c cap xs closed) (hb : Ext w w') : ChanI w' c cap xs closed := by
  have hl := h.lt
  obtain ⟨s, r, h⟩ := h
  exact ⟨s, r, (hb.below.block c hl).trans h⟩
theorem Ext.setChan {a w : World} (h : Ext a w) {c : Nat} (hc : a.heap.size ≤ c) (cap : Nat) (buf : Array Value) (cl : Bool) (s r : Nat) (tm : Bool) : Ext a (w.setChan c cap buf cl s r tm) := below_setChan h hc cap buf cl s r tm
end Go.Proofs.YtdjknkmifaomgaaGreat

/-! A payload's bits, sent over a channel. -/
namespace Go.Proofs.YtdjknkmifaomgaaGreat
set_option linter.unusedVariables false
set_option linter.unusedSimpArgs false
open Go.RowKit Go.Conc

def patL (n : Nat) : List Int := (List.range n).map fun k => [1, 1, 0, 1, 0, 0].getD (k % 6) 0
/-- The bits, an end, and a pattern that fills the room. -/
def padL (xs : List Int) (room : Nat) : List Int := xs ++ List.replicate (min (room - xs.length) 3) 0 ++ patL (room - xs.length - 3)
theorem patL_succ (n : Nat) : patL (n + 1) = patL n ++ [[1, 1, 0, 1, 0, 0].getD (n % 6) 0] := by simp [patL, List.range_succ]
end Go.Proofs.YtdjknkmifaomgaaGreat

/-! The elements of bits that come over a channel. -/
namespace Go.Proofs.YtdjknkmifaomgaaGreat
set_option linter.unusedVariables false
set_option linter.unusedSimpArgs false
open Go.RowKit Go.Conc

/-- The numbers of w bits each. -/
def elemsL (w : Nat) (xs : List Int) : List Int := (List.range (xs.length / w)).map fun i => numAt xs (i * w) w
def elemsTo (w : Nat) (xs : List Int) (m : Nat) : List Int := (List.range m).map fun i => numAt xs (i * w) w
theorem elemsTo_succ (w : Nat) (xs : List Int) (m : Nat) : elemsTo w xs (m + 1) = elemsTo w xs m ++ [numAt xs (m * w) w] := by simp [elemsTo, List.range_succ]
theorem elemsTo_len (w : Nat) (xs : List Int) (m : Nat) : (elemsTo w xs m).length = m := by simp [elemsTo]
theorem But.setChan {g : Nat} {a w : World} (h : But g a w) (cap : Nat) (buf : Array Value) (cl : Bool) (s r : Nat) (tm : Bool) : But g a (w.setChan g cap buf cl s r tm) :=
  h.trans ⟨rfl, rfl, rfl, by simp [World.setChan], fun k _ hk => by simp only [World.setChan]; rw [Array.getElem?_setIfInBounds_ne (by omega)]⟩
theorem ChanI.low {B : Nat} {w w' : World} {c cap : Nat} {xs : List Int} {closed : Bool} (h : ChanI w c cap xs closed) (hb : Below B w w') (hB : c < B) : ChanI w' c cap xs closed := by
  obtain ⟨s, r, h⟩ := h
  exact ⟨s, r, (hb.block c hB).trans h⟩

end Go.Proofs.YtdjknkmifaomgaaGreat
