/- Maps that a function makes itself, with their exact size: store under a new key, look, length, delete. -/
import Derived.Test.YthpnkcamjcohgaaDoorLPartsK05
import Derived.Maps.OwnSet
import Derived.DeepKeys5
import Derived.WalkArith
/-! Maps that a function makes itself, with their exact size. -/
namespace Go.Proofs.YthpnkcamjcohgaaDoor
set_option linter.unusedVariables false
set_option linter.unusedSimpArgs false
open Go.RowKit Go.MapKept Go.ChangeMaps Go.Maps

def heldZ (v : Value) : Option (DataW Value × List MemPlace) := some (.held v, [])
/-- Block b is a map of s entries; under the key x stands f x. -/
def MapZ {α : Type} (k : TypeId) (E : α → Value) (w : World) (b N s : Nat) (f : α → Option Value) : Prop :=
  ∃ (n : Nat) (D : DataW Value), n ≤ N ∧ w.ownsMap Tryd.prog k heldZ b n D ∧ Maps.size D = s ∧ ∀ x kl, keyOf Tryd.prog k (E x) = some kl → match f x with | some v => Maps.has D kl = true ∧ D.atKey kl .nil = .held v | none => Maps.has D kl = false
section
variable {α : Type} {k e t : TypeId} {E : α → Value} {w w' : World} {b N s : Nat} {f : α → Option Value}
theorem MapZ.made (w : World) : MapZ k E (w.alloc (.map #[] 0)) w.heap.size 0 0 (fun _ => none) :=
  ⟨0, _, Nat.zero_le _, World.ownsMap_made _ _ _ _, rfl, fun _ _ _ => rfl⟩
theorem MapZ.lt (h : MapZ k E w b N s f) : b < w.heap.size := by obtain ⟨n, D, _, h, _⟩ := h; exact h.lt
theorem MapZ.block (h : MapZ k E w b N s f) (hb : w'.heap[b]? = w.heap[b]?) : MapZ k E w' b N s f := by
  obtain ⟨n, D, h0, ⟨es, cl, h1, h2⟩, h3⟩ := h
  exact ⟨n, D, h0, ⟨es, cl, hb.trans h1, h2⟩, h3⟩
theorem MapZ.ext (h : MapZ k E w b N s f) (hx : Ext w w') : MapZ k E w' b N s f := h.block (hx.below.block b h.lt)
theorem MapZ.low {B : Nat} (h : MapZ k E w b N s f) (hb : Below B w w') (hB : b < B) : MapZ k E w' b N s f := h.block (hb.block b hB)
theorem MapZ.look (h : MapZ k E w b N s f) (K : Keyed Tryd.prog k) (ht : Tryd.prog.underlying t = some (.map k e)) {z : Value} (hz : (zeroValue e).run Tryd.prog w = .ok z w) {x : α} {kl : Lit} (hk : keyOf Tryd.prog k (E x) = some kl) {v : Value} (hf : f x = some v) :
    (Instr.lookup t (.map (some b)) (E x) false).run Tryd.prog w = .ok v w := by
  obtain ⟨n, D, _, ⟨es, cl, hb, F, _, rfl⟩, _, h3⟩ := h
  have h4 := h3 x kl hk
  rw [hf] at h4
  rcases Maps.fit_look false K ht hz hb F hk with ⟨hrun, hno, hat⟩ | ⟨e0, y, _, _, hrun, hRv, hat, _⟩
  · have := h4.2
    rw [hat] at this
    cases this
  · have h5 := h4.2
    rw [hat] at h5
    obtain rfl : (DataW.held e0.val, []) = y := Option.some.inj hRv
    obtain rfl : e0.val = v := DataW.held.inj h5
    rw [hrun]; rfl
theorem MapZ.put [DecidableEq α] (hE : ∀ x y, E x = E y → x = y) (h : MapZ k E w b N s f) (K : Keyed Tryd.prog k) (ht : Tryd.prog.underlying t = some (.map k e)) (hn : N < 1000000) {x : α} {kl : Lit} (hk : keyOf Tryd.prog k (E x) = some kl) (v : Value) (hf : f x = none) :
    ∃ w', (Instr.mapUpdate t (.map (some b)) (E x) v).run Tryd.prog w = .ok () w' ∧ MapZ k E w' b (N + 1) (s + 1) (fun y => if y = x then some v else f y) ∧ w.grownBy w' (some b) := by
  obtain ⟨n, D, hns, h1, hs, h3⟩ := h
  obtain ⟨w', hr, h4, h5⟩ := h1.update (val := v) (d := .held v) (ps := []) K ht (by unfold maxLen; omega) hk rfl
  have hx := h3 x kl hk
  rw [hf] at hx
  refine ⟨w', hr, ⟨n + 1, _, by omega, h4, ?_, fun y kl' hk' => ?_⟩, h5⟩
  · rw [size_put (h1.tidy K), hx, hs]; rfl
  · by_cases e1 : y = x
    · subst e1
      obtain rfl : kl = kl' := by rw [hk] at hk'; exact Option.some.inj hk'
      simp only [if_true]
      exact ⟨has_put_same h1.isMap (K.key hk) _, by rw [atKey_put_same h1.isMap (K.key hk)]⟩
    · have hne : kl' ≠ kl := fun e2 => e1 (hE _ _ (K.inj hk' (by rw [e2]; exact hk)))
      simp only [e1, if_false]
      have := h3 y kl' hk'
      rw [has_put_other hne, atKey_put_other hne]
      exact this
theorem MapZ.len (h : MapZ k E w b N s f) (ht : Tryd.prog.underlying t = some (.map k e)) (ty : TypeId) : (Builtin.len_ #[t] ty #[.map (some b)]).run Tryd.prog w = .ok (.int .i64 s) w := by
  obtain ⟨n, D, _, h1, hs, _⟩ := h
  rw [h1.len ht ty, hs]
theorem MapZ.drop [DecidableEq α] (hE : ∀ x y, E x = E y → x = y) (h : MapZ k E w b N s f) (K : Keyed Tryd.prog k) (ht : Tryd.prog.underlying t = some (.map k e)) {x : α} {kl : Lit} (hk : keyOf Tryd.prog k (E x) = some kl) (ty : TypeId) :
    ∃ w' s', (Builtin.delete_ #[t, k] ty #[.map (some b), E x]).run Tryd.prog w = .ok (.tuple #[]) w' ∧ MapZ k E w' b N s' (fun y => if y = x then none else f y) ∧ s' ≤ s ∧ w.grownBy w' (some b) := by
  obtain ⟨n, D, hns, h1, hs, h3⟩ := h
  obtain ⟨w', hr, h4, h5⟩ := h1.drop K ht hk ty
  have hsz := size_del (k := kl) (h1.tidy K)
  refine ⟨w', Maps.size (D.del kl), hr, ⟨n, _, hns, h4, rfl, fun y kl' hk' => ?_⟩, by omega, ?_⟩
  · by_cases e1 : y = x
    · subst e1
      obtain rfl : kl = kl' := by rw [hk] at hk'; exact Option.some.inj hk'
      simp only [if_true]
      exact has_del_same
    · have hne : kl' ≠ kl := fun e2 => e1 (hE _ _ (K.inj hk' (by rw [e2]; exact hk)))
      simp only [e1, if_false]
      have := h3 y kl' hk'
      rw [has_del_other hne, atKey_del_other hne]
      exact this
  · obtain ⟨es, cl, es', cl', hb, rfl⟩ := h5
    exact ⟨rfl, rfl, rfl, by simp [setBlock], fun i _ hi => heap_setBlock_other hb _ (fun e => hi (by rw [e]))⟩
end
section
variable {α : Type} {k e t : TypeId} {E : α → Value} {w : World} {b N s : Nat} {f : α → Option Value}
variable {ops : Array Oper} {Q : Exit → Act → World → Prop} {K' : Act → World → Prop} {rest : List Oper} {a : Act} {dst : Option Tmp} {m x v : Operand} {ty : TypeId} {pos : String} {after : Array Edge} {gd : Option (Nat × Bool)}
set_option maxRecDepth 100000 in
theorem wp_lookZ (h : MapZ k E w b N s f) (K : Keyed Tryd.prog k) (ht : Tryd.prog.underlying t = some (.map k e)) {z : Value} (hz : (zeroValue e).run Tryd.prog w = .ok z w) {y : α} {kl : Lit} (hk : keyOf Tryd.prog k (E y) = some kl) {u : Value} (hf : f y = some u)
    (hw : wpList Tryd.prog ops Q rest (a.put dst u) w) (hm : a.eval m = .map (some b)) (hx : a.eval x = E y) : wpList Tryd.prog ops Q (⟨dst, .lookup t m x false, ty, pos, after, none⟩ :: rest) a w := by
  refine wpList_plain rfl fun K' hK' => ?_
  have hr := h.look K ht hz hk hf
  unfold Oper.wp
  simp [execOp, hm, hx, hr, Result.andThen]
  exact hK' _ _ hw
set_option maxRecDepth 100000 in
theorem op_putZ [DecidableEq α] (hE : ∀ x y, E x = E y → x = y) (h : MapZ k E w b N s f) (K : Keyed Tryd.prog k) (ht : Tryd.prog.underlying t = some (.map k e)) (hn : N < 1000000) {y : α} {u : Value} {kl : Lit} (hk : keyOf Tryd.prog k (E y) = some kl) (hf : f y = none)
    (hw : ∀ w', MapZ k E w' b (N + 1) (s + 1) (fun z => if z = y then some u else f z) → w.grownBy w' (some b) → K' (a.put dst undef) w') (hm : a.eval m = .map (some b)) (hx : a.eval x = E y) (hv : a.eval v = u) :
    Oper.wp Tryd.prog ⟨dst, .mapUpdate t m x v, ty, pos, after, gd⟩ a w K' Q := by
  obtain ⟨w', hr, h1, h2⟩ := h.put hE K ht hn hk u hf
  unfold Oper.wp
  simp [execOp, hm, hx, hv, hr, Result.andThen]
  exact hw w' h1 h2
set_option maxRecDepth 100000 in
theorem wp_dropZ [DecidableEq α] (hE : ∀ x y, E x = E y → x = y) (h : MapZ k E w b N s f) (K : Keyed Tryd.prog k) (ht : Tryd.prog.underlying t = some (.map k e)) {y : α} {kl : Lit} (hk : keyOf Tryd.prog k (E y) = some kl)
    (hw : ∀ w' s', MapZ k E w' b N s' (fun z => if z = y then none else f z) → s' ≤ s → w.grownBy w' (some b) → wpList Tryd.prog ops Q rest (a.put dst (.tuple #[])) w') (hm : a.eval m = .map (some b)) (hx : a.eval x = E y) :
    wpList Tryd.prog ops Q (⟨dst, .call { callee := .builtin .delete, args := #[m, x], argTypes := #[t, k] }, ty, pos, after, none⟩ :: rest) a w := by
  refine wpList_plain rfl fun K' hK' => ?_
  obtain ⟨w', s', hr, h1, h2, h3⟩ := h.drop hE K ht hk ty
  unfold Oper.wp
  simp [execOp, resolve, invoke, builtin, hm, hx, hr, Result.andThen]
  exact hK' _ _ (hw w' s' h1 h2 h3)
end
end Go.Proofs.YthpnkcamjcohgaaDoor
