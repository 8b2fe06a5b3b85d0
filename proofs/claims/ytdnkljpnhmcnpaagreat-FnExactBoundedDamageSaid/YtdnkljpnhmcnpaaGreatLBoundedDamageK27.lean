/- Maps that a function makes itself, with their exact size: store under a new key, look, length, delete. -/
import Derived.Test.YtdnkljpnhmcnpaaGreatLBoundedDamageK04
import Derived.Maps.OwnSet
import Derived.DeepKeys5
import Derived.WalkArith
import Derived.Test.YtdnkljpnhmcnpaaGreatLBoundedDamageK12
import Derived.Test.YtdnkljpnhmcnpaaGreatLBoundedDamageK22
set_option linter.unusedVariables false
set_option linter.unusedSimpArgs false
namespace Go.Proofs.YtdnkljpnhmcnpaaGreat
open Go.RowKit Go.MapKept Go.ChangeMaps Go.Maps

def heldZ (v : Value) : Option (DataW Value × List MemPlace) := some (.held v, [])
def MapZ {α : Type} (k : TypeId) (E : α → Value) (w : World) (b N s : Nat) (f : α → Option Value) : Prop :=
 ∃ (n : Nat) (D : DataW Value), n ≤ N ∧ w.ownsMap Tryz.prog k heldZ b n D ∧ Maps.size D = s ∧ ∀ x kl, keyOf Tryz.prog k (E x) = some kl → match f x with | some v => Maps.has D kl = true ∧ D.atKey kl .nil = .held v | none => Maps.has D kl = false
section
variable {α : Type} {k e t : TypeId} {E : α → Value} {w w' : World} {b N s : Nat} {f : α → Option Value}
theorem MapZ.made (w : World) : MapZ k E (w.alloc (.map #[] 0)) w.heap.size 0 0 (fun _ => none) :=
 ⟨0, _, Nat.zero_le _, World.ownsMap_made _ _ _ _, rfl, fun _ _ _ => rfl⟩
theorem MapZ.lt (h : MapZ k E w b N s f) : b < w.heap.size := by obtain ⟨n, D, _, h, _⟩ := h; exact h.lt
theorem MapZ.block (h : MapZ k E w b N s f) (hb : w'.heap[b]? = w.heap[b]?) : MapZ k E w' b N s f := by
 obtain ⟨n, D, h0, ⟨es, cl, h1, h2⟩, h3⟩ := h
 exact ⟨n, D, h0, ⟨es, cl, hb.trans h1, h2⟩, h3⟩
theorem MapZ.ext (h : MapZ k E w b N s f) (hx : Ext w w') : MapZ k E w' b N s f := h.block (hx.below.block b h.lt)
theorem MapZ.low {B : Nat} (h : MapZ k E w b N s f) (hb : Below B w w') (hB : b < B) : MapZ k E w' b N s f := h.block (hb.block b hB)
theorem MapZ.look (h : MapZ k E w b N s f) (K : Keyed Tryz.prog k) (ht : Tryz.prog.underlying t = some (.map k e)) {z : Value} (hz : (zeroValue e).run Tryz.prog w = .ok z w) {x : α} {kl : Lit} (hk : keyOf Tryz.prog k (E x) = some kl) {v : Value} (hf : f x = some v) :
  (Instr.lookup t (.map (some b)) (E x) false).run Tryz.prog w = .ok v w := by
 obtain ⟨n, D, _, ⟨es, cl, hb, F, _, rfl⟩, _, h3⟩ := h
 have h4 := h3 x kl hk
 rw [hf] at h4
 rcases Maps.fit_look false K ht hz hb F hk with ⟨hrun, hno, hat⟩ | ⟨e0, y, _, _, hrun, hRv, hat, _⟩
 ·have := h4.2
  rw [hat] at this
  cases this
 ·have h5 := h4.2
  rw [hat] at h5
  obtain rfl : (DataW.held e0.val, []) = y := Option.some.inj hRv
  obtain rfl : e0.val = v := DataW.held.inj h5
  rw [hrun]; rfl
theorem MapZ.put [DecidableEq α] (hE : ∀ x y, E x = E y → x = y) (h : MapZ k E w b N s f) (K : Keyed Tryz.prog k) (ht : Tryz.prog.underlying t = some (.map k e)) (hn : N < 1000000) {x : α} {kl : Lit} (hk : keyOf Tryz.prog k (E x) = some kl) (v : Value) (hf : f x = none) :
  ∃ w', (Instr.mapUpdate t (.map (some b)) (E x) v).run Tryz.prog w = .ok () w' ∧ MapZ k E w' b (N + 1) (s + 1) (fun y => if y = x then some v else f y) ∧ w.grownBy w' (some b) := by
 obtain ⟨n, D, hns, h1, hs, h3⟩ := h
 obtain ⟨w', hr, h4, h5⟩ := h1.update (val := v) (d := .held v) (ps := []) K ht (by unfold maxLen; omega) hk rfl
 have hx := h3 x kl hk
 rw [hf] at hx
 refine ⟨w', hr, ⟨n + 1, _, by omega, h4, ?_, fun y kl' hk' => ?_⟩, h5⟩
 ·rw [size_put (h1.tidy K), hx, hs]; rfl
 ·by_cases e1 : y = x
  ·subst e1
   obtain rfl : kl = kl' := by rw [hk] at hk'; exact Option.some.inj hk'
   simp only [if_true]
   exact ⟨has_put_same h1.isMap (K.key hk) _, by rw [atKey_put_same h1.isMap (K.key hk)]⟩
  ·have hne : kl' ≠ kl := fun e2 => e1 (hE _ _ (K.inj hk' (by rw [e2]; exact hk)))
   simp only [e1, if_false]
   have := h3 y kl' hk'
   rw [has_put_other hne, atKey_put_other hne]
   exact this
theorem MapZ.len (h : MapZ k E w b N s f) (ht : Tryz.prog.underlying t = some (.map k e)) (ty : TypeId) : (Builtin.len_ #[t] ty #[.map (some b)]).run Tryz.prog w = .ok (.int .i64 s) w := by
 obtain ⟨n, D, _, h1, hs, _⟩ := h
 rw [h1.len ht ty, hs]
theorem MapZ.drop [DecidableEq α] (hE : ∀ x y, E x = E y → x = y) (h : MapZ k E w b N s f) (K : Keyed Tryz.prog k) (ht : Tryz.prog.underlying t = some (.map k e)) {x : α} {kl : Lit} (hk : keyOf Tryz.prog k (E x) = some kl) (ty : TypeId) :
  ∃ w' s', (Builtin.delete_ #[t, k] ty #[.map (some b), E x]).run Tryz.prog w = .ok (.tuple #[]) w' ∧ MapZ k E w' b N s' (fun y => if y = x then none else f y) ∧ s' ≤ s ∧ w.grownBy w' (some b) := by
 obtain ⟨n, D, hns, h1, hs, h3⟩ := h
 obtain ⟨w', hr, h4, h5⟩ := h1.drop K ht hk ty
 have hsz := size_del (k := kl) (h1.tidy K)
 refine ⟨w', Maps.size (D.del kl), hr, ⟨n, _, hns, h4, rfl, fun y kl' hk' => ?_⟩, by omega, ?_⟩
 ·by_cases e1 : y = x
  ·subst e1
   obtain rfl : kl = kl' := by rw [hk] at hk'; exact Option.some.inj hk'
   simp only [if_true]
   exact has_del_same
  ·have hne : kl' ≠ kl := fun e2 => e1 (hE _ _ (K.inj hk' (by rw [e2]; exact hk)))
   simp only [e1, if_false]
   have := h3 y kl' hk'
   rw [has_del_other hne, atKey_del_other hne]
   exact this
 ·obtain ⟨es, cl, es', cl', hb, rfl⟩ := h5
  exact ⟨rfl, rfl, rfl, by simp [setBlock], fun i _ hi => heap_setBlock_other hb _ (fun e => hi (by rw [e]))⟩
end
section
variable {α : Type} {k e t : TypeId} {E : α → Value} {w : World} {b N s : Nat} {f : α → Option Value}
variable {ops : Array Oper} {Q : Exit → Act → World → Prop} {K' : Act → World → Prop} {rest : List Oper} {a : Act} {dst : Option Tmp} {m x v : Operand} {ty : TypeId} {pos : String} {after : Array Edge} {gd : Option (Nat × Bool)}
set_option maxRecDepth 100000 in
theorem op_putZ [DecidableEq α] (hE : ∀ x y, E x = E y → x = y) (h : MapZ k E w b N s f) (K : Keyed Tryz.prog k) (ht : Tryz.prog.underlying t = some (.map k e)) (hn : N < 1000000) {y : α} {u : Value} {kl : Lit} (hk : keyOf Tryz.prog k (E y) = some kl) (hf : f y = none)
  (hw : ∀ w', MapZ k E w' b (N + 1) (s + 1) (fun z => if z = y then some u else f z) → w.grownBy w' (some b) → K' (a.put dst undef) w') (hm : a.eval m = .map (some b)) (hx : a.eval x = E y) (hv : a.eval v = u) :
  Oper.wp Tryz.prog ⟨dst, .mapUpdate t m x v, ty, pos, after, gd⟩ a w K' Q := by
 obtain ⟨w', hr, h1, h2⟩ := h.put hE K ht hn hk u hf
 unfold Oper.wp
 simp [execOp, hm, hx, hv, hr, Result.andThen]
 exact hw w' h1 h2
set_option maxRecDepth 100000 in
theorem wp_lenZ (h : MapZ k E w b N s f) (ht : Tryz.prog.underlying t = some (.map k e))
  (hw : wpList Tryz.prog ops Q rest (a.put dst (.int .i64 s)) w) (hm : a.eval m = .map (some b)) : wpList Tryz.prog ops Q (⟨dst, .call { callee := .builtin .len, args := #[m], argTypes := #[t] }, ty, pos, after, none⟩ :: rest) a w := by
 refine wpList_plain rfl fun K' hK' => ?_
 unfold Oper.wp
 simp [execOp, resolve, invoke, builtin, hm, h.len ht ty, Result.andThen]
 exact hK' _ _ hw
end
end Go.Proofs.YtdnkljpnhmcnpaaGreat
/- The data places of a matrix size are different; a map from places to their indices: plain facts. -/
namespace Go.Proofs.YtdnkljpnhmcnpaaGreat
open Go.RowKit Go.MapKept Go.ChangeMaps Go.Maps

theorem plA_inj {n : Nat} {R : Int} {U : Bool} {i k : Nat} (h : plA n R U i = plA n R U k) : i = k := by
 unfold plA at h
 simp only [Prod.mk.injEq] at h
 obtain ⟨h1, h2⟩ := h
 cases U
 ·simp only [Bool.false_eq_true, if_false] at h1; omega
 ·simp only [if_true] at h1; omega
theorem col_mem {n : Nat} {R : Int} {U : Bool} : ∀ k, ∀ z ∈ colTo n R U k, ∃ i, i < k ∧ z = plA n R U i
 | 0, z, hz => absurd hz (by simp [colTo])
 | k + 1, z, hz => by
  rw [colTo_s, List.mem_append] at hz
  rcases hz with hz | hz
  ·obtain ⟨i, hi, e⟩ := col_mem k z hz
   exact ⟨i, by omega, e⟩
  ·split at hz
   ·simp only [List.mem_cons, List.not_mem_nil, or_false] at hz
    exact ⟨k, by omega, hz⟩
   ·exact absurd hz (by simp)
theorem nodup_snoc {α : Type} {l : List α} {x : α} (h : l.Nodup) (hx : ¬ x ∈ l) : (l ++ [x]).Nodup := by
 rw [List.nodup_append]
 refine ⟨h, by simp, fun a ha b hb => ?_⟩
 rw [List.mem_singleton] at hb
 subst hb
 exact fun e => hx (e ▸ ha)
theorem col_nodup (n : Nat) (R : Int) (U : Bool) : ∀ k, (colTo n R U k).Nodup
 | 0 => by simp [colTo]
 | k + 1 => by
  have ih := col_nodup n R U k
  rw [colTo_s]
  split
  ·refine nodup_snoc ih fun h => ?_
   obtain ⟨i, hi, e⟩ := col_mem k _ h
   have := plA_inj e
   omega
  ·rw [List.append_nil]; exact ih
theorem rgt_le (n j : Nat) : rg n j ≤ rgt n j := by
 unfold rg
 split <;> omega
theorem dp_col {n : Nat} : ∀ j, ∀ z ∈ dpTo n j, rgt n j + 1 ≤ z.2
 | 0, z, hz => absurd hz (by simp [dpTo])
 | j + 1, z, hz => by
  have h1 := rgt_s n j
  have h2 := rgt_le n j
  rw [dpTo_s, List.mem_append] at hz
  rcases hz with hz | hz
  ·have := dp_col j z hz
   omega
  ·obtain ⟨i, hi, rfl⟩ := col_mem _ z hz
   have : (plA n (rg n j) (upB j) i).2 = rg n j - ((i % 2 : Nat) : Int) := rfl
   omega
theorem dp_nodup (n : Nat) : ∀ j, (dpTo n j).Nodup
 | 0 => by simp [dpTo]
 | j + 1 => by
  rw [dpTo_s, List.nodup_append]
  refine ⟨dp_nodup n j, col_nodup n _ _ _, fun a ha b hb => ?_⟩
  have h1 := dp_col j a ha
  have h2 := rgt_le n j
  obtain ⟨i, hi, rfl⟩ := col_mem _ b hb
  have h3 : (plA n (rg n j) (upB j) i).2 = rg n j - ((i % 2 : Nat) : Int) := rfl
  exact fun e => by subst e; omega
theorem dpL_nodup (n : Nat) : (dpL n).Nodup := dp_nodup n _
theorem nodupP_at {D : List (Int × Int)} (h : D.Nodup) {i k : Nat} (hi : i < D.length) (hk : k < D.length) (e : D.getD i (0, 0) = D.getD k (0, 0)) : i = k := by
 rw [List.getD_eq_getElem?_getD, List.getD_eq_getElem?_getD, List.getElem?_eq_getElem hi, List.getElem?_eq_getElem hk] at e
 have hp := List.pairwise_iff_getElem.1 h
 rcases Nat.lt_trichotomy i k with h1 | h1 | h1
 ·exact absurd e (hp i k hi hk h1)
 ·exact h1
 ·exact absurd e.symm (hp k i hk hi h1)
def PIx (D : List (Int × Int)) (k : Nat) (f : Int × Int → Option Value) : Prop :=
 (∀ i, i < k → f (D.getD i (0, 0)) = some (.int .i64 i)) ∧ ∀ x, (∀ i, i < k → D.getD i (0, 0) ≠ x) → f x = none
theorem PIx.zero (D : List (Int × Int)) : PIx D 0 (fun _ => none) := ⟨fun i h => absurd h (Nat.not_lt_zero i), fun _ _ => rfl⟩
theorem PIx.new {D : List (Int × Int)} {k : Nat} {f : Int × Int → Option Value} (h : PIx D k f) (hn : D.Nodup) (hk : k < D.length) : f (D.getD k (0, 0)) = none :=
 h.2 _ fun i hi e => by have := nodupP_at hn (by omega) hk e; omega
theorem PIx.step {D : List (Int × Int)} {k : Nat} {f : Int × Int → Option Value} (h : PIx D k f) (hn : D.Nodup) (hk : k < D.length) : PIx D (k + 1) (fun y => if y = D.getD k (0, 0) then some (.int .i64 k) else f y) := by
 refine ⟨fun i hi => ?_, fun x hx => ?_⟩
 ·by_cases e : i = k
  ·subst e; simp only [if_true]
  ·have hne : D.getD i (0, 0) ≠ D.getD k (0, 0) := fun e2 => e (nodupP_at hn (by omega) hk e2)
   simp only [hne, if_false]
   exact h.1 i (by omega)
 ·have hne : x ≠ D.getD k (0, 0) := fun e => hx k (by omega) e.symm
  simp only [hne, if_false]
  exact h.2 x fun i hi => hx i (by omega)
theorem PIx.look {D : List (Int × Int)} {f : Int × Int → Option Value} (h : PIx D D.length f) (x : Int × Int) : (∃ i : Nat, i < D.length ∧ D.getD i (0, 0) = x ∧ f x = some (.int .i64 i)) ∨ (¬ x ∈ D ∧ f x = none) := by
 by_cases hx : ∃ i, i < D.length ∧ D.getD i (0, 0) = x
 ·obtain ⟨i, hi, rfl⟩ := hx
  exact .inl ⟨i, hi, rfl, h.1 i hi⟩
 ·refine .inr ⟨fun hm => ?_, h.2 x fun i hi e => hx ⟨i, hi, e⟩⟩
  obtain ⟨i, hi, e⟩ := List.getElem_of_mem hm
  exact hx ⟨i, hi, by rw [List.getD_eq_getElem?_getD, List.getElem?_eq_getElem hi, e]; rfl⟩
theorem MapZ.toA {α : Type} {k : TypeId} {E : α → Value} {w : World} {b N s : Nat} {f : α → Option Value} (h : MapZ k E w b N s f) : MapA k E w b N f := by
 obtain ⟨n, D, hn, h1, -, h3⟩ := h
 refine ⟨D, World.ownsMap.mono (show w.ownsMap Tryz.prog k heldR b n D from h1) hn, fun x kl hk => ?_⟩
 have := h3 x kl hk
 revert this
 cases f x with
 | some v => exact fun h => h.2
 | none => exact fun h => atKey_of_not_has h _
def TeM (L D : List (Int × Int)) (V m : Nat) (bs : List Bool) : Prop := ∀ k, k < bs.length → (bs.getD k false = true ↔ ∃ i j, i < m ∧ j < D.length ∧ L.getD i (0, 0) = D.getD j (0, 0) ∧ j / V = k)
theorem TeM.zero (L D : List (Int × Int)) (V N : Nat) : TeM L D V 0 (List.replicate N false) := fun k hk => by
 rw [List.length_replicate] at hk
 rw [List.getD_eq_getElem?_getD, List.getElem?_eq_getElem (by simpa using hk)]
 simp
theorem TeM.no {L D : List (Int × Int)} {V m : Nat} {bs : List Bool} (h : TeM L D V m bs) (hm : ∀ j, j < D.length → L.getD m (0, 0) = D.getD j (0, 0) → ¬ j / V < bs.length) : TeM L D V (m + 1) bs := fun k hk => by
 rw [h k hk]
 constructor
 ·rintro ⟨i, j, hi, hr⟩; exact ⟨i, j, by omega, hr⟩
 ·rintro ⟨i, j, hi, hj, e1, e2⟩
  by_cases e : i = m
  ·subst e; exact absurd (by omega) (hm j hj e1)
  ·exact ⟨i, j, by omega, hj, e1, e2⟩
theorem TeM.set {L D : List (Int × Int)} {V m j : Nat} {bs : List Bool} (h : TeM L D V m bs) (hn : D.Nodup) (hj : j < D.length) (e : L.getD m (0, 0) = D.getD j (0, 0)) : TeM L D V (m + 1) (bs.set (j / V) true) := fun k hk => by
 rw [List.length_set] at hk
 by_cases ek : j / V = k
 ·subst ek
  rw [List.getD_eq_getElem?_getD, List.getElem?_set_self hk]
  simp only [Option.getD_some, true_iff]
  exact ⟨m, j, by omega, hj, e, rfl⟩
 ·rw [List.getD_eq_getElem?_getD, List.getElem?_set_ne ek, ← List.getD_eq_getElem?_getD, h k hk]
  constructor
  ·rintro ⟨i, j', hi, hr⟩; exact ⟨i, j', by omega, hr⟩
  ·rintro ⟨i, j', hi, hj', e1, e2⟩
   by_cases e3 : i = m
   ·subst e3
    have := nodupP_at hn hj hj' (e.symm.trans e1)
    subst this
    exact absurd e2 ek
   ·exact ⟨i, j', by omega, hj', e1, e2⟩
theorem mem_getD {L : List (Int × Int)} {z : Int × Int} : z ∈ L ↔ ∃ i, i < L.length ∧ L.getD i (0, 0) = z := by
 constructor
 ·intro hm
  obtain ⟨i, hi, e⟩ := List.getElem_of_mem hm
  exact ⟨i, hi, by rw [List.getD_eq_getElem?_getD, List.getElem?_eq_getElem hi, e]; rfl⟩
 ·rintro ⟨i, hi, rfl⟩
  rw [List.getD_eq_getElem?_getD, List.getElem?_eq_getElem hi]
  exact List.getElem_mem hi
theorem TeM.all {L D : List (Int × Int)} {V : Nat} {bs : List Bool} (h : TeM L D V L.length bs) {k : Nat} (hk : k < bs.length) : bs.getD k false = true ↔ teHit L D V k := by
 rw [h k hk]
 unfold teHit
 constructor
 ·rintro ⟨i, j, hi, hj, e1, e2⟩
  exact ⟨j, hj, e2, mem_getD.2 ⟨i, hi, e1⟩⟩
 ·rintro ⟨j, hj, e2, hm⟩
  obtain ⟨i, hi, e1⟩ := mem_getD.1 hm
  exact ⟨i, j, hi, hj, e1, e2⟩
end Go.Proofs.YtdnkljpnhmcnpaaGreat
