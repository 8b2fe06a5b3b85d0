/- What all texts of this seat share: imports, small lemmas on plain values. -/
import Derived.Test.YtekignklnakkaaaGreatDoorRows
import Derived.WalkKit
import Derived.Deep.QuietTactic
import Derived.BigQuiet
import Derived.Lib.Hide
import Derived.ProofKit
import Derived.OpenShut
import Derived.WalkSmall
import Derived.Deep.RegionWith
import Derived.Deep.RegionHeld3
import Derived.StillTailTactics
set_option linter.unusedVariables false
set_option linter.unusedSimpArgs false
namespace Go.Proofs.YtekignklnakkaaaGreatDoor
open Go.RowKit

def Ext (w w' : World) : Prop := Below w.heap.size w w'
theorem Ext.below {w w' : World} (h : Ext w w') : Below w.heap.size w w' := h
theorem Ext.refl (w : World) : Ext w w := Below.refl _ _
theorem Ext.trans {a b c : World} (h : Ext a b) (k : Ext b c) : Ext a c := Below.trans h (Below.mono k h.size)
theorem Ext.trans2 {a b c : World} (k : Ext b c) (h : Ext a b) : Ext a c := h.trans k
theorem Ext.drew {a w : World} (h : Ext a w) : Ext a w.drew := Below.drew h
theorem Ext.drewN {a w : World} (h : Ext a w) (n : Nat) : Ext a (w.drewN n) := below_drewN h n
theorem Ext.alloc {a w : World} (h : Ext a w) (o : Obj) : Ext a (w.alloc o) := Below.alloc h h.size o
theorem Ext.low {B : Nat} {a b c : World} (h : Ext a b) (k : Below B b c) (hB : a.heap.size ≤ B) : Ext a c := Below.trans h (k.mono hB)
theorem Ext.trans3 {a b c : World} (h : Ext a b) (k : Below a.heap.size b c) : Ext a c := Below.trans h k
theorem Ext.iter {a w : World} (h : Ext a w) (s : ByteArray) (p : Nat) : Ext a (w.iter s p) := Ext.alloc h _
theorem Ext.setCell {a w : World} (h : Ext a w) {p : Addr} (hp : a.heap.size ≤ p.block) (v : Value) : Ext a (w.setCell p v) := Below.setCell h hp v
theorem eX {a b : World} (h : Ext a b := by repeat (first | exact Ext.refl _ | assumption | refine Ext.drew ?_ | refine Ext.drewN ?_ _ | refine Ext.iter ?_ _ _ | refine Ext.alloc ?_ _ | refine Ext.setCell ?_ (by first | exact Nat.le_refl _ | (simp <;> omega)) _ | refine Ext.trans2 (by assumption) ?_)) : Ext a b := h
theorem eY {a b : World} (h : Ext a b := by repeat (first | with_reducible exact Ext.refl _ | with_reducible assumption | with_reducible refine Ext.drew ?_ | with_reducible refine Ext.drewN ?_ _ | with_reducible refine Ext.alloc ?_ _ | with_reducible refine Ext.setCell ?_ (by first | exact Nat.le_refl _ | exact Nat.le_succ _ | (simp <;> omega)) _ | with_reducible refine Ext.trans2 (by with_reducible assumption) ?_)) : Ext a b := h
theorem ecell {W w1 : World} (hb : Ext W w1) : (∀ b o, b < W.heap.size → w1.cell? ⟨b, o, none⟩ = W.cell? ⟨b, o, none⟩) ∧ (∀ b o, b < W.heap.size → w1.frozen? ⟨b, o, none⟩ = W.frozen? ⟨b, o, none⟩) ∧ (∀ k, k < W.heap.size → k < w1.heap.size) ∧ W.heap.size ≤ w1.heap.size :=
  ⟨fun b o h => hb.below.cell (p := ⟨b, o, none⟩) h, fun b o h => hb.below.frozen (p := ⟨b, o, none⟩) h, fun _ h => Nat.lt_of_lt_of_le h hb.below.size, hb.below.size⟩
theorem evE {S : World → Prop} {P : Program} {o : Oper} {a : Act} {v : Value} (h : ∀ w', S w' → (execOp a.eval o).run P w' = .ok (.value v) w' := by (intro w2 hS; first | (go_simp; first | done | rfl) | rfl | (obtain ⟨hc, hf, hk, hz⟩ := ecell hS; go_simp; first | done | rfl))) : ∀ w', S w' → (execOp a.eval o).run P w' = .ok (.value v) w' := h

theorem ret_int {k : IntKind} {a b : Int} (h : a = b) : Ending.returned (.int k a) = .returned (.int k b) := by rw [h]
def isB (e : Ending) (P : Prop) : Prop := (P ∧ e = .returned (.bool true)) ∨ (¬P ∧ e = .returned (.bool false))
theorem isB_t {P : Prop} (h : P) : isB (.returned (.bool true)) P := .inl ⟨h, rfl⟩
theorem isB_f {P : Prop} (h : ¬P) : isB (.returned (.bool false)) P := .inr ⟨h, rfl⟩
theorem isB_m {P : Prop} {b : Bool} (h : b = true ↔ P) : isB (.returned (.bool b)) P := by
  cases b
  · exact isB_f (by rw [← h]; simp)
  · exact isB_t (h.1 rfl)

def byteAt (s : ByteArray) (i : Nat) : Int := ((s.data.toList.getD i 0).toNat : Int)
theorem byteAt_eq {s : ByteArray} {i : Nat} (h : i < s.size) : byteAt s i = ((s[i]'h).toNat : Int) := by
  unfold byteAt
  rw [List.getD_eq_getElem?_getD, List.getElem?_eq_getElem (by simpa using h)]
  cases s; rfl
theorem byteAt_bd (s : ByteArray) (i : Nat) : 0 ≤ byteAt s i ∧ byteAt s i ≤ 255 := by
  unfold byteAt
  have := UInt8.toNat_lt (s.data.toList.getD i 0)
  omega

theorem addr_add (b o i : Nat) : (⟨b, o, none⟩ : Addr).add i = ⟨b, o + i, none⟩ := by
  unfold Addr.add
  split
  · rename_i h; rw [h]; rfl
  · rfl

def IntsAt (w : World) (p : Option Addr) (xs : List Int) : Prop :=
  ∀ i, i < xs.length → ∃ b o, p = some ⟨b, o, none⟩ ∧ b < w.heap.size ∧ w.cell? ⟨b, o + i, none⟩ = some (.int .i64 (xs.getD i 0))
theorem IntsAt.ext {w w' : World} {p : Option Addr} {xs : List Int} (h : IntsAt w p xs) (hb : Ext w w') : IntsAt w' p xs := by
  intro i hi
  obtain ⟨b, o, hp, hlt, hc⟩ := h i hi
  exact ⟨b, o, hp, Nat.lt_of_lt_of_le hlt hb.below.size, by rw [(ecell hb).1 _ _ hlt]; exact hc⟩
theorem IntsAt_alloc (w : World) (xs : List Int) (t : TypeId) : IntsAt (w.alloc (.cells (xs.map (Value.int .i64)).toArray t)) (some ⟨w.heap.size, 0, none⟩) xs := by
  intro i hi
  refine ⟨_, _, rfl, by simp, ?_⟩
  have : (w.alloc (.cells (xs.map (Value.int .i64)).toArray t)).heap[w.heap.size]? = some (.cells (xs.map (Value.int .i64)).toArray t) := (MapKept.heap_alloc w _).1
  simp only [World.cell?, this]
  simp [hi]
theorem IntsAt_nil (w : World) (p : Option Addr) : IntsAt w p [] := fun i hi => absurd hi (Nat.not_lt_zero i)

end Go.Proofs.YtekignklnakkaaaGreatDoor

namespace Go.Proofs.YtekignklnakkaaaGreatDoor
open Go.RowKit

theorem inRange_c (n lo hi : Int) (w : World) :
    Calls Tryz.prog 96 #[.int .i64 n, .int .i64 lo, .int .i64 hi] w fun e w' => isB e (lo ≤ n ∧ n ≤ hi) ∧ w = w' := by
  go_enter Tryz.func96, Tryz.ntmps96
  go_wp2
  all_goals (go_ret; exact ⟨(by first | exact isB_t (by skip; omega) | exact isB_f (by skip; omega) | exact isB_m (by simp only [decide_eq_true_eq, decide_eq_false_iff_not, Bool.and_eq_true, Bool.or_eq_true]; omega) | exact isB_t (by assumption) | exact isB_f (by assumption) | exact isB_t (by simp [*]; done) | exact isB_f (by simp [*]; done)), rfl⟩)

theorem l01In_c (n lo hi : Int) (w : World) :
    Calls Tryz.prog 47 #[.int .i64 n, .int .i64 lo, .int .i64 hi] w fun e w' => isB e (lo ≤ n ∧ n ≤ hi) ∧ w = w' := by
  go_enter Tryz.func47, Tryz.ntmps47
  go_wp2
  all_goals (go_ret; exact ⟨(by first | exact isB_t (by skip; omega) | exact isB_f (by skip; omega) | exact isB_m (by simp only [decide_eq_true_eq, decide_eq_false_iff_not, Bool.and_eq_true, Bool.or_eq_true]; omega) | exact isB_t (by assumption) | exact isB_f (by assumption) | exact isB_t (by simp [*]; done) | exact isB_f (by simp [*]; done)), rfl⟩)

end Go.Proofs.YtekignklnakkaaaGreatDoor

namespace Go.Proofs.YtekignklnakkaaaGreatDoor
open Go.RowKit

abbrev vPrint (p t q b d l : Int) : Value := .agg #[.int .i64 p, .int .i64 t, .int .i64 q, .int .i64 b, .int .i64 d, .int .i64 l]
end Go.Proofs.YtekignklnakkaaaGreatDoor
/- A statement that draws its order: one order is enough, where every operation but those that change the world gives the same in every world that such a change may bring. -/
namespace Go.Proofs.YtekignklnakkaaaGreatDoor
open Go.RowKit

theorem ptN : (∀ (a : Act) (d : Option Nat) (v : Value), a.put d v = match d with
    | some d => { a with tmps := a.tmps.setIfInBounds d v }
    | none => a) ∧ (∀ (l : List Value) (i : Nat) (v : Value), l.toArray.setIfInBounds i v = (l.set i v).toArray) ∧ (∀ (a v : Value) (l : List Value), (a :: l).set 0 v = v :: l) ∧ (∀ (a v : Value) (l : List Value) (i : Nat), (a :: l).set (i + 1) v = a :: l.set i v) :=
  ⟨fun _ _ _ => rfl, fun _ _ _ => List.setIfInBounds_toArray .., fun _ _ _ => rfl, fun _ _ _ _ => rfl⟩

section
variable {P : Program} {ops : Array Oper} {Q : Exit → Act → World → Prop} {S : World → Prop}

def canonB (ops : Array Oper) : List (Nat × Bool) → Array Bool → Bool
  | [], listed => (Region.ready .any ops listed).isEmpty
  | (i, true) :: rest, listed => Region.free .any ops listed i && (Region.ready .any ops listed).contains i && canonB ops rest (listed.setIfInBounds i true)
  | (i, false) :: rest, listed => (Region.ready .any ops listed == [i]) && canonB ops rest (listed.setIfInBounds i true)

def wpCanon (P : Program) (ops : Array Oper) (Q : Exit → Act → World → Prop) (S : World → Prop) : List (Nat × Bool) → Act → World → Prop
  | [], a, w => Q .normal a w
  | (i, true) :: rest, a, w => ∃ o v, ops[i]? = some o ∧ YieldsIf P ops S o v a ∧ wpCanon P ops Q S rest (a.put o.dst v) w
  | (i, false) :: rest, a, w => wpOp P ops Q i (fun a' w' => S w' ∧ wpCanon P ops Q S rest a' w') a w

theorem canon_sound (hs : Region.noSelect ops = true) (hQ : ∀ c a w, ¬ Q (.panic c) a w) : ∀ (ord : List (Nat × Bool)) (fuel : Nat) (listed : Array Bool) (a : Act) (w : World),
    ord.length ≤ fuel → canonB ops ord listed = true → S w → wpCanon P ops Q S ord a w → wpAnyH P .any ops Q S fuel listed a w := by
  intro ord
  induction ord with
  | nil =>
    intro fuel listed a w _ hc _ h
    exact wpAnyH_done (by simpa [canonB] using hc) h fuel
  | cons x rest ih =>
    intro fuel listed a w hf hc hS h
    obtain ⟨i, b⟩ := x
    match fuel, hf with
    | fuel + 1, hf =>
      cases b with
      | true =>
        simp only [canonB, Bool.and_eq_true] at hc
        obtain ⟨o, v, ho, hy, hr⟩ := h
        exact wpAnyH_take ho hs hc.1.1 hc.1.2 (fun c a w hq => absurd hq (hQ _ _ _)) hy hS (ih fuel _ _ _ (by simpa using hf) hc.2 hS hr)
      | false =>
        simp only [canonB, Bool.and_eq_true, beq_iff_eq] at hc
        refine wpAnyH_all hc.1 (by simp) fun j hj => ?_
        obtain rfl := List.mem_singleton.1 hj
        exact wpOp_mono (fun a' w' hh => ⟨hh.1, ih fuel _ _ _ (by simpa using hf) hc.2 hh.1 hh.2⟩) h

theorem wp_region_canon {id : Nat} {a : Act} {w : World} (S : World → Prop) (ord : List (Nat × Bool)) (hm : P.follows .mixedOrders = true) (hs : Region.noSelect ops = true)
    (hl : ord.length ≤ ops.size) (hc : canonB ops ord (Array.replicate ops.size false) = true) (hS : S w.drew) (h : wpCanon P ops (NoPanic Q) S ord a w.drew) :
    (Code.region id ops true).wp P Q a w :=
  wp_region_noPanic (wp_region_held hm (canon_sound hs (fun _ _ _ h => h) ord _ _ _ _ hl hc hS h))

theorem canon_intro {ord : List (Nat × Bool)} {a : Act} {w : World} (h : ∀ ops', ops' = ops → wpCanon P ops' Q S ord a w) : wpCanon P ops Q S ord a w := h ops rfl
theorem canon_at {l : List Oper} (e : ops = l.toArray) (i : Nat) {o : Oper} (h : l[i]? = some o) : ops[i]? = some o := by rw [e]; simpa using h
theorem canon_done {a : Act} {w : World} (h : Q .normal a w) : wpCanon P ops Q S [] a w := h
theorem canon_st {i : Nat} {rest : List (Nat × Bool)} {o : Oper} {v : Value} {a : Act} {w : World} (ho : ops[i]? = some o) (hg : o.guard = none)
    (hv : ∀ w', S w' → (execOp a.eval o).run P w' = .ok (.value v) w') (h : wpCanon P ops Q S rest (a.put o.dst v) w) : wpCanon P ops Q S ((i, true) :: rest) a w :=
  ⟨o, v, ho, .inl ⟨by simp [Region.wanted, hg], hv⟩, h⟩
theorem canon_ef {i : Nat} {rest : List (Nat × Bool)} {o : Oper} {a : Act} {w : World} (ho : ops[i]? = some o) (hg : o.guard = none)
    (h : ∀ K : Act → World → Prop, (∀ a' w', S w' ∧ wpCanon P ops Q S rest a' w' → K a' w') → o.wp P a w K Q) : wpCanon P ops Q S ((i, false) :: rest) a w := by
  show wpOp P ops Q i _ a w
  unfold wpOp
  rw [ho]
  simp only [Region.wanted, hg, if_true]
  exact .inl (h _ fun _ _ hh => hh)
theorem wanted_of {o oj : Oper} {j d : Nat} {want b : Bool} {a : Act} (hg : o.guard = some (j, want)) (hj : ops[j]? = some oj) (hd : oj.dst = some d) (hb : a.tmps[d]? = some (.bool b)) : Region.wanted o (yielded ops a.tmps) = (b == want) := by
  unfold Region.wanted
  simp only [hg, yielded, hj, hd, Option.bind_some, hb]
  cases b <;> cases want <;> rfl
theorem canon_stw {i j d : Nat} {want : Bool} {rest : List (Nat × Bool)} {o oj : Oper} {v : Value} {a : Act} {w : World} (ho : ops[i]? = some o) (hg : o.guard = some (j, want)) (hj : ops[j]? = some oj) (hd : oj.dst = some d) (hb : a.tmps[d]? = some (.bool want))
    (hv : ∀ w', S w' → (execOp a.eval o).run P w' = .ok (.value v) w') (h : wpCanon P ops Q S rest (a.put o.dst v) w) : wpCanon P ops Q S ((i, true) :: rest) a w :=
  ⟨o, v, ho, .inl ⟨by rw [wanted_of hg hj hd hb]; simp, hv⟩, h⟩
theorem canon_stu {i j d : Nat} {want : Bool} {rest : List (Nat × Bool)} {o oj : Oper} {a : Act} {w : World} (ho : ops[i]? = some o) (hg : o.guard = some (j, want)) (hj : ops[j]? = some oj) (hd : oj.dst = some d) (hb : a.tmps[d]? = some (.bool !want))
    (h : wpCanon P ops Q S rest (a.put o.dst undef) w) : wpCanon P ops Q S ((i, true) :: rest) a w :=
  ⟨o, undef, ho, .inr ⟨by rw [wanted_of hg hj hd hb]; cases want <;> rfl, rfl⟩, h⟩
theorem unwanted_of {o oj : Oper} {j d : Nat} {want : Bool} {a : Act} (hg : o.guard = some (j, want)) (hj : ops[j]? = some oj) (hd : oj.dst = some d) (hb : a.tmps[d]? = some undef) : Region.wanted o (yielded ops a.tmps) = false := by
  unfold Region.wanted
  simp only [hg, yielded, hj, hd, Option.bind_some, hb]
  cases want <;> rfl
theorem canon_stx {i j d : Nat} {want : Bool} {rest : List (Nat × Bool)} {o oj : Oper} {a : Act} {w : World} (ho : ops[i]? = some o) (hg : o.guard = some (j, want)) (hj : ops[j]? = some oj) (hd : oj.dst = some d) (hb : a.tmps[d]? = some undef)
    (h : wpCanon P ops Q S rest (a.put o.dst undef) w) : wpCanon P ops Q S ((i, true) :: rest) a w :=
  ⟨o, undef, ho, .inr ⟨unwanted_of hg hj hd hb, rfl⟩, h⟩
theorem canon_efx {i j d : Nat} {want : Bool} {rest : List (Nat × Bool)} {o oj : Oper} {a : Act} {w : World} (ho : ops[i]? = some o) (hg : o.guard = some (j, want)) (hj : ops[j]? = some oj) (hd : oj.dst = some d) (hb : a.tmps[d]? = some undef)
    (hS : S w) (h : wpCanon P ops Q S rest (a.put o.dst undef) w) : wpCanon P ops Q S ((i, false) :: rest) a w := by
  show wpOp P ops Q i _ a w
  unfold wpOp
  rw [ho]
  simp only [unwanted_of hg hj hd hb]
  exact ⟨hS, h⟩
theorem canon_efw {i j d : Nat} {want : Bool} {rest : List (Nat × Bool)} {o oj : Oper} {a : Act} {w : World} (ho : ops[i]? = some o) (hg : o.guard = some (j, want)) (hj : ops[j]? = some oj) (hd : oj.dst = some d) (hb : a.tmps[d]? = some (.bool want))
    (h : ∀ K : Act → World → Prop, (∀ a' w', S w' ∧ wpCanon P ops Q S rest a' w' → K a' w') → o.wp P a w K Q) : wpCanon P ops Q S ((i, false) :: rest) a w := by
  show wpOp P ops Q i _ a w
  unfold wpOp
  rw [ho]
  simp only [wanted_of hg hj hd hb, beq_self_eq_true, if_true]
  exact .inl (h _ fun _ _ hh => hh)
theorem canon_efu {i j d : Nat} {want : Bool} {rest : List (Nat × Bool)} {o oj : Oper} {a : Act} {w : World} (ho : ops[i]? = some o) (hg : o.guard = some (j, want)) (hj : ops[j]? = some oj) (hd : oj.dst = some d) (hb : a.tmps[d]? = some (.bool !want))
    (hS : S w) (h : wpCanon P ops Q S rest (a.put o.dst undef) w) : wpCanon P ops Q S ((i, false) :: rest) a w := by
  show wpOp P ops Q i _ a w
  unfold wpOp
  rw [ho]
  simp only [wanted_of hg hj hd hb]
  cases want <;> exact ⟨hS, h⟩
end

def drawn : Code → List (Nat × Array Oper)
  | .region k ops true => [(k, ops)]
  | .seq a b => drawn a ++ drawn b
  | .cond _ a b => drawn a ++ drawn b
  | .block _ c => drawn c
  | .loop c => drawn c
  | .scope c => drawn c
  | _ => []
end Go.Proofs.YtekignklnakkaaaGreatDoor

namespace Go.Proofs.YtekignklnakkaaaGreatDoor
open Go.RowKit

inductive CT where
  | done
  | st (i : Nat) (t : CT)
  | one (i : Nat) (t : CT)
  | two (i : Nat) (s : CT) (j : Nat) (t : CT)
def CT.depth : CT → Nat
  | .done => 0
  | .st _ t => t.depth + 1
  | .one _ t => t.depth + 1
  | .two _ s _ t => max s.depth t.depth + 1

section
variable {P : Program} {ops : Array Oper} {Q : Exit → Act → World → Prop} {S : World → Prop}

end

end Go.Proofs.YtekignklnakkaaaGreatDoor

namespace Go.Proofs.YtekignklnakkaaaGreatDoor
open Go.RowKit

inductive C3 where
  | done
  | st (i : Nat) (t : C3)
  | one (i : Nat) (t : C3)
  | two (i : Nat) (s : C3) (j : Nat) (t : C3)
  | three (i : Nat) (s : C3) (j : Nat) (t : C3) (k : Nat) (u : C3)
def C3.depth : C3 → Nat
  | .done => 0
  | .st _ t => t.depth + 1
  | .one _ t => t.depth + 1
  | .two _ s _ t => max s.depth t.depth + 1
  | .three _ s _ t _ u => max s.depth (max t.depth u.depth) + 1

section
variable {P : Program} {ops : Array Oper} {Q : Exit → Act → World → Prop} {S : World → Prop}

def c3B (ops : Array Oper) : C3 → Array Bool → Bool
  | .done, listed => (Region.ready .any ops listed).isEmpty
  | .st i t, listed => Region.free .any ops listed i && (Region.ready .any ops listed).contains i && c3B ops t (listed.setIfInBounds i true)
  | .one i t, listed => (Region.ready .any ops listed == [i]) && c3B ops t (listed.setIfInBounds i true)
  | .two i s j t, listed => (Region.ready .any ops listed == [i, j]) && c3B ops s (listed.setIfInBounds i true) && c3B ops t (listed.setIfInBounds j true)
  | .three i s j t k u, listed => (Region.ready .any ops listed == [i, j, k]) && c3B ops s (listed.setIfInBounds i true) && c3B ops t (listed.setIfInBounds j true) && c3B ops u (listed.setIfInBounds k true)
def wpC3 (P : Program) (ops : Array Oper) (Q : Exit → Act → World → Prop) (S : World → Prop) : C3 → Act → World → Prop
  | .done, a, w => Q .normal a w
  | .st i t, a, w => ∃ o v, ops[i]? = some o ∧ YieldsIf P ops S o v a ∧ wpC3 P ops Q S t (a.put o.dst v) w
  | .one i t, a, w => wpOp P ops Q i (fun a' w' => S w' ∧ wpC3 P ops Q S t a' w') a w
  | .two i s j t, a, w => wpOp P ops Q i (fun a' w' => S w' ∧ wpC3 P ops Q S s a' w') a w ∧ wpOp P ops Q j (fun a' w' => S w' ∧ wpC3 P ops Q S t a' w') a w
  | .three i s j t k u, a, w => wpOp P ops Q i (fun a' w' => S w' ∧ wpC3 P ops Q S s a' w') a w ∧ wpOp P ops Q j (fun a' w' => S w' ∧ wpC3 P ops Q S t a' w') a w ∧ wpOp P ops Q k (fun a' w' => S w' ∧ wpC3 P ops Q S u a' w') a w

theorem c3_sound (hs : Region.noSelect ops = true) (hQ : ∀ c a w, ¬ Q (.panic c) a w) : ∀ (ord : C3) (fuel : Nat) (listed : Array Bool) (a : Act) (w : World),
    ord.depth ≤ fuel → c3B ops ord listed = true → S w → wpC3 P ops Q S ord a w → wpAnyH P .any ops Q S fuel listed a w := by
  intro ord
  induction ord with
  | done =>
    intro fuel listed a w _ hc _ h
    exact wpAnyH_done (by simpa [c3B] using hc) h fuel
  | st i t ih =>
    intro fuel listed a w hf hc hS h
    simp only [C3.depth] at hf
    match fuel, hf with
    | fuel + 1, hf =>
      simp only [c3B, Bool.and_eq_true] at hc
      obtain ⟨o, v, ho, hy, hr⟩ := h
      exact wpAnyH_take ho hs hc.1.1 hc.1.2 (fun c a w hq => absurd hq (hQ _ _ _)) hy hS (ih fuel _ _ _ (by omega) hc.2 hS hr)
  | one i t ih =>
    intro fuel listed a w hf hc hS h
    simp only [C3.depth] at hf
    match fuel, hf with
    | fuel + 1, hf =>
      simp only [c3B, Bool.and_eq_true, beq_iff_eq] at hc
      refine wpAnyH_all hc.1 (by simp) fun j hj => ?_
      obtain rfl := List.mem_singleton.1 hj
      exact wpOp_mono (fun a' w' hh => ⟨hh.1, ih fuel _ _ _ (by omega) hc.2 hh.1 hh.2⟩) h
  | two i s j t ih1 ih2 =>
    intro fuel listed a w hf hc hS h
    simp only [C3.depth] at hf
    match fuel, hf with
    | fuel + 1, hf =>
      simp only [c3B, Bool.and_eq_true, beq_iff_eq] at hc
      refine wpAnyH_all hc.1.1 (by simp) fun k hk => ?_
      simp only [List.mem_cons, List.not_mem_nil, or_false] at hk
      rcases hk with rfl | rfl
      · exact wpOp_mono (fun a' w' hh => ⟨hh.1, ih1 fuel _ _ _ (by omega) hc.1.2 hh.1 hh.2⟩) h.1
      · exact wpOp_mono (fun a' w' hh => ⟨hh.1, ih2 fuel _ _ _ (by omega) hc.2 hh.1 hh.2⟩) h.2
  | three i s j t l u ih1 ih2 ih3 =>
    intro fuel listed a w hf hc hS h
    simp only [C3.depth] at hf
    match fuel, hf with
    | fuel + 1, hf =>
      simp only [c3B, Bool.and_eq_true, beq_iff_eq] at hc
      refine wpAnyH_all hc.1.1.1 (by simp) fun k hk => ?_
      simp only [List.mem_cons, List.not_mem_nil, or_false] at hk
      rcases hk with rfl | rfl | rfl
      · exact wpOp_mono (fun a' w' hh => ⟨hh.1, ih1 fuel _ _ _ (by omega) hc.1.1.2 hh.1 hh.2⟩) h.1
      · exact wpOp_mono (fun a' w' hh => ⟨hh.1, ih2 fuel _ _ _ (by omega) hc.1.2 hh.1 hh.2⟩) h.2.1
      · exact wpOp_mono (fun a' w' hh => ⟨hh.1, ih3 fuel _ _ _ (by omega) hc.2 hh.1 hh.2⟩) h.2.2

theorem wp_region_c3 {id : Nat} {a : Act} {w : World} (S : World → Prop) (ord : C3) (hm : P.follows .mixedOrders = true) (hs : Region.noSelect ops = true)
    (hl : ord.depth ≤ ops.size) (hc : c3B ops ord (Array.replicate ops.size false) = true) (hS : S w.drew) (h : wpC3 P ops (NoPanic Q) S ord a w.drew) :
    (Code.region id ops true).wp P Q a w :=
  wp_region_noPanic (wp_region_held hm (c3_sound hs (fun _ _ _ h => h) ord _ _ _ _ hl hc hS h))

theorem c3_intro {ord : C3} {a : Act} {w : World} (h : ∀ ops', ops' = ops → wpC3 P ops' Q S ord a w) : wpC3 P ops Q S ord a w := h ops rfl
theorem c3_done {a : Act} {w : World} (h : Q .normal a w) : wpC3 P ops Q S .done a w := h
theorem c3_st {i : Nat} {rest : C3} {o : Oper} {v : Value} {a : Act} {w : World} (ho : ops[i]? = some o) (hg : o.guard = none)
    (hv : ∀ w', S w' → (execOp a.eval o).run P w' = .ok (.value v) w') (h : wpC3 P ops Q S rest (a.put o.dst v) w) : wpC3 P ops Q S (.st i rest) a w :=
  ⟨o, v, ho, .inl ⟨by simp [Region.wanted, hg], hv⟩, h⟩
theorem c3_op {i : Nat} {rest : C3} {o : Oper} {a : Act} {w : World} (ho : ops[i]? = some o) (hg : o.guard = none)
    (h : ∀ K : Act → World → Prop, (∀ a' w', S w' ∧ wpC3 P ops Q S rest a' w' → K a' w') → o.wp P a w K Q) : wpOp P ops Q i (fun a' w' => S w' ∧ wpC3 P ops Q S rest a' w') a w := by
  unfold wpOp
  rw [ho]
  simp only [Region.wanted, hg, if_true]
  exact .inl (h _ fun _ _ hh => hh)
theorem c3_one {i : Nat} {rest : C3} {a : Act} {w : World} (h : wpOp P ops Q i (fun a' w' => S w' ∧ wpC3 P ops Q S rest a' w') a w) : wpC3 P ops Q S (.one i rest) a w := h
theorem c3_two {i j : Nat} {s t : C3} {a : Act} {w : World} (h1 : wpOp P ops Q i (fun a' w' => S w' ∧ wpC3 P ops Q S s a' w') a w) (h2 : wpOp P ops Q j (fun a' w' => S w' ∧ wpC3 P ops Q S t a' w') a w) : wpC3 P ops Q S (.two i s j t) a w := ⟨h1, h2⟩
theorem c3_three {i j k : Nat} {s t u : C3} {a : Act} {w : World} (h1 : wpOp P ops Q i (fun a' w' => S w' ∧ wpC3 P ops Q S s a' w') a w) (h2 : wpOp P ops Q j (fun a' w' => S w' ∧ wpC3 P ops Q S t a' w') a w) (h3 : wpOp P ops Q k (fun a' w' => S w' ∧ wpC3 P ops Q S u a' w') a w) : wpC3 P ops Q S (.three i s j t k u) a w := ⟨h1, h2, h3⟩
end

end Go.Proofs.YtekignklnakkaaaGreatDoor

namespace Go.Proofs.YtekignklnakkaaaGreatDoor
open Go.RowKit

end Go.Proofs.YtekignklnakkaaaGreatDoor
/- How an argument of a law reads: by its shape, once for all types without pointers and maps. -/
namespace Go.Proofs.YtekignklnakkaaaGreatDoor
open Go.RowKit Go.ChangeShapes Go.WideShapes

theorem lawOwn : ownKnob Tryz.prog.godebug = none := by kernel_rfl
theorem lawLaid : laidOutB Tryz.prog = true := by kernel_rfl

inductive Sh where
  | i (k : IntKind)
  | b
  | str
  | st (fs : List Sh)
  | sl (e : Sh)

mutual
def Sh.size : Sh → Nat
  | .st fs => Sh.sizes fs
  | .i _ => 1
  | .b => 1
  | .str => 1
  | .sl _ => 1
def Sh.sizes : List Sh → Nat
  | [] => 0
  | f :: fs => f.size + Sh.sizes fs
end

mutual
def rd (w : World) : Sh → List Value → Prop
  | .i k, cs => ∃ n, cs = [.int k n] ∧ (Lit.int k n).wf = true
  | .b, cs => ∃ x, cs = [.bool x]
  | .str, cs => ∃ s, cs = [.string s] ∧ s.size ≤ maxLen
  | .st fs, cs => rds w fs cs
  | .sl e, cs => cs = [.slice none 0 0] ∨ ∃ a len cap, cs = [.slice (some a) len cap] ∧ len ≤ cap ∧ cap ≤ maxLen ∧
      ∀ i, i < len → ∃ cs', cs'.length = e.size ∧ (∀ j, j < e.size → w.cell? (a.add (i * e.size + j)) = cs'[j]?) ∧ rd w e cs'
def rds (w : World) : List Sh → List Value → Prop
  | [], cs => cs = []
  | f :: fs, cs => rd w f (cs.take f.size) ∧ rds w fs (cs.drop f.size)
end

mutual
def shOK (P : Program) : Nat → TypeId → Sh → Bool
  | 0, _, _ => false
  | _ + 1, t, .i k => match P.underlying t with | some (.int k') => k == k' | _ => false
  | _ + 1, t, .b => match P.underlying t with | some .bool => true | _ => false
  | _ + 1, t, .str => match P.underlying t with | some .string => true | _ => false
  | n + 1, t, .sl e => match P.underlying t with | some (.slice et) => P.cellsOf et == e.size && shOK P n et e | _ => false
  | n + 1, t, .st fs => match P.underlying t with | some (.struct fl) => P.cellsOf t == Sh.sizes fs && shsOK P n fl.toList fs 0 | _ => false
def shsOK (P : Program) : Nat → List Field → List Sh → Nat → Bool
  | _, [], [], _ => true
  | 0, _, _, _ => false
  | n + 1, f :: fl, s :: fs, off => f.offset == off && P.cellsOf f.type == s.size && shOK P n f.type s && shsOK P n fl fs (off + s.size)
  | _, _, _, _ => false
end

section
variable {H : Type} {enc : TypeId × Value → H} {P : Program} {w : World} {spare : Nat → Bool} {held : Bool} {base : Nat}

theorem rds_of (n : Nat) (ih : ∀ t s, shOK P n t s = true → ∀ fuel cs x, DataW.trod enc P w base spare held fuel t cs = some x → rd w s cs) :
    ∀ (m : Nat) (fl : List Field) (fs : List Sh) (off : Nat) (cs : List Value) (m' : Nat), m ≤ n → (∀ m t s, m ≤ n → shOK P m t s = true → shOK P n t s = true) → shsOK P m fl fs off = true →
      cs.length = off + Sh.sizes fs →
      (∀ (f : Field), f ∈ fl → ∃ x, DataW.trod enc P w base spare held m' f.type ((cs.drop f.offset).take (P.cellsOf f.type)) = some x) →
      rds w fs (cs.drop off) := by
  intro m
  induction m with
  | zero =>
    intro fl fs off cs m' _ _ hok hlen hall
    match fl, fs with
    | [], [] => simp [Sh.sizes] at hlen; simp [rds, hlen]
    | _ :: _, [] => simp [shsOK] at hok
    | [], _ :: _ => simp [shsOK] at hok
    | _ :: _, _ :: _ => simp [shsOK] at hok
  | succ m ihm =>
    intro fl fs off cs m' hm hup hok hlen hall
    match fl, fs with
    | [], [] => simp [Sh.sizes] at hlen; simp [rds, hlen]
    | _ :: _, [] => simp [shsOK] at hok
    | [], _ :: _ => simp [shsOK] at hok
    | f :: fl, s :: fs =>
      simp only [shsOK, Bool.and_eq_true, beq_iff_eq] at hok
      obtain ⟨⟨⟨ho, hc⟩, hs⟩, hr⟩ := hok
      obtain ⟨x, hx⟩ := hall f (by simp)
      rw [ho, hc] at hx
      have h1 := ih f.type s (hup m _ _ (by omega) hs) _ _ _ hx
      have h2 := ihm fl fs (off + s.size) cs m' (by omega) hup hr (by simp only [Sh.sizes] at hlen; omega) (fun g hg => hall g (by simp [hg]))
      refine ⟨h1, ?_⟩
      rwa [List.drop_drop]

theorem shOK_up : ∀ (m : Nat), (∀ t s, shOK P m t s = true → shOK P (m + 1) t s = true) ∧ (∀ fl fs off, shsOK P m fl fs off = true → shsOK P (m + 1) fl fs off = true) := by
  intro m
  induction m with
  | zero =>
    refine ⟨fun t s h => by simp [shOK] at h, fun fl fs off h => ?_⟩
    match fl, fs with
    | [], [] => simp [shsOK]
    | _ :: _, [] => simp [shsOK] at h
    | [], _ :: _ => simp [shsOK] at h
    | _ :: _, _ :: _ => simp [shsOK] at h
  | succ m ih =>
    refine ⟨fun t s h => ?_, fun fl fs off h => ?_⟩
    · cases s with
      | i k => simpa only [shOK] using h
      | b => simpa only [shOK] using h
      | str => simpa only [shOK] using h
      | st fs =>
        simp only [shOK] at h ⊢
        split at h
        · simp only [Bool.and_eq_true] at h ⊢
          exact ⟨h.1, ih.2 _ _ _ h.2⟩
        · simp at h
      | sl e =>
        simp only [shOK] at h ⊢
        split at h
        · simp only [Bool.and_eq_true] at h ⊢
          exact ⟨h.1, ih.1 _ _ h.2⟩
        · simp at h
    · match fl, fs with
      | [], [] => simp [shsOK]
      | _ :: _, [] => simp [shsOK] at h
      | [], _ :: _ => simp [shsOK] at h
      | f :: fl, s :: fs =>
        simp only [shsOK, Bool.and_eq_true] at h ⊢
        exact ⟨⟨h.1.1, ih.1 _ _ h.1.2⟩, ih.2 _ _ _ h.2⟩

theorem shOK_le {m n : Nat} (h : m ≤ n) {t : TypeId} {s : Sh} (hs : shOK P m t s = true) : shOK P n t s = true := by
  induction h with
  | refl => exact hs
  | step _ ih => exact (shOK_up _).1 _ _ ih

theorem trod_rd : ∀ (n : Nat) t s, shOK P n t s = true → ∀ fuel cs x, DataW.trod enc P w base spare held fuel t cs = some x → rd w s cs := by
  intro n
  induction n with
  | zero => intro t s h; simp [shOK] at h
  | succ n ih =>
    intro t s hok fuel cs x h
    cases s with
    | i k =>
      simp only [shOK] at hok
      split at hok
      · rename_i hu
        obtain rfl := by simpa using hok
        obtain ⟨n, h1, _, h2⟩ := DataW.trod_int hu h
        exact ⟨n, h1, h2⟩
      · simp at hok
    | b =>
      simp only [shOK] at hok
      split at hok
      · rename_i hu
        obtain ⟨n, h1, _⟩ := DataW.trod_bool hu h
        exact ⟨n, h1⟩
      · simp at hok
    | str =>
      simp only [shOK] at hok
      split at hok
      · rename_i hu
        obtain ⟨n, h1, _, h2⟩ := DataW.trod_string hu h
        exact ⟨n, h1, h2⟩
      · simp at hok
    | st fs =>
      simp only [shOK] at hok
      split at hok
      · rename_i fl hu
        simp only [Bool.and_eq_true, beq_iff_eq] at hok
        obtain ⟨xs, m, _, _, hlen, hxl, hf⟩ := DataW.trod_struct hu h
        have := rds_of n ih n fl.toList fs 0 cs m (Nat.le_refl _) (fun m t s hm hs => shOK_le hm hs) hok.2 (by omega) (fun f hfm => by
          obtain ⟨j, hj, rfl⟩ := List.mem_iff_getElem.1 hfm
          have hj' : j < fl.size := by simpa using hj
          have := hf j fl[j] (by simp [hj'])
          rw [List.getElem?_eq_getElem (by omega)] at this
          exact ⟨_, by simpa using this⟩)
        simpa [rd] using this
      · simp at hok
    | sl e =>
      simp only [shOK] at hok
      split at hok
      · rename_i et hu
        simp only [Bool.and_eq_true, beq_iff_eq] at hok
        rcases DataW.trod_slice hu h with h0 | ⟨a, len, cap, elems, rest, m, _, h1, _, hb, hl, hm, hlen, hel, _⟩
        · exact .inl h0.1
        · refine .inr ⟨a, len, cap, h1, hl, hm, fun i hi => ?_⟩
          have := hel i hi
          rw [List.getElem?_eq_getElem (by omega), hok.1] at this
          obtain ⟨cs', hcs, ht⟩ := Option.bind_eq_some_iff.1 this
          obtain ⟨_, hcl, hat⟩ := World.cells?_some hcs
          refine ⟨cs', hcl, fun j hj => ?_, ih _ _ hok.2 _ _ _ ht⟩
          rw [← hat j hj]
          congr 1
          simp only [Addr.add]
          by_cases h1 : i * e.size = 0 <;> by_cases h2 : j = 0 <;> simp [h1, h2] <;> omega
      · simp at hok

theorem open_sh {t : TypeId} {v : Value} {d : DataW H} {p : List MemPlace} (n : Nat) (s : Sh) (hok : shOK P n t s = true)
    (h : DataW.Trod enc P w base spare held t v d p) : rd w s v.cells.toList := by
  obtain ⟨fuel, hf⟩ := h
  exact trod_rd n t s hok _ _ _ hf

theorem arg_st {r : Reach} {b0 : Nat} {t : TypeId} {v : Value} {d : DataW H} {p : List MemPlace} {fl : Array Field} (n : Nat) (fs : List Sh) (hok : shOK P n t (.st fs) = true) (hu : P.underlying t = some (.struct fl))
    (hv : Value.okWide P w r b0 t v) (h : DataW.Trod enc P w base spare held t v d p) : ∃ cs : List Value, v = .agg cs.toArray ∧ rds w fs cs := by
  obtain ⟨cs, rfl, _⟩ := okWide_struct hu hv
  have := open_sh n _ hok h
  exact ⟨cs.toList, by simp, by simpa [rd, Value.cells] using this⟩

end

section
variable {w : World}
theorem rds_one {f : Sh} {fs : List Sh} {cs : List Value} (hf : f.size = 1) (hc : ∀ cs, rd w f cs → cs.length = 1) (h : rds w (f :: fs) cs) : ∃ c cs', cs = c :: cs' ∧ rd w f [c] ∧ rds w fs cs' := by
  obtain ⟨h1, h2⟩ := h
  rw [hf] at h1 h2
  match cs with
  | [] => have := hc _ h1; simp at this
  | c :: cs' => exact ⟨c, cs', rfl, by simpa using h1, by simpa using h2⟩
theorem rds_int {k : IntKind} {fs : List Sh} {cs : List Value} (h : rds w (.i k :: fs) cs) : ∃ n cs', cs = .int k n :: cs' ∧ (Lit.int k n).wf = true ∧ rds w fs cs' := by
  obtain ⟨c, cs', rfl, ⟨n, h1, h2⟩, h3⟩ := rds_one (by rfl) (fun cs h => by obtain ⟨n, h, _⟩ := h; rw [h]; rfl) h
  simp at h1
  subst h1
  exact ⟨n, cs', rfl, h2, h3⟩
theorem rds_str {fs : List Sh} {cs : List Value} (h : rds w (.str :: fs) cs) : ∃ s cs', cs = .string s :: cs' ∧ s.size ≤ maxLen ∧ rds w fs cs' := by
  obtain ⟨c, cs', rfl, ⟨n, h1, h2⟩, h3⟩ := rds_one (by rfl) (fun cs h => by obtain ⟨n, h, _⟩ := h; rw [h]; rfl) h
  simp at h1
  subst h1
  exact ⟨n, cs', rfl, h2, h3⟩
theorem rds_sl {e : Sh} {fs : List Sh} {cs : List Value} (h : rds w (.sl e :: fs) cs) : ∃ c cs', cs = c :: cs' ∧ rd w (.sl e) [c] ∧ rds w fs cs' :=
  rds_one (by rfl) (fun cs h => by rcases h with h | ⟨_, _, _, h, _⟩ <;> rw [h] <;> rfl) h
theorem rds_st {gs fs : List Sh} {cs : List Value} (h : rds w (.st gs :: fs) cs) : ∃ c1 c2, cs = c1 ++ c2 ∧ rds w gs c1 ∧ rds w fs c2 := by
  obtain ⟨h1, h2⟩ := h
  exact ⟨cs.take _, cs.drop _, (List.take_append_drop _ _).symm, h1, h2⟩
theorem rds_nil {cs : List Value} (h : rds w [] cs) : cs = [] := h
end

theorem cell_lt {w : World} {a : Addr} {v : Value} (h : w.cell? a = some v) : a.block < w.heap.size ∧ a.spot = none := by
  unfold World.cell? at h
  split at h
  · rename_i e
    refine ⟨by have := (Array.getElem?_eq_some_iff.1 e).1; exact this, ?_⟩
    cases hs : a.spot with
    | none => rfl
    | some x => simp [hs] at h
  · simp at h

theorem rd_ints {w : World} {v : Value} (h : rd w (.sl (.i .i64)) [v]) : ∃ p cap xs, v = .slice p xs.length cap ∧ xs.length ≤ maxLen ∧ IntsAt w p xs ∧ ∀ x ∈ xs, (Lit.int .i64 x).wf = true := by
  rcases h with h | ⟨a, len, cap, h, hl, hm, hc⟩
  · simp at h
    exact ⟨none, 0, [], by simpa using h, by simp, fun i hi => by simp at hi, by simp⟩
  · simp at h
    obtain ⟨b, o, sp⟩ := a
    let f : Nat → Int := fun i => match w.cell? ((⟨b, o, sp⟩ : Addr).add i) with | some (.int _ n) => n | _ => 0
    have hf : ∀ i, i < len → w.cell? ((⟨b, o, sp⟩ : Addr).add i) = some (.int .i64 (f i)) ∧ (Lit.int .i64 (f i)).wf = true := by
      intro i hi
      obtain ⟨cs', h1, h2, n, h3, h4⟩ := hc i hi
      have := h2 0 (by simp [Sh.size])
      simp [Sh.size, h3] at this
      simp only [f, this, true_and]
      exact h4
    refine ⟨some ⟨b, o, sp⟩, cap, (List.range len).map f, by simpa using h, by simp; omega, fun i hi => ?_, fun x hx => ?_⟩
    · simp at hi
      have h0 := (cell_lt (hf 0 (by omega)).1).2
      have h1 : sp = none := by simpa [Addr.add] using h0
      subst h1
      have hi' := (hf i hi).1
      have hb := (cell_lt hi').1
      rw [addr_add] at hi' hb
      refine ⟨b, o, rfl, hb, ?_⟩
      rw [List.getD_eq_getElem?_getD, List.getElem?_map, List.getElem?_range hi]
      exact hi'
    · simp at hx
      obtain ⟨i, hi, rfl⟩ := hx
      exact (hf i hi).2

end Go.Proofs.YtekignklnakkaaaGreatDoor
