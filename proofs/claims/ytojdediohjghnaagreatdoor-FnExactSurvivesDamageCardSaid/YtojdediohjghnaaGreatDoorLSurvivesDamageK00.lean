/- What all texts of this seat share: imports, small lemmas on plain values. -/
import Derived.Test.YtojdediohjghnaaGreatDoorRows
import Derived.WalkKit
import Derived.Deep.QuietTactic
import Derived.BigQuiet
import Derived.Lib.Hide
import Derived.ProofKit
import Derived.OpenShut
import Derived.WalkSmall
import Derived.Deep.RegionWith
import Derived.Deep.RegionHeld3
import Derived.StillTailTactics
set_option linter.unusedVariables false
set_option linter.unusedSimpArgs false
namespace Go.Proofs.YtojdediohjghnaaGreatDoor
open Go.RowKit

def Ext (w w' : World) : Prop := Below w.heap.size w w'
theorem Ext.below {w w' : World} (h : Ext w w') : Below w.heap.size w w' := h
theorem Ext.refl (w : World) : Ext w w := Below.refl _ _
theorem Ext.trans {a b c : World} (h : Ext a b) (k : Ext b c) : Ext a c := Below.trans h (Below.mono k h.size)
theorem Ext.trans2 {a b c : World} (k : Ext b c) (h : Ext a b) : Ext a c := h.trans k
theorem Ext.drew {a w : World} (h : Ext a w) : Ext a w.drew := Below.drew h
theorem Ext.drewN {a w : World} (h : Ext a w) (n : Nat) : Ext a (w.drewN n) := below_drewN h n
theorem Ext.alloc {a w : World} (h : Ext a w) (o : Obj) : Ext a (w.alloc o) := Below.alloc h h.size o
theorem Ext.low {B : Nat} {a b c : World} (h : Ext a b) (k : Below B b c) (hB : a.heap.size ≤ B) : Ext a c := Below.trans h (k.mono hB)
theorem Ext.trans3 {a b c : World} (h : Ext a b) (k : Below a.heap.size b c) : Ext a c := Below.trans h k
theorem Ext.iter {a w : World} (h : Ext a w) (s : ByteArray) (p : Nat) : Ext a (w.iter s p) := Ext.alloc h _
theorem Ext.setCell {a w : World} (h : Ext a w) {p : Addr} (hp : a.heap.size ≤ p.block) (v : Value) : Ext a (w.setCell p v) := Below.setCell h hp v
theorem eX {a b : World} (h : Ext a b := by repeat (first | exact Ext.refl _ | assumption | refine Ext.drew ?_ | refine Ext.drewN ?_ _ | refine Ext.iter ?_ _ _ | refine Ext.alloc ?_ _ | refine Ext.setCell ?_ (by first | exact Nat.le_refl _ | (simp <;> omega)) _ | refine Ext.trans2 (by assumption) ?_)) : Ext a b := h
theorem eY {a b : World} (h : Ext a b := by repeat (first | with_reducible exact Ext.refl _ | with_reducible assumption | with_reducible refine Ext.drew ?_ | with_reducible refine Ext.drewN ?_ _ | with_reducible refine Ext.alloc ?_ _ | with_reducible refine Ext.setCell ?_ (by first | exact Nat.le_refl _ | exact Nat.le_succ _ | (simp <;> omega)) _ | with_reducible refine Ext.trans2 (by with_reducible assumption) ?_)) : Ext a b := h
theorem ecell {W w1 : World} (hb : Ext W w1) : (∀ b o, b < W.heap.size → w1.cell? ⟨b, o, none⟩ = W.cell? ⟨b, o, none⟩) ∧ (∀ b o, b < W.heap.size → w1.frozen? ⟨b, o, none⟩ = W.frozen? ⟨b, o, none⟩) ∧ (∀ k, k < W.heap.size → k < w1.heap.size) ∧ W.heap.size ≤ w1.heap.size :=
 ⟨fun b o h => hb.below.cell (p := ⟨b, o, none⟩) h, fun b o h => hb.below.frozen (p := ⟨b, o, none⟩) h, fun _ h => Nat.lt_of_lt_of_le h hb.below.size, hb.below.size⟩
theorem evE {S : World → Prop} {P : Program} {o : Oper} {a : Act} {v : Value} (h : ∀ w', S w' → (execOp a.eval o).run P w' = .ok (.value v) w' := by (intro w2 hS; first | (go_simp; first | done | rfl) | rfl | (obtain ⟨hc, hf, hk, hz⟩ := ecell hS; go_simp; first | done | rfl))) : ∀ w', S w' → (execOp a.eval o).run P w' = .ok (.value v) w' := h

theorem ret_int {k : IntKind} {a b : Int} (h : a = b) : Ending.returned (.int k a) = .returned (.int k b) := by rw [h]
def isB (e : Ending) (P : Prop) : Prop := (P ∧ e = .returned (.bool true)) ∨ (¬P ∧ e = .returned (.bool false))
theorem isB_t {P : Prop} (h : P) : isB (.returned (.bool true)) P := .inl ⟨h, rfl⟩
theorem isB_f {P : Prop} (h : ¬P) : isB (.returned (.bool false)) P := .inr ⟨h, rfl⟩
theorem isB_m {P : Prop} {b : Bool} (h : b = true ↔ P) : isB (.returned (.bool b)) P := by
 cases b
 ·exact isB_f (by rw [← h]; simp)
 ·exact isB_t (h.1 rfl)

def byteAt (s : ByteArray) (i : Nat) : Int := ((s.data.toList.getD i 0).toNat : Int)
theorem byteAt_eq {s : ByteArray} {i : Nat} (h : i < s.size) : byteAt s i = ((s[i]'h).toNat : Int) := by
 unfold byteAt
 rw [List.getD_eq_getElem?_getD, List.getElem?_eq_getElem (by simpa using h)]
 cases s; rfl
theorem byteAt_bd (s : ByteArray) (i : Nat) : 0 ≤ byteAt s i ∧ byteAt s i ≤ 255 := by
 unfold byteAt
 have := UInt8.toNat_lt (s.data.toList.getD i 0)
 omega

theorem addr_add (b o i : Nat) : (⟨b, o, none⟩ : Addr).add i = ⟨b, o + i, none⟩ := by
 unfold Addr.add
 split
 ·rename_i h; rw [h]; rfl
 ·rfl

def IntsAt (w : World) (p : Option Addr) (xs : List Int) : Prop :=
 ∀ i, i < xs.length → ∃ b o, p = some ⟨b, o, none⟩ ∧ b < w.heap.size ∧ w.cell? ⟨b, o + i, none⟩ = some (.int .i64 (xs.getD i 0))
theorem IntsAt.ext {w w' : World} {p : Option Addr} {xs : List Int} (h : IntsAt w p xs) (hb : Ext w w') : IntsAt w' p xs := by
 intro i hi
 obtain ⟨b, o, hp, hlt, hc⟩ := h i hi
 exact ⟨b, o, hp, Nat.lt_of_lt_of_le hlt hb.below.size, by rw [(ecell hb).1 _ _ hlt]; exact hc⟩
theorem IntsAt_alloc (w : World) (xs : List Int) (t : TypeId) : IntsAt (w.alloc (.cells (xs.map (Value.int .i64)).toArray t)) (some ⟨w.heap.size, 0, none⟩) xs := by
 intro i hi
 refine ⟨_, _, rfl, by simp, ?_⟩
 have : (w.alloc (.cells (xs.map (Value.int .i64)).toArray t)).heap[w.heap.size]? = some (.cells (xs.map (Value.int .i64)).toArray t) := (MapKept.heap_alloc w _).1
 simp only [World.cell?, this]
 simp [hi]
theorem IntsAt_nil (w : World) (p : Option Addr) : IntsAt w p [] := fun i hi => absurd hi (Nat.not_lt_zero i)

open Go.RowKit

theorem inRange_c (n lo hi : Int) (w : World) :
  Calls Tryz.prog 85 #[.int .i64 n, .int .i64 lo, .int .i64 hi] w fun e w' => isB e (lo ≤ n ∧ n ≤ hi) ∧ w = w' := by
 go_enter Tryz.func85, Tryz.ntmps85
 go_wp2
 all_goals (go_ret; exact ⟨(by first | exact isB_t (by skip; omega) | exact isB_f (by skip; omega) | exact isB_m (by simp only [decide_eq_true_eq, decide_eq_false_iff_not, Bool.and_eq_true, Bool.or_eq_true]; omega) | exact isB_t (by assumption) | exact isB_f (by assumption) | exact isB_t (by simp [*]; done) | exact isB_f (by simp [*]; done)), rfl⟩)

theorem l01In_c (n lo hi : Int) (w : World) :
  Calls Tryz.prog 37 #[.int .i64 n, .int .i64 lo, .int .i64 hi] w fun e w' => isB e (lo ≤ n ∧ n ≤ hi) ∧ w = w' := by
 go_enter Tryz.func37, Tryz.ntmps37
 go_wp2
 all_goals (go_ret; exact ⟨(by first | exact isB_t (by skip; omega) | exact isB_f (by skip; omega) | exact isB_m (by simp only [decide_eq_true_eq, decide_eq_false_iff_not, Bool.and_eq_true, Bool.or_eq_true]; omega) | exact isB_t (by assumption) | exact isB_f (by assumption) | exact isB_t (by simp [*]; done) | exact isB_f (by simp [*]; done)), rfl⟩)

open Go.RowKit

abbrev vPrint (p t q b d l : Int) : Value := .agg #[.int .i64 p, .int .i64 t, .int .i64 q, .int .i64 b, .int .i64 d, .int .i64 l]
end Go.Proofs.YtojdediohjghnaaGreatDoor
/- A statement that draws its order: one order is enough, where every operation but those that change the world gives the same in every world that such a change may bring. -/
namespace Go.Proofs.YtojdediohjghnaaGreatDoor
open Go.RowKit

theorem ptN : (∀ (a : Act) (d : Option Nat) (v : Value), a.put d v = match d with
  | some d => { a with tmps := a.tmps.setIfInBounds d v }
  | none => a) ∧ (∀ (l : List Value) (i : Nat) (v : Value), l.toArray.setIfInBounds i v = (l.set i v).toArray) ∧ (∀ (a v : Value) (l : List Value), (a :: l).set 0 v = v :: l) ∧ (∀ (a v : Value) (l : List Value) (i : Nat), (a :: l).set (i + 1) v = a :: l.set i v) :=
 ⟨fun _ _ _ => rfl, fun _ _ _ => List.setIfInBounds_toArray .., fun _ _ _ => rfl, fun _ _ _ _ => rfl⟩

section
variable {P : Program} {ops : Array Oper} {Q : Exit → Act → World → Prop} {S : World → Prop}

def canonB (ops : Array Oper) : List (Nat × Bool) → Array Bool → Bool
 | [], listed => (Region.ready .any ops listed).isEmpty
 | (i, true) :: rest, listed => Region.free .any ops listed i && (Region.ready .any ops listed).contains i && canonB ops rest (listed.setIfInBounds i true)
 | (i, false) :: rest, listed => (Region.ready .any ops listed == [i]) && canonB ops rest (listed.setIfInBounds i true)

def wpCanon (P : Program) (ops : Array Oper) (Q : Exit → Act → World → Prop) (S : World → Prop) : List (Nat × Bool) → Act → World → Prop
 | [], a, w => Q .normal a w
 | (i, true) :: rest, a, w => ∃ o v, ops[i]? = some o ∧ YieldsIf P ops S o v a ∧ wpCanon P ops Q S rest (a.put o.dst v) w
 | (i, false) :: rest, a, w => wpOp P ops Q i (fun a' w' => S w' ∧ wpCanon P ops Q S rest a' w') a w

theorem canon_sound (hs : Region.noSelect ops = true) (hQ : ∀ c a w, ¬ Q (.panic c) a w) : ∀ (ord : List (Nat × Bool)) (fuel : Nat) (listed : Array Bool) (a : Act) (w : World),
  ord.length ≤ fuel → canonB ops ord listed = true → S w → wpCanon P ops Q S ord a w → wpAnyH P .any ops Q S fuel listed a w := by
 intro ord
 induction ord with
 | nil =>
  intro fuel listed a w _ hc _ h
  exact wpAnyH_done (by simpa [canonB] using hc) h fuel
 | cons x rest ih =>
  intro fuel listed a w hf hc hS h
  obtain ⟨i, b⟩ := x
  match fuel, hf with
  | fuel + 1, hf =>
   cases b with
   | true =>
    simp only [canonB, Bool.and_eq_true] at hc
    obtain ⟨o, v, ho, hy, hr⟩ := h
    exact wpAnyH_take ho hs hc.1.1 hc.1.2 (fun c a w hq => absurd hq (hQ _ _ _)) hy hS (ih fuel _ _ _ (by simpa using hf) hc.2 hS hr)
   | false =>
    simp only [canonB, Bool.and_eq_true, beq_iff_eq] at hc
    refine wpAnyH_all hc.1 (by simp) fun j hj => ?_
    obtain rfl := List.mem_singleton.1 hj
    exact wpOp_mono (fun a' w' hh => ⟨hh.1, ih fuel _ _ _ (by simpa using hf) hc.2 hh.1 hh.2⟩) h

theorem wp_region_canon {id : Nat} {a : Act} {w : World} (S : World → Prop) (ord : List (Nat × Bool)) (hm : P.follows .mixedOrders = true) (hs : Region.noSelect ops = true)
  (hl : ord.length ≤ ops.size) (hc : canonB ops ord (Array.replicate ops.size false) = true) (hS : S w.drew) (h : wpCanon P ops (NoPanic Q) S ord a w.drew) :
  (Code.region id ops true).wp P Q a w :=
 wp_region_noPanic (wp_region_held hm (canon_sound hs (fun _ _ _ h => h) ord _ _ _ _ hl hc hS h))

theorem canon_intro {ord : List (Nat × Bool)} {a : Act} {w : World} (h : ∀ ops', ops' = ops → wpCanon P ops' Q S ord a w) : wpCanon P ops Q S ord a w := h ops rfl
theorem canon_at {l : List Oper} (e : ops = l.toArray) (i : Nat) {o : Oper} (h : l[i]? = some o) : ops[i]? = some o := by rw [e]; simpa using h
theorem canon_done {a : Act} {w : World} (h : Q .normal a w) : wpCanon P ops Q S [] a w := h
theorem canon_st {i : Nat} {rest : List (Nat × Bool)} {o : Oper} {v : Value} {a : Act} {w : World} (ho : ops[i]? = some o) (hg : o.guard = none)
  (hv : ∀ w', S w' → (execOp a.eval o).run P w' = .ok (.value v) w') (h : wpCanon P ops Q S rest (a.put o.dst v) w) : wpCanon P ops Q S ((i, true) :: rest) a w :=
 ⟨o, v, ho, .inl ⟨by simp [Region.wanted, hg], hv⟩, h⟩
theorem canon_ef {i : Nat} {rest : List (Nat × Bool)} {o : Oper} {a : Act} {w : World} (ho : ops[i]? = some o) (hg : o.guard = none)
  (h : ∀ K : Act → World → Prop, (∀ a' w', S w' ∧ wpCanon P ops Q S rest a' w' → K a' w') → o.wp P a w K Q) : wpCanon P ops Q S ((i, false) :: rest) a w := by
 show wpOp P ops Q i _ a w
 unfold wpOp
 rw [ho]
 simp only [Region.wanted, hg, if_true]
 exact .inl (h _ fun _ _ hh => hh)
theorem wanted_of {o oj : Oper} {j d : Nat} {want b : Bool} {a : Act} (hg : o.guard = some (j, want)) (hj : ops[j]? = some oj) (hd : oj.dst = some d) (hb : a.tmps[d]? = some (.bool b)) : Region.wanted o (yielded ops a.tmps) = (b == want) := by
 unfold Region.wanted
 simp only [hg, yielded, hj, hd, Option.bind_some, hb]
 cases b <;> cases want <;> rfl
theorem canon_stw {i j d : Nat} {want : Bool} {rest : List (Nat × Bool)} {o oj : Oper} {v : Value} {a : Act} {w : World} (ho : ops[i]? = some o) (hg : o.guard = some (j, want)) (hj : ops[j]? = some oj) (hd : oj.dst = some d) (hb : a.tmps[d]? = some (.bool want))
  (hv : ∀ w', S w' → (execOp a.eval o).run P w' = .ok (.value v) w') (h : wpCanon P ops Q S rest (a.put o.dst v) w) : wpCanon P ops Q S ((i, true) :: rest) a w :=
 ⟨o, v, ho, .inl ⟨by rw [wanted_of hg hj hd hb]; simp, hv⟩, h⟩
theorem canon_stu {i j d : Nat} {want : Bool} {rest : List (Nat × Bool)} {o oj : Oper} {a : Act} {w : World} (ho : ops[i]? = some o) (hg : o.guard = some (j, want)) (hj : ops[j]? = some oj) (hd : oj.dst = some d) (hb : a.tmps[d]? = some (.bool !want))
  (h : wpCanon P ops Q S rest (a.put o.dst undef) w) : wpCanon P ops Q S ((i, true) :: rest) a w :=
 ⟨o, undef, ho, .inr ⟨by rw [wanted_of hg hj hd hb]; cases want <;> rfl, rfl⟩, h⟩
theorem unwanted_of {o oj : Oper} {j d : Nat} {want : Bool} {a : Act} (hg : o.guard = some (j, want)) (hj : ops[j]? = some oj) (hd : oj.dst = some d) (hb : a.tmps[d]? = some undef) : Region.wanted o (yielded ops a.tmps) = false := by
 unfold Region.wanted
 simp only [hg, yielded, hj, hd, Option.bind_some, hb]
 cases want <;> rfl
theorem canon_stx {i j d : Nat} {want : Bool} {rest : List (Nat × Bool)} {o oj : Oper} {a : Act} {w : World} (ho : ops[i]? = some o) (hg : o.guard = some (j, want)) (hj : ops[j]? = some oj) (hd : oj.dst = some d) (hb : a.tmps[d]? = some undef)
  (h : wpCanon P ops Q S rest (a.put o.dst undef) w) : wpCanon P ops Q S ((i, true) :: rest) a w :=
 ⟨o, undef, ho, .inr ⟨unwanted_of hg hj hd hb, rfl⟩, h⟩
theorem canon_efx {i j d : Nat} {want : Bool} {rest : List (Nat × Bool)} {o oj : Oper} {a : Act} {w : World} (ho : ops[i]? = some o) (hg : o.guard = some (j, want)) (hj : ops[j]? = some oj) (hd : oj.dst = some d) (hb : a.tmps[d]? = some undef)
  (hS : S w) (h : wpCanon P ops Q S rest (a.put o.dst undef) w) : wpCanon P ops Q S ((i, false) :: rest) a w := by
 show wpOp P ops Q i _ a w
 unfold wpOp
 rw [ho]
 simp only [unwanted_of hg hj hd hb]
 exact ⟨hS, h⟩
theorem canon_efw {i j d : Nat} {want : Bool} {rest : List (Nat × Bool)} {o oj : Oper} {a : Act} {w : World} (ho : ops[i]? = some o) (hg : o.guard = some (j, want)) (hj : ops[j]? = some oj) (hd : oj.dst = some d) (hb : a.tmps[d]? = some (.bool want))
  (h : ∀ K : Act → World → Prop, (∀ a' w', S w' ∧ wpCanon P ops Q S rest a' w' → K a' w') → o.wp P a w K Q) : wpCanon P ops Q S ((i, false) :: rest) a w := by
 show wpOp P ops Q i _ a w
 unfold wpOp
 rw [ho]
 simp only [wanted_of hg hj hd hb, beq_self_eq_true, if_true]
 exact .inl (h _ fun _ _ hh => hh)
theorem canon_efu {i j d : Nat} {want : Bool} {rest : List (Nat × Bool)} {o oj : Oper} {a : Act} {w : World} (ho : ops[i]? = some o) (hg : o.guard = some (j, want)) (hj : ops[j]? = some oj) (hd : oj.dst = some d) (hb : a.tmps[d]? = some (.bool !want))
  (hS : S w) (h : wpCanon P ops Q S rest (a.put o.dst undef) w) : wpCanon P ops Q S ((i, false) :: rest) a w := by
 show wpOp P ops Q i _ a w
 unfold wpOp
 rw [ho]
 simp only [wanted_of hg hj hd hb]
 cases want <;> exact ⟨hS, h⟩
/-- Which operation stands where: one fact for all. -/
theorem canon_eo {l : List Oper} {ops : Array Oper} (e : ops = l.toArray) : RowKit.Hid (∀ (i : Nat) {o : Oper}, l[i]? = some o → ops[i]? = some o) := Lib.hid fun i _ h => canon_at e i h
theorem cS {l : List Oper} (eo : RowKit.Hid (∀ (i : Nat) {o : Oper}, l[i]? = some o → ops[i]? = some o)) {i : Nat} {rest : List (Nat × Bool)} {o : Oper} {v : Value} {a : Act} {w : World} (ho : l[i]? = some o) (hg : o.guard = none)
  (hv : ∀ w', S w' → (execOp a.eval o).run P w' = .ok (.value v) w') (h : wpCanon P ops Q S rest (a.put o.dst v) w) : wpCanon P ops Q S ((i, true) :: rest) a w := canon_st (eo.out i ho) hg hv h
theorem cU {l : List Oper} (eo : RowKit.Hid (∀ (i : Nat) {o : Oper}, l[i]? = some o → ops[i]? = some o)) {i j d : Nat} {want : Bool} {rest : List (Nat × Bool)} {o oj : Oper} {a : Act} {w : World} (ho : l[i]? = some o) (hg : o.guard = some (j, want)) (hj : l[j]? = some oj) (hd : oj.dst = some d) (hb : a.tmps[d]? = some (.bool !want))
  (h : wpCanon P ops Q S rest (a.put o.dst undef) w) : wpCanon P ops Q S ((i, true) :: rest) a w := canon_stu (eo.out i ho) hg (eo.out j hj) hd hb h
theorem cX {l : List Oper} (eo : RowKit.Hid (∀ (i : Nat) {o : Oper}, l[i]? = some o → ops[i]? = some o)) {i j d : Nat} {want : Bool} {rest : List (Nat × Bool)} {o oj : Oper} {a : Act} {w : World} (ho : l[i]? = some o) (hg : o.guard = some (j, want)) (hj : l[j]? = some oj) (hd : oj.dst = some d) (hb : a.tmps[d]? = some undef)
  (h : wpCanon P ops Q S rest (a.put o.dst undef) w) : wpCanon P ops Q S ((i, true) :: rest) a w := canon_stx (eo.out i ho) hg (eo.out j hj) hd hb h
theorem cW {l : List Oper} (eo : RowKit.Hid (∀ (i : Nat) {o : Oper}, l[i]? = some o → ops[i]? = some o)) {i j d : Nat} {want : Bool} {rest : List (Nat × Bool)} {o oj : Oper} {v : Value} {a : Act} {w : World} (ho : l[i]? = some o) (hg : o.guard = some (j, want)) (hj : l[j]? = some oj) (hd : oj.dst = some d) (hb : a.tmps[d]? = some (.bool want))
  (hv : ∀ w', S w' → (execOp a.eval o).run P w' = .ok (.value v) w') (h : wpCanon P ops Q S rest (a.put o.dst v) w) : wpCanon P ops Q S ((i, true) :: rest) a w := canon_stw (eo.out i ho) hg (eo.out j hj) hd hb hv h
end

def drawn : Code → List (Nat × Array Oper)
 | .region k ops true => [(k, ops)]
 | .seq a b => drawn a ++ drawn b
 | .cond _ a b => drawn a ++ drawn b
 | .block _ c => drawn c
 | .loop c => drawn c
 | .scope c => drawn c
 | _ => []
open Go.RowKit

inductive CT where
 | done
 | st (i : Nat) (t : CT)
 | one (i : Nat) (t : CT)
 | two (i : Nat) (s : CT) (j : Nat) (t : CT)
def CT.depth : CT → Nat
 | .done => 0
 | .st _ t => t.depth + 1
 | .one _ t => t.depth + 1
 | .two _ s _ t => max s.depth t.depth + 1

section
variable {P : Program} {ops : Array Oper} {Q : Exit → Act → World → Prop} {S : World → Prop}

def ctB (ops : Array Oper) : CT → Array Bool → Bool
 | .done, listed => (Region.ready .any ops listed).isEmpty
 | .st i t, listed => Region.free .any ops listed i && (Region.ready .any ops listed).contains i && ctB ops t (listed.setIfInBounds i true)
 | .one i t, listed => (Region.ready .any ops listed == [i]) && ctB ops t (listed.setIfInBounds i true)
 | .two i s j t, listed => (Region.ready .any ops listed == [i, j]) && ctB ops s (listed.setIfInBounds i true) && ctB ops t (listed.setIfInBounds j true)
def wpCT (P : Program) (ops : Array Oper) (Q : Exit → Act → World → Prop) (S : World → Prop) : CT → Act → World → Prop
 | .done, a, w => Q .normal a w
 | .st i t, a, w => ∃ o v, ops[i]? = some o ∧ YieldsIf P ops S o v a ∧ wpCT P ops Q S t (a.put o.dst v) w
 | .one i t, a, w => wpOp P ops Q i (fun a' w' => S w' ∧ wpCT P ops Q S t a' w') a w
 | .two i s j t, a, w => wpOp P ops Q i (fun a' w' => S w' ∧ wpCT P ops Q S s a' w') a w ∧ wpOp P ops Q j (fun a' w' => S w' ∧ wpCT P ops Q S t a' w') a w

theorem ct_sound (hs : Region.noSelect ops = true) (hQ : ∀ c a w, ¬ Q (.panic c) a w) : ∀ (ord : CT) (fuel : Nat) (listed : Array Bool) (a : Act) (w : World),
  ord.depth ≤ fuel → ctB ops ord listed = true → S w → wpCT P ops Q S ord a w → wpAnyH P .any ops Q S fuel listed a w := by
 intro ord
 induction ord with
 | done =>
  intro fuel listed a w _ hc _ h
  exact wpAnyH_done (by simpa [ctB] using hc) h fuel
 | st i t ih =>
  intro fuel listed a w hf hc hS h
  simp only [CT.depth] at hf
  match fuel, hf with
  | fuel + 1, hf =>
   simp only [ctB, Bool.and_eq_true] at hc
   obtain ⟨o, v, ho, hy, hr⟩ := h
   exact wpAnyH_take ho hs hc.1.1 hc.1.2 (fun c a w hq => absurd hq (hQ _ _ _)) hy hS (ih fuel _ _ _ (by omega) hc.2 hS hr)
 | one i t ih =>
  intro fuel listed a w hf hc hS h
  simp only [CT.depth] at hf
  match fuel, hf with
  | fuel + 1, hf =>
   simp only [ctB, Bool.and_eq_true, beq_iff_eq] at hc
   refine wpAnyH_all hc.1 (by simp) fun j hj => ?_
   obtain rfl := List.mem_singleton.1 hj
   exact wpOp_mono (fun a' w' hh => ⟨hh.1, ih fuel _ _ _ (by omega) hc.2 hh.1 hh.2⟩) h
 | two i s j t ih1 ih2 =>
  intro fuel listed a w hf hc hS h
  simp only [CT.depth] at hf
  match fuel, hf with
  | fuel + 1, hf =>
   simp only [ctB, Bool.and_eq_true, beq_iff_eq] at hc
   refine wpAnyH_all hc.1.1 (by simp) fun k hk => ?_
   simp only [List.mem_cons, List.not_mem_nil, or_false] at hk
   rcases hk with rfl | rfl
   ·exact wpOp_mono (fun a' w' hh => ⟨hh.1, ih1 fuel _ _ _ (by omega) hc.1.2 hh.1 hh.2⟩) h.1
   ·exact wpOp_mono (fun a' w' hh => ⟨hh.1, ih2 fuel _ _ _ (by omega) hc.2 hh.1 hh.2⟩) h.2

theorem wp_region_ct {id : Nat} {a : Act} {w : World} (S : World → Prop) (ord : CT) (hm : P.follows .mixedOrders = true) (hs : Region.noSelect ops = true)
  (hl : ord.depth ≤ ops.size) (hc : ctB ops ord (Array.replicate ops.size false) = true) (hS : S w.drew) (h : wpCT P ops (NoPanic Q) S ord a w.drew) :
  (Code.region id ops true).wp P Q a w :=
 wp_region_noPanic (wp_region_held hm (ct_sound hs (fun _ _ _ h => h) ord _ _ _ _ hl hc hS h))

theorem ct_intro {ord : CT} {a : Act} {w : World} (h : ∀ ops', ops' = ops → wpCT P ops' Q S ord a w) : wpCT P ops Q S ord a w := h ops rfl
theorem ct_done {a : Act} {w : World} (h : Q .normal a w) : wpCT P ops Q S .done a w := h
theorem ct_st {i : Nat} {rest : CT} {o : Oper} {v : Value} {a : Act} {w : World} (ho : ops[i]? = some o) (hg : o.guard = none)
  (hv : ∀ w', S w' → (execOp a.eval o).run P w' = .ok (.value v) w') (h : wpCT P ops Q S rest (a.put o.dst v) w) : wpCT P ops Q S (.st i rest) a w :=
 ⟨o, v, ho, .inl ⟨by simp [Region.wanted, hg], hv⟩, h⟩
theorem ct_op {i : Nat} {rest : CT} {o : Oper} {a : Act} {w : World} (ho : ops[i]? = some o) (hg : o.guard = none)
  (h : ∀ K : Act → World → Prop, (∀ a' w', S w' ∧ wpCT P ops Q S rest a' w' → K a' w') → o.wp P a w K Q) : wpOp P ops Q i (fun a' w' => S w' ∧ wpCT P ops Q S rest a' w') a w := by
 unfold wpOp
 rw [ho]
 simp only [Region.wanted, hg, if_true]
 exact .inl (h _ fun _ _ hh => hh)
theorem ct_one {i : Nat} {rest : CT} {a : Act} {w : World} (h : wpOp P ops Q i (fun a' w' => S w' ∧ wpCT P ops Q S rest a' w') a w) : wpCT P ops Q S (.one i rest) a w := h
theorem ct_two {i j : Nat} {s t : CT} {a : Act} {w : World} (h1 : wpOp P ops Q i (fun a' w' => S w' ∧ wpCT P ops Q S s a' w') a w) (h2 : wpOp P ops Q j (fun a' w' => S w' ∧ wpCT P ops Q S t a' w') a w) : wpCT P ops Q S (.two i s j t) a w := ⟨h1, h2⟩
end

open Go.RowKit

inductive C3 where
 | done
 | st (i : Nat) (t : C3)
 | one (i : Nat) (t : C3)
 | two (i : Nat) (s : C3) (j : Nat) (t : C3)
 | three (i : Nat) (s : C3) (j : Nat) (t : C3) (k : Nat) (u : C3)
def C3.depth : C3 → Nat
 | .done => 0
 | .st _ t => t.depth + 1
 | .one _ t => t.depth + 1
 | .two _ s _ t => max s.depth t.depth + 1
 | .three _ s _ t _ u => max s.depth (max t.depth u.depth) + 1

section
variable {P : Program} {ops : Array Oper} {Q : Exit → Act → World → Prop} {S : World → Prop}

def c3B (ops : Array Oper) : C3 → Array Bool → Bool
 | .done, listed => (Region.ready .any ops listed).isEmpty
 | .st i t, listed => Region.free .any ops listed i && (Region.ready .any ops listed).contains i && c3B ops t (listed.setIfInBounds i true)
 | .one i t, listed => (Region.ready .any ops listed == [i]) && c3B ops t (listed.setIfInBounds i true)
 | .two i s j t, listed => (Region.ready .any ops listed == [i, j]) && c3B ops s (listed.setIfInBounds i true) && c3B ops t (listed.setIfInBounds j true)
 | .three i s j t k u, listed => (Region.ready .any ops listed == [i, j, k]) && c3B ops s (listed.setIfInBounds i true) && c3B ops t (listed.setIfInBounds j true) && c3B ops u (listed.setIfInBounds k true)
def wpC3 (P : Program) (ops : Array Oper) (Q : Exit → Act → World → Prop) (S : World → Prop) : C3 → Act → World → Prop
 | .done, a, w => Q .normal a w
 | .st i t, a, w => ∃ o v, ops[i]? = some o ∧ YieldsIf P ops S o v a ∧ wpC3 P ops Q S t (a.put o.dst v) w
 | .one i t, a, w => wpOp P ops Q i (fun a' w' => S w' ∧ wpC3 P ops Q S t a' w') a w
 | .two i s j t, a, w => wpOp P ops Q i (fun a' w' => S w' ∧ wpC3 P ops Q S s a' w') a w ∧ wpOp P ops Q j (fun a' w' => S w' ∧ wpC3 P ops Q S t a' w') a w
 | .three i s j t k u, a, w => wpOp P ops Q i (fun a' w' => S w' ∧ wpC3 P ops Q S s a' w') a w ∧ wpOp P ops Q j (fun a' w' => S w' ∧ wpC3 P ops Q S t a' w') a w ∧ wpOp P ops Q k (fun a' w' => S w' ∧ wpC3 P ops Q S u a' w') a w

theorem c3_sound (hs : Region.noSelect ops = true) (hQ : ∀ c a w, ¬ Q (.panic c) a w) : ∀ (ord : C3) (fuel : Nat) (listed : Array Bool) (a : Act) (w : World),
  ord.depth ≤ fuel → c3B ops ord listed = true → S w → wpC3 P ops Q S ord a w → wpAnyH P .any ops Q S fuel listed a w := by
 intro ord
 induction ord with
 | done =>
  intro fuel listed a w _ hc _ h
  exact wpAnyH_done (by simpa [c3B] using hc) h fuel
 | st i t ih =>
  intro fuel listed a w hf hc hS h
  simp only [C3.depth] at hf
  match fuel, hf with
  | fuel + 1, hf =>
   simp only [c3B, Bool.and_eq_true] at hc
   obtain ⟨o, v, ho, hy, hr⟩ := h
   exact wpAnyH_take ho hs hc.1.1 hc.1.2 (fun c a w hq => absurd hq (hQ _ _ _)) hy hS (ih fuel _ _ _ (by omega) hc.2 hS hr)
 | one i t ih =>
  intro fuel listed a w hf hc hS h
  simp only [C3.depth] at hf
  match fuel, hf with
  | fuel + 1, hf =>
   simp only [c3B, Bool.and_eq_true, beq_iff_eq] at hc
   refine wpAnyH_all hc.1 (by simp) fun j hj => ?_
   obtain rfl := List.mem_singleton.1 hj
   exact wpOp_mono (fun a' w' hh => ⟨hh.1, ih fuel _ _ _ (by omega) hc.2 hh.1 hh.2⟩) h
 | two i s j t ih1 ih2 =>
  intro fuel listed a w hf hc hS h
  simp only [C3.depth] at hf
  match fuel, hf with
  | fuel + 1, hf =>
   simp only [c3B, Bool.and_eq_true, beq_iff_eq] at hc
   refine wpAnyH_all hc.1.1 (by simp) fun k hk => ?_
   simp only [List.mem_cons, List.not_mem_nil, or_false] at hk
   rcases hk with rfl | rfl
   ·exact wpOp_mono (fun a' w' hh => ⟨hh.1, ih1 fuel _ _ _ (by omega) hc.1.2 hh.1 hh.2⟩) h.1
   ·exact wpOp_mono (fun a' w' hh => ⟨hh.1, ih2 fuel _ _ _ (by omega) hc.2 hh.1 hh.2⟩) h.2
 | three i s j t l u ih1 ih2 ih3 =>
  intro fuel listed a w hf hc hS h
  simp only [C3.depth] at hf
  match fuel, hf with
  | fuel + 1, hf =>
   simp only [c3B, Bool.and_eq_true, beq_iff_eq] at hc
   refine wpAnyH_all hc.1.1.1 (by simp) fun k hk => ?_
   simp only [List.mem_cons, List.not_mem_nil, or_false] at hk
   rcases hk with rfl | rfl | rfl
   ·exact wpOp_mono (fun a' w' hh => ⟨hh.1, ih1 fuel _ _ _ (by omega) hc.1.1.2 hh.1 hh.2⟩) h.1
   ·exact wpOp_mono (fun a' w' hh => ⟨hh.1, ih2 fuel _ _ _ (by omega) hc.1.2 hh.1 hh.2⟩) h.2.1
   ·exact wpOp_mono (fun a' w' hh => ⟨hh.1, ih3 fuel _ _ _ (by omega) hc.2 hh.1 hh.2⟩) h.2.2

theorem wp_region_c3 {id : Nat} {a : Act} {w : World} (S : World → Prop) (ord : C3) (hm : P.follows .mixedOrders = true) (hs : Region.noSelect ops = true)
  (hl : ord.depth ≤ ops.size) (hc : c3B ops ord (Array.replicate ops.size false) = true) (hS : S w.drew) (h : wpC3 P ops (NoPanic Q) S ord a w.drew) :
  (Code.region id ops true).wp P Q a w :=
 wp_region_noPanic (wp_region_held hm (c3_sound hs (fun _ _ _ h => h) ord _ _ _ _ hl hc hS h))

theorem c3_intro {ord : C3} {a : Act} {w : World} (h : ∀ ops', ops' = ops → wpC3 P ops' Q S ord a w) : wpC3 P ops Q S ord a w := h ops rfl
theorem c3_done {a : Act} {w : World} (h : Q .normal a w) : wpC3 P ops Q S .done a w := h
theorem c3_st {i : Nat} {rest : C3} {o : Oper} {v : Value} {a : Act} {w : World} (ho : ops[i]? = some o) (hg : o.guard = none)
  (hv : ∀ w', S w' → (execOp a.eval o).run P w' = .ok (.value v) w') (h : wpC3 P ops Q S rest (a.put o.dst v) w) : wpC3 P ops Q S (.st i rest) a w :=
 ⟨o, v, ho, .inl ⟨by simp [Region.wanted, hg], hv⟩, h⟩
theorem c3_op {i : Nat} {rest : C3} {o : Oper} {a : Act} {w : World} (ho : ops[i]? = some o) (hg : o.guard = none)
  (h : ∀ K : Act → World → Prop, (∀ a' w', S w' ∧ wpC3 P ops Q S rest a' w' → K a' w') → o.wp P a w K Q) : wpOp P ops Q i (fun a' w' => S w' ∧ wpC3 P ops Q S rest a' w') a w := by
 unfold wpOp
 rw [ho]
 simp only [Region.wanted, hg, if_true]
 exact .inl (h _ fun _ _ hh => hh)
theorem c3_one {i : Nat} {rest : C3} {a : Act} {w : World} (h : wpOp P ops Q i (fun a' w' => S w' ∧ wpC3 P ops Q S rest a' w') a w) : wpC3 P ops Q S (.one i rest) a w := h
theorem c3_two {i j : Nat} {s t : C3} {a : Act} {w : World} (h1 : wpOp P ops Q i (fun a' w' => S w' ∧ wpC3 P ops Q S s a' w') a w) (h2 : wpOp P ops Q j (fun a' w' => S w' ∧ wpC3 P ops Q S t a' w') a w) : wpC3 P ops Q S (.two i s j t) a w := ⟨h1, h2⟩
theorem c3_three {i j k : Nat} {s t u : C3} {a : Act} {w : World} (h1 : wpOp P ops Q i (fun a' w' => S w' ∧ wpC3 P ops Q S s a' w') a w) (h2 : wpOp P ops Q j (fun a' w' => S w' ∧ wpC3 P ops Q S t a' w') a w) (h3 : wpOp P ops Q k (fun a' w' => S w' ∧ wpC3 P ops Q S u a' w') a w) : wpC3 P ops Q S (.three i s j t k u) a w := ⟨h1, h2, h3⟩
end

open Go.RowKit

end Go.Proofs.YtojdediohjghnaaGreatDoor
