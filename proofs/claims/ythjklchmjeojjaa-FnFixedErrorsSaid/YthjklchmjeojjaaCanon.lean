
/- A statement that draws its order: one order is enough, where every operation but those that change the world gives the same in every world that such a change may bring. -/
import Derived.Test.YthjklchmjeojjaaBase
namespace Go.Proofs.Ythjklchmjeojjaa
set_option linter.unusedVariables false
set_option linter.unusedSimpArgs false
open Go.RowKit

section
variable {P : Program} {ops : Array Oper} {Q : Exit → Act → World → Prop} {S : World → Prop}

/-- The order in which the region is walked: (number, true): an operation that gives the same in every world that meets S. -/
def canonB (ops : Array Oper) : List (Nat × Bool) → Array Bool → Bool
  | [], listed => (Region.ready .any ops listed).isEmpty
  | (i, true) :: rest, listed => Region.free .any ops listed i && (Region.ready .any ops listed).contains i && canonB ops rest (listed.setIfInBounds i true)
  | (i, false) :: rest, listed => (Region.ready .any ops listed == [i]) && canonB ops rest (listed.setIfInBounds i true)

def wpCanon (P : Program) (ops : Array Oper) (Q : Exit → Act → World → Prop) (S : World → Prop) : List (Nat × Bool) → Act → World → Prop
  | [], a, w => Q .normal a w
  | (i, true) :: rest, a, w => ∃ o v, ops[i]? = some o ∧ YieldsIf P ops S o v a ∧ wpCanon P ops Q S rest (a.put o.dst v) w
  | (i, false) :: rest, a, w => wpOp P ops Q i (fun a' w' => S w' ∧ wpCanon P ops Q S rest a' w') a w

theorem canon_sound (hs : Region.noSelect ops = true) (hQ : ∀ c a w, ¬ Q (.panic c) a w) : ∀ (ord : List (Nat × Bool)) (fuel : Nat) (listed : Array Bool) (a : Act) (w : World),
    ord.length ≤ fuel → canonB ops ord listed = true → S w → wpCanon P ops Q S ord a w → wpAnyH P .any ops Q S fuel listed a w := by
  intro ord
  induction ord with
  | nil =>
    intro fuel listed a w _ hc _ h
    exact wpAnyH_done (by simpa [canonB] using hc) h fuel
  | cons x rest ih =>
    intro fuel listed a w hf hc hS h
    obtain ⟨i, b⟩ := x
    match fuel, hf with
    | fuel + 1, hf =>
      cases b with
      | true =>
        simp only [canonB, Bool.and_eq_true] at hc
        obtain ⟨o, v, ho, hy, hr⟩ := h
        exact wpAnyH_take ho hs hc.1.1 hc.1.2 (fun c a w hq => absurd hq (hQ _ _ _)) hy hS (ih fuel _ _ _ (by simpa using hf) hc.2 hS hr)
      | false =>
        simp only [canonB, Bool.and_eq_true, beq_iff_eq] at hc
        refine wpAnyH_all hc.1 (by simp) fun j hj => ?_
        obtain rfl := List.mem_singleton.1 hj
        exact wpOp_mono (fun a' w' hh => ⟨hh.1, ih fuel _ _ _ (by simpa using hf) hc.2 hh.1 hh.2⟩) h

theorem wp_region_canon {id : Nat} {a : Act} {w : World} (S : World → Prop) (ord : List (Nat × Bool)) (hm : P.follows .mixedOrders = true) (hs : Region.noSelect ops = true)
    (hl : ord.length ≤ ops.size) (hc : canonB ops ord (Array.replicate ops.size false) = true) (hS : S w.drew) (h : wpCanon P ops (NoPanic Q) S ord a w.drew) :
    (Code.region id ops true).wp P Q a w :=
  wp_region_noPanic (wp_region_held hm (canon_sound hs (fun _ _ _ h => h) ord _ _ _ _ hl hc hS h))

theorem canon_intro {ord : List (Nat × Bool)} {a : Act} {w : World} (h : ∀ ops', ops' = ops → wpCanon P ops' Q S ord a w) : wpCanon P ops Q S ord a w := h ops rfl
theorem canon_at {l : List Oper} (e : ops = l.toArray) (i : Nat) {o : Oper} (h : l[i]? = some o) : ops[i]? = some o := by rw [e]; simpa using h
theorem canon_done {a : Act} {w : World} (h : Q .normal a w) : wpCanon P ops Q S [] a w := h
theorem canon_st {i : Nat} {rest : List (Nat × Bool)} {o : Oper} {v : Value} {a : Act} {w : World} (ho : ops[i]? = some o) (hg : o.guard = none)
    (hv : ∀ w', S w' → (execOp a.eval o).run P w' = .ok (.value v) w') (h : wpCanon P ops Q S rest (a.put o.dst v) w) : wpCanon P ops Q S ((i, true) :: rest) a w :=
  ⟨o, v, ho, .inl ⟨by simp [Region.wanted, hg], hv⟩, h⟩
theorem canon_ef {i : Nat} {rest : List (Nat × Bool)} {o : Oper} {a : Act} {w : World} (ho : ops[i]? = some o) (hg : o.guard = none)
    (h : ∀ K : Act → World → Prop, (∀ a' w', S w' ∧ wpCanon P ops Q S rest a' w' → K a' w') → o.wp P a w K Q) : wpCanon P ops Q S ((i, false) :: rest) a w := by
  show wpOp P ops Q i _ a w
  unfold wpOp
  rw [ho]
  simp only [Region.wanted, hg, if_true]
  exact .inl (h _ fun _ _ hh => hh)
theorem canon_inv {i : Nat} {rest : List (Nat × Bool)} {a : Act} {w : World} {dst : Option Tmp} {r : Operand} {name : String} {args : Array Operand} {ats : Array TypeId} {ty : TypeId} {pos : String} {after : Array Edge}
    (ho : ops[i]? = some ⟨dst, .call { callee := .invoke r name, args, argTypes := ats }, ty, pos, after, none⟩) (nm : String) (hnm : name = nm) (t : TypeId) (f : FuncId) {fn : Func} (hf : P.funcs[f]? = some fn)
    (h : ∃ v, a.eval r = .iface t v ∧ fn.body.isNone = false ∧ (fn.name == "runtime.NumGoroutine") = false ∧ (method (P.types.size + Made.depth) t v name).run P w = .ok (f, v) w ∧
      Calls P f (#[v] ++ args.map a.eval) w fun
        | .returned v, w'' => S w'' ∧ wpCanon P ops Q S rest (a.put dst v) w''
        | .panicked chain, w'' => Q (.panic chain) a w''
        | .outgrown, _ => LetsOut Q) : wpCanon P ops Q S ((i, false) :: rest) a w := by
  obtain ⟨v, hr, hb, hn, hm, hc⟩ := h
  exact canon_ef ho rfl fun K hK => oper_invoke t v f hf hb hn hr hm (hc.mono fun e w'' he => by
    cases e with
    | returned v => exact hK _ _ he
    | panicked c => exact he
    | outgrown => exact he)
theorem wanted_of {o oj : Oper} {j d : Nat} {want b : Bool} {a : Act} (hg : o.guard = some (j, want)) (hj : ops[j]? = some oj) (hd : oj.dst = some d) (hb : a.tmps[d]? = some (.bool b)) : Region.wanted o (yielded ops a.tmps) = (b == want) := by
  unfold Region.wanted
  simp only [hg, yielded, hj, hd, Option.bind_some, hb]
  cases b <;> cases want <;> rfl
theorem canon_stw {i j d : Nat} {want : Bool} {rest : List (Nat × Bool)} {o oj : Oper} {v : Value} {a : Act} {w : World} (ho : ops[i]? = some o) (hg : o.guard = some (j, want)) (hj : ops[j]? = some oj) (hd : oj.dst = some d) (hb : a.tmps[d]? = some (.bool want))
    (hv : ∀ w', S w' → (execOp a.eval o).run P w' = .ok (.value v) w') (h : wpCanon P ops Q S rest (a.put o.dst v) w) : wpCanon P ops Q S ((i, true) :: rest) a w :=
  ⟨o, v, ho, .inl ⟨by rw [wanted_of hg hj hd hb]; simp, hv⟩, h⟩
theorem canon_stu {i j d : Nat} {want : Bool} {rest : List (Nat × Bool)} {o oj : Oper} {a : Act} {w : World} (ho : ops[i]? = some o) (hg : o.guard = some (j, want)) (hj : ops[j]? = some oj) (hd : oj.dst = some d) (hb : a.tmps[d]? = some (.bool !want))
    (h : wpCanon P ops Q S rest (a.put o.dst undef) w) : wpCanon P ops Q S ((i, true) :: rest) a w :=
  ⟨o, undef, ho, .inr ⟨by rw [wanted_of hg hj hd hb]; cases want <;> rfl, rfl⟩, h⟩
theorem unwanted_of {o oj : Oper} {j d : Nat} {want : Bool} {a : Act} (hg : o.guard = some (j, want)) (hj : ops[j]? = some oj) (hd : oj.dst = some d) (hb : a.tmps[d]? = some undef) : Region.wanted o (yielded ops a.tmps) = false := by
  unfold Region.wanted
  simp only [hg, yielded, hj, hd, Option.bind_some, hb]
  cases want <;> rfl
theorem canon_stx {i j d : Nat} {want : Bool} {rest : List (Nat × Bool)} {o oj : Oper} {a : Act} {w : World} (ho : ops[i]? = some o) (hg : o.guard = some (j, want)) (hj : ops[j]? = some oj) (hd : oj.dst = some d) (hb : a.tmps[d]? = some undef)
    (h : wpCanon P ops Q S rest (a.put o.dst undef) w) : wpCanon P ops Q S ((i, true) :: rest) a w :=
  ⟨o, undef, ho, .inr ⟨unwanted_of hg hj hd hb, rfl⟩, h⟩
theorem canon_efx {i j d : Nat} {want : Bool} {rest : List (Nat × Bool)} {o oj : Oper} {a : Act} {w : World} (ho : ops[i]? = some o) (hg : o.guard = some (j, want)) (hj : ops[j]? = some oj) (hd : oj.dst = some d) (hb : a.tmps[d]? = some undef)
    (hS : S w) (h : wpCanon P ops Q S rest (a.put o.dst undef) w) : wpCanon P ops Q S ((i, false) :: rest) a w := by
  show wpOp P ops Q i _ a w
  unfold wpOp
  rw [ho]
  simp only [unwanted_of hg hj hd hb]
  exact ⟨hS, h⟩
theorem canon_efw {i j d : Nat} {want : Bool} {rest : List (Nat × Bool)} {o oj : Oper} {a : Act} {w : World} (ho : ops[i]? = some o) (hg : o.guard = some (j, want)) (hj : ops[j]? = some oj) (hd : oj.dst = some d) (hb : a.tmps[d]? = some (.bool want))
    (h : ∀ K : Act → World → Prop, (∀ a' w', S w' ∧ wpCanon P ops Q S rest a' w' → K a' w') → o.wp P a w K Q) : wpCanon P ops Q S ((i, false) :: rest) a w := by
  show wpOp P ops Q i _ a w
  unfold wpOp
  rw [ho]
  simp only [wanted_of hg hj hd hb, beq_self_eq_true, if_true]
  exact .inl (h _ fun _ _ hh => hh)
theorem canon_efu {i j d : Nat} {want : Bool} {rest : List (Nat × Bool)} {o oj : Oper} {a : Act} {w : World} (ho : ops[i]? = some o) (hg : o.guard = some (j, want)) (hj : ops[j]? = some oj) (hd : oj.dst = some d) (hb : a.tmps[d]? = some (.bool !want))
    (hS : S w) (h : wpCanon P ops Q S rest (a.put o.dst undef) w) : wpCanon P ops Q S ((i, false) :: rest) a w := by
  show wpOp P ops Q i _ a w
  unfold wpOp
  rw [ho]
  simp only [wanted_of hg hj hd hb]
  cases want <;> exact ⟨hS, h⟩
end

/-- For making the orders: an operation that changes the world. -/
def effB (o : Oper) : Bool := match o.op with
  | .call { callee := .builtin .len, .. } => false
  | .call { callee := .builtin .cap, .. } => false
  | .call { callee := .builtin .min, .. } => false
  | .call { callee := .builtin .max, .. } => false
  | .call _ => true
  | .alloc _ => true
  | .box .. => true
  | .buildSlice .. => true
  | .makeSlice .. => true
  | .makeMap .. => true
  | .store .. => true
  | .mapUpdate .. => true
  | .insert .. => true
  | .slice .. => false
  | .convert .. => false
  | .range .. => true
  | .next .. => true
  | _ => false
def mkCanon (ops : Array Oper) : Nat → Array Bool → List (Nat × Bool)
  | 0, _ => []
  | f + 1, listed =>
    let r := Region.ready .any ops listed
    match r.find? (fun i => !(ops[i]?.map effB).getD true) with
    | some i => (i, true) :: mkCanon ops f (listed.setIfInBounds i true)
    | none => match r with
      | [i] => (i, false) :: mkCanon ops f (listed.setIfInBounds i true)
      | _ => []
def drawn : Code → List (Nat × Array Oper)
  | .region k ops true => [(k, ops)]
  | .seq a b => drawn a ++ drawn b
  | .cond _ a b => drawn a ++ drawn b
  | .block _ c => drawn c
  | .loop c => drawn c
  | .scope c => drawn c
  | _ => []
def canons (f : Func) : List (Nat × Nat × List (Nat × Bool)) := ((f.body.map drawn).getD []).map fun (k, ops) => (k, ops.size, mkCanon ops ops.size (Array.replicate ops.size false))

end Go.Proofs.Ythjklchmjeojjaa
