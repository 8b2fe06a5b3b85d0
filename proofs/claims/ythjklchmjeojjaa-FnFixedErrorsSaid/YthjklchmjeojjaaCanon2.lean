
/- A statement that draws its order, walked as a tree: where two operations that change the world may come first, both orders. -/
import Derived.Test.YthjklchmjeojjaaCanon
namespace Go.Proofs.Ythjklchmjeojjaa
set_option linter.unusedVariables false
set_option linter.unusedSimpArgs false
open Go.RowKit

inductive CT where
  | done
  | st (i : Nat) (t : CT)
  | one (i : Nat) (t : CT)
  | two (i : Nat) (s : CT) (j : Nat) (t : CT)
def CT.depth : CT → Nat
  | .done => 0
  | .st _ t => t.depth + 1
  | .one _ t => t.depth + 1
  | .two _ s _ t => max s.depth t.depth + 1

section
variable {P : Program} {ops : Array Oper} {Q : Exit → Act → World → Prop} {S : World → Prop}

def ctB (ops : Array Oper) : CT → Array Bool → Bool
  | .done, listed => (Region.ready .any ops listed).isEmpty
  | .st i t, listed => Region.free .any ops listed i && (Region.ready .any ops listed).contains i && ctB ops t (listed.setIfInBounds i true)
  | .one i t, listed => (Region.ready .any ops listed == [i]) && ctB ops t (listed.setIfInBounds i true)
  | .two i s j t, listed => (Region.ready .any ops listed == [i, j]) && ctB ops s (listed.setIfInBounds i true) && ctB ops t (listed.setIfInBounds j true)
def wpCT (P : Program) (ops : Array Oper) (Q : Exit → Act → World → Prop) (S : World → Prop) : CT → Act → World → Prop
  | .done, a, w => Q .normal a w
  | .st i t, a, w => ∃ o v, ops[i]? = some o ∧ YieldsIf P ops S o v a ∧ wpCT P ops Q S t (a.put o.dst v) w
  | .one i t, a, w => wpOp P ops Q i (fun a' w' => S w' ∧ wpCT P ops Q S t a' w') a w
  | .two i s j t, a, w => wpOp P ops Q i (fun a' w' => S w' ∧ wpCT P ops Q S s a' w') a w ∧ wpOp P ops Q j (fun a' w' => S w' ∧ wpCT P ops Q S t a' w') a w

theorem ct_sound (hs : Region.noSelect ops = true) (hQ : ∀ c a w, ¬ Q (.panic c) a w) : ∀ (ord : CT) (fuel : Nat) (listed : Array Bool) (a : Act) (w : World),
    ord.depth ≤ fuel → ctB ops ord listed = true → S w → wpCT P ops Q S ord a w → wpAnyH P .any ops Q S fuel listed a w := by
  intro ord
  induction ord with
  | done =>
    intro fuel listed a w _ hc _ h
    exact wpAnyH_done (by simpa [ctB] using hc) h fuel
  | st i t ih =>
    intro fuel listed a w hf hc hS h
    simp only [CT.depth] at hf
    match fuel, hf with
    | fuel + 1, hf =>
      simp only [ctB, Bool.and_eq_true] at hc
      obtain ⟨o, v, ho, hy, hr⟩ := h
      exact wpAnyH_take ho hs hc.1.1 hc.1.2 (fun c a w hq => absurd hq (hQ _ _ _)) hy hS (ih fuel _ _ _ (by omega) hc.2 hS hr)
  | one i t ih =>
    intro fuel listed a w hf hc hS h
    simp only [CT.depth] at hf
    match fuel, hf with
    | fuel + 1, hf =>
      simp only [ctB, Bool.and_eq_true, beq_iff_eq] at hc
      refine wpAnyH_all hc.1 (by simp) fun j hj => ?_
      obtain rfl := List.mem_singleton.1 hj
      exact wpOp_mono (fun a' w' hh => ⟨hh.1, ih fuel _ _ _ (by omega) hc.2 hh.1 hh.2⟩) h
  | two i s j t ih1 ih2 =>
    intro fuel listed a w hf hc hS h
    simp only [CT.depth] at hf
    match fuel, hf with
    | fuel + 1, hf =>
      simp only [ctB, Bool.and_eq_true, beq_iff_eq] at hc
      refine wpAnyH_all hc.1.1 (by simp) fun k hk => ?_
      simp only [List.mem_cons, List.not_mem_nil, or_false] at hk
      rcases hk with rfl | rfl
      · exact wpOp_mono (fun a' w' hh => ⟨hh.1, ih1 fuel _ _ _ (by omega) hc.1.2 hh.1 hh.2⟩) h.1
      · exact wpOp_mono (fun a' w' hh => ⟨hh.1, ih2 fuel _ _ _ (by omega) hc.2 hh.1 hh.2⟩) h.2

theorem wp_region_ct {id : Nat} {a : Act} {w : World} (S : World → Prop) (ord : CT) (hm : P.follows .mixedOrders = true) (hs : Region.noSelect ops = true)
    (hl : ord.depth ≤ ops.size) (hc : ctB ops ord (Array.replicate ops.size false) = true) (hS : S w.drew) (h : wpCT P ops (NoPanic Q) S ord a w.drew) :
    (Code.region id ops true).wp P Q a w :=
  wp_region_noPanic (wp_region_held hm (ct_sound hs (fun _ _ _ h => h) ord _ _ _ _ hl hc hS h))

theorem ct_intro {ord : CT} {a : Act} {w : World} (h : ∀ ops', ops' = ops → wpCT P ops' Q S ord a w) : wpCT P ops Q S ord a w := h ops rfl
theorem ct_done {a : Act} {w : World} (h : Q .normal a w) : wpCT P ops Q S .done a w := h
theorem ct_st {i : Nat} {rest : CT} {o : Oper} {v : Value} {a : Act} {w : World} (ho : ops[i]? = some o) (hg : o.guard = none)
    (hv : ∀ w', S w' → (execOp a.eval o).run P w' = .ok (.value v) w') (h : wpCT P ops Q S rest (a.put o.dst v) w) : wpCT P ops Q S (.st i rest) a w :=
  ⟨o, v, ho, .inl ⟨by simp [Region.wanted, hg], hv⟩, h⟩
theorem ct_op {i : Nat} {rest : CT} {o : Oper} {a : Act} {w : World} (ho : ops[i]? = some o) (hg : o.guard = none)
    (h : ∀ K : Act → World → Prop, (∀ a' w', S w' ∧ wpCT P ops Q S rest a' w' → K a' w') → o.wp P a w K Q) : wpOp P ops Q i (fun a' w' => S w' ∧ wpCT P ops Q S rest a' w') a w := by
  unfold wpOp
  rw [ho]
  simp only [Region.wanted, hg, if_true]
  exact .inl (h _ fun _ _ hh => hh)
theorem ct_one {i : Nat} {rest : CT} {a : Act} {w : World} (h : wpOp P ops Q i (fun a' w' => S w' ∧ wpCT P ops Q S rest a' w') a w) : wpCT P ops Q S (.one i rest) a w := h
theorem ct_two {i j : Nat} {s t : CT} {a : Act} {w : World} (h1 : wpOp P ops Q i (fun a' w' => S w' ∧ wpCT P ops Q S s a' w') a w) (h2 : wpOp P ops Q j (fun a' w' => S w' ∧ wpCT P ops Q S t a' w') a w) : wpCT P ops Q S (.two i s j t) a w := ⟨h1, h2⟩
theorem ct_inv {i : Nat} {rest : CT} {a : Act} {w : World} {dst : Option Tmp} {r : Operand} {name : String} {args : Array Operand} {ats : Array TypeId} {ty : TypeId} {pos : String} {after : Array Edge}
    (ho : ops[i]? = some ⟨dst, .call { callee := .invoke r name, args, argTypes := ats }, ty, pos, after, none⟩) (nm : String) (hnm : name = nm) (t : TypeId) (f : FuncId) {fn : Func} (hf : P.funcs[f]? = some fn)
    (h : ∃ v, a.eval r = .iface t v ∧ fn.body.isNone = false ∧ (fn.name == "runtime.NumGoroutine") = false ∧ (method (P.types.size + Made.depth) t v name).run P w = .ok (f, v) w ∧
      Calls P f (#[v] ++ args.map a.eval) w fun
        | .returned v, w'' => S w'' ∧ wpCT P ops Q S rest (a.put dst v) w''
        | .panicked chain, w'' => Q (.panic chain) a w''
        | .outgrown, _ => LetsOut Q) : wpOp P ops Q i (fun a' w' => S w' ∧ wpCT P ops Q S rest a' w') a w := by
  obtain ⟨v, hr, hb, hn, hm, hc⟩ := h
  exact ct_op ho rfl fun K hK => oper_invoke t v f hf hb hn hr hm (hc.mono fun e w'' he => by
    cases e with
    | returned v => exact hK _ _ he
    | panicked c => exact he
    | outgrown => exact he)
end

/-- For making the trees: preorder. -/
def mkCT (ops : Array Oper) : Nat → Array Bool → List Nat
  | 0, _ => [6]
  | f + 1, listed =>
    let r := Region.ready .any ops listed
    match r.find? (fun i => !(ops[i]?.map effB).getD true) with
    | some i => (4 * i + 10) :: mkCT ops f (listed.setIfInBounds i true)
    | none => match r with
      | [] => [5]
      | [i] => (4 * i + 11) :: mkCT ops f (listed.setIfInBounds i true)
      | [i, j] => ((4 * i + 12) :: mkCT ops f (listed.setIfInBounds i true)) ++ ((4 * j + 13) :: mkCT ops f (listed.setIfInBounds j true))
      | _ => [6]
/-- The same, where a load counts as an operation that changes the world. -/
def effL (o : Oper) : Bool := effB o || match o.op with
  | .load .. => true
  | _ => false
def mkCTL (ops : Array Oper) : Nat → Array Bool → List Nat
  | 0, _ => [6]
  | f + 1, listed =>
    let r := Region.ready .any ops listed
    match r.find? (fun i => !(ops[i]?.map effL).getD true) with
    | some i => (4 * i + 10) :: mkCTL ops f (listed.setIfInBounds i true)
    | none => match r with
      | [] => [5]
      | [i] => (4 * i + 11) :: mkCTL ops f (listed.setIfInBounds i true)
      | [i, j] => ((4 * i + 12) :: mkCTL ops f (listed.setIfInBounds i true)) ++ ((4 * j + 13) :: mkCTL ops f (listed.setIfInBounds j true))
      | _ => [6]
def ctsl (f : Func) : List (Nat × Nat × List Nat) := ((f.body.map drawn).getD []).map fun (k, ops) => (k, ops.size, mkCTL ops (ops.size + 1) (Array.replicate ops.size false))
def cts (f : Func) : List (Nat × Nat × List Nat) := ((f.body.map drawn).getD []).map fun (k, ops) => (k, ops.size, mkCT ops (ops.size + 1) (Array.replicate ops.size false))

end Go.Proofs.Ythjklchmjeojjaa
