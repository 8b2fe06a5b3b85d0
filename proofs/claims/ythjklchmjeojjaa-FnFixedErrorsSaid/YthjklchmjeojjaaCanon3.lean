
/- A statement that draws its order, walked as a tree: where two or three operations that change the world may come first, all orders. Loads from addresses that are made in the same statement count as such. -/
import Derived.Test.YthjklchmjeojjaaCanon
namespace Go.Proofs.Ythjklchmjeojjaa
set_option linter.unusedVariables false
set_option linter.unusedSimpArgs false
open Go.RowKit

inductive C3 where
  | done
  | st (i : Nat) (t : C3)
  | one (i : Nat) (t : C3)
  | two (i : Nat) (s : C3) (j : Nat) (t : C3)
  | three (i : Nat) (s : C3) (j : Nat) (t : C3) (k : Nat) (u : C3)
def C3.depth : C3 → Nat
  | .done => 0
  | .st _ t => t.depth + 1
  | .one _ t => t.depth + 1
  | .two _ s _ t => max s.depth t.depth + 1
  | .three _ s _ t _ u => max s.depth (max t.depth u.depth) + 1

section
variable {P : Program} {ops : Array Oper} {Q : Exit → Act → World → Prop} {S : World → Prop}

def c3B (ops : Array Oper) : C3 → Array Bool → Bool
  | .done, listed => (Region.ready .any ops listed).isEmpty
  | .st i t, listed => Region.free .any ops listed i && (Region.ready .any ops listed).contains i && c3B ops t (listed.setIfInBounds i true)
  | .one i t, listed => (Region.ready .any ops listed == [i]) && c3B ops t (listed.setIfInBounds i true)
  | .two i s j t, listed => (Region.ready .any ops listed == [i, j]) && c3B ops s (listed.setIfInBounds i true) && c3B ops t (listed.setIfInBounds j true)
  | .three i s j t k u, listed => (Region.ready .any ops listed == [i, j, k]) && c3B ops s (listed.setIfInBounds i true) && c3B ops t (listed.setIfInBounds j true) && c3B ops u (listed.setIfInBounds k true)
def wpC3 (P : Program) (ops : Array Oper) (Q : Exit → Act → World → Prop) (S : World → Prop) : C3 → Act → World → Prop
  | .done, a, w => Q .normal a w
  | .st i t, a, w => ∃ o v, ops[i]? = some o ∧ YieldsIf P ops S o v a ∧ wpC3 P ops Q S t (a.put o.dst v) w
  | .one i t, a, w => wpOp P ops Q i (fun a' w' => S w' ∧ wpC3 P ops Q S t a' w') a w
  | .two i s j t, a, w => wpOp P ops Q i (fun a' w' => S w' ∧ wpC3 P ops Q S s a' w') a w ∧ wpOp P ops Q j (fun a' w' => S w' ∧ wpC3 P ops Q S t a' w') a w
  | .three i s j t k u, a, w => wpOp P ops Q i (fun a' w' => S w' ∧ wpC3 P ops Q S s a' w') a w ∧ wpOp P ops Q j (fun a' w' => S w' ∧ wpC3 P ops Q S t a' w') a w ∧ wpOp P ops Q k (fun a' w' => S w' ∧ wpC3 P ops Q S u a' w') a w

theorem c3_sound (hs : Region.noSelect ops = true) (hQ : ∀ c a w, ¬ Q (.panic c) a w) : ∀ (ord : C3) (fuel : Nat) (listed : Array Bool) (a : Act) (w : World),
    ord.depth ≤ fuel → c3B ops ord listed = true → S w → wpC3 P ops Q S ord a w → wpAnyH P .any ops Q S fuel listed a w := by
  intro ord
  induction ord with
  | done =>
    intro fuel listed a w _ hc _ h
    exact wpAnyH_done (by simpa [c3B] using hc) h fuel
  | st i t ih =>
    intro fuel listed a w hf hc hS h
    simp only [C3.depth] at hf
    match fuel, hf with
    | fuel + 1, hf =>
      simp only [c3B, Bool.and_eq_true] at hc
      obtain ⟨o, v, ho, hy, hr⟩ := h
      exact wpAnyH_take ho hs hc.1.1 hc.1.2 (fun c a w hq => absurd hq (hQ _ _ _)) hy hS (ih fuel _ _ _ (by omega) hc.2 hS hr)
  | one i t ih =>
    intro fuel listed a w hf hc hS h
    simp only [C3.depth] at hf
    match fuel, hf with
    | fuel + 1, hf =>
      simp only [c3B, Bool.and_eq_true, beq_iff_eq] at hc
      refine wpAnyH_all hc.1 (by simp) fun j hj => ?_
      obtain rfl := List.mem_singleton.1 hj
      exact wpOp_mono (fun a' w' hh => ⟨hh.1, ih fuel _ _ _ (by omega) hc.2 hh.1 hh.2⟩) h
  | two i s j t ih1 ih2 =>
    intro fuel listed a w hf hc hS h
    simp only [C3.depth] at hf
    match fuel, hf with
    | fuel + 1, hf =>
      simp only [c3B, Bool.and_eq_true, beq_iff_eq] at hc
      refine wpAnyH_all hc.1.1 (by simp) fun k hk => ?_
      simp only [List.mem_cons, List.not_mem_nil, or_false] at hk
      rcases hk with rfl | rfl
      · exact wpOp_mono (fun a' w' hh => ⟨hh.1, ih1 fuel _ _ _ (by omega) hc.1.2 hh.1 hh.2⟩) h.1
      · exact wpOp_mono (fun a' w' hh => ⟨hh.1, ih2 fuel _ _ _ (by omega) hc.2 hh.1 hh.2⟩) h.2
  | three i s j t l u ih1 ih2 ih3 =>
    intro fuel listed a w hf hc hS h
    simp only [C3.depth] at hf
    match fuel, hf with
    | fuel + 1, hf =>
      simp only [c3B, Bool.and_eq_true, beq_iff_eq] at hc
      refine wpAnyH_all hc.1.1.1 (by simp) fun k hk => ?_
      simp only [List.mem_cons, List.not_mem_nil, or_false] at hk
      rcases hk with rfl | rfl | rfl
      · exact wpOp_mono (fun a' w' hh => ⟨hh.1, ih1 fuel _ _ _ (by omega) hc.1.1.2 hh.1 hh.2⟩) h.1
      · exact wpOp_mono (fun a' w' hh => ⟨hh.1, ih2 fuel _ _ _ (by omega) hc.1.2 hh.1 hh.2⟩) h.2.1
      · exact wpOp_mono (fun a' w' hh => ⟨hh.1, ih3 fuel _ _ _ (by omega) hc.2 hh.1 hh.2⟩) h.2.2

theorem wp_region_c3 {id : Nat} {a : Act} {w : World} (S : World → Prop) (ord : C3) (hm : P.follows .mixedOrders = true) (hs : Region.noSelect ops = true)
    (hl : ord.depth ≤ ops.size) (hc : c3B ops ord (Array.replicate ops.size false) = true) (hS : S w.drew) (h : wpC3 P ops (NoPanic Q) S ord a w.drew) :
    (Code.region id ops true).wp P Q a w :=
  wp_region_noPanic (wp_region_held hm (c3_sound hs (fun _ _ _ h => h) ord _ _ _ _ hl hc hS h))

theorem c3_intro {ord : C3} {a : Act} {w : World} (h : ∀ ops', ops' = ops → wpC3 P ops' Q S ord a w) : wpC3 P ops Q S ord a w := h ops rfl
theorem c3_done {a : Act} {w : World} (h : Q .normal a w) : wpC3 P ops Q S .done a w := h
theorem c3_st {i : Nat} {rest : C3} {o : Oper} {v : Value} {a : Act} {w : World} (ho : ops[i]? = some o) (hg : o.guard = none)
    (hv : ∀ w', S w' → (execOp a.eval o).run P w' = .ok (.value v) w') (h : wpC3 P ops Q S rest (a.put o.dst v) w) : wpC3 P ops Q S (.st i rest) a w :=
  ⟨o, v, ho, .inl ⟨by simp [Region.wanted, hg], hv⟩, h⟩
theorem c3_op {i : Nat} {rest : C3} {o : Oper} {a : Act} {w : World} (ho : ops[i]? = some o) (hg : o.guard = none)
    (h : ∀ K : Act → World → Prop, (∀ a' w', S w' ∧ wpC3 P ops Q S rest a' w' → K a' w') → o.wp P a w K Q) : wpOp P ops Q i (fun a' w' => S w' ∧ wpC3 P ops Q S rest a' w') a w := by
  unfold wpOp
  rw [ho]
  simp only [Region.wanted, hg, if_true]
  exact .inl (h _ fun _ _ hh => hh)
theorem c3_one {i : Nat} {rest : C3} {a : Act} {w : World} (h : wpOp P ops Q i (fun a' w' => S w' ∧ wpC3 P ops Q S rest a' w') a w) : wpC3 P ops Q S (.one i rest) a w := h
theorem c3_two {i j : Nat} {s t : C3} {a : Act} {w : World} (h1 : wpOp P ops Q i (fun a' w' => S w' ∧ wpC3 P ops Q S s a' w') a w) (h2 : wpOp P ops Q j (fun a' w' => S w' ∧ wpC3 P ops Q S t a' w') a w) : wpC3 P ops Q S (.two i s j t) a w := ⟨h1, h2⟩
theorem c3_three {i j k : Nat} {s t u : C3} {a : Act} {w : World} (h1 : wpOp P ops Q i (fun a' w' => S w' ∧ wpC3 P ops Q S s a' w') a w) (h2 : wpOp P ops Q j (fun a' w' => S w' ∧ wpC3 P ops Q S t a' w') a w) (h3 : wpOp P ops Q k (fun a' w' => S w' ∧ wpC3 P ops Q S u a' w') a w) : wpC3 P ops Q S (.three i s j t k u) a w := ⟨h1, h2, h3⟩
theorem c3_stw {i j d : Nat} {want : Bool} {rest : C3} {o oj : Oper} {v : Value} {a : Act} {w : World} (ho : ops[i]? = some o) (hg : o.guard = some (j, want)) (hj : ops[j]? = some oj) (hd : oj.dst = some d) (hb : a.tmps[d]? = some (.bool want))
    (hv : ∀ w', S w' → (execOp a.eval o).run P w' = .ok (.value v) w') (h : wpC3 P ops Q S rest (a.put o.dst v) w) : wpC3 P ops Q S (.st i rest) a w :=
  ⟨o, v, ho, .inl ⟨by rw [wanted_of hg hj hd hb]; simp, hv⟩, h⟩
theorem c3_stu {i j d : Nat} {want : Bool} {rest : C3} {o oj : Oper} {a : Act} {w : World} (ho : ops[i]? = some o) (hg : o.guard = some (j, want)) (hj : ops[j]? = some oj) (hd : oj.dst = some d) (hb : a.tmps[d]? = some (.bool !want))
    (h : wpC3 P ops Q S rest (a.put o.dst undef) w) : wpC3 P ops Q S (.st i rest) a w :=
  ⟨o, undef, ho, .inr ⟨by rw [wanted_of hg hj hd hb]; cases want <;> rfl, rfl⟩, h⟩
theorem c3_opw {i j d : Nat} {want : Bool} {rest : C3} {o oj : Oper} {a : Act} {w : World} (ho : ops[i]? = some o) (hg : o.guard = some (j, want)) (hj : ops[j]? = some oj) (hd : oj.dst = some d) (hb : a.tmps[d]? = some (.bool want))
    (h : ∀ K : Act → World → Prop, (∀ a' w', S w' ∧ wpC3 P ops Q S rest a' w' → K a' w') → o.wp P a w K Q) : wpOp P ops Q i (fun a' w' => S w' ∧ wpC3 P ops Q S rest a' w') a w := by
  unfold wpOp
  rw [ho]
  simp only [wanted_of hg hj hd hb, beq_self_eq_true, if_true]
  exact .inl (h _ fun _ _ hh => hh)
theorem c3_opu {i j d : Nat} {want : Bool} {rest : C3} {o oj : Oper} {a : Act} {w : World} (ho : ops[i]? = some o) (hg : o.guard = some (j, want)) (hj : ops[j]? = some oj) (hd : oj.dst = some d) (hb : a.tmps[d]? = some (.bool !want))
    (hS : S w) (h : wpC3 P ops Q S rest (a.put o.dst undef) w) : wpOp P ops Q i (fun a' w' => S w' ∧ wpC3 P ops Q S rest a' w') a w := by
  unfold wpOp
  rw [ho]
  simp only [wanted_of hg hj hd hb]
  cases want <;> exact ⟨hS, h⟩
end

/-- For making the trees: a temporary is made in the statement. -/
def madeIn (ops : Array Oper) (t : Nat) : Bool := ops.toList.any fun o => o.dst == some t
def effM (ops : Array Oper) (o : Oper) : Bool := effB o || match o.op with
  | .load _ (.tmp t) => madeIn ops t
  | _ => false
def mkC3 (ops : Array Oper) : Nat → Array Bool → List Nat
  | 0, _ => [6]
  | f + 1, listed =>
    let r := Region.ready .any ops listed
    match r.find? (fun i => !(ops[i]?.map (effM ops)).getD true) with
    | some i => (8 * i + 10) :: mkC3 ops f (listed.setIfInBounds i true)
    | none => match r with
      | [] => [5]
      | [i] => (8 * i + 11) :: mkC3 ops f (listed.setIfInBounds i true)
      | [i, j] => ((8 * i + 12) :: mkC3 ops f (listed.setIfInBounds i true)) ++ ((8 * j + 13) :: mkC3 ops f (listed.setIfInBounds j true))
      | [i, j, k] => ((8 * i + 14) :: mkC3 ops f (listed.setIfInBounds i true)) ++ ((8 * j + 15) :: mkC3 ops f (listed.setIfInBounds j true)) ++ ((8 * k + 16) :: mkC3 ops f (listed.setIfInBounds k true))
      | _ => [6]
def ctsm (f : Func) : List (Nat × Nat × List Nat) := ((f.body.map drawn).getD []).map fun (k, ops) => (k, ops.size, mkC3 ops (ops.size + 1) (Array.replicate ops.size false))

end Go.Proofs.Ythjklchmjeojjaa
