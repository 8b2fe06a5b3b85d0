/- A statement that draws its order: one order is enough, where every operation but those that change the world gives the same in every world that such a change may bring. -/
import Derived.Test.YtdnkljpnhmcnpaaGreatLBoundedDamageK00
set_option linter.unusedVariables false
set_option linter.unusedSimpArgs false
namespace Go.Proofs.YtdnkljpnhmcnpaaGreat
open Go.RowKit

theorem ptN : (∀ (a : Act) (d : Option Nat) (v : Value), a.put d v = match d with
  | some d => { a with tmps := a.tmps.setIfInBounds d v }
  | none => a) ∧ (∀ (l : List Value) (i : Nat) (v : Value), l.toArray.setIfInBounds i v = (l.set i v).toArray) ∧ (∀ (a v : Value) (l : List Value), (a :: l).set 0 v = v :: l) ∧ (∀ (a v : Value) (l : List Value) (i : Nat), (a :: l).set (i + 1) v = a :: l.set i v) :=
 ⟨fun _ _ _ => rfl, fun _ _ _ => List.setIfInBounds_toArray .., fun _ _ _ => rfl, fun _ _ _ _ => rfl⟩

section
variable {P : Program} {ops : Array Oper} {Q : Exit → Act → World → Prop} {S : World → Prop}

def canonB (ops : Array Oper) : List (Nat × Bool) → Array Bool → Bool
 | [], listed => (Region.ready .any ops listed).isEmpty
 | (i, true) :: rest, listed => Region.free .any ops listed i && (Region.ready .any ops listed).contains i && canonB ops rest (listed.setIfInBounds i true)
 | (i, false) :: rest, listed => (Region.ready .any ops listed == [i]) && canonB ops rest (listed.setIfInBounds i true)

def wpCanon (P : Program) (ops : Array Oper) (Q : Exit → Act → World → Prop) (S : World → Prop) : List (Nat × Bool) → Act → World → Prop
 | [], a, w => Q .normal a w
 | (i, true) :: rest, a, w => ∃ o v, ops[i]? = some o ∧ YieldsIf P ops S o v a ∧ wpCanon P ops Q S rest (a.put o.dst v) w
 | (i, false) :: rest, a, w => wpOp P ops Q i (fun a' w' => S w' ∧ wpCanon P ops Q S rest a' w') a w

theorem canon_sound (hs : Region.noSelect ops = true) (hQ : ∀ c a w, ¬ Q (.panic c) a w) : ∀ (ord : List (Nat × Bool)) (fuel : Nat) (listed : Array Bool) (a : Act) (w : World),
  ord.length ≤ fuel → canonB ops ord listed = true → S w → wpCanon P ops Q S ord a w → wpAnyH P .any ops Q S fuel listed a w := by
 intro ord
 induction ord with
 | nil =>
  intro fuel listed a w _ hc _ h
  exact wpAnyH_done (by simpa [canonB] using hc) h fuel
 | cons x rest ih =>
  intro fuel listed a w hf hc hS h
  obtain ⟨i, b⟩ := x
  match fuel, hf with
  | fuel + 1, hf =>
   cases b with
   | true =>
    simp only [canonB, Bool.and_eq_true] at hc
    obtain ⟨o, v, ho, hy, hr⟩ := h
    exact wpAnyH_take ho hs hc.1.1 hc.1.2 (fun c a w hq => absurd hq (hQ _ _ _)) hy hS (ih fuel _ _ _ (by simpa using hf) hc.2 hS hr)
   | false =>
    simp only [canonB, Bool.and_eq_true, beq_iff_eq] at hc
    refine wpAnyH_all hc.1 (by simp) fun j hj => ?_
    obtain rfl := List.mem_singleton.1 hj
    exact wpOp_mono (fun a' w' hh => ⟨hh.1, ih fuel _ _ _ (by simpa using hf) hc.2 hh.1 hh.2⟩) h

theorem wp_region_canon {id : Nat} {a : Act} {w : World} (S : World → Prop) (ord : List (Nat × Bool)) (hm : P.follows .mixedOrders = true) (hs : Region.noSelect ops = true)
  (hl : ord.length ≤ ops.size) (hc : canonB ops ord (Array.replicate ops.size false) = true) (hS : S w.drew) (h : wpCanon P ops (NoPanic Q) S ord a w.drew) :
  (Code.region id ops true).wp P Q a w :=
 wp_region_noPanic (wp_region_held hm (canon_sound hs (fun _ _ _ h => h) ord _ _ _ _ hl hc hS h))

theorem canon_intro {ord : List (Nat × Bool)} {a : Act} {w : World} (h : ∀ ops', ops' = ops → wpCanon P ops' Q S ord a w) : wpCanon P ops Q S ord a w := h ops rfl
theorem canon_at {l : List Oper} (e : ops = l.toArray) (i : Nat) {o : Oper} (h : l[i]? = some o) : ops[i]? = some o := by rw [e]; simpa using h
theorem canon_done {a : Act} {w : World} (h : Q .normal a w) : wpCanon P ops Q S [] a w := h
theorem canon_st {i : Nat} {rest : List (Nat × Bool)} {o : Oper} {v : Value} {a : Act} {w : World} (ho : ops[i]? = some o) (hg : o.guard = none)
  (hv : ∀ w', S w' → (execOp a.eval o).run P w' = .ok (.value v) w') (h : wpCanon P ops Q S rest (a.put o.dst v) w) : wpCanon P ops Q S ((i, true) :: rest) a w :=
 ⟨o, v, ho, .inl ⟨by simp [Region.wanted, hg], hv⟩, h⟩
theorem canon_ef {i : Nat} {rest : List (Nat × Bool)} {o : Oper} {a : Act} {w : World} (ho : ops[i]? = some o) (hg : o.guard = none)
  (h : ∀ K : Act → World → Prop, (∀ a' w', S w' ∧ wpCanon P ops Q S rest a' w' → K a' w') → o.wp P a w K Q) : wpCanon P ops Q S ((i, false) :: rest) a w := by
 show wpOp P ops Q i _ a w
 unfold wpOp
 rw [ho]
 simp only [Region.wanted, hg, if_true]
 exact .inl (h _ fun _ _ hh => hh)
theorem wanted_of {o oj : Oper} {j d : Nat} {want b : Bool} {a : Act} (hg : o.guard = some (j, want)) (hj : ops[j]? = some oj) (hd : oj.dst = some d) (hb : a.tmps[d]? = some (.bool b)) : Region.wanted o (yielded ops a.tmps) = (b == want) := by
 unfold Region.wanted
 simp only [hg, yielded, hj, hd, Option.bind_some, hb]
 cases b <;> cases want <;> rfl
theorem canon_stw {i j d : Nat} {want : Bool} {rest : List (Nat × Bool)} {o oj : Oper} {v : Value} {a : Act} {w : World} (ho : ops[i]? = some o) (hg : o.guard = some (j, want)) (hj : ops[j]? = some oj) (hd : oj.dst = some d) (hb : a.tmps[d]? = some (.bool want))
  (hv : ∀ w', S w' → (execOp a.eval o).run P w' = .ok (.value v) w') (h : wpCanon P ops Q S rest (a.put o.dst v) w) : wpCanon P ops Q S ((i, true) :: rest) a w :=
 ⟨o, v, ho, .inl ⟨by rw [wanted_of hg hj hd hb]; simp, hv⟩, h⟩
theorem canon_stu {i j d : Nat} {want : Bool} {rest : List (Nat × Bool)} {o oj : Oper} {a : Act} {w : World} (ho : ops[i]? = some o) (hg : o.guard = some (j, want)) (hj : ops[j]? = some oj) (hd : oj.dst = some d) (hb : a.tmps[d]? = some (.bool !want))
  (h : wpCanon P ops Q S rest (a.put o.dst undef) w) : wpCanon P ops Q S ((i, true) :: rest) a w :=
 ⟨o, undef, ho, .inr ⟨by rw [wanted_of hg hj hd hb]; cases want <;> rfl, rfl⟩, h⟩
theorem unwanted_of {o oj : Oper} {j d : Nat} {want : Bool} {a : Act} (hg : o.guard = some (j, want)) (hj : ops[j]? = some oj) (hd : oj.dst = some d) (hb : a.tmps[d]? = some undef) : Region.wanted o (yielded ops a.tmps) = false := by
 unfold Region.wanted
 simp only [hg, yielded, hj, hd, Option.bind_some, hb]
 cases want <;> rfl
theorem canon_stx {i j d : Nat} {want : Bool} {rest : List (Nat × Bool)} {o oj : Oper} {a : Act} {w : World} (ho : ops[i]? = some o) (hg : o.guard = some (j, want)) (hj : ops[j]? = some oj) (hd : oj.dst = some d) (hb : a.tmps[d]? = some undef)
  (h : wpCanon P ops Q S rest (a.put o.dst undef) w) : wpCanon P ops Q S ((i, true) :: rest) a w :=
 ⟨o, undef, ho, .inr ⟨unwanted_of hg hj hd hb, rfl⟩, h⟩
theorem canon_efx {i j d : Nat} {want : Bool} {rest : List (Nat × Bool)} {o oj : Oper} {a : Act} {w : World} (ho : ops[i]? = some o) (hg : o.guard = some (j, want)) (hj : ops[j]? = some oj) (hd : oj.dst = some d) (hb : a.tmps[d]? = some undef)
  (hS : S w) (h : wpCanon P ops Q S rest (a.put o.dst undef) w) : wpCanon P ops Q S ((i, false) :: rest) a w := by
 show wpOp P ops Q i _ a w
 unfold wpOp
 rw [ho]
 simp only [unwanted_of hg hj hd hb]
 exact ⟨hS, h⟩
theorem canon_efw {i j d : Nat} {want : Bool} {rest : List (Nat × Bool)} {o oj : Oper} {a : Act} {w : World} (ho : ops[i]? = some o) (hg : o.guard = some (j, want)) (hj : ops[j]? = some oj) (hd : oj.dst = some d) (hb : a.tmps[d]? = some (.bool want))
  (h : ∀ K : Act → World → Prop, (∀ a' w', S w' ∧ wpCanon P ops Q S rest a' w' → K a' w') → o.wp P a w K Q) : wpCanon P ops Q S ((i, false) :: rest) a w := by
 show wpOp P ops Q i _ a w
 unfold wpOp
 rw [ho]
 simp only [wanted_of hg hj hd hb, beq_self_eq_true, if_true]
 exact .inl (h _ fun _ _ hh => hh)
theorem canon_efu {i j d : Nat} {want : Bool} {rest : List (Nat × Bool)} {o oj : Oper} {a : Act} {w : World} (ho : ops[i]? = some o) (hg : o.guard = some (j, want)) (hj : ops[j]? = some oj) (hd : oj.dst = some d) (hb : a.tmps[d]? = some (.bool !want))
  (hS : S w) (h : wpCanon P ops Q S rest (a.put o.dst undef) w) : wpCanon P ops Q S ((i, false) :: rest) a w := by
 show wpOp P ops Q i _ a w
 unfold wpOp
 rw [ho]
 simp only [wanted_of hg hj hd hb]
 cases want <;> exact ⟨hS, h⟩
/-- Which operation stands where: one fact for all. -/
theorem canon_eo {l : List Oper} {ops : Array Oper} (e : ops = l.toArray) : RowKit.Hid (∀ (i : Nat) {o : Oper}, l[i]? = some o → ops[i]? = some o) := Lib.hid fun i _ h => canon_at e i h
theorem cS {l : List Oper} (eo : RowKit.Hid (∀ (i : Nat) {o : Oper}, l[i]? = some o → ops[i]? = some o)) {i : Nat} {rest : List (Nat × Bool)} {o : Oper} {v : Value} {a : Act} {w : World} (ho : l[i]? = some o) (hg : o.guard = none)
  (hv : ∀ w', S w' → (execOp a.eval o).run P w' = .ok (.value v) w') (h : wpCanon P ops Q S rest (a.put o.dst v) w) : wpCanon P ops Q S ((i, true) :: rest) a w := canon_st (eo.out i ho) hg hv h
theorem cU {l : List Oper} (eo : RowKit.Hid (∀ (i : Nat) {o : Oper}, l[i]? = some o → ops[i]? = some o)) {i j d : Nat} {want : Bool} {rest : List (Nat × Bool)} {o oj : Oper} {a : Act} {w : World} (ho : l[i]? = some o) (hg : o.guard = some (j, want)) (hj : l[j]? = some oj) (hd : oj.dst = some d) (hb : a.tmps[d]? = some (.bool !want))
  (h : wpCanon P ops Q S rest (a.put o.dst undef) w) : wpCanon P ops Q S ((i, true) :: rest) a w := canon_stu (eo.out i ho) hg (eo.out j hj) hd hb h
theorem cX {l : List Oper} (eo : RowKit.Hid (∀ (i : Nat) {o : Oper}, l[i]? = some o → ops[i]? = some o)) {i j d : Nat} {want : Bool} {rest : List (Nat × Bool)} {o oj : Oper} {a : Act} {w : World} (ho : l[i]? = some o) (hg : o.guard = some (j, want)) (hj : l[j]? = some oj) (hd : oj.dst = some d) (hb : a.tmps[d]? = some undef)
  (h : wpCanon P ops Q S rest (a.put o.dst undef) w) : wpCanon P ops Q S ((i, true) :: rest) a w := canon_stx (eo.out i ho) hg (eo.out j hj) hd hb h
theorem cW {l : List Oper} (eo : RowKit.Hid (∀ (i : Nat) {o : Oper}, l[i]? = some o → ops[i]? = some o)) {i j d : Nat} {want : Bool} {rest : List (Nat × Bool)} {o oj : Oper} {v : Value} {a : Act} {w : World} (ho : l[i]? = some o) (hg : o.guard = some (j, want)) (hj : l[j]? = some oj) (hd : oj.dst = some d) (hb : a.tmps[d]? = some (.bool want))
  (hv : ∀ w', S w' → (execOp a.eval o).run P w' = .ok (.value v) w') (h : wpCanon P ops Q S rest (a.put o.dst v) w) : wpCanon P ops Q S ((i, true) :: rest) a w := canon_stw (eo.out i ho) hg (eo.out j hj) hd hb hv h
end

def drawn : Code → List (Nat × Array Oper)
 | .region k ops true => [(k, ops)]
 | .seq a b => drawn a ++ drawn b
 | .cond _ a b => drawn a ++ drawn b
 | .block _ c => drawn c
 | .loop c => drawn c
 | .scope c => drawn c
 | _ => []
open Go.RowKit

inductive CT where
 | done
 | st (i : Nat) (t : CT)
 | one (i : Nat) (t : CT)
 | two (i : Nat) (s : CT) (j : Nat) (t : CT)
def CT.depth : CT → Nat
 | .done => 0
 | .st _ t => t.depth + 1
 | .one _ t => t.depth + 1
 | .two _ s _ t => max s.depth t.depth + 1

section
variable {P : Program} {ops : Array Oper} {Q : Exit → Act → World → Prop} {S : World → Prop}

def ctB (ops : Array Oper) : CT → Array Bool → Bool
 | .done, listed => (Region.ready .any ops listed).isEmpty
 | .st i t, listed => Region.free .any ops listed i && (Region.ready .any ops listed).contains i && ctB ops t (listed.setIfInBounds i true)
 | .one i t, listed => (Region.ready .any ops listed == [i]) && ctB ops t (listed.setIfInBounds i true)
 | .two i s j t, listed => (Region.ready .any ops listed == [i, j]) && ctB ops s (listed.setIfInBounds i true) && ctB ops t (listed.setIfInBounds j true)
def wpCT (P : Program) (ops : Array Oper) (Q : Exit → Act → World → Prop) (S : World → Prop) : CT → Act → World → Prop
 | .done, a, w => Q .normal a w
 | .st i t, a, w => ∃ o v, ops[i]? = some o ∧ YieldsIf P ops S o v a ∧ wpCT P ops Q S t (a.put o.dst v) w
 | .one i t, a, w => wpOp P ops Q i (fun a' w' => S w' ∧ wpCT P ops Q S t a' w') a w
 | .two i s j t, a, w => wpOp P ops Q i (fun a' w' => S w' ∧ wpCT P ops Q S s a' w') a w ∧ wpOp P ops Q j (fun a' w' => S w' ∧ wpCT P ops Q S t a' w') a w

theorem ct_sound (hs : Region.noSelect ops = true) (hQ : ∀ c a w, ¬ Q (.panic c) a w) : ∀ (ord : CT) (fuel : Nat) (listed : Array Bool) (a : Act) (w : World),
  ord.depth ≤ fuel → ctB ops ord listed = true → S w → wpCT P ops Q S ord a w → wpAnyH P .any ops Q S fuel listed a w := by
 intro ord
 induction ord with
 | done =>
  intro fuel listed a w _ hc _ h
  exact wpAnyH_done (by simpa [ctB] using hc) h fuel
 | st i t ih =>
  intro fuel listed a w hf hc hS h
  simp only [CT.depth] at hf
  match fuel, hf with
  | fuel + 1, hf =>
   simp only [ctB, Bool.and_eq_true] at hc
   obtain ⟨o, v, ho, hy, hr⟩ := h
   exact wpAnyH_take ho hs hc.1.1 hc.1.2 (fun c a w hq => absurd hq (hQ _ _ _)) hy hS (ih fuel _ _ _ (by omega) hc.2 hS hr)
 | one i t ih =>
  intro fuel listed a w hf hc hS h
  simp only [CT.depth] at hf
  match fuel, hf with
  | fuel + 1, hf =>
   simp only [ctB, Bool.and_eq_true, beq_iff_eq] at hc
   refine wpAnyH_all hc.1 (by simp) fun j hj => ?_
   obtain rfl := List.mem_singleton.1 hj
   exact wpOp_mono (fun a' w' hh => ⟨hh.1, ih fuel _ _ _ (by omega) hc.2 hh.1 hh.2⟩) h
 | two i s j t ih1 ih2 =>
  intro fuel listed a w hf hc hS h
  simp only [CT.depth] at hf
  match fuel, hf with
  | fuel + 1, hf =>
   simp only [ctB, Bool.and_eq_true, beq_iff_eq] at hc
   refine wpAnyH_all hc.1.1 (by simp) fun k hk => ?_
   simp only [List.mem_cons, List.not_mem_nil, or_false] at hk
   rcases hk with rfl | rfl
   ·exact wpOp_mono (fun a' w' hh => ⟨hh.1, ih1 fuel _ _ _ (by omega) hc.1.2 hh.1 hh.2⟩) h.1
   ·exact wpOp_mono (fun a' w' hh => ⟨hh.1, ih2 fuel _ _ _ (by omega) hc.2 hh.1 hh.2⟩) h.2

theorem wp_region_ct {id : Nat} {a : Act} {w : World} (S : World → Prop) (ord : CT) (hm : P.follows .mixedOrders = true) (hs : Region.noSelect ops = true)
  (hl : ord.depth ≤ ops.size) (hc : ctB ops ord (Array.replicate ops.size false) = true) (hS : S w.drew) (h : wpCT P ops (NoPanic Q) S ord a w.drew) :
  (Code.region id ops true).wp P Q a w :=
 wp_region_noPanic (wp_region_held hm (ct_sound hs (fun _ _ _ h => h) ord _ _ _ _ hl hc hS h))

theorem ct_intro {ord : CT} {a : Act} {w : World} (h : ∀ ops', ops' = ops → wpCT P ops' Q S ord a w) : wpCT P ops Q S ord a w := h ops rfl
theorem ct_done {a : Act} {w : World} (h : Q .normal a w) : wpCT P ops Q S .done a w := h
theorem ct_st {i : Nat} {rest : CT} {o : Oper} {v : Value} {a : Act} {w : World} (ho : ops[i]? = some o) (hg : o.guard = none)
  (hv : ∀ w', S w' → (execOp a.eval o).run P w' = .ok (.value v) w') (h : wpCT P ops Q S rest (a.put o.dst v) w) : wpCT P ops Q S (.st i rest) a w :=
 ⟨o, v, ho, .inl ⟨by simp [Region.wanted, hg], hv⟩, h⟩
theorem ct_op {i : Nat} {rest : CT} {o : Oper} {a : Act} {w : World} (ho : ops[i]? = some o) (hg : o.guard = none)
  (h : ∀ K : Act → World → Prop, (∀ a' w', S w' ∧ wpCT P ops Q S rest a' w' → K a' w') → o.wp P a w K Q) : wpOp P ops Q i (fun a' w' => S w' ∧ wpCT P ops Q S rest a' w') a w := by
 unfold wpOp
 rw [ho]
 simp only [Region.wanted, hg, if_true]
 exact .inl (h _ fun _ _ hh => hh)
theorem ct_one {i : Nat} {rest : CT} {a : Act} {w : World} (h : wpOp P ops Q i (fun a' w' => S w' ∧ wpCT P ops Q S rest a' w') a w) : wpCT P ops Q S (.one i rest) a w := h
theorem ct_two {i j : Nat} {s t : CT} {a : Act} {w : World} (h1 : wpOp P ops Q i (fun a' w' => S w' ∧ wpCT P ops Q S s a' w') a w) (h2 : wpOp P ops Q j (fun a' w' => S w' ∧ wpCT P ops Q S t a' w') a w) : wpCT P ops Q S (.two i s j t) a w := ⟨h1, h2⟩
end

open Go.RowKit

inductive C3 where
 | done
 | st (i : Nat) (t : C3)
 | one (i : Nat) (t : C3)
 | two (i : Nat) (s : C3) (j : Nat) (t : C3)
 | three (i : Nat) (s : C3) (j : Nat) (t : C3) (k : Nat) (u : C3)
def C3.depth : C3 → Nat
 | .done => 0
 | .st _ t => t.depth + 1
 | .one _ t => t.depth + 1
 | .two _ s _ t => max s.depth t.depth + 1
 | .three _ s _ t _ u => max s.depth (max t.depth u.depth) + 1

section
variable {P : Program} {ops : Array Oper} {Q : Exit → Act → World → Prop} {S : World → Prop}

end

open Go.RowKit

end Go.Proofs.YtdnkljpnhmcnpaaGreat
