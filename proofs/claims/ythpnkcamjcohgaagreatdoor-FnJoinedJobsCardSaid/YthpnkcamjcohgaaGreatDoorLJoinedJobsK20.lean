/- A statement that draws its order, by what holds whatever part of it has been done: alone and inside a fence. -/
import Derived.Test.YthpnkcamjcohgaaGreatDoorLJoinedJobsK00
import Derived.OrdersIn
namespace Go.Proofs.YthpnkcamjcohgaaGreatDoor
set_option linter.unusedVariables false
set_option linter.unusedSimpArgs false
open Go.RowKit

theorem count_set : ∀ (l : List Bool) (i : Nat), l[i]? = some false → (l.set i true).count false + 1 = l.count false
  | [], i, h => by simp at h
  | b :: l, 0, h => by
    simp at h
    subst h
    simp
  | b :: l, i + 1, h => by
    have ih := count_set l i (by simpa using h)
    rw [List.set_cons_succ, List.count_cons, List.count_cons]
    omega
def undone (l : Array Bool) : Nat := l.toList.count false
theorem undone_set {l : Array Bool} {i : Nat} (h : l.getD i true = false) : undone (l.setIfInBounds i true) + 1 = undone l := by
  unfold undone
  rw [Array.toList_setIfInBounds]
  refine count_set _ _ ?_
  rw [Array.getD_eq_getD_getElem?] at h
  by_cases hi : i < l.size
  · simp [hi] at h ⊢
    exact h
  · simp [hi] at h
/-- Where nothing is ready and every operation waits for earlier ones alone, all are done. -/
theorem all_done {md : Region.Mode} {ops : Array Oper} {l : Array Bool} (hl : l.size = ops.size) (ha : ∀ (j : Nat) (o : Oper), ops[j]? = some o → ∀ e ∈ o.after, e.on < j) (h : Region.ready md ops l = []) : ∀ j, j < ops.size → l.getD j false = true := by
  intro j
  induction j using Nat.strongRecOn with
  | _ j ih =>
    intro hj
    cases hb : l.getD j false with
    | true => rfl
    | false =>
      have hjl : j < l.size := by omega
      have hm : j ∈ Region.ready md ops l := mem_ready.2 ⟨by simp [hjl] at hb ⊢; exact hb, ops[j], by simp [hj], fun e he _ => by
        have hlt := ha j ops[j] (by simp [hj]) e he
        exact ih e.on hlt (by omega)⟩
      rw [h] at hm
      cases hm
/-- The check that every operation waits for earlier ones alone. -/
def lowB (ops : Array Oper) : Bool := (List.range ops.size).all fun j => match ops[j]? with
  | some o => o.after.all fun e => decide (e.on < j)
  | none => true
theorem lowB_spec {ops : Array Oper} (h : lowB ops = true) : ∀ (j : Nat) (o : Oper), ops[j]? = some o → ∀ e ∈ o.after, e.on < j := fun j o ho e he => by
  unfold lowB at h
  rw [List.all_eq_true] at h
  have hj : j < ops.size := (Array.getElem?_eq_some_iff.1 ho).1
  have h1 := h j (List.mem_range.2 hj)
  rw [ho] at h1
  simp only [Array.all_eq_true_iff_forall_mem] at h1
  simpa using h1 e he

section
variable {F : Fence} {n : Nat} {P : Program} {ops : Array Oper} {Q : Exit → Act → World → Prop} {I : Array Bool → Act → World → Prop}

theorem wpAnyIn_inv (hsz : ∀ l a w, I l a w → l.size = ops.size) (ha : lowB ops = true)
    (hd : ∀ l a w, I l a w → (∀ j, j < ops.size → l.getD j false = true) → Q .normal a w)
    (hs : ∀ l a w i, I l a w → l.getD i true = false → (∃ o, ops[i]? = some o ∧ ∀ e ∈ o.after, Region.binds .any e = true → l.getD e.on false = true) → wpOpIn F n P ops Q i (I (l.setIfInBounds i true)) a w) :
    ∀ (fuel : Nat) (l : Array Bool) (a : Act) (w : World), undone l ≤ fuel → I l a w → wpAnyIn F n P .any ops Q fuel l a w := by
  intro fuel
  induction fuel with
  | zero =>
    intro l a w hf hI
    have hr : Region.ready .any ops l = [] := by
      cases h : Region.ready .any ops l with
      | nil => rfl
      | cons i r =>
        have hi : i ∈ Region.ready .any ops l := by rw [h]; simp
        have := undone_set (mem_ready.1 hi).1
        omega
    exact ⟨hr, hd l a w hI (all_done (md := .any) (hsz l a w hI) (lowB_spec ha) hr)⟩
  | succ fuel ih =>
    intro l a w hf hI
    refine ⟨fun hr => hd l a w hI (all_done (md := .any) (hsz l a w hI) (lowB_spec ha) hr), fun i hi => ?_⟩
    obtain ⟨h1, h2⟩ := mem_ready.1 hi
    have hu := undone_set h1
    exact wpOpIn_mono (fun a' w' h => ih _ a' w' (by omega) h) (hs l a w i hI h1 h2)
theorem undone_rep (n : Nat) : undone (Array.replicate n false) = n := by
  unfold undone
  simp
theorem wpIn_region_inv {id : Nat} {a : Act} {w : World} (hm : P.follows .mixedOrders = true) (I : Array Bool → Act → World → Prop) (h0 : I (Array.replicate ops.size false) a w.drew)
    (hsz : ∀ l a w, I l a w → l.size = ops.size) (ha : lowB ops = true)
    (hd : ∀ l a w, I l a w → (∀ j, j < ops.size → l.getD j false = true) → Q .normal a w)
    (hs : ∀ l a w i, I l a w → l.getD i true = false → (∃ o, ops[i]? = some o ∧ ∀ e ∈ o.after, Region.binds .any e = true → l.getD e.on false = true) → wpOpIn F n P ops Q i (I (l.setIfInBounds i true)) a w) :
    (Code.region id ops true).wpIn F n P Q a w :=
  wpIn_region_any hm (wpAnyIn_inv hsz ha hd hs ops.size _ _ _ (by rw [undone_rep]; exact Nat.le_refl _) h0)
theorem inv_opIn {I' : Act → World → Prop} {i : Nat} {o : Oper} {a : Act} {w : World} (ho : ops[i]? = some o) (hg : o.guard = none) (h : ∀ K : Act → World → Prop, (∀ a' w', I' a' w' → K a' w') → o.wpIn F n P a w K Q) : wpOpIn F n P ops Q i I' a w := by
  unfold wpOpIn
  rw [ho]
  simp only [Region.wanted, hg, if_true]
  exact h _ fun _ _ hh => hh
/-- A method called through an interface, inside a fence (in a round too). -/
theorem oper_invokeIn {K : Act → World → Prop} {a : Act} {w : World} {dst : Option Tmp} {r : Operand} {name : String} {args : Array Operand} {ats : Array TypeId} {ty : TypeId} {pos : String} {after : Array Edge} {guard : Option (Nat × Bool)}
    (hF : ∀ f, F.fn f) (hd : F.depth.isSome = true → 1 ≤ n) (t : TypeId) (v : Value) (f : FuncId) {fn : Func} (hf : P.funcs[f]? = some fn) (hb : fn.body.isNone = false) (hn : (fn.name == "runtime.NumGoroutine") = false) (hr : a.eval r = .iface t v) (hm : (method (P.types.size + Made.depth) t v name).run P w = .ok (f, v) w)
    (hc : CallsIn F (n - 1) P f (#[v] ++ args.map a.eval) w fun
      | .returned v, w'' => K (a.put dst v) w''
      | .panicked chain, w'' => Q (.panic chain) a w''
      | .outgrown, _ => LetsOut Q) :
    Oper.wpIn F n P ⟨dst, .call { callee := .invoke r name, args, argTypes := ats }, ty, pos, after, guard⟩ a w K Q := by
  refine ⟨fun f _ => hF f, ?_⟩
  have e : (execOp a.eval ⟨dst, .call { callee := .invoke r name, args, argTypes := ats }, ty, pos, after, guard⟩).run P w = .ok (.enter f (#[v] ++ args.map a.eval)) w := by
    have e2 : ∀ x : Value, (#[x] ++ args.map a.eval).extract 1 (#[x] ++ args.map a.eval).size = args.map a.eval := by
      intro x
      apply Array.ext'
      simp [List.take_of_length_le]
    have e3 : ∀ x : Value, (#[x] ++ args.map a.eval)[0]? = some x := by
      intro x
      rw [Array.getElem?_append_left (by simp)]
      rfl
    simp only [execOp, resolve, Sem.run_bind, Sem.run_pure, Result.andThen_ok, invoke, e3, e2, hr, callMethod, callFunc]
    simp only [program, Sem.run, Sem.run_bind, Result.andThen_ok, hm, hf, hb, hn, Sem.run_pure, Bool.false_eq_true, if_false]
  rw [Oper.semAt_eq _ _ _ (fun c h => by cases h), e]
  exact ⟨hd, hc⟩
theorem wpListIn_invoke {rest : List Oper} {a : Act} {w : World} {dst : Option Tmp} {r : Operand} {name : String} {args : Array Operand} {ats : Array TypeId} {ty : TypeId} {pos : String} {after : Array Edge}
    (hF : ∀ f, F.fn f) (hd : F.depth.isSome = true → 1 ≤ n) (t : TypeId) (v : Value) (f : FuncId) {fn : Func} (hf : P.funcs[f]? = some fn) (hb : fn.body.isNone = false) (hn : (fn.name == "runtime.NumGoroutine") = false) (hr : a.eval r = .iface t v) (hm : (method (P.types.size + Made.depth) t v name).run P w = .ok (f, v) w)
    (hc : CallsIn F (n - 1) P f (#[v] ++ args.map a.eval) w fun
      | .returned v, w'' => wpListIn F n P ops Q rest (a.put dst v) w''
      | .panicked chain, w'' => Q (.panic chain) a w''
      | .outgrown, _ => LetsOut Q) :
    wpListIn F n P ops Q (⟨dst, .call { callee := .invoke r name, args, argTypes := ats }, ty, pos, after, none⟩ :: rest) a w := by
  unfold wpListIn
  rw [if_pos (by simp [Region.wanted])]
  exact oper_invokeIn hF hd t v f hf hb hn hr hm hc
end
end Go.Proofs.YthpnkcamjcohgaaGreatDoor
