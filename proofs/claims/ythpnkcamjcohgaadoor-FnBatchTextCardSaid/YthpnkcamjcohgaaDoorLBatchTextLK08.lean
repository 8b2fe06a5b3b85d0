/- A statement that draws its order, by what holds whatever part of it has been done: alone and inside a fence. -/
import Derived.Test.YthpnkcamjcohgaaDoorLBatchTextLK00
import Derived.OrdersIn
namespace Go.Proofs.YthpnkcamjcohgaaDoor
set_option linter.unusedVariables false
set_option linter.unusedSimpArgs false
open Go.RowKit

theorem count_set : ∀ (l : List Bool) (i : Nat), l[i]? = some false → (l.set i true).count false + 1 = l.count false
  | [], i, h => by simp at h
  | b :: l, 0, h => by
    simp at h
    subst h
    simp
  | b :: l, i + 1, h => by
    have ih := count_set l i (by simpa using h)
    rw [List.set_cons_succ, List.count_cons, List.count_cons]
    omega
def undone (l : Array Bool) : Nat := l.toList.count false
theorem undone_set {l : Array Bool} {i : Nat} (h : l.getD i true = false) : undone (l.setIfInBounds i true) + 1 = undone l := by
  unfold undone
  rw [Array.toList_setIfInBounds]
  refine count_set _ _ ?_
  rw [Array.getD_eq_getD_getElem?] at h
  by_cases hi : i < l.size
  · simp [hi] at h ⊢
    exact h
  · simp [hi] at h
/-- Where nothing is ready and every operation waits for earlier ones alone, all are done. -/
theorem all_done {md : Region.Mode} {ops : Array Oper} {l : Array Bool} (hl : l.size = ops.size) (ha : ∀ (j : Nat) (o : Oper), ops[j]? = some o → ∀ e ∈ o.after, e.on < j) (h : Region.ready md ops l = []) : ∀ j, j < ops.size → l.getD j false = true := by
  intro j
  induction j using Nat.strongRecOn with
  | _ j ih =>
    intro hj
    cases hb : l.getD j false with
    | true => rfl
    | false =>
      have hjl : j < l.size := by omega
      have hm : j ∈ Region.ready md ops l := mem_ready.2 ⟨by simp [hjl] at hb ⊢; exact hb, ops[j], by simp [hj], fun e he _ => by
        have hlt := ha j ops[j] (by simp [hj]) e he
        exact ih e.on hlt (by omega)⟩
      rw [h] at hm
      cases hm
/-- The check that every operation waits for earlier ones alone. -/
def lowB (ops : Array Oper) : Bool := (List.range ops.size).all fun j => match ops[j]? with
  | some o => o.after.all fun e => decide (e.on < j)
  | none => true
theorem lowB_spec {ops : Array Oper} (h : lowB ops = true) : ∀ (j : Nat) (o : Oper), ops[j]? = some o → ∀ e ∈ o.after, e.on < j := fun j o ho e he => by
  unfold lowB at h
  rw [List.all_eq_true] at h
  have hj : j < ops.size := (Array.getElem?_eq_some_iff.1 ho).1
  have h1 := h j (List.mem_range.2 hj)
  rw [ho] at h1
  simp only [Array.all_eq_true_iff_forall_mem] at h1
  simpa using h1 e he

section
variable {F : Fence} {n : Nat} {P : Program} {ops : Array Oper} {Q : Exit → Act → World → Prop} {I : Array Bool → Act → World → Prop}

theorem undone_rep (n : Nat) : undone (Array.replicate n false) = n := by
  unfold undone
  simp
theorem wpAny_inv (hsz : ∀ l a w, I l a w → l.size = ops.size) (ha : lowB ops = true)
    (hd : ∀ l a w, I l a w → (∀ j, j < ops.size → l.getD j false = true) → Q .normal a w)
    (hs : ∀ l a w i, I l a w → l.getD i true = false → (∃ o, ops[i]? = some o ∧ ∀ e ∈ o.after, Region.binds .any e = true → l.getD e.on false = true) → wpOp P ops Q i (I (l.setIfInBounds i true)) a w) :
    ∀ (fuel : Nat) (l : Array Bool) (a : Act) (w : World), undone l ≤ fuel → I l a w → wpAny P .any ops Q fuel l a w := by
  intro fuel
  induction fuel with
  | zero =>
    intro l a w hf hI
    have hr : Region.ready .any ops l = [] := by
      cases h : Region.ready .any ops l with
      | nil => rfl
      | cons i r =>
        have hi : i ∈ Region.ready .any ops l := by rw [h]; simp
        have := undone_set (mem_ready.1 hi).1
        omega
    exact ⟨hr, hd l a w hI (all_done (md := .any) (hsz l a w hI) (lowB_spec ha) hr)⟩
  | succ fuel ih =>
    intro l a w hf hI
    refine ⟨fun hr => hd l a w hI (all_done (md := .any) (hsz l a w hI) (lowB_spec ha) hr), fun i hi => ?_⟩
    obtain ⟨h1, h2⟩ := mem_ready.1 hi
    have hu := undone_set h1
    exact wpOp_mono (fun a' w' h => ih _ a' w' (by omega) h) (hs l a w i hI h1 h2)
theorem wp_region_inv {id : Nat} {a : Act} {w : World} (hm : P.follows .mixedOrders = true) (I : Array Bool → Act → World → Prop) (h0 : I (Array.replicate ops.size false) a w.drew)
    (hsz : ∀ l a w, I l a w → l.size = ops.size) (ha : lowB ops = true)
    (hd : ∀ l a w, I l a w → (∀ j, j < ops.size → l.getD j false = true) → Q .normal a w)
    (hs : ∀ l a w i, I l a w → l.getD i true = false → (∃ o, ops[i]? = some o ∧ ∀ e ∈ o.after, Region.binds .any e = true → l.getD e.on false = true) → wpOp P ops Q i (I (l.setIfInBounds i true)) a w) :
    (Code.region id ops true).wp P Q a w :=
  wp_region_any hm (wpAny_inv hsz ha hd hs ops.size _ _ _ (by rw [undone_rep]; exact Nat.le_refl _) h0)
theorem inv_op {I' : Act → World → Prop} {i : Nat} {o : Oper} {a : Act} {w : World} (ho : ops[i]? = some o) (hg : o.guard = none) (h : ∀ K : Act → World → Prop, (∀ a' w', I' a' w' → K a' w') → o.wp P a w K Q) : wpOp P ops Q i I' a w := by
  unfold wpOp
  rw [ho]
  simp only [Region.wanted, hg, if_true]
  exact .inl (h _ fun _ _ hh => hh)
end
end Go.Proofs.YthpnkcamjcohgaaDoor
