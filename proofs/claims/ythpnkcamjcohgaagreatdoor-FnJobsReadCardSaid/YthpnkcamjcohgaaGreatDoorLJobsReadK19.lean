/- strings.Builder, as the program uses it. -/
import Derived.Test.YthpnkcamjcohgaaGreatDoorLJobsReadK15
import Derived.Test.YthpnkcamjcohgaaGreatDoorLJobsReadK05
import Derived.Lib.Builder
import Derived.Lib.OthersKept
import Derived.Test.YthpnkcamjcohgaaGreatDoorLJobsReadK00
import Derived.OrdersIn
namespace Go.Proofs.YthpnkcamjcohgaaGreatDoor
set_option linter.unusedVariables false
set_option linter.unusedSimpArgs false
open Go.RowKit

/-- The builder in block b has gathered s. -/
def Bd (B b : Nat) (s : ByteArray) (w : World) : Prop := Lib.IsBuilder 73 5 B b (Lib.strCells s) w
theorem Bd.at {B b : Nat} {s : ByteArray} {w : World} (h : Bd B b s w) : ∃ p, Lib.BuilderAt 73 5 B b p (Lib.strCells s) w := by
  rcases h with h | h
  · exact ⟨_, h⟩
  · exact ⟨_, h⟩
theorem Bd.ge {B b : Nat} {s : ByteArray} {w : World} (h : Bd B b s w) : B ≤ b := by
  obtain ⟨p, h⟩ := h.at
  exact h.1
theorem Bd.lt {B b : Nat} {s : ByteArray} {w : World} (h : Bd B b s w) : b < w.heap.size := by
  obtain ⟨p, h⟩ := h.at
  exact h.lt
theorem Bd.new (w : World) : Bd w.heap.size w.heap.size ByteArray.empty (w.alloc (.cells #[.pointer none, .slice none 0 0] 73)) := Lib.fresh_isBuilder _ _ w
theorem bd_kept {B b : Nat} {p : Value} {s : ByteArray} {w w' : World} {row : Option Nat} (h : Lib.BuilderAt 73 5 B b p (Lib.strCells s) w) (hg : w.grownBy w' row) (hb : row ≠ some b) (hv : ∀ k v, w.heap[b]? = some (.cells #[p, v] 73 (0, 0)) → v.ownBlock = some k → row ≠ some k) :
    Lib.BuilderAt 73 5 B b p (Lib.strCells s) w' := by
  have hlt := h.lt
  obtain ⟨hB, v, hbk, hown, hne⟩ := h
  refine ⟨hB, v, (hg.block b hlt (fun e => hb e.symm)).trans hbk, hown.kept hg ?_, hne⟩
  cases hv2 : v.ownBlock with
  | none => exact .inl rfl
  | some k => exact .inr (fun e => hv k v hbk hv2 e.symm)
theorem Bd.ext {B b : Nat} {s : ByteArray} {w w' : World} (h : Bd B b s w) (hx : Ext w w') : Bd B b s w' := by
  have key : ∀ p, Lib.BuilderAt 73 5 B b p (Lib.strCells s) w → Lib.BuilderAt 73 5 B b p (Lib.strCells s) w' := fun p hp => by
    have hlt := hp.lt
    obtain ⟨hB, v, hbk, hown, hne⟩ := hp
    refine ⟨hB, v, (hx.below.block b hlt).trans hbk, ⟨hown.1, ?_⟩, hne⟩
    rcases hown.2 with h2 | ⟨g, cap, cur, hv, hg, hh, r⟩
    · exact .inl h2
    · exact .inr ⟨g, cap, cur, hv, hg, by rw [hx.below.block g (Array.getElem?_eq_some_iff.1 hh).1]; exact hh, r⟩
  rcases h with h | h
  · exact .inl (key _ h)
  · exact .inr (key _ h)
/-- The string is told. -/
theorem Bd.bytes {B b : Nat} {s : ByteArray} {w : World} (h : Bd B b s w) : Lib.IsBuilder 73 5 B b (Lib.byteCells s.data.toList) w := by
  have e : Lib.strCells s = Lib.byteCells s.data.toList := rfl
  rw [← e]
  exact h
set_option maxHeartbeats 1000000 in
set_option maxRecDepth 100000 in
theorem copyCheck_c (B b : Nat) (s : ByteArray) (w : World) (h : Bd B b s w) :
    Calls Tryz.prog 130 #[.pointer (some ⟨b, 0, none⟩)] w fun e w' => e = .returned (.tuple #[]) ∧ Lib.BuilderAt 73 5 B b (.pointer (some ⟨b, 0, none⟩)) (Lib.strCells s) w' ∧ Below B w w' ∧ Lib.OthersKept 5 (some b) w w' := by
  have hj0 : (Tryz.prog.info? 73).map (·.size) = some 2 := by kernel_rfl
  obtain ⟨j, hj, hjs⟩ := Option.map_eq_some_iff.1 hj0
  rcases h with h | h
  · have h0 := h.cell0
    have hsh := h.shape
    have hfz := h.frozen0
    have hw := h.used (.pointer (some ⟨b, 0, none⟩))
    have hB := h.1
    clear h
    go_enter Tryz.func130, Tryz.ntmps130
    go_wp2
    rw [Lib.run_to_unsafe w ⟨b, 0, none⟩ Tryz.underlying71 Tryz.underlying167 hj (by rw [hjs]; decide) hsh (Nat.zero_lt_succ 1)]
    simp only [Result.andThen]
    rw [Oper.upon_value]
    go_wp2
    rw [run_callFunc_extern Tryz.func131 (by kernel_rfl) (by kernel_rfl) (by kernel_rfl) (e := Extern.AbiNoEscape.same) (by kernel_rfl)]
    rw [Lib.run_noEscape]
    simp only [Result.andThen]
    rw [Oper.upon_value]
    go_wp2
    rw [Lib.run_from_unsafe w ⟨b, 0, none⟩ Tryz.underlying167 Tryz.underlying71 hj hsh (by kernel_rfl)]
    simp only [Result.andThen]
    rw [Oper.upon_value]
    go_wp2
    go_end0
    exact ⟨rfl, hw, (Below.refl B w).setCell (p := ⟨b, 0, none⟩) hB _, (Lib.OthersKept.refl _ _ w).setCell ⟨b, 0, none⟩ rfl _⟩
  · have h0 := h.cell0
    have hh := Lib.hid h
    clear h
    go_enter Tryz.func130, Tryz.ntmps130
    go_wp2
    rw [Lib.run_neq_ptr_same w _ Tryz.underlying71 hj]
    go_wp2
    go_end0
    exact ⟨rfl, hh.out, Below.refl B _, Lib.OthersKept.refl _ _ _⟩
theorem row_kind {w : World} {B e : Nat} {v : Value} {n : Nat} {xs : List Value} (h : w.ownsRow B e 1 v n xs) : ∀ g, v.ownBlock = some g → ∃ c fz, w.heap[g]? = some (.cells c e fz) := fun g hg => by
  rcases h.2 with ⟨hv, _⟩ | ⟨k, cap, cur, hv, _, hh, _⟩
  · rw [hv] at hg; simp [Value.ownBlock] at hg
  · rw [hv] at hg
    simp [Value.ownBlock] at hg
    subst hg
    exact ⟨_, _, hh⟩
set_option maxHeartbeats 1000000 in
set_option maxRecDepth 100000 in
theorem writeString_c (B b : Nat) (s t : ByteArray) (w : World) (h : Bd B b s w) (hl : s.size + t.size ≤ 1000000000) (hB : B ≤ w.heap.size) :
    Calls Tryz.prog 129 #[.pointer (some ⟨b, 0, none⟩), .string t] w fun e w' => e = .returned (.tuple #[.int .i64 t.size, .nilIface]) ∧ Bd B b (s ++ t) w' ∧ Below B w w' ∧ Lib.OthersKept 5 (some b) w w' := by
  obtain ⟨i0, hi, hz0, hz1, hz2⟩ := info_parts infoByte
  have hcc := Lib.hid (copyCheck_c B b s w h)
  clear h
  go_enter Tryz.func129, Tryz.ntmps129
  go_wp2_with (go_at_call 130; (with_reducible refine (hcc.out).mono ?_))
  rintro e w1 ⟨rfl, h1, hb1, hk1⟩
  have h1L := h1.lt
  obtain ⟨hBb, v, hbk, hown, hne⟩ := h1
  have c1 : w1.cell? ⟨b, 1, none⟩ = some v := by rw [Lib.cell_of_heap hbk]; rfl
  have hB1 := hb1.size
  go_wp2_with (at_builtin; refine Lib.wpList_append_own_string _ rfl _ _ 22 9 rfl B 5 i0 (by kernel_rfl) (by kernel_rfl) hi hz0 hz1 hz2 _ _ _ rfl hown t rfl ?c3 ?c4 ?c5 ?_)
  case c3 => rw [Lib.strCells_length]; unfold maxLen; omega
  case c4 => rw [Lib.strCells_length]; omega
  case c5 => omega
  intro v' w2 hown' hgrow _
  have hb2 : w2.heap[b]? = some (.cells #[.pointer (some ⟨b, 0, none⟩), v] 73 (0, 0)) := by
    rw [hgrow.block b h1L (fun e => hne e.symm)]
    exact hbk
  have d1 : w2.cell? ⟨b, 1, none⟩ = some v := by rw [Lib.cell_of_heap hb2]; rfl
  have f1 : w2.frozen? ⟨b, 1, none⟩ = false := Lib.frozen_of_heap hb2 1
  have hbz : b < w2.heap.size := (Array.getElem?_eq_some_iff.1 hb2).1
  have hgs := hgrow.size
  obtain ⟨ao, n', cap, rfl⟩ : ∃ ao n' cap, v' = .slice ao n' cap := by
    rcases hown'.2 with ⟨hv, _⟩ | ⟨g, cap, cur, hv, _⟩
    · exact ⟨_, _, _, hv⟩
    · exact ⟨_, _, _, hv⟩
  clear c1
  go_wp2
  go_ret2
  refine ⟨rfl, .inr ?_, ?_, (hk1.grown hgrow (row_kind hown)).setCell ⟨b, 1, none⟩ rfl _⟩
  · refine Lib.BuilderAt.put hBb hb2 ?_ (by decide)
    rw [strCells_append, List.length_append, Lib.strCells_length t]
    exact hown'
  · exact (hb1.grown hgrow (by omega) (fun k hk => (hown.lt k hk).1)).setCell (p := ⟨b, 1, none⟩) hBb _
end Go.Proofs.YthpnkcamjcohgaaGreatDoor
/- A statement that draws its order, by what holds whatever part of it has been done: alone and inside a fence. -/
namespace Go.Proofs.YthpnkcamjcohgaaGreatDoor
set_option linter.unusedVariables false
set_option linter.unusedSimpArgs false
open Go.RowKit

theorem count_set : ∀ (l : List Bool) (i : Nat), l[i]? = some false → (l.set i true).count false + 1 = l.count false
  | [], i, h => by simp at h
  | b :: l, 0, h => by
    simp at h
    subst h
    simp
  | b :: l, i + 1, h => by
    have ih := count_set l i (by simpa using h)
    rw [List.set_cons_succ, List.count_cons, List.count_cons]
    omega
def undone (l : Array Bool) : Nat := l.toList.count false
theorem undone_set {l : Array Bool} {i : Nat} (h : l.getD i true = false) : undone (l.setIfInBounds i true) + 1 = undone l := by
  unfold undone
  rw [Array.toList_setIfInBounds]
  refine count_set _ _ ?_
  rw [Array.getD_eq_getD_getElem?] at h
  by_cases hi : i < l.size
  · simp [hi] at h ⊢
    exact h
  · simp [hi] at h
/-- Where nothing is ready and every operation waits for earlier ones alone, all are done. -/
theorem all_done {md : Region.Mode} {ops : Array Oper} {l : Array Bool} (hl : l.size = ops.size) (ha : ∀ (j : Nat) (o : Oper), ops[j]? = some o → ∀ e ∈ o.after, e.on < j) (h : Region.ready md ops l = []) : ∀ j, j < ops.size → l.getD j false = true := by
  intro j
  induction j using Nat.strongRecOn with
  | _ j ih =>
    intro hj
    cases hb : l.getD j false with
    | true => rfl
    | false =>
      have hjl : j < l.size := by omega
      have hm : j ∈ Region.ready md ops l := mem_ready.2 ⟨by simp [hjl] at hb ⊢; exact hb, ops[j], by simp [hj], fun e he _ => by
        have hlt := ha j ops[j] (by simp [hj]) e he
        exact ih e.on hlt (by omega)⟩
      rw [h] at hm
      cases hm
/-- The check that every operation waits for earlier ones alone. -/
def lowB (ops : Array Oper) : Bool := (List.range ops.size).all fun j => match ops[j]? with
  | some o => o.after.all fun e => decide (e.on < j)
  | none => true
theorem lowB_spec {ops : Array Oper} (h : lowB ops = true) : ∀ (j : Nat) (o : Oper), ops[j]? = some o → ∀ e ∈ o.after, e.on < j := fun j o ho e he => by
  unfold lowB at h
  rw [List.all_eq_true] at h
  have hj : j < ops.size := (Array.getElem?_eq_some_iff.1 ho).1
  have h1 := h j (List.mem_range.2 hj)
  rw [ho] at h1
  simp only [Array.all_eq_true_iff_forall_mem] at h1
  simpa using h1 e he

section
variable {F : Fence} {n : Nat} {P : Program} {ops : Array Oper} {Q : Exit → Act → World → Prop} {I : Array Bool → Act → World → Prop}

theorem wpAnyIn_inv (hsz : ∀ l a w, I l a w → l.size = ops.size) (ha : lowB ops = true)
    (hd : ∀ l a w, I l a w → (∀ j, j < ops.size → l.getD j false = true) → Q .normal a w)
    (hs : ∀ l a w i, I l a w → l.getD i true = false → (∃ o, ops[i]? = some o ∧ ∀ e ∈ o.after, Region.binds .any e = true → l.getD e.on false = true) → wpOpIn F n P ops Q i (I (l.setIfInBounds i true)) a w) :
    ∀ (fuel : Nat) (l : Array Bool) (a : Act) (w : World), undone l ≤ fuel → I l a w → wpAnyIn F n P .any ops Q fuel l a w := by
  intro fuel
  induction fuel with
  | zero =>
    intro l a w hf hI
    have hr : Region.ready .any ops l = [] := by
      cases h : Region.ready .any ops l with
      | nil => rfl
      | cons i r =>
        have hi : i ∈ Region.ready .any ops l := by rw [h]; simp
        have := undone_set (mem_ready.1 hi).1
        omega
    exact ⟨hr, hd l a w hI (all_done (md := .any) (hsz l a w hI) (lowB_spec ha) hr)⟩
  | succ fuel ih =>
    intro l a w hf hI
    refine ⟨fun hr => hd l a w hI (all_done (md := .any) (hsz l a w hI) (lowB_spec ha) hr), fun i hi => ?_⟩
    obtain ⟨h1, h2⟩ := mem_ready.1 hi
    have hu := undone_set h1
    exact wpOpIn_mono (fun a' w' h => ih _ a' w' (by omega) h) (hs l a w i hI h1 h2)
theorem undone_rep (n : Nat) : undone (Array.replicate n false) = n := by
  unfold undone
  simp
theorem wpIn_region_inv {id : Nat} {a : Act} {w : World} (hm : P.follows .mixedOrders = true) (I : Array Bool → Act → World → Prop) (h0 : I (Array.replicate ops.size false) a w.drew)
    (hsz : ∀ l a w, I l a w → l.size = ops.size) (ha : lowB ops = true)
    (hd : ∀ l a w, I l a w → (∀ j, j < ops.size → l.getD j false = true) → Q .normal a w)
    (hs : ∀ l a w i, I l a w → l.getD i true = false → (∃ o, ops[i]? = some o ∧ ∀ e ∈ o.after, Region.binds .any e = true → l.getD e.on false = true) → wpOpIn F n P ops Q i (I (l.setIfInBounds i true)) a w) :
    (Code.region id ops true).wpIn F n P Q a w :=
  wpIn_region_any hm (wpAnyIn_inv hsz ha hd hs ops.size _ _ _ (by rw [undone_rep]; exact Nat.le_refl _) h0)
theorem inv_opIn {I' : Act → World → Prop} {i : Nat} {o : Oper} {a : Act} {w : World} (ho : ops[i]? = some o) (hg : o.guard = none) (h : ∀ K : Act → World → Prop, (∀ a' w', I' a' w' → K a' w') → o.wpIn F n P a w K Q) : wpOpIn F n P ops Q i I' a w := by
  unfold wpOpIn
  rw [ho]
  simp only [Region.wanted, hg, if_true]
  exact h _ fun _ _ hh => hh
/-- A method called through an interface, inside a fence (in a round too). -/
theorem oper_invokeIn {K : Act → World → Prop} {a : Act} {w : World} {dst : Option Tmp} {r : Operand} {name : String} {args : Array Operand} {ats : Array TypeId} {ty : TypeId} {pos : String} {after : Array Edge} {guard : Option (Nat × Bool)}
    (hF : ∀ f, F.fn f) (hd : F.depth.isSome = true → 1 ≤ n) (t : TypeId) (v : Value) (f : FuncId) {fn : Func} (hf : P.funcs[f]? = some fn) (hb : fn.body.isNone = false) (hn : (fn.name == "runtime.NumGoroutine") = false) (hr : a.eval r = .iface t v) (hm : (method (P.types.size + Made.depth) t v name).run P w = .ok (f, v) w)
    (hc : CallsIn F (n - 1) P f (#[v] ++ args.map a.eval) w fun
      | .returned v, w'' => K (a.put dst v) w''
      | .panicked chain, w'' => Q (.panic chain) a w''
      | .outgrown, _ => LetsOut Q) :
    Oper.wpIn F n P ⟨dst, .call { callee := .invoke r name, args, argTypes := ats }, ty, pos, after, guard⟩ a w K Q := by
  refine ⟨fun f _ => hF f, ?_⟩
  have e : (execOp a.eval ⟨dst, .call { callee := .invoke r name, args, argTypes := ats }, ty, pos, after, guard⟩).run P w = .ok (.enter f (#[v] ++ args.map a.eval)) w := by
    have e2 : ∀ x : Value, (#[x] ++ args.map a.eval).extract 1 (#[x] ++ args.map a.eval).size = args.map a.eval := by
      intro x
      apply Array.ext'
      simp [List.take_of_length_le]
    have e3 : ∀ x : Value, (#[x] ++ args.map a.eval)[0]? = some x := by
      intro x
      rw [Array.getElem?_append_left (by simp)]
      rfl
    simp only [execOp, resolve, Sem.run_bind, Sem.run_pure, Result.andThen_ok, invoke, e3, e2, hr, callMethod, callFunc]
    simp only [program, Sem.run, Sem.run_bind, Result.andThen_ok, hm, hf, hb, hn, Sem.run_pure, Bool.false_eq_true, if_false]
  rw [Oper.semAt_eq _ _ _ (fun c h => by cases h), e]
  exact ⟨hd, hc⟩
theorem wpListIn_invoke {rest : List Oper} {a : Act} {w : World} {dst : Option Tmp} {r : Operand} {name : String} {args : Array Operand} {ats : Array TypeId} {ty : TypeId} {pos : String} {after : Array Edge}
    (hF : ∀ f, F.fn f) (hd : F.depth.isSome = true → 1 ≤ n) (t : TypeId) (v : Value) (f : FuncId) {fn : Func} (hf : P.funcs[f]? = some fn) (hb : fn.body.isNone = false) (hn : (fn.name == "runtime.NumGoroutine") = false) (hr : a.eval r = .iface t v) (hm : (method (P.types.size + Made.depth) t v name).run P w = .ok (f, v) w)
    (hc : CallsIn F (n - 1) P f (#[v] ++ args.map a.eval) w fun
      | .returned v, w'' => wpListIn F n P ops Q rest (a.put dst v) w''
      | .panicked chain, w'' => Q (.panic chain) a w''
      | .outgrown, _ => LetsOut Q) :
    wpListIn F n P ops Q (⟨dst, .call { callee := .invoke r name, args, argTypes := ats }, ty, pos, after, none⟩ :: rest) a w := by
  unfold wpListIn
  rw [if_pos (by simp [Region.wanted])]
  exact oper_invokeIn hF hd t v f hf hb hn hr hm hc
end
end Go.Proofs.YthpnkcamjcohgaaGreatDoor
