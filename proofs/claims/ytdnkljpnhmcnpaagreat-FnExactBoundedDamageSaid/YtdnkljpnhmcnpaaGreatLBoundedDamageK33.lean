/- Stacked symbols: plain laws on patterns, runs of cells and values of rows. -/
import Derived.Test.YtdnkljpnhmcnpaaGreatLBoundedDamageK03
import Derived.Test.YtdnkljpnhmcnpaaGreatLBoundedDamageK14
import Derived.Test.YtdnkljpnhmcnpaaGreatLBoundedDamageK12
import Derived.Laws.EntriesVeiled
import Derived.Test.YtdnkljpnhmcnpaaGreatLBoundedDamageK06
import Derived.Deep.DeepCutAuto
import Derived.Test.YtdnkljpnhmcnpaaGreatLBoundedDamageK00
import Derived.OrdersIn
set_option linter.unusedVariables false
set_option linter.unusedSimpArgs false
namespace Go.Proofs.YtdnkljpnhmcnpaaGreat
open Go.RowKit

def pats : Nat → Nat → List (List Int)
 | 0, _ => []
 | 1, s => [[(s : Int)]]
 | p + 2, s => (List.range (s - (p + 1))).flatMap fun i => (pats (p + 1) (s - (i + 1))).map fun l => ((i + 1 : Nat) : Int) :: l
def PAT : List (List Int) := pats 8 11
def idxP (p : List Int) : Option Nat := (List.range 120).find? fun i => PAT.getD i [] == p
def incL (l : List Int) : List Int := l.set (l.length - 1) (l.getD (l.length - 1) 0 + 1)
def runsTo (xs : List Int) : Nat → List Int
 | 0 => []
 | k + 1 => if 0 < k ∧ xs.getD k 0 = xs.getD (k - 1) 0 then incL (runsTo xs k) else runsTo xs k ++ [1]
def rvl (xs : List Int) (cl : Int) : Int :=
 if (∀ x ∈ xs, 0 ≤ x) ∧ xs.getD 0 0 ≠ 0 then (match idxP (runsTo xs xs.length) with
  | some i => if (i : Int) % 3 = cl ∧ i < 96 then ((i / 3 : Nat) : Int) else -1
  | none => -1) else -1
def rowV (xs : List Int) (cl : Int) (m : Nat) : List Int := (List.range m).map fun j => rvl ((xs.drop (7 + 11 * j)).take 11) cl
end Go.Proofs.YtdnkljpnhmcnpaaGreat
/- Stacked symbols, the program's side: all patterns. -/
namespace Go.Proofs.YtdnkljpnhmcnpaaGreat
open Go.RowKit

def w8F (p : List Int) : List Value := (List.range 8).map fun i => .int .i64 (p.getD i 0)
theorem RowS.far {α : Type} {f : α → List Value} {k : Nat} {e : TypeId} {B g i : Nat} {u v : Value} {w : World} {xs : List α} (h : RowS e f k B w v xs) (hne : v.ownBlock ≠ some g) : RowS e f k B (w.setCell ⟨g, i, none⟩ u) v xs := by
 refine ⟨h.1, ?_⟩
 rcases h.2 with h2 | ⟨b, cap, cur, hv, hb, hh, r⟩
 ·exact .inl h2
 ·exact .inr ⟨b, cap, cur, hv, hb, by rw [Below.heap_setCell w ⟨g, i, none⟩ u b (fun e => hne (by rw [hv, e]; rfl))]; exact hh, r⟩
end Go.Proofs.YtdnkljpnhmcnpaaGreat
/- Stacked symbols, the reference's side: the list of patterns. -/
namespace Go.Proofs.YtdnkljpnhmcnpaaGreat
open Go.RowKit

abbrev SL := Option Addr × Nat × Nat
def slF (x : SL) : List Value := [.slice x.1 x.2.1 x.2.2]
theorem slF_len (x : SL) : (slF x).length = 1 := rfl
theorem slF_one (x : SL) : ∀ u ∈ slF x, u.oneCell' = true := by
 intro u hu
 simp only [slF, List.mem_cons, List.not_mem_nil, or_false] at hu
 subst hu
 rfl
theorem infoSl : (Tryz.prog.info? 22).map (fun i => (i.zero, i.size, i.bytes)) = some (some (.slice none 0 0), 1, 24) := by kernel_rfl
def LLs (B : Nat) (w : World) (v : Value) (Ls : List (List Int)) : Prop :=
 ∃ vs : List SL, RowS 22 slF 1 B w v vs ∧ vs.length = Ls.length ∧ ∀ i, i < Ls.length → ∃ q c, vs.getD i (none, 0, 0) = (q, (Ls.getD i []).length, c) ∧ IntsAt w q (Ls.getD i []) ∧ ∀ b o, q = some ⟨b, o, none⟩ → B ≤ b ∧ b < w.heap.size ∧ v.ownBlock ≠ some b
section
variable {B : Nat} {w w' : World} {v v' : Value} {Ls : List (List Int)}
theorem LLs.made (hB : B ≤ w.heap.size) : LLs B (w.alloc (.cells #[] 22)) (.slice (some ⟨w.heap.size, 0, none⟩) 0 0) [] :=
 ⟨[], RowS.made 22 hB, rfl, fun i hi => absurd hi (Nat.not_lt_zero i)⟩
theorem LLs.mono {B' : Nat} (h : LLs B w v Ls) (hB : B' ≤ B) : LLs B' w v Ls := by
 obtain ⟨vs, h1, h2, h3⟩ := h
 refine ⟨vs, h1.mono hB, h2, fun i hi => ?_⟩
 obtain ⟨q, c, h4, h5, h6⟩ := h3 i hi
 exact ⟨q, c, h4, h5, fun b o e => ⟨Nat.le_trans hB (h6 b o e).1, (h6 b o e).2⟩⟩
theorem LLs.lt (h : LLs B w v Ls) : ∀ k, v.ownBlock = some k → B ≤ k ∧ k < w.heap.size := by
 obtain ⟨vs, h1, _⟩ := h
 exact h1.lt
theorem LLs.seg (h : LLs B w v Ls) (hk : ∀ k, B ≤ k → k < w.heap.size → w'.heap[k]? = w.heap[k]?) (hs : w.heap.size ≤ w'.heap.size) : LLs B w' v Ls := by
 obtain ⟨vs, h1, h2, h3⟩ := h
 refine ⟨vs, ⟨h1.1, ?_⟩, h2, fun i hi => ?_⟩
 ·rcases h1.2 with h4 | ⟨g, cap, cur, hv, hg, hh, r⟩
  ·exact .inl h4
  ·exact .inr ⟨g, cap, cur, hv, hg, (hk g hg (Array.getElem?_eq_some_iff.1 hh).1).trans hh, r⟩
 ·obtain ⟨q, c, h4, h5, h6⟩ := h3 i hi
  refine ⟨q, c, h4, fun j hj => ?_, fun b o e => ⟨(h6 b o e).1, Nat.lt_of_lt_of_le (h6 b o e).2.1 hs, (h6 b o e).2.2⟩⟩
  obtain ⟨b, o, e, h7, h8⟩ := h5 j hj
  exact ⟨b, o, e, Nat.lt_of_lt_of_le h7 hs, by rw [World.cell?_of_block (w := w) (a := ⟨b, o + j, none⟩) (hk b (h6 b o e).1 h7)]; exact h8⟩
theorem LLs.ext (h : LLs B w v Ls) (hx : Ext w w') : LLs B w' v Ls := h.seg (fun k _ h2 => hx.below.block k h2) hx.size
theorem IntsAt.grewV {q : Option Addr} {xs : List Int} (h : IntsAt w q xs) (hg : Grew v w w' v') (hne : ∀ b o, q = some ⟨b, o, none⟩ → v.ownBlock ≠ some b) : IntsAt w' q xs := fun i hi => by
 obtain ⟨b, o, e, h7, h8⟩ := h i hi
 exact ⟨b, o, e, Nat.lt_of_lt_of_le h7 hg.by_.size, by rw [World.cell?_of_block (w := w) (a := ⟨b, o + i, none⟩) (hg.by_.block b h7 (fun e2 => hne b o e e2.symm))]; exact h8⟩
theorem LLs.at (h : LLs B w v Ls) {i : Nat} (hi : i < Ls.length) : ∃ g ca q c, v = .slice (some ⟨g, 0, none⟩) Ls.length ca ∧ g < w.heap.size ∧ w.cell? ⟨g, i, none⟩ = some (.slice q (Ls.getD i []).length c) ∧ IntsAt w q (Ls.getD i []) := by
 obtain ⟨vs, h1, h2, h3⟩ := h
 obtain ⟨q, c, h4, h5, h6⟩ := h3 i hi
 obtain ⟨p, ca, hv, ho⟩ := h1.own slF_len
 obtain ⟨g, o, rfl, _, hl, hc, _⟩ := ho i (by omega)
 rcases h1.2 with ⟨h7, h8⟩ | ⟨g', cap, cur, hv', _⟩
 ·omega
 ·rw [hv'] at hv
  injection hv with e1 e2 e3
  injection e1 with e1
  injection e1 with e4 e5 e6
  subst e4; subst e5; subst e3
  refine ⟨g', cap, q, c, by rw [hv', h2], hl, ?_, h5⟩
  have := hc 0 (.slice q (Ls.getD i []).length c) (by
   have : vs[i]'(by omega) = (q, (Ls.getD i []).length, c) := by rw [← h4, List.getD_eq_getElem?_getD, List.getElem?_eq_getElem (by omega)]; rfl
   rw [this]
   rfl)
  simpa using this
theorem LLs.len (h : LLs B w v Ls) : ∃ p ca, v = .slice p Ls.length ca := by
 obtain ⟨vs, h1, h2, h3⟩ := h
 obtain ⟨p, ca, hv, ho⟩ := h1.own slF_len
 exact ⟨p, ca, by rw [hv, h2]⟩
theorem RowI.one {n : Int} (hB : B ≤ w.heap.size) : RowI B (w.alloc (.cells #[.int .i64 n] 2)) (.slice (some ⟨w.heap.size, 0, none⟩) 1 1) [n] :=
 ⟨rfl, .inr ⟨w.heap.size, 1, #[.int .i64 n], rfl, hB, (MapKept.heap_alloc w _).1, Nat.le_refl _, by unfold maxLen; omega, rfl, rfl⟩⟩
theorem LLs.one {n : Int} : LLs w.heap.size ((w.alloc (.cells #[.int .i64 n] 2)).alloc (.cells #[.slice (some ⟨w.heap.size, 0, none⟩) 1 1] 22)) (.slice (some ⟨w.heap.size + 1, 0, none⟩) 1 1) [[n]] := by
 refine ⟨[(some ⟨w.heap.size, 0, none⟩, 1, 1)], ⟨rfl, .inr ⟨w.heap.size + 1, 1, #[.slice (some ⟨w.heap.size, 0, none⟩) 1 1], rfl, by omega, ?_, Nat.le_refl _, by unfold maxLen; omega, rfl, rfl⟩⟩, rfl, fun i hi => ?_⟩
 ·have := (MapKept.heap_alloc (w.alloc (.cells #[.int .i64 n] 2)) (.cells #[.slice (some ⟨w.heap.size, 0, none⟩) 1 1] 22)).1
  rwa [World.size_alloc] at this
 ·obtain rfl : i = 0 := by simpa using hi
  refine ⟨some ⟨w.heap.size, 0, none⟩, 1, rfl, (IntsAt_alloc w [n] 2).ext ((Ext.refl _).alloc _), fun b o e => ?_⟩
  injection e with e
  injection e with e1 e2 e3
  subst e1
  exact ⟨Nat.le_refl _, by simp; omega, fun h => absurd (Option.some.inj h) (by show ¬ (w.heap.size + 1 = w.heap.size); omega)⟩
end
section
variable {ops : Array Oper} {Q : Exit → Act → World → Prop} {rest : List Oper} {a : Act} {dst : Option Tmp} {s x : Operand} {ty : TypeId} {pos : String} {after : Array Edge} {B : Nat} {w0 : World} {v : Value} {Ls : List (List Int)} {l : List Int} {p : Option Addr} {c : Nat}
theorem append1L (h0 : LLs B w0 v Ls) (hp : IntsAt w0 p l) (hb : ∀ b o, p = some ⟨b, o, none⟩ → B ≤ b ∧ b < w0.heap.size ∧ v.ownBlock ≠ some b) (hlen : Ls.length < 1000000) (hB : B ≤ w0.heap.size)
  (h : ∀ v' w', LLs B w' v' (Ls ++ [l]) → Grew v w0 w' v' → wpList Tryz.prog ops Q rest (a.put dst v') w') (hs : a.eval s = v) (hx : a.eval x = .slice (some ⟨w0.heap.size, 0, none⟩) 1 1) :
  wpList Tryz.prog ops Q (⟨dst, .call { callee := .builtin .append, args := #[s, x], argTypes := #[175, 175] }, ty, pos, after, none⟩ :: rest) a (w0.alloc (.cells #[.slice p l.length c] 22)) := by
 obtain ⟨vs, h1, h2, h3⟩ := h0
 refine appendSG (f := slF) (ns := [(p, l.length, c)]) Tryz.underlying175 infoSl rfl (by omega) (by omega) slF_len slF_one 1 rfl h1 (by omega) hB rfl ?_ hs hx
 intro v' w' hr hg
 refine h v' w' ⟨vs ++ [(p, l.length, c)], hr, by simp [h2], fun i hi => ?_⟩ hg
 rw [List.length_append, List.length_singleton] at hi
 rcases Nat.lt_or_ge i Ls.length with hlt | hge
 ·obtain ⟨q, c', h4, h5, h6⟩ := h3 i hlt
  have e1 : (Ls ++ [l]).getD i [] = Ls.getD i [] := by rw [List.getD_eq_getElem?_getD, List.getElem?_append_left hlt, ← List.getD_eq_getElem?_getD]
  have e2 : (vs ++ [(p, l.length, c)]).getD i (none, 0, 0) = vs.getD i (none, 0, 0) := by rw [List.getD_eq_getElem?_getD, List.getElem?_append_left (by omega), ← List.getD_eq_getElem?_getD]
  rw [e1, e2]
  refine ⟨q, c', h4, h5.grewV hg (fun b o e => (h6 b o e).2.2), fun b o e => ⟨(h6 b o e).1, Nat.lt_of_lt_of_le (h6 b o e).2.1 hg.by_.size, fun e3 => ?_⟩⟩
  rcases hg.own b e3 with h7 | h7
  ·exact (h6 b o e).2.2 h7
  ·have := (h6 b o e).2.1; omega
 ·obtain rfl : i = Ls.length := by omega
  have e1 : (Ls ++ [l]).getD Ls.length [] = l := by rw [List.getD_eq_getElem?_getD, List.getElem?_append_right (Nat.le_refl _)]; simp
  have e2 : (vs ++ [(p, l.length, c)]).getD Ls.length (none, 0, 0) = (p, l.length, c) := by rw [List.getD_eq_getElem?_getD, List.getElem?_append_right (by omega), h2]; simp
  rw [e1, e2]
  refine ⟨p, c, rfl, hp.grewV hg (fun b o e => (hb b o e).2.2), fun b o e => ⟨(hb b o e).1, Nat.lt_of_lt_of_le (hb b o e).2.1 hg.by_.size, fun e3 => ?_⟩⟩
  rcases hg.own b e3 with h7 | h7
  ·exact (hb b o e).2.2 h7
  ·have := (hb b o e).2.1; omega
end
def SegV (B : Nat) (w3 w4 : World) (v : Value) : Prop := w3.heap.size ≤ w4.heap.size ∧ ∀ k, B ≤ k → k < w3.heap.size → w4.heap[k]? = w3.heap[k]? ∧ v.ownBlock ≠ some k
theorem SegV.next {B : Nat} {w3 w4 w5 w6 : World} {v v' : Value} (h : SegV B w3 w4 v) (hx : Ext w4 w5) (hg : Grew v w5 w6 v') : SegV B w3 w6 v' := by
 have hs := hx.size
 have hs2 := hg.by_.size
 refine ⟨by have := h.1; omega, fun k hk hk3 => ?_⟩
 obtain ⟨h1, h2⟩ := h.2 k hk hk3
 have h4 : k < w4.heap.size := by have := h.1; omega
 refine ⟨((hg.by_.block k (by omega) (fun e => h2 e.symm)).trans (hx.below.block k h4)).trans h1, fun e => ?_⟩
 rcases hg.own k e with h3 | h3
 ·exact h2 h3
 ·omega
end Go.Proofs.YtdnkljpnhmcnpaaGreat
/- A statement that draws its order, by what holds whatever part of it has been done: alone and inside a fence. -/
namespace Go.Proofs.YtdnkljpnhmcnpaaGreat
open Go.RowKit

theorem count_set : ∀ (l : List Bool) (i : Nat), l[i]? = some false → (l.set i true).count false + 1 = l.count false
 | [], i, h => by simp at h
 | b :: l, 0, h => by
  simp at h
  subst h
  simp
 | b :: l, i + 1, h => by
  have ih := count_set l i (by simpa using h)
  rw [List.set_cons_succ, List.count_cons, List.count_cons]
  omega
def undone (l : Array Bool) : Nat := l.toList.count false
theorem undone_set {l : Array Bool} {i : Nat} (h : l.getD i true = false) : undone (l.setIfInBounds i true) + 1 = undone l := by
 unfold undone
 rw [Array.toList_setIfInBounds]
 refine count_set _ _ ?_
 rw [Array.getD_eq_getD_getElem?] at h
 by_cases hi : i < l.size
 ·simp [hi] at h ⊢
  exact h
 ·simp [hi] at h
theorem all_done {md : Region.Mode} {ops : Array Oper} {l : Array Bool} (hl : l.size = ops.size) (ha : ∀ (j : Nat) (o : Oper), ops[j]? = some o → ∀ e ∈ o.after, e.on < j) (h : Region.ready md ops l = []) : ∀ j, j < ops.size → l.getD j false = true := by
 intro j
 induction j using Nat.strongRecOn with
 | _ j ih =>
  intro hj
  cases hb : l.getD j false with
  | true => rfl
  | false =>
   have hjl : j < l.size := by omega
   have hm : j ∈ Region.ready md ops l := mem_ready.2 ⟨by simp [hjl] at hb ⊢; exact hb, ops[j], by simp [hj], fun e he _ => by
    have hlt := ha j ops[j] (by simp [hj]) e he
    exact ih e.on hlt (by omega)⟩
   rw [h] at hm
   cases hm
def lowB (ops : Array Oper) : Bool := (List.range ops.size).all fun j => match ops[j]? with
 | some o => o.after.all fun e => decide (e.on < j)
 | none => true
theorem lowB_spec {ops : Array Oper} (h : lowB ops = true) : ∀ (j : Nat) (o : Oper), ops[j]? = some o → ∀ e ∈ o.after, e.on < j := fun j o ho e he => by
 unfold lowB at h
 rw [List.all_eq_true] at h
 have hj : j < ops.size := (Array.getElem?_eq_some_iff.1 ho).1
 have h1 := h j (List.mem_range.2 hj)
 rw [ho] at h1
 simp only [Array.all_eq_true_iff_forall_mem] at h1
 simpa using h1 e he

section
variable {F : Fence} {n : Nat} {P : Program} {ops : Array Oper} {Q : Exit → Act → World → Prop} {I : Array Bool → Act → World → Prop}

theorem wpAnyIn_inv (hsz : ∀ l a w, I l a w → l.size = ops.size) (ha : lowB ops = true)
  (hd : ∀ l a w, I l a w → (∀ j, j < ops.size → l.getD j false = true) → Q .normal a w)
  (hs : ∀ l a w i, I l a w → l.getD i true = false → (∃ o, ops[i]? = some o ∧ ∀ e ∈ o.after, Region.binds .any e = true → l.getD e.on false = true) → wpOpIn F n P ops Q i (I (l.setIfInBounds i true)) a w) :
  ∀ (fuel : Nat) (l : Array Bool) (a : Act) (w : World), undone l ≤ fuel → I l a w → wpAnyIn F n P .any ops Q fuel l a w := by
 intro fuel
 induction fuel with
 | zero =>
  intro l a w hf hI
  have hr : Region.ready .any ops l = [] := by
   cases h : Region.ready .any ops l with
   | nil => rfl
   | cons i r =>
    have hi : i ∈ Region.ready .any ops l := by rw [h]; simp
    have := undone_set (mem_ready.1 hi).1
    omega
  exact ⟨hr, hd l a w hI (all_done (md := .any) (hsz l a w hI) (lowB_spec ha) hr)⟩
 | succ fuel ih =>
  intro l a w hf hI
  refine ⟨fun hr => hd l a w hI (all_done (md := .any) (hsz l a w hI) (lowB_spec ha) hr), fun i hi => ?_⟩
  obtain ⟨h1, h2⟩ := mem_ready.1 hi
  have hu := undone_set h1
  exact wpOpIn_mono (fun a' w' h => ih _ a' w' (by omega) h) (hs l a w i hI h1 h2)
theorem undone_rep (n : Nat) : undone (Array.replicate n false) = n := by
 unfold undone
 simp
theorem wpIn_region_inv {id : Nat} {a : Act} {w : World} (hm : P.follows .mixedOrders = true) (I : Array Bool → Act → World → Prop) (h0 : I (Array.replicate ops.size false) a w.drew)
  (hsz : ∀ l a w, I l a w → l.size = ops.size) (ha : lowB ops = true)
  (hd : ∀ l a w, I l a w → (∀ j, j < ops.size → l.getD j false = true) → Q .normal a w)
  (hs : ∀ l a w i, I l a w → l.getD i true = false → (∃ o, ops[i]? = some o ∧ ∀ e ∈ o.after, Region.binds .any e = true → l.getD e.on false = true) → wpOpIn F n P ops Q i (I (l.setIfInBounds i true)) a w) :
  (Code.region id ops true).wpIn F n P Q a w :=
 wpIn_region_any hm (wpAnyIn_inv hsz ha hd hs ops.size _ _ _ (by rw [undone_rep]; exact Nat.le_refl _) h0)
theorem inv_opIn {I' : Act → World → Prop} {i : Nat} {o : Oper} {a : Act} {w : World} (ho : ops[i]? = some o) (hg : o.guard = none) (h : ∀ K : Act → World → Prop, (∀ a' w', I' a' w' → K a' w') → o.wpIn F n P a w K Q) : wpOpIn F n P ops Q i I' a w := by
 unfold wpOpIn
 rw [ho]
 simp only [Region.wanted, hg, if_true]
 exact h _ fun _ _ hh => hh
end
end Go.Proofs.YtdnkljpnhmcnpaaGreat
