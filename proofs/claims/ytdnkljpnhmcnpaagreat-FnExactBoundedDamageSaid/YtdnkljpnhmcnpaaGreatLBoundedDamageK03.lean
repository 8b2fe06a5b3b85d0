/- Slices of whole numbers: equality, marks, copies. Contracts of the laws' helpers. -/
import Derived.Test.YtdnkljpnhmcnpaaGreatLBoundedDamageK01
import Derived.Test.YtdnkljpnhmcnpaaGreatLBoundedDamageK02
import Derived.Lib.AppendStr
import Derived.Laws.IdiomStrings
import Derived.Lib.BufferRead
set_option linter.unusedVariables false
set_option linter.unusedSimpArgs false
namespace Go.Proofs.YtdnkljpnhmcnpaaGreat
open Go.RowKit

def OwnInts (B : Nat) (w : World) (p : Option Addr) (xs : List Int) : Prop :=
 ∀ i, i < xs.length → ∃ b o, p = some ⟨b, o, none⟩ ∧ B ≤ b ∧ b < w.heap.size ∧ w.cell? ⟨b, o + i, none⟩ = some (.int .i64 (xs.getD i 0)) ∧ w.frozen? ⟨b, o + i, none⟩ = false
theorem OwnInts.ints {B : Nat} {w : World} {p : Option Addr} {xs : List Int} (h : OwnInts B w p xs) : IntsAt w p xs := fun i hi => by
 obtain ⟨b, o, h1, _, h2, h3, _⟩ := h i hi
 exact ⟨b, o, h1, h2, h3⟩
theorem OwnInts.nil (B : Nat) (w : World) (p : Option Addr) : OwnInts B w p [] := fun i hi => absurd hi (Nat.not_lt_zero i)
theorem OwnInts.ext {B : Nat} {w w' : World} {p : Option Addr} {xs : List Int} (h : OwnInts B w p xs) (hb : Ext w w') : OwnInts B w' p xs := fun i hi => by
 obtain ⟨b, o, h1, hB, h2, h3, h4⟩ := h i hi
 obtain ⟨hc, hf, hk, _⟩ := ecell hb
 exact ⟨b, o, h1, hB, hk _ h2, by rw [hc _ _ h2]; exact h3, by rw [hf _ _ h2]; exact h4⟩
theorem OwnInts.mono {B B' : Nat} {w : World} {p : Option Addr} {xs : List Int} (h : OwnInts B w p xs) (hB : B' ≤ B) : OwnInts B' w p xs := fun i hi => by
 obtain ⟨b, o, h1, h0, h2⟩ := h i hi
 exact ⟨b, o, h1, Nat.le_trans hB h0, h2⟩

def Wrote (p : Option Addr) (w w' : World) : Prop :=
 w'.os = w.os ∧ w'.tape = w.tape ∧ w'.output = w.output ∧ w'.heap.size = w.heap.size ∧ ∀ k, (∀ a, p = some a → a.block ≠ k) → w'.heap[k]? = w.heap[k]?
theorem Wrote.refl (p : Option Addr) (w : World) : Wrote p w w := ⟨rfl, rfl, rfl, rfl, fun _ _ => rfl⟩
theorem Wrote.setCell {p : Option Addr} {w w' : World} (h : Wrote p w w') {b o o' : Nat} (hp : p = some ⟨b, o, none⟩) (v : Value) : Wrote p w (w'.setCell ⟨b, o', none⟩ v) := by
 obtain ⟨h1, h2, h3, h4, h5⟩ := h
 refine ⟨h1, h2, h3, by simpa [World.setCell] using h4, fun k hk => ?_⟩
 rw [Below.heap_setCell w' ⟨b, o', none⟩ v k (fun e => hk _ hp e.symm)]
 exact h5 k hk
theorem Wrote.ints {p q : Option Addr} {w w' : World} {ys : List Int} (h : Wrote p w w') (hy : IntsAt w q ys) (hd : ∀ a c, p = some a → q = some c → a.block ≠ c.block) : IntsAt w' q ys := fun i hi => by
 obtain ⟨b, o, h1, h2, h3⟩ := hy i hi
 obtain ⟨_, _, _, h4, h5⟩ := h
 exact ⟨b, o, h1, by omega, by rw [World.cell?_of_block (w := w) (a := ⟨b, o + i, none⟩) (h5 b fun a ha => hd a _ ha h1)]; exact h3⟩
theorem Wrote.ext {p : Option Addr} {w w0 w' : World} (h : Wrote p w w') (hx : Ext w0 w) (hB : ∀ a, p = some a → w0.heap.size ≤ a.block) : Ext w0 w' := by
 obtain ⟨h1, h2, h3, h4, h5⟩ := h
 have hx' := hx.below
 refine ⟨h1.trans hx'.os, h2.trans hx'.tape, h3.trans hx'.output, by rw [h4]; exact hx'.size, fun k hk => ?_⟩
 rw [h5 k fun a ha => by have := hB a ha; omega]
 exact hx'.block k hk
theorem OwnInts.set {B : Nat} {w : World} {p : Option Addr} {xs : List Int} (h : OwnInts B w p xs) {k b o : Nat} (hp : p = some ⟨b, o, none⟩) (hk : k < xs.length) (v : Int) :
  OwnInts B (w.setCell ⟨b, o + k, none⟩ (.int .i64 v)) p (xs.set k v) := fun i hi => by
 rw [List.length_set] at hi
 obtain ⟨b', o', h1, hB, h2, h3, h4⟩ := h i hi
 have e : b' = b ∧ o' = o := by rw [hp] at h1; simp at h1; omega
 obtain ⟨rfl, rfl⟩ := e
 refine ⟨b', o', hp, hB, by simpa [World.setCell] using h2, ?_, by rw [World.frozen?_setCell]; exact h4⟩
 by_cases e : i = k
 ·subst e
  rw [World.cell?_setCell_same w _ _ h3]
  simp [hk]
 ·rw [World.cell?_setCell_other w _ _ _ (by simp <;> omega), h3]
  simp [List.getElem?_set_ne (Ne.symm e)]

theorem eqInt64S_c (p q : Option Addr) (c d : Nat) (xs ys : List Int) (w : World) (hx : IntsAt w p xs) (hy : IntsAt w q ys) (hl : xs.length ≤ 1099511627776) (hl2 : ys.length ≤ 1099511627776) :
  Calls Tryz.prog 40 #[.slice p xs.length c, .slice q ys.length d] w fun e w' => isB e (xs = ys) ∧ ∃ n, w' = w.drewN n := by
 by_cases hlen : xs.length = ys.length
 ·have HL := Lib.hid hlen
  have hl3 : (((xs.length : Int)) != ys.length) = false := by simp [hlen]
  clear hlen
  go_enter Tryz.func40, Tryz.ntmps40
  go_wp2
  go_loopw [5] (fun i wr => ∃ k : Nat, k ≤ xs.length ∧ i = .int .i64 k ∧ Hid (xs.take k = ys.take k) ∧ ∃ n, wr = w.drewN n) (fun i _ => xs.length - (intOf i).toNat)
  case atStart => exact ⟨0, Nat.zero_le _, rfl, rfl, 0, rfl⟩
  case round =>
   obtain ⟨k, hk, rfl, HE, n, rfl⟩ := hrel
   by_cases hlt : k < xs.length
   ·have hlt2 : k < ys.length := by have := HL.out; omega
    obtain ⟨b, o, rfl, _, h1⟩ := hx k hlt
    obtain ⟨b2, o2, rfl, _, h2⟩ := hy k hlt2
    clear hx hy
    go_wp2
    go_quiet (fail)
    go_wp2
    ·have hne : xs[k] ≠ ys[k] := by simpa using (by assumption : (xs[k] != ys[k]) = true)
     go_ret
     exact ⟨isB_f (fun h => hne (by subst h; rfl)), n + nq, World.drewN_drewN ..⟩
    ·have he : xs[k] = ys[k] := by simpa using (by assumption : (xs[k] != ys[k]) = false)
     go_roundw
     case rel => exact ⟨k + 1, hlt, by go_num, by show _ = _; rw [List.take_succ_eq_append_getElem hlt, List.take_succ_eq_append_getElem hlt2, HE.out, he], n + nq, by simp⟩
     case measure => simp [intOf]; omega
   ·clear hx hy
    go_wp2
    go_ret
    refine ⟨isB_t ?_, _, rfl⟩
    have h1 := HE.out
    have h2 := HL.out
    rwa [List.take_of_length_le (by omega), List.take_of_length_le (by omega)] at h1
 ·have hl3 : (((xs.length : Int)) != ys.length) = true := by simp; omega
  clear hx hy
  have HL := Lib.hid hlen; clear hlen
  go_enter Tryz.func40, Tryz.ntmps40
  go_wp2
  go_ret
  exact ⟨isB_f (fun h => HL.out (by rw [h])), 0, rfl⟩

theorem IntsAt.below {B : Nat} {q : Option Addr} {w1 w w' : World} {ys : List Int} (hq : IntsAt w1 q ys) (hx : Ext w1 w) (hb : Below B w w') (hB : w1.heap.size ≤ B) : IntsAt w' q ys := hq.ext (hx.low hb hB)

open Go.RowKit

theorem infoInt : (Tryz.prog.info? 2).map (fun i => (i.zero, i.size, i.bytes)) = some (some (.int .i64 0), 1, 8) := by kernel_rfl

def RowI (B : Nat) (w : World) (v : Value) (xs : List Int) : Prop := w.ownsRow B 2 1 v xs.length (xs.map (Value.int .i64))

theorem RowI.nil (B : Nat) (w : World) : RowI B w (.slice none 0 0) [] := World.ownsRow_nil _ _ _ _
theorem RowI.alloc {B : Nat} {w : World} {v : Value} {xs : List Int} (h : RowI B w v xs) (o : Obj) : RowI B (w.alloc o) v xs := World.ownsRow.alloc h o
theorem RowI.lt {B : Nat} {w : World} {v : Value} {xs : List Int} (h : RowI B w v xs) : ∀ k, v.ownBlock = some k → B ≤ k ∧ k < w.heap.size := World.ownsRow.lt h
theorem RowI.mono {B B' : Nat} {w : World} {v : Value} {xs : List Int} (h : RowI B w v xs) (hB : B' ≤ B) : RowI B' w v xs := by
 refine ⟨h.1, ?_⟩
 rcases h.2 with h2 | ⟨g, cap, cur, hv, hg, r⟩
 ·exact .inl h2
 ·exact .inr ⟨g, cap, cur, hv, Nat.le_trans hB hg, r⟩
theorem RowI.below {B B' : Nat} {w w' : World} {v : Value} {xs : List Int} (h : RowI B w v xs) (hb : Below B' w w') (hB : ∀ k, v.ownBlock = some k → k < B') : RowI B w' v xs := by
 refine ⟨h.1, ?_⟩
 rcases h.2 with h2 | ⟨g, cap, cur, hv, hg, hh, r⟩
 ·exact .inl h2
 ·exact .inr ⟨g, cap, cur, hv, hg, by rw [hb.block g (hB g (by rw [hv]; rfl))]; exact hh, r⟩
theorem RowI.ext {B : Nat} {w w' : World} {v : Value} {xs : List Int} (h : RowI B w v xs) (hb : Ext w w') : RowI B w' v xs :=
 h.below hb.below fun k hk => (h.lt k hk).2
theorem RowI.drewN {B : Nat} {w : World} {v : Value} {xs : List Int} (h : RowI B w v xs) (n : Nat) : RowI B (w.drewN n) v xs := h
theorem RowI.own {B : Nat} {w : World} {v : Value} {xs : List Int} (h : RowI B w v xs) : ∃ p c, v = .slice p xs.length c ∧ OwnInts B w p xs := by
 rcases h.2 with ⟨h2, hn⟩ | ⟨g, cap, cur, hv, hg, hh, r⟩
 ·have : xs = [] := List.eq_nil_of_length_eq_zero hn
  subst this
  exact ⟨none, 0, h2, OwnInts.nil _ _ _⟩
 ·refine ⟨some ⟨g, 0, none⟩, cap, hv, fun i hi => ⟨g, 0, rfl, hg, ?_, ?_, ?_⟩⟩
  ·exact (Array.getElem?_eq_some_iff.1 hh).1
  ·have h' : w.ownsRow B 2 1 (.slice (some ⟨g, 0, none⟩) xs.length cap) xs.length (xs.map (Value.int .i64)) := by rw [← hv]; exact h
   have := h'.cellAt i (by omega)
   rw [Nat.zero_add, this]
   simp [hi]
  ·have h' : w.ownsRow B 2 1 (.slice (some ⟨g, 0, none⟩) xs.length cap) xs.length (xs.map (Value.int .i64)) := by rw [← hv]; exact h
   exact h'.frozenAt _

theorem RowI.ownC {B : Nat} {w : World} {v : Value} {xs : List Int} (h : RowI B w v xs) : ∃ p c, v = .slice p xs.length c ∧ OwnInts B w p xs ∧ xs.length ≤ c := by
 obtain ⟨p, c, hv, ho⟩ := h.own
 refine ⟨p, c, hv, ho, ?_⟩
 rcases h.2 with ⟨h2, hn⟩ | ⟨g, cap, cur, h2, _, _, hc, _⟩
 ·omega
 ·rw [hv] at h2
  simp at h2
  omega
theorem RowI.made {B : Nat} {w : World} (hB : B ≤ w.heap.size) : RowI B (w.alloc (.cells #[] 2)) (.slice (some ⟨w.heap.size, 0, none⟩) 0 0) [] :=
 World.ownsRow_made w #[] 0 hB (by unfold maxLen; omega) rfl

section
variable {ops : Array Oper} {Q : Exit → Act → World → Prop} {rest : List Oper} {a : Act} {dst : Option Tmp} {s x : Operand} {ty : TypeId} {pos : String} {after : Array Edge} {B : Nat} {w0 : World} {v : Value} {xs : List Int} {n : Int}
end

open Go.RowKit

theorem OwnInts.lt0 {B b o : Nat} {w : World} {p : Option Addr} {xs : List Int} (h : OwnInts B w p xs) (hn : xs ≠ []) (hp : p = some ⟨b, o, none⟩) : B ≤ b ∧ b < w.heap.size := by
 obtain ⟨b', o', h1, h2, h3, _⟩ := h 0 (List.length_pos_iff.2 hn)
 rw [hp] at h1
 simp at h1
 omega
theorem IntsAt.keep {w w' : World} {q : Option Addr} {ys : List Int} (h : IntsAt w q ys) (hs : w.heap.size ≤ w'.heap.size) (hk : ∀ b o, ys ≠ [] → q = some ⟨b, o, none⟩ → b < w.heap.size → w'.heap[b]? = w.heap[b]?) : IntsAt w' q ys := fun i hi => by
 obtain ⟨b, o, h1, h2, h3⟩ := h i hi
 have hn : ys ≠ [] := fun e => by subst e; simp at hi
 exact ⟨b, o, h1, Nat.lt_of_lt_of_le h2 hs, (World.cell?_of_block (a := ⟨b, o + i, none⟩) (hk b o hn h1 h2)).trans h3⟩
theorem OwnInts.keep {B : Nat} {w w' : World} {q : Option Addr} {ys : List Int} (h : OwnInts B w q ys) (hs : w.heap.size ≤ w'.heap.size) (hk : ∀ b o, ys ≠ [] → q = some ⟨b, o, none⟩ → b < w.heap.size → w'.heap[b]? = w.heap[b]?) : OwnInts B w' q ys := fun i hi => by
 obtain ⟨b, o, h1, hB, h2, h3, h4⟩ := h i hi
 have hn : ys ≠ [] := fun e => by subst e; simp at hi
 exact ⟨b, o, h1, hB, Nat.lt_of_lt_of_le h2 hs, (World.cell?_of_block (a := ⟨b, o + i, none⟩) (hk b o hn h1 h2)).trans h3, (World.frozen?_of_block (a := ⟨b, o + i, none⟩) (hk b o hn h1 h2)).trans h4⟩
open Go.RowKit

def RowB (B : Nat) (w : World) (v : Value) (s : ByteArray) : Prop := w.ownsRow B 5 1 v s.size (Lib.strCells s)
section
variable {B : Nat} {w w' : World} {v : Value} {s : ByteArray}
theorem RowB.nil (B : Nat) (w : World) : RowB B w (.slice none 0 0) ByteArray.empty := World.ownsRow_nil _ _ _ _
theorem RowB.made (hB : B ≤ w.heap.size) : RowB B (w.alloc (.cells #[] 5)) (.slice (some ⟨w.heap.size, 0, none⟩) 0 0) ByteArray.empty :=
 World.ownsRow_made w #[] 0 hB (by unfold maxLen; omega) rfl
theorem RowB.room (hB : B ≤ w.heap.size) (z : Array Value) (n : Nat) (hz : z.size = 1) (hn : n ≤ maxLen) : RowB B (w.alloc (.cells (madeCells z n) 5)) (.slice (some ⟨w.heap.size, 0, none⟩) 0 n) ByteArray.empty :=
 World.ownsRow_made w _ n hB hn (by simp [size_madeCells])
theorem RowB.alloc (h : RowB B w v s) (o : Obj) : RowB B (w.alloc o) v s := World.ownsRow.alloc h o
theorem RowB.lt (h : RowB B w v s) : ∀ k, v.ownBlock = some k → B ≤ k ∧ k < w.heap.size := World.ownsRow.lt h
theorem RowB.mono {B' : Nat} (h : RowB B w v s) (hB : B' ≤ B) : RowB B' w v s := by
 refine ⟨h.1, ?_⟩
 rcases h.2 with h2 | ⟨g, cap, cur, hv, hg, r⟩
 ·exact .inl h2
 ·exact .inr ⟨g, cap, cur, hv, Nat.le_trans hB hg, r⟩
theorem RowB.below {B' : Nat} (h : RowB B w v s) (hb : Below B' w w') (hB : ∀ k, v.ownBlock = some k → k < B') : RowB B w' v s := by
 refine ⟨h.1, ?_⟩
 rcases h.2 with h2 | ⟨g, cap, cur, hv, hg, hh, r⟩
 ·exact .inl h2
 ·exact .inr ⟨g, cap, cur, hv, hg, by rw [hb.block g (hB g (by rw [hv]; rfl))]; exact hh, r⟩
theorem RowB.ext (h : RowB B w v s) (hb : Ext w w') : RowB B w' v s := h.below hb.below fun k hk => (h.lt k hk).2
theorem RowB.drewN (h : RowB B w v s) (n : Nat) : RowB B (w.drewN n) v s := h
theorem RowB.slice (h : RowB B w v s) : ∃ p c, v = .slice p s.size c := by
 rcases h.2 with ⟨h2, hn⟩ | ⟨g, cap, cur, hv, _⟩
 ·exact ⟨none, 0, by rw [h2, hn]⟩
 ·exact ⟨_, _, hv⟩
end

section
variable {ops : Array Oper} {Q : Exit → Act → World → Prop} {rest : List Oper} {a : Act} {dst : Option Tmp} {s x : Operand} {ty : TypeId} {pos : String} {after : Array Edge} {B : Nat} {w0 : World} {v : Value} {xs : ByteArray}
end

end Go.Proofs.YtdnkljpnhmcnpaaGreat
