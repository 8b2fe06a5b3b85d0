/- Slices of structs: reading, owning, appending, writing; f gives an element's cells. -/
import Derived.Test.YtdnkljpnhmcnpaaGreatLBoundedDamageK03
import Derived.Test.YtdnkljpnhmcnpaaGreatLBoundedDamageK02
set_option linter.unusedVariables false
set_option linter.unusedSimpArgs false
namespace Go.Proofs.YtdnkljpnhmcnpaaGreat
open Go.RowKit

section
variable {α : Type} {f : α → List Value} {k : Nat}

def SAt (f : α → List Value) (k : Nat) (w : World) (p : Option Addr) (xs : List α) : Prop :=
 ∀ i (h : i < xs.length), ∃ b o, p = some ⟨b, o, none⟩ ∧ b < w.heap.size ∧ ∀ j v, (f (xs[i]'h))[j]? = some v → w.cell? ⟨b, o + i * k + j, none⟩ = some v
def SOwn (f : α → List Value) (k : Nat) (B : Nat) (w : World) (p : Option Addr) (xs : List α) : Prop :=
 ∀ i (h : i < xs.length), ∃ b o, p = some ⟨b, o, none⟩ ∧ B ≤ b ∧ b < w.heap.size ∧ (∀ j v, (f (xs[i]'h))[j]? = some v → w.cell? ⟨b, o + i * k + j, none⟩ = some v) ∧ ∀ j, w.frozen? ⟨b, j, none⟩ = false
theorem SAt.nil (w : World) (p : Option Addr) : SAt f k w p [] := fun i hi => absurd hi (Nat.not_lt_zero i)
theorem SAt.ext {w w' : World} {p : Option Addr} {xs : List α} (h : SAt f k w p xs) (hb : Ext w w') : SAt f k w' p xs := fun i hi => by
 obtain ⟨b, o, h1, h2, h3⟩ := h i hi
 obtain ⟨hc, hf, hk, _⟩ := ecell hb
 exact ⟨b, o, h1, hk _ h2, fun j v hv => by rw [hc _ _ h2]; exact h3 j v hv⟩
theorem SOwn.nil (B : Nat) (w : World) (p : Option Addr) : SOwn f k B w p [] := fun i hi => absurd hi (Nat.not_lt_zero i)
theorem SOwn.sat {B : Nat} {w : World} {p : Option Addr} {xs : List α} (h : SOwn f k B w p xs) : SAt f k w p xs := fun i hi => by
 obtain ⟨b, o, h1, _, h2, h3, _⟩ := h i hi
 exact ⟨b, o, h1, h2, h3⟩
theorem SOwn.ext {B : Nat} {w w' : World} {p : Option Addr} {xs : List α} (h : SOwn f k B w p xs) (hb : Ext w w') : SOwn f k B w' p xs := fun i hi => by
 obtain ⟨b, o, h1, hB, h2, h3, h4⟩ := h i hi
 obtain ⟨hc, hf, hk, _⟩ := ecell hb
 exact ⟨b, o, h1, hB, hk _ h2, fun j v hv => by rw [hc _ _ h2]; exact h3 j v hv, fun j => by rw [hf _ _ h2]; exact h4 j⟩
theorem SOwn.mono {B B' : Nat} {w : World} {p : Option Addr} {xs : List α} (h : SOwn f k B w p xs) (hB : B' ≤ B) : SOwn f k B' w p xs := fun i hi => by
 obtain ⟨b, o, h1, h0, h2⟩ := h i hi
 exact ⟨b, o, h1, Nat.le_trans hB h0, h2⟩

def RowS (e : TypeId) (f : α → List Value) (k : Nat) (B : Nat) (w : World) (v : Value) (xs : List α) : Prop := w.ownsRow B e k v xs.length (xs.flatMap f)
variable {e : TypeId} {B : Nat} {w : World} {v : Value} {xs : List α}
theorem RowS.nil (e : TypeId) (B : Nat) (w : World) : RowS e f k B w (.slice none 0 0) [] := World.ownsRow_nil _ _ _ _
theorem RowS.made (e : TypeId) (hB : B ≤ w.heap.size) : RowS e f k B (w.alloc (.cells #[] e)) (.slice (some ⟨w.heap.size, 0, none⟩) 0 0) [] :=
 World.ownsRow_made w #[] 0 hB (by unfold maxLen; omega) (by simp)
theorem RowS.alloc (h : RowS e f k B w v xs) (o : Obj) : RowS e f k B (w.alloc o) v xs := World.ownsRow.alloc h o
theorem RowS.lt (h : RowS e f k B w v xs) : ∀ j, v.ownBlock = some j → B ≤ j ∧ j < w.heap.size := World.ownsRow.lt h
theorem RowS.below {B' : Nat} {w' : World} (h : RowS e f k B w v xs) (hb : Below B' w w') (hB : ∀ k, v.ownBlock = some k → k < B') : RowS e f k B w' v xs := by
 refine ⟨h.1, ?_⟩
 rcases h.2 with h2 | ⟨g, cap, cur, hv, hg, hh, r⟩
 ·exact .inl h2
 ·exact .inr ⟨g, cap, cur, hv, hg, by rw [hb.block g (hB g (by rw [hv]; rfl))]; exact hh, r⟩
theorem RowS.ext {w' : World} (h : RowS e f k B w v xs) (hb : Ext w w') : RowS e f k B w' v xs := h.below hb.below fun k hk => (h.lt k hk).2
theorem RowS.mono {B' : Nat} (h : RowS e f k B w v xs) (hB : B' ≤ B) : RowS e f k B' w v xs := by
 refine ⟨h.1, ?_⟩
 rcases h.2 with h2 | ⟨g, cap, cur, hv, hg, r⟩
 ·exact .inl h2
 ·exact .inr ⟨g, cap, cur, hv, Nat.le_trans hB hg, r⟩
theorem flat_get (hf : ∀ x, (f x).length = k) : ∀ (xs : List α) (i : Nat) (h : i < xs.length) (j : Nat), j < k → (xs.flatMap f)[i * k + j]? = (f (xs[i]'h))[j]?
 | x :: xs, 0, _, j, hj => by
  rw [List.flatMap_cons, Nat.zero_mul, Nat.zero_add, List.getElem?_append_left (by rw [hf]; exact hj)]
  rfl
 | x :: xs, i + 1, h, j, hj => by
  have e : (i + 1) * k + j - k = i * k + j := by rw [Nat.add_mul]; omega
  rw [List.flatMap_cons, List.getElem?_append_right (by rw [hf, Nat.add_mul]; omega), hf, e]
  exact flat_get hf xs i (by simpa using h) j hj
theorem flat_len (hf : ∀ x, (f x).length = k) (xs : List α) : (xs.flatMap f).length = xs.length * k := by
 induction xs with
 | nil => simp
 | cons x xs ih => simp [hf, Nat.add_mul, ih]; omega
theorem RowS.own (hf : ∀ x, (f x).length = k) (h : RowS e f k B w v xs) : ∃ p c, v = .slice p xs.length c ∧ SOwn f k B w p xs := by
 rcases h.2 with ⟨h2, hn⟩ | ⟨g, cap, cur, hv, hg, hh, r⟩
 ·have : xs = [] := List.eq_nil_of_length_eq_zero hn
  subst this
  exact ⟨none, 0, h2, SOwn.nil _ _ _⟩
 ·have h' : w.ownsRow B e k (.slice (some ⟨g, 0, none⟩) xs.length cap) xs.length (xs.flatMap f) := by rw [← hv]; exact h
  refine ⟨some ⟨g, 0, none⟩, cap, hv, fun i hi => ⟨g, 0, rfl, hg, (Array.getElem?_eq_some_iff.1 hh).1, fun j u hu => ?_, fun j => h'.frozenAt j⟩⟩
  have hj : j < k := by rw [← hf (xs[i]'hi)]; exact (List.getElem?_eq_some_iff.1 hu).1
  have hlt : i * k + j < xs.length * k := by
   have := Nat.mul_le_mul_right k (show i + 1 ≤ xs.length from hi)
   rw [Nat.add_mul] at this
   omega
  have := h'.cellAt (i * k + j) hlt
  rw [Nat.zero_add, this, flat_get hf xs i hi j hj]
  exact hu
end

section
variable {α : Type} {f : α → List Value} {k : Nat} {e t : TypeId}
variable {ops : Array Oper} {Q : Exit → Act → World → Prop} {rest : List Oper} {a : Act} {dst : Option Tmp} {s x : Operand} {ty : TypeId} {pos : String} {after : Array Edge} {B : Nat} {w0 : World} {v : Value} {xs : List α} {n : α}
end

open Go.RowKit

def Blk (w : World) (g : Nat) (cs : Array Value) (t : TypeId) : Prop := w.heap[g]? = some (.cells cs t (0, 0))
section
variable {w w' : World} {g : Nat} {cs : Array Value} {t : TypeId}
theorem Blk.lt (h : Blk w g cs t) : g < w.heap.size := (Array.getElem?_eq_some_iff.1 h).1
theorem Blk.cell (h : Blk w g cs t) {i : Nat} {v : Value} (hv : cs[i]? = some v) : w.cell? ⟨g, i, none⟩ = some v := by
 unfold Blk at h
 simp [World.cell?, h, hv]
theorem Blk.c3 {w : World} {g : Nat} {t : TypeId} {v0 v1 v2 : Value} (h : Blk w g #[v0, v1, v2] t) : w.cell? ⟨g, 0, none⟩ = some v0 ∧ w.cell? ⟨g, 1, none⟩ = some v1 ∧ w.cell? ⟨g, 2, none⟩ = some v2 := ⟨h.cell rfl, h.cell rfl, h.cell rfl⟩
theorem Blk.c4 {w : World} {g : Nat} {t : TypeId} {v0 v1 v2 v3 : Value} (h : Blk w g #[v0, v1, v2, v3] t) : w.cell? ⟨g, 0, none⟩ = some v0 ∧ w.cell? ⟨g, 1, none⟩ = some v1 ∧ w.cell? ⟨g, 2, none⟩ = some v2 ∧ w.cell? ⟨g, 3, none⟩ = some v3 := ⟨h.cell rfl, h.cell rfl, h.cell rfl, h.cell rfl⟩
theorem Blk.c5 {w : World} {g : Nat} {t : TypeId} {v0 v1 v2 v3 v4 : Value} (h : Blk w g #[v0, v1, v2, v3, v4] t) : w.cell? ⟨g, 0, none⟩ = some v0 ∧ w.cell? ⟨g, 1, none⟩ = some v1 ∧ w.cell? ⟨g, 2, none⟩ = some v2 ∧ w.cell? ⟨g, 3, none⟩ = some v3 ∧ w.cell? ⟨g, 4, none⟩ = some v4 := ⟨h.cell rfl, h.cell rfl, h.cell rfl, h.cell rfl, h.cell rfl⟩
theorem Blk.c6 {w : World} {g : Nat} {t : TypeId} {v0 v1 v2 v3 v4 v5 : Value} (h : Blk w g #[v0, v1, v2, v3, v4, v5] t) : w.cell? ⟨g, 0, none⟩ = some v0 ∧ w.cell? ⟨g, 1, none⟩ = some v1 ∧ w.cell? ⟨g, 2, none⟩ = some v2 ∧ w.cell? ⟨g, 3, none⟩ = some v3 ∧ w.cell? ⟨g, 4, none⟩ = some v4 ∧ w.cell? ⟨g, 5, none⟩ = some v5 := ⟨h.cell rfl, h.cell rfl, h.cell rfl, h.cell rfl, h.cell rfl, h.cell rfl⟩
theorem Blk.c7 {w : World} {g : Nat} {t : TypeId} {v0 v1 v2 v3 v4 v5 v6 : Value} (h : Blk w g #[v0, v1, v2, v3, v4, v5, v6] t) : w.cell? ⟨g, 0, none⟩ = some v0 ∧ w.cell? ⟨g, 1, none⟩ = some v1 ∧ w.cell? ⟨g, 2, none⟩ = some v2 ∧ w.cell? ⟨g, 3, none⟩ = some v3 ∧ w.cell? ⟨g, 4, none⟩ = some v4 ∧ w.cell? ⟨g, 5, none⟩ = some v5 ∧ w.cell? ⟨g, 6, none⟩ = some v6 := ⟨h.cell rfl, h.cell rfl, h.cell rfl, h.cell rfl, h.cell rfl, h.cell rfl, h.cell rfl⟩
theorem Blk.c8 {w : World} {g : Nat} {t : TypeId} {v0 v1 v2 v3 v4 v5 v6 v7 : Value} (h : Blk w g #[v0, v1, v2, v3, v4, v5, v6, v7] t) : w.cell? ⟨g, 0, none⟩ = some v0 ∧ w.cell? ⟨g, 1, none⟩ = some v1 ∧ w.cell? ⟨g, 2, none⟩ = some v2 ∧ w.cell? ⟨g, 3, none⟩ = some v3 ∧ w.cell? ⟨g, 4, none⟩ = some v4 ∧ w.cell? ⟨g, 5, none⟩ = some v5 ∧ w.cell? ⟨g, 6, none⟩ = some v6 ∧ w.cell? ⟨g, 7, none⟩ = some v7 := ⟨h.cell rfl, h.cell rfl, h.cell rfl, h.cell rfl, h.cell rfl, h.cell rfl, h.cell rfl, h.cell rfl⟩
theorem Blk.free (h : Blk w g cs t) (i : Nat) : w.frozen? ⟨g, i, none⟩ = false := by
 unfold Blk at h
 simp [World.frozen?, h]
theorem Blk.ext (h : Blk w g cs t) (hb : Ext w w') : Blk w' g cs t := (hb.below.block g h.lt).trans h
theorem Blk.low {B : Nat} (h : Blk w g cs t) (hb : Below B w w') (hg : g < B) : Blk w' g cs t := (hb.block g hg).trans h
theorem Blk.drewN (h : Blk w g cs t) (n : Nat) : Blk (w.drewN n) g cs t := h
theorem Blk.drew (h : Blk w g cs t) : Blk w.drew g cs t := h
theorem Blk.alloc (h : Blk w g cs t) (o : Obj) : Blk (w.alloc o) g cs t := h.ext ((Ext.refl w).alloc o)
theorem Blk.new (w : World) (cs : Array Value) (t : TypeId) : Blk (w.alloc (.cells cs t)) w.heap.size cs t := (MapKept.heap_alloc w _).1
theorem Blk.set (h : Blk w g cs t) (i : Nat) (v : Value) : Blk (w.setCell ⟨g, i, none⟩ v) g (cs.setIfInBounds i v) t := by
 have hl := h.lt
 unfold Blk at *
 simp only [World.setCell]
 rw [Array.getElem?_modify, if_pos rfl, h]
 simp
theorem Blk.far (h : Blk w g cs t) {g' i : Nat} (hne : g ≠ g') (v : Value) : Blk (w.setCell ⟨g', i, none⟩ v) g cs t := by
 unfold Blk
 rw [Below.heap_setCell w ⟨g', i, none⟩ v g hne]
 exact h
end

theorem make_blk {ops : Array Oper} {rest : List Oper} {dst : Option Tmp} {ty : TypeId} {pos : String} {after : Array Edge} {a : Act} {w : World} {Q : Exit → Act → World → Prop} {t e : TypeId} {z : Value} {size bytes : Nat} {l c : Operand}
  (ht : Tryz.prog.underlying t = some (.slice e)) (hinfo : (Tryz.prog.info? e).map (fun i => (i.zero, i.size, i.bytes)) = some (some z, size, bytes)) (n : Nat)
  (hl : a.eval l = .int .i64 n) (hc : a.eval c = .int .i64 n) (hb : bytes * n ≤ 281474976710656) (hn : n ≤ 281474976710656)
  (h : wpList Tryz.prog ops Q rest (a.put dst (.slice (some ⟨w.heap.size, 0, none⟩) n n)) (w.alloc (.cells (madeCells z.cells (n * size)) e))) :
  wpList Tryz.prog ops Q (⟨dst, .makeSlice t l c, ty, pos, after, none⟩ :: rest) a w := by
 obtain ⟨i, hi, hzz⟩ := Option.map_eq_some_iff.1 hinfo
 simp only [Prod.mk.injEq] at hzz
 obtain ⟨hz, hs, hb'⟩ := hzz
 subst hs
 refine wpList_plain rfl fun K hK' => ?_
 have hb2 : (i.bytes : Int) * (n : Int) ≤ 281474976710656 := by
  have h : ((i.bytes * n : Nat) : Int) ≤ 281474976710656 := by rw [hb']; omega
  rwa [Int.natCast_mul] at h
 have hr := run_make (P := Tryz.prog) w t e i z ht hi hz .i64 .i64 n n (by omega) (Int.le_refl _) hb2 (by omega)
 simp only [Int.toNat_natCast] at hr
 unfold Oper.wp
 simp [execOp, hl, hc, hr, Result.andThen]
 exact hK' _ _ h
theorem made_get {z : Array Value} {n i : Nat} (h : i < n) : (madeCells z n)[i]? = some (z[i % z.size]!) := by
 simp [madeCells, h]

open Go.RowKit

structure But (g : Nat) (w w' : World) : Prop where
 os : w'.os = w.os
 tape : w'.tape = w.tape
 output : w'.output = w.output
 size : w.heap.size ≤ w'.heap.size
 block : ∀ k, k < w.heap.size → k ≠ g → w'.heap[k]? = w.heap[k]?
section
variable {g : Nat} {a b c : World}
theorem But.refl (g : Nat) (w : World) : But g w w := ⟨rfl, rfl, rfl, Nat.le_refl _, fun _ _ _ => rfl⟩
theorem But.trans (h : But g a b) (k : But g b c) : But g a c :=
 ⟨k.os.trans h.os, k.tape.trans h.tape, k.output.trans h.output, Nat.le_trans h.size k.size, fun i hi hg => (k.block i (Nat.lt_of_lt_of_le hi h.size) hg).trans (h.block i hi hg)⟩
theorem But.drew (h : But g a b) : But g a b.drew := ⟨h.os, h.tape, h.output, h.size, h.block⟩
theorem But.drewN (h : But g a b) (n : Nat) : But g a (b.drewN n) := ⟨h.os, h.tape, h.output, h.size, h.block⟩
theorem But.of (h : Ext a b) : But g a b := ⟨h.os, h.tape, h.output, h.size, fun i hi _ => h.block i hi⟩
theorem But.set (w : World) (g i : Nat) (v : Value) : But g w (w.setCell ⟨g, i, none⟩ v) :=
 ⟨rfl, rfl, rfl, by simp [World.setCell], fun k _ hk => Below.heap_setCell w ⟨g, i, none⟩ v k hk⟩
theorem bucell (h : But g a b) : (∀ k o, k < a.heap.size → k ≠ g → b.cell? ⟨k, o, none⟩ = a.cell? ⟨k, o, none⟩) ∧ (∀ k o, k < a.heap.size → k ≠ g → b.frozen? ⟨k, o, none⟩ = a.frozen? ⟨k, o, none⟩) ∧ (∀ k, k < a.heap.size → k < b.heap.size) ∧ a.heap.size ≤ b.heap.size :=
 ⟨fun k o h1 h2 => World.cell?_of_block (a := ⟨k, o, none⟩) (h.block k h1 h2), fun k o h1 h2 => World.frozen?_of_block (a := ⟨k, o, none⟩) (h.block k h1 h2), fun _ hk => Nat.lt_of_lt_of_le hk h.size, h.size⟩
theorem evB {S : World → Prop} {P : Program} {o : Oper} {a : Act} {v : Value} (h : ∀ w', S w' → (execOp a.eval o).run P w' = .ok (.value v) w' := by (intro w2 hS; first | (go_simp; first | done | rfl) | rfl | (obtain ⟨hc, hf, hk, hz⟩ := bucell hS; go_simp; first | done | rfl))) : ∀ w', S w' → (execOp a.eval o).run P w' = .ok (.value v) w' := h
theorem But.below {B : Nat} (h : But g a b) (k : Below B b c) (hB : a.heap.size ≤ B) : But g a c :=
 ⟨k.os.trans h.os, k.tape.trans h.tape, k.output.trans h.output, Nat.le_trans h.size k.size, fun i hi hg => (k.block i (show i < B by omega)).trans (h.block i hi hg)⟩
theorem Ext.but (h : Ext a b) (k : But g b c) (hg : a.heap.size ≤ g) : Ext a c :=
 ⟨k.os.trans h.os, k.tape.trans h.tape, k.output.trans h.output, Nat.le_trans h.size k.size, fun i hi => (k.block i (Nat.lt_of_lt_of_le hi h.size) (by omega)).trans (h.block i hi)⟩
theorem RowI.but {B : Nat} {v : Value} {xs : List Int} (h : RowI B a v xs) (k : But g a b) (hg : g < B) : RowI B b v xs := by
 refine ⟨h.1, ?_⟩
 rcases h.2 with h2 | ⟨g', cap, cur, hv, hg', hh, r⟩
 ·exact .inl h2
 ·exact .inr ⟨g', cap, cur, hv, hg', by rw [k.block g' (Array.getElem?_eq_some_iff.1 hh).1 (by omega)]; exact hh, r⟩
theorem Blk.but {g' : Nat} {cs : Array Value} {t : TypeId} (h : Blk a g' cs t) (k : But g a b) (hne : g' ≠ g) : Blk b g' cs t := (k.block g' h.lt hne).trans h
end
open Go.RowKit

section
variable {α : Type} {f : α → List Value} {k : Nat} {e t : TypeId}
variable {Q : Exit → Act → World → Prop} {K : Act → World → Prop} {a : Act} {dst : Option Tmp} {s x : Operand} {ty : TypeId} {pos : String} {after : Array Edge} {B : Nat} {w0 : World} {v : Value} {xs : List α} {n : α}
end

open Go.RowKit

def putL (cs : Array Value) (o : Nat) : List Value → Array Value
 | [] => cs
 | v :: vs => putL (cs.setIfInBounds o v) (o + 1) vs
theorem putL_size (vs : List Value) : ∀ (cs : Array Value) (o : Nat), (putL cs o vs).size = cs.size := by
 induction vs with
 | nil => intro cs o; rfl
 | cons v vs ih => intro cs o; rw [putL, ih]; simp
theorem putL_far (vs : List Value) : ∀ (cs : Array Value) (o i : Nat), (i < o ∨ o + vs.length ≤ i) → (putL cs o vs)[i]? = cs[i]? := by
 induction vs with
 | nil => intro cs o i _; rfl
 | cons v vs ih =>
  intro cs o i h
  simp only [List.length_cons] at h
  rw [putL, ih _ _ _ (by omega), Array.getElem?_setIfInBounds_ne (by omega)]
theorem putL_at (vs : List Value) : ∀ (cs : Array Value) (o j : Nat), o + vs.length ≤ cs.size → j < vs.length → (putL cs o vs)[o + j]? = vs[j]? := by
 induction vs with
 | nil => intro cs o j _ h; simp at h
 | cons v vs ih =>
  intro cs o j h hj
  simp only [List.length_cons] at h hj
  rw [putL]
  cases j with
  | zero =>
   rw [putL_far _ _ _ _ (by omega), Nat.add_zero, Array.getElem?_setIfInBounds_self_of_lt (by omega)]
   rfl
  | succ j =>
   rw [show o + (j + 1) = o + 1 + j by omega, ih _ _ _ (by simp; omega) (by omega)]
   rfl

def TabS {α : Type} (f : α → List Value) (k : Nat) (xs : List α) (cs : Array Value) (i : Nat) : Prop :=
 cs.size = xs.length * k ∧ ∀ j (h : j < xs.length), j < i → ∀ q, q < k → cs[j * k + q]? = (f (xs[j]'h))[q]?
section
variable {α : Type} {f : α → List Value} {k : Nat} {xs : List α} {cs : Array Value} {i : Nat}
theorem TabS.step (hf : ∀ x, (f x).length = k) (h : TabS f k xs cs i) (hi : i < xs.length) : TabS f k xs (putL cs (i * k) (f (xs[i]'hi))) (i + 1) := by
 have hb : i * k + k ≤ xs.length * k := by
  have := Nat.mul_le_mul_right k (show i + 1 ≤ xs.length from hi)
  rwa [Nat.add_mul, Nat.one_mul] at this
 refine ⟨by rw [putL_size]; exact h.1, fun j hj hji q hq => ?_⟩
 by_cases e : j = i
 ·subst e
  exact putL_at _ _ _ _ (by rw [hf, h.1]; exact hb) (by rw [hf]; exact hq)
 ·have hlt : j < i := by omega
  have : j * k + k ≤ i * k := by
   have := Nat.mul_le_mul_right k (show j + 1 ≤ i from hlt)
   rwa [Nat.add_mul, Nat.one_mul] at this
  rw [putL_far _ _ _ _ (by omega)]
  exact h.2 j hj hlt q hq
theorem TabS.own {B : Nat} {w : World} {g : Nat} {t : TypeId} (h : TabS f k xs cs xs.length) (hf : ∀ x, (f x).length = k) (hb : Blk w g cs t) (hB : B ≤ g) : SOwn f k B w (some ⟨g, 0, none⟩) xs := by
 intro j hj
 refine ⟨g, 0, rfl, hB, hb.lt, fun q v hq => ?_, fun q => hb.free q⟩
 have hqk : q < k := by rw [← hf (xs[j]'hj)]; exact (List.getElem?_eq_some_iff.1 hq).1
 rw [Nat.zero_add]
 exact hb.cell ((h.2 j hj hj q hqk).trans hq)
end

open Go.RowKit

def OwnCells (B : Nat) (w : World) (p : Option Addr) (cs : List Value) : Prop :=
 ∀ i (h : i < cs.length), ∃ b o, p = some ⟨b, o, none⟩ ∧ B ≤ b ∧ b < w.heap.size ∧ w.cell? ⟨b, o + i, none⟩ = some (cs[i]'h) ∧ w.frozen? ⟨b, o + i, none⟩ = false
theorem OwnCells.nil (B : Nat) (w : World) (p : Option Addr) : OwnCells B w p [] := fun i hi => absurd hi (Nat.not_lt_zero i)
theorem OwnCells.ext {B : Nat} {w w' : World} {p : Option Addr} {cs : List Value} (h : OwnCells B w p cs) (hb : Ext w w') : OwnCells B w' p cs := fun i hi => by
 obtain ⟨b, o, h1, hB, h2, h3, h4⟩ := h i hi
 obtain ⟨hc, hf, hk, _⟩ := ecell hb
 exact ⟨b, o, h1, hB, hk _ h2, by rw [hc _ _ h2]; exact h3, by rw [hf _ _ h2]; exact h4⟩
theorem OwnCells.mono {B B' : Nat} {w : World} {p : Option Addr} {cs : List Value} (h : OwnCells B w p cs) (hB : B' ≤ B) : OwnCells B' w p cs := fun i hi => by
 obtain ⟨b, o, h1, h0, h2⟩ := h i hi
 exact ⟨b, o, h1, Nat.le_trans hB h0, h2⟩
theorem OwnCells.lt0 {B b o : Nat} {w : World} {p : Option Addr} {cs : List Value} (h : OwnCells B w p cs) (hn : 0 < cs.length) (hp : p = some ⟨b, o, none⟩) : B ≤ b ∧ b < w.heap.size := by
 obtain ⟨b', o', h1, h2, h3, _⟩ := h 0 hn
 rw [hp] at h1
 simp at h1
 omega
theorem OwnCells.keep {B : Nat} {w w' : World} {q : Option Addr} {cs : List Value} (h : OwnCells B w q cs) (hs : w.heap.size ≤ w'.heap.size) (hk : ∀ b o, 0 < cs.length → q = some ⟨b, o, none⟩ → b < w.heap.size → w'.heap[b]? = w.heap[b]?) : OwnCells B w' q cs := fun i hi => by
 obtain ⟨b, o, h1, hB, h2, h3, h4⟩ := h i hi
 exact ⟨b, o, h1, hB, Nat.lt_of_lt_of_le h2 hs, (World.cell?_of_block (a := ⟨b, o + i, none⟩) (hk b o (by omega) h1 h2)).trans h3, (World.frozen?_of_block (a := ⟨b, o + i, none⟩) (hk b o (by omega) h1 h2)).trans h4⟩
theorem OwnCells.set {B : Nat} {w : World} {p : Option Addr} {cs : List Value} (h : OwnCells B w p cs) {k b o : Nat} (hp : p = some ⟨b, o, none⟩) (hk : k < cs.length) (v : Value) :
  OwnCells B (w.setCell ⟨b, o + k, none⟩ v) p (cs.set k v) := fun i hi => by
 rw [List.length_set] at hi
 obtain ⟨b', o', h1, hB, h2, h3, h4⟩ := h i hi
 have e : b' = b ∧ o' = o := by rw [hp] at h1; simp at h1; omega
 obtain ⟨rfl, rfl⟩ := e
 refine ⟨b', o', hp, hB, by simpa [World.setCell] using h2, ?_, by rw [World.frozen?_setCell]; exact h4⟩
 by_cases e : i = k
 ·subst e
  rw [World.cell?_setCell_same w _ _ h3]
  simp
 ·rw [World.cell?_setCell_other w _ _ _ (by simp <;> omega), h3]
  rw [List.getElem_set_ne (Ne.symm e)]
section
variable {α : Type} {f : α → List Value} {k B : Nat} {w : World} {p : Option Addr} {xs : List α}
theorem SOwn.cells (hf : ∀ x, (f x).length = k) (h : SOwn f k B w p xs) : OwnCells B w p (xs.flatMap f) := fun i hi => by
 rw [flat_len hf] at hi
 have hk : 0 < k := by
  rcases Nat.eq_zero_or_pos k with e | e
  ·subst e; simp at hi
  ·exact e
 have hq : i / k < xs.length := Nat.div_lt_of_lt_mul (by rwa [Nat.mul_comm] at hi)
 have hr : i % k < k := Nat.mod_lt _ hk
 have he : i = i / k * k + i % k := by have := Nat.div_add_mod i k; rw [Nat.mul_comm] at this; omega
 obtain ⟨b, o, h1, hB, h2, h3, h4⟩ := h (i / k) hq
 refine ⟨b, o, h1, hB, h2, ?_, h4 _⟩
 have hg := flat_get hf xs (i / k) hq (i % k) hr
 rw [← he] at hg
 have := h3 (i % k) _ (by rw [← hg]; exact List.getElem?_eq_getElem (by rw [flat_len hf]; exact hi))
 rwa [Nat.add_assoc, ← he] at this
theorem OwnCells.sat (hf : ∀ x, (f x).length = k) (hk : 0 < k) (h : OwnCells B w p (xs.flatMap f)) : SAt f k w p xs := fun i hi => by
 have hb : i * k + k ≤ xs.length * k := by
  have := Nat.mul_le_mul_right k (show i + 1 ≤ xs.length from hi)
  rwa [Nat.add_mul, Nat.one_mul] at this
 obtain ⟨b, o, h1, hB, h2, _⟩ := h (i * k) (by rw [flat_len hf]; omega)
 refine ⟨b, o, h1, h2, fun j v hv => ?_⟩
 have hj : j < k := by rw [← hf (xs[i]'hi)]; exact (List.getElem?_eq_some_iff.1 hv).1
 obtain ⟨b', o', h1', _, _, h3, _⟩ := h (i * k + j) (by rw [flat_len hf]; omega)
 rw [h1] at h1'
 simp at h1'
 obtain ⟨rfl, rfl⟩ := h1'
 rw [Nat.add_assoc, h3]
 have := flat_get hf xs i hi j hj
 rw [List.getElem?_eq_getElem (by rw [flat_len hf]; omega), hv] at this
 exact this
end

def Marked (B : Nat) (p : Option Addr) (n : Nat) (w w' : World) : Prop :=
 Below B w w' ∧ ∀ k, k < w.heap.size → (∀ b o, 0 < n → p = some ⟨b, o, none⟩ → b ≠ k) → w'.heap[k]? = w.heap[k]?
section
variable {B n : Nat} {p : Option Addr} {w w' w'' : World}
theorem Marked.refl (B : Nat) (p : Option Addr) (n : Nat) (w : World) : Marked B p n w w := ⟨Below.refl _ _, fun _ _ _ => rfl⟩
theorem Marked.ext (h : Marked B p n w w') (k : Ext w' w'') (hB : B ≤ w'.heap.size) : Marked B p n w w'' :=
 ⟨h.1.trans (k.below.mono hB), fun i hi hd => (k.below.block i (Nat.lt_of_lt_of_le hi h.1.size)).trans (h.2 i hi hd)⟩
theorem Marked.set (h : Marked B p n w w') {b o j : Nat} (hp : p = some ⟨b, o, none⟩) (hn : 0 < n) (hB : B ≤ b) (v : Value) : Marked B p n w (w'.setCell ⟨b, j, none⟩ v) :=
 ⟨h.1.setCell hB v, fun i hi hd => (Below.heap_setCell w' ⟨b, j, none⟩ v i (fun e => hd b o hn hp e.symm)).trans (h.2 i hi hd)⟩
end

end Go.Proofs.YtdnkljpnhmcnpaaGreat
