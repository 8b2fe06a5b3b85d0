/- Slices of whole numbers: equality, marks, copies. Contracts of the laws' helpers. -/
import Derived.Test.YtekignklnakkaaaGreatDoorLDamagedElementsK00
import Derived.Lib.AppendStr
import Derived.Laws.IdiomStrings
import Derived.Lib.BufferRead
set_option linter.unusedVariables false
set_option linter.unusedSimpArgs false
namespace Go.Proofs.YtekignklnakkaaaGreatDoor
open Go.RowKit

def OwnInts (B : Nat) (w : World) (p : Option Addr) (xs : List Int) : Prop :=
  ∀ i, i < xs.length → ∃ b o, p = some ⟨b, o, none⟩ ∧ B ≤ b ∧ b < w.heap.size ∧ w.cell? ⟨b, o + i, none⟩ = some (.int .i64 (xs.getD i 0)) ∧ w.frozen? ⟨b, o + i, none⟩ = false
theorem OwnInts.ints {B : Nat} {w : World} {p : Option Addr} {xs : List Int} (h : OwnInts B w p xs) : IntsAt w p xs := fun i hi => by
  obtain ⟨b, o, h1, _, h2, h3, _⟩ := h i hi
  exact ⟨b, o, h1, h2, h3⟩
theorem OwnInts.nil (B : Nat) (w : World) (p : Option Addr) : OwnInts B w p [] := fun i hi => absurd hi (Nat.not_lt_zero i)
theorem OwnInts.ext {B : Nat} {w w' : World} {p : Option Addr} {xs : List Int} (h : OwnInts B w p xs) (hb : Ext w w') : OwnInts B w' p xs := fun i hi => by
  obtain ⟨b, o, h1, hB, h2, h3, h4⟩ := h i hi
  obtain ⟨hc, hf, hk, _⟩ := ecell hb
  exact ⟨b, o, h1, hB, hk _ h2, by rw [hc _ _ h2]; exact h3, by rw [hf _ _ h2]; exact h4⟩
theorem OwnInts.mono {B B' : Nat} {w : World} {p : Option Addr} {xs : List Int} (h : OwnInts B w p xs) (hB : B' ≤ B) : OwnInts B' w p xs := fun i hi => by
  obtain ⟨b, o, h1, h0, h2⟩ := h i hi
  exact ⟨b, o, h1, Nat.le_trans hB h0, h2⟩

def Wrote (p : Option Addr) (w w' : World) : Prop :=
  w'.os = w.os ∧ w'.tape = w.tape ∧ w'.output = w.output ∧ w'.heap.size = w.heap.size ∧ ∀ k, (∀ a, p = some a → a.block ≠ k) → w'.heap[k]? = w.heap[k]?
theorem Wrote.refl (p : Option Addr) (w : World) : Wrote p w w := ⟨rfl, rfl, rfl, rfl, fun _ _ => rfl⟩
theorem Wrote.setCell {p : Option Addr} {w w' : World} (h : Wrote p w w') {b o o' : Nat} (hp : p = some ⟨b, o, none⟩) (v : Value) : Wrote p w (w'.setCell ⟨b, o', none⟩ v) := by
  obtain ⟨h1, h2, h3, h4, h5⟩ := h
  refine ⟨h1, h2, h3, by simpa [World.setCell] using h4, fun k hk => ?_⟩
  rw [Below.heap_setCell w' ⟨b, o', none⟩ v k (fun e => hk _ hp e.symm)]
  exact h5 k hk
theorem Wrote.ints {p q : Option Addr} {w w' : World} {ys : List Int} (h : Wrote p w w') (hy : IntsAt w q ys) (hd : ∀ a c, p = some a → q = some c → a.block ≠ c.block) : IntsAt w' q ys := fun i hi => by
  obtain ⟨b, o, h1, h2, h3⟩ := hy i hi
  obtain ⟨_, _, _, h4, h5⟩ := h
  exact ⟨b, o, h1, by omega, by rw [World.cell?_of_block (w := w) (a := ⟨b, o + i, none⟩) (h5 b fun a ha => hd a _ ha h1)]; exact h3⟩
theorem Wrote.ext {p : Option Addr} {w w0 w' : World} (h : Wrote p w w') (hx : Ext w0 w) (hB : ∀ a, p = some a → w0.heap.size ≤ a.block) : Ext w0 w' := by
  obtain ⟨h1, h2, h3, h4, h5⟩ := h
  have hx' := hx.below
  refine ⟨h1.trans hx'.os, h2.trans hx'.tape, h3.trans hx'.output, by rw [h4]; exact hx'.size, fun k hk => ?_⟩
  rw [h5 k fun a ha => by have := hB a ha; omega]
  exact hx'.block k hk
theorem OwnInts.set {B : Nat} {w : World} {p : Option Addr} {xs : List Int} (h : OwnInts B w p xs) {k b o : Nat} (hp : p = some ⟨b, o, none⟩) (hk : k < xs.length) (v : Int) :
    OwnInts B (w.setCell ⟨b, o + k, none⟩ (.int .i64 v)) p (xs.set k v) := fun i hi => by
  rw [List.length_set] at hi
  obtain ⟨b', o', h1, hB, h2, h3, h4⟩ := h i hi
  have e : b' = b ∧ o' = o := by rw [hp] at h1; simp at h1; omega
  obtain ⟨rfl, rfl⟩ := e
  refine ⟨b', o', hp, hB, by simpa [World.setCell] using h2, ?_, by rw [World.frozen?_setCell]; exact h4⟩
  by_cases e : i = k
  · subst e
    rw [World.cell?_setCell_same w _ _ h3]
    simp [hk]
  · rw [World.cell?_setCell_other w _ _ _ (by simp <;> omega), h3]
    simp [List.getElem?_set_ne (Ne.symm e)]

def marksL (k : Int) (n : Nat) : List Int := (List.range n).map fun i => k + (i : Nat)
theorem marksL_length (k : Int) (n : Nat) : (marksL k n).length = n := by simp [marksL]
theorem marksL_get (k : Int) (n i : Nat) (h : i < n) : (marksL k n).getD i 0 = k + i := by
  simp [marksL, h]
def markedTo (k : Int) (i : Nat) (xs : List Int) : List Int := marksL k i ++ xs.drop i
theorem markedTo_length (k : Int) (i : Nat) (xs : List Int) (h : i ≤ xs.length) : (markedTo k i xs).length = xs.length := by
  simp [markedTo, marksL_length]; omega
theorem markedTo_set (k : Int) (i : Nat) (xs : List Int) (h : i < xs.length) : (markedTo k i xs).set i (k + i) = markedTo k (i + 1) xs := by
  unfold markedTo
  rw [List.set_append]
  simp [marksL_length, marksL, List.range_succ]
  rw [List.drop_eq_getElem_cons h]
  rfl
theorem markedTo_zero (k : Int) (xs : List Int) : markedTo k 0 xs = xs := by simp [markedTo, marksL]
theorem markedTo_all (k : Int) (xs : List Int) : markedTo k xs.length xs = marksL k xs.length := by simp [markedTo]

theorem eqInt64S_c (p q : Option Addr) (c d : Nat) (xs ys : List Int) (w : World) (hx : IntsAt w p xs) (hy : IntsAt w q ys) (hl : xs.length ≤ 1099511627776) (hl2 : ys.length ≤ 1099511627776) :
    Calls Tryz.prog 23 #[.slice p xs.length c, .slice q ys.length d] w fun e w' => isB e (xs = ys) ∧ ∃ n, w' = w.drewN n := by
  by_cases hlen : xs.length = ys.length
  · have HL := Lib.hid hlen
    have hl3 : (((xs.length : Int)) != ys.length) = false := by simp [hlen]
    clear hlen
    go_enter Tryz.func23, Tryz.ntmps23
    go_wp2
    go_loopw [5] (fun i wr => ∃ k : Nat, k ≤ xs.length ∧ i = .int .i64 k ∧ Hid (xs.take k = ys.take k) ∧ ∃ n, wr = w.drewN n) (fun i _ => xs.length - (intOf i).toNat)
    case atStart => exact ⟨0, Nat.zero_le _, rfl, rfl, 0, rfl⟩
    case round =>
      obtain ⟨k, hk, rfl, HE, n, rfl⟩ := hrel
      by_cases hlt : k < xs.length
      · have hlt2 : k < ys.length := by have := HL.out; omega
        obtain ⟨b, o, rfl, _, h1⟩ := hx k hlt
        obtain ⟨b2, o2, rfl, _, h2⟩ := hy k hlt2
        clear hx hy
        go_wp2
        go_quiet (fail)
        go_wp2
        · have hne : xs[k] ≠ ys[k] := by simpa using (by assumption : (xs[k] != ys[k]) = true)
          go_ret
          exact ⟨isB_f (fun h => hne (by subst h; rfl)), n + nq, World.drewN_drewN ..⟩
        · have he : xs[k] = ys[k] := by simpa using (by assumption : (xs[k] != ys[k]) = false)
          go_roundw
          case rel => exact ⟨k + 1, hlt, by go_num, by show _ = _; rw [List.take_succ_eq_append_getElem hlt, List.take_succ_eq_append_getElem hlt2, HE.out, he], n + nq, by simp⟩
          case measure => simp [intOf]; omega
      · clear hx hy
        go_wp2
        go_ret
        refine ⟨isB_t ?_, _, rfl⟩
        have h1 := HE.out
        have h2 := HL.out
        rwa [List.take_of_length_le (by omega), List.take_of_length_le (by omega)] at h1
  · have hl3 : (((xs.length : Int)) != ys.length) = true := by simp; omega
    clear hx hy
    have HL := Lib.hid hlen; clear hlen
    go_enter Tryz.func23, Tryz.ntmps23
    go_wp2
    go_ret
    exact ⟨isB_f (fun h => HL.out (by rw [h])), 0, rfl⟩

theorem heldInt64S_c (p : Option Addr) (c : Nat) (k0 : Int) (n : Nat) (w : World) (hx : IntsAt w p (marksL k0 n)) (hl : n ≤ 1099511627776) (hk : 0 ≤ k0 ∧ k0 ≤ 4611686018427387904) :
    Calls Tryz.prog 27 #[.slice p n c, .int .i64 k0] w fun e w' => e = .returned (.int .i64 (k0 + n)) ∧ w = w' := by
  go_enter Tryz.func27, Tryz.ntmps27
  go_wp2
  go_loop [1, 5] (fun kk i => ∃ k : Nat, k ≤ n ∧ i = .int .i64 k ∧ kk = .int .i64 (k0 + k)) (fun _ i => n - (intOf i).toNat)
  case atStart => exact ⟨0, Nat.zero_le _, rfl, by simp⟩
  case round =>
    obtain ⟨k, hkn, rfl, rfl⟩ := hrel
    by_cases hlt : k < n
    · obtain ⟨b, o, rfl, _, h1⟩ := hx k (by rw [marksL_length]; exact hlt)
      rw [marksL_get _ _ _ hlt] at h1
      clear hx
      go_wp2
      go_round
      case rel => exact ⟨k + 1, hlt, by go_num, by go_num⟩
      case measure => simp [intOf]; omega
    · clear hx
      go_wp2
      go_ret
      exact ⟨ret_int (by omega), rfl⟩

theorem markInt64S_c (B : Nat) (p : Option Addr) (c : Nat) (k0 : Int) (xs : List Int) (w : World) (hx : OwnInts B w p xs) (hl : xs.length ≤ 1099511627776) (hk : 0 ≤ k0 ∧ k0 ≤ 4611686018427387904) :
    Calls Tryz.prog 26 #[.slice p xs.length c, .int .i64 k0] w fun e w' => e = .returned (.int .i64 (k0 + xs.length)) ∧ OwnInts B w' p (marksL k0 xs.length) ∧ Wrote p w w' ∧ Below B w w' := by
  go_enter Tryz.func26, Tryz.ntmps26
  go_wp2
  go_loopw [1, 5] (fun kk i wr => ∃ k : Nat, k ≤ xs.length ∧ i = .int .i64 k ∧ kk = .int .i64 (k0 + k) ∧ OwnInts B wr p (markedTo k0 k xs) ∧ Wrote p w wr ∧ Below B w wr) (fun _ i _ => xs.length - (intOf i).toNat)
  case atStart => exact ⟨0, Nat.zero_le _, rfl, by simp, by rw [markedTo_zero]; exact hx, Wrote.refl _ _, Below.refl _ _⟩
  case round =>
    obtain ⟨k, hkn, rfl, rfl, hown, hwr, hbl⟩ := hrel
    by_cases hlt : k < xs.length
    · have hkl : k < (markedTo k0 k xs).length := by rw [markedTo_length _ _ _ hkn]; exact hlt
      obtain ⟨b, o, hp, hB, hb, h1, h2⟩ := hown k hkl
      have hset := hown.set hp hkl (k0 + k)
      rw [markedTo_set _ _ _ hlt] at hset
      have hw2 := hwr.setCell hp (.int .i64 (k0 + k)) (o' := o + k)
      have hb2 := hbl.setCell (p := ⟨b, o + k, none⟩) hB (.int .i64 (k0 + k))
      subst hp
      clear hx hown hwr hbl
      go_wp2
      go_roundw
      case rel => exact ⟨k + 1, hlt, by go_num, by go_num, hset, hw2, hb2⟩
      case measure => simp [intOf]; omega
    · have : k = xs.length := by omega
      subst this
      rw [markedTo_all] at hown
      clear hx
      go_wp2
      go_ret
      exact ⟨ret_int rfl, hown, hwr, hbl⟩

theorem IntsAt.below {B : Nat} {q : Option Addr} {w1 w w' : World} {ys : List Int} (hq : IntsAt w1 q ys) (hx : Ext w1 w) (hb : Below B w w') (hB : w1.heap.size ≤ B) : IntsAt w' q ys := hq.ext (hx.low hb hB)

end Go.Proofs.YtekignklnakkaaaGreatDoor

namespace Go.Proofs.YtekignklnakkaaaGreatDoor
open Go.RowKit

theorem infoInt : (Tryz.prog.info? 2).map (fun i => (i.zero, i.size, i.bytes)) = some (some (.int .i64 0), 1, 8) := by kernel_rfl

def RowI (B : Nat) (w : World) (v : Value) (xs : List Int) : Prop := w.ownsRow B 2 1 v xs.length (xs.map (Value.int .i64))

theorem RowI.nil (B : Nat) (w : World) : RowI B w (.slice none 0 0) [] := World.ownsRow_nil _ _ _ _
theorem RowI.alloc {B : Nat} {w : World} {v : Value} {xs : List Int} (h : RowI B w v xs) (o : Obj) : RowI B (w.alloc o) v xs := World.ownsRow.alloc h o
theorem RowI.lt {B : Nat} {w : World} {v : Value} {xs : List Int} (h : RowI B w v xs) : ∀ k, v.ownBlock = some k → B ≤ k ∧ k < w.heap.size := World.ownsRow.lt h
theorem RowI.mono {B B' : Nat} {w : World} {v : Value} {xs : List Int} (h : RowI B w v xs) (hB : B' ≤ B) : RowI B' w v xs := by
  refine ⟨h.1, ?_⟩
  rcases h.2 with h2 | ⟨g, cap, cur, hv, hg, r⟩
  · exact .inl h2
  · exact .inr ⟨g, cap, cur, hv, Nat.le_trans hB hg, r⟩
theorem RowI.below {B B' : Nat} {w w' : World} {v : Value} {xs : List Int} (h : RowI B w v xs) (hb : Below B' w w') (hB : ∀ k, v.ownBlock = some k → k < B') : RowI B w' v xs := by
  refine ⟨h.1, ?_⟩
  rcases h.2 with h2 | ⟨g, cap, cur, hv, hg, hh, r⟩
  · exact .inl h2
  · exact .inr ⟨g, cap, cur, hv, hg, by rw [hb.block g (hB g (by rw [hv]; rfl))]; exact hh, r⟩
theorem RowI.ext {B : Nat} {w w' : World} {v : Value} {xs : List Int} (h : RowI B w v xs) (hb : Ext w w') : RowI B w' v xs :=
  h.below hb.below fun k hk => (h.lt k hk).2
theorem RowI.drewN {B : Nat} {w : World} {v : Value} {xs : List Int} (h : RowI B w v xs) (n : Nat) : RowI B (w.drewN n) v xs := h
theorem RowI.own {B : Nat} {w : World} {v : Value} {xs : List Int} (h : RowI B w v xs) : ∃ p c, v = .slice p xs.length c ∧ OwnInts B w p xs := by
  rcases h.2 with ⟨h2, hn⟩ | ⟨g, cap, cur, hv, hg, hh, r⟩
  · have : xs = [] := List.eq_nil_of_length_eq_zero hn
    subst this
    exact ⟨none, 0, h2, OwnInts.nil _ _ _⟩
  · refine ⟨some ⟨g, 0, none⟩, cap, hv, fun i hi => ⟨g, 0, rfl, hg, ?_, ?_, ?_⟩⟩
    · exact (Array.getElem?_eq_some_iff.1 hh).1
    · have h' : w.ownsRow B 2 1 (.slice (some ⟨g, 0, none⟩) xs.length cap) xs.length (xs.map (Value.int .i64)) := by rw [← hv]; exact h
      have := h'.cellAt i (by omega)
      rw [Nat.zero_add, this]
      simp [hi]
    · have h' : w.ownsRow B 2 1 (.slice (some ⟨g, 0, none⟩) xs.length cap) xs.length (xs.map (Value.int .i64)) := by rw [← hv]; exact h
      exact h'.frozenAt _

theorem RowI.ownC {B : Nat} {w : World} {v : Value} {xs : List Int} (h : RowI B w v xs) : ∃ p c, v = .slice p xs.length c ∧ OwnInts B w p xs ∧ xs.length ≤ c := by
  obtain ⟨p, c, hv, ho⟩ := h.own
  refine ⟨p, c, hv, ho, ?_⟩
  rcases h.2 with ⟨h2, hn⟩ | ⟨g, cap, cur, h2, _, _, hc, _⟩
  · omega
  · rw [hv] at h2
    simp at h2
    omega
theorem RowI.made {B : Nat} {w : World} (hB : B ≤ w.heap.size) : RowI B (w.alloc (.cells #[] 2)) (.slice (some ⟨w.heap.size, 0, none⟩) 0 0) [] :=
  World.ownsRow_made w #[] 0 hB (by unfold maxLen; omega) rfl

section
variable {ops : Array Oper} {Q : Exit → Act → World → Prop} {rest : List Oper} {a : Act} {dst : Option Tmp} {s x : Operand} {ty : TypeId} {pos : String} {after : Array Edge} {B : Nat} {w0 : World} {v : Value} {xs : List Int} {n : Int}
theorem append1I (hown : RowI B w0 v xs) (hlen : xs.length < 1099511627776) (hB : B ≤ w0.heap.size)
    (h : ∀ v' w', RowI B w' v' (xs ++ [n]) → Below B w0 w' → wpList Tryz.prog ops Q rest (a.put dst v') w') (hs : a.eval s = v) (hx : a.eval x = .slice (some ⟨w0.heap.size, 0, none⟩) 1 1) :
    wpList Tryz.prog ops Q (⟨dst, .call { callee := .builtin .append, args := #[s, x], argTypes := #[24, 24] }, ty, pos, after, none⟩ :: rest) a (w0.alloc (.cells #[.int .i64 n] 2)) := by
  obtain ⟨i0, hi, hz0, hz1, hz2⟩ := info_parts infoInt
  refine wpList_append_own _ rfl s x 24 rfl B 2 i0 (.int .i64 0) 1 8 Tryz.underlying24 hi hz0 hz1 hz2 rfl (by decide) v xs.length (xs.map (Value.int .i64)) hs (World.ownsRow.alloc hown _) ⟨w0.heap.size, 0, none⟩ 1 1 [.int .i64 n] hx rfl ?_ ?_ ?_ ?_ ?_ ?_
  · intro j u hj
    match j, hj with
    | 0, hj =>
      simp at hj
      subst hj
      have : (w0.alloc (.cells #[.int .i64 n] 2)).heap[w0.heap.size]? = some (.cells #[.int .i64 n] 2) := (MapKept.heap_alloc w0 _).1
      simp only [World.cell?, Addr.add, if_true, this]
      rfl
    | j + 1, hj => simp at hj
  · intro u hu
    simp at hu
    subst hu
    rfl
  · unfold maxLen; omega
  · omega
  · simp; omega
  · intro v' w' h1 h2 _
    refine h v' w' ?_ ?_
    · have e : (xs ++ [n]).length = xs.length + 1 := by simp
      unfold RowI
      rw [e]
      simpa using h1
    · exact Below.grown ((Below.refl B w0).alloc hB _) h2 (by simp; omega) (fun k hk => (hown.lt k hk).1)
end

end Go.Proofs.YtekignklnakkaaaGreatDoor

namespace Go.Proofs.YtekignklnakkaaaGreatDoor
open Go.RowKit

theorem OwnInts.lt0 {B b o : Nat} {w : World} {p : Option Addr} {xs : List Int} (h : OwnInts B w p xs) (hn : xs ≠ []) (hp : p = some ⟨b, o, none⟩) : B ≤ b ∧ b < w.heap.size := by
  obtain ⟨b', o', h1, h2, h3, _⟩ := h 0 (List.length_pos_iff.2 hn)
  rw [hp] at h1
  simp at h1
  omega
theorem IntsAt.keep {w w' : World} {q : Option Addr} {ys : List Int} (h : IntsAt w q ys) (hs : w.heap.size ≤ w'.heap.size) (hk : ∀ b o, ys ≠ [] → q = some ⟨b, o, none⟩ → b < w.heap.size → w'.heap[b]? = w.heap[b]?) : IntsAt w' q ys := fun i hi => by
  obtain ⟨b, o, h1, h2, h3⟩ := h i hi
  have hn : ys ≠ [] := fun e => by subst e; simp at hi
  exact ⟨b, o, h1, Nat.lt_of_lt_of_le h2 hs, (World.cell?_of_block (a := ⟨b, o + i, none⟩) (hk b o hn h1 h2)).trans h3⟩
theorem OwnInts.keep {B : Nat} {w w' : World} {q : Option Addr} {ys : List Int} (h : OwnInts B w q ys) (hs : w.heap.size ≤ w'.heap.size) (hk : ∀ b o, ys ≠ [] → q = some ⟨b, o, none⟩ → b < w.heap.size → w'.heap[b]? = w.heap[b]?) : OwnInts B w' q ys := fun i hi => by
  obtain ⟨b, o, h1, hB, h2, h3, h4⟩ := h i hi
  have hn : ys ≠ [] := fun e => by subst e; simp at hi
  exact ⟨b, o, h1, hB, Nat.lt_of_lt_of_le h2 hs, (World.cell?_of_block (a := ⟨b, o + i, none⟩) (hk b o hn h1 h2)).trans h3, (World.frozen?_of_block (a := ⟨b, o + i, none⟩) (hk b o hn h1 h2)).trans h4⟩
theorem mark_c (B : Nat) (p : Option Addr) (c : Nat) (k0 : Int) (xs : List Int) (w : World) (hx : OwnInts B w p xs) (hl : xs.length ≤ 1099511627776) (hk : 0 ≤ k0 ∧ k0 ≤ 4611686018427387904) :
    Calls Tryz.prog 26 #[.slice p xs.length c, .int .i64 k0] w fun e w' => e = .returned (.int .i64 (k0 + xs.length)) ∧ OwnInts B w' p (marksL k0 xs.length) ∧ Below B w w' ∧
      ∀ k, k < w.heap.size → (∀ b o, xs ≠ [] → p = some ⟨b, o, none⟩ → b ≠ k) → w'.heap[k]? = w.heap[k]? := by
  by_cases h : xs = []
  · subst h
    refine (markInt64S_c w.heap.size p c k0 [] w (OwnInts.nil _ _ _) hl hk).mono ?_
    rintro e w' ⟨h1, h2, h3, h4⟩
    by_cases hB : B ≤ w.heap.size
    · exact ⟨h1, h2.mono hB, h4.mono hB, fun k hk _ => h4.block k hk⟩
    · refine ⟨h1, OwnInts.nil _ _ _, ?_, fun k hk _ => h4.block k hk⟩
      refine ⟨h4.os, h4.tape, h4.output, h4.size, fun k hk => ?_⟩
      by_cases hkk : k < w.heap.size
      · exact h4.block k hkk
      · obtain ⟨_, _, _, hs, hw⟩ := h3
        rw [Array.getElem?_eq_none (by omega), Array.getElem?_eq_none (by omega)]
  · refine (markInt64S_c B p c k0 xs w hx hl hk).mono ?_
    rintro e w' ⟨h1, h2, h3, h4⟩
    refine ⟨h1, h2, h4, fun k hk hd => ?_⟩
    obtain ⟨_, _, _, hs, hw⟩ := h3
    exact hw k fun a e1 => by
      obtain ⟨b, o, hp, _⟩ := hx 0 (List.length_pos_iff.2 h)
      rw [hp] at e1
      obtain rfl := Option.some.inj e1
      exact hd b o h hp

end Go.Proofs.YtekignklnakkaaaGreatDoor

namespace Go.Proofs.YtekignklnakkaaaGreatDoor
open Go.RowKit

def RowB (B : Nat) (w : World) (v : Value) (s : ByteArray) : Prop := w.ownsRow B 5 1 v s.size (Lib.strCells s)
section
variable {B : Nat} {w w' : World} {v : Value} {s : ByteArray}
theorem RowB.nil (B : Nat) (w : World) : RowB B w (.slice none 0 0) ByteArray.empty := World.ownsRow_nil _ _ _ _
theorem RowB.made (hB : B ≤ w.heap.size) : RowB B (w.alloc (.cells #[] 5)) (.slice (some ⟨w.heap.size, 0, none⟩) 0 0) ByteArray.empty :=
  World.ownsRow_made w #[] 0 hB (by unfold maxLen; omega) rfl
theorem RowB.room (hB : B ≤ w.heap.size) (z : Array Value) (n : Nat) (hz : z.size = 1) (hn : n ≤ maxLen) : RowB B (w.alloc (.cells (madeCells z n) 5)) (.slice (some ⟨w.heap.size, 0, none⟩) 0 n) ByteArray.empty :=
  World.ownsRow_made w _ n hB hn (by simp [size_madeCells])
theorem RowB.alloc (h : RowB B w v s) (o : Obj) : RowB B (w.alloc o) v s := World.ownsRow.alloc h o
theorem RowB.lt (h : RowB B w v s) : ∀ k, v.ownBlock = some k → B ≤ k ∧ k < w.heap.size := World.ownsRow.lt h
theorem RowB.mono {B' : Nat} (h : RowB B w v s) (hB : B' ≤ B) : RowB B' w v s := by
  refine ⟨h.1, ?_⟩
  rcases h.2 with h2 | ⟨g, cap, cur, hv, hg, r⟩
  · exact .inl h2
  · exact .inr ⟨g, cap, cur, hv, Nat.le_trans hB hg, r⟩
theorem RowB.below {B' : Nat} (h : RowB B w v s) (hb : Below B' w w') (hB : ∀ k, v.ownBlock = some k → k < B') : RowB B w' v s := by
  refine ⟨h.1, ?_⟩
  rcases h.2 with h2 | ⟨g, cap, cur, hv, hg, hh, r⟩
  · exact .inl h2
  · exact .inr ⟨g, cap, cur, hv, hg, by rw [hb.block g (hB g (by rw [hv]; rfl))]; exact hh, r⟩
theorem RowB.ext (h : RowB B w v s) (hb : Ext w w') : RowB B w' v s := h.below hb.below fun k hk => (h.lt k hk).2
theorem RowB.drewN (h : RowB B w v s) (n : Nat) : RowB B (w.drewN n) v s := h
theorem RowB.slice (h : RowB B w v s) : ∃ p c, v = .slice p s.size c := by
  rcases h.2 with ⟨h2, hn⟩ | ⟨g, cap, cur, hv, _⟩
  · exact ⟨none, 0, by rw [h2, hn]⟩
  · exact ⟨_, _, hv⟩
end

section
variable {ops : Array Oper} {Q : Exit → Act → World → Prop} {rest : List Oper} {a : Act} {dst : Option Tmp} {s x : Operand} {ty : TypeId} {pos : String} {after : Array Edge} {B : Nat} {w0 : World} {v : Value} {xs : ByteArray}
end

end Go.Proofs.YtekignklnakkaaaGreatDoor
/- Stacked symbols: plain laws on patterns, runs of cells and values of rows. -/
namespace Go.Proofs.YtekignklnakkaaaGreatDoor
open Go.RowKit

def pats : Nat → Nat → List (List Int)
  | 0, _ => []
  | 1, s => [[(s : Int)]]
  | p + 2, s => (List.range (s - (p + 1))).flatMap fun i => (pats (p + 1) (s - (i + 1))).map fun l => ((i + 1 : Nat) : Int) :: l
def PAT : List (List Int) := pats 8 11
theorem PAT_len : PAT.length = 120 := by decide +kernel
def idxP (p : List Int) : Option Nat := (List.range 120).find? fun i => PAT.getD i [] == p
theorem idxP_at : ∀ i, i < 120 → idxP (PAT.getD i []) = some i := by decide +kernel
theorem idxP_some {p : List Int} {i : Nat} (h : idxP p = some i) : i < 120 ∧ PAT.getD i [] = p := by
  unfold idxP at h
  have h1 := List.find?_some h
  have h2 := List.mem_of_find?_eq_some h
  exact ⟨List.mem_range.1 h2, by simpa using h1⟩
theorem PAT_at8 : ∀ i, i < 120 → (PAT.getD i []).length = 8 := by decide +kernel
theorem idxP_eight {p : List Int} {i : Nat} (h : idxP p = some i) : p.length = 8 ∧ i < 120 := by
  obtain ⟨h1, h2⟩ := idxP_some h
  exact ⟨by rw [← h2]; exact PAT_at8 i h1, h1⟩
def incL (l : List Int) : List Int := l.set (l.length - 1) (l.getD (l.length - 1) 0 + 1)
theorem incL_len (l : List Int) : (incL l).length = l.length := by simp [incL]
def runsTo (xs : List Int) : Nat → List Int
  | 0 => []
  | k + 1 => if 0 < k ∧ xs.getD k 0 = xs.getD (k - 1) 0 then incL (runsTo xs k) else runsTo xs k ++ [1]
theorem runsTo_go {xs : List Int} {k : Nat} (h : 0 < k ∧ xs.getD k 0 = xs.getD (k - 1) 0) : runsTo xs (k + 1) = incL (runsTo xs k) := if_pos h
theorem runsTo_new {xs : List Int} {k : Nat} (h : ¬ (0 < k ∧ xs.getD k 0 = xs.getD (k - 1) 0)) : runsTo xs (k + 1) = runsTo xs k ++ [1] := if_neg h
theorem runsTo_len (xs : List Int) : ∀ k, (runsTo xs k).length ≤ k ∧ (0 < k → 0 < (runsTo xs k).length)
  | 0 => ⟨Nat.le_refl _, fun h => absurd h (Nat.lt_irrefl _)⟩
  | k + 1 => by
    have ih := runsTo_len xs k
    by_cases h : 0 < k ∧ xs.getD k 0 = xs.getD (k - 1) 0
    · rw [runsTo_go h, incL_len]
      have := ih.2 h.1
      omega
    · rw [runsTo_new h, List.length_append]
      simp
      omega
theorem runsTo_par {xs : List Int} (hz : ∀ x ∈ xs, x = 0 ∨ x = 1) : ∀ k, 0 < k → k ≤ xs.length → xs.getD (k - 1) 0 = if (runsTo xs k).length % 2 = 1 then xs.getD 0 0 else 1 - xs.getD 0 0 := by
  intro k
  induction k with
  | zero => intro h; omega
  | succ k ih =>
    intro _ hk
    have hat : ∀ j, j < xs.length → xs.getD j 0 = 0 ∨ xs.getD j 0 = 1 := fun j hj => by
      rw [List.getD_eq_getElem?_getD, List.getElem?_eq_getElem hj]
      exact hz _ (List.getElem_mem hj)
    rw [Nat.add_sub_cancel]
    rcases Nat.eq_zero_or_pos k with rfl | hk0
    · rfl
    · have ih := ih hk0 (by omega)
      have h0 := hat 0 (by omega); have h1 := hat k (by omega); have h2 := hat (k - 1) (by omega)
      by_cases h : 0 < k ∧ xs.getD k 0 = xs.getD (k - 1) 0
      · rw [runsTo_go h, incL_len, h.2]
        exact ih
      · rw [runsTo_new h, List.length_append]
        have hne : xs.getD k 0 ≠ xs.getD (k - 1) 0 := fun e => h ⟨hk0, e⟩
        simp only [List.length_cons, List.length_nil]
        split at ih <;> split <;> omega
def rvl (xs : List Int) (cl : Int) : Int :=
  if (∀ x ∈ xs, 0 ≤ x) ∧ xs.getD 0 0 ≠ 0 then (match idxP (runsTo xs xs.length) with
    | some i => if (i : Int) % 3 = cl ∧ i < 96 then ((i / 3 : Nat) : Int) else -1
    | none => -1) else -1
def okS (xs : List Int) : Prop := (∀ x ∈ xs, x ≠ -1) ∧ xs.getD 0 0 = 1 ∧ xs.getD (xs.length - 1) 0 = 0 ∧ (runsTo xs xs.length).length = 8
theorem rvl_ok {xs : List Int} {cl : Int} (hl : 0 < xs.length) (hb : ∀ x ∈ xs, -1 ≤ x ∧ x ≤ 1) (h : okS xs) : rvl xs cl = match idxP (runsTo xs xs.length) with
    | some i => if (i : Int) % 3 = cl ∧ i < 96 then ((i / 3 : Nat) : Int) else -1
    | none => -1 := by
  unfold rvl
  rw [if_pos ⟨fun x hx => by have := hb x hx; have := h.1 x hx; omega, by rw [h.2.1]; omega⟩]
theorem rvl_no {xs : List Int} {cl : Int} (hl : 0 < xs.length) (hb : ∀ x ∈ xs, -1 ≤ x ∧ x ≤ 1) (h : ¬ okS xs) : rvl xs cl = -1 := by
  unfold rvl
  by_cases h1 : (∀ x ∈ xs, 0 ≤ x) ∧ xs.getD 0 0 ≠ 0
  · rw [if_pos h1]
    cases hi : idxP (runsTo xs xs.length) with
    | none => rfl
    | some i =>
      exfalso
      have h8 := (idxP_eight hi).1
      have hz : ∀ x ∈ xs, x = 0 ∨ x = 1 := fun x hx => by have := hb x hx; have := h1.1 x hx; omega
      have h0 : xs.getD 0 0 = 1 := by
        have hm : xs.getD 0 0 ∈ xs := by rw [List.getD_eq_getElem?_getD, List.getElem?_eq_getElem hl]; exact List.getElem_mem hl
        rcases hz _ hm with e | e
        · exact absurd e h1.2
        · exact e
      have hp := runsTo_par hz xs.length hl (Nat.le_refl _)
      rw [h8, h0, if_neg (by decide)] at hp
      exact h ⟨fun x hx => by have := h1.1 x hx; omega, h0, by rw [hp]; rfl, h8⟩
  · rw [if_neg h1]
def rowV (xs : List Int) (cl : Int) (m : Nat) : List Int := (List.range m).map fun j => rvl ((xs.drop (7 + 11 * j)).take 11) cl
theorem rowV_len (xs : List Int) (cl : Int) (m : Nat) : (rowV xs cl m).length = m := by simp [rowV]
theorem rowV_succ (xs : List Int) (cl : Int) (m : Nat) : rowV xs cl (m + 1) = rowV xs cl m ++ [rvl ((xs.drop (7 + 11 * m)).take 11) cl] := by simp [rowV, List.range_succ]
end Go.Proofs.YtekignklnakkaaaGreatDoor
