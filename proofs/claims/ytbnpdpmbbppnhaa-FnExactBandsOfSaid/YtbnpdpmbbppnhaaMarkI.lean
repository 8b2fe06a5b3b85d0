
/- Marking lists of whole numbers; how a segment argument opens. -/
import Derived.Test.YtbnpdpmbbppnhaaInts
import Derived.Test.YtbnpdpmbbppnhaaRead
namespace Go.Proofs.Ytbnpdpmbbppnhaa
set_option linter.unusedVariables false
set_option linter.unusedSimpArgs false
open Go.RowKit

theorem OwnInts.lt0 {B b o : Nat} {w : World} {p : Option Addr} {xs : List Int} (h : OwnInts B w p xs) (hn : xs ≠ []) (hp : p = some ⟨b, o, none⟩) : B ≤ b ∧ b < w.heap.size := by
  obtain ⟨b', o', h1, h2, h3, _⟩ := h 0 (List.length_pos_iff.2 hn)
  rw [hp] at h1
  simp at h1
  omega
theorem IntsAt.keep {w w' : World} {q : Option Addr} {ys : List Int} (h : IntsAt w q ys) (hs : w.heap.size ≤ w'.heap.size) (hk : ∀ b o, ys ≠ [] → q = some ⟨b, o, none⟩ → b < w.heap.size → w'.heap[b]? = w.heap[b]?) : IntsAt w' q ys := fun i hi => by
  obtain ⟨b, o, h1, h2, h3⟩ := h i hi
  have hn : ys ≠ [] := fun e => by subst e; simp at hi
  exact ⟨b, o, h1, Nat.lt_of_lt_of_le h2 hs, (World.cell?_of_block (a := ⟨b, o + i, none⟩) (hk b o hn h1 h2)).trans h3⟩
theorem OwnInts.keep {B : Nat} {w w' : World} {q : Option Addr} {ys : List Int} (h : OwnInts B w q ys) (hs : w.heap.size ≤ w'.heap.size) (hk : ∀ b o, ys ≠ [] → q = some ⟨b, o, none⟩ → b < w.heap.size → w'.heap[b]? = w.heap[b]?) : OwnInts B w' q ys := fun i hi => by
  obtain ⟨b, o, h1, hB, h2, h3, h4⟩ := h i hi
  have hn : ys ≠ [] := fun e => by subst e; simp at hi
  exact ⟨b, o, h1, hB, Nat.lt_of_lt_of_le h2 hs, (World.cell?_of_block (a := ⟨b, o + i, none⟩) (hk b o hn h1 h2)).trans h3, (World.frozen?_of_block (a := ⟨b, o + i, none⟩) (hk b o hn h1 h2)).trans h4⟩
/-- Marking a list leaves all other blocks. -/
theorem mark_c (B : Nat) (p : Option Addr) (c : Nat) (k0 : Int) (xs : List Int) (w : World) (hx : OwnInts B w p xs) (hl : xs.length ≤ 1099511627776) (hk : 0 ≤ k0 ∧ k0 ≤ 4611686018427387904) :
    Calls Try.prog 46 #[.slice p xs.length c, .int .i64 k0] w fun e w' => e = .returned (.int .i64 (k0 + xs.length)) ∧ OwnInts B w' p (marksL k0 xs.length) ∧ Below B w w' ∧
      ∀ k, k < w.heap.size → (∀ b o, xs ≠ [] → p = some ⟨b, o, none⟩ → b ≠ k) → w'.heap[k]? = w.heap[k]? := by
  by_cases h : xs = []
  · subst h
    refine (markInt64S_c w.heap.size p c k0 [] w (OwnInts.nil _ _ _) hl hk).mono ?_
    rintro e w' ⟨h1, h2, h3, h4⟩
    by_cases hB : B ≤ w.heap.size
    · exact ⟨h1, h2.mono hB, h4.mono hB, fun k hk _ => h4.block k hk⟩
    · refine ⟨h1, OwnInts.nil _ _ _, ?_, fun k hk _ => h4.block k hk⟩
      refine ⟨h4.os, h4.tape, h4.output, h4.size, fun k hk => ?_⟩
      by_cases hkk : k < w.heap.size
      · exact h4.block k hkk
      · obtain ⟨_, _, _, hs, hw⟩ := h3
        rw [Array.getElem?_eq_none (by omega), Array.getElem?_eq_none (by omega)]
  · refine (markInt64S_c B p c k0 xs w hx hl hk).mono ?_
    rintro e w' ⟨h1, h2, h3, h4⟩
    refine ⟨h1, h2, h4, fun k hk hd => ?_⟩
    obtain ⟨_, _, _, hs, hw⟩ := h3
    exact hw k fun a e1 => by
      obtain ⟨b, o, hp, _⟩ := hx 0 (List.length_pos_iff.2 h)
      rw [hp] at e1
      obtain rfl := Option.some.inj e1
      exact hd b o h hp

theorem open_Seg {w : World} {cs : List Value} (h : rds w [.i .i64, .str] cs) : ∃ (m : Int) (s : ByteArray), cs = [.int .i64 m, .string s] ∧ s.size ≤ maxLen := by
  obtain ⟨m, _, rfl, _, h⟩ := rds_int h
  obtain ⟨s, _, rfl, hs, h⟩ := rds_str h
  exact ⟨m, s, by rw [rds_nil h], hs⟩
end Go.Proofs.Ytbnpdpmbbppnhaa
