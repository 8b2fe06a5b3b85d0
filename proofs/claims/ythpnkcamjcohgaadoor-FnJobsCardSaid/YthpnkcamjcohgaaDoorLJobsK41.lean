/- The line of a band, as the reference reads it. -/
import Derived.Test.YthpnkcamjcohgaaDoorLJobsK40
import Derived.Test.YthpnkcamjcohgaaDoorLJobsK37
import Derived.Test.YthpnkcamjcohgaaDoorLJobsK38
namespace Go.Proofs.YthpnkcamjcohgaaDoor
set_option linter.unusedVariables false
set_option linter.unusedSimpArgs false
open Go.RowKit

/-- What stands ahead of byte k; open digits from byte f on. -/
structure RSs (C : Nat) (l : List UInt8) (k c : Nat) (r : List Int) (f : Nat) : Prop where
  le : f ≤ k
  st : foldJ false C (l.take k) (some (1, [], [])) = some (c, r, (l.take k).drop f)
  dg : ∀ b ∈ (l.take k).drop f, isDg b
theorem RSs.start (C : Nat) (l : List UInt8) : RSs C l 0 1 [] 0 := ⟨Nat.le_refl _, rfl, fun b hb => by cases hb⟩
theorem take_drop_nil (l : List UInt8) (k : Nat) : (l.take k).drop k = [] := List.drop_eq_nil_of_le (by rw [List.length_take]; omega)
theorem VaR.numl {t : ByteArray} {n : Int} {d : List UInt8} (h : VaR t n false) (ht : t.data.toList = d) : ¬ (Numl d ∧ nvF 0 d ≤ 40000) := fun ⟨h1, h2⟩ => by
  subst ht
  rcases h with ⟨h, _⟩ | ⟨_, h⟩
  · cases h
  · have e := dec_eq (num_dec _ _ rfl h1).symm
    have h3 := h _ e
    rw [e] at h3
    have h4 : (dec ((nvF 0 t.data.toList : Nat) : Int)).size ≤ 6 := by rw [dec_size, Lib.itoa_nonneg]; exact dec_len 5 _ (by omega)
    omega
theorem RSs.fail {C k c f : Nat} {l : List UInt8} {r : List Int} (h : RSs C l k c r f) (hC : C ≤ 40000) (hk : k < l.length) {x : UInt8} (hx : l[k]'hk = x) (hd : ¬ isDg x) (hn : ¬ (Numl ((l.take k).drop f) ∧ 1 ≤ nvF 0 ((l.take k).drop f) ∧ nvF 0 ((l.take k).drop f) ≤ 40000 ∧ ((x = 120 ∧ r = []) ∨ ((x = 97 ∨ x = 98) ∧ nvF 0 ((l.take k).drop f) + r.length ≤ C)))) : ∀ n r, ¬ lineOK false C l n r := by
  refine lineOK_fail (k := k + 1) ?_
  rw [foldJ_take hk, h.st, hx, stepJ_some]
  by_cases h1 : x = 120
  · rw [if_pos h1, if_neg (fun hh => hn ⟨hh.1, hh.2.2.1, hh.2.2.2, .inl ⟨h1, hh.2.1⟩⟩)]
  · rw [if_neg h1]
    by_cases h2 : x = 97 ∨ x = 98
    · rw [if_pos h2, if_neg (fun hh => hn ⟨hh.1, hh.2.1, by omega, .inr ⟨h2, hh.2.2⟩⟩)]
    · rw [if_neg h2, if_neg (fun hh => hd hh.1)]
theorem RSs.xYes {C k c f m : Nat} {l : List UInt8} (h : RSs C l k c [] f) (hk : k < l.length) (hx : l[k]'hk = 120) (hn : Numl ((l.take k).drop f)) (hv : nvF 0 ((l.take k).drop f) = m) (h1 : 1 ≤ m) (h2 : m ≤ 40000) : RSs C l (k + 1) m [] (k + 1) := by
  refine ⟨Nat.le_refl _, ?_, fun b hb => by rw [take_drop_nil] at hb; cases hb⟩
  rw [foldJ_take hk, h.st, hx, stepJ_some, if_pos rfl, hv, if_pos ⟨hn, rfl, h1, h2⟩, take_drop_nil]
theorem RSs.abYes {C k c f m : Nat} {l : List UInt8} {r : List Int} (h : RSs C l k c r f) (hk : k < l.length) {x : UInt8} (hx : l[k]'hk = x) (hx2 : x = 97 ∨ x = 98) (hn : Numl ((l.take k).drop f)) (hv : nvF 0 ((l.take k).drop f) = m) (h1 : 1 ≤ m) (h2 : m + r.length ≤ C) : RSs C l (k + 1) c (r ++ List.replicate m ((x.toNat : Int) - 97)) (k + 1) := by
  refine ⟨Nat.le_refl _, ?_, fun b hb => by rw [take_drop_nil] at hb; cases hb⟩
  have hne : ¬ x = 120 := by rcases hx2 with rfl | rfl <;> decide
  rw [foldJ_take hk, h.st, hx, stepJ_some, if_neg hne, if_pos hx2, hv, if_pos ⟨hn, h1, h2⟩, take_drop_nil]
theorem RSs.done {C k c f : Nat} {l : List UInt8} {r : List Int} (h : RSs C l k c r f) (hk : k = l.length) : (r.length = C → lineOK false C l c r) ∧ (¬ r.length = C → ∀ n r, ¬ lineOK false C l n r) := by
  subst hk
  have h1 := h.st
  rw [List.take_length] at h1
  refine ⟨fun hc => ⟨⟨_, h1, fun e => by cases e⟩, hc⟩, fun hc n r' hh => ?_⟩
  obtain ⟨⟨d', h2, _⟩, h3⟩ := hh
  rw [h1] at h2
  simp only [Option.some.injEq, Prod.mk.injEq] at h2
  obtain ⟨-, rfl, -⟩ := h2
  exact hc h3
/-- What l30Line tells. -/
def RlR (B C : Nat) (l : List UInt8) (e : Ending) (w' : World) : Prop :=
  (∃ (n : Nat) (r : List Int) (v : Value), e = .returned (.tuple #[.int .i64 n, v, .bool true]) ∧ RowI B w' v r ∧ lineOK false C l n r ∧ n ≤ 40000) ∨
  (∃ (n : Int) (v : Value), e = .returned (.tuple #[.int .i64 n, v, .bool false]) ∧ ∀ n r, ¬ lineOK false C l n r)
theorem RlR.no {B C : Nat} {l : List UInt8} {w' : World} (n : Int) (v : Value) (h : ∀ n r, ¬ lineOK false C l n r) : RlR B C l (.returned (.tuple #[.int .i64 n, v, .bool false])) w' := .inr ⟨n, v, rfl, h⟩
end Go.Proofs.YthpnkcamjcohgaaDoor
/- ReadBatch, on both sides. -/
namespace Go.Proofs.YthpnkcamjcohgaaDoor
set_option linter.unusedVariables false
set_option linter.unusedSimpArgs false
open Go.RowKit

abbrev bat5 (a : ByteArray) (f st c wd : Int) : Array Value := #[.string a, .int .i64 f, .int .i64 st, .int .i64 c, .int .i64 wd]
end Go.Proofs.YthpnkcamjcohgaaDoor
/- ReadBatch, the program's side. -/
namespace Go.Proofs.YthpnkcamjcohgaaDoor
set_option linter.unusedVariables false
set_option linter.unusedSimpArgs false
open Go.RowKit

theorem SAt.wdh {w : World} {g o : Nat} {xs : List ByteArray} (h : SAt wdF 1 w (some ⟨g, o, none⟩) xs) {i : Nat} (hi : i < xs.length) : g < w.heap.size ∧ w.cell? ⟨g, o + i, none⟩ = some (.string (xs[i]'hi)) := by
  obtain ⟨b', o', e, h1, h2⟩ := h.wd hi
  simp only [Option.some.injEq, Addr.mk.injEq, and_true] at e
  obtain ⟨rfl, rfl⟩ := e
  exact ⟨h1, h2⟩
abbrev num4 (a b c d : Nat) : Array Value := #[.int .i64 a, .int .i64 b, .int .i64 c, .int .i64 d]
end Go.Proofs.YthpnkcamjcohgaaDoor
