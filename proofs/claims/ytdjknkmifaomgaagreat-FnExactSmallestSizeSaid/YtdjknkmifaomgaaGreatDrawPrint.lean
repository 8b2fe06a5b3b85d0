
/- Drawn grids. -/
import Derived.Test.YtdjknkmifaomgaaGreatDrawPart
import Derived.Test.YtdjknkmifaomgaaGreatBands
import Derived.Test.YtdjknkmifaomgaaGreatGridLaw
import Derived.Test.YtdjknkmifaomgaaGreatBase
import Derived.Deep.DeepCutAuto
import Derived.Deep.CutBlock
/-! Drawn grids. -/
namespace Go.Proofs.YtdjknkmifaomgaaGreat
set_option linter.unusedVariables false
set_option linter.unusedSimpArgs false
open Go.RowKit

/-- A grid has been drawn; only the source has turned. -/
def GrR (n0 g : Nat) (w : World) (e : Ending) (w' : World) : Prop := ∃ (r c : Int) (p : Option Addr) (k : Nat) (xs : List Int), e = .returned (vGrid r c p xs.length k) ∧ xs.length ≤ 100 ∧ xs.length ≤ k ∧ OwnInts w.heap.size w' p xs ∧ Src n0 w' g ∧ But g w w'
theorem grr_fin {n0 g B : Nat} {w w' : World} {r c : Int} {p : Option Addr} {k : Nat} {xs : List Int} (hl : xs.length ≤ 100) (h : RowI B w' (.slice p xs.length k) xs) (hB : w.heap.size < B) (hs : Src n0 w' g) (hn0 : n0 ≤ w.heap.size) (hb : But g w w') :
    GrR n0 g w (.returned (vGrid r c p xs.length k)) (((w'.setCell ⟨w.heap.size, 0, none⟩ (.int .i64 r)).setCell ⟨w.heap.size, 1, none⟩ (.int .i64 c)).setCell ⟨w.heap.size, 2, none⟩ (.slice p xs.length k)) := by
  have ho : (Value.slice p xs.length k).ownBlock ≠ some w.heap.size := fun e => by have := (h.lt _ e).1; omega
  have h3 := ((h.setOther (i := 0) (u := .int .i64 r) ho).setOther (i := 1) (u := .int .i64 c) ho).setOther (i := 2) (u := .slice p xs.length k) ho
  obtain ⟨p', k', e, oq, hk⟩ := h3.ownC
  simp at e
  obtain ⟨rfl, rfl⟩ := e
  exact ⟨r, c, p, k, xs, rfl, hl, hk, oq.mono (Nat.le_of_lt hB), ((hs.set hn0).set hn0).set hn0, ((hb.setOld (Nat.le_refl _)).setOld (Nat.le_refl _)).setOld (Nat.le_refl _)⟩
theorem rowsA (j : Nat) (hj : j < 3) : ∃ v : Int, (#[.int .i64 0, .int .i64 (-1), .int .i64 40001] : Array Value)[j]? = some (.int .i64 v) := by
  match j, hj with
  | 0, _ => exact ⟨_, rfl⟩
  | 1, _ => exact ⟨_, rfl⟩
  | 2, _ => exact ⟨_, rfl⟩
theorem grr_far {n0 g : Nat} {w w' : World} {r c : Int} {p : Option Addr} {k : Nat} {xs : List Int} {g0 : Nat} (hg0 : g0 < n0) (hl : xs.length ≤ 100) (hk : xs.length ≤ k) (h : OwnInts (w.heap.size + 1) w' p xs) (hs : Src n0 w' g) (hn0 : n0 ≤ w.heap.size) (hb : But g w w') :
    GrR n0 g w (.returned (vGrid r c p xs.length k)) (((w'.setCell ⟨w.heap.size, 0, none⟩ (.int .i64 r)).setCell ⟨w.heap.size, 1, none⟩ (.int .i64 c)).setCell ⟨w.heap.size, 2, none⟩ (.slice p xs.length k)) :=
  ⟨r, c, p, k, xs, rfl, hl, hk, (((h.setFar (Nat.lt_succ_self _)).setFar (Nat.lt_succ_self _)).setFar (Nat.lt_succ_self _)).mono (Nat.le_succ _), ((hs.set hn0).set hn0).set hn0, ((hb.setOld (Nat.le_refl _)).setOld (Nat.le_refl _)).setOld (Nat.le_refl _)⟩
end Go.Proofs.YtdjknkmifaomgaaGreat

/-! Drawn prints. -/
namespace Go.Proofs.YtdjknkmifaomgaaGreat
set_option linter.unusedVariables false
set_option linter.unusedSimpArgs false
open Go.RowKit

/-- A print has been drawn; only the source has turned. -/
def PrR (n0 g : Nat) (w : World) (e : Ending) (w' : World) : Prop := ∃ (p t q b d l : Int), e = .returned (vPrint p t q b d l) ∧ ((-1000 ≤ p ∧ p ≤ 1000) ∧ (-1000 ≤ t ∧ t ≤ 1000) ∧ (-1000 ≤ q ∧ q ≤ 1000) ∧ (-1000 ≤ b ∧ b ≤ 1000) ∧ (-1000 ≤ d ∧ d ≤ 1000) ∧ (-1000 ≤ l ∧ l ≤ 1000)) ∧ Src n0 w' g ∧ But g w w'
theorem prr_fin {n0 g : Nat} {w w' : World} {p t q b d l : Int} (hbd : (-1000 ≤ p ∧ p ≤ 1000) ∧ (-1000 ≤ t ∧ t ≤ 1000) ∧ (-1000 ≤ q ∧ q ≤ 1000) ∧ (-1000 ≤ b ∧ b ≤ 1000) ∧ (-1000 ≤ d ∧ d ≤ 1000) ∧ (-1000 ≤ l ∧ l ≤ 1000)) (hs : Src n0 w' g) (hn0 : n0 ≤ w.heap.size) (hb : But g w w') :
    PrR n0 g w (.returned (vPrint p t q b d l)) ((((((w'.setCell ⟨w.heap.size, 0, none⟩ (.int .i64 p)).setCell ⟨w.heap.size, 1, none⟩ (.int .i64 t)).setCell ⟨w.heap.size, 2, none⟩ (.int .i64 q)).setCell ⟨w.heap.size, 3, none⟩ (.int .i64 b)).setCell ⟨w.heap.size, 4, none⟩ (.int .i64 d)).setCell ⟨w.heap.size, 5, none⟩ (.int .i64 l)) :=
  ⟨p, t, q, b, d, l, rfl, hbd, (((((hs.set hn0).set hn0).set hn0).set hn0).set hn0).set hn0, (((((hb.setOld (Nat.le_refl _)).setOld (Nat.le_refl _)).setOld (Nat.le_refl _)).setOld (Nat.le_refl _)).setOld (Nat.le_refl _)).setOld (Nat.le_refl _)⟩
theorem tripA (a b c : Int) (j : Nat) (hj : j < 3) : ∃ v : Int, (#[.int .i64 a, .int .i64 b, .int .i64 c] : Array Value)[j]? = some (.int .i64 v) ∧ (v = a ∨ v = b ∨ v = c) := by
  match j, hj with
  | 0, _ => exact ⟨_, rfl, .inl rfl⟩
  | 1, _ => exact ⟨_, rfl, .inr (.inl rfl)⟩
  | 2, _ => exact ⟨_, rfl, .inr (.inr rfl)⟩
end Go.Proofs.YtdjknkmifaomgaaGreat
