
/- Matrix grids: validity, cells at places, format words written and read. -/
import Derived.Test.YthokkmbdkjpbcaaGreatFixedG
import Derived.Test.YthokkmbdkjpbcaaGreatFmt
import Derived.Test.YthokkmbdkjpbcaaGreatGridLaw
import Derived.Test.YthokkmbdkjpbcaaGreatDrawPrint
/-! Matrix grids: validity, cells at places, format words written and read. -/
namespace Go.Proofs.YthokkmbdkjpbcaaGreat
set_option linter.unusedVariables false
set_option linter.unusedSimpArgs false
open Go.RowKit

def sizOK (n : Int) : Prop := (17 ≤ n ∧ n ≤ 41) ∧ n % 4 = 1
def matOK (r c : Int) (xs : List Int) : Prop := gridOK r c xs ∧ r = c ∧ sizOK r
theorem iSize_c (n : Int) (w : World) : Calls Tryz.prog 35 #[.int .i64 n] w fun e w' => isB e (sizOK n) ∧ w = w' := by
  have hv : sizOK n ↔ (17 ≤ n ∧ n ≤ 41) ∧ n % 4 = 1 := Iff.rfl
  generalize sizOK n = I at *
  by_cases h0 : 0 ≤ n
  · have e2 : n.tmod 4 = n % 4 := Int.tmod_eq_emod_of_nonneg h0
    replace hv := Lib.hid hv
    go_enter Tryz.func35, Tryz.ntmps35
    go_wp2_with (go_at_call 33; (with_reducible refine (inRange_c _ _ _ _).mono ?_); rintro e w1 ⟨⟨hP, rfl⟩ | ⟨hP, rfl⟩, rfl⟩)
    · go_ret
      exact ⟨isB_m (by rw [hv.out]; simp [hP]), rfl⟩
    · go_ret
      exact ⟨isB_f (fun h => hP (hv.out.1 h).1), rfl⟩
  · replace hv := Lib.hid hv
    go_enter Tryz.func35, Tryz.ntmps35
    go_wp2_with ((go_at_call 33; (with_reducible refine (inRange_c _ _ _ _).mono ?_); rintro e w1 ⟨⟨hP, rfl⟩ | ⟨hP, rfl⟩, rfl⟩) <;> first | (exfalso; omega) | skip)
    go_ret
    exact ⟨isB_f (fun h => hP (hv.out.1 h).1), rfl⟩
/-- Where a place lies in a square grid. -/
def plIx (n : Nat) (p : Int × Int) : Nat := (p.1 * n + p.2).toNat
theorem plIx_eq {n : Nat} {p : Int × Int} (h1 : 0 ≤ p.1 ∧ p.1 < n) (h2 : 0 ≤ p.2 ∧ p.2 < n) : p.1 * (n : Int) + p.2 = (plIx n p : Int) ∧ plIx n p < n * n ∧ 0 ≤ p.1 * (n : Int) := by
  obtain ⟨r, c⟩ := p
  simp only at h1 h2
  obtain ⟨a, rfl⟩ := Int.eq_ofNat_of_zero_le h1.1
  obtain ⟨b, rfl⟩ := Int.eq_ofNat_of_zero_le h2.1
  have h3 : a < n := by omega
  have h4 : b < n := by omega
  have h5 : (a + 1) * n ≤ n * n := Nat.mul_le_mul_right n h3
  rw [Nat.add_mul, Nat.one_mul] at h5
  have e : ((a : Int) * (n : Int) + (b : Int)) = ((a * n + b : Nat) : Int) := by simp
  have e2 : plIx n ((a : Int), (b : Int)) = a * n + b := by
    show ((a : Int) * (n : Int) + (b : Int)).toNat = _
    rw [e]; exact Int.toNat_natCast _
  refine ⟨by rw [e2]; exact e, by rw [e2]; omega, Int.mul_nonneg (by omega) (by omega)⟩
theorem aPl_bd : ∀ p ∈ aPl, (0 ≤ p.1 ∧ p.1 ≤ 8) ∧ (0 ≤ p.2 ∧ p.2 ≤ 8) := by decide
theorem bPl_bd {n : Nat} (hn : 17 ≤ n) : ∀ p ∈ bPl n, (0 ≤ p.1 ∧ p.1 < n) ∧ (0 ≤ p.2 ∧ p.2 < n) := by
  intro p hp
  simp only [bPl, List.mem_cons, List.not_mem_nil, or_false] at hp
  rcases hp with rfl | rfl | rfl | rfl | rfl | rfl | rfl | rfl | rfl | rfl | rfl | rfl | rfl | rfl | rfl <;> simp only <;> omega
theorem aPl_in {n : Nat} (hn : 17 ≤ n) : ∀ p ∈ aPl, (0 ≤ p.1 ∧ p.1 < n) ∧ (0 ≤ p.2 ∧ p.2 < n) := fun p hp => by have := aPl_bd p hp; omega
/-- The first k bits of a word, written to both lists of places. -/
def pFmt (n : Nat) (ws xs : List Int) : Nat → List Int
  | 0 => xs
  | k + 1 => ((pFmt n ws xs k).set (plIx n (aPl.getD k (0, 0))) (ws.getD k 0)).set (plIx n ((bPl n).getD k (0, 0))) (ws.getD k 0)
theorem pFmt_len (n : Nat) (ws xs : List Int) : ∀ k, (pFmt n ws xs k).length = xs.length
  | 0 => rfl
  | k + 1 => by simp [pFmt, pFmt_len n ws xs k]
/-- The cells at some places. -/
def cellsL (n : Nat) (xs : List Int) (ps : List (Int × Int)) : List Int := ps.map fun p => xs.getD (plIx n p) 0
theorem SAt.pl2 {w : World} {p : Option Addr} {ps : List (Int × Int)} (h : PlAt w p ps) {k : Nat} (hk : k < ps.length) : ∃ b o, p = some ⟨b, o, none⟩ ∧ b < w.heap.size ∧ w.cell? ⟨b, o + k * 2, none⟩ = some (.int .i64 (ps.getD k (0, 0)).1) ∧ w.cell? ⟨b, o + k * 2 + 1, none⟩ = some (.int .i64 (ps.getD k (0, 0)).2) := by
  obtain ⟨b, o, h1, h2, h3⟩ := h k hk
  refine ⟨b, o, h1, h2, ?_, ?_⟩
  · rw [List.getD_eq_getElem?_getD, List.getElem?_eq_getElem hk]
    exact h3 0 _ rfl
  · rw [List.getD_eq_getElem?_getD, List.getElem?_eq_getElem hk]
    exact h3 1 _ rfl
theorem getD_mem {α : Type} {l : List α} {k : Nat} {d : α} (h : k < l.length) : l.getD k d ∈ l := by
  rw [List.getD_eq_getElem?_getD, List.getElem?_eq_getElem h]; exact List.getElem_mem _
theorem RowS.nfree {α : Type} {f : α → List Value} {k : Nat} {e : TypeId} {B : Nat} {w : World} {v : Value} {xs : List α} (hf : ∀ x, (f x).length = k) (h : RowS e f k B w v xs) : ∃ p c, v = .slice p xs.length c ∧ SAt f k w p xs ∧ ∀ b o, p = some ⟨b, o, none⟩ → B ≤ b ∧ b < w.heap.size := by
  obtain ⟨p, c, hv, ho⟩ := h.own hf
  refine ⟨p, c, hv, ho.sat, fun b o hp => h.lt b (by rw [hv, hp]; rfl)⟩
theorem SAt.butF {α : Type} {f : α → List Value} {k g : Nat} {w w' : World} {p : Option Addr} {xs : List α} (h : SAt f k w p xs) (hb : But g w w') (hne : ∀ b o, p = some ⟨b, o, none⟩ → b ≠ g) : SAt f k w' p xs := fun i hi => by
  obtain ⟨b, o, h1, h2, h3⟩ := h i hi
  obtain ⟨hc, hf, hk, _⟩ := bucell hb
  exact ⟨b, o, h1, hk _ h2, fun j v hv => by rw [hc _ _ h2 (hne b o h1)]; exact h3 j v hv⟩
theorem IntsAt.butF {g : Nat} {w w' : World} {p : Option Addr} {xs : List Int} (h : IntsAt w p xs) (hb : But g w w') (hne : ∀ b o, p = some ⟨b, o, none⟩ → b ≠ g) : IntsAt w' p xs := fun i hi => by
  obtain ⟨b, o, h1, h2, h3⟩ := h i hi
  obtain ⟨hc, hf, hk, _⟩ := bucell hb
  exact ⟨b, o, h1, hk _ h2, by rw [hc _ _ h2 (hne b o h1)]; exact h3⟩
end Go.Proofs.YthokkmbdkjpbcaaGreat

/-! Matrix grids, the program's side: copies, formats put and read, errors of the fixed cells. -/
namespace Go.Proofs.YthokkmbdkjpbcaaGreat
set_option linter.unusedVariables false
set_option linter.unusedSimpArgs false
open Go.RowKit

theorem But.setG {g i : Nat} {a b : World} (h : But g a b) (v : Value) : But g a (b.setCell ⟨g, i, none⟩ v) := h.trans (But.set b g i v)
open Classical in
/-- What is read from a grid's format: value and code. -/
noncomputable def rfV (r c : Int) (xs : List Int) : Int × Int :=
  if ¬ matOK r c xs then (0, 1) else shareV (cellsL r.toNat xs aPl) (cellsL r.toNat xs (bPl r))
end Go.Proofs.YthokkmbdkjpbcaaGreat

/-! Matrix grids, the reference's side: formats put and read, errors of the fixed cells. -/
namespace Go.Proofs.YthokkmbdkjpbcaaGreat
set_option linter.unusedVariables false
set_option linter.unusedSimpArgs false
open Go.RowKit

end Go.Proofs.YthokkmbdkjpbcaaGreat

/-! Drawn square grids. -/
namespace Go.Proofs.YthokkmbdkjpbcaaGreat
set_option linter.unusedVariables false
set_option linter.unusedSimpArgs false
open Go.RowKit

end Go.Proofs.YthokkmbdkjpbcaaGreat
