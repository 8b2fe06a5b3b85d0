
/- Matrix grids: validity, cells at places, format words written and read. -/
import Derived.Test.YtdjknkmifaomgaaGreatFixedG
import Derived.Test.YtdjknkmifaomgaaGreatFmt
import Derived.Test.YtdjknkmifaomgaaGreatGridLaw
import Derived.Test.YtdjknkmifaomgaaGreatDrawPrint
/-! Matrix grids: validity, cells at places, format words written and read. -/
namespace Go.Proofs.YtdjknkmifaomgaaGreat
set_option linter.unusedVariables false
set_option linter.unusedSimpArgs false
open Go.RowKit

def sizOK (n : Int) : Prop := (17 ≤ n ∧ n ≤ 41) ∧ n % 4 = 1
def matOK (r c : Int) (xs : List Int) : Prop := gridOK r c xs ∧ r = c ∧ sizOK r
theorem iSize_c (n : Int) (w : World) : Calls Tryz.prog 48 #[.int .i64 n] w fun e w' => isB e (sizOK n) ∧ w = w' := by
  have hv : sizOK n ↔ (17 ≤ n ∧ n ≤ 41) ∧ n % 4 = 1 := Iff.rfl
  generalize sizOK n = I at *
  by_cases h0 : 0 ≤ n
  · have e2 : n.tmod 4 = n % 4 := Int.tmod_eq_emod_of_nonneg h0
    replace hv := Lib.hid hv
    go_enter Tryz.func48, Tryz.ntmps48
    go_wp2_with (go_at_call 46; (with_reducible refine (inRange_c _ _ _ _).mono ?_); rintro e w1 ⟨⟨hP, rfl⟩ | ⟨hP, rfl⟩, rfl⟩)
    · go_ret
      exact ⟨isB_m (by rw [hv.out]; simp [hP]), rfl⟩
    · go_ret
      exact ⟨isB_f (fun h => hP (hv.out.1 h).1), rfl⟩
  · replace hv := Lib.hid hv
    go_enter Tryz.func48, Tryz.ntmps48
    go_wp2_with ((go_at_call 46; (with_reducible refine (inRange_c _ _ _ _).mono ?_); rintro e w1 ⟨⟨hP, rfl⟩ | ⟨hP, rfl⟩, rfl⟩) <;> first | (exfalso; omega) | skip)
    go_ret
    exact ⟨isB_f (fun h => hP (hv.out.1 h).1), rfl⟩
theorem matOK_nat {r c : Int} {xs : List Int} (h : matOK r c xs) : ∃ n : Nat, r = n ∧ c = n ∧ 17 ≤ n ∧ n ≤ 41 ∧ n % 4 = 1 ∧ xs.length = n * n ∧ ∀ x ∈ xs, -1 ≤ x ∧ x ≤ 1 := by
  obtain ⟨hg, rfl, h1, h2⟩ := h
  obtain ⟨R, C, e1, e2, _, _, _, hl⟩ := grid_nat hg
  obtain rfl : R = C := by omega
  exact ⟨R, e1, e1, by omega, by omega, by omega, hl, hg.2.2.2.2⟩
/-- Where a place lies in a square grid. -/
def plIx (n : Nat) (p : Int × Int) : Nat := (p.1 * n + p.2).toNat
theorem plIx_eq {n : Nat} {p : Int × Int} (h1 : 0 ≤ p.1 ∧ p.1 < n) (h2 : 0 ≤ p.2 ∧ p.2 < n) : p.1 * (n : Int) + p.2 = (plIx n p : Int) ∧ plIx n p < n * n ∧ 0 ≤ p.1 * (n : Int) := by
  obtain ⟨r, c⟩ := p
  simp only at h1 h2
  obtain ⟨a, rfl⟩ := Int.eq_ofNat_of_zero_le h1.1
  obtain ⟨b, rfl⟩ := Int.eq_ofNat_of_zero_le h2.1
  have h3 : a < n := by omega
  have h4 : b < n := by omega
  have h5 : (a + 1) * n ≤ n * n := Nat.mul_le_mul_right n h3
  rw [Nat.add_mul, Nat.one_mul] at h5
  have e : ((a : Int) * (n : Int) + (b : Int)) = ((a * n + b : Nat) : Int) := by simp
  have e2 : plIx n ((a : Int), (b : Int)) = a * n + b := by
    show ((a : Int) * (n : Int) + (b : Int)).toNat = _
    rw [e]; exact Int.toNat_natCast _
  refine ⟨by rw [e2]; exact e, by rw [e2]; omega, Int.mul_nonneg (by omega) (by omega)⟩
theorem aPl_bd : ∀ p ∈ aPl, (0 ≤ p.1 ∧ p.1 ≤ 8) ∧ (0 ≤ p.2 ∧ p.2 ≤ 8) := by decide
theorem bPl_bd {n : Nat} (hn : 17 ≤ n) : ∀ p ∈ bPl n, (0 ≤ p.1 ∧ p.1 < n) ∧ (0 ≤ p.2 ∧ p.2 < n) := by
  intro p hp
  simp only [bPl, List.mem_cons, List.not_mem_nil, or_false] at hp
  rcases hp with rfl | rfl | rfl | rfl | rfl | rfl | rfl | rfl | rfl | rfl | rfl | rfl | rfl | rfl | rfl <;> simp only <;> omega
theorem aPl_in {n : Nat} (hn : 17 ≤ n) : ∀ p ∈ aPl, (0 ≤ p.1 ∧ p.1 < n) ∧ (0 ≤ p.2 ∧ p.2 < n) := fun p hp => by have := aPl_bd p hp; omega
/-- The first k bits of a word, written to both lists of places. -/
def pFmt (n : Nat) (ws xs : List Int) : Nat → List Int
  | 0 => xs
  | k + 1 => ((pFmt n ws xs k).set (plIx n (aPl.getD k (0, 0))) (ws.getD k 0)).set (plIx n ((bPl n).getD k (0, 0))) (ws.getD k 0)
theorem pFmt_len (n : Nat) (ws xs : List Int) : ∀ k, (pFmt n ws xs k).length = xs.length
  | 0 => rfl
  | k + 1 => by simp [pFmt, pFmt_len n ws xs k]
/-- The cells at some places. -/
def cellsL (n : Nat) (xs : List Int) (ps : List (Int × Int)) : List Int := ps.map fun p => xs.getD (plIx n p) 0
theorem SAt.pl2 {w : World} {p : Option Addr} {ps : List (Int × Int)} (h : PlAt w p ps) {k : Nat} (hk : k < ps.length) : ∃ b o, p = some ⟨b, o, none⟩ ∧ b < w.heap.size ∧ w.cell? ⟨b, o + k * 2, none⟩ = some (.int .i64 (ps.getD k (0, 0)).1) ∧ w.cell? ⟨b, o + k * 2 + 1, none⟩ = some (.int .i64 (ps.getD k (0, 0)).2) := by
  obtain ⟨b, o, h1, h2, h3⟩ := h k hk
  refine ⟨b, o, h1, h2, ?_, ?_⟩
  · rw [List.getD_eq_getElem?_getD, List.getElem?_eq_getElem hk]
    exact h3 0 _ rfl
  · rw [List.getD_eq_getElem?_getD, List.getElem?_eq_getElem hk]
    exact h3 1 _ rfl
theorem getD_mem {α : Type} {l : List α} {k : Nat} {d : α} (h : k < l.length) : l.getD k d ∈ l := by
  rw [List.getD_eq_getElem?_getD, List.getElem?_eq_getElem h]; exact List.getElem_mem _
theorem RowS.nfree {α : Type} {f : α → List Value} {k : Nat} {e : TypeId} {B : Nat} {w : World} {v : Value} {xs : List α} (hf : ∀ x, (f x).length = k) (h : RowS e f k B w v xs) : ∃ p c, v = .slice p xs.length c ∧ SAt f k w p xs ∧ ∀ b o, p = some ⟨b, o, none⟩ → B ≤ b ∧ b < w.heap.size := by
  obtain ⟨p, c, hv, ho⟩ := h.own hf
  refine ⟨p, c, hv, ho.sat, fun b o hp => h.lt b (by rw [hv, hp]; rfl)⟩
theorem SAt.butF {α : Type} {f : α → List Value} {k g : Nat} {w w' : World} {p : Option Addr} {xs : List α} (h : SAt f k w p xs) (hb : But g w w') (hne : ∀ b o, p = some ⟨b, o, none⟩ → b ≠ g) : SAt f k w' p xs := fun i hi => by
  obtain ⟨b, o, h1, h2, h3⟩ := h i hi
  obtain ⟨hc, hf, hk, _⟩ := bucell hb
  exact ⟨b, o, h1, hk _ h2, fun j v hv => by rw [hc _ _ h2 (hne b o h1)]; exact h3 j v hv⟩
theorem IntsAt.butF {g : Nat} {w w' : World} {p : Option Addr} {xs : List Int} (h : IntsAt w p xs) (hb : But g w w') (hne : ∀ b o, p = some ⟨b, o, none⟩ → b ≠ g) : IntsAt w' p xs := fun i hi => by
  obtain ⟨b, o, h1, h2, h3⟩ := h i hi
  obtain ⟨hc, hf, hk, _⟩ := bucell hb
  exact ⟨b, o, h1, hk _ h2, by rw [hc _ _ h2 (hne b o h1)]; exact h3⟩
end Go.Proofs.YtdjknkmifaomgaaGreat

/-! Matrix grids, the program's side: copies, formats put and read, errors of the fixed cells. -/
namespace Go.Proofs.YtdjknkmifaomgaaGreat
set_option linter.unusedVariables false
set_option linter.unusedSimpArgs false
open Go.RowKit

theorem OwnInts.setFarN {B g i b o : Nat} {w : World} {xs : List Int} {v : Value} (h : OwnInts B w (some ⟨b, o, none⟩) xs) (hg : b ≠ g) : OwnInts B (w.setCell ⟨g, i, none⟩ v) (some ⟨b, o, none⟩) xs :=
  h.keep (by simp [World.setCell]) fun b' o' hn hq _ => by
    simp only [Option.some.injEq, Addr.mk.injEq] at hq
    obtain ⟨rfl, -⟩ := hq
    exact Below.heap_setCell w ⟨g, i, none⟩ v b hg
theorem But.setG {g i : Nat} {a b : World} (h : But g a b) (v : Value) : But g a (b.setCell ⟨g, i, none⟩ v) := h.trans (But.set b g i v)
/-- A grid and a code given back. -/
def GrdC (B : Nat) (code r c : Int) (xs : List Int) (e : Ending) (w' : World) : Prop := ∃ p k, e = .returned (.tuple #[vGrid r c p xs.length k, .int .i64 code]) ∧ OwnInts B w' p xs ∧ xs.length ≤ k
open Classical in
/-- A grid with a format: code, rows, columns, cells. -/
noncomputable def pfV (r c : Int) (xs : List Int) (v : Int) : Int × Int × Int × List Int :=
  if ¬ matOK r c xs then (1, 0, 0, []) else if ¬ (0 ≤ v ∧ v ≤ 31) then (2, 0, 0, []) else (0, r, c, pFmt r.toNat (fmtW v.toNat) xs 15)
theorem fillL_step {L : List Int} {k : Nat} (h : k < L.length) : (L.take k ++ List.replicate (L.length - k) 0).set k (L.getD k 0) = L.take (k + 1) ++ List.replicate (L.length - (k + 1)) 0 := by
  have hl : (L.take k).length = k := by simp; omega
  obtain ⟨m, hm⟩ : ∃ m, L.length - k = m + 1 := ⟨L.length - k - 1, by omega⟩
  rw [List.set_append, if_neg (by omega), hl, Nat.sub_self, hm, List.replicate_succ, List.set_cons_zero, show L.length - (k + 1) = m by omega, List.take_succ_eq_append_getElem h, List.getD_eq_getElem?_getD, List.getElem?_eq_getElem h, List.append_assoc]
  rfl
theorem fillL_len {L : List Int} {k : Nat} (h : k ≤ L.length) : (L.take k ++ List.replicate (L.length - k) 0).length = L.length := by simp; omega
open Classical in
/-- What is read from a grid's format: value and code. -/
noncomputable def rfV (r c : Int) (xs : List Int) : Int × Int :=
  if ¬ matOK r c xs then (0, 1) else shareV (cellsL r.toNat xs aPl) (cellsL r.toNat xs (bPl r))
theorem cellsL_fm {n : Nat} {xs : List Int} {ps : List (Int × Int)} (h : ∀ x ∈ xs, -1 ≤ x ∧ x ≤ 1) : fmL (cellsL n xs ps) := fun x hx => by
  simp only [cellsL, List.mem_map] at hx
  obtain ⟨p, _, rfl⟩ := hx
  by_cases hl : plIx n p < xs.length
  · rw [List.getD_eq_getElem?_getD, List.getElem?_eq_getElem hl]; exact h _ (List.getElem_mem _)
  · rw [List.getD_eq_getElem?_getD, List.getElem?_eq_none (by omega)]; simp
theorem shareV_cd (a b : List Int) : shareV a b = (0, 7) ∨ ((shareV a b).2 = 0 ∧ 0 ≤ (shareV a b).1 ∧ (shareV a b).1 < 32) := by
  have h1 := nearV_bd a
  have h2 := nearV_bd b
  unfold shareV
  split
  · exact .inl rfl
  · split
    · exact .inr ⟨rfl, by simp, by simp; omega⟩
    · exact .inr ⟨rfl, by simp, by simp; omega⟩
/-- The number of fixed cells among the first k that are known and wrong. -/
def feTo (fs xs : List Int) : Nat → Nat
  | 0 => 0
  | k + 1 => feTo fs xs k + if 0 ≤ fs.getD k 0 ∧ 0 ≤ xs.getD k 0 ∧ fs.getD k 0 ≠ xs.getD k 0 then 1 else 0
theorem feTo_le (fs xs : List Int) : ∀ k, feTo fs xs k ≤ k
  | 0 => Nat.le_refl _
  | k + 1 => by
    have := feTo_le fs xs k
    unfold feTo
    split <;> omega
open Classical in
noncomputable def feV (r c : Int) (xs : List Int) : Int × Int := if ¬ matOK r c xs then (0, 1) else (((feTo (fixL r.toNat) xs xs.length : Nat) : Int), 0)
end Go.Proofs.YtdjknkmifaomgaaGreat

/-! Matrix grids, the reference's side: formats put and read, errors of the fixed cells. -/
namespace Go.Proofs.YtdjknkmifaomgaaGreat
set_option linter.unusedVariables false
set_option linter.unusedSimpArgs false
open Go.RowKit

end Go.Proofs.YtdjknkmifaomgaaGreat

/-! Drawn square grids. -/
namespace Go.Proofs.YtdjknkmifaomgaaGreat
set_option linter.unusedVariables false
set_option linter.unusedSimpArgs false
open Go.RowKit

/-- A drawn grid of up to 2000 cells; only the source has turned. -/
def GrQ (n0 g : Nat) (w : World) (e : Ending) (w' : World) : Prop := ∃ (r c : Int) (p : Option Addr) (k : Nat) (xs : List Int), e = .returned (vGrid r c p xs.length k) ∧ xs.length ≤ 2000 ∧ xs.length ≤ k ∧ OwnInts w.heap.size w' p xs ∧ Src n0 w' g ∧ But g w w'
theorem grq_far {n0 g : Nat} {w w' : World} {r c : Int} {p : Option Addr} {k : Nat} {xs : List Int} (hl : xs.length ≤ 2000) (hk : xs.length ≤ k) (h : OwnInts (w.heap.size + 1) w' p xs) (hs : Src n0 w' g) (hn0 : n0 ≤ w.heap.size) (hb : But g w w') :
    GrQ n0 g w (.returned (vGrid r c p xs.length k)) (((w'.setCell ⟨w.heap.size, 0, none⟩ (.int .i64 r)).setCell ⟨w.heap.size, 1, none⟩ (.int .i64 c)).setCell ⟨w.heap.size, 2, none⟩ (.slice p xs.length k)) :=
  ⟨r, c, p, k, xs, rfl, hl, hk, (((h.setFar (Nat.lt_succ_self _)).setFar (Nat.lt_succ_self _)).setFar (Nat.lt_succ_self _)).mono (Nat.le_succ _), ((hs.set hn0).set hn0).set hn0, ((hb.setOld (Nat.le_refl _)).setOld (Nat.le_refl _)).setOld (Nat.le_refl _)⟩
theorem sizesA (j : Nat) (hj : j < 4) : ∃ n : Nat, (#[.int .i64 17, .int .i64 21, .int .i64 25, .int .i64 17] : Array Value)[j]? = some (.int .i64 n) ∧ 17 ≤ n ∧ n ≤ 25 := by
  match j, hj with
  | 0, _ => exact ⟨17, rfl, by omega⟩
  | 1, _ => exact ⟨21, rfl, by omega⟩
  | 2, _ => exact ⟨25, rfl, by omega⟩
  | 3, _ => exact ⟨17, rfl, by omega⟩
/-- A drawn grid and nothing old turned. -/
def GrE (w : World) (e : Ending) (w' : World) : Prop := ∃ (r c : Int) (p : Option Addr) (k : Nat) (xs : List Int), e = .returned (vGrid r c p xs.length k) ∧ xs.length ≤ 2000 ∧ xs.length ≤ k ∧ OwnInts w.heap.size w' p xs ∧ Ext w w'
/-- A drawn grid and a drawn number, nothing old turned. -/
def GrvE (w : World) (e : Ending) (w' : World) : Prop := ∃ (r c : Int) (p : Option Addr) (k : Nat) (xs : List Int) (v : Int), e = .returned (.tuple #[vGrid r c p xs.length k, .int .i64 v]) ∧ xs.length ≤ 2000 ∧ xs.length ≤ k ∧ OwnInts w.heap.size w' p xs ∧ Ext w w'
end Go.Proofs.YtdjknkmifaomgaaGreat
