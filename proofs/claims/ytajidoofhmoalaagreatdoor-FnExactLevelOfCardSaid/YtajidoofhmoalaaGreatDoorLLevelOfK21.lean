/- Plain facts: the data places of a matrix size, and what a mask does to a grid. -/
import Derived.Test.YtajidoofhmoalaaGreatDoorLLevelOfK20
import Derived.Test.YtajidoofhmoalaaGreatDoorLLevelOfK11
set_option linter.unusedVariables false
set_option linter.unusedSimpArgs false
namespace Go.Proofs.YtajidoofhmoalaaGreatDoor
open Go.RowKit

def fixF (n : Nat) : List Int := pFmt n (fmtW 0) (fixL n) 15
def rgt (n : Nat) : Nat → Int
  | 0 => (n : Int) - 1
  | j + 1 => (if rgt n j = 6 then 5 else rgt n j) - 2
def rg (n j : Nat) : Int := if rgt n j = 6 then 5 else rgt n j
theorem rgt_s (n j : Nat) : rgt n (j + 1) = rg n j - 2 := rfl
def cnt (n : Nat) : Nat := (n - 1) / 2
theorem rgt_ok7 : ∀ m : Nat, m < 7 → ∀ j : Nat, j < cnt (17 + 4 * m) → (0 < rgt (17 + 4 * m) j ∧ rgt (17 + 4 * m) j ≤ ((16 + 4 * m : Nat) : Int)) ∧ 1 ≤ rg (17 + 4 * m) j := by decide +kernel
theorem rgt_end7 : ∀ m : Nat, m < 7 → rgt (17 + 4 * m) (cnt (17 + 4 * m)) = -1 := by decide +kernel
theorem rgt_ok {n : Nat} (h : 17 ≤ n ∧ n ≤ 41) (h4 : n % 4 = 1) {j : Nat} (hj : j < cnt n) : (0 < rgt n j ∧ rgt n j ≤ (n : Int) - 1) ∧ 1 ≤ rg n j ∧ rg n j ≤ (n : Int) - 1 := by
  obtain ⟨m, rfl⟩ : ∃ m, n = 17 + 4 * m := ⟨(n - 17) / 4, by omega⟩
  have h1 := rgt_ok7 m (by omega) j hj
  refine ⟨by omega, h1.2, ?_⟩
  unfold rg
  split <;> omega
theorem rgt_end {n : Nat} (h : 17 ≤ n ∧ n ≤ 41) (h4 : n % 4 = 1) : rgt n (cnt n) = -1 := by
  obtain ⟨m, rfl⟩ : ∃ m, n = 17 + 4 * m := ⟨(n - 17) / 4, by omega⟩
  exact rgt_end7 m (by omega)
def plA (n : Nat) (right : Int) (up : Bool) (k : Nat) : Int × Int := (if up = true then (n : Int) - 1 - ((k / 2 : Nat) : Int) else ((k / 2 : Nat) : Int), right - ((k % 2 : Nat) : Int))
theorem plA_bd {n : Nat} {right : Int} {up : Bool} {k : Nat} (h1 : 1 ≤ right ∧ right ≤ (n : Int) - 1) (hk : k < 2 * n) : (0 ≤ (plA n right up k).1 ∧ (plA n right up k).1 < n) ∧ (0 ≤ (plA n right up k).2 ∧ (plA n right up k).2 < n) := by
  unfold plA
  cases up
  · simp only [Bool.false_eq_true, if_false]; omega
  · simp only [if_true]; omega
def colTo (n : Nat) (right : Int) (up : Bool) : Nat → List (Int × Int)
  | 0 => []
  | k + 1 => colTo n right up k ++ if (fixF n).getD (plIx n (plA n right up k)) 0 < 0 then [plA n right up k] else []
theorem colTo_s (n : Nat) (right : Int) (up : Bool) (k : Nat) : colTo n right up (k + 1) = colTo n right up k ++ if (fixF n).getD (plIx n (plA n right up k)) 0 < 0 then [plA n right up k] else [] := rfl
theorem colTo_len (n : Nat) (right : Int) (up : Bool) : ∀ k, (colTo n right up k).length ≤ k
  | 0 => Nat.le_refl 0
  | k + 1 => by
    have ih := colTo_len n right up k
    rw [colTo_s, List.length_append]
    split <;> simp <;> omega
def upB (j : Nat) : Bool := j % 2 == 0
theorem upB_s (j : Nat) : upB (j + 1) = !upB j := by
  unfold upB
  rcases Nat.mod_two_eq_zero_or_one j with h | h
  · rw [h, show (j + 1) % 2 = 1 by omega]; rfl
  · rw [h, show (j + 1) % 2 = 0 by omega]; rfl
def dpTo (n : Nat) : Nat → List (Int × Int)
  | 0 => []
  | j + 1 => dpTo n j ++ colTo n (rg n j) (upB j) (2 * n)
theorem dpTo_s (n j : Nat) : dpTo n (j + 1) = dpTo n j ++ colTo n (rg n j) (upB j) (2 * n) := rfl
theorem dpTo_len (n : Nat) : ∀ j, (dpTo n j).length ≤ j * (2 * n)
  | 0 => Nat.zero_le _
  | j + 1 => by
    have ih := dpTo_len n j
    have := colTo_len n (rg n j) (upB j) (2 * n)
    rw [dpTo_s, List.length_append, Nat.add_mul, Nat.one_mul]; omega
def dpL (n : Nat) : List (Int × Int) := dpTo n (cnt n)
theorem cnt_mul {n j : Nat} (h : n ≤ 41) (hj : j ≤ cnt n) : j * (2 * n) ≤ 1681 := by
  have h1 : j ≤ 20 := by unfold cnt at hj; omega
  have := Nat.mul_le_mul h1 (show 2 * n ≤ 82 by omega)
  omega
theorem dpL_len {n : Nat} (h : n ≤ 41) : (dpL n).length ≤ 1681 := Nat.le_trans (dpTo_len n _) (cnt_mul h (Nat.le_refl _))
def NDp (n : Nat) (p : Int × Int) : Prop := (∃ i, i < n * n ∧ p = (((i / n : Nat) : Int), ((i % n : Nat) : Int)) ∧ 0 ≤ (fixL n).getD i 0) ∨ p ∈ aPl ∨ p ∈ bPl n
theorem pl_nat {n : Nat} {p : Int × Int} (h1 : 0 ≤ p.1 ∧ p.1 < n) (h2 : 0 ≤ p.2 ∧ p.2 < n) : ∃ r c : Nat, p = ((r : Int), (c : Int)) ∧ r < n ∧ c < n ∧ plIx n p = r * n + c := by
  obtain ⟨a, b⟩ := p
  obtain ⟨r, rfl⟩ := Int.eq_ofNat_of_zero_le h1.1
  obtain ⟨c, rfl⟩ := Int.eq_ofNat_of_zero_le h2.1
  refine ⟨r, c, rfl, by simpa using h1.2, by simpa using h2.2, ?_⟩
  show ((r : Int) * (n : Int) + (c : Int)).toNat = _
  rw [← Int.natCast_mul, ← Int.natCast_add, Int.toNat_natCast]
theorem pl_inj {n : Nat} {p q : Int × Int} (h1 : 0 ≤ p.1 ∧ p.1 < n) (h2 : 0 ≤ p.2 ∧ p.2 < n) (h3 : 0 ≤ q.1 ∧ q.1 < n) (h4 : 0 ≤ q.2 ∧ q.2 < n) (e : plIx n p = plIx n q) : p = q := by
  obtain ⟨a, b, rfl, ha, hb, e1⟩ := pl_nat h1 h2
  obtain ⟨c, d, rfl, hc, hd, e2⟩ := pl_nat h3 h4
  rw [e1, e2] at e
  have hn : 0 < n := by omega
  have d1 : (a * n + b) / n = a := by rw [Nat.mul_comm, Nat.mul_add_div hn, Nat.div_eq_of_lt hb]; rfl
  have d2 : (c * n + d) / n = c := by rw [Nat.mul_comm, Nat.mul_add_div hn, Nat.div_eq_of_lt hd]; rfl
  have m1 : (a * n + b) % n = b := by rw [Nat.mul_comm, Nat.mul_add_mod, Nat.mod_eq_of_lt hb]
  have m2 : (c * n + d) % n = d := by rw [Nat.mul_comm, Nat.mul_add_mod, Nat.mod_eq_of_lt hd]
  rw [e] at d1 m1
  rw [d1] at d2
  rw [m1] at m2
  rw [d2, m2]
theorem pFmt_far {n : Nat} {ws xs : List Int} {i : Nat} : ∀ k, k ≤ 15 → (∀ j, j < k → (ixA n).getD j 0 ≠ i) → (∀ j, j < k → (ixB n).getD j 0 ≠ i) → (pFmt n ws xs k).getD i 0 = xs.getD i 0
  | 0, _, _, _ => rfl
  | k + 1, hk, h1, h2 => by
    have ih := pFmt_far (ws := ws) (xs := xs) k (by omega) (fun j hj => h1 j (by omega)) (fun j hj => h2 j (by omega))
    have e1 := h1 k (by omega)
    have e2 := h2 k (by omega)
    rw [ixA_at n k (by omega)] at e1
    rw [ixB_at n k (by omega)] at e2
    show (((pFmt n ws xs k).set _ _).set _ _).getD i 0 = _
    rw [List.getD_eq_getElem?_getD, List.getElem?_set_ne e2, List.getElem?_set_ne e1, ← List.getD_eq_getElem?_getD]
    exact ih
theorem mem_at {ps : List (Int × Int)} {p : Int × Int} (h : p ∈ ps) : ∃ j, j < ps.length ∧ ps.getD j (0, 0) = p := by
  obtain ⟨j, hj, e⟩ := List.getElem_of_mem h
  exact ⟨j, hj, by rw [List.getD_eq_getElem?_getD, List.getElem?_eq_getElem hj]; exact e⟩
theorem ND_iff {n : Nat} (hn : 17 ≤ n ∧ n ≤ 41) (h4 : n % 4 = 1) {p : Int × Int} (h1 : 0 ≤ p.1 ∧ p.1 < n) (h2 : 0 ≤ p.2 ∧ p.2 < n) : NDp n p ↔ 0 ≤ (fixF n).getD (plIx n p) 0 := by
  have hat := pFmt_at (ws := fmtW 0) hn h4 (fixL_len n) 15 (Nat.le_refl _)
  have hw := fun k => fmtW_at (v := 0) (by omega) k
  have hA : ∀ j, j < 15 → 0 ≤ (fixF n).getD ((ixA n).getD j 0) 0 := fun j hj => by unfold fixF; rw [(hat j hj).1]; exact hw j
  have hB : ∀ j, j < 15 → 0 ≤ (fixF n).getD ((ixB n).getD j 0) 0 := fun j hj => by unfold fixF; rw [(hat j hj).2]; exact hw j
  constructor
  · rintro (⟨i, hi, rfl, hv⟩ | hp | hp)
    · have hn0 : 0 < n := by omega
      have ei : plIx n (((i / n : Nat) : Int), ((i % n : Nat) : Int)) = i := by
        show ((((i / n : Nat) : Int)) * (n : Int) + ((i % n : Nat) : Int)).toNat = i
        rw [← Int.natCast_mul, ← Int.natCast_add, Int.toNat_natCast, Nat.mul_comm]
        exact Nat.div_add_mod i n
      rw [ei]
      by_cases ha : ∃ j, j < 15 ∧ (ixA n).getD j 0 = i
      · obtain ⟨j, hj, rfl⟩ := ha; exact hA j hj
      · by_cases hb : ∃ j, j < 15 ∧ (ixB n).getD j 0 = i
        · obtain ⟨j, hj, rfl⟩ := hb; exact hB j hj
        · unfold fixF
          rw [pFmt_far 15 (Nat.le_refl _) (fun j hj e => ha ⟨j, hj, e⟩) (fun j hj e => hb ⟨j, hj, e⟩)]
          exact hv
    · obtain ⟨j, hj, rfl⟩ := mem_at hp
      rw [← ixA_at n j hj]; exact hA j hj
    · obtain ⟨j, hj, rfl⟩ := mem_at hp
      rw [← ixB_at n j hj]; exact hB j hj
  · intro hv
    by_cases ha : ∃ j, j < 15 ∧ (ixA n).getD j 0 = plIx n p
    · obtain ⟨j, hj, e⟩ := ha
      rw [ixA_at n j hj] at e
      have hm := getD_mem (d := (0, 0)) (show j < aPl.length from hj)
      have := aPl_in hn.1 _ hm
      have e2 := pl_inj this.1 this.2 h1 h2 e
      rw [← e2]; exact .inr (.inl hm)
    · by_cases hb : ∃ j, j < 15 ∧ (ixB n).getD j 0 = plIx n p
      · obtain ⟨j, hj, e⟩ := hb
        rw [ixB_at n j hj] at e
        have hm := getD_mem (d := (0, 0)) (show j < (bPl n).length from hj)
        have := bPl_bd hn.1 _ hm
        have e2 := pl_inj this.1 this.2 h1 h2 e
        rw [← e2]; exact .inr (.inr hm)
      · unfold fixF at hv
        rw [pFmt_far 15 (Nat.le_refl _) (fun j hj e => ha ⟨j, hj, e⟩) (fun j hj e => hb ⟨j, hj, e⟩)] at hv
        obtain ⟨a, b, rfl, ha', hb', e1⟩ := pl_nat h1 h2
        have hn0 : 0 < n := by omega
        refine .inl ⟨a * n + b, ?_, ?_, by rw [← e1]; exact hv⟩
        · have := Nat.mul_le_mul_right n (show a + 1 ≤ n from ha')
          rw [Nat.add_mul, Nat.one_mul] at this; omega
        · have d1 : (a * n + b) / n = a := by rw [Nat.mul_comm, Nat.mul_add_div hn0, Nat.div_eq_of_lt hb']; rfl
          have m1 : (a * n + b) % n = b := by rw [Nat.mul_comm, Nat.mul_add_mod, Nat.mod_eq_of_lt hb']
          rw [d1, m1]
end Go.Proofs.YtajidoofhmoalaaGreatDoor

namespace Go.Proofs.YtajidoofhmoalaaGreatDoor
open Go.RowKit

def PlcR (n : Nat) (B : Nat) (e : Ending) (w' : World) : Prop := ∃ v, e = .returned v ∧ RowP B w' v (dpL n)
theorem rg_cases (n j : Nat) : (rgt n j = 6 ∧ rg n j = 5) ∨ (rgt n j ≠ 6 ∧ rg n j = rgt n j) := by
  unfold rg
  by_cases h : rgt n j = 6
  · exact .inl ⟨h, if_pos h⟩
  · exact .inr ⟨h, if_neg h⟩
end Go.Proofs.YtajidoofhmoalaaGreatDoor

namespace Go.Proofs.YtajidoofhmoalaaGreatDoor
open Go.RowKit

section
open Go.MapKept Go.ChangeMaps Go.Maps
variable {α : Type} {k e t : TypeId} {E : α → Value} {w : World} {b n : Nat} {f : α → Option Value}
variable {ops : Array Oper} {Q : Exit → Act → World → Prop} {rest : List Oper} {a : Act} {dst : Option Tmp} {m x v : Operand} {ty : TypeId} {pos : String} {after : Array Edge}
end
theorem MapA.congr {α : Type} {k : TypeId} {E : α → Value} {w : World} {b n : Nat} {f g : α → Option Value} (h : MapA k E w b n f) (e : ∀ x, f x = g x) : MapA k E w b n g := by
  rw [← funext e]; exact h
end Go.Proofs.YtajidoofhmoalaaGreatDoor
/- Stacked symbols, the program's side: the patterns' indices as a map. -/
namespace Go.Proofs.YtajidoofhmoalaaGreatDoor
open Go.RowKit Go.MapKept Go.ChangeMaps Go.Maps

abbrev L8 := {l : List Int // l.length = 8}
abbrev eW8 (x : L8) : Value := .agg (w8F x.1).toArray
theorem eW8_inj (x y : L8) (h : eW8 x = eW8 y) : x = y := by
  obtain ⟨a, ha⟩ := x; obtain ⟨b, hb⟩ := y
  obtain ⟨a0, a1, a2, a3, a4, a5, a6, a7, rfl⟩ := eight_of ha
  obtain ⟨b0, b1, b2, b3, b4, b5, b6, b7, rfl⟩ := eight_of hb
  have h2 : (Value.agg #[.int .i64 a0, .int .i64 a1, .int .i64 a2, .int .i64 a3, .int .i64 a4, .int .i64 a5, .int .i64 a6, .int .i64 a7]) = (Value.agg #[.int .i64 b0, .int .i64 b1, .int .i64 b2, .int .i64 b3, .int .i64 b4, .int .i64 b5, .int .i64 b6, .int .i64 b7]) := h
  simp at h2
  obtain ⟨rfl, rfl, rfl, rfl, rfl, rfl, rfl, rfl⟩ := h2
  rfl
theorem w8Keyed : Keyed Tryz.prog 255 := Keyed.of_law (deep_law_gate lawLaid (of_decide_eq_true (by kernel_rfl)) (of_decide_eq_true (by kernel_rfl)) (by kernel_rfl) (by kernel_rfl))
theorem cells8 : Tryz.prog.cellsOf 255 = 8 := by kernel_rfl
theorem lits_w8 {a0 a1 a2 a3 a4 a5 a6 a7 : Int} (h0 : (Lit.int .i64 a0).wf = true) (h1 : (Lit.int .i64 a1).wf = true) (h2 : (Lit.int .i64 a2).wf = true) (h3 : (Lit.int .i64 a3).wf = true) (h4 : (Lit.int .i64 a4).wf = true) (h5 : (Lit.int .i64 a5).wf = true) (h6 : (Lit.int .i64 a6).wf = true) (h7 : (Lit.int .i64 a7).wf = true) : ∀ d, 2 ≤ d →
    ∃ kl, Tryz.prog.keyLits d 255 [.int .i64 a0, .int .i64 a1, .int .i64 a2, .int .i64 a3, .int .i64 a4, .int .i64 a5, .int .i64 a6, .int .i64 a7] = some kl
  | 0, hd => by omega
  | d + 1, hd => by
    unfold Program.keyLits
    rw [Tryz.underlying255]
    simp only [cells8, cells1]
    have hr : List.range 8 = [0, 1, 2, 3, 4, 5, 6, 7] := rfl
    refine ⟨[.int .i64 a0, .int .i64 a1, .int .i64 a2, .int .i64 a3, .int .i64 a4, .int .i64 a5, .int .i64 a6, .int .i64 a7], ?_⟩
    simp [hr, lits_int h0 d (by omega), lits_int h1 d (by omega), lits_int h2 d (by omega), lits_int h3 d (by omega), lits_int h4 d (by omega), lits_int h5 d (by omega), lits_int h6 d (by omega), lits_int h7 d (by omega)]
theorem w8Key {x : L8} (h : ∀ v ∈ x.1, -9223372036854775808 ≤ v ∧ v ≤ 9223372036854775807) : ∃ kl, keyOf Tryz.prog 255 (eW8 x) = some kl := by
  obtain ⟨l, hl⟩ := x
  obtain ⟨a0, a1, a2, a3, a4, a5, a6, a7, rfl⟩ := eight_of hl
  have hs : 0 < Tryz.prog.types.size := of_decide_eq_true (by kernel_rfl)
  have hs2 : 2 ≤ Tryz.prog.types.size + 1 := two_le hs
  obtain ⟨kl, hkl⟩ := lits_w8 (WalkArith.wf_i64 (h a0 (by simp))) (WalkArith.wf_i64 (h a1 (by simp))) (WalkArith.wf_i64 (h a2 (by simp))) (WalkArith.wf_i64 (h a3 (by simp))) (WalkArith.wf_i64 (h a4 (by simp))) (WalkArith.wf_i64 (h a5 (by simp))) (WalkArith.wf_i64 (h a6 (by simp))) (WalkArith.wf_i64 (h a7 (by simp))) (Tryz.prog.types.size + 1) hs2
  have hkt : Tryz.prog.keyType 255 = true := by kernel_rfl
  have hf : (Value.agg #[.int .i64 a0, .int .i64 a1, .int .i64 a2, .int .i64 a3, .int .i64 a4, .int .i64 a5, .int .i64 a6, .int .i64 a7]).formed Tryz.prog 255 = true := by kernel_rfl
  refine ⟨.string (keyBytes kl), ?_⟩
  unfold keyOf
  rw [Tryz.underlying255]
  show (if (Tryz.prog.keyType 255 && (Value.agg #[.int .i64 a0, .int .i64 a1, .int .i64 a2, .int .i64 a3, .int .i64 a4, .int .i64 a5, .int .i64 a6, .int .i64 a7]).formed Tryz.prog 255) = true then (Tryz.prog.keyLits (Tryz.prog.types.size + 1) 255 [.int .i64 a0, .int .i64 a1, .int .i64 a2, .int .i64 a3, .int .i64 a4, .int .i64 a5, .int .i64 a6, .int .i64 a7]).map fun ls => Lit.string (keyBytes ls) else none) = _
  rw [hkt, hf, hkl]
  rfl
def idxF (n : Nat) (x : L8) : Option Value := match idxP x.1 with
  | some i => if i < n then some (.int .i64 i) else none
  | none => none
theorem idxF_zero (x : L8) : idxF 0 x = none := by
  unfold idxF
  split <;> rfl
theorem idxF_succ {n : Nat} (hn : n < 120) (y x : L8) (hy : y.1 = PAT.getD n []) : idxF (n + 1) x = if x = y then some (.int .i64 n) else idxF n x := by
  have hi := idxP_at n hn
  by_cases h : x = y
  · subst h
    rw [if_pos rfl]
    unfold idxF
    rw [hy, hi]
    exact if_pos (Nat.lt_succ_self n)
  · rw [if_neg h]
    unfold idxF
    cases hx : idxP x.1 with
    | none => rfl
    | some i =>
      have hne : i ≠ n := fun e => h (Subtype.ext (by rw [hy, ← (idxP_some hx).2, e]))
      have : (i < n + 1) = (i < n) := by simp; omega
      simp only [this]
theorem PAT_in : ∀ p ∈ PAT, ∀ v ∈ p, 1 ≤ v ∧ v ≤ 11 := by decide +kernel
end Go.Proofs.YtajidoofhmoalaaGreatDoor
