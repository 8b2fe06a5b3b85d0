/- Stacked symbols, the program's side: the patterns' indices as a map. -/
import Derived.Test.YtekignklnakkaaaGreatDoorLDamagedElementsK07
import Derived.Test.YtekignklnakkaaaGreatDoorLDamagedElementsK17
set_option linter.unusedVariables false
set_option linter.unusedSimpArgs false
namespace Go.Proofs.YtekignklnakkaaaGreatDoor
open Go.RowKit Go.MapKept Go.ChangeMaps Go.Maps

abbrev L8 := {l : List Int // l.length = 8}
abbrev eW8 (x : L8) : Value := .agg (w8F x.1).toArray
theorem eW8_inj (x y : L8) (h : eW8 x = eW8 y) : x = y := by
  obtain ⟨a, ha⟩ := x; obtain ⟨b, hb⟩ := y
  obtain ⟨a0, a1, a2, a3, a4, a5, a6, a7, rfl⟩ := eight_of ha
  obtain ⟨b0, b1, b2, b3, b4, b5, b6, b7, rfl⟩ := eight_of hb
  have h2 : (Value.agg #[.int .i64 a0, .int .i64 a1, .int .i64 a2, .int .i64 a3, .int .i64 a4, .int .i64 a5, .int .i64 a6, .int .i64 a7]) = (Value.agg #[.int .i64 b0, .int .i64 b1, .int .i64 b2, .int .i64 b3, .int .i64 b4, .int .i64 b5, .int .i64 b6, .int .i64 b7]) := h
  simp at h2
  obtain ⟨rfl, rfl, rfl, rfl, rfl, rfl, rfl, rfl⟩ := h2
  rfl
theorem w8Keyed : Keyed Tryz.prog 251 := Keyed.of_law (deep_law_gate lawLaid (of_decide_eq_true (by kernel_rfl)) (of_decide_eq_true (by kernel_rfl)) (by kernel_rfl) (by kernel_rfl))
theorem cells8 : Tryz.prog.cellsOf 251 = 8 := by kernel_rfl
theorem lits_w8 {a0 a1 a2 a3 a4 a5 a6 a7 : Int} (h0 : (Lit.int .i64 a0).wf = true) (h1 : (Lit.int .i64 a1).wf = true) (h2 : (Lit.int .i64 a2).wf = true) (h3 : (Lit.int .i64 a3).wf = true) (h4 : (Lit.int .i64 a4).wf = true) (h5 : (Lit.int .i64 a5).wf = true) (h6 : (Lit.int .i64 a6).wf = true) (h7 : (Lit.int .i64 a7).wf = true) : ∀ d, 2 ≤ d →
    ∃ kl, Tryz.prog.keyLits d 251 [.int .i64 a0, .int .i64 a1, .int .i64 a2, .int .i64 a3, .int .i64 a4, .int .i64 a5, .int .i64 a6, .int .i64 a7] = some kl
  | 0, hd => by omega
  | d + 1, hd => by
    unfold Program.keyLits
    rw [Tryz.underlying251]
    simp only [cells8, cells1]
    have hr : List.range 8 = [0, 1, 2, 3, 4, 5, 6, 7] := rfl
    refine ⟨[.int .i64 a0, .int .i64 a1, .int .i64 a2, .int .i64 a3, .int .i64 a4, .int .i64 a5, .int .i64 a6, .int .i64 a7], ?_⟩
    simp [hr, lits_int h0 d (by omega), lits_int h1 d (by omega), lits_int h2 d (by omega), lits_int h3 d (by omega), lits_int h4 d (by omega), lits_int h5 d (by omega), lits_int h6 d (by omega), lits_int h7 d (by omega)]
theorem w8Key {x : L8} (h : ∀ v ∈ x.1, -9223372036854775808 ≤ v ∧ v ≤ 9223372036854775807) : ∃ kl, keyOf Tryz.prog 251 (eW8 x) = some kl := by
  obtain ⟨l, hl⟩ := x
  obtain ⟨a0, a1, a2, a3, a4, a5, a6, a7, rfl⟩ := eight_of hl
  have hs : 0 < Tryz.prog.types.size := of_decide_eq_true (by kernel_rfl)
  have hs2 : 2 ≤ Tryz.prog.types.size + 1 := two_le hs
  obtain ⟨kl, hkl⟩ := lits_w8 (WalkArith.wf_i64 (h a0 (by simp))) (WalkArith.wf_i64 (h a1 (by simp))) (WalkArith.wf_i64 (h a2 (by simp))) (WalkArith.wf_i64 (h a3 (by simp))) (WalkArith.wf_i64 (h a4 (by simp))) (WalkArith.wf_i64 (h a5 (by simp))) (WalkArith.wf_i64 (h a6 (by simp))) (WalkArith.wf_i64 (h a7 (by simp))) (Tryz.prog.types.size + 1) hs2
  have hkt : Tryz.prog.keyType 251 = true := by kernel_rfl
  have hf : (Value.agg #[.int .i64 a0, .int .i64 a1, .int .i64 a2, .int .i64 a3, .int .i64 a4, .int .i64 a5, .int .i64 a6, .int .i64 a7]).formed Tryz.prog 251 = true := by kernel_rfl
  refine ⟨.string (keyBytes kl), ?_⟩
  unfold keyOf
  rw [Tryz.underlying251]
  show (if (Tryz.prog.keyType 251 && (Value.agg #[.int .i64 a0, .int .i64 a1, .int .i64 a2, .int .i64 a3, .int .i64 a4, .int .i64 a5, .int .i64 a6, .int .i64 a7]).formed Tryz.prog 251) = true then (Tryz.prog.keyLits (Tryz.prog.types.size + 1) 251 [.int .i64 a0, .int .i64 a1, .int .i64 a2, .int .i64 a3, .int .i64 a4, .int .i64 a5, .int .i64 a6, .int .i64 a7]).map fun ls => Lit.string (keyBytes ls) else none) = _
  rw [hkt, hf, hkl]
  rfl
def idxF (n : Nat) (x : L8) : Option Value := match idxP x.1 with
  | some i => if i < n then some (.int .i64 i) else none
  | none => none
theorem idxF_zero (x : L8) : idxF 0 x = none := by
  unfold idxF
  split <;> rfl
theorem idxF_succ {n : Nat} (hn : n < 120) (y x : L8) (hy : y.1 = PAT.getD n []) : idxF (n + 1) x = if x = y then some (.int .i64 n) else idxF n x := by
  have hi := idxP_at n hn
  by_cases h : x = y
  · subst h
    rw [if_pos rfl]
    unfold idxF
    rw [hy, hi]
    exact if_pos (Nat.lt_succ_self n)
  · rw [if_neg h]
    unfold idxF
    cases hx : idxP x.1 with
    | none => rfl
    | some i =>
      have hne : i ≠ n := fun e => h (Subtype.ext (by rw [hy, ← (idxP_some hx).2, e]))
      have : (i < n + 1) = (i < n) := by simp; omega
      simp only [this]
theorem PAT_in : ∀ p ∈ PAT, ∀ v ∈ p, 1 ≤ v ∧ v ≤ 11 := by decide +kernel
end Go.Proofs.YtekignklnakkaaaGreatDoor
