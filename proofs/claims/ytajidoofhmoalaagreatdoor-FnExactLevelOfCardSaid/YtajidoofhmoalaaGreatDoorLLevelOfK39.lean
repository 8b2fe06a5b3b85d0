/- The level and the mask of a symbol: plain values. -/
import Derived.Test.YtajidoofhmoalaaGreatDoorLLevelOfK36
import Derived.Test.YtajidoofhmoalaaGreatDoorLLevelOfK38
set_option linter.unusedVariables false
set_option linter.unusedSimpArgs false
namespace Go.Proofs.YtajidoofhmoalaaGreatDoor
open Go.RowKit

open Classical in
noncomputable def lvL (K r c : Int) (xs : List Int) (nl : Nat) : Int :=
  if K = 2 then topS (vtR xs c.toNat (rowN c.toNat) nl r.toNat) nl else if (rfV r c xs).2 = 0 then (rfV r c xs).1 / 8 else -1
noncomputable def lvM (K r c : Int) (xs : List Int) : Int := if K = 2 then 0 else (rfV r c xs).1 % 8
def lvG (K p k q co : Int) (ls : List Int) (r c : Int) (xs : List Int) : Prop :=
  (0 ≤ lvL K r c xs ls.length ∧ lvL K r c xs ls.length ≤ (ls.length : Int) - 1) ∧ layOK p k q (lyD K p k co r (ls.getD (lvL K r c xs ls.length).toNat 0)) (lyC K p k co r (ls.getD (lvL K r c xs ls.length).toNat 0)) (lyN K p k co r)
theorem lvL_st {K r c : Int} {xs : List Int} {nl : Nat} (h : K = 2) : lvL K r c xs nl = topS (vtR xs c.toNat (rowN c.toNat) nl r.toNat) nl := if_pos h
theorem lvL_mx {K r c : Int} {xs : List Int} {nl : Nat} (h : ¬ K = 2) (h0 : (rfV r c xs).2 = 0) : lvL K r c xs nl = (rfV r c xs).1 / 8 := by
  unfold lvL
  rw [if_neg h, if_pos h0]
theorem lvL_no {K r c : Int} {xs : List Int} {nl : Nat} (h : ¬ K = 2) (h0 : ¬ (rfV r c xs).2 = 0) : lvL K r c xs nl = -1 := by
  unfold lvL
  rw [if_neg h, if_neg h0]
theorem lvM_st {K r c : Int} {xs : List Int} (h : K = 2) : lvM K r c xs = 0 := if_pos h
theorem lvM_mx {K r c : Int} {xs : List Int} (h : ¬ K = 2) : lvM K r c xs = (rfV r c xs).1 % 8 := if_neg h
theorem rfV_bd (r c : Int) (xs : List Int) : 0 ≤ (rfV r c xs).1 ∧ (rfV r c xs).1 < 32 := by
  unfold rfV
  split
  · exact ⟨by decide, by decide⟩
  · rcases shareV_cd (cellsL r.toNat xs aPl) (cellsL r.toNat xs (bPl r)) with h | h
    · rw [h]; exact ⟨by decide, by decide⟩
    · exact h.2
theorem mem_idx {l : List Int} {x : Int} (h : x ∈ l) : ∃ i, i < l.length ∧ l.getD i 0 = x := by
  obtain ⟨i, hi, e⟩ := List.getElem_of_mem h
  exact ⟨i, hi, by rw [List.getD_eq_getElem?_getD, List.getElem?_eq_getElem hi]; exact e⟩
theorem famS {nm : ByteArray} {K p k q co r : Int} {ss ls : List Int} (h : famOK nm K p k q ss co ls) (hr : r ∈ ss) : (K = 1 ∧ sizOK r) ∨ (K = 2 ∧ (3 ≤ r ∧ r ≤ 24) ∧ (1 ≤ co ∧ co ≤ 8)) := by
  obtain ⟨i, hi, rfl⟩ := mem_idx hr
  exact fam_size h hi
theorem stk_nat {nm : ByteArray} {p k q co r c : Int} {ss ls xs : List Int} (hF : famOK nm 2 p k q ss co ls) (hG : gridOK r c xs) (hin : r ∈ ss) (hc : c = colsV 2 co r) : ∃ R C cO : Nat, r = R ∧ c = C ∧ co = cO ∧ xs.length = R * C ∧ 1 ≤ R ∧ R ≤ 24 ∧ 26 ≤ C ∧ C ≤ 200 ∧ R * C ≤ 40000 ∧ rowN C = cO + 2 := by
  obtain ⟨R, C, rfl, rfl, h1, h2, h3, h4⟩ := grid_nat hG
  rcases famS hF hin with ⟨h5, _⟩ | ⟨_, h5, h6⟩
  · exact absurd h5 (by decide)
  · rw [colsV_st rfl] at hc
    refine ⟨R, C, co.toNat, rfl, rfl, by omega, h4, h1, by omega, by omega, by omega, h3, ?_⟩
    unfold rowN
    omega
theorem IntsAt.where_ {w : World} {p : Option Addr} {xs : List Int} (h : IntsAt w p xs) (hl : 0 < xs.length) : ∃ b o, p = some ⟨b, o, none⟩ := by
  obtain ⟨b, o, e, _⟩ := h 0 hl
  exact ⟨b, o, e⟩
end Go.Proofs.YtajidoofhmoalaaGreatDoor
