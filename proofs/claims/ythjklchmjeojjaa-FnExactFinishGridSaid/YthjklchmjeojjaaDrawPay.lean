
/- A field of a size, and drawn fields. -/
import Derived.Test.YthjklchmjeojjaaSFld
import Derived.Test.YthjklchmjeojjaaDraw
import Derived.Test.YthjklchmjeojjaaDrawSeg
import Derived.Test.YthjklchmjeojjaaDraw10
import Derived.Test.YthjklchmjeojjaaEncode
/-! A field of a size, and drawn fields. -/
namespace Go.Proofs.Ythjklchmjeojjaa
set_option linter.unusedVariables false
set_option linter.unusedSimpArgs false
open Go.RowKit

/-- A field and a code given back. -/
def FoR (w : World) (e : Ending) (w' : World) : Prop := ∃ p k q c : Int, e = .returned (.tuple #[vFld p k q, .int .i64 c]) ∧ ((0 ≤ p ∧ p ≤ 2000) ∧ (0 ≤ k ∧ k ≤ 10) ∧ (0 ≤ q ∧ q ≤ 2000)) ∧ Ext w w'
end Go.Proofs.Ythjklchmjeojjaa

/-! Drawn fields. -/
namespace Go.Proofs.Ythjklchmjeojjaa
set_option linter.unusedVariables false
set_option linter.unusedSimpArgs false
open Go.RowKit

/-- A field has been drawn; only the source has turned. -/
def DfR (B : Int) (n0 g : Nat) (w : World) (e : Ending) (w' : World) : Prop := ∃ p k q : Int, e = .returned (vFld p k q) ∧ ((-3 ≤ p ∧ p ≤ 2000) ∧ (0 ≤ k ∧ k ≤ 10) ∧ (0 ≤ q ∧ q ≤ B)) ∧ Src n0 w' g ∧ But g w w'
/-- The sizes that are drawn. -/
def szA : Array Value := #[.int .i64 8, .int .i64 16, .int .i64 32, .int .i64 64, .int .i64 7, .int .i64 11, .int .i64 13, .int .i64 17, .int .i64 31, .int .i64 256, .int .i64 101, .int .i64 3]
theorem szA_get (j : Nat) (hj : j < 12) : ∃ n : Int, szA[j]? = some (.int .i64 n) ∧ 3 ≤ n ∧ n ≤ 1000 := by
  match j, hj with
  | 0, _ => exact ⟨8, rfl, by omega⟩
  | 1, _ => exact ⟨16, rfl, by omega⟩
  | 2, _ => exact ⟨32, rfl, by omega⟩
  | 3, _ => exact ⟨64, rfl, by omega⟩
  | 4, _ => exact ⟨7, rfl, by omega⟩
  | 5, _ => exact ⟨11, rfl, by omega⟩
  | 6, _ => exact ⟨13, rfl, by omega⟩
  | 7, _ => exact ⟨17, rfl, by omega⟩
  | 8, _ => exact ⟨31, rfl, by omega⟩
  | 9, _ => exact ⟨256, rfl, by omega⟩
  | 10, _ => exact ⟨101, rfl, by omega⟩
  | 11, _ => exact ⟨3, rfl, by omega⟩
end Go.Proofs.Ythjklchmjeojjaa

/-! Drawn payloads. -/
namespace Go.Proofs.Ythjklchmjeojjaa
set_option linter.unusedVariables false
set_option linter.unusedSimpArgs false
open Go.RowKit

theorem epL_ok {p k q : Int} {t : ByteArray} {cap : Int} (h : epC p k q t cap = 0) : fldOK p k q ∧ (1 ≤ cap ∧ cap ≤ 1500) ∧ (epL p k q t cap).length = cap.toNat ∧ (∀ x ∈ epL p k q t cap, 0 ≤ x ∧ x < fldSize p k) := by
  have hc := h
  unfold epC at h
  split at h
  · omega
  split at h
  · omega
  split at h
  · omega
  · rename_i h1 h2 h3
    have h1 := Classical.not_not.1 h1
    have h2 := Classical.not_not.1 h2
    obtain ⟨_, hl⟩ := ep_0 h1 h2 h3
    obtain ⟨hs, hk⟩ := fldSize_bd h1
    have hbd := fW_bd hs
    have hp : (padL (mBits (bests t t.size)) (cap * fW (fldSize p k)).toNat).length = (cap * fW (fldSize p k)).toNat := padL_len (by have := msg_len t; omega)
    have hbit := padL_bit (xs := mBits (bests t t.size)) (room := (cap * fW (fldSize p k)).toNat) mBits_bit
    have hcw : (cap * fW (fldSize p k)).toNat = cap.toNat * fW (fldSize p k) := by
      rw [Int.toNat_mul (by omega) (by omega), Int.toNat_natCast]
    rw [hl]
    generalize padL (mBits (bests t t.size)) (cap * fW (fldSize p k)).toNat = xs at *
    generalize fW (fldSize p k) = W at *
    have hd : xs.length / W = cap.toNat := by rw [hp, hcw, Nat.mul_div_cancel _ (by omega)]
    refine ⟨h1, h2, by unfold elemsL; rw [List.length_map, List.length_range, hd], fun x hx => ?_⟩
    unfold elemsL at hx
    rw [List.mem_map] at hx
    obtain ⟨i, hi, rfl⟩ := hx
    rw [List.mem_range, hd] at hi
    have : (i + 1) * W ≤ cap.toNat * W := Nat.mul_le_mul_right _ hi
    rw [Nat.add_mul, Nat.one_mul] at this
    have hb := numAt_bd hbit (i * W) W (by rw [hp, hcw]; omega)
    omega
theorem psV_bd (p k q : Int) (t : ByteArray) : 0 ≤ (psV p k q t).1 ∧ (psV p k q t).1 ≤ 1500 := by
  by_cases h1 : fldOK p k q
  · by_cases h2 : t.size ≤ 400
    · rw [psV_yes h1 h2 rfl]
      generalize ((cell t t.size).len + ↑(fW (fldSize p k)) - 1) / ↑(fW (fldSize p k)) = D
      split
      · exact ⟨by simp, by simp⟩
      · split
        · simp; omega
        · simp
    · rw [psV_long h1 h2]
      simp
  · rw [psV_no h1]
    simp
/-- A field and elements have been drawn; only the source has turned. -/
def ElR (n0 g : Nat) (w : World) (e : Ending) (w' : World) : Prop := ∃ (p k q : Int) (pt : Option Addr) (c : Nat) (xs : List Int), e = .returned (.tuple #[vFld p k q, .slice pt xs.length c]) ∧ (xs.length ≤ 1500 ∧ xs.length ≤ c) ∧ wfs xs ∧ IntsAt w' pt xs ∧ (∀ b o, 0 < xs.length → pt = some ⟨b, o, none⟩ → w.heap.size < b) ∧ Src n0 w' g ∧ But g w w'
theorem small2_wfs {xs : List Int} (h : ∀ x ∈ xs, -100000 ≤ x ∧ x ≤ 100000) : wfs xs := fun x hx => by
  have := h x hx
  have e1 : IntKind.i64.min = -9223372036854775808 := by decide
  have e2 : IntKind.i64.max = 9223372036854775807 := by decide
  simp only [Lit.wf, Bool.and_eq_true, decide_eq_true_eq, e1, e2]
  omega
theorem szv (S : Int) (j : Nat) (hj : j < 3) : ∃ v : Int, (#[.int .i64 (-1), .int .i64 S, .int .i64 (S - 1)] : Array Value)[j]? = some (.int .i64 v) ∧ (v = -1 ∨ v = S ∨ v = S - 1) := by
  match j, hj with
  | 0, _ => exact ⟨_, rfl, by omega⟩
  | 1, _ => exact ⟨_, rfl, by omega⟩
  | 2, _ => exact ⟨_, rfl, by omega⟩
theorem elr_fin {n0 g : Nat} {w w7 : World} {p k q : Int} {pt : Option Addr} {c : Nat} {xs : List Int} (hn0 : n0 ≤ w.heap.size) (hl : xs.length ≤ 1500 ∧ xs.length ≤ c) (hw : wfs xs) (hx : IntsAt w7 pt xs) (hp : ∀ b o, 0 < xs.length → pt = some ⟨b, o, none⟩ → w.heap.size < b) (hs : Src n0 w7 g) (hr : But g w w7) :
    ElR n0 g w (.returned (.tuple #[vFld p k q, .slice pt xs.length c])) (((w7.setCell ⟨w.heap.size, 0, none⟩ (.int .i64 p)).setCell ⟨w.heap.size, 1, none⟩ (.int .i64 k)).setCell ⟨w.heap.size, 2, none⟩ (.int .i64 q)) :=
  have hp' : ∀ b o, 0 < xs.length → pt = some ⟨b, o, none⟩ → b ≠ w.heap.size := fun b o hn e => by have := hp b o hn e; omega
  ⟨p, k, q, pt, c, xs, rfl, hl, hw, ((hx.but (But.set _ _ _ _) hp').but (But.set _ _ _ _) hp').but (But.set _ _ _ _) hp', hp, hs.low (by (repeat (first | exact Below.refl _ _ | refine Below.setCell ?_ (by first | (show _ ≤ _; omega) | (show _ ≤ _; simp <;> omega)) _ | refine Below.alloc ?_ (by first | omega | (simp [World.setCell] <;> omega)) _ | refine Below.drew ?_))) hn0, hr.below (by (repeat (first | exact Below.refl _ _ | refine Below.setCell ?_ (by first | (show _ ≤ _; omega) | (show _ ≤ _; simp <;> omega)) _ | refine Below.alloc ?_ (by first | omega | (simp [World.setCell] <;> omega)) _ | refine Below.drew ?_))) (Nat.le_refl _)⟩
end Go.Proofs.Ythjklchmjeojjaa
