
/- Grids: validity, known cells, rows. -/
import Derived.Test.YthokkmbdkjpbcaaGreatBits
import Derived.Test.YthokkmbdkjpbcaaGreatStructs
import Derived.Test.YthokkmbdkjpbcaaGreatCanon
import Derived.Lib.SlBytesRow
/-! Grids: validity, known cells, rows. -/
namespace Go.Proofs.YthokkmbdkjpbcaaGreat
set_option linter.unusedVariables false
set_option linter.unusedSimpArgs false
open Go.RowKit

abbrev vGrid (r c : Int) (p : Option Addr) (n k : Nat) : Value := .agg #[.int .i64 r, .int .i64 c, .slice p n k]
def gridOK (r c : Int) (xs : List Int) : Prop := (1 ≤ r ∧ r ≤ 40000) ∧ (1 ≤ c ∧ c ≤ 40000) ∧ r * c ≤ 40000 ∧ (xs.length : Int) = r * c ∧ ∀ x ∈ xs, -1 ≤ x ∧ x ≤ 1
theorem take_all {P : Int → Prop} {xs : List Int} {k : Nat} (hlt : k < xs.length) (h : ∀ x ∈ xs.take k, P x) (hx : P (xs.getD k 0)) : ∀ x ∈ xs.take (k + 1), P x := fun x hm => by
  rw [List.take_add_one, List.mem_append] at hm
  rcases hm with hm | hm
  · exact h x hm
  · rw [List.getElem?_eq_getElem hlt] at hm
    simp at hm
    subst hm
    rw [List.getD_eq_getElem?_getD, List.getElem?_eq_getElem hlt] at hx
    exact hx
set_option maxRecDepth 100000 in
theorem l05Has_c (p : Option Addr) (k : Nat) (n : Int) (xs : List Int) (w : World) (hx : IntsAt w p xs) (hl : xs.length ≤ 1048576) :
    Calls Tryz.prog 68 #[.slice p xs.length k, .int .i64 n] w fun e w' => isB e (n ∈ xs) ∧ Ext w w' := by
  have HX := Lib.hid hx; clear hx
  go_enter Tryz.func68, Tryz.ntmps68
  go_wp2
  go_loopw [5] (fun i wr => ∃ j : Nat, j ≤ xs.length ∧ i = .int .i64 j ∧ Hid (¬ n ∈ xs.take j) ∧ Ext w wr) (fun i _ => xs.length - (intOf i).toNat)
  case atStart => exact ⟨0, Nat.zero_le _, rfl, Lib.hid (by simp), (by repeat (first | exact Ext.refl _ | assumption | refine Ext.drew ?_ | refine Ext.drewN ?_ _ | refine Ext.iter ?_ _ _ | refine Ext.alloc ?_ _ | refine Ext.setCell ?_ (by first | exact Nat.le_refl _ | (simp <;> omega)) _ | refine Ext.trans2 (by assumption) ?_))⟩
  case round =>
    obtain ⟨j, hj, rfl, hT, hext⟩ := hrel
    by_cases hlt : j < xs.length
    · obtain ⟨b, o, rfl, hbl, z1⟩ := (HX.out.ext hext) j hlt
      have hst : xs.getD j 0 ≠ n → ¬ n ∈ xs.take (j + 1) := fun h => by
        have := take_all (P := fun x => x ≠ n) hlt (fun x hm e => hT.out (by rw [← e]; exact hm)) h
        exact fun hm => this n hm rfl
      have hat : xs.getD j 0 = n → n ∈ xs := fun h => by
        rw [← h, List.getD_eq_getElem?_getD, List.getElem?_eq_getElem hlt]
        exact List.getElem_mem _
      generalize xs.getD j 0 = x at *
      have hst := Lib.hid hst
      have hat := Lib.hid hat
      by_cases h0 : x = n
      · have hd : (x == n) = true := by simpa using h0
        replace h0 := Lib.hid h0
        go_wp2
        go_ret
        exact ⟨isB_t (hat.out h0.out), hext⟩
      · have hd : (x == n) = false := by simpa using h0
        replace h0 := Lib.hid h0
        go_wp2
        go_roundw
        case rel => exact ⟨j + 1, hlt, by go_num, Lib.hid (hst.out h0.out), hext⟩
        case measure => simp [intOf]; omega
    · obtain rfl : j = xs.length := by omega
      go_wp2
      go_ret
      exact ⟨isB_f (fun h => hT.out (by rwa [List.take_length])), hext⟩
end Go.Proofs.YthokkmbdkjpbcaaGreat

/-! Rows and bands of grids. -/
namespace Go.Proofs.YthokkmbdkjpbcaaGreat
set_option linter.unusedVariables false
set_option linter.unusedSimpArgs false
open Go.RowKit

theorem RowI.stored {B : Nat} {w : World} {v : Value} {xs : List Int} (h : RowI B w v xs) {k : Nat} (hk : k < xs.length) :
    ∃ g c, v = .slice (some ⟨g, 0, none⟩) xs.length c ∧ B ≤ g ∧ g < w.heap.size ∧ w.cell? ⟨g, k, none⟩ = some (.int .i64 (xs.getD k 0)) ∧ w.frozen? ⟨g, k, none⟩ = false ∧ xs.length ≤ c ∧
      ∀ x : Int, RowI B (w.setCell ⟨g, k, none⟩ (.int .i64 x)) v (xs.set k x) := by
  rcases h.2 with ⟨_, hn⟩ | ⟨g, cap, cur, hv, hg, hh, hle, _⟩
  · omega
  · have h' : w.ownsRow B 2 1 (.slice (some ⟨g, 0, none⟩) xs.length cap) xs.length (xs.map (Value.int .i64)) := by rw [← hv]; exact h
    refine ⟨g, cap, hv, hg, (Array.getElem?_eq_some_iff.1 hh).1, ?_, h'.frozenAt _, hle, fun x => ?_⟩
    · rw [h'.cellAt k (by omega), List.getElem?_map, List.getElem?_eq_getElem hk, List.getD_eq_getElem?_getD, List.getElem?_eq_getElem hk]
      rfl
    · have h2 := (h'.stored k (.int .i64 x)).1
      unfold RowI
      rw [hv, List.length_set]
      rw [← List.map_set] at h2
      exact h2

/-! The walks. -/
end Go.Proofs.YthokkmbdkjpbcaaGreat

/-! Bands, as the program computes them. -/
namespace Go.Proofs.YthokkmbdkjpbcaaGreat
set_option linter.unusedVariables false
set_option linter.unusedSimpArgs false
open Go.RowKit

end Go.Proofs.YthokkmbdkjpbcaaGreat

/-! Bands, as the reference computes them. -/
namespace Go.Proofs.YthokkmbdkjpbcaaGreat
set_option linter.unusedVariables false
set_option linter.unusedSimpArgs false
open Go.RowKit

theorem RowI.grew {B : Nat} {v1 v1' v2 : Value} {w w' : World} {ys : List Int} (h : RowI B w v2 ys) (hg : Grew v1 w w' v1') (ht : ∀ k, v2.ownBlock = some k → v1.ownBlock ≠ some k) : RowI B w' v2 ys := by
  refine ⟨h.1, ?_⟩
  rcases h.2 with h2 | ⟨g, cap, cur, hv, hb, hh, r⟩
  · exact .inl h2
  · exact .inr ⟨g, cap, cur, hv, hb, by rw [hg.by_.block g (Array.getElem?_eq_some_iff.1 hh).1 (fun e => ht g (by rw [hv]; rfl) e.symm)]; exact hh, r⟩
theorem RowI.apart {B : Nat} {v1 v1' v2 : Value} {w w' : World} {ys : List Int} (h : RowI B w v2 ys) (hg : Grew v1 w w' v1') (ht : ∀ k, v2.ownBlock = some k → v1.ownBlock ≠ some k) : ∀ k, v2.ownBlock = some k → v1'.ownBlock ≠ some k := fun k hk e => by
  rcases hg.own k e with h2 | h2
  · exact ht k hk h2
  · have := (h.lt k hk).2; omega
theorem RowI.setOther {B : Nat} {v : Value} {w : World} {ys : List Int} {g i : Nat} {u : Value} (h : RowI B w v ys) (hg : v.ownBlock ≠ some g) : RowI B (w.setCell ⟨g, i, none⟩ u) v ys := by
  refine ⟨h.1, ?_⟩
  rcases h.2 with h2 | ⟨g', cap, cur, hv, hb, hh, r⟩
  · exact .inl h2
  · exact .inr ⟨g', cap, cur, hv, hb, by rw [Below.heap_setCell w ⟨g, i, none⟩ u g' (fun e => hg (by rw [hv, e]; rfl))]; exact hh, r⟩
end Go.Proofs.YthokkmbdkjpbcaaGreat

/-! BandsOf. -/
namespace Go.Proofs.YthokkmbdkjpbcaaGreat
set_option linter.unusedVariables false
set_option linter.unusedSimpArgs false
open Go.RowKit

/-- A list and a code given back. -/
def LC2 (B : Nat) (L : List Int) (code : Int) (e : Ending) (w' : World) : Prop := ∃ p c, e = .returned (.tuple #[.slice p L.length c, .int .i64 code]) ∧ OwnInts B w' p L
theorem LC2.of {B : Nat} {L : List Int} {code : Int} {w : World} {v : Value} (h : RowI B w v L) : LC2 B L code (.returned (.tuple #[v, .int .i64 code])) w := by
  obtain ⟨p, c, rfl, ho⟩ := h.own
  exact ⟨p, c, rfl, ho⟩
end Go.Proofs.YthokkmbdkjpbcaaGreat
