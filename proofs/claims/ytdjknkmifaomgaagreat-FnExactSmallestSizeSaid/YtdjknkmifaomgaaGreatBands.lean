
/- Grids: validity, known cells, rows. -/
import Derived.Test.YtdjknkmifaomgaaGreatBits
import Derived.Test.YtdjknkmifaomgaaGreatStructs
import Derived.Test.YtdjknkmifaomgaaGreatCanon
import Derived.Lib.SlBytesRow
/-! Grids: validity, known cells, rows. -/
namespace Go.Proofs.YtdjknkmifaomgaaGreat
set_option linter.unusedVariables false
set_option linter.unusedSimpArgs false
open Go.RowKit

abbrev vGrid (r c : Int) (p : Option Addr) (n k : Nat) : Value := .agg #[.int .i64 r, .int .i64 c, .slice p n k]
def gridOK (r c : Int) (xs : List Int) : Prop := (1 ≤ r ∧ r ≤ 40000) ∧ (1 ≤ c ∧ c ≤ 40000) ∧ r * c ≤ 40000 ∧ (xs.length : Int) = r * c ∧ ∀ x ∈ xs, -1 ≤ x ∧ x ≤ 1
theorem take_all {P : Int → Prop} {xs : List Int} {k : Nat} (hlt : k < xs.length) (h : ∀ x ∈ xs.take k, P x) (hx : P (xs.getD k 0)) : ∀ x ∈ xs.take (k + 1), P x := fun x hm => by
  rw [List.take_add_one, List.mem_append] at hm
  rcases hm with hm | hm
  · exact h x hm
  · rw [List.getElem?_eq_getElem hlt] at hm
    simp at hm
    subst hm
    rw [List.getD_eq_getElem?_getD, List.getElem?_eq_getElem hlt] at hx
    exact hx
theorem at_all {P : Int → Prop} {xs : List Int} {k : Nat} (hlt : k < xs.length) (h : ∀ x ∈ xs, P x) : P (xs.getD k 0) := by
  rw [List.getD_eq_getElem?_getD, List.getElem?_eq_getElem hlt]
  exact h _ (List.getElem_mem _)
set_option maxRecDepth 100000 in
theorem l05Has_c (p : Option Addr) (k : Nat) (n : Int) (xs : List Int) (w : World) (hx : IntsAt w p xs) (hl : xs.length ≤ 1048576) :
    Calls Tryz.prog 70 #[.slice p xs.length k, .int .i64 n] w fun e w' => isB e (n ∈ xs) ∧ Ext w w' := by
  have HX := Lib.hid hx; clear hx
  go_enter Tryz.func70, Tryz.ntmps70
  go_wp2
  go_loopw [5] (fun i wr => ∃ j : Nat, j ≤ xs.length ∧ i = .int .i64 j ∧ Hid (¬ n ∈ xs.take j) ∧ Ext w wr) (fun i _ => xs.length - (intOf i).toNat)
  case atStart => exact ⟨0, Nat.zero_le _, rfl, Lib.hid (by simp), (by repeat (first | exact Ext.refl _ | assumption | refine Ext.drew ?_ | refine Ext.drewN ?_ _ | refine Ext.iter ?_ _ _ | refine Ext.alloc ?_ _ | refine Ext.setCell ?_ (by first | exact Nat.le_refl _ | (simp <;> omega)) _ | refine Ext.trans2 (by assumption) ?_))⟩
  case round =>
    obtain ⟨j, hj, rfl, hT, hext⟩ := hrel
    by_cases hlt : j < xs.length
    · obtain ⟨b, o, rfl, hbl, z1⟩ := (HX.out.ext hext) j hlt
      have hst : xs.getD j 0 ≠ n → ¬ n ∈ xs.take (j + 1) := fun h => by
        have := take_all (P := fun x => x ≠ n) hlt (fun x hm e => hT.out (by rw [← e]; exact hm)) h
        exact fun hm => this n hm rfl
      have hat : xs.getD j 0 = n → n ∈ xs := fun h => by
        rw [← h, List.getD_eq_getElem?_getD, List.getElem?_eq_getElem hlt]
        exact List.getElem_mem _
      generalize xs.getD j 0 = x at *
      have hst := Lib.hid hst
      have hat := Lib.hid hat
      by_cases h0 : x = n
      · have hd : (x == n) = true := by simpa using h0
        replace h0 := Lib.hid h0
        go_wp2
        go_ret
        exact ⟨isB_t (hat.out h0.out), hext⟩
      · have hd : (x == n) = false := by simpa using h0
        replace h0 := Lib.hid h0
        go_wp2
        go_roundw
        case rel => exact ⟨j + 1, hlt, by go_num, Lib.hid (hst.out h0.out), hext⟩
        case measure => simp [intOf]; omega
    · obtain rfl : j = xs.length := by omega
      go_wp2
      go_ret
      exact ⟨isB_f (fun h => hT.out (by rwa [List.take_length])), hext⟩
end Go.Proofs.YtdjknkmifaomgaaGreat

/-! Rows and bands of grids. -/
namespace Go.Proofs.YtdjknkmifaomgaaGreat
set_option linter.unusedVariables false
set_option linter.unusedSimpArgs false
open Go.RowKit

/-- Row k of a grid of c columns. -/
def rowL (c : Nat) (xs : List Int) (k : Nat) : List Int := (xs.drop (k * c)).take c
theorem rowL_len {c : Nat} {xs : List Int} {k n : Nat} (h : xs.length = n * c) (hk : k < n) : (rowL c xs k).length = c := by
  have : (k + 1) * c ≤ n * c := Nat.mul_le_mul_right _ hk
  rw [Nat.add_mul, Nat.one_mul] at this
  simp only [rowL, List.length_take, List.length_drop]
  omega
theorem rowL_at {c : Nat} {xs : List Int} {k n b o : Nat} {w : World} (h : xs.length = n * c) (hk : k < n) (hx : IntsAt w (some ⟨b, o, none⟩) xs) : IntsAt w (some ⟨b, o + k * c, none⟩) (rowL c xs k) := fun i hi => by
  rw [rowL_len h hk] at hi
  have h2 : (k + 1) * c ≤ n * c := Nat.mul_le_mul_right _ hk
  rw [Nat.add_mul, Nat.one_mul] at h2
  obtain ⟨b', o', e, hb, hc⟩ := hx (k * c + i) (by omega)
  simp at e
  obtain ⟨rfl, rfl⟩ := e
  refine ⟨b, _, rfl, hb, ?_⟩
  rw [Nat.add_assoc, hc]
  congr 2
  rw [List.getD_eq_getElem?_getD, List.getD_eq_getElem?_getD, rowL, List.getElem?_take_of_lt hi, List.getElem?_drop]
/-- The last number is one more. -/
def incLast (l : List Int) : List Int := l.set (l.length - 1) (l.getD (l.length - 1) 0 + 1)
/-- The numbers of rows of the bands of the first k rows. -/
def bandsTo (c : Nat) (xs : List Int) : Nat → List Int
  | 0 => []
  | k + 1 => if 0 < k ∧ rowL c xs k = rowL c xs (k - 1) then incLast (bandsTo c xs k) else bandsTo c xs k ++ [1]
theorem bandsTo_succ (c : Nat) (xs : List Int) (k : Nat) : bandsTo c xs (k + 1) = if 0 < k ∧ rowL c xs k = rowL c xs (k - 1) then incLast (bandsTo c xs k) else bandsTo c xs k ++ [1] := rfl
theorem bandsTo_bd (c : Nat) (xs : List Int) : ∀ k, (bandsTo c xs k).length ≤ k ∧ (0 < k → 0 < (bandsTo c xs k).length) ∧ ∀ x ∈ bandsTo c xs k, 1 ≤ x ∧ x ≤ k
  | 0 => ⟨Nat.le_refl _, fun h => absurd h (Nat.lt_irrefl _), fun x hx => by simp [bandsTo] at hx⟩
  | k + 1 => by
    obtain ⟨h1, h2, h3⟩ := bandsTo_bd c xs k
    unfold bandsTo
    split
    · rename_i hc
      have hn := h2 hc.1
      refine ⟨by simp [incLast]; omega, fun _ => by simpa [incLast] using hn, fun x hx => ?_⟩
      rcases List.mem_or_eq_of_mem_set hx with h | rfl
      · have := h3 x h; omega
      · have := h3 _ (show (bandsTo c xs k).getD ((bandsTo c xs k).length - 1) 0 ∈ bandsTo c xs k by
          rw [List.getD_eq_getElem?_getD, List.getElem?_eq_getElem (by omega)]
          exact List.getElem_mem _)
        omega
    · refine ⟨by simp; omega, fun _ => by simp, fun x hx => ?_⟩
      rw [List.mem_append] at hx
      rcases hx with h | h
      · have := h3 x h; omega
      · simp at h; omega
theorem RowI.stored {B : Nat} {w : World} {v : Value} {xs : List Int} (h : RowI B w v xs) {k : Nat} (hk : k < xs.length) :
    ∃ g c, v = .slice (some ⟨g, 0, none⟩) xs.length c ∧ B ≤ g ∧ g < w.heap.size ∧ w.cell? ⟨g, k, none⟩ = some (.int .i64 (xs.getD k 0)) ∧ w.frozen? ⟨g, k, none⟩ = false ∧ xs.length ≤ c ∧
      ∀ x : Int, RowI B (w.setCell ⟨g, k, none⟩ (.int .i64 x)) v (xs.set k x) := by
  rcases h.2 with ⟨_, hn⟩ | ⟨g, cap, cur, hv, hg, hh, hle, _⟩
  · omega
  · have h' : w.ownsRow B 2 1 (.slice (some ⟨g, 0, none⟩) xs.length cap) xs.length (xs.map (Value.int .i64)) := by rw [← hv]; exact h
    refine ⟨g, cap, hv, hg, (Array.getElem?_eq_some_iff.1 hh).1, ?_, h'.frozenAt _, hle, fun x => ?_⟩
    · rw [h'.cellAt k (by omega), List.getElem?_map, List.getElem?_eq_getElem hk, List.getD_eq_getElem?_getD, List.getElem?_eq_getElem hk]
      rfl
    · have h2 := (h'.stored k (.int .i64 x)).1
      unfold RowI
      rw [hv, List.length_set]
      rw [← List.map_set] at h2
      exact h2

/-! The walks. -/
open Classical in
/-- The code of a grid for a job. -/
noncomputable def jcV (r c : Int) (xs : List Int) : Int := if ¬ gridOK r c xs then 1 else if ¬ ∀ x ∈ xs, 0 ≤ x then 5 else 0
end Go.Proofs.YtdjknkmifaomgaaGreat

/-! Bands, as the program computes them. -/
namespace Go.Proofs.YtdjknkmifaomgaaGreat
set_option linter.unusedVariables false
set_option linter.unusedSimpArgs false
open Go.RowKit

end Go.Proofs.YtdjknkmifaomgaaGreat

/-! Bands, as the reference computes them. -/
namespace Go.Proofs.YtdjknkmifaomgaaGreat
set_option linter.unusedVariables false
set_option linter.unusedSimpArgs false
open Go.RowKit

theorem RowI.grew {B : Nat} {v1 v1' v2 : Value} {w w' : World} {ys : List Int} (h : RowI B w v2 ys) (hg : Grew v1 w w' v1') (ht : ∀ k, v2.ownBlock = some k → v1.ownBlock ≠ some k) : RowI B w' v2 ys := by
  refine ⟨h.1, ?_⟩
  rcases h.2 with h2 | ⟨g, cap, cur, hv, hb, hh, r⟩
  · exact .inl h2
  · exact .inr ⟨g, cap, cur, hv, hb, by rw [hg.by_.block g (Array.getElem?_eq_some_iff.1 hh).1 (fun e => ht g (by rw [hv]; rfl) e.symm)]; exact hh, r⟩
theorem RowI.apart {B : Nat} {v1 v1' v2 : Value} {w w' : World} {ys : List Int} (h : RowI B w v2 ys) (hg : Grew v1 w w' v1') (ht : ∀ k, v2.ownBlock = some k → v1.ownBlock ≠ some k) : ∀ k, v2.ownBlock = some k → v1'.ownBlock ≠ some k := fun k hk e => by
  rcases hg.own k e with h2 | h2
  · exact ht k hk h2
  · have := (h.lt k hk).2; omega
theorem RowI.setOther {B : Nat} {v : Value} {w : World} {ys : List Int} {g i : Nat} {u : Value} (h : RowI B w v ys) (hg : v.ownBlock ≠ some g) : RowI B (w.setCell ⟨g, i, none⟩ u) v ys := by
  refine ⟨h.1, ?_⟩
  rcases h.2 with h2 | ⟨g', cap, cur, hv, hb, hh, r⟩
  · exact .inl h2
  · exact .inr ⟨g', cap, cur, hv, hb, by rw [Below.heap_setCell w ⟨g, i, none⟩ u g' (fun e => hg (by rw [hv, e]; rfl))]; exact hh, r⟩
end Go.Proofs.YtdjknkmifaomgaaGreat

/-! BandsOf. -/
namespace Go.Proofs.YtdjknkmifaomgaaGreat
set_option linter.unusedVariables false
set_option linter.unusedSimpArgs false
open Go.RowKit

noncomputable def boL (r c : Int) (xs : List Int) : List Int := if jcV r c xs = 0 then bandsTo c.toNat xs r.toNat else []
theorem jcV_ok {r c : Int} {xs : List Int} (h : jcV r c xs = 0) : gridOK r c xs := by
  unfold jcV at h
  split at h
  · omega
  · rename_i h1
    exact Classical.not_not.1 h1
theorem grid_nat {r c : Int} {xs : List Int} (h : gridOK r c xs) : ∃ R C : Nat, r = R ∧ c = C ∧ 1 ≤ R ∧ 1 ≤ C ∧ R * C ≤ 40000 ∧ xs.length = R * C := by
  obtain ⟨h1, h2, h3, h4, _⟩ := h
  refine ⟨r.toNat, c.toNat, by omega, by omega, by omega, by omega, ?_, ?_⟩
  · have : ((r.toNat * c.toNat : Nat) : Int) = r * c := by rw [Int.natCast_mul, Int.toNat_of_nonneg (by omega), Int.toNat_of_nonneg (by omega)]
    omega
  · have : ((r.toNat * c.toNat : Nat) : Int) = r * c := by rw [Int.natCast_mul, Int.toNat_of_nonneg (by omega), Int.toNat_of_nonneg (by omega)]
    omega
theorem boL_len (r c : Int) (xs : List Int) : (boL r c xs).length ≤ 40000 := by
  unfold boL
  split
  · rename_i h
    obtain ⟨R, C, rfl, rfl, h1, h2, h3, _⟩ := grid_nat (jcV_ok h)
    have h5 := (bandsTo_bd C xs R).1
    have : R * 1 ≤ R * C := Nat.mul_le_mul_left _ h2
    simp only [Int.toNat_natCast]
    omega
  · simp
/-- A list and a code given back. -/
def LC2 (B : Nat) (L : List Int) (code : Int) (e : Ending) (w' : World) : Prop := ∃ p c, e = .returned (.tuple #[.slice p L.length c, .int .i64 code]) ∧ OwnInts B w' p L
theorem LC2.of {B : Nat} {L : List Int} {code : Int} {w : World} {v : Value} (h : RowI B w v L) : LC2 B L code (.returned (.tuple #[v, .int .i64 code])) w := by
  obtain ⟨p, c, rfl, ho⟩ := h.own
  exact ⟨p, c, rfl, ho⟩
end Go.Proofs.YtdjknkmifaomgaaGreat
