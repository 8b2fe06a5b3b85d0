
/- Grids: validity, known cells, rows. -/
import Derived.Test.YthjklchmjeojjaaBits
import Derived.Test.YthjklchmjeojjaaStructs
import Derived.Test.YthjklchmjeojjaaCanon
namespace Go.Proofs.Ythjklchmjeojjaa
set_option linter.unusedVariables false
set_option linter.unusedSimpArgs false
open Go.RowKit

abbrev vGrid (r c : Int) (p : Option Addr) (n k : Nat) : Value := .agg #[.int .i64 r, .int .i64 c, .slice p n k]
def gridOK (r c : Int) (xs : List Int) : Prop := (1 ≤ r ∧ r ≤ 40000) ∧ (1 ≤ c ∧ c ≤ 40000) ∧ r * c ≤ 40000 ∧ (xs.length : Int) = r * c ∧ ∀ x ∈ xs, -1 ≤ x ∧ x ≤ 1
theorem take_all {P : Int → Prop} {xs : List Int} {k : Nat} (hlt : k < xs.length) (h : ∀ x ∈ xs.take k, P x) (hx : P (xs.getD k 0)) : ∀ x ∈ xs.take (k + 1), P x := fun x hm => by
  rw [List.take_add_one, List.mem_append] at hm
  rcases hm with hm | hm
  · exact h x hm
  · rw [List.getElem?_eq_getElem hlt] at hm
    simp at hm
    subst hm
    rw [List.getD_eq_getElem?_getD, List.getElem?_eq_getElem hlt] at hx
    exact hx
theorem at_all {P : Int → Prop} {xs : List Int} {k : Nat} (hlt : k < xs.length) (h : ∀ x ∈ xs, P x) : P (xs.getD k 0) := by
  rw [List.getD_eq_getElem?_getD, List.getElem?_eq_getElem hlt]
  exact h _ (List.getElem_mem _)
set_option maxHeartbeats 800000 in
set_option maxRecDepth 100000 in
theorem iIsGrid_c (r c : Int) (p : Option Addr) (k : Nat) (xs : List Int) (w : World) (hx : IntsAt w p xs) (hl : xs.length ≤ 1048576) :
    Calls Try.prog 59 #[vGrid r c p xs.length k] w fun e w' => isB e (gridOK r c xs) ∧ Ext w w' := by
  have HX := Lib.hid hx; clear hx
  have hb := Blk.new w #[.int .i64 r, .int .i64 c, .slice p xs.length k] 26
  have hx0 : Ext w (w.alloc (.cells #[.int .i64 r, .int .i64 c, .slice p xs.length k] 26)) := (Ext.refl w).alloc _
  by_cases h1 : 1 ≤ r ∧ r ≤ 40000
  · by_cases h2 : 1 ≤ c ∧ c ≤ 40000
    · obtain ⟨M, hM⟩ : ∃ M : Int, r * c = M := ⟨_, rfl⟩
      have hMb : 1 ≤ M ∧ M ≤ 1600000000 := by
        rw [← hM]
        have e1 : 1 * 1 ≤ r * c := Int.mul_le_mul (by omega) (by omega) (by omega) (by omega)
        have e2 : r * c ≤ 40000 * 40000 := Int.mul_le_mul (by omega) (by omega) (by omega) (by omega)
        omega
      have e1 := IntWalk.i64_in M (by omega)
      by_cases h3 : M ≤ 40000
      · by_cases h4 : (xs.length : Int) = M
        · have hn3 : ¬ 40000 < M := by omega
          have h4b : ((xs.length : Int) != M) = false := by simp [h4]
          have hok : gridOK r c xs ↔ ∀ x ∈ xs, -1 ≤ x ∧ x ≤ 1 := ⟨fun h => h.2.2.2.2, fun h => ⟨h1, h2, by rw [hM]; exact h3, by rw [hM]; exact h4, h⟩⟩
          have hok := Lib.hid hok
          have h4 := Lib.hid h4
          generalize gridOK r c xs = OK at *
          go_enter Try.func59, Try.ntmps59
          go_wp2_with (first | (go_at_call 30; (with_reducible refine (inRange_c _ _ _ _).mono ?_); rintro e w1 ⟨⟨hP, rfl⟩ | ⟨hP, rfl⟩, rfl⟩ <;> first | (exfalso; omega) | skip))
          generalize w.alloc (.cells #[.int .i64 r, .int .i64 c, .slice p xs.length k] 26) = w0 at *
          clear e1 h4b hn3
          go_loopw [37] (fun i wr => ∃ j : Nat, j ≤ xs.length ∧ i = .int .i64 j ∧ Hid (∀ x ∈ xs.take j, -1 ≤ x ∧ x ≤ 1) ∧ Ext w0 wr) (fun i _ => xs.length - (intOf i).toNat)
          case atStart => exact ⟨0, Nat.zero_le _, rfl, Lib.hid (by simp), (by repeat (first | exact Ext.refl _ | assumption | refine Ext.drew ?_ | refine Ext.drewN ?_ _ | refine Ext.iter ?_ _ _ | refine Ext.alloc ?_ _ | refine Ext.setCell ?_ (by first | exact Nat.le_refl _ | (simp <;> omega)) _ | refine Ext.trans2 (by assumption) ?_))⟩
          case round =>
            obtain ⟨j, hj, rfl, hT, hext⟩ := hrel
            have hbr := hb.ext hext
            have f0 := hbr.cell (i := 0) (v := .int .i64 r) rfl
            have f1 := hbr.cell (i := 1) (v := .int .i64 c) rfl
            have f2 := hbr.cell (i := 2) (v := .slice p xs.length k) rfl
            have fl := hbr.lt
            by_cases hlt : j < xs.length
            · obtain ⟨b, o, rfl, hbl, z1⟩ := (HX.out.ext (hx0.trans hext)) j hlt
              have hst := fun h2 => take_all (P := fun x => -1 ≤ x ∧ x ≤ 1) hlt hT.out h2
              have hat := fun (h : ∀ x ∈ xs, -1 ≤ x ∧ x ≤ 1) => at_all hlt h
              generalize xs.getD j 0 = x at *
              have hst := Lib.hid hst
              have hat := Lib.hid hat
              go_wp2_with ((go_at_call 30; (with_reducible refine (inRange_c _ _ _ _).mono ?_); rintro e w1 ⟨⟨hP, rfl⟩ | ⟨hP, rfl⟩, rfl⟩))
              · go_roundw
                case rel => exact ⟨j + 1, hlt, by go_num, Lib.hid (hst.out hP), hext⟩
                case measure => simp [intOf]; omega
              · go_ret
                exact ⟨isB_f (fun h => hP (hat.out (hok.out.1 h))), hx0.trans hext⟩
            · obtain rfl : j = xs.length := by omega
              go_wp2
              go_ret
              exact ⟨isB_t (hok.out.2 fun x hm => hT.out x (by rwa [List.take_length])), hx0.trans hext⟩
        · have hn3 : ¬ 40000 < M := by omega
          have h4b : ((xs.length : Int) != M) = true := by simpa using h4
          have hno := Lib.hid (show ¬ gridOK r c xs from fun h => h4 (by rw [← hM]; exact h.2.2.2.1))
          clear h4
          go_enter Try.func59, Try.ntmps59
          go_wp2_with (first | (go_at_call 30; (with_reducible refine (inRange_c _ _ _ _).mono ?_); rintro e w1 ⟨⟨hP, rfl⟩ | ⟨hP, rfl⟩, rfl⟩ <;> first | (exfalso; omega) | skip))
          go_ret
          exact ⟨isB_f hno.out, (by repeat (first | exact Ext.refl _ | assumption | refine Ext.drew ?_ | refine Ext.drewN ?_ _ | refine Ext.iter ?_ _ _ | refine Ext.alloc ?_ _ | refine Ext.setCell ?_ (by first | exact Nat.le_refl _ | (simp <;> omega)) _ | refine Ext.trans2 (by assumption) ?_))⟩
      · have hn3 : 40000 < M := by omega
        have hno := Lib.hid (show ¬ gridOK r c xs from fun h => h3 (by rw [← hM]; exact h.2.2.1))
        clear h3
        go_enter Try.func59, Try.ntmps59
        go_wp2_with (first | (go_at_call 30; (with_reducible refine (inRange_c _ _ _ _).mono ?_); rintro e w1 ⟨⟨hP, rfl⟩ | ⟨hP, rfl⟩, rfl⟩ <;> first | (exfalso; omega) | skip))
        go_ret
        exact ⟨isB_f hno.out, (by repeat (first | exact Ext.refl _ | assumption | refine Ext.drew ?_ | refine Ext.drewN ?_ _ | refine Ext.iter ?_ _ _ | refine Ext.alloc ?_ _ | refine Ext.setCell ?_ (by first | exact Nat.le_refl _ | (simp <;> omega)) _ | refine Ext.trans2 (by assumption) ?_))⟩
    · have hno := Lib.hid (show ¬ gridOK r c xs from fun h => h2 h.2.1)
      go_enter Try.func59, Try.ntmps59
      go_wp2_with (first | (go_at_call 30; (with_reducible refine (inRange_c _ _ _ _).mono ?_); rintro e w1 ⟨⟨hP, rfl⟩ | ⟨hP, rfl⟩, rfl⟩ <;> first | (exfalso; omega) | skip))
      go_ret
      exact ⟨isB_f hno.out, (by repeat (first | exact Ext.refl _ | assumption | refine Ext.drew ?_ | refine Ext.drewN ?_ _ | refine Ext.iter ?_ _ _ | refine Ext.alloc ?_ _ | refine Ext.setCell ?_ (by first | exact Nat.le_refl _ | (simp <;> omega)) _ | refine Ext.trans2 (by assumption) ?_))⟩
  · have hno := Lib.hid (show ¬ gridOK r c xs from fun h => h1 h.1)
    go_enter Try.func59, Try.ntmps59
    go_wp2_with (first | (go_at_call 30; (with_reducible refine (inRange_c _ _ _ _).mono ?_); rintro e w1 ⟨⟨hP, rfl⟩ | ⟨hP, rfl⟩, rfl⟩ <;> first | (exfalso; omega) | skip))
    go_ret
    exact ⟨isB_f hno.out, (by repeat (first | exact Ext.refl _ | assumption | refine Ext.drew ?_ | refine Ext.drewN ?_ _ | refine Ext.iter ?_ _ _ | refine Ext.alloc ?_ _ | refine Ext.setCell ?_ (by first | exact Nat.le_refl _ | (simp <;> omega)) _ | refine Ext.trans2 (by assumption) ?_))⟩
set_option maxHeartbeats 800000 in
set_option maxRecDepth 100000 in
theorem sIsGrid_c (r c : Int) (p : Option Addr) (k : Nat) (xs : List Int) (w : World) (hx : IntsAt w p xs) (hl : xs.length ≤ 1048576) :
    Calls Try.prog 64 #[vGrid r c p xs.length k] w fun e w' => isB e (gridOK r c xs) ∧ Ext w w' := by
  have HX := Lib.hid hx; clear hx
  have hb := Blk.new w #[.int .i64 r, .int .i64 c, .slice p xs.length k] 26
  have hx0 : Ext w (w.alloc (.cells #[.int .i64 r, .int .i64 c, .slice p xs.length k] 26)) := (Ext.refl w).alloc _
  by_cases h1 : 1 ≤ r ∧ r ≤ 40000
  · by_cases h2 : 1 ≤ c ∧ c ≤ 40000
    · obtain ⟨M, hM⟩ : ∃ M : Int, r * c = M := ⟨_, rfl⟩
      have hMb : 1 ≤ M ∧ M ≤ 1600000000 := by
        rw [← hM]
        have e1 : 1 * 1 ≤ r * c := Int.mul_le_mul (by omega) (by omega) (by omega) (by omega)
        have e2 : r * c ≤ 40000 * 40000 := Int.mul_le_mul (by omega) (by omega) (by omega) (by omega)
        omega
      have e1 := IntWalk.i64_in M (by omega)
      by_cases h3 : M ≤ 40000
      · by_cases h4 : (xs.length : Int) = M
        · have hn3 : ¬ 40000 < M := by omega
          have h4b : ((xs.length : Int) != M) = false := by simp [h4]
          have hok : gridOK r c xs ↔ ∀ x ∈ xs, -1 ≤ x ∧ x ≤ 1 := ⟨fun h => h.2.2.2.2, fun h => ⟨h1, h2, by rw [hM]; exact h3, by rw [hM]; exact h4, h⟩⟩
          have hok := Lib.hid hok
          have h4 := Lib.hid h4
          generalize gridOK r c xs = OK at *
          go_enter Try.func64, Try.ntmps64
          go_wp2_with (first | (go_at_call 34; (with_reducible refine (l01In_c _ _ _ _).mono ?_); rintro e w1 ⟨⟨hP, rfl⟩ | ⟨hP, rfl⟩, rfl⟩ <;> first | (exfalso; omega) | skip))
          generalize w.alloc (.cells #[.int .i64 r, .int .i64 c, .slice p xs.length k] 26) = w0 at *
          clear e1 h4b hn3
          go_loopw [3] (fun i wr => ∃ j : Nat, j ≤ xs.length ∧ i = .int .i64 j ∧ Hid (∀ x ∈ xs.take j, -1 ≤ x ∧ x ≤ 1) ∧ Ext w0 wr) (fun i _ => xs.length - (intOf i).toNat)
          case atStart => exact ⟨0, Nat.zero_le _, rfl, Lib.hid (by simp), (by repeat (first | exact Ext.refl _ | assumption | refine Ext.drew ?_ | refine Ext.drewN ?_ _ | refine Ext.iter ?_ _ _ | refine Ext.alloc ?_ _ | refine Ext.setCell ?_ (by first | exact Nat.le_refl _ | (simp <;> omega)) _ | refine Ext.trans2 (by assumption) ?_))⟩
          case round =>
            obtain ⟨j, hj, rfl, hT, hext⟩ := hrel
            have hbr := hb.ext hext
            have f0 := hbr.cell (i := 0) (v := .int .i64 r) rfl
            have f1 := hbr.cell (i := 1) (v := .int .i64 c) rfl
            have f2 := hbr.cell (i := 2) (v := .slice p xs.length k) rfl
            have fl := hbr.lt
            by_cases hlt : j < xs.length
            · obtain ⟨b, o, rfl, hbl, z1⟩ := (HX.out.ext (hx0.trans hext)) j hlt
              have hst := fun h2 => take_all (P := fun x => -1 ≤ x ∧ x ≤ 1) hlt hT.out h2
              have hat := fun (h : ∀ x ∈ xs, -1 ≤ x ∧ x ≤ 1) => at_all hlt h
              generalize xs.getD j 0 = x at *
              have hst := Lib.hid hst
              have hat := Lib.hid hat
              go_wp2_with ((go_at_call 34; (with_reducible refine (l01In_c _ _ _ _).mono ?_); rintro e w1 ⟨⟨hP, rfl⟩ | ⟨hP, rfl⟩, rfl⟩))
              · go_roundw
                case rel => exact ⟨j + 1, hlt, by go_num, Lib.hid (hst.out hP), hext⟩
                case measure => simp [intOf]; omega
              · go_ret
                exact ⟨isB_f (fun h => hP (hat.out (hok.out.1 h))), hx0.trans hext⟩
            · obtain rfl : j = xs.length := by omega
              go_wp2
              go_ret
              exact ⟨isB_t (hok.out.2 fun x hm => hT.out x (by rwa [List.take_length])), hx0.trans hext⟩
        · have hn3 : ¬ 40000 < M := by omega
          have h4b : ((xs.length : Int) != M) = true := by simpa using h4
          have hno := Lib.hid (show ¬ gridOK r c xs from fun h => h4 (by rw [← hM]; exact h.2.2.2.1))
          clear h4
          go_enter Try.func64, Try.ntmps64
          go_wp2_with (first | (go_at_call 34; (with_reducible refine (l01In_c _ _ _ _).mono ?_); rintro e w1 ⟨⟨hP, rfl⟩ | ⟨hP, rfl⟩, rfl⟩ <;> first | (exfalso; omega) | skip))
          go_ret
          exact ⟨isB_f hno.out, (by repeat (first | exact Ext.refl _ | assumption | refine Ext.drew ?_ | refine Ext.drewN ?_ _ | refine Ext.iter ?_ _ _ | refine Ext.alloc ?_ _ | refine Ext.setCell ?_ (by first | exact Nat.le_refl _ | (simp <;> omega)) _ | refine Ext.trans2 (by assumption) ?_))⟩
      · have hn3 : 40000 < M := by omega
        have hno := Lib.hid (show ¬ gridOK r c xs from fun h => h3 (by rw [← hM]; exact h.2.2.1))
        clear h3
        go_enter Try.func64, Try.ntmps64
        go_wp2_with (first | (go_at_call 34; (with_reducible refine (l01In_c _ _ _ _).mono ?_); rintro e w1 ⟨⟨hP, rfl⟩ | ⟨hP, rfl⟩, rfl⟩ <;> first | (exfalso; omega) | skip))
        go_ret
        exact ⟨isB_f hno.out, (by repeat (first | exact Ext.refl _ | assumption | refine Ext.drew ?_ | refine Ext.drewN ?_ _ | refine Ext.iter ?_ _ _ | refine Ext.alloc ?_ _ | refine Ext.setCell ?_ (by first | exact Nat.le_refl _ | (simp <;> omega)) _ | refine Ext.trans2 (by assumption) ?_))⟩
    · have hno := Lib.hid (show ¬ gridOK r c xs from fun h => h2 h.2.1)
      go_enter Try.func64, Try.ntmps64
      go_wp2_with (first | (go_at_call 34; (with_reducible refine (l01In_c _ _ _ _).mono ?_); rintro e w1 ⟨⟨hP, rfl⟩ | ⟨hP, rfl⟩, rfl⟩ <;> first | (exfalso; omega) | skip))
      go_ret
      exact ⟨isB_f hno.out, (by repeat (first | exact Ext.refl _ | assumption | refine Ext.drew ?_ | refine Ext.drewN ?_ _ | refine Ext.iter ?_ _ _ | refine Ext.alloc ?_ _ | refine Ext.setCell ?_ (by first | exact Nat.le_refl _ | (simp <;> omega)) _ | refine Ext.trans2 (by assumption) ?_))⟩
  · have hno := Lib.hid (show ¬ gridOK r c xs from fun h => h1 h.1)
    go_enter Try.func64, Try.ntmps64
    go_wp2_with (first | (go_at_call 34; (with_reducible refine (l01In_c _ _ _ _).mono ?_); rintro e w1 ⟨⟨hP, rfl⟩ | ⟨hP, rfl⟩, rfl⟩ <;> first | (exfalso; omega) | skip))
    go_ret
    exact ⟨isB_f hno.out, (by repeat (first | exact Ext.refl _ | assumption | refine Ext.drew ?_ | refine Ext.drewN ?_ _ | refine Ext.iter ?_ _ _ | refine Ext.alloc ?_ _ | refine Ext.setCell ?_ (by first | exact Nat.le_refl _ | (simp <;> omega)) _ | refine Ext.trans2 (by assumption) ?_))⟩
end Go.Proofs.Ythjklchmjeojjaa
