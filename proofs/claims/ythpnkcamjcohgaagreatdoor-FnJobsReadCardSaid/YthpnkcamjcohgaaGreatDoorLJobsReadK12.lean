/- Grids: validity, known cells, rows. -/
import Derived.Test.YthpnkcamjcohgaaGreatDoorLJobsReadK05
import Derived.Test.YthpnkcamjcohgaaGreatDoorLJobsReadK04
import Derived.Test.YthpnkcamjcohgaaGreatDoorLJobsReadK01
import Derived.Lib.SlBytesRow
/-! Grids: validity, known cells, rows. -/
namespace Go.Proofs.YthpnkcamjcohgaaGreatDoor
set_option linter.unusedVariables false
set_option linter.unusedSimpArgs false
open Go.RowKit

abbrev vGrid (r c : Int) (p : Option Addr) (n k : Nat) : Value := .agg #[.int .i64 r, .int .i64 c, .slice p n k]
def gridOK (r c : Int) (xs : List Int) : Prop := (1 ≤ r ∧ r ≤ 40000) ∧ (1 ≤ c ∧ c ≤ 40000) ∧ r * c ≤ 40000 ∧ (xs.length : Int) = r * c ∧ ∀ x ∈ xs, -1 ≤ x ∧ x ≤ 1
theorem take_all {P : Int → Prop} {xs : List Int} {k : Nat} (hlt : k < xs.length) (h : ∀ x ∈ xs.take k, P x) (hx : P (xs.getD k 0)) : ∀ x ∈ xs.take (k + 1), P x := fun x hm => by
  rw [List.take_add_one, List.mem_append] at hm
  rcases hm with hm | hm
  · exact h x hm
  · rw [List.getElem?_eq_getElem hlt] at hm
    simp at hm
    subst hm
    rw [List.getD_eq_getElem?_getD, List.getElem?_eq_getElem hlt] at hx
    exact hx
theorem at_all {P : Int → Prop} {xs : List Int} {k : Nat} (hlt : k < xs.length) (h : ∀ x ∈ xs, P x) : P (xs.getD k 0) := by
  rw [List.getD_eq_getElem?_getD, List.getElem?_eq_getElem hlt]
  exact h _ (List.getElem_mem _)
set_option maxHeartbeats 800000 in
set_option maxRecDepth 100000 in
theorem iIsGrid_c (r c : Int) (p : Option Addr) (k : Nat) (xs : List Int) (w : World) (hx : IntsAt w p xs) (hl : xs.length ≤ 1048576) :
    Calls Tryz.prog 58 #[vGrid r c p xs.length k] w fun e w' => isB e (gridOK r c xs) ∧ Ext w w' := by
  have HX := Lib.hid hx; clear hx
  have hb := Blk.new w #[.int .i64 r, .int .i64 c, .slice p xs.length k] 30
  have hx0 : Ext w (w.alloc (.cells #[.int .i64 r, .int .i64 c, .slice p xs.length k] 30)) := (Ext.refl w).alloc _
  by_cases h1 : 1 ≤ r ∧ r ≤ 40000
  · by_cases h2 : 1 ≤ c ∧ c ≤ 40000
    · obtain ⟨M, hM⟩ : ∃ M : Int, r * c = M := ⟨_, rfl⟩
      have hMb : 1 ≤ M ∧ M ≤ 1600000000 := by
        rw [← hM]
        have e1 : 1 * 1 ≤ r * c := Int.mul_le_mul (by omega) (by omega) (by omega) (by omega)
        have e2 : r * c ≤ 40000 * 40000 := Int.mul_le_mul (by omega) (by omega) (by omega) (by omega)
        omega
      have e1 := IntWalk.i64_in M (by omega)
      by_cases h3 : M ≤ 40000
      · by_cases h4 : (xs.length : Int) = M
        · have hn3 : ¬ 40000 < M := by omega
          have h4b : ((xs.length : Int) != M) = false := by simp [h4]
          have hok : gridOK r c xs ↔ ∀ x ∈ xs, -1 ≤ x ∧ x ≤ 1 := ⟨fun h => h.2.2.2.2, fun h => ⟨h1, h2, by rw [hM]; exact h3, by rw [hM]; exact h4, h⟩⟩
          have hok := Lib.hid hok
          have h4 := Lib.hid h4
          generalize gridOK r c xs = OK at *
          go_enter Tryz.func58, Tryz.ntmps58
          go_wp2_with (first | (go_at_call 27; (with_reducible refine (inRange_c _ _ _ _).mono ?_); rintro e w1 ⟨⟨hP, rfl⟩ | ⟨hP, rfl⟩, rfl⟩ <;> first | (exfalso; omega) | skip))
          generalize w.alloc (.cells #[.int .i64 r, .int .i64 c, .slice p xs.length k] 30) = w0 at *
          clear e1 h4b hn3
          go_loopw [37] (fun i wr => ∃ j : Nat, j ≤ xs.length ∧ i = .int .i64 j ∧ Hid (∀ x ∈ xs.take j, -1 ≤ x ∧ x ≤ 1) ∧ Ext w0 wr) (fun i _ => xs.length - (intOf i).toNat)
          case atStart => exact ⟨0, Nat.zero_le _, rfl, Lib.hid (by simp), (by repeat (first | exact Ext.refl _ | assumption | refine Ext.drew ?_ | refine Ext.drewN ?_ _ | refine Ext.iter ?_ _ _ | refine Ext.alloc ?_ _ | refine Ext.setCell ?_ (by first | exact Nat.le_refl _ | (simp <;> omega)) _ | refine Ext.trans2 (by assumption) ?_))⟩
          case round =>
            obtain ⟨j, hj, rfl, hT, hext⟩ := hrel
            have hbr := hb.ext hext
            have f0 := hbr.cell (i := 0) (v := .int .i64 r) rfl
            have f1 := hbr.cell (i := 1) (v := .int .i64 c) rfl
            have f2 := hbr.cell (i := 2) (v := .slice p xs.length k) rfl
            have fl := hbr.lt
            by_cases hlt : j < xs.length
            · obtain ⟨b, o, rfl, hbl, z1⟩ := (HX.out.ext (hx0.trans hext)) j hlt
              have hst := fun h2 => take_all (P := fun x => -1 ≤ x ∧ x ≤ 1) hlt hT.out h2
              have hat := fun (h : ∀ x ∈ xs, -1 ≤ x ∧ x ≤ 1) => at_all hlt h
              generalize xs.getD j 0 = x at *
              have hst := Lib.hid hst
              have hat := Lib.hid hat
              go_wp2_with ((go_at_call 27; (with_reducible refine (inRange_c _ _ _ _).mono ?_); rintro e w1 ⟨⟨hP, rfl⟩ | ⟨hP, rfl⟩, rfl⟩))
              · go_roundw
                case rel => exact ⟨j + 1, hlt, by go_num, Lib.hid (hst.out hP), hext⟩
                case measure => simp [intOf]; omega
              · go_ret
                exact ⟨isB_f (fun h => hP (hat.out (hok.out.1 h))), hx0.trans hext⟩
            · obtain rfl : j = xs.length := by omega
              go_wp2
              go_ret
              exact ⟨isB_t (hok.out.2 fun x hm => hT.out x (by rwa [List.take_length])), hx0.trans hext⟩
        · have hn3 : ¬ 40000 < M := by omega
          have h4b : ((xs.length : Int) != M) = true := by simpa using h4
          have hno := Lib.hid (show ¬ gridOK r c xs from fun h => h4 (by rw [← hM]; exact h.2.2.2.1))
          clear h4
          go_enter Tryz.func58, Tryz.ntmps58
          go_wp2_with (first | (go_at_call 27; (with_reducible refine (inRange_c _ _ _ _).mono ?_); rintro e w1 ⟨⟨hP, rfl⟩ | ⟨hP, rfl⟩, rfl⟩ <;> first | (exfalso; omega) | skip))
          go_ret
          exact ⟨isB_f hno.out, (by repeat (first | exact Ext.refl _ | assumption | refine Ext.drew ?_ | refine Ext.drewN ?_ _ | refine Ext.iter ?_ _ _ | refine Ext.alloc ?_ _ | refine Ext.setCell ?_ (by first | exact Nat.le_refl _ | (simp <;> omega)) _ | refine Ext.trans2 (by assumption) ?_))⟩
      · have hn3 : 40000 < M := by omega
        have hno := Lib.hid (show ¬ gridOK r c xs from fun h => h3 (by rw [← hM]; exact h.2.2.1))
        clear h3
        go_enter Tryz.func58, Tryz.ntmps58
        go_wp2_with (first | (go_at_call 27; (with_reducible refine (inRange_c _ _ _ _).mono ?_); rintro e w1 ⟨⟨hP, rfl⟩ | ⟨hP, rfl⟩, rfl⟩ <;> first | (exfalso; omega) | skip))
        go_ret
        exact ⟨isB_f hno.out, (by repeat (first | exact Ext.refl _ | assumption | refine Ext.drew ?_ | refine Ext.drewN ?_ _ | refine Ext.iter ?_ _ _ | refine Ext.alloc ?_ _ | refine Ext.setCell ?_ (by first | exact Nat.le_refl _ | (simp <;> omega)) _ | refine Ext.trans2 (by assumption) ?_))⟩
    · have hno := Lib.hid (show ¬ gridOK r c xs from fun h => h2 h.2.1)
      go_enter Tryz.func58, Tryz.ntmps58
      go_wp2_with (first | (go_at_call 27; (with_reducible refine (inRange_c _ _ _ _).mono ?_); rintro e w1 ⟨⟨hP, rfl⟩ | ⟨hP, rfl⟩, rfl⟩ <;> first | (exfalso; omega) | skip))
      go_ret
      exact ⟨isB_f hno.out, (by repeat (first | exact Ext.refl _ | assumption | refine Ext.drew ?_ | refine Ext.drewN ?_ _ | refine Ext.iter ?_ _ _ | refine Ext.alloc ?_ _ | refine Ext.setCell ?_ (by first | exact Nat.le_refl _ | (simp <;> omega)) _ | refine Ext.trans2 (by assumption) ?_))⟩
  · have hno := Lib.hid (show ¬ gridOK r c xs from fun h => h1 h.1)
    go_enter Tryz.func58, Tryz.ntmps58
    go_wp2_with (first | (go_at_call 27; (with_reducible refine (inRange_c _ _ _ _).mono ?_); rintro e w1 ⟨⟨hP, rfl⟩ | ⟨hP, rfl⟩, rfl⟩ <;> first | (exfalso; omega) | skip))
    go_ret
    exact ⟨isB_f hno.out, (by repeat (first | exact Ext.refl _ | assumption | refine Ext.drew ?_ | refine Ext.drewN ?_ _ | refine Ext.iter ?_ _ _ | refine Ext.alloc ?_ _ | refine Ext.setCell ?_ (by first | exact Nat.le_refl _ | (simp <;> omega)) _ | refine Ext.trans2 (by assumption) ?_))⟩
set_option maxHeartbeats 800000 in
set_option maxRecDepth 100000 in
theorem sIsGrid_c (r c : Int) (p : Option Addr) (k : Nat) (xs : List Int) (w : World) (hx : IntsAt w p xs) (hl : xs.length ≤ 1048576) :
    Calls Tryz.prog 34 #[vGrid r c p xs.length k] w fun e w' => isB e (gridOK r c xs) ∧ Ext w w' := by
  have HX := Lib.hid hx; clear hx
  have hb := Blk.new w #[.int .i64 r, .int .i64 c, .slice p xs.length k] 30
  have hx0 : Ext w (w.alloc (.cells #[.int .i64 r, .int .i64 c, .slice p xs.length k] 30)) := (Ext.refl w).alloc _
  by_cases h1 : 1 ≤ r ∧ r ≤ 40000
  · by_cases h2 : 1 ≤ c ∧ c ≤ 40000
    · obtain ⟨M, hM⟩ : ∃ M : Int, r * c = M := ⟨_, rfl⟩
      have hMb : 1 ≤ M ∧ M ≤ 1600000000 := by
        rw [← hM]
        have e1 : 1 * 1 ≤ r * c := Int.mul_le_mul (by omega) (by omega) (by omega) (by omega)
        have e2 : r * c ≤ 40000 * 40000 := Int.mul_le_mul (by omega) (by omega) (by omega) (by omega)
        omega
      have e1 := IntWalk.i64_in M (by omega)
      by_cases h3 : M ≤ 40000
      · by_cases h4 : (xs.length : Int) = M
        · have hn3 : ¬ 40000 < M := by omega
          have h4b : ((xs.length : Int) != M) = false := by simp [h4]
          have hok : gridOK r c xs ↔ ∀ x ∈ xs, -1 ≤ x ∧ x ≤ 1 := ⟨fun h => h.2.2.2.2, fun h => ⟨h1, h2, by rw [hM]; exact h3, by rw [hM]; exact h4, h⟩⟩
          have hok := Lib.hid hok
          have h4 := Lib.hid h4
          generalize gridOK r c xs = OK at *
          go_enter Tryz.func34, Tryz.ntmps34
          go_wp2_with (first | (go_at_call 32; (with_reducible refine (l01In_c _ _ _ _).mono ?_); rintro e w1 ⟨⟨hP, rfl⟩ | ⟨hP, rfl⟩, rfl⟩ <;> first | (exfalso; omega) | skip))
          generalize w.alloc (.cells #[.int .i64 r, .int .i64 c, .slice p xs.length k] 30) = w0 at *
          clear e1 h4b hn3
          go_loopw [3] (fun i wr => ∃ j : Nat, j ≤ xs.length ∧ i = .int .i64 j ∧ Hid (∀ x ∈ xs.take j, -1 ≤ x ∧ x ≤ 1) ∧ Ext w0 wr) (fun i _ => xs.length - (intOf i).toNat)
          case atStart => exact ⟨0, Nat.zero_le _, rfl, Lib.hid (by simp), (by repeat (first | exact Ext.refl _ | assumption | refine Ext.drew ?_ | refine Ext.drewN ?_ _ | refine Ext.iter ?_ _ _ | refine Ext.alloc ?_ _ | refine Ext.setCell ?_ (by first | exact Nat.le_refl _ | (simp <;> omega)) _ | refine Ext.trans2 (by assumption) ?_))⟩
          case round =>
            obtain ⟨j, hj, rfl, hT, hext⟩ := hrel
            have hbr := hb.ext hext
            have f0 := hbr.cell (i := 0) (v := .int .i64 r) rfl
            have f1 := hbr.cell (i := 1) (v := .int .i64 c) rfl
            have f2 := hbr.cell (i := 2) (v := .slice p xs.length k) rfl
            have fl := hbr.lt
            by_cases hlt : j < xs.length
            · obtain ⟨b, o, rfl, hbl, z1⟩ := (HX.out.ext (hx0.trans hext)) j hlt
              have hst := fun h2 => take_all (P := fun x => -1 ≤ x ∧ x ≤ 1) hlt hT.out h2
              have hat := fun (h : ∀ x ∈ xs, -1 ≤ x ∧ x ≤ 1) => at_all hlt h
              generalize xs.getD j 0 = x at *
              have hst := Lib.hid hst
              have hat := Lib.hid hat
              go_wp2_with ((go_at_call 32; (with_reducible refine (l01In_c _ _ _ _).mono ?_); rintro e w1 ⟨⟨hP, rfl⟩ | ⟨hP, rfl⟩, rfl⟩))
              · go_roundw
                case rel => exact ⟨j + 1, hlt, by go_num, Lib.hid (hst.out hP), hext⟩
                case measure => simp [intOf]; omega
              · go_ret
                exact ⟨isB_f (fun h => hP (hat.out (hok.out.1 h))), hx0.trans hext⟩
            · obtain rfl : j = xs.length := by omega
              go_wp2
              go_ret
              exact ⟨isB_t (hok.out.2 fun x hm => hT.out x (by rwa [List.take_length])), hx0.trans hext⟩
        · have hn3 : ¬ 40000 < M := by omega
          have h4b : ((xs.length : Int) != M) = true := by simpa using h4
          have hno := Lib.hid (show ¬ gridOK r c xs from fun h => h4 (by rw [← hM]; exact h.2.2.2.1))
          clear h4
          go_enter Tryz.func34, Tryz.ntmps34
          go_wp2_with (first | (go_at_call 32; (with_reducible refine (l01In_c _ _ _ _).mono ?_); rintro e w1 ⟨⟨hP, rfl⟩ | ⟨hP, rfl⟩, rfl⟩ <;> first | (exfalso; omega) | skip))
          go_ret
          exact ⟨isB_f hno.out, (by repeat (first | exact Ext.refl _ | assumption | refine Ext.drew ?_ | refine Ext.drewN ?_ _ | refine Ext.iter ?_ _ _ | refine Ext.alloc ?_ _ | refine Ext.setCell ?_ (by first | exact Nat.le_refl _ | (simp <;> omega)) _ | refine Ext.trans2 (by assumption) ?_))⟩
      · have hn3 : 40000 < M := by omega
        have hno := Lib.hid (show ¬ gridOK r c xs from fun h => h3 (by rw [← hM]; exact h.2.2.1))
        clear h3
        go_enter Tryz.func34, Tryz.ntmps34
        go_wp2_with (first | (go_at_call 32; (with_reducible refine (l01In_c _ _ _ _).mono ?_); rintro e w1 ⟨⟨hP, rfl⟩ | ⟨hP, rfl⟩, rfl⟩ <;> first | (exfalso; omega) | skip))
        go_ret
        exact ⟨isB_f hno.out, (by repeat (first | exact Ext.refl _ | assumption | refine Ext.drew ?_ | refine Ext.drewN ?_ _ | refine Ext.iter ?_ _ _ | refine Ext.alloc ?_ _ | refine Ext.setCell ?_ (by first | exact Nat.le_refl _ | (simp <;> omega)) _ | refine Ext.trans2 (by assumption) ?_))⟩
    · have hno := Lib.hid (show ¬ gridOK r c xs from fun h => h2 h.2.1)
      go_enter Tryz.func34, Tryz.ntmps34
      go_wp2_with (first | (go_at_call 32; (with_reducible refine (l01In_c _ _ _ _).mono ?_); rintro e w1 ⟨⟨hP, rfl⟩ | ⟨hP, rfl⟩, rfl⟩ <;> first | (exfalso; omega) | skip))
      go_ret
      exact ⟨isB_f hno.out, (by repeat (first | exact Ext.refl _ | assumption | refine Ext.drew ?_ | refine Ext.drewN ?_ _ | refine Ext.iter ?_ _ _ | refine Ext.alloc ?_ _ | refine Ext.setCell ?_ (by first | exact Nat.le_refl _ | (simp <;> omega)) _ | refine Ext.trans2 (by assumption) ?_))⟩
  · have hno := Lib.hid (show ¬ gridOK r c xs from fun h => h1 h.1)
    go_enter Tryz.func34, Tryz.ntmps34
    go_wp2_with (first | (go_at_call 32; (with_reducible refine (l01In_c _ _ _ _).mono ?_); rintro e w1 ⟨⟨hP, rfl⟩ | ⟨hP, rfl⟩, rfl⟩ <;> first | (exfalso; omega) | skip))
    go_ret
    exact ⟨isB_f hno.out, (by repeat (first | exact Ext.refl _ | assumption | refine Ext.drew ?_ | refine Ext.drewN ?_ _ | refine Ext.iter ?_ _ _ | refine Ext.alloc ?_ _ | refine Ext.setCell ?_ (by first | exact Nat.le_refl _ | (simp <;> omega)) _ | refine Ext.trans2 (by assumption) ?_))⟩
set_option maxRecDepth 100000 in
theorem iKnown_c (r c : Int) (p : Option Addr) (k : Nat) (xs : List Int) (w : World) (hx : IntsAt w p xs) (hl : xs.length ≤ 1048576) :
    Calls Tryz.prog 59 #[vGrid r c p xs.length k] w fun e w' => isB e (∀ x ∈ xs, 0 ≤ x) ∧ Ext w w' := by
  have HX := Lib.hid hx; clear hx
  have hx0 : Ext w (w.alloc (.cells #[.int .i64 r, .int .i64 c, .slice p xs.length k] 30)) := (Ext.refl w).alloc _
  go_enter Tryz.func59, Tryz.ntmps59
  go_wp2
  generalize w.alloc (.cells #[.int .i64 r, .int .i64 c, .slice p xs.length k] 30) = w0 at *
  go_loopw [8] (fun i wr => ∃ j : Nat, j ≤ xs.length ∧ i = .int .i64 j ∧ Hid (∀ x ∈ xs.take j, 0 ≤ x) ∧ Ext w0 wr) (fun i _ => xs.length - (intOf i).toNat)
  case atStart => exact ⟨0, Nat.zero_le _, rfl, Lib.hid (by simp), (by repeat (first | exact Ext.refl _ | assumption | refine Ext.drew ?_ | refine Ext.drewN ?_ _ | refine Ext.iter ?_ _ _ | refine Ext.alloc ?_ _ | refine Ext.setCell ?_ (by first | exact Nat.le_refl _ | (simp <;> omega)) _ | refine Ext.trans2 (by assumption) ?_))⟩
  case round =>
    obtain ⟨j, hj, rfl, hT, hext⟩ := hrel
    by_cases hlt : j < xs.length
    · obtain ⟨b, o, rfl, hbl, z1⟩ := (HX.out.ext (hx0.trans hext)) j hlt
      have hst := fun h2 => take_all (P := fun x => 0 ≤ x) hlt hT.out h2
      have hat := fun (h : ∀ x ∈ xs, 0 ≤ x) => at_all hlt h
      generalize xs.getD j 0 = x at *
      have hst := Lib.hid hst
      have hat := Lib.hid hat
      by_cases h0 : x < 0
      · go_wp2
        go_ret
        exact ⟨isB_f (fun h => by have := hat.out h; omega), hx0.trans hext⟩
      · go_wp2
        go_roundw
        case rel => exact ⟨j + 1, hlt, by go_num, Lib.hid (hst.out (by omega)), hext⟩
        case measure => simp [intOf]; omega
    · obtain rfl : j = xs.length := by omega
      go_wp2
      go_ret
      exact ⟨isB_t (fun x hm => hT.out x (by rwa [List.take_length])), hx0.trans hext⟩
set_option maxRecDepth 100000 in
theorem l05Has_c (p : Option Addr) (k : Nat) (n : Int) (xs : List Int) (w : World) (hx : IntsAt w p xs) (hl : xs.length ≤ 1048576) :
    Calls Tryz.prog 80 #[.slice p xs.length k, .int .i64 n] w fun e w' => isB e (n ∈ xs) ∧ Ext w w' := by
  have HX := Lib.hid hx; clear hx
  go_enter Tryz.func80, Tryz.ntmps80
  go_wp2
  go_loopw [5] (fun i wr => ∃ j : Nat, j ≤ xs.length ∧ i = .int .i64 j ∧ Hid (¬ n ∈ xs.take j) ∧ Ext w wr) (fun i _ => xs.length - (intOf i).toNat)
  case atStart => exact ⟨0, Nat.zero_le _, rfl, Lib.hid (by simp), (by repeat (first | exact Ext.refl _ | assumption | refine Ext.drew ?_ | refine Ext.drewN ?_ _ | refine Ext.iter ?_ _ _ | refine Ext.alloc ?_ _ | refine Ext.setCell ?_ (by first | exact Nat.le_refl _ | (simp <;> omega)) _ | refine Ext.trans2 (by assumption) ?_))⟩
  case round =>
    obtain ⟨j, hj, rfl, hT, hext⟩ := hrel
    by_cases hlt : j < xs.length
    · obtain ⟨b, o, rfl, hbl, z1⟩ := (HX.out.ext hext) j hlt
      have hst : xs.getD j 0 ≠ n → ¬ n ∈ xs.take (j + 1) := fun h => by
        have := take_all (P := fun x => x ≠ n) hlt (fun x hm e => hT.out (by rw [← e]; exact hm)) h
        exact fun hm => this n hm rfl
      have hat : xs.getD j 0 = n → n ∈ xs := fun h => by
        rw [← h, List.getD_eq_getElem?_getD, List.getElem?_eq_getElem hlt]
        exact List.getElem_mem _
      generalize xs.getD j 0 = x at *
      have hst := Lib.hid hst
      have hat := Lib.hid hat
      by_cases h0 : x = n
      · have hd : (x == n) = true := by simpa using h0
        replace h0 := Lib.hid h0
        go_wp2
        go_ret
        exact ⟨isB_t (hat.out h0.out), hext⟩
      · have hd : (x == n) = false := by simpa using h0
        replace h0 := Lib.hid h0
        go_wp2
        go_roundw
        case rel => exact ⟨j + 1, hlt, by go_num, Lib.hid (hst.out h0.out), hext⟩
        case measure => simp [intOf]; omega
    · obtain rfl : j = xs.length := by omega
      go_wp2
      go_ret
      exact ⟨isB_f (fun h => hT.out (by rwa [List.take_length])), hext⟩
end Go.Proofs.YthpnkcamjcohgaaGreatDoor

/-! Rows and bands of grids. -/
namespace Go.Proofs.YthpnkcamjcohgaaGreatDoor
set_option linter.unusedVariables false
set_option linter.unusedSimpArgs false
open Go.RowKit

set_option maxRecDepth 100000 in
theorem equalInts_c (p q : Option Addr) (c d : Nat) (xs ys : List Int) (w : World) (hx : IntsAt w p xs) (hy : IntsAt w q ys) (hl : xs.length ≤ 1099511627776) (hl2 : ys.length ≤ 1099511627776) :
    Calls Tryz.prog 62 #[.slice p xs.length c, .slice q ys.length d] w fun e w' => isB e (xs = ys) ∧ ∃ n, w' = w.drewN n := by
  by_cases hlen : xs.length = ys.length
  · have HL := Lib.hid hlen
    have hl3 : (((xs.length : Int)) != ys.length) = false := by simp [hlen]
    clear hlen
    go_enter Tryz.func62, Tryz.ntmps62
    go_wp2
    go_loopw [13] (fun i wr => ∃ k : Nat, k ≤ xs.length ∧ i = .int .i64 k ∧ Hid (xs.take k = ys.take k) ∧ ∃ n, wr = w.drewN n) (fun i _ => xs.length - (intOf i).toNat)
    case atStart => exact ⟨0, Nat.zero_le _, rfl, rfl, 0, rfl⟩
    case round =>
      obtain ⟨k, hk, rfl, HE, n, rfl⟩ := hrel
      by_cases hlt : k < xs.length
      · have hlt2 : k < ys.length := by have := HL.out; omega
        obtain ⟨b, o, rfl, _, h1⟩ := hx k hlt
        obtain ⟨b2, o2, rfl, _, h2⟩ := hy k hlt2
        clear hx hy
        go_wp2
        go_quiet (fail)
        go_wp2
        · have hne : xs[k] ≠ ys[k] := by simpa using (by assumption : (xs[k] != ys[k]) = true)
          go_ret
          exact ⟨isB_f (fun h => hne (by subst h; rfl)), n + nq, World.drewN_drewN ..⟩
        · have he : xs[k] = ys[k] := by simpa using (by assumption : (xs[k] != ys[k]) = false)
          go_roundw
          case rel => exact ⟨k + 1, hlt, by go_num, by show _ = _; rw [List.take_succ_eq_append_getElem hlt, List.take_succ_eq_append_getElem hlt2, HE.out, he], n + nq, by simp⟩
          case measure => simp [intOf]; omega
      · clear hx hy
        go_wp2
        go_ret
        refine ⟨isB_t ?_, _, rfl⟩
        have h1 := HE.out
        have h2 := HL.out
        rwa [List.take_of_length_le (by omega), List.take_of_length_le (by omega)] at h1
  · have hl3 : (((xs.length : Int)) != ys.length) = true := by simp; omega
    clear hx hy
    have HL := Lib.hid hlen; clear hlen
    go_enter Tryz.func62, Tryz.ntmps62
    go_wp2
    go_ret
    exact ⟨isB_f (fun h => HL.out (by rw [h])), 0, rfl⟩
set_option maxRecDepth 100000 in
theorem l05Same_c (p q : Option Addr) (c d : Nat) (xs ys : List Int) (w : World) (hx : IntsAt w p xs) (hy : IntsAt w q ys) (hl : xs.length ≤ 1099511627776) (hl2 : ys.length ≤ 1099511627776) :
    Calls Tryz.prog 73 #[.slice p xs.length c, .slice q ys.length d] w fun e w' => isB e (xs = ys) ∧ ∃ n, w' = w.drewN n := by
  by_cases hlen : xs.length = ys.length
  · have HL := Lib.hid hlen
    have hl3 : (((xs.length : Int)) != ys.length) = false := by simp [hlen]
    clear hlen
    go_enter Tryz.func73, Tryz.ntmps73
    go_wp2
    go_loopw [5] (fun i wr => ∃ k : Nat, k ≤ xs.length ∧ i = .int .i64 k ∧ Hid (xs.take k = ys.take k) ∧ ∃ n, wr = w.drewN n) (fun i _ => xs.length - (intOf i).toNat)
    case atStart => exact ⟨0, Nat.zero_le _, rfl, rfl, 0, rfl⟩
    case round =>
      obtain ⟨k, hk, rfl, HE, n, rfl⟩ := hrel
      by_cases hlt : k < xs.length
      · have hlt2 : k < ys.length := by have := HL.out; omega
        obtain ⟨b, o, rfl, _, h1⟩ := hx k hlt
        obtain ⟨b2, o2, rfl, _, h2⟩ := hy k hlt2
        clear hx hy
        go_wp2
        go_quiet (fail)
        go_wp2
        · have hne : xs[k] ≠ ys[k] := by simpa using (by assumption : (xs[k] != ys[k]) = true)
          go_ret
          exact ⟨isB_f (fun h => hne (by subst h; rfl)), n + nq, World.drewN_drewN ..⟩
        · have he : xs[k] = ys[k] := by simpa using (by assumption : (xs[k] != ys[k]) = false)
          go_roundw
          case rel => exact ⟨k + 1, hlt, by go_num, by show _ = _; rw [List.take_succ_eq_append_getElem hlt, List.take_succ_eq_append_getElem hlt2, HE.out, he], n + nq, by simp⟩
          case measure => simp [intOf]; omega
      · clear hx hy
        go_wp2
        go_ret
        refine ⟨isB_t ?_, _, rfl⟩
        have h1 := HE.out
        have h2 := HL.out
        rwa [List.take_of_length_le (by omega), List.take_of_length_le (by omega)] at h1
  · have hl3 : (((xs.length : Int)) != ys.length) = true := by simp; omega
    clear hx hy
    have HL := Lib.hid hlen; clear hlen
    go_enter Tryz.func73, Tryz.ntmps73
    go_wp2
    go_ret
    exact ⟨isB_f (fun h => HL.out (by rw [h])), 0, rfl⟩
/-- Row k of a grid of c columns. -/
def rowL (c : Nat) (xs : List Int) (k : Nat) : List Int := (xs.drop (k * c)).take c
theorem rowL_len {c : Nat} {xs : List Int} {k n : Nat} (h : xs.length = n * c) (hk : k < n) : (rowL c xs k).length = c := by
  have : (k + 1) * c ≤ n * c := Nat.mul_le_mul_right _ hk
  rw [Nat.add_mul, Nat.one_mul] at this
  simp only [rowL, List.length_take, List.length_drop]
  omega
theorem rowL_at {c : Nat} {xs : List Int} {k n b o : Nat} {w : World} (h : xs.length = n * c) (hk : k < n) (hx : IntsAt w (some ⟨b, o, none⟩) xs) : IntsAt w (some ⟨b, o + k * c, none⟩) (rowL c xs k) := fun i hi => by
  rw [rowL_len h hk] at hi
  have h2 : (k + 1) * c ≤ n * c := Nat.mul_le_mul_right _ hk
  rw [Nat.add_mul, Nat.one_mul] at h2
  obtain ⟨b', o', e, hb, hc⟩ := hx (k * c + i) (by omega)
  simp at e
  obtain ⟨rfl, rfl⟩ := e
  refine ⟨b, _, rfl, hb, ?_⟩
  rw [Nat.add_assoc, hc]
  congr 2
  rw [List.getD_eq_getElem?_getD, List.getD_eq_getElem?_getD, rowL, List.getElem?_take_of_lt hi, List.getElem?_drop]
/-- The last number is one more. -/
def incLast (l : List Int) : List Int := l.set (l.length - 1) (l.getD (l.length - 1) 0 + 1)
/-- The numbers of rows of the bands of the first k rows. -/
def bandsTo (c : Nat) (xs : List Int) : Nat → List Int
  | 0 => []
  | k + 1 => if 0 < k ∧ rowL c xs k = rowL c xs (k - 1) then incLast (bandsTo c xs k) else bandsTo c xs k ++ [1]
theorem bandsTo_succ (c : Nat) (xs : List Int) (k : Nat) : bandsTo c xs (k + 1) = if 0 < k ∧ rowL c xs k = rowL c xs (k - 1) then incLast (bandsTo c xs k) else bandsTo c xs k ++ [1] := rfl
theorem bandsTo_bd (c : Nat) (xs : List Int) : ∀ k, (bandsTo c xs k).length ≤ k ∧ (0 < k → 0 < (bandsTo c xs k).length) ∧ ∀ x ∈ bandsTo c xs k, 1 ≤ x ∧ x ≤ k
  | 0 => ⟨Nat.le_refl _, fun h => absurd h (Nat.lt_irrefl _), fun x hx => by simp [bandsTo] at hx⟩
  | k + 1 => by
    obtain ⟨h1, h2, h3⟩ := bandsTo_bd c xs k
    unfold bandsTo
    split
    · rename_i hc
      have hn := h2 hc.1
      refine ⟨by simp [incLast]; omega, fun _ => by simpa [incLast] using hn, fun x hx => ?_⟩
      rcases List.mem_or_eq_of_mem_set hx with h | rfl
      · have := h3 x h; omega
      · have := h3 _ (show (bandsTo c xs k).getD ((bandsTo c xs k).length - 1) 0 ∈ bandsTo c xs k by
          rw [List.getD_eq_getElem?_getD, List.getElem?_eq_getElem (by omega)]
          exact List.getElem_mem _)
        omega
    · refine ⟨by simp; omega, fun _ => by simp, fun x hx => ?_⟩
      rw [List.mem_append] at hx
      rcases hx with h | h
      · have := h3 x h; omega
      · simp at h; omega
theorem RowI.stored {B : Nat} {w : World} {v : Value} {xs : List Int} (h : RowI B w v xs) {k : Nat} (hk : k < xs.length) :
    ∃ g c, v = .slice (some ⟨g, 0, none⟩) xs.length c ∧ B ≤ g ∧ g < w.heap.size ∧ w.cell? ⟨g, k, none⟩ = some (.int .i64 (xs.getD k 0)) ∧ w.frozen? ⟨g, k, none⟩ = false ∧ xs.length ≤ c ∧
      ∀ x : Int, RowI B (w.setCell ⟨g, k, none⟩ (.int .i64 x)) v (xs.set k x) := by
  rcases h.2 with ⟨_, hn⟩ | ⟨g, cap, cur, hv, hg, hh, hle, _⟩
  · omega
  · have h' : w.ownsRow B 2 1 (.slice (some ⟨g, 0, none⟩) xs.length cap) xs.length (xs.map (Value.int .i64)) := by rw [← hv]; exact h
    refine ⟨g, cap, hv, hg, (Array.getElem?_eq_some_iff.1 hh).1, ?_, h'.frozenAt _, hle, fun x => ?_⟩
    · rw [h'.cellAt k (by omega), List.getElem?_map, List.getElem?_eq_getElem hk, List.getD_eq_getElem?_getD, List.getElem?_eq_getElem hk]
      rfl
    · have h2 := (h'.stored k (.int .i64 x)).1
      unfold RowI
      rw [hv, List.length_set]
      rw [← List.map_set] at h2
      exact h2

/-! The walks. -/
open Classical in
/-- The code of a grid for a job. -/
noncomputable def jcV (r c : Int) (xs : List Int) : Int := if ¬ gridOK r c xs then 1 else if ¬ ∀ x ∈ xs, 0 ≤ x then 5 else 0
set_option maxRecDepth 100000 in
theorem l16Known_c (r c : Int) (p : Option Addr) (k : Nat) (xs : List Int) (w : World) (hx : IntsAt w p xs) (hl : xs.length ≤ 1048576) (hok : gridOK r c xs) :
    Calls Tryz.prog 65 #[vGrid r c p xs.length k] w fun e w' => isB e (∀ x ∈ xs, 0 ≤ x) ∧ Ext w w' := by
  have HX := Lib.hid hx; clear hx
  have hb := Blk.new w #[.int .i64 r, .int .i64 c, .slice p xs.length k] 30
  have hx0 : Ext w (w.alloc (.cells #[.int .i64 r, .int .i64 c, .slice p xs.length k] 30)) := (Ext.refl w).alloc _
  have hig := Lib.hid (fun W (h : IntsAt W p xs) => sIsGrid_c r c p k xs W h hl)
  have hhs := Lib.hid (fun W (h : IntsAt W p xs) => l05Has_c p k (-1) xs W h hl)
  have hiff : (∀ x ∈ xs, 0 ≤ x) ↔ ¬ (-1 : Int) ∈ xs := ⟨fun h hm => by have := h _ hm; omega, fun h x hm => by
    have h1 := hok.2.2.2.2 x hm
    have h2 : x ≠ -1 := fun e => h (by rw [← e]; exact hm)
    omega⟩
  have hiff := Lib.hid hiff
  have hok := Lib.hid hok
  go_enter Tryz.func65, Tryz.ntmps65
  go_wp2_with (first
    | (go_at_call 34; (with_reducible refine (hig.out _ (HX.out.ext hx0)).mono ?_); rintro e w1 ⟨⟨hP, rfl⟩ | ⟨hP, rfl⟩, hx1⟩ <;> (first | exact absurd hok.out hP | skip); have hb1 := hb.ext hx1; have f0 := hb1.cell (i := 0) (v := .int .i64 r) rfl; have f1 := hb1.cell (i := 1) (v := .int .i64 c) rfl; have f2 := hb1.cell (i := 2) (v := .slice p xs.length k) rfl; have fl := hb1.lt)
    | (go_at_call 80; (with_reducible refine (hhs.out _ (HX.out.ext (hx0.trans hx1))).mono ?_); rintro e w2 ⟨⟨hP2, rfl⟩ | ⟨hP2, rfl⟩, hx2⟩))
  · go_ret
    exact ⟨isB_f (fun h => hiff.out.1 h hP2), (hx0.trans hx1).trans hx2⟩
  · go_ret
    exact ⟨isB_t (hiff.out.2 hP2), (hx0.trans hx1).trans hx2⟩
set_option maxRecDepth 100000 in
theorem iJobCode_c (r c : Int) (p : Option Addr) (k : Nat) (xs : List Int) (w : World) (hx : IntsAt w p xs) (hl : xs.length ≤ 1048576) :
    Calls Tryz.prog 41 #[vGrid r c p xs.length k] w fun e w' => e = .returned (.int .i64 (jcV r c xs)) ∧ Ext w w' := by
  have HX := Lib.hid hx; clear hx
  have hb := Blk.new w #[.int .i64 r, .int .i64 c, .slice p xs.length k] 30
  have hx0 : Ext w (w.alloc (.cells #[.int .i64 r, .int .i64 c, .slice p xs.length k] 30)) := (Ext.refl w).alloc _
  have hig := Lib.hid (fun W (h : IntsAt W p xs) => iIsGrid_c r c p k xs W h hl)
  by_cases h1 : gridOK r c xs
  · have hkn := Lib.hid (fun W (h : IntsAt W p xs) => (fun _ : gridOK r c xs => iKnown_c r c p k xs W h hl) h1)
    have h1 := Lib.hid h1
    by_cases h2 : ∀ x ∈ xs, 0 ≤ x
    · have hv : jcV r c xs = 0 := by unfold jcV; rw [if_neg (not_not_intro h1.out), if_neg (not_not_intro h2)]
      rw [hv]
      have h2 := Lib.hid h2
      clear hv
      go_enter Tryz.func41, Tryz.ntmps41
      go_wp2_with (first
        | (go_at_call 58; (with_reducible refine (hig.out _ (HX.out.ext hx0)).mono ?_); rintro e w1 ⟨⟨hP, rfl⟩ | ⟨hP, rfl⟩, hx1⟩ <;> (first | exact absurd h1.out hP | skip); have hb1 := hb.ext hx1; have f0 := hb1.cell (i := 0) (v := .int .i64 r) rfl; have f1 := hb1.cell (i := 1) (v := .int .i64 c) rfl; have f2 := hb1.cell (i := 2) (v := .slice p xs.length k) rfl; have fl := hb1.lt)
        | (go_at_call 59; (with_reducible refine (hkn.out _ (HX.out.ext (hx0.trans hx1))).mono ?_); rintro e w2 ⟨⟨hP2, rfl⟩ | ⟨hP2, rfl⟩, hx2⟩ <;> first | exact absurd h2.out hP2 | skip))
      go_ret
      exact ⟨rfl, (hx0.trans hx1).trans hx2⟩
    · have hv : jcV r c xs = 5 := by unfold jcV; rw [if_neg (not_not_intro h1.out), if_pos h2]
      rw [hv]
      have h2 := Lib.hid h2
      clear hv
      go_enter Tryz.func41, Tryz.ntmps41
      go_wp2_with (first
        | (go_at_call 58; (with_reducible refine (hig.out _ (HX.out.ext hx0)).mono ?_); rintro e w1 ⟨⟨hP, rfl⟩ | ⟨hP, rfl⟩, hx1⟩ <;> (first | exact absurd h1.out hP | skip); have hb1 := hb.ext hx1; have f0 := hb1.cell (i := 0) (v := .int .i64 r) rfl; have f1 := hb1.cell (i := 1) (v := .int .i64 c) rfl; have f2 := hb1.cell (i := 2) (v := .slice p xs.length k) rfl; have fl := hb1.lt)
        | (go_at_call 59; (with_reducible refine (hkn.out _ (HX.out.ext (hx0.trans hx1))).mono ?_); rintro e w2 ⟨⟨hP2, rfl⟩ | ⟨hP2, rfl⟩, hx2⟩ <;> first | exact absurd hP2 h2.out | skip))
      go_ret
      exact ⟨rfl, (hx0.trans hx1).trans hx2⟩
  · have hv : jcV r c xs = 1 := by unfold jcV; rw [if_pos h1]
    rw [hv]
    have h1 := Lib.hid h1
    clear hv
    go_enter Tryz.func41, Tryz.ntmps41
    go_wp2_with (go_at_call 58; (with_reducible refine (hig.out _ (HX.out.ext hx0)).mono ?_); rintro e w1 ⟨⟨hP, rfl⟩ | ⟨hP, rfl⟩, hx1⟩ <;> first | exact absurd hP h1.out | skip)
    go_ret
    exact ⟨rfl, hx0.trans hx1⟩
set_option maxRecDepth 100000 in
theorem sJobCode_c (r c : Int) (p : Option Addr) (k : Nat) (xs : List Int) (w : World) (hx : IntsAt w p xs) (hl : xs.length ≤ 1048576) :
    Calls Tryz.prog 50 #[vGrid r c p xs.length k] w fun e w' => e = .returned (.int .i64 (jcV r c xs)) ∧ Ext w w' := by
  have HX := Lib.hid hx; clear hx
  have hb := Blk.new w #[.int .i64 r, .int .i64 c, .slice p xs.length k] 30
  have hx0 : Ext w (w.alloc (.cells #[.int .i64 r, .int .i64 c, .slice p xs.length k] 30)) := (Ext.refl w).alloc _
  have hig := Lib.hid (fun W (h : IntsAt W p xs) => sIsGrid_c r c p k xs W h hl)
  by_cases h1 : gridOK r c xs
  · have hkn := Lib.hid (fun W (h : IntsAt W p xs) => (fun hok => l16Known_c r c p k xs W h hl hok) h1)
    have h1 := Lib.hid h1
    by_cases h2 : ∀ x ∈ xs, 0 ≤ x
    · have hv : jcV r c xs = 0 := by unfold jcV; rw [if_neg (not_not_intro h1.out), if_neg (not_not_intro h2)]
      rw [hv]
      have h2 := Lib.hid h2
      clear hv
      go_enter Tryz.func50, Tryz.ntmps50
      go_wp2_with (first
        | (go_at_call 34; (with_reducible refine (hig.out _ (HX.out.ext hx0)).mono ?_); rintro e w1 ⟨⟨hP, rfl⟩ | ⟨hP, rfl⟩, hx1⟩ <;> (first | exact absurd h1.out hP | skip); have hb1 := hb.ext hx1; have f0 := hb1.cell (i := 0) (v := .int .i64 r) rfl; have f1 := hb1.cell (i := 1) (v := .int .i64 c) rfl; have f2 := hb1.cell (i := 2) (v := .slice p xs.length k) rfl; have fl := hb1.lt)
        | (go_at_call 65; (with_reducible refine (hkn.out _ (HX.out.ext (hx0.trans hx1))).mono ?_); rintro e w2 ⟨⟨hP2, rfl⟩ | ⟨hP2, rfl⟩, hx2⟩ <;> first | exact absurd h2.out hP2 | skip))
      go_ret
      exact ⟨rfl, (hx0.trans hx1).trans hx2⟩
    · have hv : jcV r c xs = 5 := by unfold jcV; rw [if_neg (not_not_intro h1.out), if_pos h2]
      rw [hv]
      have h2 := Lib.hid h2
      clear hv
      go_enter Tryz.func50, Tryz.ntmps50
      go_wp2_with (first
        | (go_at_call 34; (with_reducible refine (hig.out _ (HX.out.ext hx0)).mono ?_); rintro e w1 ⟨⟨hP, rfl⟩ | ⟨hP, rfl⟩, hx1⟩ <;> (first | exact absurd h1.out hP | skip); have hb1 := hb.ext hx1; have f0 := hb1.cell (i := 0) (v := .int .i64 r) rfl; have f1 := hb1.cell (i := 1) (v := .int .i64 c) rfl; have f2 := hb1.cell (i := 2) (v := .slice p xs.length k) rfl; have fl := hb1.lt)
        | (go_at_call 65; (with_reducible refine (hkn.out _ (HX.out.ext (hx0.trans hx1))).mono ?_); rintro e w2 ⟨⟨hP2, rfl⟩ | ⟨hP2, rfl⟩, hx2⟩ <;> first | exact absurd hP2 h2.out | skip))
      go_ret
      exact ⟨rfl, (hx0.trans hx1).trans hx2⟩
  · have hv : jcV r c xs = 1 := by unfold jcV; rw [if_pos h1]
    rw [hv]
    have h1 := Lib.hid h1
    clear hv
    go_enter Tryz.func50, Tryz.ntmps50
    go_wp2_with (go_at_call 34; (with_reducible refine (hig.out _ (HX.out.ext hx0)).mono ?_); rintro e w1 ⟨⟨hP, rfl⟩ | ⟨hP, rfl⟩, hx1⟩ <;> first | exact absurd hP h1.out | skip)
    go_ret
    exact ⟨rfl, hx0.trans hx1⟩
set_option maxRecDepth 100000 in
theorem row_c (R C b o cap : Nat) (xs : List Int) (k : Nat) (w : World) (hl : xs.length = R * C) (hC : 1 ≤ C) (hcap : xs.length ≤ cap) (h4 : R * C ≤ 40000) (hk : k < R) :
    Calls Tryz.prog 48 #[vGrid R C (some ⟨b, o, none⟩) xs.length cap, .int .i64 k] w fun e w' => e = .returned (.slice (some ⟨b, o + k * C, none⟩) C (cap - k * C)) ∧ Ext w w' := by
  have h2 : (k + 1) * C ≤ R * C := Nat.mul_le_mul_right _ hk
  obtain ⟨K1, hK1⟩ : ∃ K1 : Nat, k * C = K1 := ⟨_, rfl⟩
  rw [Nat.add_mul, Nat.one_mul, hK1] at h2
  have e1 : (k : Int) * (C : Int) = (K1 : Int) := by rw [← hK1]; simp
  have e2 : ((k : Int) + 1) * (C : Int) = ((K1 + C : Nat) : Int) := by rw [Int.add_mul, e1]; omega
  have hsl : ∀ W, (Instr.slice 28 (.slice (some ⟨b, o, none⟩) xs.length cap) (some (.int .i64 (K1 : Int))) (some (.int .i64 ((K1 + C : Nat) : Int))) none).run Tryz.prog W = .ok (.slice (some ⟨b, o + K1, none⟩) C (cap - K1)) W := fun W => by
    have := Lib.run_slice_window (P := Tryz.prog) W 28 2 Tryz.underlying28 (fun w => by kernel_rfl) b o xs.length cap K1 (K1 + C) (by omega) (by omega)
    rwa [show K1 + C - K1 = C by omega] at this
  have hk1 : K1 + C ≤ 40000 := by omega
  have hkR : k ≤ 40000 := by
    have : k * 1 ≤ k * C := Nat.mul_le_mul_left _ hC
    omega
  have e3 := IntWalk.i64_in (K1 : Int) (by omega)
  have e4 := IntWalk.i64_in (((K1 + C : Nat)) : Int) (by omega)
  rw [hK1]
  replace hK1 := Lib.hid hK1
  replace hl := Lib.hid hl
  obtain ⟨Z, hZ⟩ : ∃ Z : Nat, K1 + C = Z := ⟨_, rfl⟩
  rw [hZ] at e2 e4 hsl
  replace hZ := Lib.hid hZ
  go_enter Tryz.func48, Tryz.ntmps48
  go_wp2
  go_ret
  exact ⟨rfl, (by repeat (first | exact Ext.refl _ | assumption | refine Ext.drew ?_ | refine Ext.drewN ?_ _ | refine Ext.iter ?_ _ _ | refine Ext.alloc ?_ _ | refine Ext.setCell ?_ (by first | exact Nat.le_refl _ | (simp <;> omega)) _ | refine Ext.trans2 (by assumption) ?_))⟩
end Go.Proofs.YthpnkcamjcohgaaGreatDoor

/-! Bands, as the program computes them. -/
namespace Go.Proofs.YthpnkcamjcohgaaGreatDoor
set_option linter.unusedVariables false
set_option linter.unusedSimpArgs false
open Go.RowKit

set_option maxHeartbeats 800000 in
set_option maxRecDepth 100000 in
theorem iBands_c (R C b o cap : Nat) (xs : List Int) (w : World) (hx : IntsAt w (some ⟨b, o, none⟩) xs) (hl : xs.length = R * C) (hC : 1 ≤ C) (hcap : xs.length ≤ cap) (h4 : R * C ≤ 40000) :
    Calls Tryz.prog 45 #[vGrid R C (some ⟨b, o, none⟩) xs.length cap] w fun e w' => (∃ v, e = .returned v ∧ RowI w.heap.size w' v (bandsTo C xs R)) ∧ Ext w w' := by
  have HX := Lib.hid hx; clear hx
  have hR4 : R ≤ 40000 := by
    have : R * 1 ≤ R * C := Nat.mul_le_mul_left _ hC
    omega
  have hb := (Blk.new w #[.int .i64 R, .int .i64 C, .slice (some ⟨b, o, none⟩) xs.length cap] 30).alloc (.cells #[] 2)
  have hrow := RowI.made (B := w.heap.size + 1) (w := w.alloc (.cells #[.int .i64 R, .int .i64 C, .slice (some ⟨b, o, none⟩) xs.length cap] 30)) (by simp)
  have hlh := Lib.hid hl
  clear hl
  have hx0 : Ext w ((w.alloc (.cells #[.int .i64 R, .int .i64 C, .slice (some ⟨b, o, none⟩) xs.length cap] 30)).alloc (.cells #[] 2)) := ((Ext.refl w).alloc _).alloc _
  simp only [World.size_alloc] at hrow
  have hfz : w.heap.size < ((w.alloc (.cells #[.int .i64 R, .int .i64 C, .slice (some ⟨b, o, none⟩) xs.length cap] 30)).alloc (.cells #[] 2)).heap.size := by simp; omega
  go_enter Tryz.func45, Tryz.ntmps45
  go_wp2
  generalize (w.alloc (.cells #[.int .i64 R, .int .i64 C, .slice (some ⟨b, o, none⟩) xs.length cap] 30)).alloc (.cells #[] 2) = w0 at *
  go_loopw [3, 4] (fun out i wr => ∃ k : Nat, k ≤ R ∧ i = .int .i64 k ∧ RowI (w.heap.size + 1) wr out (bandsTo C xs k) ∧ Blk wr w.heap.size #[.int .i64 R, .int .i64 C, .slice (some ⟨b, o, none⟩) xs.length cap] 30 ∧ Ext w wr) (fun _ i _ => R - (intOf i).toNat)
  case atStart => exact ⟨0, Nat.zero_le _, rfl, hrow, hb, hx0⟩
  case round =>
    clear hrow hb hx0
    obtain ⟨k, hk, rfl, hown, hbr, hext⟩ := hrel
    have f0 := hbr.cell (i := 0) (v := .int .i64 R) rfl
    have f1 := hbr.cell (i := 1) (v := .int .i64 C) rfl
    have f2 := hbr.cell (i := 2) (v := .slice (some ⟨b, o, none⟩) xs.length cap) rfl
    have fl := hbr.lt
    obtain ⟨hbl, hb0, hbx⟩ := bandsTo_bd C xs k
    by_cases hlt : k < R
    · have hki : (k : Int) < R := by omega
      have hzz := hext.below.size
      rcases Nat.eq_zero_or_pos k with rfl | hk0
      · have hst := Lib.hid (show bandsTo C xs 1 = bandsTo C xs 0 ++ [1] from (bandsTo_succ C xs 0).trans (if_neg (fun h => absurd h.1 (Nat.lt_irrefl 0))))
        generalize bandsTo C xs 0 = L at *
        go_wp2
        refine wp_region_canon (fun w' => Ext wr w') [(0, true), (1, true), (2, true), (3, true), (4, true), (6, true), (7, true), (8, true), (5, false), (9, false), (10, false), (11, true)] (by kernel_rfl) (by kernel_rfl) (by decide) (by kernel_rfl) ?_ ?_
        · exact (by repeat (first | exact Ext.refl _ | assumption | refine Ext.drew ?_ | refine Ext.drewN ?_ _ | refine Ext.iter ?_ _ _ | refine Ext.alloc ?_ _ | refine Ext.setCell ?_ (by first | exact Nat.le_refl _ | (simp <;> omega)) _ | refine Ext.trans2 (by assumption) ?_))
        refine canon_intro fun ops eo => ?_
        have ho0 := canon_at eo 0 rfl
        have ho1 := canon_at eo 1 rfl
        have ho2 := canon_at eo 2 rfl
        have ho3 := canon_at eo 3 rfl
        have ho4 := canon_at eo 4 rfl
        have ho5 := canon_at eo 5 rfl
        have ho6 := canon_at eo 6 rfl
        have ho7 := canon_at eo 7 rfl
        have ho8 := canon_at eo 8 rfl
        have ho9 := canon_at eo 9 rfl
        have ho10 := canon_at eo 10 rfl
        have ho11 := canon_at eo 11 rfl
        clear eo
        all_goals first | (apply canon_st ho0 rfl; (intro w2 hS; first | (go_simp; first | done | rfl) | rfl | (obtain ⟨hc, hf, hk', hz⟩ := ecell hS; go_simp; first | done | rfl)); simp only [Act.put, List.setIfInBounds_toArray, List.set_cons_zero, List.set_cons_succ]) | (refine canon_stu ho0 rfl (by assumption) rfl rfl ?_; simp only [Act.put, List.setIfInBounds_toArray, List.set_cons_zero, List.set_cons_succ]) | (refine canon_stx ho0 rfl (by assumption) rfl rfl ?_; simp only [Act.put, List.setIfInBounds_toArray, List.set_cons_zero, List.set_cons_succ]) | (refine canon_stw (v := ?_) ho0 rfl (by assumption) rfl rfl ?_ ?_; rotate_left 1; (intro w2 hS; first | (go_simp; first | done | rfl) | rfl | (obtain ⟨hc, hf, hk', hz⟩ := ecell hS; go_simp; first | done | rfl)); simp only [Act.put, List.setIfInBounds_toArray, List.set_cons_zero, List.set_cons_succ])
        all_goals first | (apply canon_st ho1 rfl; (intro w2 hS; first | (go_simp; first | done | rfl) | rfl | (obtain ⟨hc, hf, hk', hz⟩ := ecell hS; go_simp; first | done | rfl)); simp only [Act.put, List.setIfInBounds_toArray, List.set_cons_zero, List.set_cons_succ]) | (refine canon_stu ho1 rfl (by assumption) rfl rfl ?_; simp only [Act.put, List.setIfInBounds_toArray, List.set_cons_zero, List.set_cons_succ]) | (refine canon_stx ho1 rfl (by assumption) rfl rfl ?_; simp only [Act.put, List.setIfInBounds_toArray, List.set_cons_zero, List.set_cons_succ]) | (refine canon_stw (v := ?_) ho1 rfl (by assumption) rfl rfl ?_ ?_; rotate_left 1; (intro w2 hS; first | (go_simp; first | done | rfl) | rfl | (obtain ⟨hc, hf, hk', hz⟩ := ecell hS; go_simp; first | done | rfl)); simp only [Act.put, List.setIfInBounds_toArray, List.set_cons_zero, List.set_cons_succ])
        all_goals first | (apply canon_st ho2 rfl; (intro w2 hS; first | (go_simp; first | done | rfl) | rfl | (obtain ⟨hc, hf, hk', hz⟩ := ecell hS; go_simp; first | done | rfl)); simp only [Act.put, List.setIfInBounds_toArray, List.set_cons_zero, List.set_cons_succ]) | (refine canon_stu ho2 rfl (by assumption) rfl rfl ?_; simp only [Act.put, List.setIfInBounds_toArray, List.set_cons_zero, List.set_cons_succ]) | (refine canon_stx ho2 rfl (by assumption) rfl rfl ?_; simp only [Act.put, List.setIfInBounds_toArray, List.set_cons_zero, List.set_cons_succ]) | (refine canon_stw (v := ?_) ho2 rfl (by assumption) rfl rfl ?_ ?_; rotate_left 1; (intro w2 hS; first | (go_simp; first | done | rfl) | rfl | (obtain ⟨hc, hf, hk', hz⟩ := ecell hS; go_simp; first | done | rfl)); simp only [Act.put, List.setIfInBounds_toArray, List.set_cons_zero, List.set_cons_succ])
        all_goals first | (apply canon_st ho3 rfl; (intro w2 hS; first | (go_simp; first | done | rfl) | rfl | (obtain ⟨hc, hf, hk', hz⟩ := ecell hS; go_simp; first | done | rfl)); simp only [Act.put, List.setIfInBounds_toArray, List.set_cons_zero, List.set_cons_succ]) | (refine canon_stu ho3 rfl (by assumption) rfl rfl ?_; simp only [Act.put, List.setIfInBounds_toArray, List.set_cons_zero, List.set_cons_succ]) | (refine canon_stx ho3 rfl (by assumption) rfl rfl ?_; simp only [Act.put, List.setIfInBounds_toArray, List.set_cons_zero, List.set_cons_succ]) | (refine canon_stw (v := ?_) ho3 rfl (by assumption) rfl rfl ?_ ?_; rotate_left 1; (intro w2 hS; first | (go_simp; first | done | rfl) | rfl | (obtain ⟨hc, hf, hk', hz⟩ := ecell hS; go_simp; first | done | rfl)); simp only [Act.put, List.setIfInBounds_toArray, List.set_cons_zero, List.set_cons_succ])
        all_goals first | (apply canon_st ho4 rfl; (intro w2 hS; first | (go_simp; first | done | rfl) | rfl | (obtain ⟨hc, hf, hk', hz⟩ := ecell hS; go_simp; first | done | rfl)); simp only [Act.put, List.setIfInBounds_toArray, List.set_cons_zero, List.set_cons_succ]) | (refine canon_stu ho4 rfl (by assumption) rfl rfl ?_; simp only [Act.put, List.setIfInBounds_toArray, List.set_cons_zero, List.set_cons_succ]) | (refine canon_stx ho4 rfl (by assumption) rfl rfl ?_; simp only [Act.put, List.setIfInBounds_toArray, List.set_cons_zero, List.set_cons_succ]) | (refine canon_stw (v := ?_) ho4 rfl (by assumption) rfl rfl ?_ ?_; rotate_left 1; (intro w2 hS; first | (go_simp; first | done | rfl) | rfl | (obtain ⟨hc, hf, hk', hz⟩ := ecell hS; go_simp; first | done | rfl)); simp only [Act.put, List.setIfInBounds_toArray, List.set_cons_zero, List.set_cons_succ])
        all_goals first | (apply canon_st ho6 rfl; (intro w2 hS; first | (go_simp; first | done | rfl) | rfl | (obtain ⟨hc, hf, hk', hz⟩ := ecell hS; go_simp; first | done | rfl)); simp only [Act.put, List.setIfInBounds_toArray, List.set_cons_zero, List.set_cons_succ]) | (refine canon_stu ho6 rfl (by assumption) rfl rfl ?_; simp only [Act.put, List.setIfInBounds_toArray, List.set_cons_zero, List.set_cons_succ]) | (refine canon_stx ho6 rfl (by assumption) rfl rfl ?_; simp only [Act.put, List.setIfInBounds_toArray, List.set_cons_zero, List.set_cons_succ]) | (refine canon_stw (v := ?_) ho6 rfl (by assumption) rfl rfl ?_ ?_; rotate_left 1; (intro w2 hS; first | (go_simp; first | done | rfl) | rfl | (obtain ⟨hc, hf, hk', hz⟩ := ecell hS; go_simp; first | done | rfl)); simp only [Act.put, List.setIfInBounds_toArray, List.set_cons_zero, List.set_cons_succ])
        all_goals first | (apply canon_st ho7 rfl; (intro w2 hS; first | (go_simp; first | done | rfl) | rfl | (obtain ⟨hc, hf, hk', hz⟩ := ecell hS; go_simp; first | done | rfl)); simp only [Act.put, List.setIfInBounds_toArray, List.set_cons_zero, List.set_cons_succ]) | (refine canon_stu ho7 rfl (by assumption) rfl rfl ?_; simp only [Act.put, List.setIfInBounds_toArray, List.set_cons_zero, List.set_cons_succ]) | (refine canon_stx ho7 rfl (by assumption) rfl rfl ?_; simp only [Act.put, List.setIfInBounds_toArray, List.set_cons_zero, List.set_cons_succ]) | (refine canon_stw (v := ?_) ho7 rfl (by assumption) rfl rfl ?_ ?_; rotate_left 1; (intro w2 hS; first | (go_simp; first | done | rfl) | rfl | (obtain ⟨hc, hf, hk', hz⟩ := ecell hS; go_simp; first | done | rfl)); simp only [Act.put, List.setIfInBounds_toArray, List.set_cons_zero, List.set_cons_succ])
        all_goals first | (apply canon_st ho8 rfl; (intro w2 hS; first | (go_simp; first | done | rfl) | rfl | (obtain ⟨hc, hf, hk', hz⟩ := ecell hS; go_simp; first | done | rfl)); simp only [Act.put, List.setIfInBounds_toArray, List.set_cons_zero, List.set_cons_succ]) | (refine canon_stu ho8 rfl (by assumption) rfl rfl ?_; simp only [Act.put, List.setIfInBounds_toArray, List.set_cons_zero, List.set_cons_succ]) | (refine canon_stx ho8 rfl (by assumption) rfl rfl ?_; simp only [Act.put, List.setIfInBounds_toArray, List.set_cons_zero, List.set_cons_succ]) | (refine canon_stw (v := ?_) ho8 rfl (by assumption) rfl rfl ?_ ?_; rotate_left 1; (intro w2 hS; first | (go_simp; first | done | rfl) | rfl | (obtain ⟨hc, hf, hk', hz⟩ := ecell hS; go_simp; first | done | rfl)); simp only [Act.put, List.setIfInBounds_toArray, List.set_cons_zero, List.set_cons_succ])
        all_goals first | (refine canon_efu ho5 rfl (by assumption) rfl rfl (by first | assumption | exact (by repeat (first | exact Ext.refl _ | assumption | refine Ext.drew ?_ | refine Ext.drewN ?_ _ | refine Ext.iter ?_ _ _ | refine Ext.alloc ?_ _ | refine Ext.setCell ?_ (by first | exact Nat.le_refl _ | (simp <;> omega)) _ | refine Ext.trans2 (by assumption) ?_))) ?_; simp only [Act.put, List.setIfInBounds_toArray, List.set_cons_zero, List.set_cons_succ]) | (refine canon_efx ho5 rfl (by assumption) rfl rfl (by first | assumption | exact (by repeat (first | exact Ext.refl _ | assumption | refine Ext.drew ?_ | refine Ext.drewN ?_ _ | refine Ext.iter ?_ _ _ | refine Ext.alloc ?_ _ | refine Ext.setCell ?_ (by first | exact Nat.le_refl _ | (simp <;> omega)) _ | refine Ext.trans2 (by assumption) ?_))) ?_; simp only [Act.put, List.setIfInBounds_toArray, List.set_cons_zero, List.set_cons_succ]) | (refine canon_ef ho5 rfl (fun K hK => ?_); go_simp; (skip); all_goals (refine hK _ _ ⟨(by repeat (first | exact Ext.refl _ | assumption | refine Ext.drew ?_ | refine Ext.drewN ?_ _ | refine Ext.iter ?_ _ _ | refine Ext.alloc ?_ _ | refine Ext.setCell ?_ (by first | exact Nat.le_refl _ | (simp <;> omega)) _ | refine Ext.trans2 (by assumption) ?_)), ?_⟩; clear hK K; go_simp)) | (refine canon_efw ho5 rfl (by assumption) rfl rfl (fun K hK => ?_); go_simp; (skip); all_goals (refine hK _ _ ⟨(by repeat (first | exact Ext.refl _ | assumption | refine Ext.drew ?_ | refine Ext.drewN ?_ _ | refine Ext.iter ?_ _ _ | refine Ext.alloc ?_ _ | refine Ext.setCell ?_ (by first | exact Nat.le_refl _ | (simp <;> omega)) _ | refine Ext.trans2 (by assumption) ?_)), ?_⟩; clear hK K; go_simp))
        all_goals first | (refine canon_efu ho9 rfl (by assumption) rfl rfl (by first | assumption | exact (by repeat (first | exact Ext.refl _ | assumption | refine Ext.drew ?_ | refine Ext.drewN ?_ _ | refine Ext.iter ?_ _ _ | refine Ext.alloc ?_ _ | refine Ext.setCell ?_ (by first | exact Nat.le_refl _ | (simp <;> omega)) _ | refine Ext.trans2 (by assumption) ?_))) ?_; simp only [Act.put, List.setIfInBounds_toArray, List.set_cons_zero, List.set_cons_succ]) | (refine canon_efx ho9 rfl (by assumption) rfl rfl (by first | assumption | exact (by repeat (first | exact Ext.refl _ | assumption | refine Ext.drew ?_ | refine Ext.drewN ?_ _ | refine Ext.iter ?_ _ _ | refine Ext.alloc ?_ _ | refine Ext.setCell ?_ (by first | exact Nat.le_refl _ | (simp <;> omega)) _ | refine Ext.trans2 (by assumption) ?_))) ?_; simp only [Act.put, List.setIfInBounds_toArray, List.set_cons_zero, List.set_cons_succ]) | (refine canon_ef ho9 rfl (fun K hK => ?_); go_simp; (skip); all_goals (refine hK _ _ ⟨(by repeat (first | exact Ext.refl _ | assumption | refine Ext.drew ?_ | refine Ext.drewN ?_ _ | refine Ext.iter ?_ _ _ | refine Ext.alloc ?_ _ | refine Ext.setCell ?_ (by first | exact Nat.le_refl _ | (simp <;> omega)) _ | refine Ext.trans2 (by assumption) ?_)), ?_⟩; clear hK K; go_simp)) | (refine canon_efw ho9 rfl (by assumption) rfl rfl (fun K hK => ?_); go_simp; (skip); all_goals (refine hK _ _ ⟨(by repeat (first | exact Ext.refl _ | assumption | refine Ext.drew ?_ | refine Ext.drewN ?_ _ | refine Ext.iter ?_ _ _ | refine Ext.alloc ?_ _ | refine Ext.setCell ?_ (by first | exact Nat.le_refl _ | (simp <;> omega)) _ | refine Ext.trans2 (by assumption) ?_)), ?_⟩; clear hK K; go_simp))
        all_goals first | (refine canon_efu ho10 rfl (by assumption) rfl rfl (by first | assumption | exact (by repeat (first | exact Ext.refl _ | assumption | refine Ext.drew ?_ | refine Ext.drewN ?_ _ | refine Ext.iter ?_ _ _ | refine Ext.alloc ?_ _ | refine Ext.setCell ?_ (by first | exact Nat.le_refl _ | (simp <;> omega)) _ | refine Ext.trans2 (by assumption) ?_))) ?_; simp only [Act.put, List.setIfInBounds_toArray, List.set_cons_zero, List.set_cons_succ]) | (refine canon_efx ho10 rfl (by assumption) rfl rfl (by first | assumption | exact (by repeat (first | exact Ext.refl _ | assumption | refine Ext.drew ?_ | refine Ext.drewN ?_ _ | refine Ext.iter ?_ _ _ | refine Ext.alloc ?_ _ | refine Ext.setCell ?_ (by first | exact Nat.le_refl _ | (simp <;> omega)) _ | refine Ext.trans2 (by assumption) ?_))) ?_; simp only [Act.put, List.setIfInBounds_toArray, List.set_cons_zero, List.set_cons_succ]) | (refine canon_ef ho10 rfl (fun K hK => ?_); go_simp; (skip); all_goals (refine hK _ _ ⟨(by repeat (first | exact Ext.refl _ | assumption | refine Ext.drew ?_ | refine Ext.drewN ?_ _ | refine Ext.iter ?_ _ _ | refine Ext.alloc ?_ _ | refine Ext.setCell ?_ (by first | exact Nat.le_refl _ | (simp <;> omega)) _ | refine Ext.trans2 (by assumption) ?_)), ?_⟩; clear hK K; go_simp)) | (refine canon_efw ho10 rfl (by assumption) rfl rfl (fun K hK => ?_); go_simp; (skip); all_goals (refine hK _ _ ⟨(by repeat (first | exact Ext.refl _ | assumption | refine Ext.drew ?_ | refine Ext.drewN ?_ _ | refine Ext.iter ?_ _ _ | refine Ext.alloc ?_ _ | refine Ext.setCell ?_ (by first | exact Nat.le_refl _ | (simp <;> omega)) _ | refine Ext.trans2 (by assumption) ?_)), ?_⟩; clear hK K; go_simp))
        all_goals first | (apply canon_st ho11 rfl; (intro w2 hS; first | (go_simp; first | done | rfl) | rfl | (obtain ⟨hc, hf, hk', hz⟩ := ecell hS; go_simp; first | done | rfl)); simp only [Act.put, List.setIfInBounds_toArray, List.set_cons_zero, List.set_cons_succ]) | (refine canon_stu ho11 rfl (by assumption) rfl rfl ?_; simp only [Act.put, List.setIfInBounds_toArray, List.set_cons_zero, List.set_cons_succ]) | (refine canon_stx ho11 rfl (by assumption) rfl rfl ?_; simp only [Act.put, List.setIfInBounds_toArray, List.set_cons_zero, List.set_cons_succ]) | (refine canon_stw (v := ?_) ho11 rfl (by assumption) rfl rfl ?_ ?_; rotate_left 1; (intro w2 hS; first | (go_simp; first | done | rfl) | rfl | (obtain ⟨hc, hf, hk', hz⟩ := ecell hS; go_simp; first | done | rfl)); simp only [Act.put, List.setIfInBounds_toArray, List.set_cons_zero, List.set_cons_succ])
        all_goals clear ho0 ho1 ho2 ho3 ho4 ho5 ho6 ho7 ho8 ho9 ho10 ho11
        all_goals refine canon_done (NoPanic.normal ?_)
        replace hown := hown.ext (Ext.refl wr).drew
        replace hbr := hbr.ext (Ext.refl wr).drew
        replace hext := hext.drew
        replace hzz := hbr.lt
        clear f0 f1 f2 fl
        generalize wr.drew = wd at *
        go_wp2_with (at_builtin; go_loud (refine append1I hown (by omega) (by omega) ?_ rfl rfl); intro v1 w3 hown3 hb3)
        go_roundw
        case rel => exact ⟨1, hlt, by go_num, by rw [hst.out]; exact hown3, hbr.low hb3 (by omega), hext.low hb3 (by omega)⟩
        case measure => simp [intOf]; omega
      · obtain ⟨m, hm⟩ : ∃ m, k = m + 1 := ⟨k - 1, by omega⟩
        have hC4 : C ≤ 40000 := by
          have : 1 * C ≤ R * C := Nat.mul_le_mul_right _ (by omega)
          omega
        have hk0i : (0 : Int) < k := by omega
        have hkm : (k : Int) - 1 = (m : Int) := by omega
        have ewm := IntWalk.i64_in (m : Int) (by omega)
        have hr1 := Lib.hid (fun W => row_c R C b o cap xs k W hlh.out hC hcap h4 hlt)
        have hr0 := Lib.hid (fun W => row_c R C b o cap xs m W hlh.out hC hcap h4 (by omega))
        have l1 := rowL_len hlh.out hlt
        have l0 := rowL_len hlh.out (show m < R by omega)
        have heq : Hid (∀ W, IntsAt W (some ⟨b, o, none⟩) xs → Calls Tryz.prog 62 #[.slice (some ⟨b, o + k * C, none⟩) C (cap - k * C), .slice (some ⟨b, o + m * C, none⟩) C (cap - m * C)] W fun e w' => isB e (rowL C xs k = rowL C xs m) ∧ ∃ n, w' = W.drewN n) := Lib.hid fun W h => by
          have := equalInts_c (some ⟨b, o + k * C, none⟩) (some ⟨b, o + m * C, none⟩) (cap - k * C) (cap - m * C) _ _ W (rowL_at hlh.out hlt h) (rowL_at hlh.out (show m < R by omega) h) (by omega) (by omega)
          rwa [l1, l0] at this
        have hst1 := Lib.hid (show rowL C xs k = rowL C xs m → bandsTo C xs (k + 1) = incLast (bandsTo C xs k) from fun h => (bandsTo_succ C xs k).trans (if_pos ⟨hk0, by rw [h, hm]; rfl⟩))
        have hst0 := Lib.hid (show ¬ rowL C xs k = rowL C xs m → bandsTo C xs (k + 1) = bandsTo C xs k ++ [1] from fun h => (bandsTo_succ C xs k).trans (if_neg (fun h2 => h (by rw [h2.2, hm]; rfl))))
        generalize (rowL C xs k = rowL C xs m) = EQ at *
        generalize bandsTo C xs k = L at *
        have hL1 := hb0 hk0
        obtain ⟨n, hn⟩ : ∃ n, L.length = n + 1 := ⟨L.length - 1, by omega⟩
        have hnx := hbx (L.getD n 0) (by rw [List.getD_eq_getElem?_getD, List.getElem?_eq_getElem (by omega)]; exact List.getElem_mem _)
        replace hbx := Lib.hid hbx
        have en : (L.length : Int) - 1 = (n : Int) := by omega
        have hnl : (n : Int) < L.length := by omega
        replace hn := Lib.hid hn
        replace hm := Lib.hid hm
        clear l1 l0
        obtain ⟨P1, hP1⟩ : ∃ P1, P1 = o + k * C := ⟨_, rfl⟩
        obtain ⟨P0, hP0⟩ : ∃ P0, P0 = o + m * C := ⟨_, rfl⟩
        obtain ⟨c1, hc1⟩ : ∃ c1, c1 = cap - k * C := ⟨_, rfl⟩
        obtain ⟨c0, hc0⟩ : ∃ c0, c0 = cap - m * C := ⟨_, rfl⟩
        rw [← hP1, ← hc1] at hr1 heq
        rw [← hP0, ← hc0] at hr0 heq
        clear hP1 hP0 hc1 hc0
        go_wp2
        refine wp_region_canon (fun w' => Ext wr w') [(0, true), (1, true), (2, true), (3, true), (4, true), (6, true), (7, true), (8, true), (5, false), (9, false), (10, false), (11, true)] (by kernel_rfl) (by kernel_rfl) (by decide) (by kernel_rfl) ?_ ?_
        · exact (by repeat (first | exact Ext.refl _ | assumption | refine Ext.drew ?_ | refine Ext.drewN ?_ _ | refine Ext.iter ?_ _ _ | refine Ext.alloc ?_ _ | refine Ext.setCell ?_ (by first | exact Nat.le_refl _ | (simp <;> omega)) _ | refine Ext.trans2 (by assumption) ?_))
        refine canon_intro fun ops eo => ?_
        have ho0 := canon_at eo 0 rfl
        have ho1 := canon_at eo 1 rfl
        have ho2 := canon_at eo 2 rfl
        have ho3 := canon_at eo 3 rfl
        have ho4 := canon_at eo 4 rfl
        have ho5 := canon_at eo 5 rfl
        have ho6 := canon_at eo 6 rfl
        have ho7 := canon_at eo 7 rfl
        have ho8 := canon_at eo 8 rfl
        have ho9 := canon_at eo 9 rfl
        have ho10 := canon_at eo 10 rfl
        have ho11 := canon_at eo 11 rfl
        clear eo
        all_goals first | (apply canon_st ho0 rfl; (intro w2 hS; first | (go_simp; first | done | rfl) | rfl | (obtain ⟨hc, hf, hk', hz⟩ := ecell hS; go_simp; first | done | rfl)); simp only [Act.put, List.setIfInBounds_toArray, List.set_cons_zero, List.set_cons_succ]) | (refine canon_stu ho0 rfl (by assumption) rfl rfl ?_; simp only [Act.put, List.setIfInBounds_toArray, List.set_cons_zero, List.set_cons_succ]) | (refine canon_stx ho0 rfl (by assumption) rfl rfl ?_; simp only [Act.put, List.setIfInBounds_toArray, List.set_cons_zero, List.set_cons_succ]) | (refine canon_stw (v := ?_) ho0 rfl (by assumption) rfl rfl ?_ ?_; rotate_left 1; (intro w2 hS; first | (go_simp; first | done | rfl) | rfl | (obtain ⟨hc, hf, hk', hz⟩ := ecell hS; go_simp; first | done | rfl)); simp only [Act.put, List.setIfInBounds_toArray, List.set_cons_zero, List.set_cons_succ])
        all_goals first | (apply canon_st ho1 rfl; (intro w2 hS; first | (go_simp; first | done | rfl) | rfl | (obtain ⟨hc, hf, hk', hz⟩ := ecell hS; go_simp; first | done | rfl)); simp only [Act.put, List.setIfInBounds_toArray, List.set_cons_zero, List.set_cons_succ]) | (refine canon_stu ho1 rfl (by assumption) rfl rfl ?_; simp only [Act.put, List.setIfInBounds_toArray, List.set_cons_zero, List.set_cons_succ]) | (refine canon_stx ho1 rfl (by assumption) rfl rfl ?_; simp only [Act.put, List.setIfInBounds_toArray, List.set_cons_zero, List.set_cons_succ]) | (refine canon_stw (v := ?_) ho1 rfl (by assumption) rfl rfl ?_ ?_; rotate_left 1; (intro w2 hS; first | (go_simp; first | done | rfl) | rfl | (obtain ⟨hc, hf, hk', hz⟩ := ecell hS; go_simp; first | done | rfl)); simp only [Act.put, List.setIfInBounds_toArray, List.set_cons_zero, List.set_cons_succ])
        all_goals first | (apply canon_st ho2 rfl; (intro w2 hS; first | (go_simp; first | done | rfl) | rfl | (obtain ⟨hc, hf, hk', hz⟩ := ecell hS; go_simp; first | done | rfl)); simp only [Act.put, List.setIfInBounds_toArray, List.set_cons_zero, List.set_cons_succ]) | (refine canon_stu ho2 rfl (by assumption) rfl rfl ?_; simp only [Act.put, List.setIfInBounds_toArray, List.set_cons_zero, List.set_cons_succ]) | (refine canon_stx ho2 rfl (by assumption) rfl rfl ?_; simp only [Act.put, List.setIfInBounds_toArray, List.set_cons_zero, List.set_cons_succ]) | (refine canon_stw (v := ?_) ho2 rfl (by assumption) rfl rfl ?_ ?_; rotate_left 1; (intro w2 hS; first | (go_simp; first | done | rfl) | rfl | (obtain ⟨hc, hf, hk', hz⟩ := ecell hS; go_simp; first | done | rfl)); simp only [Act.put, List.setIfInBounds_toArray, List.set_cons_zero, List.set_cons_succ])
        all_goals first | (apply canon_st ho3 rfl; (intro w2 hS; first | (go_simp; first | done | rfl) | rfl | (obtain ⟨hc, hf, hk', hz⟩ := ecell hS; go_simp; first | done | rfl)); simp only [Act.put, List.setIfInBounds_toArray, List.set_cons_zero, List.set_cons_succ]) | (refine canon_stu ho3 rfl (by assumption) rfl rfl ?_; simp only [Act.put, List.setIfInBounds_toArray, List.set_cons_zero, List.set_cons_succ]) | (refine canon_stx ho3 rfl (by assumption) rfl rfl ?_; simp only [Act.put, List.setIfInBounds_toArray, List.set_cons_zero, List.set_cons_succ]) | (refine canon_stw (v := ?_) ho3 rfl (by assumption) rfl rfl ?_ ?_; rotate_left 1; (intro w2 hS; first | (go_simp; first | done | rfl) | rfl | (obtain ⟨hc, hf, hk', hz⟩ := ecell hS; go_simp; first | done | rfl)); simp only [Act.put, List.setIfInBounds_toArray, List.set_cons_zero, List.set_cons_succ])
        all_goals first | (apply canon_st ho4 rfl; (intro w2 hS; first | (go_simp; first | done | rfl) | rfl | (obtain ⟨hc, hf, hk', hz⟩ := ecell hS; go_simp; first | done | rfl)); simp only [Act.put, List.setIfInBounds_toArray, List.set_cons_zero, List.set_cons_succ]) | (refine canon_stu ho4 rfl (by assumption) rfl rfl ?_; simp only [Act.put, List.setIfInBounds_toArray, List.set_cons_zero, List.set_cons_succ]) | (refine canon_stx ho4 rfl (by assumption) rfl rfl ?_; simp only [Act.put, List.setIfInBounds_toArray, List.set_cons_zero, List.set_cons_succ]) | (refine canon_stw (v := ?_) ho4 rfl (by assumption) rfl rfl ?_ ?_; rotate_left 1; (intro w2 hS; first | (go_simp; first | done | rfl) | rfl | (obtain ⟨hc, hf, hk', hz⟩ := ecell hS; go_simp; first | done | rfl)); simp only [Act.put, List.setIfInBounds_toArray, List.set_cons_zero, List.set_cons_succ])
        all_goals first | (apply canon_st ho6 rfl; (intro w2 hS; first | (go_simp; first | done | rfl) | rfl | (obtain ⟨hc, hf, hk', hz⟩ := ecell hS; go_simp; first | done | rfl)); simp only [Act.put, List.setIfInBounds_toArray, List.set_cons_zero, List.set_cons_succ]) | (refine canon_stu ho6 rfl (by assumption) rfl rfl ?_; simp only [Act.put, List.setIfInBounds_toArray, List.set_cons_zero, List.set_cons_succ]) | (refine canon_stx ho6 rfl (by assumption) rfl rfl ?_; simp only [Act.put, List.setIfInBounds_toArray, List.set_cons_zero, List.set_cons_succ]) | (refine canon_stw (v := ?_) ho6 rfl (by assumption) rfl rfl ?_ ?_; rotate_left 1; (intro w2 hS; first | (go_simp; first | done | rfl) | rfl | (obtain ⟨hc, hf, hk', hz⟩ := ecell hS; go_simp; first | done | rfl)); simp only [Act.put, List.setIfInBounds_toArray, List.set_cons_zero, List.set_cons_succ])
        all_goals first | (apply canon_st ho7 rfl; (intro w2 hS; first | (go_simp; first | done | rfl) | rfl | (obtain ⟨hc, hf, hk', hz⟩ := ecell hS; go_simp; first | done | rfl)); simp only [Act.put, List.setIfInBounds_toArray, List.set_cons_zero, List.set_cons_succ]) | (refine canon_stu ho7 rfl (by assumption) rfl rfl ?_; simp only [Act.put, List.setIfInBounds_toArray, List.set_cons_zero, List.set_cons_succ]) | (refine canon_stx ho7 rfl (by assumption) rfl rfl ?_; simp only [Act.put, List.setIfInBounds_toArray, List.set_cons_zero, List.set_cons_succ]) | (refine canon_stw (v := ?_) ho7 rfl (by assumption) rfl rfl ?_ ?_; rotate_left 1; (intro w2 hS; first | (go_simp; first | done | rfl) | rfl | (obtain ⟨hc, hf, hk', hz⟩ := ecell hS; go_simp; first | done | rfl)); simp only [Act.put, List.setIfInBounds_toArray, List.set_cons_zero, List.set_cons_succ])
        all_goals first | (apply canon_st ho8 rfl; (intro w2 hS; first | (go_simp; first | done | rfl) | rfl | (obtain ⟨hc, hf, hk', hz⟩ := ecell hS; go_simp; first | done | rfl)); simp only [Act.put, List.setIfInBounds_toArray, List.set_cons_zero, List.set_cons_succ]) | (refine canon_stu ho8 rfl (by assumption) rfl rfl ?_; simp only [Act.put, List.setIfInBounds_toArray, List.set_cons_zero, List.set_cons_succ]) | (refine canon_stx ho8 rfl (by assumption) rfl rfl ?_; simp only [Act.put, List.setIfInBounds_toArray, List.set_cons_zero, List.set_cons_succ]) | (refine canon_stw (v := ?_) ho8 rfl (by assumption) rfl rfl ?_ ?_; rotate_left 1; (intro w2 hS; first | (go_simp; first | done | rfl) | rfl | (obtain ⟨hc, hf, hk', hz⟩ := ecell hS; go_simp; first | done | rfl)); simp only [Act.put, List.setIfInBounds_toArray, List.set_cons_zero, List.set_cons_succ])
        all_goals first | (refine canon_efu ho5 rfl (by assumption) rfl rfl (by first | assumption | exact (by repeat (first | exact Ext.refl _ | assumption | refine Ext.drew ?_ | refine Ext.drewN ?_ _ | refine Ext.iter ?_ _ _ | refine Ext.alloc ?_ _ | refine Ext.setCell ?_ (by first | exact Nat.le_refl _ | (simp <;> omega)) _ | refine Ext.trans2 (by assumption) ?_))) ?_; simp only [Act.put, List.setIfInBounds_toArray, List.set_cons_zero, List.set_cons_succ]) | (refine canon_efx ho5 rfl (by assumption) rfl rfl (by first | assumption | exact (by repeat (first | exact Ext.refl _ | assumption | refine Ext.drew ?_ | refine Ext.drewN ?_ _ | refine Ext.iter ?_ _ _ | refine Ext.alloc ?_ _ | refine Ext.setCell ?_ (by first | exact Nat.le_refl _ | (simp <;> omega)) _ | refine Ext.trans2 (by assumption) ?_))) ?_; simp only [Act.put, List.setIfInBounds_toArray, List.set_cons_zero, List.set_cons_succ]) | (refine canon_ef ho5 rfl (fun K hK => ?_); go_simp; ((go_at_call 48; (with_reducible refine (hr1.out _).mono ?_); rintro e w1 ⟨rfl, hx1⟩; (obtain ⟨hc, hf, hk', hz⟩ := ecell hx1))); all_goals (refine hK _ _ ⟨(by repeat (first | exact Ext.refl _ | assumption | refine Ext.drew ?_ | refine Ext.drewN ?_ _ | refine Ext.iter ?_ _ _ | refine Ext.alloc ?_ _ | refine Ext.setCell ?_ (by first | exact Nat.le_refl _ | (simp <;> omega)) _ | refine Ext.trans2 (by assumption) ?_)), ?_⟩; clear hK K; go_simp)) | (refine canon_ef ho5 rfl (fun K hK => ?_); go_simp; ((go_at_call 48; (with_reducible refine (hr0.out _).mono ?_); rintro e w2 ⟨rfl, hx2⟩; (obtain ⟨hc, hf, hk', hz⟩ := ecell hx2))); all_goals (refine hK _ _ ⟨(by repeat (first | exact Ext.refl _ | assumption | refine Ext.drew ?_ | refine Ext.drewN ?_ _ | refine Ext.iter ?_ _ _ | refine Ext.alloc ?_ _ | refine Ext.setCell ?_ (by first | exact Nat.le_refl _ | (simp <;> omega)) _ | refine Ext.trans2 (by assumption) ?_)), ?_⟩; clear hK K; go_simp)) | (refine canon_ef ho5 rfl (fun K hK => ?_); go_simp; ((go_at_call 62; (with_reducible refine (heq.out _ (HX.out.ext (hext.trans (by repeat (first | exact Ext.refl _ | assumption | refine Ext.drew ?_ | refine Ext.drewN ?_ _ | refine Ext.iter ?_ _ _ | refine Ext.alloc ?_ _ | refine Ext.setCell ?_ (by first | exact Nat.le_refl _ | (simp <;> omega)) _ | refine Ext.trans2 (by assumption) ?_))))).mono ?_); rintro e w3 ⟨⟨hP, rfl⟩ | ⟨hP, rfl⟩, n3, rfl⟩)); all_goals (refine hK _ _ ⟨(by repeat (first | exact Ext.refl _ | assumption | refine Ext.drew ?_ | refine Ext.drewN ?_ _ | refine Ext.iter ?_ _ _ | refine Ext.alloc ?_ _ | refine Ext.setCell ?_ (by first | exact Nat.le_refl _ | (simp <;> omega)) _ | refine Ext.trans2 (by assumption) ?_)), ?_⟩; clear hK K; go_simp)) | (refine canon_efw ho5 rfl (by assumption) rfl rfl (fun K hK => ?_); go_simp; ((go_at_call 48; (with_reducible refine (hr1.out _).mono ?_); rintro e w1 ⟨rfl, hx1⟩; (obtain ⟨hc, hf, hk', hz⟩ := ecell hx1))); all_goals (refine hK _ _ ⟨(by repeat (first | exact Ext.refl _ | assumption | refine Ext.drew ?_ | refine Ext.drewN ?_ _ | refine Ext.iter ?_ _ _ | refine Ext.alloc ?_ _ | refine Ext.setCell ?_ (by first | exact Nat.le_refl _ | (simp <;> omega)) _ | refine Ext.trans2 (by assumption) ?_)), ?_⟩; clear hK K; go_simp)) | (refine canon_efw ho5 rfl (by assumption) rfl rfl (fun K hK => ?_); go_simp; ((go_at_call 48; (with_reducible refine (hr0.out _).mono ?_); rintro e w2 ⟨rfl, hx2⟩; (obtain ⟨hc, hf, hk', hz⟩ := ecell hx2))); all_goals (refine hK _ _ ⟨(by repeat (first | exact Ext.refl _ | assumption | refine Ext.drew ?_ | refine Ext.drewN ?_ _ | refine Ext.iter ?_ _ _ | refine Ext.alloc ?_ _ | refine Ext.setCell ?_ (by first | exact Nat.le_refl _ | (simp <;> omega)) _ | refine Ext.trans2 (by assumption) ?_)), ?_⟩; clear hK K; go_simp)) | (refine canon_efw ho5 rfl (by assumption) rfl rfl (fun K hK => ?_); go_simp; ((go_at_call 62; (with_reducible refine (heq.out _ (HX.out.ext (hext.trans (by repeat (first | exact Ext.refl _ | assumption | refine Ext.drew ?_ | refine Ext.drewN ?_ _ | refine Ext.iter ?_ _ _ | refine Ext.alloc ?_ _ | refine Ext.setCell ?_ (by first | exact Nat.le_refl _ | (simp <;> omega)) _ | refine Ext.trans2 (by assumption) ?_))))).mono ?_); rintro e w3 ⟨⟨hP, rfl⟩ | ⟨hP, rfl⟩, n3, rfl⟩)); all_goals (refine hK _ _ ⟨(by repeat (first | exact Ext.refl _ | assumption | refine Ext.drew ?_ | refine Ext.drewN ?_ _ | refine Ext.iter ?_ _ _ | refine Ext.alloc ?_ _ | refine Ext.setCell ?_ (by first | exact Nat.le_refl _ | (simp <;> omega)) _ | refine Ext.trans2 (by assumption) ?_)), ?_⟩; clear hK K; go_simp))
        all_goals first | (refine canon_efu ho9 rfl (by assumption) rfl rfl (by first | assumption | exact (by repeat (first | exact Ext.refl _ | assumption | refine Ext.drew ?_ | refine Ext.drewN ?_ _ | refine Ext.iter ?_ _ _ | refine Ext.alloc ?_ _ | refine Ext.setCell ?_ (by first | exact Nat.le_refl _ | (simp <;> omega)) _ | refine Ext.trans2 (by assumption) ?_))) ?_; simp only [Act.put, List.setIfInBounds_toArray, List.set_cons_zero, List.set_cons_succ]) | (refine canon_efx ho9 rfl (by assumption) rfl rfl (by first | assumption | exact (by repeat (first | exact Ext.refl _ | assumption | refine Ext.drew ?_ | refine Ext.drewN ?_ _ | refine Ext.iter ?_ _ _ | refine Ext.alloc ?_ _ | refine Ext.setCell ?_ (by first | exact Nat.le_refl _ | (simp <;> omega)) _ | refine Ext.trans2 (by assumption) ?_))) ?_; simp only [Act.put, List.setIfInBounds_toArray, List.set_cons_zero, List.set_cons_succ]) | (refine canon_ef ho9 rfl (fun K hK => ?_); go_simp; ((go_at_call 48; (with_reducible refine (hr1.out _).mono ?_); rintro e w1 ⟨rfl, hx1⟩; (obtain ⟨hc, hf, hk', hz⟩ := ecell hx1))); all_goals (refine hK _ _ ⟨(by repeat (first | exact Ext.refl _ | assumption | refine Ext.drew ?_ | refine Ext.drewN ?_ _ | refine Ext.iter ?_ _ _ | refine Ext.alloc ?_ _ | refine Ext.setCell ?_ (by first | exact Nat.le_refl _ | (simp <;> omega)) _ | refine Ext.trans2 (by assumption) ?_)), ?_⟩; clear hK K; go_simp)) | (refine canon_ef ho9 rfl (fun K hK => ?_); go_simp; ((go_at_call 48; (with_reducible refine (hr0.out _).mono ?_); rintro e w2 ⟨rfl, hx2⟩; (obtain ⟨hc, hf, hk', hz⟩ := ecell hx2))); all_goals (refine hK _ _ ⟨(by repeat (first | exact Ext.refl _ | assumption | refine Ext.drew ?_ | refine Ext.drewN ?_ _ | refine Ext.iter ?_ _ _ | refine Ext.alloc ?_ _ | refine Ext.setCell ?_ (by first | exact Nat.le_refl _ | (simp <;> omega)) _ | refine Ext.trans2 (by assumption) ?_)), ?_⟩; clear hK K; go_simp)) | (refine canon_ef ho9 rfl (fun K hK => ?_); go_simp; ((go_at_call 62; (with_reducible refine (heq.out _ (HX.out.ext (hext.trans (by repeat (first | exact Ext.refl _ | assumption | refine Ext.drew ?_ | refine Ext.drewN ?_ _ | refine Ext.iter ?_ _ _ | refine Ext.alloc ?_ _ | refine Ext.setCell ?_ (by first | exact Nat.le_refl _ | (simp <;> omega)) _ | refine Ext.trans2 (by assumption) ?_))))).mono ?_); rintro e w3 ⟨⟨hP, rfl⟩ | ⟨hP, rfl⟩, n3, rfl⟩)); all_goals (refine hK _ _ ⟨(by repeat (first | exact Ext.refl _ | assumption | refine Ext.drew ?_ | refine Ext.drewN ?_ _ | refine Ext.iter ?_ _ _ | refine Ext.alloc ?_ _ | refine Ext.setCell ?_ (by first | exact Nat.le_refl _ | (simp <;> omega)) _ | refine Ext.trans2 (by assumption) ?_)), ?_⟩; clear hK K; go_simp)) | (refine canon_efw ho9 rfl (by assumption) rfl rfl (fun K hK => ?_); go_simp; ((go_at_call 48; (with_reducible refine (hr1.out _).mono ?_); rintro e w1 ⟨rfl, hx1⟩; (obtain ⟨hc, hf, hk', hz⟩ := ecell hx1))); all_goals (refine hK _ _ ⟨(by repeat (first | exact Ext.refl _ | assumption | refine Ext.drew ?_ | refine Ext.drewN ?_ _ | refine Ext.iter ?_ _ _ | refine Ext.alloc ?_ _ | refine Ext.setCell ?_ (by first | exact Nat.le_refl _ | (simp <;> omega)) _ | refine Ext.trans2 (by assumption) ?_)), ?_⟩; clear hK K; go_simp)) | (refine canon_efw ho9 rfl (by assumption) rfl rfl (fun K hK => ?_); go_simp; ((go_at_call 48; (with_reducible refine (hr0.out _).mono ?_); rintro e w2 ⟨rfl, hx2⟩; (obtain ⟨hc, hf, hk', hz⟩ := ecell hx2))); all_goals (refine hK _ _ ⟨(by repeat (first | exact Ext.refl _ | assumption | refine Ext.drew ?_ | refine Ext.drewN ?_ _ | refine Ext.iter ?_ _ _ | refine Ext.alloc ?_ _ | refine Ext.setCell ?_ (by first | exact Nat.le_refl _ | (simp <;> omega)) _ | refine Ext.trans2 (by assumption) ?_)), ?_⟩; clear hK K; go_simp)) | (refine canon_efw ho9 rfl (by assumption) rfl rfl (fun K hK => ?_); go_simp; ((go_at_call 62; (with_reducible refine (heq.out _ (HX.out.ext (hext.trans (by repeat (first | exact Ext.refl _ | assumption | refine Ext.drew ?_ | refine Ext.drewN ?_ _ | refine Ext.iter ?_ _ _ | refine Ext.alloc ?_ _ | refine Ext.setCell ?_ (by first | exact Nat.le_refl _ | (simp <;> omega)) _ | refine Ext.trans2 (by assumption) ?_))))).mono ?_); rintro e w3 ⟨⟨hP, rfl⟩ | ⟨hP, rfl⟩, n3, rfl⟩)); all_goals (refine hK _ _ ⟨(by repeat (first | exact Ext.refl _ | assumption | refine Ext.drew ?_ | refine Ext.drewN ?_ _ | refine Ext.iter ?_ _ _ | refine Ext.alloc ?_ _ | refine Ext.setCell ?_ (by first | exact Nat.le_refl _ | (simp <;> omega)) _ | refine Ext.trans2 (by assumption) ?_)), ?_⟩; clear hK K; go_simp))
        all_goals first | (refine canon_efu ho10 rfl (by assumption) rfl rfl (by first | assumption | exact (by repeat (first | exact Ext.refl _ | assumption | refine Ext.drew ?_ | refine Ext.drewN ?_ _ | refine Ext.iter ?_ _ _ | refine Ext.alloc ?_ _ | refine Ext.setCell ?_ (by first | exact Nat.le_refl _ | (simp <;> omega)) _ | refine Ext.trans2 (by assumption) ?_))) ?_; simp only [Act.put, List.setIfInBounds_toArray, List.set_cons_zero, List.set_cons_succ]) | (refine canon_efx ho10 rfl (by assumption) rfl rfl (by first | assumption | exact (by repeat (first | exact Ext.refl _ | assumption | refine Ext.drew ?_ | refine Ext.drewN ?_ _ | refine Ext.iter ?_ _ _ | refine Ext.alloc ?_ _ | refine Ext.setCell ?_ (by first | exact Nat.le_refl _ | (simp <;> omega)) _ | refine Ext.trans2 (by assumption) ?_))) ?_; simp only [Act.put, List.setIfInBounds_toArray, List.set_cons_zero, List.set_cons_succ]) | (refine canon_ef ho10 rfl (fun K hK => ?_); go_simp; ((go_at_call 48; (with_reducible refine (hr1.out _).mono ?_); rintro e w1 ⟨rfl, hx1⟩; (obtain ⟨hc, hf, hk', hz⟩ := ecell hx1))); all_goals (refine hK _ _ ⟨(by repeat (first | exact Ext.refl _ | assumption | refine Ext.drew ?_ | refine Ext.drewN ?_ _ | refine Ext.iter ?_ _ _ | refine Ext.alloc ?_ _ | refine Ext.setCell ?_ (by first | exact Nat.le_refl _ | (simp <;> omega)) _ | refine Ext.trans2 (by assumption) ?_)), ?_⟩; clear hK K; go_simp)) | (refine canon_ef ho10 rfl (fun K hK => ?_); go_simp; ((go_at_call 48; (with_reducible refine (hr0.out _).mono ?_); rintro e w2 ⟨rfl, hx2⟩; (obtain ⟨hc, hf, hk', hz⟩ := ecell hx2))); all_goals (refine hK _ _ ⟨(by repeat (first | exact Ext.refl _ | assumption | refine Ext.drew ?_ | refine Ext.drewN ?_ _ | refine Ext.iter ?_ _ _ | refine Ext.alloc ?_ _ | refine Ext.setCell ?_ (by first | exact Nat.le_refl _ | (simp <;> omega)) _ | refine Ext.trans2 (by assumption) ?_)), ?_⟩; clear hK K; go_simp)) | (refine canon_ef ho10 rfl (fun K hK => ?_); go_simp; ((go_at_call 62; (with_reducible refine (heq.out _ (HX.out.ext (hext.trans (by repeat (first | exact Ext.refl _ | assumption | refine Ext.drew ?_ | refine Ext.drewN ?_ _ | refine Ext.iter ?_ _ _ | refine Ext.alloc ?_ _ | refine Ext.setCell ?_ (by first | exact Nat.le_refl _ | (simp <;> omega)) _ | refine Ext.trans2 (by assumption) ?_))))).mono ?_); rintro e w3 ⟨⟨hP, rfl⟩ | ⟨hP, rfl⟩, n3, rfl⟩)); all_goals (refine hK _ _ ⟨(by repeat (first | exact Ext.refl _ | assumption | refine Ext.drew ?_ | refine Ext.drewN ?_ _ | refine Ext.iter ?_ _ _ | refine Ext.alloc ?_ _ | refine Ext.setCell ?_ (by first | exact Nat.le_refl _ | (simp <;> omega)) _ | refine Ext.trans2 (by assumption) ?_)), ?_⟩; clear hK K; go_simp)) | (refine canon_efw ho10 rfl (by assumption) rfl rfl (fun K hK => ?_); go_simp; ((go_at_call 48; (with_reducible refine (hr1.out _).mono ?_); rintro e w1 ⟨rfl, hx1⟩; (obtain ⟨hc, hf, hk', hz⟩ := ecell hx1))); all_goals (refine hK _ _ ⟨(by repeat (first | exact Ext.refl _ | assumption | refine Ext.drew ?_ | refine Ext.drewN ?_ _ | refine Ext.iter ?_ _ _ | refine Ext.alloc ?_ _ | refine Ext.setCell ?_ (by first | exact Nat.le_refl _ | (simp <;> omega)) _ | refine Ext.trans2 (by assumption) ?_)), ?_⟩; clear hK K; go_simp)) | (refine canon_efw ho10 rfl (by assumption) rfl rfl (fun K hK => ?_); go_simp; ((go_at_call 48; (with_reducible refine (hr0.out _).mono ?_); rintro e w2 ⟨rfl, hx2⟩; (obtain ⟨hc, hf, hk', hz⟩ := ecell hx2))); all_goals (refine hK _ _ ⟨(by repeat (first | exact Ext.refl _ | assumption | refine Ext.drew ?_ | refine Ext.drewN ?_ _ | refine Ext.iter ?_ _ _ | refine Ext.alloc ?_ _ | refine Ext.setCell ?_ (by first | exact Nat.le_refl _ | (simp <;> omega)) _ | refine Ext.trans2 (by assumption) ?_)), ?_⟩; clear hK K; go_simp)) | (refine canon_efw ho10 rfl (by assumption) rfl rfl (fun K hK => ?_); go_simp; ((go_at_call 62; (with_reducible refine (heq.out _ (HX.out.ext (hext.trans (by repeat (first | exact Ext.refl _ | assumption | refine Ext.drew ?_ | refine Ext.drewN ?_ _ | refine Ext.iter ?_ _ _ | refine Ext.alloc ?_ _ | refine Ext.setCell ?_ (by first | exact Nat.le_refl _ | (simp <;> omega)) _ | refine Ext.trans2 (by assumption) ?_))))).mono ?_); rintro e w3 ⟨⟨hP, rfl⟩ | ⟨hP, rfl⟩, n3, rfl⟩)); all_goals (refine hK _ _ ⟨(by repeat (first | exact Ext.refl _ | assumption | refine Ext.drew ?_ | refine Ext.drewN ?_ _ | refine Ext.iter ?_ _ _ | refine Ext.alloc ?_ _ | refine Ext.setCell ?_ (by first | exact Nat.le_refl _ | (simp <;> omega)) _ | refine Ext.trans2 (by assumption) ?_)), ?_⟩; clear hK K; go_simp))
        all_goals first | (apply canon_st ho11 rfl; (intro w2 hS; first | (go_simp; first | done | rfl) | rfl | (obtain ⟨hc, hf, hk', hz⟩ := ecell hS; go_simp; first | done | rfl)); simp only [Act.put, List.setIfInBounds_toArray, List.set_cons_zero, List.set_cons_succ]) | (refine canon_stu ho11 rfl (by assumption) rfl rfl ?_; simp only [Act.put, List.setIfInBounds_toArray, List.set_cons_zero, List.set_cons_succ]) | (refine canon_stx ho11 rfl (by assumption) rfl rfl ?_; simp only [Act.put, List.setIfInBounds_toArray, List.set_cons_zero, List.set_cons_succ]) | (refine canon_stw (v := ?_) ho11 rfl (by assumption) rfl rfl ?_ ?_; rotate_left 1; (intro w2 hS; first | (go_simp; first | done | rfl) | rfl | (obtain ⟨hc, hf, hk', hz⟩ := ecell hS; go_simp; first | done | rfl)); simp only [Act.put, List.setIfInBounds_toArray, List.set_cons_zero, List.set_cons_succ])
        all_goals clear ho0 ho1 ho2 ho3 ho4 ho5 ho6 ho7 ho8 ho9 ho10 ho11
        all_goals refine canon_done (NoPanic.normal ?_)
        · have hE3 : Ext wr ((w2.drewN n3)) := (by repeat (first | exact Ext.refl _ | assumption | refine Ext.drew ?_ | refine Ext.drewN ?_ _ | refine Ext.iter ?_ _ _ | refine Ext.alloc ?_ _ | refine Ext.setCell ?_ (by first | exact Nat.le_refl _ | (simp <;> omega)) _ | refine Ext.trans2 (by assumption) ?_))
          have hown3 := hown.ext hE3
          have hbr3 := hbr.ext hE3
          obtain ⟨g, c3, rfl, hg, hgl, z0, z1, hgc, hset⟩ := hown3.stored (k := n) (by have := hn.out; omega)
          have hst := hst1.out hP
          replace hst : bandsTo C xs (k + 1) = L.set n (L.getD n 0 + 1) := by rw [hst, incLast, hn.out]; rfl
          have hst := Lib.hid hst
          have hset := Lib.hid (hset (L.getD n 0 + 1))
          generalize L.getD n 0 = x at *
          clear hown hown3
          go_wp2
          go_roundw
          case rel => exact ⟨k + 1, hlt, by go_num, by rw [hst.out]; exact hset.out, hbr3.far (by omega) _, (hext.trans hE3).setCell (by show w.heap.size ≤ g; omega) _⟩
          case measure => simp [intOf]; omega
        · have hE3 : Ext wr ((w2.drewN n3)) := (by repeat (first | exact Ext.refl _ | assumption | refine Ext.drew ?_ | refine Ext.drewN ?_ _ | refine Ext.iter ?_ _ _ | refine Ext.alloc ?_ _ | refine Ext.setCell ?_ (by first | exact Nat.le_refl _ | (simp <;> omega)) _ | refine Ext.trans2 (by assumption) ?_))
          have hown3 := hown.ext hE3
          have hbr3 := hbr.ext hE3
          have hst := Lib.hid (hst0.out hP)
          have hz3 := hbr3.lt
          clear hown f0 f1 f2 fl
          generalize w2.drewN n3 = wd at *
          go_wp2_with (at_builtin; go_loud (refine append1I hown3 (by omega) (by omega) ?_ rfl rfl); intro v1 w4 hown4 hb4)
          go_roundw
          case rel => exact ⟨k + 1, hlt, by go_num, by rw [hst.out]; exact hown4, hbr3.low hb4 (by omega), (hext.trans hE3).low hb4 (by omega)⟩
          case measure => simp [intOf]; omega
    · obtain rfl : k = R := by omega
      go_wp2
      go_ret
      exact ⟨⟨_, rfl, hown.mono (by omega)⟩, hext⟩
end Go.Proofs.YthpnkcamjcohgaaGreatDoor

/-! Bands, as the reference computes them. -/
namespace Go.Proofs.YthpnkcamjcohgaaGreatDoor
set_option linter.unusedVariables false
set_option linter.unusedSimpArgs false
open Go.RowKit

theorem RowI.grew {B : Nat} {v1 v1' v2 : Value} {w w' : World} {ys : List Int} (h : RowI B w v2 ys) (hg : Grew v1 w w' v1') (ht : ∀ k, v2.ownBlock = some k → v1.ownBlock ≠ some k) : RowI B w' v2 ys := by
  refine ⟨h.1, ?_⟩
  rcases h.2 with h2 | ⟨g, cap, cur, hv, hb, hh, r⟩
  · exact .inl h2
  · exact .inr ⟨g, cap, cur, hv, hb, by rw [hg.by_.block g (Array.getElem?_eq_some_iff.1 hh).1 (fun e => ht g (by rw [hv]; rfl) e.symm)]; exact hh, r⟩
theorem RowI.apart {B : Nat} {v1 v1' v2 : Value} {w w' : World} {ys : List Int} (h : RowI B w v2 ys) (hg : Grew v1 w w' v1') (ht : ∀ k, v2.ownBlock = some k → v1.ownBlock ≠ some k) : ∀ k, v2.ownBlock = some k → v1'.ownBlock ≠ some k := fun k hk e => by
  rcases hg.own k e with h2 | h2
  · exact ht k hk h2
  · have := (h.lt k hk).2; omega
theorem RowI.setOther {B : Nat} {v : Value} {w : World} {ys : List Int} {g i : Nat} {u : Value} (h : RowI B w v ys) (hg : v.ownBlock ≠ some g) : RowI B (w.setCell ⟨g, i, none⟩ u) v ys := by
  refine ⟨h.1, ?_⟩
  rcases h.2 with h2 | ⟨g', cap, cur, hv, hb, hh, r⟩
  · exact .inl h2
  · exact .inr ⟨g', cap, cur, hv, hb, by rw [Below.heap_setCell w ⟨g, i, none⟩ u g' (fun e => hg (by rw [hv, e]; rfl))]; exact hh, r⟩
end Go.Proofs.YthpnkcamjcohgaaGreatDoor

/-! BandsOf. -/
namespace Go.Proofs.YthpnkcamjcohgaaGreatDoor
set_option linter.unusedVariables false
set_option linter.unusedSimpArgs false
open Go.RowKit

theorem jcV_ok {r c : Int} {xs : List Int} (h : jcV r c xs = 0) : gridOK r c xs := by
  unfold jcV at h
  split at h
  · omega
  · rename_i h1
    exact Classical.not_not.1 h1
theorem grid_nat {r c : Int} {xs : List Int} (h : gridOK r c xs) : ∃ R C : Nat, r = R ∧ c = C ∧ 1 ≤ R ∧ 1 ≤ C ∧ R * C ≤ 40000 ∧ xs.length = R * C := by
  obtain ⟨h1, h2, h3, h4, _⟩ := h
  refine ⟨r.toNat, c.toNat, by omega, by omega, by omega, by omega, ?_, ?_⟩
  · have : ((r.toNat * c.toNat : Nat) : Int) = r * c := by rw [Int.natCast_mul, Int.toNat_of_nonneg (by omega), Int.toNat_of_nonneg (by omega)]
    omega
  · have : ((r.toNat * c.toNat : Nat) : Int) = r * c := by rw [Int.natCast_mul, Int.toNat_of_nonneg (by omega), Int.toNat_of_nonneg (by omega)]
    omega
/-- A list and a code given back. -/
def LC2 (B : Nat) (L : List Int) (code : Int) (e : Ending) (w' : World) : Prop := ∃ p c, e = .returned (.tuple #[.slice p L.length c, .int .i64 code]) ∧ OwnInts B w' p L
theorem LC2.of {B : Nat} {L : List Int} {code : Int} {w : World} {v : Value} (h : RowI B w v L) : LC2 B L code (.returned (.tuple #[v, .int .i64 code])) w := by
  obtain ⟨p, c, rfl, ho⟩ := h.own
  exact ⟨p, c, rfl, ho⟩
end Go.Proofs.YthpnkcamjcohgaaGreatDoor
