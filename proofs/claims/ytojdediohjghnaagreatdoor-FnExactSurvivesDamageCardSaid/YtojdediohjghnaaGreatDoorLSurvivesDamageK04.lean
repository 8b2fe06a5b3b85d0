/- Grids: validity, known cells, rows. -/
import Derived.Test.YtojdediohjghnaaGreatDoorLSurvivesDamageK03
import Derived.Test.YtojdediohjghnaaGreatDoorLSurvivesDamageK02
import Derived.Test.YtojdediohjghnaaGreatDoorLSurvivesDamageK00
import Derived.Lib.SlBytesRow
set_option linter.unusedVariables false
set_option linter.unusedSimpArgs false
namespace Go.Proofs.YtojdediohjghnaaGreatDoor
open Go.RowKit

abbrev vGrid (r c : Int) (p : Option Addr) (n k : Nat) : Value := .agg #[.int .i64 r, .int .i64 c, .slice p n k]
def gridOK (r c : Int) (xs : List Int) : Prop := (1 ≤ r ∧ r ≤ 40000) ∧ (1 ≤ c ∧ c ≤ 40000) ∧ r * c ≤ 40000 ∧ (xs.length : Int) = r * c ∧ ∀ x ∈ xs, -1 ≤ x ∧ x ≤ 1
theorem take_all {P : Int → Prop} {xs : List Int} {k : Nat} (hlt : k < xs.length) (h : ∀ x ∈ xs.take k, P x) (hx : P (xs.getD k 0)) : ∀ x ∈ xs.take (k + 1), P x := fun x hm => by
 rw [List.take_add_one, List.mem_append] at hm
 rcases hm with hm | hm
 ·exact h x hm
 ·rw [List.getElem?_eq_getElem hlt] at hm
  simp at hm
  subst hm
  rw [List.getD_eq_getElem?_getD, List.getElem?_eq_getElem hlt] at hx
  exact hx
theorem at_all {P : Int → Prop} {xs : List Int} {k : Nat} (hlt : k < xs.length) (h : ∀ x ∈ xs, P x) : P (xs.getD k 0) := by
 rw [List.getD_eq_getElem?_getD, List.getElem?_eq_getElem hlt]
 exact h _ (List.getElem_mem _)
set_option maxHeartbeats 800000 in
set_option maxRecDepth 100000 in
theorem iIsGrid_c (r c : Int) (p : Option Addr) (k : Nat) (xs : List Int) (w : World) (hx : IntsAt w p xs) (hl : xs.length ≤ 1048576) :
  Calls Tryz.prog 114 #[vGrid r c p xs.length k] w fun e w' => isB e (gridOK r c xs) ∧ Ext w w' := by
 have HX := Lib.hid hx; clear hx
 have hb := Blk.new w #[.int .i64 r, .int .i64 c, .slice p xs.length k] 37
 have hx0 : Ext w (w.alloc (.cells #[.int .i64 r, .int .i64 c, .slice p xs.length k] 37)) := (Ext.refl w).alloc _
 by_cases h1 : 1 ≤ r ∧ r ≤ 40000
 ·by_cases h2 : 1 ≤ c ∧ c ≤ 40000
  ·obtain ⟨M, hM⟩ : ∃ M : Int, r * c = M := ⟨_, rfl⟩
   have hMb : 1 ≤ M ∧ M ≤ 1600000000 := by
    rw [← hM]
    have e1 : 1 * 1 ≤ r * c := Int.mul_le_mul (by omega) (by omega) (by omega) (by omega)
    have e2 : r * c ≤ 40000 * 40000 := Int.mul_le_mul (by omega) (by omega) (by omega) (by omega)
    omega
   have e1 := IntWalk.i64_in M (by omega)
   by_cases h3 : M ≤ 40000
   ·by_cases h4 : (xs.length : Int) = M
    ·have hn3 : ¬ 40000 < M := by omega
     have h4b : ((xs.length : Int) != M) = false := by simp [h4]
     have hok : gridOK r c xs ↔ ∀ x ∈ xs, -1 ≤ x ∧ x ≤ 1 := ⟨fun h => h.2.2.2.2, fun h => ⟨h1, h2, by rw [hM]; exact h3, by rw [hM]; exact h4, h⟩⟩
     have hok := Lib.hid hok
     have h4 := Lib.hid h4
     generalize gridOK r c xs = OK at *
     go_enter Tryz.func114, Tryz.ntmps114
     go_wp2_with (first | (go_at_call 85; (with_reducible refine (inRange_c _ _ _ _).mono ?_); rintro e w1 ⟨⟨hP, rfl⟩ | ⟨hP, rfl⟩, rfl⟩ <;> first | (exfalso; omega) | skip))
     generalize w.alloc (.cells #[.int .i64 r, .int .i64 c, .slice p xs.length k] 37) = w0 at *
     clear e1 h4b hn3
     go_loopw [37] (fun i wr => ∃ j : Nat, j ≤ xs.length ∧ i = .int .i64 j ∧ Hid (∀ x ∈ xs.take j, -1 ≤ x ∧ x ≤ 1) ∧ Ext w0 wr) (fun i _ => xs.length - (intOf i).toNat)
     case atStart => exact ⟨0, Nat.zero_le _, rfl, Lib.hid (by simp), eX⟩
     case round =>
      obtain ⟨j, hj, rfl, hT, hext⟩ := hrel
      have hbr := hb.ext hext
      have f0 := hbr.cell (i := 0) (v := .int .i64 r) rfl
      have f1 := hbr.cell (i := 1) (v := .int .i64 c) rfl
      have f2 := hbr.cell (i := 2) (v := .slice p xs.length k) rfl
      have fl := hbr.lt
      by_cases hlt : j < xs.length
      ·obtain ⟨b, o, rfl, hbl, z1⟩ := (HX.out.ext (hx0.trans hext)) j hlt
       have hst := fun h2 => take_all (P := fun x => -1 ≤ x ∧ x ≤ 1) hlt hT.out h2
       have hat := fun (h : ∀ x ∈ xs, -1 ≤ x ∧ x ≤ 1) => at_all hlt h
       generalize xs.getD j 0 = x at *
       have hst := Lib.hid hst
       have hat := Lib.hid hat
       go_wp2_with ((go_at_call 85; (with_reducible refine (inRange_c _ _ _ _).mono ?_); rintro e w1 ⟨⟨hP, rfl⟩ | ⟨hP, rfl⟩, rfl⟩))
       ·go_roundw
        case rel => exact ⟨j + 1, hlt, by go_num, Lib.hid (hst.out hP), hext⟩
        case measure => simp [intOf]; omega
       ·go_ret
        exact ⟨isB_f (fun h => hP (hat.out (hok.out.1 h))), hx0.trans hext⟩
      ·obtain rfl : j = xs.length := by omega
       go_wp2
       go_ret
       exact ⟨isB_t (hok.out.2 fun x hm => hT.out x (by rwa [List.take_length])), hx0.trans hext⟩
    ·have hn3 : ¬ 40000 < M := by omega
     have h4b : ((xs.length : Int) != M) = true := by simpa using h4
     have hno := Lib.hid (show ¬ gridOK r c xs from fun h => h4 (by rw [← hM]; exact h.2.2.2.1))
     clear h4
     go_enter Tryz.func114, Tryz.ntmps114
     go_wp2_with (first | (go_at_call 85; (with_reducible refine (inRange_c _ _ _ _).mono ?_); rintro e w1 ⟨⟨hP, rfl⟩ | ⟨hP, rfl⟩, rfl⟩ <;> first | (exfalso; omega) | skip))
     go_ret
     exact ⟨isB_f hno.out, eX⟩
   ·have hn3 : 40000 < M := by omega
    have hno := Lib.hid (show ¬ gridOK r c xs from fun h => h3 (by rw [← hM]; exact h.2.2.1))
    clear h3
    go_enter Tryz.func114, Tryz.ntmps114
    go_wp2_with (first | (go_at_call 85; (with_reducible refine (inRange_c _ _ _ _).mono ?_); rintro e w1 ⟨⟨hP, rfl⟩ | ⟨hP, rfl⟩, rfl⟩ <;> first | (exfalso; omega) | skip))
    go_ret
    exact ⟨isB_f hno.out, eX⟩
  ·have hno := Lib.hid (show ¬ gridOK r c xs from fun h => h2 h.2.1)
   go_enter Tryz.func114, Tryz.ntmps114
   go_wp2_with (first | (go_at_call 85; (with_reducible refine (inRange_c _ _ _ _).mono ?_); rintro e w1 ⟨⟨hP, rfl⟩ | ⟨hP, rfl⟩, rfl⟩ <;> first | (exfalso; omega) | skip))
   go_ret
   exact ⟨isB_f hno.out, eX⟩
 ·have hno := Lib.hid (show ¬ gridOK r c xs from fun h => h1 h.1)
  go_enter Tryz.func114, Tryz.ntmps114
  go_wp2_with (first | (go_at_call 85; (with_reducible refine (inRange_c _ _ _ _).mono ?_); rintro e w1 ⟨⟨hP, rfl⟩ | ⟨hP, rfl⟩, rfl⟩ <;> first | (exfalso; omega) | skip))
  go_ret
  exact ⟨isB_f hno.out, eX⟩
set_option maxHeartbeats 800000 in
set_option maxRecDepth 100000 in
theorem sIsGrid_c (r c : Int) (p : Option Addr) (k : Nat) (xs : List Int) (w : World) (hx : IntsAt w p xs) (hl : xs.length ≤ 1048576) :
  Calls Tryz.prog 106 #[vGrid r c p xs.length k] w fun e w' => isB e (gridOK r c xs) ∧ Ext w w' := by
 have HX := Lib.hid hx; clear hx
 have hb := Blk.new w #[.int .i64 r, .int .i64 c, .slice p xs.length k] 37
 have hx0 : Ext w (w.alloc (.cells #[.int .i64 r, .int .i64 c, .slice p xs.length k] 37)) := (Ext.refl w).alloc _
 by_cases h1 : 1 ≤ r ∧ r ≤ 40000
 ·by_cases h2 : 1 ≤ c ∧ c ≤ 40000
  ·obtain ⟨M, hM⟩ : ∃ M : Int, r * c = M := ⟨_, rfl⟩
   have hMb : 1 ≤ M ∧ M ≤ 1600000000 := by
    rw [← hM]
    have e1 : 1 * 1 ≤ r * c := Int.mul_le_mul (by omega) (by omega) (by omega) (by omega)
    have e2 : r * c ≤ 40000 * 40000 := Int.mul_le_mul (by omega) (by omega) (by omega) (by omega)
    omega
   have e1 := IntWalk.i64_in M (by omega)
   by_cases h3 : M ≤ 40000
   ·by_cases h4 : (xs.length : Int) = M
    ·have hn3 : ¬ 40000 < M := by omega
     have h4b : ((xs.length : Int) != M) = false := by simp [h4]
     have hok : gridOK r c xs ↔ ∀ x ∈ xs, -1 ≤ x ∧ x ≤ 1 := ⟨fun h => h.2.2.2.2, fun h => ⟨h1, h2, by rw [hM]; exact h3, by rw [hM]; exact h4, h⟩⟩
     have hok := Lib.hid hok
     have h4 := Lib.hid h4
     generalize gridOK r c xs = OK at *
     go_enter Tryz.func106, Tryz.ntmps106
     go_wp2_with (first | (go_at_call 37; (with_reducible refine (l01In_c _ _ _ _).mono ?_); rintro e w1 ⟨⟨hP, rfl⟩ | ⟨hP, rfl⟩, rfl⟩ <;> first | (exfalso; omega) | skip))
     generalize w.alloc (.cells #[.int .i64 r, .int .i64 c, .slice p xs.length k] 37) = w0 at *
     clear e1 h4b hn3
     go_loopw [3] (fun i wr => ∃ j : Nat, j ≤ xs.length ∧ i = .int .i64 j ∧ Hid (∀ x ∈ xs.take j, -1 ≤ x ∧ x ≤ 1) ∧ Ext w0 wr) (fun i _ => xs.length - (intOf i).toNat)
     case atStart => exact ⟨0, Nat.zero_le _, rfl, Lib.hid (by simp), eX⟩
     case round =>
      obtain ⟨j, hj, rfl, hT, hext⟩ := hrel
      have hbr := hb.ext hext
      have f0 := hbr.cell (i := 0) (v := .int .i64 r) rfl
      have f1 := hbr.cell (i := 1) (v := .int .i64 c) rfl
      have f2 := hbr.cell (i := 2) (v := .slice p xs.length k) rfl
      have fl := hbr.lt
      by_cases hlt : j < xs.length
      ·obtain ⟨b, o, rfl, hbl, z1⟩ := (HX.out.ext (hx0.trans hext)) j hlt
       have hst := fun h2 => take_all (P := fun x => -1 ≤ x ∧ x ≤ 1) hlt hT.out h2
       have hat := fun (h : ∀ x ∈ xs, -1 ≤ x ∧ x ≤ 1) => at_all hlt h
       generalize xs.getD j 0 = x at *
       have hst := Lib.hid hst
       have hat := Lib.hid hat
       go_wp2_with ((go_at_call 37; (with_reducible refine (l01In_c _ _ _ _).mono ?_); rintro e w1 ⟨⟨hP, rfl⟩ | ⟨hP, rfl⟩, rfl⟩))
       ·go_roundw
        case rel => exact ⟨j + 1, hlt, by go_num, Lib.hid (hst.out hP), hext⟩
        case measure => simp [intOf]; omega
       ·go_ret
        exact ⟨isB_f (fun h => hP (hat.out (hok.out.1 h))), hx0.trans hext⟩
      ·obtain rfl : j = xs.length := by omega
       go_wp2
       go_ret
       exact ⟨isB_t (hok.out.2 fun x hm => hT.out x (by rwa [List.take_length])), hx0.trans hext⟩
    ·have hn3 : ¬ 40000 < M := by omega
     have h4b : ((xs.length : Int) != M) = true := by simpa using h4
     have hno := Lib.hid (show ¬ gridOK r c xs from fun h => h4 (by rw [← hM]; exact h.2.2.2.1))
     clear h4
     go_enter Tryz.func106, Tryz.ntmps106
     go_wp2_with (first | (go_at_call 37; (with_reducible refine (l01In_c _ _ _ _).mono ?_); rintro e w1 ⟨⟨hP, rfl⟩ | ⟨hP, rfl⟩, rfl⟩ <;> first | (exfalso; omega) | skip))
     go_ret
     exact ⟨isB_f hno.out, eX⟩
   ·have hn3 : 40000 < M := by omega
    have hno := Lib.hid (show ¬ gridOK r c xs from fun h => h3 (by rw [← hM]; exact h.2.2.1))
    clear h3
    go_enter Tryz.func106, Tryz.ntmps106
    go_wp2_with (first | (go_at_call 37; (with_reducible refine (l01In_c _ _ _ _).mono ?_); rintro e w1 ⟨⟨hP, rfl⟩ | ⟨hP, rfl⟩, rfl⟩ <;> first | (exfalso; omega) | skip))
    go_ret
    exact ⟨isB_f hno.out, eX⟩
  ·have hno := Lib.hid (show ¬ gridOK r c xs from fun h => h2 h.2.1)
   go_enter Tryz.func106, Tryz.ntmps106
   go_wp2_with (first | (go_at_call 37; (with_reducible refine (l01In_c _ _ _ _).mono ?_); rintro e w1 ⟨⟨hP, rfl⟩ | ⟨hP, rfl⟩, rfl⟩ <;> first | (exfalso; omega) | skip))
   go_ret
   exact ⟨isB_f hno.out, eX⟩
 ·have hno := Lib.hid (show ¬ gridOK r c xs from fun h => h1 h.1)
  go_enter Tryz.func106, Tryz.ntmps106
  go_wp2_with (first | (go_at_call 37; (with_reducible refine (l01In_c _ _ _ _).mono ?_); rintro e w1 ⟨⟨hP, rfl⟩ | ⟨hP, rfl⟩, rfl⟩ <;> first | (exfalso; omega) | skip))
  go_ret
  exact ⟨isB_f hno.out, eX⟩
set_option maxRecDepth 100000 in
theorem l05Has_c (p : Option Addr) (k : Nat) (n : Int) (xs : List Int) (w : World) (hx : IntsAt w p xs) (hl : xs.length ≤ 1048576) :
  Calls Tryz.prog 34 #[.slice p xs.length k, .int .i64 n] w fun e w' => isB e (n ∈ xs) ∧ Ext w w' := by
 have HX := Lib.hid hx; clear hx
 go_enter Tryz.func34, Tryz.ntmps34
 go_wp2
 go_loopw [5] (fun i wr => ∃ j : Nat, j ≤ xs.length ∧ i = .int .i64 j ∧ Hid (¬ n ∈ xs.take j) ∧ Ext w wr) (fun i _ => xs.length - (intOf i).toNat)
 case atStart => exact ⟨0, Nat.zero_le _, rfl, Lib.hid (by simp), eX⟩
 case round =>
  obtain ⟨j, hj, rfl, hT, hext⟩ := hrel
  by_cases hlt : j < xs.length
  ·obtain ⟨b, o, rfl, hbl, z1⟩ := (HX.out.ext hext) j hlt
   have hst : xs.getD j 0 ≠ n → ¬ n ∈ xs.take (j + 1) := fun h => by
    have := take_all (P := fun x => x ≠ n) hlt (fun x hm e => hT.out (by rw [← e]; exact hm)) h
    exact fun hm => this n hm rfl
   have hat : xs.getD j 0 = n → n ∈ xs := fun h => by
    rw [← h, List.getD_eq_getElem?_getD, List.getElem?_eq_getElem hlt]
    exact List.getElem_mem _
   generalize xs.getD j 0 = x at *
   have hst := Lib.hid hst
   have hat := Lib.hid hat
   by_cases h0 : x = n
   ·have hd : (x == n) = true := by simpa using h0
    replace h0 := Lib.hid h0
    go_wp2
    go_ret
    exact ⟨isB_t (hat.out h0.out), hext⟩
   ·have hd : (x == n) = false := by simpa using h0
    replace h0 := Lib.hid h0
    go_wp2
    go_roundw
    case rel => exact ⟨j + 1, hlt, by go_num, Lib.hid (hst.out h0.out), hext⟩
    case measure => simp [intOf]; omega
  ·obtain rfl : j = xs.length := by omega
   go_wp2
   go_ret
   exact ⟨isB_f (fun h => hT.out (by rwa [List.take_length])), hext⟩
open Go.RowKit

set_option maxRecDepth 100000 in
theorem l05Same_c (p q : Option Addr) (c d : Nat) (xs ys : List Int) (w : World) (hx : IntsAt w p xs) (hy : IntsAt w q ys) (hl : xs.length ≤ 1099511627776) (hl2 : ys.length ≤ 1099511627776) :
  Calls Tryz.prog 192 #[.slice p xs.length c, .slice q ys.length d] w fun e w' => isB e (xs = ys) ∧ ∃ n, w' = w.drewN n := by
 by_cases hlen : xs.length = ys.length
 ·have HL := Lib.hid hlen
  have hl3 : (((xs.length : Int)) != ys.length) = false := by simp [hlen]
  clear hlen
  go_enter Tryz.func192, Tryz.ntmps192
  go_wp2
  go_loopw [5] (fun i wr => ∃ k : Nat, k ≤ xs.length ∧ i = .int .i64 k ∧ Hid (xs.take k = ys.take k) ∧ ∃ n, wr = w.drewN n) (fun i _ => xs.length - (intOf i).toNat)
  case atStart => exact ⟨0, Nat.zero_le _, rfl, rfl, 0, rfl⟩
  case round =>
   obtain ⟨k, hk, rfl, HE, n, rfl⟩ := hrel
   by_cases hlt : k < xs.length
   ·have hlt2 : k < ys.length := by have := HL.out; omega
    obtain ⟨b, o, rfl, _, h1⟩ := hx k hlt
    obtain ⟨b2, o2, rfl, _, h2⟩ := hy k hlt2
    clear hx hy
    go_wp2
    go_quiet (fail)
    go_wp2
    ·have hne : xs[k] ≠ ys[k] := by simpa using (by assumption : (xs[k] != ys[k]) = true)
     go_ret
     exact ⟨isB_f (fun h => hne (by subst h; rfl)), n + nq, World.drewN_drewN ..⟩
    ·have he : xs[k] = ys[k] := by simpa using (by assumption : (xs[k] != ys[k]) = false)
     go_roundw
     case rel => exact ⟨k + 1, hlt, by go_num, by show _ = _; rw [List.take_succ_eq_append_getElem hlt, List.take_succ_eq_append_getElem hlt2, HE.out, he], n + nq, by simp⟩
     case measure => simp [intOf]; omega
   ·clear hx hy
    go_wp2
    go_ret
    refine ⟨isB_t ?_, _, rfl⟩
    have h1 := HE.out
    have h2 := HL.out
    rwa [List.take_of_length_le (by omega), List.take_of_length_le (by omega)] at h1
 ·have hl3 : (((xs.length : Int)) != ys.length) = true := by simp; omega
  clear hx hy
  have HL := Lib.hid hlen; clear hlen
  go_enter Tryz.func192, Tryz.ntmps192
  go_wp2
  go_ret
  exact ⟨isB_f (fun h => HL.out (by rw [h])), 0, rfl⟩
def rowL (c : Nat) (xs : List Int) (k : Nat) : List Int := (xs.drop (k * c)).take c
theorem rowL_len {c : Nat} {xs : List Int} {k n : Nat} (h : xs.length = n * c) (hk : k < n) : (rowL c xs k).length = c := by
 have : (k + 1) * c ≤ n * c := Nat.mul_le_mul_right _ hk
 rw [Nat.add_mul, Nat.one_mul] at this
 simp only [rowL, List.length_take, List.length_drop]
 omega
theorem rowL_at {c : Nat} {xs : List Int} {k n b o : Nat} {w : World} (h : xs.length = n * c) (hk : k < n) (hx : IntsAt w (some ⟨b, o, none⟩) xs) : IntsAt w (some ⟨b, o + k * c, none⟩) (rowL c xs k) := fun i hi => by
 rw [rowL_len h hk] at hi
 have h2 : (k + 1) * c ≤ n * c := Nat.mul_le_mul_right _ hk
 rw [Nat.add_mul, Nat.one_mul] at h2
 obtain ⟨b', o', e, hb, hc⟩ := hx (k * c + i) (by omega)
 simp at e
 obtain ⟨rfl, rfl⟩ := e
 refine ⟨b, _, rfl, hb, ?_⟩
 rw [Nat.add_assoc, hc]
 congr 2
 rw [List.getD_eq_getElem?_getD, List.getD_eq_getElem?_getD, rowL, List.getElem?_take_of_lt hi, List.getElem?_drop]
theorem RowI.stored {B : Nat} {w : World} {v : Value} {xs : List Int} (h : RowI B w v xs) {k : Nat} (hk : k < xs.length) :
  ∃ g c, v = .slice (some ⟨g, 0, none⟩) xs.length c ∧ B ≤ g ∧ g < w.heap.size ∧ w.cell? ⟨g, k, none⟩ = some (.int .i64 (xs.getD k 0)) ∧ w.frozen? ⟨g, k, none⟩ = false ∧ xs.length ≤ c ∧
   ∀ x : Int, RowI B (w.setCell ⟨g, k, none⟩ (.int .i64 x)) v (xs.set k x) := by
 rcases h.2 with ⟨_, hn⟩ | ⟨g, cap, cur, hv, hg, hh, hle, _⟩
 ·omega
 ·have h' : w.ownsRow B 2 1 (.slice (some ⟨g, 0, none⟩) xs.length cap) xs.length (xs.map (Value.int .i64)) := by rw [← hv]; exact h
  refine ⟨g, cap, hv, hg, (Array.getElem?_eq_some_iff.1 hh).1, ?_, h'.frozenAt _, hle, fun x => ?_⟩
  ·rw [h'.cellAt k (by omega), List.getElem?_map, List.getElem?_eq_getElem hk, List.getD_eq_getElem?_getD, List.getElem?_eq_getElem hk]
   rfl
  ·have h2 := (h'.stored k (.int .i64 x)).1
   unfold RowI
   rw [hv, List.length_set]
   rw [← List.map_set] at h2
   exact h2

open Go.RowKit

open Go.RowKit

theorem RowI.grew {B : Nat} {v1 v1' v2 : Value} {w w' : World} {ys : List Int} (h : RowI B w v2 ys) (hg : Grew v1 w w' v1') (ht : ∀ k, v2.ownBlock = some k → v1.ownBlock ≠ some k) : RowI B w' v2 ys := by
 refine ⟨h.1, ?_⟩
 rcases h.2 with h2 | ⟨g, cap, cur, hv, hb, hh, r⟩
 ·exact .inl h2
 ·exact .inr ⟨g, cap, cur, hv, hb, by rw [hg.by_.block g (Array.getElem?_eq_some_iff.1 hh).1 (fun e => ht g (by rw [hv]; rfl) e.symm)]; exact hh, r⟩
theorem RowI.apart {B : Nat} {v1 v1' v2 : Value} {w w' : World} {ys : List Int} (h : RowI B w v2 ys) (hg : Grew v1 w w' v1') (ht : ∀ k, v2.ownBlock = some k → v1.ownBlock ≠ some k) : ∀ k, v2.ownBlock = some k → v1'.ownBlock ≠ some k := fun k hk e => by
 rcases hg.own k e with h2 | h2
 ·exact ht k hk h2
 ·have := (h.lt k hk).2; omega
theorem RowI.setOther {B : Nat} {v : Value} {w : World} {ys : List Int} {g i : Nat} {u : Value} (h : RowI B w v ys) (hg : v.ownBlock ≠ some g) : RowI B (w.setCell ⟨g, i, none⟩ u) v ys := by
 refine ⟨h.1, ?_⟩
 rcases h.2 with h2 | ⟨g', cap, cur, hv, hb, hh, r⟩
 ·exact .inl h2
 ·exact .inr ⟨g', cap, cur, hv, hb, by rw [Below.heap_setCell w ⟨g, i, none⟩ u g' (fun e => hg (by rw [hv, e]; rfl))]; exact hh, r⟩
open Go.RowKit

theorem grid_nat {r c : Int} {xs : List Int} (h : gridOK r c xs) : ∃ R C : Nat, r = R ∧ c = C ∧ 1 ≤ R ∧ 1 ≤ C ∧ R * C ≤ 40000 ∧ xs.length = R * C := by
 obtain ⟨h1, h2, h3, h4, _⟩ := h
 refine ⟨r.toNat, c.toNat, by omega, by omega, by omega, by omega, ?_, ?_⟩
 ·have : ((r.toNat * c.toNat : Nat) : Int) = r * c := by rw [Int.natCast_mul, Int.toNat_of_nonneg (by omega), Int.toNat_of_nonneg (by omega)]
  omega
 ·have : ((r.toNat * c.toNat : Nat) : Int) = r * c := by rw [Int.natCast_mul, Int.toNat_of_nonneg (by omega), Int.toNat_of_nonneg (by omega)]
  omega
def LC2 (B : Nat) (L : List Int) (code : Int) (e : Ending) (w' : World) : Prop := ∃ p c, e = .returned (.tuple #[.slice p L.length c, .int .i64 code]) ∧ OwnInts B w' p L
theorem LC2.of {B : Nat} {L : List Int} {code : Int} {w : World} {v : Value} (h : RowI B w v L) : LC2 B L code (.returned (.tuple #[v, .int .i64 code])) w := by
 obtain ⟨p, c, rfl, ho⟩ := h.own
 exact ⟨p, c, rfl, ho⟩
end Go.Proofs.YtojdediohjghnaaGreatDoor
