
/- The reference's payload: bits filled up, elements. -/
import Derived.Test.YtnfbgjgchcgonaaChan
import Derived.Test.YtnfbgjgchcgonaaSRead
namespace Go.Proofs.Ytnfbgjgchcgonaa
set_option linter.unusedVariables false
set_option linter.unusedSimpArgs false
open Go.RowKit

theorem RowI.sl {B n : Nat} {w : World} {v : Value} {xs : List Int} (h : RowI B w v xs) (hn : xs.length = n) : ∃ p c, v = .slice p n c := by
  obtain ⟨p, c, hv, _⟩ := h.own
  exact ⟨p, c, by rw [hv, hn]⟩
set_option maxHeartbeats 800000 in
set_option maxRecDepth 100000 in
theorem sFill_c (p : Option Addr) (c : Nat) (xs : List Int) (room : Nat) (w : World) (hx : IntsAt w p xs) (hl : xs.length ≤ room) (hr : room ≤ 100000) :
    Calls Try.prog 102 #[.slice p xs.length c, .int .i64 room] w fun e w' => (∃ v, e = .returned v ∧ RowI w.heap.size w' v (padL xs room)) ∧ Ext w w' := by
  have HX := Lib.hid hx; clear hx
  obtain ⟨lf, hlf⟩ : ∃ lf : Nat, lf = room - xs.length := ⟨_, rfl⟩
  obtain ⟨en, hen⟩ : ∃ en : Nat, en = min lf 3 := ⟨_, rfl⟩
  obtain ⟨f, hf⟩ : ∃ f : Nat, f = lf - 3 := ⟨_, rfl⟩
  have hpad : padL xs room = xs ++ List.replicate en 0 ++ patL f := by unfold padL; rw [← hlf, ← hen, ← hf]
  have HPAD := Lib.hid hpad
  have hlen : xs.length + en + f = room := by omega
  have hen3 : en ≤ 3 := by omega
  have hen4 : en < 3 → f = 0 := by omega
  have HLEN := Lib.hid hlen; have HEN := Lib.hid hen4
  clear hpad hlf hen hf hlen hen4
  go_enter Try.func102, Try.ntmps102
  go_wp2_with (go_at_call 165; (with_reducible refine (sOwn_c p c xs _ (HX.out.ext (by repeat (first | exact Ext.refl _ | assumption | refine Ext.drew ?_ | refine Ext.drewN ?_ _ | refine Ext.iter ?_ _ _ | refine Ext.alloc ?_ _ | refine Ext.setCell ?_ (by first | exact Nat.le_refl _ | (simp <;> omega)) _ | refine Ext.trans2 (by assumption) ?_))) (by omega)).mono ?_); rintro e w1 ⟨⟨v1, rfl, hown⟩, hx1⟩)
  go_loopw [5, 6] (fun o i wr => ∃ (j : Nat) (v : Value), j ≤ en ∧ o = v ∧ i = .int .i64 j ∧ RowI w.heap.size wr v (xs ++ List.replicate j 0) ∧ Ext w wr) (fun _ i _ => en - (intOf i).toNat)
  case atStart => exact ⟨0, _, Nat.zero_le _, rfl, rfl, by simpa using hown, hx1⟩
  case round =>
    clear hown hx1
    obtain ⟨j, v, hj, rfl, rfl, hown, hext⟩ := hrel
    obtain ⟨pp, cc, rfl⟩ := hown.sl (n := xs.length + j) (by simp)
    have hsz := hext.below.size
    have hL := HLEN.out
    by_cases hlt : j < en
    · have hd1 : (j : Int) < 3 := by omega
      have hd2 : (xs.length : Int) + j < room := by omega
      have hxl : (xs ++ List.replicate j (0 : Int)).length < 1099511627776 := by simp; omega
      clear hL
      have HREP := Lib.hid (show xs ++ List.replicate (j + 1) (0 : Int) = xs ++ List.replicate j 0 ++ [0] by rw [List.replicate_succ']; simp)
      go_wp2_with (at_builtin; go_loud (refine append1I hown hxl (by omega) ?_ rfl rfl); intro v1 w3 hown3 hb3)
      go_roundw
      case rel => exact ⟨j + 1, _, hlt, rfl, by go_num, by rw [HREP.out]; exact hown3, hext.low hb3 (Nat.le_refl _)⟩
      case measure => simp [intOf]; omega
    · obtain rfl : j = en := by omega
      have hstop : ¬ ((j : Int) < 3 ∧ (xs.length : Int) + j < room) := fun h => by
        have := HEN.out (by omega)
        omega
      clear hL
      by_cases h3 : j < 3
      case' pos => have hd2 : ¬ (xs.length : Int) + j < room := fun h => hstop ⟨by omega, h⟩
      case' neg => have hd1 : ¬ (j : Int) < 3 := by omega
      all_goals
        have HST := Lib.hid hstop; clear hstop
        go_wp2
        try clear hd2
        go_loopw [5, 7] (fun o i wr => ∃ (q : Nat) (v : Value), q ≤ f ∧ o = v ∧ i = .int .i64 q ∧ RowI w.heap.size wr v (xs ++ List.replicate j 0 ++ patL q) ∧ Ext w wr) (fun _ i _ => f - (intOf i).toNat)
        case atStart => exact ⟨0, _, Nat.zero_le _, rfl, rfl, by simpa [patL] using hown, hext⟩
        case round =>
          clear hown hext hsz
          obtain ⟨q, v, hq, rfl, rfl, hown, hext⟩ := hrel
          obtain ⟨pp, cc, rfl⟩ := hown.sl (n := xs.length + j + q) (by simp [patL]; omega)
          have hsz := hext.below.size
          have hL := HLEN.out
          by_cases hlt3 : q < f
          · have hd4 : (xs.length : Int) + j + q < room := by omega
            obtain ⟨u, m6, hu⟩ : ∃ u : Nat, u < 6 ∧ u = q % 6 := ⟨q % 6, Nat.mod_lt _ (by omega), rfl⟩
            have hqm : (q : Int) % 6 = u := by omega
            have hu6 : (u : Int) < 6 := by omega
            have hqt : (q : Int).tmod 6 = u := by rw [Int.tmod_eq_emod_of_nonneg (by omega)]; exact hqm
            obtain ⟨x, hv⟩ : ∃ x : Int, x = [1, 1, 0, 1, 0, 0].getD u 0 := ⟨_, rfl⟩
            have hnew := Blk.new wr #[.int .i64 1, .int .i64 1, .int .i64 0, .int .i64 1, .int .i64 0, .int .i64 0] 2
            have hcell : (wr.alloc (.cells #[.int .i64 1, .int .i64 1, .int .i64 0, .int .i64 1, .int .i64 0, .int .i64 0] 2)).cell? ⟨wr.heap.size, u, none⟩ = some (.int .i64 x) := by
              rw [hv]
              refine hnew.cell ?_
              have : u = 0 ∨ u = 1 ∨ u = 2 ∨ u = 3 ∨ u = 4 ∨ u = 5 := by omega
              rcases this with rfl | rfl | rfl | rfl | rfl | rfl <;> rfl
            have HPS := Lib.hid (show xs ++ List.replicate j 0 ++ patL (q + 1) = xs ++ List.replicate j 0 ++ patL q ++ [x] by rw [patL_succ, hv, hu]; simp)
            have hxl : (xs ++ List.replicate j (0 : Int) ++ patL q).length < 1099511627776 := by simp [patL]; omega
            have hown2 := hown.alloc (.cells #[.int .i64 1, .int .i64 1, .int .i64 0, .int .i64 1, .int .i64 0, .int .i64 0] 2)
            have hE2 := hext.alloc (.cells #[.int .i64 1, .int .i64 1, .int .i64 0, .int .i64 1, .int .i64 0, .int .i64 0] 2)
            clear hv hu hnew hL
            go_wp2_with (at_builtin; go_loud (refine append1I hown2 hxl (by simp; omega) ?_ rfl (by simp [Act.eval])); intro v1 w3 hown3 hb3)
            go_roundw
            case rel => exact ⟨q + 1, _, hlt3, rfl, by go_num, by rw [HPS.out]; exact hown3, hE2.low hb3 (Nat.le_refl _)⟩
            case measure => simp [intOf]; omega
          · obtain rfl : q = f := by omega
            have hd4 : ¬ (xs.length : Int) + j + q < room := by omega
            clear hL
            go_wp2
            go_ret
            exact ⟨⟨_, rfl, by rw [HPAD.out]; exact hown⟩, hext⟩

/-- The numbers of wd bits each. -/
theorem sElements_c (p : Option Addr) (c wd : Nat) (xs : List Int) (w : World) (hx : IntsAt w p xs) (hb : ∀ x ∈ xs, x = 0 ∨ x = 1) (hwd : 1 ≤ wd ∧ wd ≤ 30) (hl : xs.length ≤ 100000) :
    Calls Try.prog 101 #[.int .i64 wd, .slice p xs.length c] w fun e w' => (∃ v, e = .returned v ∧ RowI w.heap.size w' v (elemsL wd xs)) ∧ Ext w w' := by
  have HX := Lib.hid hx; have HB := Lib.hid hb; clear hx hb
  have hrow := RowI.made (B := w.heap.size) (w := w) (Nat.le_refl _)
  have hx0 : Ext w (w.alloc (.cells #[] 2)) := (Ext.refl w).alloc _
  go_enter Try.func101, Try.ntmps101
  go_wp2
  go_loopw [5, 6] (fun o i wr => ∃ (m k : Nat), k = m * wd ∧ k ≤ xs.length ∧ i = .int .i64 k ∧ RowI w.heap.size wr o (elemsTo wd xs m) ∧ Ext w wr) (fun _ i _ => xs.length - (intOf i).toNat)
  case atStart => exact ⟨0, 0, by omega, by omega, rfl, by simpa [elemsTo] using hrow, hx0⟩
  case round =>
    clear hrow hx0
    obtain ⟨m, k, hk, hkl, rfl, hown, hext⟩ := hrel
    have hsz := hext.below.size
    by_cases hlt : k + wd ≤ xs.length
    · have hd : (k : Int) + wd ≤ xs.length := by omega
      have HK := Lib.hid (show k + wd = (m + 1) * wd by rw [Nat.add_mul]; omega)
      have HEL := Lib.hid (show elemsTo wd xs (m + 1) = elemsTo wd xs m ++ [numAt xs k wd] by rw [elemsTo_succ, hk])
      have hme : m < 1000000 := by
        have : m * 1 ≤ m * wd := Nat.mul_le_mul_left m hwd.1
        omega
      have HK0 := Lib.hid hk; clear hk
      go_wp2_with (first
        | (go_at_call 154; (with_reducible refine (l01Number_c p c xs k wd _ (HX.out.ext hext) (by omega) HB.out (by omega) hlt).mono ?_); rintro e w2 ⟨rfl, rfl⟩)
        | (at_builtin; go_loud (refine append1I hown (by rw [elemsTo_len]; omega) (by omega) ?_ rfl rfl); intro v1 w3 hown3 hb3))
      go_roundw
      case rel => exact ⟨m + 1, k + wd, HK.out, hlt, by go_num, by rw [HEL.out]; exact hown3, hext.low hb3 (Nat.le_refl _)⟩
      case measure => simp [intOf]; omega
    · have hd : ¬ (k : Int) + wd ≤ xs.length := by omega
      have hdiv : xs.length / wd = m := by
        rw [Nat.div_eq_iff (by omega)]
        have := hk
        rw [Nat.mul_comm] at this
        rw [Nat.mul_comm]
        omega
      have HF := Lib.hid (show elemsL wd xs = elemsTo wd xs m by unfold elemsL elemsTo; rw [hdiv])
      clear hdiv hk
      go_wp2
      go_ret
      exact ⟨⟨_, rfl, by rw [HF.out]; exact hown⟩, hext⟩
end Go.Proofs.Ytnfbgjgchcgonaa
