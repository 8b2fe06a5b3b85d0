
/- Prime numbers; the arithmetic of a field of prime size, found. -/
import Derived.Test.YtnfbgjgchcgonaaCalc2
namespace Go.Proofs.Ytnfbgjgchcgonaa
set_option linter.unusedVariables false
set_option linter.unusedSimpArgs false
open Go.RowKit

def isPr (n : Int) : Prop := ∀ d : Nat, 2 ≤ d → (d : Int) * d ≤ n → n % d ≠ 0

set_option maxRecDepth 100000 in
theorem isPrime_c (n : Int) (w : World) (hn : 3 ≤ n ∧ n ≤ 1021) : Calls Try.prog 160 #[.int .i64 n] w fun e w' => isB e (isPr n) ∧ w = w' := by
  go_enter Try.func160, Try.ntmps160
  go_wp2
  go_loop [3] (fun i => ∃ d : Nat, 2 ≤ d ∧ (d : Int) ≤ n ∧ i = .int .i64 d ∧ Hid (∀ e : Nat, 2 ≤ e → e < d → n % e ≠ 0)) (fun i => (n + 1 - intOf i).toNat)
  case atStart => exact ⟨2, by omega, by omega, rfl, Lib.hid (fun e h1 h2 => by omega)⟩
  case round =>
    obtain ⟨d, hd2, hdn, rfl, hR⟩ := hrel
    have hDa : 0 ≤ (d : Int) * d := Int.mul_nonneg (by omega) (by omega)
    have hDb : (d : Int) * d ≤ 1021 * 1021 := Int.mul_le_mul (by omega) (by omega) (by omega) (by omega)
    by_cases hlt : (d : Int) * d ≤ n
    · have hdlt : (d : Int) < n := by
        have h2 : 2 * (d : Int) ≤ d * d := Int.mul_le_mul_of_nonneg_right (by omega) (by omega)
        omega
      have hDD := hlt
      have e1 : (n).tmod (d : Int) = n % d := Int.tmod_eq_emod_of_nonneg (by omega)
      have hne : ¬ (d : Int) = 0 := by omega
      have hm := Int.emod_nonneg n hne
      have hm2 := Int.emod_lt_of_pos n (show (0 : Int) < d by omega)
      by_cases h0 : n % (d : Int) = 0
      · have hno : ¬ isPr n := fun h => h d hd2 hDD h0
        have HNO := Lib.hid hno; clear hno hR
        have h0' : (n % (d : Int) == 0) = true := by simpa using h0
        have h00 := Lib.hid h0; clear h0
        go_wp2
        go_ret
        exact ⟨isB_f HNO.out, rfl⟩
      · have hR2 : ∀ e : Nat, 2 ≤ e → e < d + 1 → n % e ≠ 0 := fun e h1 h2 => by
          rcases Nat.lt_or_ge e d with h | h
          · exact hR.out e h1 h
          · obtain rfl : e = d := by omega
            exact h0
        have HR2 := Lib.hid hR2; clear hR2 hR
        have h0' : (n % (d : Int) == 0) = false := by simpa using h0
        have h00 := Lib.hid h0; clear h0
        go_wp2
        go_round
        case rel => exact ⟨d + 1, by omega, by omega, by go_num, HR2⟩
        case measure => simp [intOf]; omega
    · have hyes : isPr n := fun e h1 h2 h3 => by
        rcases Nat.lt_or_ge e d with h | h
        · exact hR.out e h1 h h3
        · have : (d : Int) * d ≤ e * e := Int.mul_le_mul (by omega) (by omega) (by omega) (by omega)
          omega
      have HY := Lib.hid hyes; clear hyes hR
      have h2n : decide (2 ≤ n) = true := by simp; omega
      go_wp2
      go_ret
      exact ⟨isB_t HY.out, rfl⟩
set_option maxRecDepth 100000 in
theorem l02Prime_c (n : Int) (w : World) (hn : 3 ≤ n ∧ n ≤ 1021) : Calls Try.prog 156 #[.int .i64 n] w fun e w' => isB e (isPr n) ∧ w = w' := by
  go_enter Try.func156, Try.ntmps156
  go_wp2
  go_loop [3] (fun i => ∃ d : Nat, 2 ≤ d ∧ (d : Int) ≤ n ∧ i = .int .i64 d ∧ Hid (∀ e : Nat, 2 ≤ e → e < d → n % e ≠ 0)) (fun i => (n + 1 - intOf i).toNat)
  case atStart => exact ⟨2, by omega, by omega, rfl, Lib.hid (fun e h1 h2 => by omega)⟩
  case round =>
    obtain ⟨d, hd2, hdn, rfl, hR⟩ := hrel
    have hDa : 0 ≤ (d : Int) * d := Int.mul_nonneg (by omega) (by omega)
    have hDb : (d : Int) * d ≤ 1021 * 1021 := Int.mul_le_mul (by omega) (by omega) (by omega) (by omega)
    by_cases hlt : (d : Int) * d ≤ n
    · have hdlt : (d : Int) < n := by
        have h2 : 2 * (d : Int) ≤ d * d := Int.mul_le_mul_of_nonneg_right (by omega) (by omega)
        omega
      have hDD := hlt
      have e1 : (n).tmod (d : Int) = n % d := Int.tmod_eq_emod_of_nonneg (by omega)
      have hne : ¬ (d : Int) = 0 := by omega
      have hm := Int.emod_nonneg n hne
      have hm2 := Int.emod_lt_of_pos n (show (0 : Int) < d by omega)
      by_cases h0 : n % (d : Int) = 0
      · have hno : ¬ isPr n := fun h => h d hd2 hDD h0
        have HNO := Lib.hid hno; clear hno hR
        have h0' : (n % (d : Int) == 0) = true := by simpa using h0
        have h00 := Lib.hid h0; clear h0
        go_wp2
        go_ret
        exact ⟨isB_f HNO.out, rfl⟩
      · have hR2 : ∀ e : Nat, 2 ≤ e → e < d + 1 → n % e ≠ 0 := fun e h1 h2 => by
          rcases Nat.lt_or_ge e d with h | h
          · exact hR.out e h1 h
          · obtain rfl : e = d := by omega
            exact h0
        have HR2 := Lib.hid hR2; clear hR2 hR
        have h0' : (n % (d : Int) == 0) = false := by simpa using h0
        have h00 := Lib.hid h0; clear h0
        go_wp2
        go_round
        case rel => exact ⟨d + 1, by omega, by omega, by go_num, HR2⟩
        case measure => simp [intOf]; omega
    · have hyes : isPr n := fun e h1 h2 h3 => by
        rcases Nat.lt_or_ge e d with h | h
        · exact hR.out e h1 h h3
        · have : (d : Int) * d ≤ e * e := Int.mul_le_mul (by omega) (by omega) (by omega) (by omega)
          omega
      have HY := Lib.hid hyes; clear hyes hR
      have h2n : decide (2 ≤ n) = true := by simp; omega
      go_wp2
      go_ret
      exact ⟨isB_t HY.out, rfl⟩
end Go.Proofs.Ytnfbgjgchcgonaa
