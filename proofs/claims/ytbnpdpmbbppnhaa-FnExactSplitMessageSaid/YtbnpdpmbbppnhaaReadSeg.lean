
/- Reading a segment from bits: the numbers, the plain reading. -/
import Derived.Test.YtbnpdpmbbppnhaaWriteI
import Derived.Lib.SlBytesRow
namespace Go.Proofs.Ytbnpdpmbbppnhaa
set_option linter.unusedVariables false
set_option linter.unusedSimpArgs false
open Go.RowKit

/-- The number that is written in k bits from a on. -/
def numAt (xs : List Int) (a : Nat) : Nat → Int
  | 0 => 0
  | k + 1 => numAt xs a k * 2 + xs.getD (a + k) 0
theorem numAt_bd {xs : List Int} (h : ∀ x ∈ xs, x = 0 ∨ x = 1) (a : Nat) : ∀ k, a + k ≤ xs.length → 0 ≤ numAt xs a k ∧ numAt xs a k < 2 ^ k := by
  intro k
  induction k with
  | zero => intro _; simp [numAt]
  | succ k ih =>
    intro hk
    have := ih (by omega)
    have hx : xs.getD (a + k) 0 = 0 ∨ xs.getD (a + k) 0 = 1 := by
      rw [List.getD_eq_getElem?_getD, List.getElem?_eq_getElem (by omega)]
      exact h _ (List.getElem_mem _)
    simp only [numAt, Int.pow_succ]
    omega
theorem or_bit (n b : Int) (hn : 0 ≤ n ∧ n < 2305843009213693952) (hb : b = 0 ∨ b = 1) : bits .or .i64 (n * 2) b = n * 2 + b := by
  obtain ⟨k, rfl⟩ : ∃ k : Nat, n = k := ⟨n.toNat, by omega⟩
  obtain ⟨j, rfl⟩ : ∃ j : Nat, b = j := ⟨b.toNat, by omega⟩
  have hj : j < 2 := by omega
  have := bits_or_nat (k * 2) j (by omega) (by omega)
  have h2 := Nat.two_pow_add_eq_or_of_lt (i := 1) (b := j) (by omega) k
  rw [show (k : Int) * 2 = ((k * 2 : Nat) : Int) by omega, this]
  have h3 : k * 2 ||| j = k * 2 + j := by
    have e : 2 ^ 1 * k = k * 2 := by omega
    rw [e] at h2
    exact h2.symm
  rw [h3]
  omega

set_option maxRecDepth 100000 in
theorem numberAt_c (p : Option Addr) (c : Nat) (xs : List Int) (a k : Nat) (w : World) (hx : IntsAt w p xs) (hc : xs.length ≤ c) (hl : xs.length ≤ 1048576) (hb : ∀ x ∈ xs, x = 0 ∨ x = 1) (hk : 1 ≤ k ∧ k ≤ 40) (hak : a + k ≤ xs.length) :
    Calls Try.prog 100 #[.slice p xs.length c, .int .i64 a, .int .i64 k] w fun e w' => e = .returned (.int .i64 (numAt xs a k)) ∧ w = w' := by
  obtain ⟨b, o, rfl, hbl, _⟩ := hx a (by omega)
  have hsl : ∀ W, (Instr.slice 26 (.slice (some ⟨b, o, none⟩) xs.length c) (some (.int .i64 (a : Int))) (some (.int .i64 ((a : Int) + k))) none).run Try.prog W = .ok (.slice (some ⟨b, o + a, none⟩) k (c - a)) W := fun W => by
    have := Lib.run_slice_window (P := Try.prog) W 26 2 Try.underlying26 (fun w => by kernel_rfl) b o xs.length c a (a + k) (by omega) (by omega)
    rw [show a + k - a = k by omega] at this
    rw [← this]
    simp
  have HX := Lib.hid hx; have HB := Lib.hid hb; clear hx hb
  have hd : (a : Int) + k ≤ 1048576 := by omega
  go_enter Try.func100, Try.ntmps100
  go_wp2
  go_loop [7, 17] (fun n i => ∃ j : Nat, j ≤ k ∧ i = .int .i64 j ∧ n = .int .i64 (numAt xs a j)) (fun _ i => k - (intOf i).toNat)
  case atStart => exact ⟨0, Nat.zero_le _, rfl, rfl⟩
  case round =>
    obtain ⟨j, hj, rfl, rfl⟩ := hrel
    have hn := numAt_bd HB.out a j (by omega)
    have hn2 : numAt xs a j < 2305843009213693952 := by
      have h40 : 2 ^ j ≤ 2 ^ 40 := Nat.pow_le_pow_right (by omega) (by omega)
      have e : ((2 ^ j : Nat) : Int) = (2 : Int) ^ j := by simp
      omega
    by_cases hlt : j < k
    · obtain ⟨b', o', e, _, h1⟩ := HX.out (a + j) (by omega)
      simp at e
      obtain ⟨rfl, rfl⟩ := e
      rw [← Nat.add_assoc] at h1
      have hx01 : xs.getD (a + j) 0 = 0 ∨ xs.getD (a + j) 0 = 1 := by
        rw [List.getD_eq_getElem?_getD, List.getElem?_eq_getElem (by omega)]
        exact HB.out _ (List.getElem_mem _)
      have hst := Lib.hid (show numAt xs a (j + 1) = numAt xs a j * 2 + xs.getD (a + j) 0 from rfl)
      generalize xs.getD (a + j) 0 = x at *
      have hor := or_bit (numAt xs a j) x ⟨hn.1, hn2⟩ hx01
      have HX01 := Lib.hid hx01; clear hx01
      clear hsl
      go_wp2
      go_round
      case rel => exact ⟨j + 1, hlt, by go_num, by rw [hst.out]⟩
      case measure => simp [intOf]; omega
    · obtain rfl : j = k := by omega
      clear hsl
      go_wp2
      go_ret
      exact ⟨rfl, rfl⟩
end Go.Proofs.Ytbnpdpmbbppnhaa
