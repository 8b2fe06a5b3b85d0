
/- The arithmetic of a binary field. -/
import Derived.Test.YtnfbgjgchcgonaaCalc4
namespace Go.Proofs.Ytnfbgjgchcgonaa
set_option linter.unusedVariables false
set_option linter.unusedSimpArgs false
open Go.RowKit

theorem and_top {k y : Nat} (hy : y < 2 ^ (k + 1)) : y &&& 2 ^ k = if y < 2 ^ k then 0 else 2 ^ k := by
  apply Nat.eq_of_testBit_eq
  intro i
  rw [Nat.testBit_and, Nat.testBit_two_pow]
  by_cases h : y < 2 ^ k
  · rw [if_pos h, Nat.zero_testBit]
    by_cases e : k = i
    · subst e
      rw [Nat.testBit_lt_two_pow h]
      rfl
    · simp [e]
  · rw [if_neg h, Nat.testBit_two_pow]
    by_cases e : k = i
    · subst e
      rw [Nat.testBit_of_two_pow_le_and_two_pow_add_one_gt (by omega) hy]
      rfl
    · simp [e]
theorem xor_top {k y q : Nat} (h1 : 2 ^ k ≤ y) (h2 : y < 2 ^ (k + 1)) (h3 : 2 ^ k ≤ q) (h4 : q < 2 ^ (k + 1)) : y ^^^ q < 2 ^ k := by
  refine Nat.lt_pow_two_of_testBit _ fun i hi => ?_
  rw [Nat.testBit_xor]
  by_cases e : i = k
  · subst e
    rw [Nat.testBit_of_two_pow_le_and_two_pow_add_one_gt h1 h2, Nat.testBit_of_two_pow_le_and_two_pow_add_one_gt h3 h4]
    rfl
  · have h5 : 2 ^ (k + 1) ≤ 2 ^ i := Nat.pow_le_pow_right (by omega) (by omega)
    rw [Nat.testBit_lt_two_pow (by omega), Nat.testBit_lt_two_pow (by omega)]
    rfl
theorem two_pow_cast (k : Nat) : ((2 ^ k : Nat) : Int) = (2 : Int) ^ k := by simp
theorem xtS_bd {k : Nat} {q : Int} (hq : (2 : Int) ^ k ≤ q ∧ q < 2 ^ (k + 1)) : ∀ x, 0 ≤ x ∧ x < 2 ^ k → 0 ≤ xtS k q x ∧ xtS k q x < 2 ^ k := by
  intro x hx
  have h1 := two_pow_cast k
  have h2 := two_pow_cast (k + 1)
  have h3 : (2 : Nat) ^ (k + 1) = 2 * 2 ^ k := by rw [Nat.pow_succ, Nat.mul_comm]
  unfold xtS
  split
  · omega
  · have := xor_top (k := k) (y := (2 * x).toNat) (q := q.toNat) (by omega) (by omega) (by omega) (by omega)
    omega

theorem dblFn_c (x : Int) (k : Nat) (q : Int) (g bc bf : Nat) (w : World) (h1 : w.cell? ⟨bc, 0, none⟩ = some (.pointer (some ⟨g, 0, none⟩))) (h2 : w.cell? ⟨g, 1, none⟩ = some (.int .i64 (2 ^ k))) (h3 : w.cell? ⟨bf, 2, none⟩ = some (.int .i64 q))
    (hx : 0 ≤ x ∧ x < 2 ^ k) (hk : k ≤ 8) (hq : (2 : Int) ^ k ≤ q ∧ q < 2 ^ (k + 1)) :
    Calls Try.prog 163 #[.int .i64 x, .pointer (some ⟨bc, 0, none⟩), .pointer (some ⟨bf, 0, none⟩)] w fun e w' => e = .returned (.int .i64 (xtS k q x)) ∧ w = w' := by
  have e1 := two_pow_cast k
  have e2 := two_pow_cast (k + 1)
  have e3 : (2 : Nat) ^ (k + 1) = 2 * 2 ^ k := by rw [Nat.pow_succ, Nat.mul_comm]
  have e4 : (2 : Nat) ^ k ≤ 2 ^ 8 := Nat.pow_le_pow_right (by omega) hk
  obtain ⟨y, rfl⟩ : ∃ y : Nat, x = y := ⟨x.toNat, by omega⟩
  obtain ⟨z, rfl⟩ : ∃ z : Nat, q = z := ⟨q.toNat, by omega⟩
  have hA := bits_and_nat (y * 2) (2 ^ k) (by omega) (by omega)
  rw [and_top (by omega), e1] at hA
  have hX := bits_xor_nat (y * 2) z (by omega) (by omega)
  have hv : xtS k z y = if 2 * (y : Int) < 2 ^ k then 2 * (y : Int) else (((y * 2) ^^^ z : Nat) : Int) := by
    unfold xtS
    rw [show (2 * (y : Int)).toNat = y * 2 by omega, Int.toNat_natCast]
  rw [hv]
  clear hv
  rw [Int.natCast_mul] at hA hX
  have hS : (1 : Int) ≤ 2 ^ k ∧ (2 : Int) ^ k ≤ 256 := by omega
  by_cases hlt : y * 2 < 2 ^ k
  · rw [if_pos (show 2 * (y : Int) < 2 ^ k by omega)]
    rw [if_pos hlt] at hA
    clear hX
    generalize (2 : Int) ^ k = SZ at *
    have hy : (y : Int) * 2 ≤ 256 := by omega
    have hA' : bits .and .i64 ((y : Int) * 2) SZ = 0 := hA
    clear hA e1 e2 e3 e4 hq hlt
    go_enter Try.func163, Try.ntmps163
    go_wp2
    go_ret
    exact ⟨ret_int (by omega), rfl⟩
  · rw [if_neg (show ¬ 2 * (y : Int) < 2 ^ k by omega)]
    rw [if_neg hlt, e1] at hA
    generalize (2 : Int) ^ k = SZ at *
    generalize y * 2 ^^^ z = V at *
    have hy : (y : Int) * 2 ≤ 512 := by omega
    have hS0 : (SZ != 0) = true := by simp; omega
    have hA' : bits .and .i64 ((y : Int) * 2) SZ = SZ := hA
    have hX' : bits .xor .i64 ((y : Int) * 2) z = V := hX
    clear e1 e2 e3 e4 hq hlt hA hX
    go_enter Try.func163, Try.ntmps163
    go_wp2
    go_ret
    exact ⟨rfl, rfl⟩

set_option maxRecDepth 100000 in
theorem fill2_c (k : Nat) (q : Int) (N g bc bf : Nat) (w : World) (hN : (2 : Int) ^ k = N + 1) (hk : 3 ≤ k ∧ k ≤ 8) (hq : (2 : Int) ^ k ≤ q ∧ q < 2 ^ (k + 1)) (hc : CalcB w g true (2 ^ k))
    (q1 : w.cell? ⟨bc, 0, none⟩ = some (.pointer (some ⟨g, 0, none⟩))) (q2 : w.cell? ⟨bf, 2, none⟩ = some (.int .i64 q)) (hbc : bc ≠ g ∧ bc < w.heap.size) (hbf : bf ≠ g ∧ bf < w.heap.size) :
    Calls Try.prog 162 #[.pointer (some ⟨g, 0, none⟩), .func (.func 163) #[] #[.pointer (some ⟨bc, 0, none⟩), .pointer (some ⟨bf, 0, none⟩)]] w fun e w' => FillR (xtS k q) N g true (2 ^ k) w e w' := by
  have e1 := two_pow_cast k
  have e4 : (2 : Nat) ^ k ≤ 2 ^ 8 := Nat.pow_le_pow_right (by omega) hk.2
  have e5 : (2 : Nat) ^ 3 ≤ 2 ^ k := Nat.pow_le_pow_right (by omega) hk.1
  have hbd := Lib.hid (itS_bd (t := xtS k q) (size := 2 ^ k) (by omega) (xtS_bd hq))
  have hdf : ∀ (x : Int) (W : World), W.cell? ⟨bc, 0, none⟩ = some (.pointer (some ⟨g, 0, none⟩)) → W.cell? ⟨g, 1, none⟩ = some (.int .i64 (2 ^ k)) → W.cell? ⟨bf, 2, none⟩ = some (.int .i64 q) → 0 ≤ x ∧ x < 2 ^ k →
      Calls Try.prog 163 #[.int .i64 x, .pointer (some ⟨bc, 0, none⟩), .pointer (some ⟨bf, 0, none⟩)] W fun e w' => e = .returned (.int .i64 (xtS k q x)) ∧ W = w' := fun x W h1 h2 h3 hx => dblFn_c x k q g bc bf W h1 h2 h3 hx hk.2 hq
  have HDF := Lib.hid hdf
  clear hdf hq
  have HQ1 := Lib.hid q1; have HQ2 := Lib.hid q2; clear q1 q2
  have h3 : 3 ≤ (2 : Int) ^ k ∧ (2 : Int) ^ k ≤ 1021 := by omega
  clear e1 e4 e5 hk
  have HTT := Lib.hid (show ∀ x, xtS k q x = xtS k q x from fun _ => rfl)
  generalize hte : xtS k q = t at *
  clear hte HTT
  generalize (2 : Int) ^ k = size at *
  have hsz : size - 1 = N := by omega
  have HN := Lib.hid hN; clear hN
  go_enter Try.func162, Try.ntmps162
  go_wp2
  go_loopw [5, 6] (fun x i wr => ∃ n : Nat, n ≤ N ∧ x = .int .i64 (itS t n) ∧ i = .int .i64 n ∧ Hid (∀ m, m < n → itS t m ≠ 0 ∧ (0 < m → itS t m ≠ 1)) ∧ CalcB wr g true size ∧ But g w wr) (fun _ i _ => N - (intOf i).toNat)
  case atStart => exact ⟨0, Nat.zero_le _, rfl, rfl, Lib.hid (fun m hm => by omega), hc, But.refl _ _⟩
  case round =>
    clear hc
    obtain ⟨n, hn, rfl, rfl, hR, ⟨cs, hb, hS⟩, hbut⟩ := hrel
    have q1 := hb.cell hS.2.2.1
    have q2 := hb.lt
    have q3 := hb.free
    have hx := hbd.out n
    have hst := Lib.hid (show itS t (n + 1) = t (itS t n) from rfl)
    by_cases hlt : n < N
    · have hd : (n : Int) < size - 1 := by omega
      have hno : (itS t n = 0 ∨ (0 < n ∧ itS t n = 1)) → ¬ Runs t N := fun h k => by
        have := k.1 n hlt
        rcases h with h | ⟨h0, h⟩
        · exact this.1 h
        · exact this.2 h0 h
      have hok : ¬ (itS t n = 0 ∨ (0 < n ∧ itS t n = 1)) → ∀ m, m < n + 1 → itS t m ≠ 0 ∧ (0 < m → itS t m ≠ 1) := fun h m hm => by
        rcases Nat.lt_or_ge m n with h1 | h1
        · exact hR.out m h1
        · obtain rfl : m = n := by omega
          exact ⟨fun e => h (.inl e), fun h0 e => h (.inr ⟨h0, e⟩)⟩
      have HNO := Lib.hid hno; have HOK := Lib.hid hok; clear hno hok
      generalize itS t n = X at *
      obtain ⟨k, rfl⟩ : ∃ k : Nat, X = k := ⟨X.toNat, by omega⟩
      by_cases hbad : (k : Int) = 0 ∨ (0 < n ∧ (k : Int) = 1)
      · have hnr := HNO.out hbad
        rcases hbad with h0 | ⟨h0, h1⟩
        · obtain rfl : k = 0 := by omega
          go_wp2
          go_ret
          exact ⟨isB_f hnr, ⟨cs, hb, hS⟩, hbut⟩
        · obtain rfl : k = 1 := by omega
          have h0' : (0 : Int) < n := by omega
          go_wp2
          go_ret
          exact ⟨isB_f hnr, ⟨cs, hb, hS⟩, hbut⟩
      · have hk1 : ((k : Int) == 0) = false := by simp; omega
        have hk2 : 0 < n → ((k : Int) == 1) = false := fun h => by simp; omega
        have HK := Lib.hid (HOK.out hbad)
        obtain ⟨v1, hv1⟩ := hS.2.2.2 (2 + n) (by omega) (by omega)
        obtain ⟨v2, hv2⟩ := (hS.set (i := 2 + n) (by omega) k).2.2.2 (1023 + k) (by omega) (by omega)
        have hS2 := (hS.set (i := 2 + n) (by omega) k).set (i := 1023 + k) (by omega) n
        have hb1 := hb.set (2 + n) (.int .i64 k)
        have c1 := hb.cell hv1
        have c2 := hb1.cell hv2
        have hb2 := hb1.set (1023 + k) (.int .i64 n)
        have hbut2 := (hbut.trans (But.set wr g (2 + n) (.int .i64 k))).trans (But.set _ g (1023 + k) (.int .i64 n))
        have hbut2' := Lib.hid hbut2
        obtain ⟨bc', bf', bk', bz'⟩ := bucell hbut2
        have g1 := (bc' bc 0 hbc.2 hbc.1).trans HQ1.out
        have g2 := (bc' bf 2 hbf.2 hbf.1).trans HQ2.out
        have g3 := hb2.cell hS2.2.2.1
        clear bc' bf' bk' bz' hbut2 hbut HNO HOK hbad
        have hk21 : (k : Int) < 1021 := by omega
        have hn21 : (n : Int) < 1021 := by omega
        have hS2 := Lib.hid hS2
        have hb2 := Lib.hid hb2
        have hkn : k < N + 1 := by omega
        have hxx := Lib.hid hx
        by_cases h0 : 0 < n
        · have hk2 := hk2 h0
          have h0' : (0 : Int) < n := by omega
          clear HN
          go_wp2_with (first
            | (go_at_call 163; (with_reducible refine (HDF.out _ _ g1 g3 g2 hxx.out).mono ?_); rintro e w1 ⟨rfl, rfl⟩))
          go_roundw
          case rel => exact ⟨n + 1, hlt, by rw [hst.out], by go_num, HK, ⟨_, hb2.out, hS2.out⟩, hbut2'.out⟩
          case measure => simp [intOf]; omega
        · have h0' : ¬ (0 : Int) < n := by omega
          clear hk2 HN
          go_wp2_with (first
            | (go_at_call 163; (with_reducible refine (HDF.out _ _ g1 g3 g2 hxx.out).mono ?_); rintro e w1 ⟨rfl, rfl⟩))
          go_roundw
          case rel => exact ⟨n + 1, hlt, by rw [hst.out], by go_num, HK, ⟨_, hb2.out, hS2.out⟩, hbut2'.out⟩
          case measure => simp [intOf]; omega
    · obtain rfl : n = N := by omega
      have hd : ¬ (n : Int) < size - 1 := by omega
      clear HN
      by_cases h1 : itS t n = 1
      · have hyes : Runs t n := ⟨hR.out, h1⟩
        rw [h1]
        clear h1
        go_wp2
        go_ret
        exact ⟨isB_t hyes, ⟨cs, hb, hS⟩, hbut⟩
      · have hno : ¬ Runs t n := fun k => h1 k.2
        have hb1 : (itS t n == 1) = false := by simpa using h1
        generalize itS t n = X at *
        go_wp2
        go_ret
        exact ⟨isB_f hno, ⟨cs, hb, hS⟩, hbut⟩
end Go.Proofs.Ytnfbgjgchcgonaa
