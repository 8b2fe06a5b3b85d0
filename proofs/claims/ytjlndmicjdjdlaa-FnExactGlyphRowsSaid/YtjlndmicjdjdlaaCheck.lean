/- The check digit of chapter 31: contracts. -/
import Derived.Test.YtjlndmicjdjdlaaA
namespace Go.Proofs.Ytjlndmicjdjdlaa
set_option linter.unusedVariables false
set_option linter.unusedSimpArgs false
open Go.RowKit

def byteAt (s : ByteArray) (i : Nat) : Int := ((s.data.toList.getD i 0).toNat : Int)
theorem byteAt_eq {s : ByteArray} {i : Nat} (h : i < s.size) : byteAt s i = ((s[i]'h).toNat : Int) := by
  unfold byteAt
  rw [List.getD_eq_getElem?_getD, List.getElem?_eq_getElem (by simpa using h)]
  cases s; rfl
theorem byteAt_bd (s : ByteArray) (i : Nat) : 0 ≤ byteAt s i ∧ byteAt s i ≤ 255 := by
  unfold byteAt
  have := UInt8.toNat_lt (s.data.toList.getD i 0)
  omega

def dval (c : Int) : Int := if 48 ≤ c ∧ c ≤ 57 then c - 48 else c % 10
theorem dval_cases (c : Int) : (48 ≤ c ∧ c ≤ 57 ∧ dval c = c - 48) ∨ (¬ (48 ≤ c ∧ c ≤ 57) ∧ dval c = c % 10) := by
  unfold dval
  by_cases h : 48 ≤ c ∧ c ≤ 57
  · rw [if_pos h]; omega
  · rw [if_neg h]; omega
def chkSum (s : ByteArray) : Nat → Int
  | 0 => 0
  | k + 1 => chkSum s k + (if k % 2 = 0 then 3 * dval (byteAt s (s.size - 1 - k)) else dval (byteAt s (s.size - 1 - k)))
theorem chkSum_bd (s : ByteArray) (k : Nat) : 0 ≤ chkSum s k ∧ chkSum s k ≤ 27 * k := by
  induction k with
  | zero => simp [chkSum]
  | succ k ih =>
    have := dval_cases (byteAt s (s.size - 1 - k))
    simp only [chkSum]
    split <;> omega
def checkDigit (s : ByteArray) : Int := (10 - chkSum s s.size % 10) % 10

theorem digitValue_c (s : ByteArray) (i : Nat) (w : World) (hi : i < s.size) (hs : s.size ≤ 1048576) :
    Calls Try.prog 48 #[.string s, .int .i64 i] w fun e w' => e = .returned (.int .i64 (dval (byteAt s i))) ∧ w = w' := by
  have hb := byteAt_eq hi
  have h8 : (s[i]'hi).toNat < 256 := UInt8.toNat_lt _
  have hd := dval_cases (byteAt s i)
  rw [hb] at hd ⊢
  generalize dval ((s[i]'hi).toNat : Int) = d at *
  have HD := Lib.hid hd; clear hd hb
  go_enter Try.func48, Try.ntmps48
  go_wp2_with (first | (go_at_call 35; (with_reducible refine (inRange_c _ _ _ _).mono ?_); rintro e w' ⟨⟨hP, rfl⟩ | ⟨hP, rfl⟩, rfl⟩ <;> go_prune))
  all_goals (go_ret; exact ⟨ret_int (by have := HD.out; omega), rfl⟩)

theorem chkSum_succ (s : ByteArray) (k i : Nat) (hi : i + k + 1 = s.size) : chkSum s (k + 1) = chkSum s k + (if k % 2 = 0 then 3 * dval (byteAt s i) else dval (byteAt s i)) := by
  have : s.size - 1 - k = i := by omega
  simp only [chkSum, this]
theorem dval_bd (s : ByteArray) (i : Nat) : 0 ≤ dval (byteAt s i) ∧ dval (byteAt s i) ≤ 9 := by
  have := dval_cases (byteAt s i)
  have := byteAt_bd s i
  omega

theorem check_c (s : ByteArray) (w : World) (hs : s.size ≤ 1048576) :
    Calls Try.prog 38 #[.string s] w fun e w' => e = .returned (.int .i64 (checkDigit s)) ∧ w = w' := by
  go_enter Try.func38, Try.ntmps38
  go_wp2
  go_loop [4, 5, 6] (fun sum wt i => ∃ (k : Nat) (sm x iv : Int), k ≤ s.size ∧ (0 ≤ sm ∧ sm ≤ 27 * k) ∧ sum = .int .i64 sm ∧ wt = .int .i64 x ∧ i = .int .i64 iv ∧ Hid (sm = chkSum s k) ∧ Hid ((k % 2 = 0 ∧ x = 3) ∨ (k % 2 = 1 ∧ x = 1)) ∧ Hid (iv = (s.size : Int) - 1 - k) ∧ (-1 ≤ iv ∧ iv < s.size)) (fun _ _ i => (intOf i + 1).toNat)
  case atStart => exact ⟨0, 0, 3, (s.size : Int) - 1, Nat.zero_le _, by omega, rfl, rfl, rfl, rfl, .inl ⟨rfl, rfl⟩, by unfold Hid; omega, by omega⟩
  case round =>
    obtain ⟨k, sm, x, iv, hk, hsm, rfl, rfl, rfl, HS, HX, HI, hiv⟩ := hrel
    by_cases hlt : 0 ≤ iv
    · obtain ⟨i, rfl⟩ := Int.eq_ofNat_of_zero_le hlt
      have hlt2 : i < s.size := by omega
      have hdb := dval_bd s i
      have HC := Lib.hid (chkSum_succ s k i (by have := HI.out; omega))
      have HX2 := HX
      rcases HX with ⟨hx1, rfl⟩ | ⟨hx1, rfl⟩
      all_goals
        have HX1 := Lib.hid hx1; clear hx1
        go_wp2_with (first | (go_at_call 48; (with_reducible refine (digitValue_c _ _ _ hlt2 hs).mono ?_); rintro e w' ⟨rfl, rfl⟩))
        go_round
        case rel =>
          refine ⟨k + 1, _, _, _, by have := HI.out; omega, ?_, rfl, rfl, rfl, ?_, ?_, ?_, ?_⟩
          · omega
          · show _ = _
            rw [HC.out, ← HS.out]
            have := HX1.out
            first | rw [if_pos (by omega)] | rw [if_neg (by omega)]
            try simp
          · have := HX1.out
            show _ ∨ _
            omega
          · have := HI.out
            show _ = _
            omega
          · omega
        case measure => simp [intOf] <;> omega
    · go_wp2
      go_ret
      refine ⟨ret_int ?_, rfl⟩
      have : k = s.size := by have := HI.out; omega
      subst this
      unfold checkDigit
      rw [← HS.out]
      first | done | omega

theorem sCheck_c (s : ByteArray) (w : World) (hs : s.size ≤ 1048576) :
    Calls Try.prog 36 #[.string s] w fun e w' => e = .returned (.int .i64 (checkDigit s)) ∧ w = w' := by
  go_enter Try.func36, Try.ntmps36
  go_wp2
  go_loop [3, 4] (fun sum i => ∃ (k : Nat) (sm : Int), k ≤ s.size ∧ (0 ≤ sm ∧ sm ≤ 27 * k) ∧ sum = .int .i64 sm ∧ i = .int .i64 k ∧ Hid (sm = chkSum s k)) (fun _ i => s.size - (intOf i).toNat)
  case atStart => exact ⟨0, 0, Nat.zero_le _, by omega, rfl, rfl, rfl⟩
  case round =>
    obtain ⟨k, sm, hk, hsm, rfl, rfl, HS⟩ := hrel
    by_cases hlt : k < s.size
    · obtain ⟨i, hi⟩ : ∃ i : Nat, i + k + 1 = s.size := ⟨s.size - 1 - k, by omega⟩
      have HC := Lib.hid (chkSum_succ s k i hi)
      have hlt2 : i < s.size := by omega
      have e1 : (s.size : Int) - 1 - k = i := by omega
      have hb := byteAt_eq hlt2
      have h8 : (s[i]'hlt2).toNat < 256 := UInt8.toNat_lt _
      have hd := dval_cases (byteAt s i)
      rw [hb] at hd HC
      have HD := Lib.hid hd
      clear hd hb
      by_cases hp : k % 2 = 0
      all_goals go_wp2
      all_goals
        go_round
        case rel =>
          refine ⟨k + 1, _, by omega, ?_, rfl, by go_num, ?_⟩
          · have := HD.out
            omega
          · show _ = _
            rw [HC.out, ← HS.out]
            have := HD.out
            first | rw [if_pos (by omega)] | rw [if_neg (by omega)]
            omega
        case measure => simp [intOf] <;> omega
    · go_wp2
      go_ret
      refine ⟨ret_int ?_, rfl⟩
      have : k = s.size := by omega
      subst this
      unfold checkDigit
      rw [← HS.out]
      omega

end Go.Proofs.Ytjlndmicjdjdlaa
