/- The reference's fields: multiplication by the generator, the powers, valid fields. -/
import Derived.Test.YtdnkljpnhmcnpaaGreatLBoundedDamageK07
set_option linter.unusedVariables false
set_option linter.unusedSimpArgs false
namespace Go.Proofs.YtdnkljpnhmcnpaaGreat
open Go.RowKit

theorem l02Size_c (p k q : Int) (w : World) (hk : 0 ≤ k ∧ k ≤ 40) :
  Calls Tryz.prog 162 #[vFld p k q] w fun e w' => e = .returned (.int .i64 (fldSize p k)) ∧ Ext w w' := by
 by_cases h1 : k = 1
 ·subst h1
  go_enter Tryz.func162, Tryz.ntmps162
  go_wp2
  go_ret
  exact ⟨rfl, eX⟩
 ·have h1' : (k == 1) = false := by simpa using h1
  have hs : fldSize p k = 2 ^ k.toNat := if_neg h1
  have hb := two_pow_cast k.toNat
  have h40 : (2 : Nat) ^ k.toNat ≤ 2 ^ 40 := Nat.pow_le_pow_right (by omega) (by omega)
  rw [hs]
  clear hs
  have hb2 : (2 : Int) ^ k.toNat ≤ 1099511627776 := by omega
  have hb3 : (0 : Int) ≤ 2 ^ k.toNat := Int.le_of_lt (Int.pow_pos (by omega))
  clear hb h40
  go_enter Tryz.func162, Tryz.ntmps162
  go_wp2
  go_ret
  exact ⟨ret_int (by omega), eX⟩

theorem l02MulP_c (p q a b : Int) (w : World) (hp : 3 ≤ p ∧ p ≤ 1021) (ha : 0 ≤ a ∧ a < 100000) (hb : 0 ≤ b ∧ b < 100000) :
  Calls Tryz.prog 205 #[vFld p 1 q, .int .i64 a, .int .i64 b] w fun e w' => e = .returned (.int .i64 (gpS b p a)) ∧ Ext w w' := by
 have hm : 0 ≤ a * b := Int.mul_nonneg ha.1 hb.1
 have hm2 : a * b ≤ 100000 * 100000 := Int.mul_le_mul (by omega) (by omega) hb.1 (by omega)
 have hne : ¬ p = 0 := by omega
 have e1 : (a * b).tmod p = a * b % p := Int.tmod_eq_emod_of_nonneg hm
 have b1 : a * b % p < p := Int.emod_lt_of_pos _ (by omega)
 have b2 : 0 ≤ a * b % p := Int.emod_nonneg _ hne
 go_enter Tryz.func205, Tryz.ntmps205
 go_wp2
 go_ret
 exact ⟨rfl, eX⟩

def MulL (k : Nat) (q a : Int) (o i : Value) : Prop := (∃ c : Nat, k ≤ c ∧ c ≤ 2 * k ∧ i = .int .i64 c ∧ o = .int .i64 (2 * a)) ∨ (i = .int .i64 ((k : Int) - 1) ∧ o = .int .i64 (xtS k q a))
set_option maxRecDepth 100000 in
theorem l02Mul2_c (p : Int) (k : Nat) (q a : Int) (w : World) (hk : 3 ≤ k ∧ k ≤ 8) (ha : 0 ≤ a ∧ a < 2 ^ k) (hq : (2 : Int) ^ k ≤ q ∧ q < 2 ^ (k + 1)) :
  Calls Tryz.prog 205 #[vFld p k q, .int .i64 a, .int .i64 2] w fun e w' => e = .returned (.int .i64 (xtS k q a)) ∧ Ext w w' := by
 have e1 := two_pow_cast k
 have e2 := two_pow_cast (k + 1)
 have e3 : (2 : Nat) ^ (k + 1) = 2 * 2 ^ k := by rw [Nat.pow_succ, Nat.mul_comm]
 have e4 : (2 : Nat) ^ k ≤ 2 ^ 8 := Nat.pow_le_pow_right (by omega) hk.2
 obtain ⟨y, rfl⟩ : ∃ y : Nat, a = y := ⟨a.toNat, by omega⟩
 obtain ⟨z, rfl⟩ : ∃ z : Nat, q = z := ⟨q.toNat, by omega⟩
 have hy : (y : Int) < 256 := by omega
 have hz : (z : Int) < 512 := by omega
 have hX := bits_xor_nat (2 * y) z (by omega) (by omega)
 have h0 := bits_xor_nat 0 (y * 2) (by omega) (by omega)
 rw [Nat.zero_xor] at h0
 have h0' : bits .xor .i64 0 ((y : Int) * 2) = (y : Int) * 2 := by rw [Int.natCast_mul] at h0; exact h0
 have hX' : bits .xor .i64 (2 * (y : Int)) z = ((2 * y ^^^ z : Nat) : Int) := by rw [Int.natCast_mul] at hX; exact hX
 have hv : xtS k z y = if 2 * (y : Int) < 2 ^ k then 2 * (y : Int) else ((2 * y ^^^ z : Nat) : Int) := by
  unfold xtS
  rw [show (2 * (y : Int)).toNat = 2 * y by omega, Int.toNat_natCast]
 have HV := Lib.hid hv
 have hk1 : ((k : Int) == 1) = false := by simp; omega
 have E := Lib.hid (And.intro e1 (And.intro e2 e3))
 have HA := Lib.hid ha; have HQ := Lib.hid hq
 clear hX h0 hv e1 e2 e3 e4 ha hq
 go_enter Tryz.func205, Tryz.ntmps205
 go_wp2
 have hb := Blk.new w #[.int .i64 p, .int .i64 k, .int .i64 z] 53
 have q1 := hb.cell (i := 1) (v := .int .i64 k) rfl
 have q2 := hb.cell (i := 2) (v := .int .i64 z) rfl
 have hx : Ext w (w.alloc (.cells #[.int .i64 p, .int .i64 k, .int .i64 z] 53)) := eX
 generalize w.alloc (.cells #[.int .i64 p, .int .i64 k, .int .i64 z] 53) = w0 at *
 clear hb
 go_loop [7, 8] (fun o i => ∃ j : Nat, j ≤ k ∧ i = .int .i64 j ∧ o = .int .i64 (if j ≤ 1 then 0 else 2 * (y : Int))) (fun _ i => k - (intOf i).toNat)
 case atStart => exact ⟨0, by omega, rfl, rfl⟩
 case round =>
  obtain ⟨j, hj, rfl, rfl⟩ := hrel
  by_cases hlt : j < k
  ·have hj3 : j = 0 ∨ j = 1 ∨ 2 ≤ j := by omega
   rcases hj3 with rfl | rfl | hj2
   ·rw [if_pos (by omega)]
    go_wp2
    go_round
    case rel => exact ⟨1, by omega, by go_num, rfl⟩
    case measure => first | (simp [intOf]; done) | (simp [intOf]; omega)
   ·rw [if_pos (by omega)]
    go_wp2
    go_round
    case rel => exact ⟨2, by omega, by go_num, by rw [if_neg (by omega)]; go_num⟩
    case measure => first | (simp [intOf]; done) | (simp [intOf]; omega)
   ·rw [if_neg (by omega)]
    have h2 : (2 : Int) / 2 ^ j = 0 := by
     refine Int.ediv_eq_zero_of_lt (by omega) ?_
     have h3 : (2 : Nat) ^ 2 ≤ 2 ^ j := Nat.pow_le_pow_right (by omega) hj2
     have := two_pow_cast j
     omega
    go_wp2
    go_round
    case rel => exact ⟨j + 1, by omega, by go_num, by rw [if_neg (by omega)]⟩
    case measure => first | (simp [intOf]; done) | (simp [intOf]; omega)
  ·obtain rfl : j = k := by omega
   rw [if_neg (by omega)]
   go_wp2
   obtain ⟨E1, E2, E3⟩ := E.out
   have hA := HA.out
   have hk8 : (2 : Nat) ^ j ≤ 2 ^ 8 := Nat.pow_le_pow_right (by omega) hk.2
   go_loop [7, 9] (fun o i => MulL j z y o i) (fun _ i => (intOf i + 1).toNat)
   case atStart => exact .inl ⟨2 * j, by omega, by omega, by go_num, rfl⟩
   case round =>
    rcases hrel with ⟨c, hc1, hc2, rfl, rfl⟩ | ⟨rfl, rfl⟩
    ·have hcd : (j : Int) ≤ c := by omega
     have hc62 : (c : Int) ≤ 16 := by omega
     have hdp := div_pow_bd (2 * (y : Int)) c (by omega)
     have e1 := and_one (2 * (y : Int) / 2 ^ c) (by omega)
     by_cases hck : c = j
     ·obtain rfl : c = j := hck
      by_cases hs : 2 * (y : Int) < 2 ^ c
      ·have hz0 : 2 * (y : Int) / 2 ^ c = 0 := Int.ediv_eq_zero_of_lt (by omega) hs
       have hr : MulL c z y (.int .i64 (2 * (y : Int))) (.int .i64 ((c : Int) - 1)) := .inr ⟨rfl, by rw [HV.out, if_pos hs]⟩
       have HR := Lib.hid hr
       clear hs hr E1 E2 E3 hA hk8 hdp
       go_wp2
       go_round
       case rel => exact HR.out
       case measure => first | (simp [intOf]; done) | (simp [intOf]; omega)
      ·have hz0 : 2 * (y : Int) / 2 ^ c = 1 := by
        have h1 : 1 * (2 : Int) ^ c ≤ 2 * y := by omega
        have h2 : 2 * (y : Int) < (1 + 1) * 2 ^ c := by omega
        have hp : (0 : Int) < 2 ^ c := Int.pow_pos (by omega)
        have h3 := (Int.le_ediv_iff_mul_le hp).2 h1
        have h4 := (Int.ediv_lt_iff_lt_mul hp).2 h2
        omega
       have hr : MulL c z y (.int .i64 ((2 * y ^^^ z : Nat) : Int)) (.int .i64 ((c : Int) - 1)) := .inr ⟨rfl, by rw [HV.out, if_neg hs]⟩
       have HR := Lib.hid hr
       clear hs hr E1 E2 E3 hA hk8 hdp
       go_wp2
       go_round
       case rel => exact HR.out
       case measure => first | (simp [intOf]; done) | (simp [intOf]; omega)
     ·have hz0 : 2 * (y : Int) / 2 ^ c = 0 := by
       refine Int.ediv_eq_zero_of_lt (by omega) ?_
       have h5 : (2 : Nat) ^ (j + 1) ≤ 2 ^ c := Nat.pow_le_pow_right (by omega) (by omega)
       have := two_pow_cast c
       omega
      have hr : MulL j z y (.int .i64 (2 * (y : Int))) (.int .i64 ((c : Int) - 1)) := .inl ⟨c - 1, by omega, by omega, by go_num, rfl⟩
      have HR := Lib.hid hr
      clear hr E1 E2 E3 hA hk8 hdp
      go_wp2
      go_round
      case rel => exact HR.out
      case measure => first | (simp [intOf]; done) | (simp [intOf]; omega)
    ·have hd : ¬ (j : Int) ≤ (j : Int) - 1 := by omega
     go_wp2
     go_ret
     exact ⟨rfl, hx⟩

theorem l02Runs_c (p k q : Int) (t : Int → Int) (size gn : Int) (N : Nat) (w : World) (hk : 0 ≤ k ∧ k ≤ 40) (hsz : fldSize p k = size) (hN : size = N + 1) (h3 : 3 ≤ size ∧ size ≤ 1021) (ht : ∀ x, 0 ≤ x ∧ x < size → 0 ≤ t x ∧ t x < size) (hg : itS t 1 = gn)
  (hmul : ∀ x W, 0 ≤ x ∧ x < size → Calls Tryz.prog 205 #[vFld p k q, .int .i64 x, .int .i64 gn] W fun e w' => e = .returned (.int .i64 (t x)) ∧ Ext W w') :
  Calls Tryz.prog 160 #[vFld p k q, .int .i64 gn] w fun e w' => isB e (Runs t N) ∧ Ext w w' := by
 have hbd := Lib.hid (itS_bd h3.1 ht)
 have HM := Lib.hid hmul; clear hmul ht
 have hsc := Lib.hid (show ∀ W, Calls Tryz.prog 162 #[vFld p k q] W fun e w' => e = .returned (.int .i64 size) ∧ Ext W w' from fun W => by have := l02Size_c p k q W hk; rwa [hsz] at this)
 clear hsz
 have hg2 := hbd.out 1
 rw [hg] at hg2
 have HG := Lib.hid hg; clear hg
 have hszN : size - 1 = N := by omega
 have HN := Lib.hid hN; clear hN
 have hb := Blk.new w #[.int .i64 p, .int .i64 k, .int .i64 q] 53
 go_enter Tryz.func160, Tryz.ntmps160
 go_wp2
 have hx : Ext w (w.alloc (.cells #[.int .i64 p, .int .i64 k, .int .i64 q] 53)) := eX
 generalize w.alloc (.cells #[.int .i64 p, .int .i64 k, .int .i64 q] 53) = w0 at *
 go_loopw [5, 6] (fun x i wr => ∃ n : Nat, 1 ≤ n ∧ n ≤ N + 1 ∧ x = .int .i64 (itS t n) ∧ i = .int .i64 n ∧ Hid (∀ m, 0 < m → m < n → itS t m ≠ 0 ∧ itS t m ≠ 1) ∧ Ext w0 wr) (fun _ i _ => N + 1 - (intOf i).toNat)
 case atStart => exact ⟨1, by omega, by omega, by rw [HG.out], rfl, Lib.hid (fun m h1 h2 => by omega), eX⟩
 case round =>
  obtain ⟨n, hn1, hn, rfl, rfl, hR, hext⟩ := hrel
  have hbr := hb.ext hext
  have q0 := hbr.cell (i := 0) (v := .int .i64 p) rfl
  have q1 := hbr.cell (i := 1) (v := .int .i64 k) rfl
  have q2 := hbr.cell (i := 2) (v := .int .i64 q) rfl
  have ql := hbr.lt
  have hX := hbd.out n
  have HX := Lib.hid hX
  have hst := Lib.hid (show itS t (n + 1) = t (itS t n) from rfl)
  have hyes : itS t n = 1 → n = N → Runs t N := fun h1 h2 => by
   subst h2
   refine ⟨fun m hm => ?_, h1⟩
   rcases Nat.eq_zero_or_pos m with h0 | h0
   ·subst h0
    exact ⟨by show (1 : Int) ≠ 0; omega, fun h => by omega⟩
   ·exact ⟨(hR.out m h0 hm).1, fun _ => (hR.out m h0 hm).2⟩
  have hno1 : itS t n = 1 → n ≠ N → ¬ Runs t N := fun h1 h2 h => by
   rcases Nat.lt_or_gt_of_ne h2 with h3 | h3
   ·exact (h.1 n h3).2 (by omega) h1
   ·have := h.2
    rcases Nat.eq_zero_or_pos N with h0 | h0
    ·omega
    ·exact (hR.out N h0 h3).2 this
  have hno0 : itS t n = 0 → ¬ Runs t N := fun h1 h => by
   rcases Nat.lt_or_ge n N with h3 | h3
   ·exact (h.1 n h3).1 h1
   ·rcases Nat.eq_or_lt_of_le h3 with h4 | h4
    ·have := h.2; rw [h4, h1] at this; omega
    ·exact (hR.out N (by omega) h4).2 h.2
  have hnoN : N < n → ¬ Runs t N := fun h4 h => (hR.out N (by omega) h4).2 h.2
  have hR2 : itS t n ≠ 1 → itS t n ≠ 0 → ∀ m, 0 < m → m < n + 1 → itS t m ≠ 0 ∧ itS t m ≠ 1 := fun h1 h0 m h2 h3 => by
   rcases Nat.lt_or_ge m n with h | h
   ·exact hR.out m h2 h
   ·obtain rfl : m = n := by omega
    exact ⟨h0, h1⟩
  have HY := Lib.hid hyes; have H1 := Lib.hid hno1; have H0 := Lib.hid hno0; have HNN := Lib.hid hnoN; have HR2 := Lib.hid hR2
  clear hyes hno1 hno0 hnoN hR2 hR
  generalize itS t n = X at *
  by_cases hx1 : X = 1
  ·have hsN : n = N ∨ n ≠ N := by omega
   subst hx1
   rcases hsN with hsN | hsN
   ·have hy := Lib.hid (HY.out rfl hsN)
    have hnN : ((n : Int) == size - 1) = true := by simp; omega
    go_wp2_with (go_at_call 162; (with_reducible refine (hsc.out _).mono ?_); rintro e w1 ⟨rfl, hx1⟩)
    go_ret
    exact ⟨isB_t hy.out, (hx.trans hext).trans hx1⟩
   ·have hy := Lib.hid (H1.out rfl hsN)
    have hnN : ((n : Int) == (N : Int)) = false := by simp; omega
    go_wp2_with (go_at_call 162; (with_reducible refine (hsc.out _).mono ?_); rintro e w1 ⟨rfl, hx1⟩)
    go_ret
    exact ⟨isB_f hy.out, (hx.trans hext).trans hx1⟩
  ·have hx1' : (X == 1) = false := by simpa using hx1
   have hx1'' : (X != 1) = true := by simpa using hx1
   by_cases hx0 : X = 0
   ·have hy := Lib.hid (H0.out hx0)
    subst hx0
    go_wp2
    go_ret
    exact ⟨isB_f hy.out, hx.trans hext⟩
   ·have hx0' : (X != 0) = true := by simpa using hx0
    have hR3 := Lib.hid (HR2.out hx1 hx0)
    by_cases hlt : n < N + 1
    ·have hd : (n : Int) < size := by omega
     go_wp2_with (first
      | (go_at_call 162; (with_reducible refine (hsc.out _).mono ?_); rintro e w1 ⟨rfl, hy1⟩; have hb1 := hbr.ext hy1; obtain ⟨r0, r1, r2⟩ := hb1.c3; have rl := hb1.lt)
      | (go_at_call 205; (with_reducible refine (HM.out _ _ HX.out).mono ?_); rintro e w2 ⟨rfl, hy2⟩))
     go_roundw
     case rel => exact ⟨n + 1, by omega, by omega, by rw [hst.out], by go_num, hR3, (hext.trans hy1).trans hy2⟩
     case measure => first | (simp [intOf]; done) | (simp [intOf]; omega)
    ·have hd : ¬ (n : Int) < size := by omega
     have hy := Lib.hid (HNN.out (by omega))
     go_wp2_with (first
      | (go_at_call 162; (with_reducible refine (hsc.out _).mono ?_); rintro e w1 ⟨rfl, hy1⟩))
     go_ret
     exact ⟨isB_f hy.out, (hx.trans hext).trans hy1⟩
open Go.RowKit

theorem gps_one {g p : Int} (hg : 0 ≤ g ∧ g < p) : itS (gpS g p) 1 = g := by
 show 1 * g % p = g
 rw [Int.one_mul]
 exact Int.emod_eq_of_lt hg.1 hg.2
theorem runsP_c (p q g : Int) (w : World) (hp : 3 ≤ p ∧ p ≤ 1021) (hg : 1 ≤ g ∧ g ≤ p - 1) :
  Calls Tryz.prog 160 #[vFld p 1 q, .int .i64 g] w fun e w' => isB e (Runs (gpS g p) (p - 1).toNat) ∧ Ext w w' :=
 l02Runs_c p 1 q (gpS g p) p g (p - 1).toNat w (by omega) rfl (by omega) hp (gpS_bd hp.1) (gps_one (by omega)) (fun x W hx => l02MulP_c p q x g W hp (by omega) (by omega))
theorem runsB_c (p : Int) (k : Nat) (q : Int) (w : World) (hk : 3 ≤ k ∧ k ≤ 8) (hq : (2 : Int) ^ k ≤ q ∧ q < 2 ^ (k + 1)) :
  Calls Tryz.prog 160 #[vFld p k q, .int .i64 2] w fun e w' => isB e (Runs (xtS k q) (2 ^ k - 1)) ∧ Ext w w' := by
 have e1 := two_pow_cast k
 have e4 : (2 : Nat) ^ k ≤ 2 ^ 8 := Nat.pow_le_pow_right (by omega) hk.2
 have e5 : (2 : Nat) ^ 3 ≤ 2 ^ k := Nat.pow_le_pow_right (by omega) hk.1
 refine l02Runs_c p k q (xtS k q) (2 ^ k) 2 (2 ^ k - 1) w (by omega) ?_ (by omega) (by omega) (xtS_bd hq) ?_ (fun x W hx => l02Mul2_c p k q x W hk hx hq)
 ·unfold fldSize
  rw [if_neg (by omega), Int.toNat_natCast]
 ·show xtS k q 1 = 2
  unfold xtS
  rw [if_pos (by omega)]
  rfl

set_option maxRecDepth 100000 in
theorem sIsField1_c (p q : Int) (w : World) :
  Calls Tryz.prog 104 #[vFld p 1 q] w fun e w' => isB e (fldOK p 1 q) ∧ Ext w w' := by
 by_cases hok : (3 ≤ p ∧ p ≤ 1021) ∧ isPr p ∧ (1 ≤ q ∧ q ≤ p - 1)
 ·obtain ⟨h1, h2, h3⟩ := hok
  have hb := Blk.new w #[.int .i64 p, .int .i64 1, .int .i64 q] 53
  have HPR := Lib.hid h2
  have hx0 : Ext w (w.alloc (.cells #[.int .i64 p, .int .i64 1, .int .i64 q] 53)) := (Ext.refl w).alloc _
  go_enter Tryz.func104, Tryz.ntmps104
  go_wp2_with (first
   | (go_at_call 29; (with_reducible refine (l01In_c _ _ _ _).mono ?_); rintro e w1 ⟨⟨hP, rfl⟩ | ⟨hP, rfl⟩, rfl⟩ <;> try contradiction)
   | (go_at_call 159; (with_reducible refine (l02Prime_c _ _ h1).mono ?_); rintro e w1 ⟨⟨hP2, rfl⟩ | ⟨hP2, rfl⟩, rfl⟩ <;> try contradiction))
  generalize hw0 : w.alloc (.cells #[.int .i64 p, .int .i64 1, .int .i64 q] 53) = w0 at *
  clear hw0
  go_loopw [3] (fun i wr => ∃ d : Nat, 1 ≤ d ∧ (d : Int) ≤ q ∧ i = .int .i64 d ∧ Hid (∀ e : Int, 1 ≤ e → e < d → ¬ Runs (gpS e p) (p - 1).toNat) ∧ Ext w0 wr) (fun i _ => (q - intOf i).toNat)
  case atStart => exact ⟨1, by omega, by omega, rfl, Lib.hid (fun e he h3 => by omega), eX⟩
  case round =>
   obtain ⟨d, hd1, hdq, rfl, hR, hext⟩ := hrel
   have hbr := hb.ext hext
   have q0 := hbr.cell (i := 0) (v := .int .i64 p) rfl
   have q1 := hbr.cell (i := 1) (v := .int .i64 1) rfl
   have q2 := hbr.cell (i := 2) (v := .int .i64 q) rfl
   have ql := hbr.lt
   by_cases hlt : (d : Int) < q
   ·have hno : Runs (gpS d p) (p - 1).toNat → ¬ fldOK p 1 q := fun h k => by
     rcases k with ⟨_, _, _, _, h5, _⟩ | ⟨k, _⟩
     ·exact h5 d (by omega) hlt h
     ·exact k rfl
    have HNO := Lib.hid hno
    have hR2 : ¬ Runs (gpS d p) (p - 1).toNat → ∀ e : Int, 1 ≤ e → e < (d + 1 : Nat) → ¬ Runs (gpS e p) (p - 1).toNat := fun h e h3 h4 => by
     rcases Int.lt_or_le e d with h5 | h5
     ·exact hR.out e h3 h5
     ·obtain rfl : e = d := by omega
      exact h
    have HR2 := Lib.hid hR2
    clear hno hR2 hR
    go_wp2_with (go_at_call 160; (with_reducible refine (runsP_c p q d _ h1 (by omega)).mono ?_); rintro e w1 ⟨⟨hP3, rfl⟩ | ⟨hP3, rfl⟩, hx1⟩ <;> replace hP3 := Lib.hid hP3)
    ·go_ret
     exact ⟨isB_f (HNO.out hP3.out), eX⟩
    ·go_roundw
     case rel => exact ⟨d + 1, by omega, by omega, by go_num, Lib.hid (HR2.out hP3.out), hext.trans hx1⟩
     case measure => simp [intOf]; omega
   ·obtain rfl : q = d := by omega
    have hfin : ∀ P : Prop, P = Runs (gpS d p) (p - 1).toNat → (P ↔ fldOK p 1 d) := fun P hP => by
     subst hP
     refine ⟨fun h => .inl ⟨rfl, h1, HPR.out, h3, hR.out, h⟩, fun h => ?_⟩
     rcases h with ⟨_, _, _, _, _, h⟩ | ⟨k, _⟩
     ·exact h
     ·exact absurd rfl k
    have HF := Lib.hid (hfin _ rfl)
    clear hfin hR
    go_wp2_with (go_at_call 160; (with_reducible refine (runsP_c p d d _ h1 (by omega)).mono ?_); rintro e w1 ⟨⟨hP3, rfl⟩ | ⟨hP3, rfl⟩, hx1⟩ <;> replace hP3 := Lib.hid hP3)
    ·go_ret
     exact ⟨isB_t (HF.out.1 hP3.out), eX⟩
    ·go_ret
     exact ⟨isB_f (fun h => hP3.out (HF.out.2 h)), eX⟩
 ·have hnf : ¬ fldOK p 1 q := fun h => by
   rcases h with ⟨_, h1, h2, h3, _⟩ | ⟨k, _⟩
   ·exact hok ⟨h1, h2, h3⟩
   ·exact k rfl
  have HNF := Lib.hid hnf; clear hnf
  by_cases h1 : 3 ≤ p ∧ p ≤ 1021
  ·by_cases h2 : isPr p
   ·have h3 : ¬ (1 ≤ q ∧ q ≤ p - 1) := fun h => hok ⟨h1, h2, h⟩
    have HPR := Lib.hid h2
    clear hok
    go_enter Tryz.func104, Tryz.ntmps104
    go_wp2_with (first
     | (go_at_call 29; (with_reducible refine (l01In_c _ _ _ _).mono ?_); rintro e w1 ⟨⟨hP, rfl⟩ | ⟨hP, rfl⟩, rfl⟩ <;> try contradiction)
     | (go_at_call 159; (with_reducible refine (l02Prime_c _ _ h1).mono ?_); rintro e w1 ⟨⟨hP2, rfl⟩ | ⟨hP2, rfl⟩, rfl⟩ <;> try contradiction))
    go_ret
    exact ⟨isB_f HNF.out, eX⟩
   ·clear hok
    go_enter Tryz.func104, Tryz.ntmps104
    go_wp2_with (first
     | (go_at_call 29; (with_reducible refine (l01In_c _ _ _ _).mono ?_); rintro e w1 ⟨⟨hP, rfl⟩ | ⟨hP, rfl⟩, rfl⟩ <;> try contradiction)
     | (go_at_call 159; (with_reducible refine (l02Prime_c _ _ h1).mono ?_); rintro e w1 ⟨⟨hP2, rfl⟩ | ⟨hP2, rfl⟩, rfl⟩ <;> try contradiction))
    go_ret
    exact ⟨isB_f HNF.out, eX⟩
  ·clear hok
   go_enter Tryz.func104, Tryz.ntmps104
   go_wp2_with (first
    | (go_at_call 29; (with_reducible refine (l01In_c _ _ _ _).mono ?_); rintro e w1 ⟨⟨hP, rfl⟩ | ⟨hP, rfl⟩, rfl⟩ <;> try contradiction))
   go_ret
   exact ⟨isB_f HNF.out, eX⟩

set_option maxRecDepth 100000 in
theorem sIsFieldB3_c (q : Int) (w : World) :
  Calls Tryz.prog 104 #[vFld 2 3 q] w fun e w' => isB e (fldOK 2 3 q) ∧ Ext w w' := by
 by_cases hq : (2 : Int) ^ 3 ≤ q ∧ q < 2 ^ (3 + 1)
 ·have hq' : 8 ≤ q ∧ q ≤ 15 := by have h1 : 8 ≤ q ∧ q < 16 := hq; omega
  have hrun : ∀ W, Calls Tryz.prog 160 #[vFld 2 3 q, .int .i64 2] W fun e w' => isB e (Runs (xtS 3 q) (2 ^ 3 - 1)) ∧ Ext W w' := fun W => runsB_c 2 3 q W (by omega) hq
  have HRUN := Lib.hid hrun
  have hfin : Runs (xtS 3 q) (2 ^ 3 - 1) ↔ fldOK 2 3 q := by
   refine ⟨fun h => .inr ⟨by omega, rfl, by omega, hq, h⟩, fun h => ?_⟩
   rcases h with ⟨h, _⟩ | ⟨_, _, _, _, h⟩
   ·omega
   ·exact h
  have HF := Lib.hid hfin
  clear hfin hrun hq
  go_enter Tryz.func104, Tryz.ntmps104
  go_wp2_with (first
   | (go_at_call 29; (with_reducible refine (l01In_c _ _ _ _).mono ?_); rintro e w1 ⟨⟨hP, rfl⟩ | ⟨hP, rfl⟩, rfl⟩ <;> first | (exfalso; omega) | skip)
   | (go_at_call 160; (with_reducible refine (HRUN.out _).mono ?_); rintro e w1 ⟨⟨hP3, rfl⟩ | ⟨hP3, rfl⟩, hx1⟩ <;> replace hP3 := Lib.hid hP3))
  ·go_ret
   exact ⟨isB_t (HF.out.1 hP3.out), eX⟩
  ·go_ret
   exact ⟨isB_f (fun h => hP3.out (HF.out.2 h)), eX⟩
 ·have hq' : ¬ (8 ≤ q ∧ q ≤ 15) := fun h => hq ⟨h.1, by show q < 16; omega⟩
  have hnf : ¬ fldOK 2 3 q := fun h => by
   rcases h with ⟨h, _⟩ | ⟨_, _, _, h, _⟩
   ·omega
   ·exact hq h
  have HNF := Lib.hid hnf; clear hnf hq
  go_enter Tryz.func104, Tryz.ntmps104
  go_wp2_with (first
   | (go_at_call 29; (with_reducible refine (l01In_c _ _ _ _).mono ?_); rintro e w1 ⟨⟨hP, rfl⟩ | ⟨hP, rfl⟩, rfl⟩ <;> first | (exfalso; omega) | skip))
  go_ret
  exact ⟨isB_f HNF.out, eX⟩
set_option maxRecDepth 100000 in
theorem sIsFieldB4_c (q : Int) (w : World) :
  Calls Tryz.prog 104 #[vFld 2 4 q] w fun e w' => isB e (fldOK 2 4 q) ∧ Ext w w' := by
 by_cases hq : (2 : Int) ^ 4 ≤ q ∧ q < 2 ^ (4 + 1)
 ·have hq' : 16 ≤ q ∧ q ≤ 31 := by have h1 : 16 ≤ q ∧ q < 32 := hq; omega
  have hrun : ∀ W, Calls Tryz.prog 160 #[vFld 2 4 q, .int .i64 2] W fun e w' => isB e (Runs (xtS 4 q) (2 ^ 4 - 1)) ∧ Ext W w' := fun W => runsB_c 2 4 q W (by omega) hq
  have HRUN := Lib.hid hrun
  have hfin : Runs (xtS 4 q) (2 ^ 4 - 1) ↔ fldOK 2 4 q := by
   refine ⟨fun h => .inr ⟨by omega, rfl, by omega, hq, h⟩, fun h => ?_⟩
   rcases h with ⟨h, _⟩ | ⟨_, _, _, _, h⟩
   ·omega
   ·exact h
  have HF := Lib.hid hfin
  clear hfin hrun hq
  go_enter Tryz.func104, Tryz.ntmps104
  go_wp2_with (first
   | (go_at_call 29; (with_reducible refine (l01In_c _ _ _ _).mono ?_); rintro e w1 ⟨⟨hP, rfl⟩ | ⟨hP, rfl⟩, rfl⟩ <;> first | (exfalso; omega) | skip)
   | (go_at_call 160; (with_reducible refine (HRUN.out _).mono ?_); rintro e w1 ⟨⟨hP3, rfl⟩ | ⟨hP3, rfl⟩, hx1⟩ <;> replace hP3 := Lib.hid hP3))
  ·go_ret
   exact ⟨isB_t (HF.out.1 hP3.out), eX⟩
  ·go_ret
   exact ⟨isB_f (fun h => hP3.out (HF.out.2 h)), eX⟩
 ·have hq' : ¬ (16 ≤ q ∧ q ≤ 31) := fun h => hq ⟨h.1, by show q < 32; omega⟩
  have hnf : ¬ fldOK 2 4 q := fun h => by
   rcases h with ⟨h, _⟩ | ⟨_, _, _, h, _⟩
   ·omega
   ·exact hq h
  have HNF := Lib.hid hnf; clear hnf hq
  go_enter Tryz.func104, Tryz.ntmps104
  go_wp2_with (first
   | (go_at_call 29; (with_reducible refine (l01In_c _ _ _ _).mono ?_); rintro e w1 ⟨⟨hP, rfl⟩ | ⟨hP, rfl⟩, rfl⟩ <;> first | (exfalso; omega) | skip))
  go_ret
  exact ⟨isB_f HNF.out, eX⟩
set_option maxRecDepth 100000 in
theorem sIsFieldB5_c (q : Int) (w : World) :
  Calls Tryz.prog 104 #[vFld 2 5 q] w fun e w' => isB e (fldOK 2 5 q) ∧ Ext w w' := by
 by_cases hq : (2 : Int) ^ 5 ≤ q ∧ q < 2 ^ (5 + 1)
 ·have hq' : 32 ≤ q ∧ q ≤ 63 := by have h1 : 32 ≤ q ∧ q < 64 := hq; omega
  have hrun : ∀ W, Calls Tryz.prog 160 #[vFld 2 5 q, .int .i64 2] W fun e w' => isB e (Runs (xtS 5 q) (2 ^ 5 - 1)) ∧ Ext W w' := fun W => runsB_c 2 5 q W (by omega) hq
  have HRUN := Lib.hid hrun
  have hfin : Runs (xtS 5 q) (2 ^ 5 - 1) ↔ fldOK 2 5 q := by
   refine ⟨fun h => .inr ⟨by omega, rfl, by omega, hq, h⟩, fun h => ?_⟩
   rcases h with ⟨h, _⟩ | ⟨_, _, _, _, h⟩
   ·omega
   ·exact h
  have HF := Lib.hid hfin
  clear hfin hrun hq
  go_enter Tryz.func104, Tryz.ntmps104
  go_wp2_with (first
   | (go_at_call 29; (with_reducible refine (l01In_c _ _ _ _).mono ?_); rintro e w1 ⟨⟨hP, rfl⟩ | ⟨hP, rfl⟩, rfl⟩ <;> first | (exfalso; omega) | skip)
   | (go_at_call 160; (with_reducible refine (HRUN.out _).mono ?_); rintro e w1 ⟨⟨hP3, rfl⟩ | ⟨hP3, rfl⟩, hx1⟩ <;> replace hP3 := Lib.hid hP3))
  ·go_ret
   exact ⟨isB_t (HF.out.1 hP3.out), eX⟩
  ·go_ret
   exact ⟨isB_f (fun h => hP3.out (HF.out.2 h)), eX⟩
 ·have hq' : ¬ (32 ≤ q ∧ q ≤ 63) := fun h => hq ⟨h.1, by show q < 64; omega⟩
  have hnf : ¬ fldOK 2 5 q := fun h => by
   rcases h with ⟨h, _⟩ | ⟨_, _, _, h, _⟩
   ·omega
   ·exact hq h
  have HNF := Lib.hid hnf; clear hnf hq
  go_enter Tryz.func104, Tryz.ntmps104
  go_wp2_with (first
   | (go_at_call 29; (with_reducible refine (l01In_c _ _ _ _).mono ?_); rintro e w1 ⟨⟨hP, rfl⟩ | ⟨hP, rfl⟩, rfl⟩ <;> first | (exfalso; omega) | skip))
  go_ret
  exact ⟨isB_f HNF.out, eX⟩
set_option maxRecDepth 100000 in
theorem sIsFieldB6_c (q : Int) (w : World) :
  Calls Tryz.prog 104 #[vFld 2 6 q] w fun e w' => isB e (fldOK 2 6 q) ∧ Ext w w' := by
 by_cases hq : (2 : Int) ^ 6 ≤ q ∧ q < 2 ^ (6 + 1)
 ·have hq' : 64 ≤ q ∧ q ≤ 127 := by have h1 : 64 ≤ q ∧ q < 128 := hq; omega
  have hrun : ∀ W, Calls Tryz.prog 160 #[vFld 2 6 q, .int .i64 2] W fun e w' => isB e (Runs (xtS 6 q) (2 ^ 6 - 1)) ∧ Ext W w' := fun W => runsB_c 2 6 q W (by omega) hq
  have HRUN := Lib.hid hrun
  have hfin : Runs (xtS 6 q) (2 ^ 6 - 1) ↔ fldOK 2 6 q := by
   refine ⟨fun h => .inr ⟨by omega, rfl, by omega, hq, h⟩, fun h => ?_⟩
   rcases h with ⟨h, _⟩ | ⟨_, _, _, _, h⟩
   ·omega
   ·exact h
  have HF := Lib.hid hfin
  clear hfin hrun hq
  go_enter Tryz.func104, Tryz.ntmps104
  go_wp2_with (first
   | (go_at_call 29; (with_reducible refine (l01In_c _ _ _ _).mono ?_); rintro e w1 ⟨⟨hP, rfl⟩ | ⟨hP, rfl⟩, rfl⟩ <;> first | (exfalso; omega) | skip)
   | (go_at_call 160; (with_reducible refine (HRUN.out _).mono ?_); rintro e w1 ⟨⟨hP3, rfl⟩ | ⟨hP3, rfl⟩, hx1⟩ <;> replace hP3 := Lib.hid hP3))
  ·go_ret
   exact ⟨isB_t (HF.out.1 hP3.out), eX⟩
  ·go_ret
   exact ⟨isB_f (fun h => hP3.out (HF.out.2 h)), eX⟩
 ·have hq' : ¬ (64 ≤ q ∧ q ≤ 127) := fun h => hq ⟨h.1, by show q < 128; omega⟩
  have hnf : ¬ fldOK 2 6 q := fun h => by
   rcases h with ⟨h, _⟩ | ⟨_, _, _, h, _⟩
   ·omega
   ·exact hq h
  have HNF := Lib.hid hnf; clear hnf hq
  go_enter Tryz.func104, Tryz.ntmps104
  go_wp2_with (first
   | (go_at_call 29; (with_reducible refine (l01In_c _ _ _ _).mono ?_); rintro e w1 ⟨⟨hP, rfl⟩ | ⟨hP, rfl⟩, rfl⟩ <;> first | (exfalso; omega) | skip))
  go_ret
  exact ⟨isB_f HNF.out, eX⟩
set_option maxRecDepth 100000 in
theorem sIsFieldB7_c (q : Int) (w : World) :
  Calls Tryz.prog 104 #[vFld 2 7 q] w fun e w' => isB e (fldOK 2 7 q) ∧ Ext w w' := by
 by_cases hq : (2 : Int) ^ 7 ≤ q ∧ q < 2 ^ (7 + 1)
 ·have hq' : 128 ≤ q ∧ q ≤ 255 := by have h1 : 128 ≤ q ∧ q < 256 := hq; omega
  have hrun : ∀ W, Calls Tryz.prog 160 #[vFld 2 7 q, .int .i64 2] W fun e w' => isB e (Runs (xtS 7 q) (2 ^ 7 - 1)) ∧ Ext W w' := fun W => runsB_c 2 7 q W (by omega) hq
  have HRUN := Lib.hid hrun
  have hfin : Runs (xtS 7 q) (2 ^ 7 - 1) ↔ fldOK 2 7 q := by
   refine ⟨fun h => .inr ⟨by omega, rfl, by omega, hq, h⟩, fun h => ?_⟩
   rcases h with ⟨h, _⟩ | ⟨_, _, _, _, h⟩
   ·omega
   ·exact h
  have HF := Lib.hid hfin
  clear hfin hrun hq
  go_enter Tryz.func104, Tryz.ntmps104
  go_wp2_with (first
   | (go_at_call 29; (with_reducible refine (l01In_c _ _ _ _).mono ?_); rintro e w1 ⟨⟨hP, rfl⟩ | ⟨hP, rfl⟩, rfl⟩ <;> first | (exfalso; omega) | skip)
   | (go_at_call 160; (with_reducible refine (HRUN.out _).mono ?_); rintro e w1 ⟨⟨hP3, rfl⟩ | ⟨hP3, rfl⟩, hx1⟩ <;> replace hP3 := Lib.hid hP3))
  ·go_ret
   exact ⟨isB_t (HF.out.1 hP3.out), eX⟩
  ·go_ret
   exact ⟨isB_f (fun h => hP3.out (HF.out.2 h)), eX⟩
 ·have hq' : ¬ (128 ≤ q ∧ q ≤ 255) := fun h => hq ⟨h.1, by show q < 256; omega⟩
  have hnf : ¬ fldOK 2 7 q := fun h => by
   rcases h with ⟨h, _⟩ | ⟨_, _, _, h, _⟩
   ·omega
   ·exact hq h
  have HNF := Lib.hid hnf; clear hnf hq
  go_enter Tryz.func104, Tryz.ntmps104
  go_wp2_with (first
   | (go_at_call 29; (with_reducible refine (l01In_c _ _ _ _).mono ?_); rintro e w1 ⟨⟨hP, rfl⟩ | ⟨hP, rfl⟩, rfl⟩ <;> first | (exfalso; omega) | skip))
  go_ret
  exact ⟨isB_f HNF.out, eX⟩
set_option maxRecDepth 100000 in
theorem sIsFieldB8_c (q : Int) (w : World) :
  Calls Tryz.prog 104 #[vFld 2 8 q] w fun e w' => isB e (fldOK 2 8 q) ∧ Ext w w' := by
 by_cases hq : (2 : Int) ^ 8 ≤ q ∧ q < 2 ^ (8 + 1)
 ·have hq' : 256 ≤ q ∧ q ≤ 511 := by have h1 : 256 ≤ q ∧ q < 512 := hq; omega
  have hrun : ∀ W, Calls Tryz.prog 160 #[vFld 2 8 q, .int .i64 2] W fun e w' => isB e (Runs (xtS 8 q) (2 ^ 8 - 1)) ∧ Ext W w' := fun W => runsB_c 2 8 q W (by omega) hq
  have HRUN := Lib.hid hrun
  have hfin : Runs (xtS 8 q) (2 ^ 8 - 1) ↔ fldOK 2 8 q := by
   refine ⟨fun h => .inr ⟨by omega, rfl, by omega, hq, h⟩, fun h => ?_⟩
   rcases h with ⟨h, _⟩ | ⟨_, _, _, _, h⟩
   ·omega
   ·exact h
  have HF := Lib.hid hfin
  clear hfin hrun hq
  go_enter Tryz.func104, Tryz.ntmps104
  go_wp2_with (first
   | (go_at_call 29; (with_reducible refine (l01In_c _ _ _ _).mono ?_); rintro e w1 ⟨⟨hP, rfl⟩ | ⟨hP, rfl⟩, rfl⟩ <;> first | (exfalso; omega) | skip)
   | (go_at_call 160; (with_reducible refine (HRUN.out _).mono ?_); rintro e w1 ⟨⟨hP3, rfl⟩ | ⟨hP3, rfl⟩, hx1⟩ <;> replace hP3 := Lib.hid hP3))
  ·go_ret
   exact ⟨isB_t (HF.out.1 hP3.out), eX⟩
  ·go_ret
   exact ⟨isB_f (fun h => hP3.out (HF.out.2 h)), eX⟩
 ·have hq' : ¬ (256 ≤ q ∧ q ≤ 511) := fun h => hq ⟨h.1, by show q < 512; omega⟩
  have hnf : ¬ fldOK 2 8 q := fun h => by
   rcases h with ⟨h, _⟩ | ⟨_, _, _, h, _⟩
   ·omega
   ·exact hq h
  have HNF := Lib.hid hnf; clear hnf hq
  go_enter Tryz.func104, Tryz.ntmps104
  go_wp2_with (first
   | (go_at_call 29; (with_reducible refine (l01In_c _ _ _ _).mono ?_); rintro e w1 ⟨⟨hP, rfl⟩ | ⟨hP, rfl⟩, rfl⟩ <;> first | (exfalso; omega) | skip))
  go_ret
  exact ⟨isB_f HNF.out, eX⟩
set_option maxRecDepth 100000 in
theorem sIsFieldN_c (p k q : Int) (w : World) (hk1 : k ≠ 1) (hno : ¬ (p = 2 ∧ (3 ≤ k ∧ k ≤ 8))) :
  Calls Tryz.prog 104 #[vFld p k q] w fun e w' => isB e (fldOK p k q) ∧ Ext w w' := by
 have hnf : ¬ fldOK p k q := fun h => by
  rcases h with ⟨h1, _⟩ | ⟨_, h1, h2, _⟩
  ·exact hk1 h1
  ·exact hno ⟨h1, h2⟩
 have HNF := Lib.hid hnf; clear hnf
 have hk1' : (k == 1) = false := by simpa using hk1
 by_cases h2 : p = 2
 ·subst h2
  have h3 : ¬ (3 ≤ k ∧ k ≤ 8) := fun h => hno ⟨rfl, h⟩
  clear hno
  go_enter Tryz.func104, Tryz.ntmps104
  go_wp2_with (first
   | (go_at_call 29; (with_reducible refine (l01In_c _ _ _ _).mono ?_); rintro e w1 ⟨⟨hP, rfl⟩ | ⟨hP, rfl⟩, rfl⟩ <;> first | contradiction | skip))
  go_ret
  exact ⟨isB_f HNF.out, eX⟩
 ·have hp2 : (p != 2) = true := by simpa using h2
  clear hno
  go_enter Tryz.func104, Tryz.ntmps104
  go_wp2
  go_ret
  exact ⟨isB_f HNF.out, eX⟩
theorem sIsField_c (p k q : Int) (w : World) :
  Calls Tryz.prog 104 #[vFld p k q] w fun e w' => isB e (fldOK p k q) ∧ Ext w w' := by
 by_cases h1 : k = 1
 ·subst h1
  exact sIsField1_c p q w
 ·by_cases h2 : p = 2 ∧ (3 ≤ k ∧ k ≤ 8)
  ·obtain ⟨rfl, h3⟩ := h2
   have : k = 3 ∨ k = 4 ∨ k = 5 ∨ k = 6 ∨ k = 7 ∨ k = 8 := by omega
   rcases this with rfl | rfl | rfl | rfl | rfl | rfl
   ·exact sIsFieldB3_c q w
   ·exact sIsFieldB4_c q w
   ·exact sIsFieldB5_c q w
   ·exact sIsFieldB6_c q w
   ·exact sIsFieldB7_c q w
   ·exact sIsFieldB8_c q w
  ·exact sIsFieldN_c p k q w h1 h2
end Go.Proofs.YtdnkljpnhmcnpaaGreat
