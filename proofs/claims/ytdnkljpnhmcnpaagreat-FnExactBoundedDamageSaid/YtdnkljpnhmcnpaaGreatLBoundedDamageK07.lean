/- The arithmetic of a field: the tables are filled. -/
import Derived.Test.YtdnkljpnhmcnpaaGreatLBoundedDamageK00
import Derived.Test.YtdnkljpnhmcnpaaGreatLBoundedDamageK06
import Derived.Test.YtdnkljpnhmcnpaaGreatLBoundedDamageK04
set_option linter.unusedVariables false
set_option linter.unusedSimpArgs false
namespace Go.Proofs.YtdnkljpnhmcnpaaGreat
open Go.RowKit

def itS (t : Int → Int) : Nat → Int
 | 0 => 1
 | n + 1 => t (itS t n)
def Runs (t : Int → Int) (N : Nat) : Prop := (∀ n, n < N → itS t n ≠ 0 ∧ (0 < n → itS t n ≠ 1)) ∧ itS t N = 1
theorem itS_bd {t : Int → Int} {size : Int} (h3 : 3 ≤ size) (ht : ∀ x, 0 ≤ x ∧ x < size → 0 ≤ t x ∧ t x < size) : ∀ n, 0 ≤ itS t n ∧ itS t n < size := by
 intro n
 induction n with
 | zero => exact ⟨by show (0 : Int) ≤ 1; omega, by show (1 : Int) < size; omega⟩
 | succ n ih => exact ht _ ih

def CalcS (cs : Array Value) (bin : Bool) (size : Int) : Prop := cs.size = 2044 ∧ cs[0]? = some (.bool bin) ∧ cs[1]? = some (.int .i64 size) ∧ ∀ i, 2 ≤ i → i < 2044 → ∃ n, cs[i]? = some (.int .i64 n)
theorem CalcS.set {cs : Array Value} {bin : Bool} {size : Int} (h : CalcS cs bin size) {i : Nat} (hi : 2 ≤ i) (n : Int) : CalcS (cs.setIfInBounds i (.int .i64 n)) bin size := by
 obtain ⟨h1, h2, h3, h4⟩ := h
 refine ⟨by simpa using h1, by rw [Array.getElem?_setIfInBounds_ne (by omega)]; exact h2, by rw [Array.getElem?_setIfInBounds_ne (by omega)]; exact h3, fun j h5 h6 => ?_⟩
 by_cases e : i = j
 ·subst e
  exact ⟨n, by rw [Array.getElem?_setIfInBounds_self_of_lt (by omega)]⟩
 ·rw [Array.getElem?_setIfInBounds_ne e]
  exact h4 j h5 h6
def CalcB (w : World) (g : Nat) (bin : Bool) (size : Int) : Prop := ∃ cs, Blk w g cs 238 ∧ CalcS cs bin size
theorem CalcB.ext {w w' : World} {g : Nat} {bin : Bool} {size : Int} (h : CalcB w g bin size) (hb : Ext w w') : CalcB w' g bin size := by
 obtain ⟨cs, h1, h2⟩ := h
 exact ⟨cs, h1.ext hb, h2⟩
theorem CalcB.sizeCell {w : World} {g : Nat} {bin : Bool} {size : Int} (h : CalcB w g bin size) : w.cell? ⟨g, 1, none⟩ = some (.int .i64 size) := by
 obtain ⟨cs, h1, h2⟩ := h
 exact h1.cell h2.2.2.1

theorem mulFn_c (x g p : Int) (bg bp : Nat) (w : World) (h1 : w.cell? ⟨bg, 0, none⟩ = some (.int .i64 g)) (h2 : w.cell? ⟨bp, 0, none⟩ = some (.int .i64 p)) (hx : 0 ≤ x ∧ x < 100000) (hg : 0 ≤ g ∧ g < 100000) (hp : 1 ≤ p ∧ p < 100000) :
  Calls Tryz.prog 220 #[.int .i64 x, .pointer (some ⟨bg, 0, none⟩), .pointer (some ⟨bp, 0, none⟩)] w fun e w' => e = .returned (.int .i64 (x * g % p)) ∧ w = w' := by
 have hm : 0 ≤ x * g := Int.mul_nonneg hx.1 hg.1
 have hm2 : x * g ≤ 100000 * 100000 := Int.mul_le_mul (by omega) (by omega) hg.1 (by omega)
 have hne : ¬ p = 0 := by omega
 have e1 : (x * g).tmod p = x * g % p := Int.tmod_eq_emod_of_nonneg hm
 have b1 : x * g % p < p := Int.emod_lt_of_pos _ (by omega)
 have b2 : 0 ≤ x * g % p := Int.emod_nonneg _ hne
 have e2 := IntWalk.i64_in (x * g) (by omega)
 have e3 := IntWalk.i64_in (x * g % p) (by omega)
 go_enter Tryz.func220, Tryz.ntmps220
 go_wp2
 go_ret
 exact ⟨rfl, rfl⟩

def FillR (t : Int → Int) (N g : Nat) (bin : Bool) (size : Int) (w : World) (e : Ending) (w' : World) : Prop := isB e (Runs t N) ∧ CalcB w' g bin size ∧ But g w w'

set_option maxRecDepth 100000 in
theorem fill1_c (t : Int → Int) (size p gn : Int) (N g bg bp : Nat) (bin : Bool) (w : World) (hN : size = N + 1) (h3 : 3 ≤ size ∧ size ≤ 1021) (ht : ∀ x, 0 ≤ x ∧ x < size → 0 ≤ t x ∧ t x < size) (hc : CalcB w g bin size)
  (q1 : w.cell? ⟨bg, 0, none⟩ = some (.int .i64 gn)) (q2 : w.cell? ⟨bp, 0, none⟩ = some (.int .i64 p)) (hbg : bg ≠ g ∧ bg < w.heap.size) (hbp : bp ≠ g ∧ bp < w.heap.size) (hgn : 0 ≤ gn ∧ gn < 100000) (hp : 1 ≤ p ∧ p < 100000) (htt : ∀ x, t x = x * gn % p) :
  Calls Tryz.prog 216 #[.pointer (some ⟨g, 0, none⟩), .func (.func 220) #[] #[.pointer (some ⟨bg, 0, none⟩), .pointer (some ⟨bp, 0, none⟩)]] w fun e w' => FillR t N g bin size w e w' := by
 have hbd := Lib.hid (itS_bd h3.1 ht)
 have HTT := Lib.hid htt; clear htt ht
 have HQ1 := Lib.hid q1; have HQ2 := Lib.hid q2; clear q1 q2
 have HN := Lib.hid hN
 have hsz : size - 1 = N := by omega
 go_enter Tryz.func216, Tryz.ntmps216
 go_wp2
 go_loopw [5, 6] (fun x i wr => ∃ n : Nat, n ≤ N ∧ x = .int .i64 (itS t n) ∧ i = .int .i64 n ∧ Hid (∀ m, m < n → itS t m ≠ 0 ∧ (0 < m → itS t m ≠ 1)) ∧ CalcB wr g bin size ∧ But g w wr) (fun _ i _ => N - (intOf i).toNat)
 case atStart => exact ⟨0, Nat.zero_le _, rfl, rfl, Lib.hid (fun m hm => by omega), hc, But.refl _ _⟩
 case round =>
  clear hc
  obtain ⟨n, hn, rfl, rfl, hR, ⟨cs, hb, hS⟩, hbut⟩ := hrel
  have q1 := hb.cell hS.2.2.1
  have q2 := hb.lt
  have q3 := hb.free
  have hx := hbd.out n
  have hx2 := hbd.out (n + 1)
  have hst := Lib.hid (show itS t (n + 1) = t (itS t n) from rfl)
  by_cases hlt : n < N
  ·have hd : (n : Int) < size - 1 := by omega
   have hst2 : itS t (n + 1) = itS t n * gn % p := by rw [hst.out, HTT.out]
   have hno : (itS t n = 0 ∨ (0 < n ∧ itS t n = 1)) → ¬ Runs t N := fun h k => by
    have := k.1 n hlt
    rcases h with h | ⟨h0, h⟩
    ·exact this.1 h
    ·exact this.2 h0 h
   have hok : ¬ (itS t n = 0 ∨ (0 < n ∧ itS t n = 1)) → ∀ m, m < n + 1 → itS t m ≠ 0 ∧ (0 < m → itS t m ≠ 1) := fun h m hm => by
    rcases Nat.lt_or_ge m n with h1 | h1
    ·exact hR.out m h1
    ·obtain rfl : m = n := by omega
     exact ⟨fun e => h (.inl e), fun h0 e => h (.inr ⟨h0, e⟩)⟩
   have HST := Lib.hid hst2; have HNO := Lib.hid hno; have HOK := Lib.hid hok; clear hst2 hst hno hok
   generalize itS t n = X at *
   obtain ⟨k, rfl⟩ : ∃ k : Nat, X = k := ⟨X.toNat, by omega⟩
   by_cases hbad : (k : Int) = 0 ∨ (0 < n ∧ (k : Int) = 1)
   ·have hnr := HNO.out hbad
    rcases hbad with h0 | ⟨h0, h1⟩
    ·obtain rfl : k = 0 := by omega
     go_wp2
     go_ret
     exact ⟨isB_f hnr, ⟨cs, hb, hS⟩, hbut⟩
    ·obtain rfl : k = 1 := by omega
     have h0' : (0 : Int) < n := by omega
     go_wp2
     go_ret
     exact ⟨isB_f hnr, ⟨cs, hb, hS⟩, hbut⟩
   ·have hk1 : ((k : Int) == 0) = false := by simp; omega
    have hk2 : 0 < n → ((k : Int) == 1) = false := fun h => by simp; omega
    have HK := Lib.hid (HOK.out hbad)
    obtain ⟨v1, hv1⟩ := hS.2.2.2 (2 + n) (by omega) (by omega)
    obtain ⟨v2, hv2⟩ := (hS.set (i := 2 + n) (by omega) k).2.2.2 (1023 + k) (by omega) (by omega)
    have hS2 := (hS.set (i := 2 + n) (by omega) k).set (i := 1023 + k) (by omega) n
    have hb1 := hb.set (2 + n) (.int .i64 k)
    have c1 := hb.cell hv1
    have c2 := hb1.cell hv2
    have hb2 := hb1.set (1023 + k) (.int .i64 n)
    have hbut2 := (hbut.trans (But.set wr g (2 + n) (.int .i64 k))).trans (But.set _ g (1023 + k) (.int .i64 n))
    have hbut2' := Lib.hid hbut2
    obtain ⟨bc, bf, bk, bz⟩ := bucell hbut2
    have g1 := (bc bg 0 hbg.2 hbg.1).trans HQ1.out
    have g2 := (bc bp 0 hbp.2 hbp.1).trans HQ2.out
    clear bc bf bk bz hbut2 hbut HNO HOK hbad
    have hk21 : (k : Int) < 1021 := by omega
    have hn21 : (n : Int) < 1021 := by omega
    have hS2 := Lib.hid hS2
    have hb2 := Lib.hid hb2
    have hkn : k < N + 1 := by omega
    by_cases h0 : 0 < n
    ·have hk2 := hk2 h0
     have h0' : (0 : Int) < n := by omega
     clear hN
     go_wp2_with (first
      | (go_at_call 220; (with_reducible refine (mulFn_c _ gn p bg bp _ g1 g2 (by omega) hgn hp).mono ?_); rintro e w1 ⟨rfl, rfl⟩))
     go_roundw
     case rel => exact ⟨n + 1, hlt, by rw [HST.out], by go_num, HK, ⟨_, hb2.out, hS2.out⟩, hbut2'.out⟩
     case measure => simp [intOf]; omega
    ·have h0' : ¬ (0 : Int) < n := by omega
     clear hk2 hN
     go_wp2_with (first
      | (go_at_call 220; (with_reducible refine (mulFn_c _ gn p bg bp _ g1 g2 (by omega) hgn hp).mono ?_); rintro e w1 ⟨rfl, rfl⟩))
     go_roundw
     case rel => exact ⟨n + 1, hlt, by rw [HST.out], by go_num, HK, ⟨_, hb2.out, hS2.out⟩, hbut2'.out⟩
     case measure => simp [intOf]; omega
  ·obtain rfl : n = N := by omega
   have hd : ¬ (n : Int) < size - 1 := by omega
   clear hN
   by_cases h1 : itS t n = 1
   ·have hyes : Runs t n := ⟨hR.out, h1⟩
    rw [h1]
    clear h1
    go_wp2
    go_ret
    exact ⟨isB_t hyes, ⟨cs, hb, hS⟩, hbut⟩
   ·have hno : ¬ Runs t n := fun k => h1 k.2
    have hb1 : (itS t n == 1) = false := by simpa using h1
    generalize itS t n = X at *
    go_wp2
    go_ret
    exact ⟨isB_f hno, ⟨cs, hb, hS⟩, hbut⟩
open Go.RowKit

def gpS (g p x : Int) : Int := x * g % p
theorem gpS_bd {g p : Int} (hp : 3 ≤ p) : ∀ x, 0 ≤ x ∧ x < p → 0 ≤ gpS g p x ∧ gpS g p x < p := fun x _ => ⟨Int.emod_nonneg _ (by omega), Int.emod_lt_of_pos _ (by omega)⟩
def isZeroI : Value → Bool
 | .int .i64 0 => true
 | _ => false
theorem isZeroI_eq {v : Value} (h : isZeroI v = true) : v = .int .i64 0 := by
 unfold isZeroI at h
 split at h
 ·rfl
 ·simp at h
theorem zc_all : (Tryz.zeroCells238.toList.drop 2).all isZeroI = true := by decide +kernel
theorem zc_size : Tryz.zeroCells238.size = 2044 := Tryz.zeroCells238_size
theorem zc_at {i : Nat} (h1 : 2 ≤ i) (h2 : i < 2044) : Tryz.zeroCells238[i]? = some (.int .i64 0) := by
 have hs := zc_size
 rw [Array.getElem?_eq_getElem (by omega)]
 congr 1
 refine isZeroI_eq (List.all_eq_true.1 zc_all _ ?_)
 rw [List.mem_iff_getElem]
 refine ⟨i - 2, by simp; omega, ?_⟩
 simp [show 2 + (i - 2) = i by omega]
theorem zc_0 : Tryz.zeroCells238[0]? = some (.bool false) := by kernel_rfl
theorem calcZero (n : Int) : CalcS (Tryz.zeroCells238.setIfInBounds 1 (.int .i64 n)) false n := by
 have hs := zc_size
 refine ⟨by simp, by rw [Array.getElem?_setIfInBounds_ne (by omega)]; exact zc_0, by rw [Array.getElem?_setIfInBounds_self_of_lt (by omega)], fun i h1 h2 => ⟨0, ?_⟩⟩
 rw [Array.getElem?_setIfInBounds_ne (by omega)]
 exact zc_at h1 h2
theorem calcZero2 (n : Int) : CalcS ((Tryz.zeroCells238.setIfInBounds 0 (.bool true)).setIfInBounds 1 (.int .i64 n)) true n := by
 have hs := zc_size
 refine ⟨by simp, by rw [Array.getElem?_setIfInBounds_ne (by omega), Array.getElem?_setIfInBounds_self_of_lt (by omega)], by rw [Array.getElem?_setIfInBounds_self_of_lt (by rw [Array.size_setIfInBounds]; omega)], fun i h1 h2 => ⟨0, ?_⟩⟩
 rw [Array.getElem?_setIfInBounds_ne (by omega), Array.getElem?_setIfInBounds_ne (by omega)]
 exact zc_at h1 h2

def PpR (t : Int → Int) (N : Nat) (bin : Bool) (size : Int) (e : Ending) (w' : World) : Prop := ∃ (g : Nat) (b : Bool), e = .returned (.tuple #[.pointer (some ⟨g, 0, none⟩), .bool b]) ∧ (b = true ↔ Runs t N) ∧ CalcB w' g bin size
set_option maxRecDepth 100000 in
theorem primePowers_c (g p : Int) (N : Nat) (w : World) (hN : p = N + 1) (hp : 3 ≤ p ∧ p ≤ 1021) (hg : 0 ≤ g ∧ g < 100000) :
  Calls Tryz.prog 210 #[.int .i64 p, .int .i64 g] w fun e w' => PpR (gpS g p) N false p e w' ∧ Ext w w' := by
 have hz := calcZero p
 have hb1 := (Blk.new w #[.int .i64 p] 2).alloc (.cells #[.int .i64 g] 2)
 have hb2 := Blk.new (w.alloc (.cells #[.int .i64 p] 2)) #[.int .i64 g] 2
 have hb3 := Blk.new ((w.alloc (.cells #[.int .i64 p] 2)).alloc (.cells #[.int .i64 g] 2)) (Tryz.zeroCells238.setIfInBounds 1 (.int .i64 p)) 238
 simp only [World.size_alloc] at hb2 hb3
 have hcb : CalcB _ _ false p := ⟨_, hb3, hz⟩
 have hq1 := (hb2.alloc (.cells (Tryz.zeroCells238.setIfInBounds 1 (.int .i64 p)) 238)).cell (i := 0) (v := .int .i64 g) rfl
 have hq2 := (hb1.alloc (.cells (Tryz.zeroCells238.setIfInBounds 1 (.int .i64 p)) 238)).cell (i := 0) (v := .int .i64 p) rfl
 have HC := Lib.hid hcb; have HQ1 := Lib.hid hq1; have HQ2 := Lib.hid hq2
 clear hz hb1 hb2 hb3 hcb hq1 hq2
 have HN := Lib.hid hN; clear hN
 go_enter Tryz.func210, Tryz.ntmps210
 go_wp2_with fail
 refine (fill1_c (gpS g p) p p g N _ _ _ false _ HN.out hp (gpS_bd hp.1) HC.out HQ1.out HQ2.out (by simp) (by simp; omega) hg (by omega) (fun _ => rfl)).mono ?_
 rintro e w1 ⟨⟨hR, rfl⟩ | ⟨hR, rfl⟩, hcb, hbut⟩
 all_goals
  have hE : Ext w w1 := ((((Ext.refl w).alloc _).alloc _).alloc _).but hbut (by omega)
  clear hbut
  go_wp2
  go_ret2
 ·exact ⟨⟨_, true, rfl, ⟨fun _ => hR, fun _ => rfl⟩, hcb⟩, hE⟩
 ·exact ⟨⟨_, false, rfl, ⟨fun h => (by simp at h), fun h => absurd h hR⟩, hcb⟩, hE⟩
open Go.RowKit

def isPr (n : Int) : Prop := ∀ d : Nat, 2 ≤ d → (d : Int) * d ≤ n → n % d ≠ 0

set_option maxRecDepth 100000 in
theorem isPrime_c (n : Int) (w : World) (hn : 3 ≤ n ∧ n ≤ 1021) : Calls Tryz.prog 209 #[.int .i64 n] w fun e w' => isB e (isPr n) ∧ w = w' := by
 go_enter Tryz.func209, Tryz.ntmps209
 go_wp2
 go_loop [3] (fun i => ∃ d : Nat, 2 ≤ d ∧ (d : Int) ≤ n ∧ i = .int .i64 d ∧ Hid (∀ e : Nat, 2 ≤ e → e < d → n % e ≠ 0)) (fun i => (n + 1 - intOf i).toNat)
 case atStart => exact ⟨2, by omega, by omega, rfl, Lib.hid (fun e h1 h2 => by omega)⟩
 case round =>
  obtain ⟨d, hd2, hdn, rfl, hR⟩ := hrel
  have hDa : 0 ≤ (d : Int) * d := Int.mul_nonneg (by omega) (by omega)
  have hDb : (d : Int) * d ≤ 1021 * 1021 := Int.mul_le_mul (by omega) (by omega) (by omega) (by omega)
  by_cases hlt : (d : Int) * d ≤ n
  ·have hdlt : (d : Int) < n := by
    have h2 : 2 * (d : Int) ≤ d * d := Int.mul_le_mul_of_nonneg_right (by omega) (by omega)
    omega
   have hDD := hlt
   have e1 : (n).tmod (d : Int) = n % d := Int.tmod_eq_emod_of_nonneg (by omega)
   have hne : ¬ (d : Int) = 0 := by omega
   have hm := Int.emod_nonneg n hne
   have hm2 := Int.emod_lt_of_pos n (show (0 : Int) < d by omega)
   by_cases h0 : n % (d : Int) = 0
   ·have hno : ¬ isPr n := fun h => h d hd2 hDD h0
    have HNO := Lib.hid hno; clear hno hR
    have h0' : (n % (d : Int) == 0) = true := by simpa using h0
    have h00 := Lib.hid h0; clear h0
    go_wp2
    go_ret
    exact ⟨isB_f HNO.out, rfl⟩
   ·have hR2 : ∀ e : Nat, 2 ≤ e → e < d + 1 → n % e ≠ 0 := fun e h1 h2 => by
     rcases Nat.lt_or_ge e d with h | h
     ·exact hR.out e h1 h
     ·obtain rfl : e = d := by omega
      exact h0
    have HR2 := Lib.hid hR2; clear hR2 hR
    have h0' : (n % (d : Int) == 0) = false := by simpa using h0
    have h00 := Lib.hid h0; clear h0
    go_wp2
    go_round
    case rel => exact ⟨d + 1, by omega, by omega, by go_num, HR2⟩
    case measure => simp [intOf]; omega
  ·have hyes : isPr n := fun e h1 h2 h3 => by
    rcases Nat.lt_or_ge e d with h | h
    ·exact hR.out e h1 h h3
    ·have : (d : Int) * d ≤ e * e := Int.mul_le_mul (by omega) (by omega) (by omega) (by omega)
     omega
   have HY := Lib.hid hyes; clear hyes hR
   have h2n : decide (2 ≤ n) = true := by simp; omega
   go_wp2
   go_ret
   exact ⟨isB_t HY.out, rfl⟩
set_option maxRecDepth 100000 in
theorem l02Prime_c (n : Int) (w : World) (hn : 3 ≤ n ∧ n ≤ 1021) : Calls Tryz.prog 159 #[.int .i64 n] w fun e w' => isB e (isPr n) ∧ w = w' := by
 go_enter Tryz.func159, Tryz.ntmps159
 go_wp2
 go_loop [3] (fun i => ∃ d : Nat, 2 ≤ d ∧ (d : Int) ≤ n ∧ i = .int .i64 d ∧ Hid (∀ e : Nat, 2 ≤ e → e < d → n % e ≠ 0)) (fun i => (n + 1 - intOf i).toNat)
 case atStart => exact ⟨2, by omega, by omega, rfl, Lib.hid (fun e h1 h2 => by omega)⟩
 case round =>
  obtain ⟨d, hd2, hdn, rfl, hR⟩ := hrel
  have hDa : 0 ≤ (d : Int) * d := Int.mul_nonneg (by omega) (by omega)
  have hDb : (d : Int) * d ≤ 1021 * 1021 := Int.mul_le_mul (by omega) (by omega) (by omega) (by omega)
  by_cases hlt : (d : Int) * d ≤ n
  ·have hdlt : (d : Int) < n := by
    have h2 : 2 * (d : Int) ≤ d * d := Int.mul_le_mul_of_nonneg_right (by omega) (by omega)
    omega
   have hDD := hlt
   have e1 : (n).tmod (d : Int) = n % d := Int.tmod_eq_emod_of_nonneg (by omega)
   have hne : ¬ (d : Int) = 0 := by omega
   have hm := Int.emod_nonneg n hne
   have hm2 := Int.emod_lt_of_pos n (show (0 : Int) < d by omega)
   by_cases h0 : n % (d : Int) = 0
   ·have hno : ¬ isPr n := fun h => h d hd2 hDD h0
    have HNO := Lib.hid hno; clear hno hR
    have h0' : (n % (d : Int) == 0) = true := by simpa using h0
    have h00 := Lib.hid h0; clear h0
    go_wp2
    go_ret
    exact ⟨isB_f HNO.out, rfl⟩
   ·have hR2 : ∀ e : Nat, 2 ≤ e → e < d + 1 → n % e ≠ 0 := fun e h1 h2 => by
     rcases Nat.lt_or_ge e d with h | h
     ·exact hR.out e h1 h
     ·obtain rfl : e = d := by omega
      exact h0
    have HR2 := Lib.hid hR2; clear hR2 hR
    have h0' : (n % (d : Int) == 0) = false := by simpa using h0
    have h00 := Lib.hid h0; clear h0
    go_wp2
    go_round
    case rel => exact ⟨d + 1, by omega, by omega, by go_num, HR2⟩
    case measure => simp [intOf]; omega
  ·have hyes : isPr n := fun e h1 h2 h3 => by
    rcases Nat.lt_or_ge e d with h | h
    ·exact hR.out e h1 h h3
    ·have : (d : Int) * d ≤ e * e := Int.mul_le_mul (by omega) (by omega) (by omega) (by omega)
     omega
   have HY := Lib.hid hyes; clear hyes hR
   have h2n : decide (2 ≤ n) = true := by simp; omega
   go_wp2
   go_ret
   exact ⟨isB_t HY.out, rfl⟩
open Go.RowKit

def xtS (k : Nat) (q x : Int) : Int := if 2 * x < 2 ^ k then 2 * x else (((2 * x).toNat ^^^ q.toNat : Nat) : Int)
def fldOK (p k q : Int) : Prop :=
 (k = 1 ∧ (3 ≤ p ∧ p ≤ 1021) ∧ isPr p ∧ (1 ≤ q ∧ q ≤ p - 1) ∧ (∀ g : Int, 1 ≤ g → g < q → ¬ Runs (gpS g p) (p - 1).toNat) ∧ Runs (gpS q p) (p - 1).toNat) ∨
 (k ≠ 1 ∧ p = 2 ∧ (3 ≤ k ∧ k ≤ 8) ∧ (2 ^ k.toNat ≤ q ∧ q < 2 ^ (k.toNat + 1)) ∧ Runs (xtS k.toNat q) (2 ^ k.toNat - 1))
def fldSize (p k : Int) : Int := if k = 1 then p else 2 ^ k.toNat
abbrev vFld (p k q : Int) : Value := .agg #[.int .i64 p, .int .i64 k, .int .i64 q]
def CalcR (p k q : Int) (e : Ending) (w' : World) : Prop :=
 (fldOK p k q ∧ ∃ (g : Nat) (b : Bool), e = .returned (.tuple #[.pointer (some ⟨g, 0, none⟩), .bool true]) ∧ CalcB w' g b (fldSize p k)) ∨ (¬ fldOK p k q ∧ ∃ v, e = .returned (.tuple #[v, .bool false]))

theorem runs_one {p : Int} (hp : 3 ≤ p) : ¬ Runs (gpS 1 p) (p - 1).toNat := fun h => by
 have h1 : itS (gpS 1 p) 1 = 1 := by
  show 1 * 1 % p = 1
  rw [Int.one_mul]
  exact Int.emod_eq_of_lt (by omega) (by omega)
 exact (h.1 1 (by omega)).2 (by omega) h1

set_option maxRecDepth 100000 in
theorem calcP_no (p q : Int) (w : World) (hno : ¬ ((3 ≤ p ∧ p ≤ 1021) ∧ isPr p)) :
  Calls Tryz.prog 185 #[vFld p 1 q] w fun e w' => CalcR p 1 q e w' ∧ Ext w w' := by
 have hnf : ¬ fldOK p 1 q := fun h => by
  rcases h with ⟨_, h1, h2, _⟩ | ⟨h1, _⟩
  ·exact hno ⟨h1, h2⟩
  ·exact h1 rfl
 have HNF := Lib.hid hnf; clear hnf
 by_cases h1 : 3 ≤ p ∧ p ≤ 1021
 ·have h2 : ¬ isPr p := fun h => hno ⟨h1, h⟩
  have hp2 : (p == 2) = false := by simp; omega
  clear hno
  go_enter Tryz.func185, Tryz.ntmps185
  go_wp2_with (first
   | (go_at_call 35; (with_reducible refine (inRange_c _ _ _ _).mono ?_); rintro e w1 ⟨⟨hP, rfl⟩ | ⟨hP, rfl⟩, rfl⟩ <;> try contradiction)
   | (go_at_call 209; (with_reducible refine (isPrime_c _ _ h1).mono ?_); rintro e w1 ⟨⟨hP, rfl⟩ | ⟨hP, rfl⟩, rfl⟩ <;> try contradiction))
  go_ret2
  exact ⟨.inr ⟨HNF.out, _, rfl⟩, eX⟩
 ·clear hno
  by_cases h2 : p = 2
  ·subst h2
   go_enter Tryz.func185, Tryz.ntmps185
   go_wp2_with (first
    | (go_at_call 35; (with_reducible refine (inRange_c _ _ _ _).mono ?_); rintro e w1 ⟨⟨hP, rfl⟩ | ⟨hP, rfl⟩, rfl⟩ <;> first | contradiction | (exfalso; omega) | skip))
   go_ret2
   exact ⟨.inr ⟨HNF.out, _, rfl⟩, eX⟩
  ·have hp2 : (p == 2) = false := by simpa using h2
   go_enter Tryz.func185, Tryz.ntmps185
   go_wp2_with (first
    | (go_at_call 35; (with_reducible refine (inRange_c _ _ _ _).mono ?_); rintro e w1 ⟨⟨hP, rfl⟩ | ⟨hP, rfl⟩, rfl⟩ <;> first | contradiction | (exfalso; omega) | skip))
   go_ret2
   exact ⟨.inr ⟨HNF.out, _, rfl⟩, eX⟩

set_option maxRecDepth 100000 in
theorem calcP_yes (p q : Int) (w : World) (h1 : 3 ≤ p ∧ p ≤ 1021) (h2 : isPr p) :
  Calls Tryz.prog 185 #[vFld p 1 q] w fun e w' => CalcR p 1 q e w' ∧ Ext w w' := by
 obtain ⟨N, hN⟩ : ∃ N : Nat, p = N + 1 := ⟨(p - 1).toNat, by omega⟩
 have hNt : (p - 1).toNat = N := by omega
 have hb := Blk.new w #[.int .i64 p, .int .i64 1, .int .i64 q] 53
 have HPR := Lib.hid h2
 have HN := Lib.hid hN; have HNT := Lib.hid hNt
 have hx0 : Ext w (w.alloc (.cells #[.int .i64 p, .int .i64 1, .int .i64 q] 53)) := (Ext.refl w).alloc _
 go_enter Tryz.func185, Tryz.ntmps185
 clear hN hNt
 go_wp2_with (first
  | (go_at_call 35; (with_reducible refine (inRange_c _ _ _ _).mono ?_); rintro e w1 ⟨⟨hP, rfl⟩ | ⟨hP, rfl⟩, rfl⟩ <;> try contradiction)
  | (go_at_call 209; (with_reducible refine (isPrime_c _ _ h1).mono ?_); rintro e w1 ⟨⟨hP2, rfl⟩ | ⟨hP2, rfl⟩, rfl⟩ <;> try contradiction))
 generalize hw0 : w.alloc (.cells #[.int .i64 p, .int .i64 1, .int .i64 q] 53) = w0 at *
 clear hw0
 go_loopw [4] (fun i wr => ∃ d : Nat, 2 ≤ d ∧ (d : Int) ≤ p ∧ i = .int .i64 d ∧ Hid (∀ e : Int, 1 ≤ e → e < d → ¬ Runs (gpS e p) N) ∧ Ext w0 wr) (fun i _ => (p - intOf i).toNat)
 case atStart => exact ⟨2, by omega, by omega, rfl, Lib.hid (fun e he h3 => by obtain rfl : e = 1 := by omega
                                                                               have := runs_one h1.1
                                                                               rwa [HNT.out] at this), eX⟩
 case round =>
  obtain ⟨d, hd2, hdp, rfl, hR, hext⟩ := hrel
  have hbr := hb.ext hext
  have q0 := hbr.cell (i := 0) (v := .int .i64 p) rfl
  have q2 := hbr.cell (i := 2) (v := .int .i64 q) rfl
  have ql := hbr.lt
  by_cases hlt : (d : Int) < p
  ·go_wp2_with fail
   refine (primePowers_c d p N wr HN.out h1 (by omega)).mono ?_
   rintro e w1 ⟨⟨g, b, rfl, hRb, hcb⟩, hx1⟩
   have hb1 := hbr.ext hx1
   have q2 := hb1.cell (i := 2) (v := .int .i64 q) rfl
   have ql := hb1.lt
   cases b with
   | true =>
    have hrun : Runs (gpS d p) N := hRb.1 rfl
    clear hRb
    have HRUN := Lib.hid hrun; clear hrun
    by_cases hdq : (d : Int) = q
    ·have hok : fldOK p 1 q := .inl ⟨rfl, h1, HPR.out, by omega, fun g h3 h4 => by rw [HNT.out]; exact hR.out g h3 (by omega), by rw [HNT.out, ← hdq]; exact HRUN.out⟩
     have HOK := Lib.hid hok; clear hok
     subst hdq
     go_wp2_with fail
     go_quiet (fail)
     go_wp2
     go_ret2
     exact ⟨.inl ⟨HOK.out, g, false, rfl, by rw [show fldSize p 1 = p from rfl]; exact hcb.ext eX⟩, eX⟩
    ·have hno : ¬ fldOK p 1 q := fun h => by
      rcases h with ⟨_, _, _, h4, h5, h6⟩ | ⟨h, _⟩
      ·rw [HNT.out] at h5 h6
       rcases Int.lt_or_gt_of_ne hdq with h | h
       ·exact h5 d (by omega) h HRUN.out
       ·exact hR.out q h4.1 h h6
      ·exact h rfl
     have HNO := Lib.hid hno; clear hno
     have hdq' : ((d : Int) == q) = false := by simpa using hdq
     go_wp2_with fail
     go_quiet (fail)
     go_wp2
     go_ret2
     exact ⟨.inr ⟨HNO.out, _, rfl⟩, eX⟩
   | false =>
    have hrun : ¬ Runs (gpS d p) N := fun h => by have := hRb.2 h; simp at this
    clear hRb
    have HR2 := Lib.hid (show ∀ e : Int, 1 ≤ e → e < (d + 1 : Nat) → ¬ Runs (gpS e p) N from fun e h3 h4 => by
     rcases Int.lt_or_le e d with h | h
     ·exact hR.out e h3 h
     ·obtain rfl : e = d := by omega
      exact hrun)
    clear hrun hR
    go_wp2
    go_roundw
    case rel => exact ⟨d + 1, by omega, by omega, by go_num, HR2, hext.trans hx1⟩
    case measure => simp [intOf]; omega
  ·have hno : ¬ fldOK p 1 q := fun h => by
    rcases h with ⟨_, _, _, h4, h5, h6⟩ | ⟨h, _⟩
    ·rw [HNT.out] at h6
     exact hR.out q h4.1 (by omega) h6
    ·exact h rfl
   have HNO := Lib.hid hno; clear hno
   go_wp2
   go_ret2
   exact ⟨.inr ⟨HNO.out, _, rfl⟩, eX⟩
open Go.RowKit

theorem and_top {k y : Nat} (hy : y < 2 ^ (k + 1)) : y &&& 2 ^ k = if y < 2 ^ k then 0 else 2 ^ k := by
 apply Nat.eq_of_testBit_eq
 intro i
 rw [Nat.testBit_and, Nat.testBit_two_pow]
 by_cases h : y < 2 ^ k
 ·rw [if_pos h, Nat.zero_testBit]
  by_cases e : k = i
  ·subst e
   rw [Nat.testBit_lt_two_pow h]
   rfl
  ·simp [e]
 ·rw [if_neg h, Nat.testBit_two_pow]
  by_cases e : k = i
  ·subst e
   rw [Nat.testBit_of_two_pow_le_and_two_pow_add_one_gt (by omega) hy]
   rfl
  ·simp [e]
theorem xor_top {k y q : Nat} (h1 : 2 ^ k ≤ y) (h2 : y < 2 ^ (k + 1)) (h3 : 2 ^ k ≤ q) (h4 : q < 2 ^ (k + 1)) : y ^^^ q < 2 ^ k := by
 refine Nat.lt_pow_two_of_testBit _ fun i hi => ?_
 rw [Nat.testBit_xor]
 by_cases e : i = k
 ·subst e
  rw [Nat.testBit_of_two_pow_le_and_two_pow_add_one_gt h1 h2, Nat.testBit_of_two_pow_le_and_two_pow_add_one_gt h3 h4]
  rfl
 ·have h5 : 2 ^ (k + 1) ≤ 2 ^ i := Nat.pow_le_pow_right (by omega) (by omega)
  rw [Nat.testBit_lt_two_pow (by omega), Nat.testBit_lt_two_pow (by omega)]
  rfl
theorem two_pow_cast (k : Nat) : ((2 ^ k : Nat) : Int) = (2 : Int) ^ k := by simp
theorem xtS_bd {k : Nat} {q : Int} (hq : (2 : Int) ^ k ≤ q ∧ q < 2 ^ (k + 1)) : ∀ x, 0 ≤ x ∧ x < 2 ^ k → 0 ≤ xtS k q x ∧ xtS k q x < 2 ^ k := by
 intro x hx
 have h1 := two_pow_cast k
 have h2 := two_pow_cast (k + 1)
 have h3 : (2 : Nat) ^ (k + 1) = 2 * 2 ^ k := by rw [Nat.pow_succ, Nat.mul_comm]
 unfold xtS
 split
 ·omega
 ·have := xor_top (k := k) (y := (2 * x).toNat) (q := q.toNat) (by omega) (by omega) (by omega) (by omega)
  omega

theorem dblFn_c (x : Int) (k : Nat) (q : Int) (g bc bf : Nat) (w : World) (h1 : w.cell? ⟨bc, 0, none⟩ = some (.pointer (some ⟨g, 0, none⟩))) (h2 : w.cell? ⟨g, 1, none⟩ = some (.int .i64 (2 ^ k))) (h3 : w.cell? ⟨bf, 2, none⟩ = some (.int .i64 q))
  (hx : 0 ≤ x ∧ x < 2 ^ k) (hk : k ≤ 8) (hq : (2 : Int) ^ k ≤ q ∧ q < 2 ^ (k + 1)) :
  Calls Tryz.prog 217 #[.int .i64 x, .pointer (some ⟨bc, 0, none⟩), .pointer (some ⟨bf, 0, none⟩)] w fun e w' => e = .returned (.int .i64 (xtS k q x)) ∧ w = w' := by
 have e1 := two_pow_cast k
 have e2 := two_pow_cast (k + 1)
 have e3 : (2 : Nat) ^ (k + 1) = 2 * 2 ^ k := by rw [Nat.pow_succ, Nat.mul_comm]
 have e4 : (2 : Nat) ^ k ≤ 2 ^ 8 := Nat.pow_le_pow_right (by omega) hk
 obtain ⟨y, rfl⟩ : ∃ y : Nat, x = y := ⟨x.toNat, by omega⟩
 obtain ⟨z, rfl⟩ : ∃ z : Nat, q = z := ⟨q.toNat, by omega⟩
 have hA := bits_and_nat (y * 2) (2 ^ k) (by omega) (by omega)
 rw [and_top (by omega), e1] at hA
 have hX := bits_xor_nat (y * 2) z (by omega) (by omega)
 have hv : xtS k z y = if 2 * (y : Int) < 2 ^ k then 2 * (y : Int) else (((y * 2) ^^^ z : Nat) : Int) := by
  unfold xtS
  rw [show (2 * (y : Int)).toNat = y * 2 by omega, Int.toNat_natCast]
 rw [hv]
 clear hv
 rw [Int.natCast_mul] at hA hX
 have hS : (1 : Int) ≤ 2 ^ k ∧ (2 : Int) ^ k ≤ 256 := by omega
 by_cases hlt : y * 2 < 2 ^ k
 ·rw [if_pos (show 2 * (y : Int) < 2 ^ k by omega)]
  rw [if_pos hlt] at hA
  clear hX
  generalize (2 : Int) ^ k = SZ at *
  have hy : (y : Int) * 2 ≤ 256 := by omega
  have hA' : bits .and .i64 ((y : Int) * 2) SZ = 0 := hA
  clear hA e1 e2 e3 e4 hq hlt
  go_enter Tryz.func217, Tryz.ntmps217
  go_wp2
  go_ret
  exact ⟨ret_int (by omega), rfl⟩
 ·rw [if_neg (show ¬ 2 * (y : Int) < 2 ^ k by omega)]
  rw [if_neg hlt, e1] at hA
  generalize (2 : Int) ^ k = SZ at *
  generalize y * 2 ^^^ z = V at *
  have hy : (y : Int) * 2 ≤ 512 := by omega
  have hS0 : (SZ != 0) = true := by simp; omega
  have hA' : bits .and .i64 ((y : Int) * 2) SZ = SZ := hA
  have hX' : bits .xor .i64 ((y : Int) * 2) z = V := hX
  clear e1 e2 e3 e4 hq hlt hA hX
  go_enter Tryz.func217, Tryz.ntmps217
  go_wp2
  go_ret
  exact ⟨rfl, rfl⟩

set_option maxRecDepth 100000 in
theorem fill2_c (k : Nat) (q : Int) (N g bc bf : Nat) (w : World) (hN : (2 : Int) ^ k = N + 1) (hk : 3 ≤ k ∧ k ≤ 8) (hq : (2 : Int) ^ k ≤ q ∧ q < 2 ^ (k + 1)) (hc : CalcB w g true (2 ^ k))
  (q1 : w.cell? ⟨bc, 0, none⟩ = some (.pointer (some ⟨g, 0, none⟩))) (q2 : w.cell? ⟨bf, 2, none⟩ = some (.int .i64 q)) (hbc : bc ≠ g ∧ bc < w.heap.size) (hbf : bf ≠ g ∧ bf < w.heap.size) :
  Calls Tryz.prog 216 #[.pointer (some ⟨g, 0, none⟩), .func (.func 217) #[] #[.pointer (some ⟨bc, 0, none⟩), .pointer (some ⟨bf, 0, none⟩)]] w fun e w' => FillR (xtS k q) N g true (2 ^ k) w e w' := by
 have e1 := two_pow_cast k
 have e4 : (2 : Nat) ^ k ≤ 2 ^ 8 := Nat.pow_le_pow_right (by omega) hk.2
 have e5 : (2 : Nat) ^ 3 ≤ 2 ^ k := Nat.pow_le_pow_right (by omega) hk.1
 have hbd := Lib.hid (itS_bd (t := xtS k q) (size := 2 ^ k) (by omega) (xtS_bd hq))
 have hdf : ∀ (x : Int) (W : World), W.cell? ⟨bc, 0, none⟩ = some (.pointer (some ⟨g, 0, none⟩)) → W.cell? ⟨g, 1, none⟩ = some (.int .i64 (2 ^ k)) → W.cell? ⟨bf, 2, none⟩ = some (.int .i64 q) → 0 ≤ x ∧ x < 2 ^ k →
   Calls Tryz.prog 217 #[.int .i64 x, .pointer (some ⟨bc, 0, none⟩), .pointer (some ⟨bf, 0, none⟩)] W fun e w' => e = .returned (.int .i64 (xtS k q x)) ∧ W = w' := fun x W h1 h2 h3 hx => dblFn_c x k q g bc bf W h1 h2 h3 hx hk.2 hq
 have HDF := Lib.hid hdf
 clear hdf hq
 have HQ1 := Lib.hid q1; have HQ2 := Lib.hid q2; clear q1 q2
 have h3 : 3 ≤ (2 : Int) ^ k ∧ (2 : Int) ^ k ≤ 1021 := by omega
 clear e1 e4 e5 hk
 have HTT := Lib.hid (show ∀ x, xtS k q x = xtS k q x from fun _ => rfl)
 generalize hte : xtS k q = t at *
 clear hte HTT
 generalize (2 : Int) ^ k = size at *
 have hsz : size - 1 = N := by omega
 have HN := Lib.hid hN; clear hN
 go_enter Tryz.func216, Tryz.ntmps216
 go_wp2
 go_loopw [5, 6] (fun x i wr => ∃ n : Nat, n ≤ N ∧ x = .int .i64 (itS t n) ∧ i = .int .i64 n ∧ Hid (∀ m, m < n → itS t m ≠ 0 ∧ (0 < m → itS t m ≠ 1)) ∧ CalcB wr g true size ∧ But g w wr) (fun _ i _ => N - (intOf i).toNat)
 case atStart => exact ⟨0, Nat.zero_le _, rfl, rfl, Lib.hid (fun m hm => by omega), hc, But.refl _ _⟩
 case round =>
  clear hc
  obtain ⟨n, hn, rfl, rfl, hR, ⟨cs, hb, hS⟩, hbut⟩ := hrel
  have q1 := hb.cell hS.2.2.1
  have q2 := hb.lt
  have q3 := hb.free
  have hx := hbd.out n
  have hst := Lib.hid (show itS t (n + 1) = t (itS t n) from rfl)
  by_cases hlt : n < N
  ·have hd : (n : Int) < size - 1 := by omega
   have hno : (itS t n = 0 ∨ (0 < n ∧ itS t n = 1)) → ¬ Runs t N := fun h k => by
    have := k.1 n hlt
    rcases h with h | ⟨h0, h⟩
    ·exact this.1 h
    ·exact this.2 h0 h
   have hok : ¬ (itS t n = 0 ∨ (0 < n ∧ itS t n = 1)) → ∀ m, m < n + 1 → itS t m ≠ 0 ∧ (0 < m → itS t m ≠ 1) := fun h m hm => by
    rcases Nat.lt_or_ge m n with h1 | h1
    ·exact hR.out m h1
    ·obtain rfl : m = n := by omega
     exact ⟨fun e => h (.inl e), fun h0 e => h (.inr ⟨h0, e⟩)⟩
   have HNO := Lib.hid hno; have HOK := Lib.hid hok; clear hno hok
   generalize itS t n = X at *
   obtain ⟨k, rfl⟩ : ∃ k : Nat, X = k := ⟨X.toNat, by omega⟩
   by_cases hbad : (k : Int) = 0 ∨ (0 < n ∧ (k : Int) = 1)
   ·have hnr := HNO.out hbad
    rcases hbad with h0 | ⟨h0, h1⟩
    ·obtain rfl : k = 0 := by omega
     go_wp2
     go_ret
     exact ⟨isB_f hnr, ⟨cs, hb, hS⟩, hbut⟩
    ·obtain rfl : k = 1 := by omega
     have h0' : (0 : Int) < n := by omega
     go_wp2
     go_ret
     exact ⟨isB_f hnr, ⟨cs, hb, hS⟩, hbut⟩
   ·have hk1 : ((k : Int) == 0) = false := by simp; omega
    have hk2 : 0 < n → ((k : Int) == 1) = false := fun h => by simp; omega
    have HK := Lib.hid (HOK.out hbad)
    obtain ⟨v1, hv1⟩ := hS.2.2.2 (2 + n) (by omega) (by omega)
    obtain ⟨v2, hv2⟩ := (hS.set (i := 2 + n) (by omega) k).2.2.2 (1023 + k) (by omega) (by omega)
    have hS2 := (hS.set (i := 2 + n) (by omega) k).set (i := 1023 + k) (by omega) n
    have hb1 := hb.set (2 + n) (.int .i64 k)
    have c1 := hb.cell hv1
    have c2 := hb1.cell hv2
    have hb2 := hb1.set (1023 + k) (.int .i64 n)
    have hbut2 := (hbut.trans (But.set wr g (2 + n) (.int .i64 k))).trans (But.set _ g (1023 + k) (.int .i64 n))
    have hbut2' := Lib.hid hbut2
    obtain ⟨bc', bf', bk', bz'⟩ := bucell hbut2
    have g1 := (bc' bc 0 hbc.2 hbc.1).trans HQ1.out
    have g2 := (bc' bf 2 hbf.2 hbf.1).trans HQ2.out
    have g3 := hb2.cell hS2.2.2.1
    clear bc' bf' bk' bz' hbut2 hbut HNO HOK hbad
    have hk21 : (k : Int) < 1021 := by omega
    have hn21 : (n : Int) < 1021 := by omega
    have hS2 := Lib.hid hS2
    have hb2 := Lib.hid hb2
    have hkn : k < N + 1 := by omega
    have hxx := Lib.hid hx
    by_cases h0 : 0 < n
    ·have hk2 := hk2 h0
     have h0' : (0 : Int) < n := by omega
     clear HN
     go_wp2_with (first
      | (go_at_call 217; (with_reducible refine (HDF.out _ _ g1 g3 g2 hxx.out).mono ?_); rintro e w1 ⟨rfl, rfl⟩))
     go_roundw
     case rel => exact ⟨n + 1, hlt, by rw [hst.out], by go_num, HK, ⟨_, hb2.out, hS2.out⟩, hbut2'.out⟩
     case measure => simp [intOf]; omega
    ·have h0' : ¬ (0 : Int) < n := by omega
     clear hk2 HN
     go_wp2_with (first
      | (go_at_call 217; (with_reducible refine (HDF.out _ _ g1 g3 g2 hxx.out).mono ?_); rintro e w1 ⟨rfl, rfl⟩))
     go_roundw
     case rel => exact ⟨n + 1, hlt, by rw [hst.out], by go_num, HK, ⟨_, hb2.out, hS2.out⟩, hbut2'.out⟩
     case measure => simp [intOf]; omega
  ·obtain rfl : n = N := by omega
   have hd : ¬ (n : Int) < size - 1 := by omega
   clear HN
   by_cases h1 : itS t n = 1
   ·have hyes : Runs t n := ⟨hR.out, h1⟩
    rw [h1]
    clear h1
    go_wp2
    go_ret
    exact ⟨isB_t hyes, ⟨cs, hb, hS⟩, hbut⟩
   ·have hno : ¬ Runs t n := fun k => h1 k.2
    have hb1 : (itS t n == 1) = false := by simpa using h1
    generalize itS t n = X at *
    go_wp2
    go_ret
    exact ⟨isB_f hno, ⟨cs, hb, hS⟩, hbut⟩
open Go.RowKit

set_option maxRecDepth 100000 in
theorem calcB_no (p k q : Int) (w : World) (hk1 : k ≠ 1) (hno : ¬ (p = 2 ∧ (3 ≤ k ∧ k ≤ 8))) :
  Calls Tryz.prog 185 #[vFld p k q] w fun e w' => CalcR p k q e w' ∧ Ext w w' := by
 have hnf : ¬ fldOK p k q := fun h => by
  rcases h with ⟨h1, _⟩ | ⟨_, h1, h2, _⟩
  ·exact hk1 h1
  ·exact hno ⟨h1, h2⟩
 have HNF := Lib.hid hnf; clear hnf
 have hk1' : (k == 1) = false := by simpa using hk1
 by_cases h2 : p = 2
 ·subst h2
  have h3 : ¬ (3 ≤ k ∧ k ≤ 8) := fun h => hno ⟨rfl, h⟩
  clear hno
  go_enter Tryz.func185, Tryz.ntmps185
  go_wp2_with (first
   | (go_at_call 35; (with_reducible refine (inRange_c _ _ _ _).mono ?_); rintro e w1 ⟨⟨hP, rfl⟩ | ⟨hP, rfl⟩, rfl⟩ <;> first | contradiction | skip))
  go_ret2
  exact ⟨.inr ⟨HNF.out, _, rfl⟩, eX⟩
 ·have hp2 : (p == 2) = false := by simpa using h2
  clear hno
  go_enter Tryz.func185, Tryz.ntmps185
  go_wp2
  go_ret2
  exact ⟨.inr ⟨HNF.out, _, rfl⟩, eX⟩

set_option maxRecDepth 100000 in
theorem calcB3_c (q : Int) (w : World) :
  Calls Tryz.prog 185 #[vFld 2 3 q] w fun e w' => CalcR 2 3 q e w' ∧ Ext w w' := by
 by_cases hq : (2 : Int) ^ 3 ≤ q ∧ q < 2 ^ (3 + 1)
 ·have hq1 : 8 ≤ q := hq.1
  have hq2 : q < 16 := hq.2
  have hqs : (q / 8 == 1) = true := by simp; omega
  have HQ := Lib.hid hq
  have hb0 := Blk.new w #[.int .i64 2, .int .i64 3, .int .i64 q] 53
  have hb1 := Blk.new (w.alloc (.cells #[.int .i64 2, .int .i64 3, .int .i64 q] 53)) ((Tryz.zeroCells238.setIfInBounds 0 (.bool true)).setIfInBounds 1 (.int .i64 8)) 238
  have hb2 := Blk.new ((w.alloc (.cells #[.int .i64 2, .int .i64 3, .int .i64 q] 53)).alloc (.cells ((Tryz.zeroCells238.setIfInBounds 0 (.bool true)).setIfInBounds 1 (.int .i64 8)) 238)) #[.pointer (some ⟨w.heap.size + 1, 0, none⟩)] 216
  simp only [World.size_alloc] at hb1 hb2
  have hb1' := hb1.alloc (.cells #[.pointer (some ⟨w.heap.size + 1, 0, none⟩)] 216)
  have hcb : CalcB _ _ true (2 ^ 3) := ⟨_, hb1', calcZero2 8⟩
  have hq1 := hb2.cell (i := 0) (v := .pointer (some ⟨w.heap.size + 1, 0, none⟩)) rfl
  have hq2 := ((hb0.alloc (.cells ((Tryz.zeroCells238.setIfInBounds 0 (.bool true)).setIfInBounds 1 (.int .i64 8)) 238)).alloc (.cells #[.pointer (some ⟨w.heap.size + 1, 0, none⟩)] 216)).cell (i := 2) (v := .int .i64 q) rfl
  have HC := Lib.hid hcb; have HQ1 := Lib.hid hq1; have HQ2 := Lib.hid hq2
  clear hb0 hb1 hb1' hcb hq1 hq2
  replace hb2 := Lib.hid hb2
  go_enter Tryz.func185, Tryz.ntmps185
  go_wp2_with (first
   | (go_at_call 35; (with_reducible refine (inRange_c _ _ _ _).mono ?_); rintro e w1 ⟨⟨hP, rfl⟩ | ⟨hP, rfl⟩, rfl⟩ <;> first | (exfalso; omega) | skip))
  refine (fill2_c 3 q 7 _ _ _ _ (by decide) (by omega) HQ.out HC.out HQ1.out HQ2.out (by simp) (by simp; omega)).mono ?_
  rintro e w1 ⟨⟨hR, rfl⟩ | ⟨hR, rfl⟩, hcb, hbut⟩
  all_goals
   have hE : Ext w w1 := ((((Ext.refl w).alloc _).alloc _).alloc _).but hbut (by omega)
   have hb2' := hb2.out.but hbut (by omega)
   have q0 := hb2'.cell (i := 0) (v := .pointer (some ⟨w.heap.size + 1, 0, none⟩)) rfl
   clear hbut
   go_wp2
   go_ret2
  ·exact ⟨.inl ⟨.inr ⟨by omega, rfl, by omega, HQ.out, hR⟩, _, true, rfl, hcb⟩, hE⟩
  ·refine ⟨.inr ⟨fun h => ?_, _, rfl⟩, hE⟩
   rcases h with ⟨h, _⟩ | ⟨_, _, _, _, h⟩
   ·omega
   ·exact hR h
 ·have hqs : (q / 8 == 1) = false := by
   have h1 : ¬ (8 ≤ q ∧ q < 16) := hq
   simp; omega
  have hnf : ¬ fldOK 2 3 q := fun h => by
   rcases h with ⟨h, _⟩ | ⟨_, _, _, h, _⟩
   ·omega
   ·exact hq h
  have HNF := Lib.hid hnf; clear hnf hq
  go_enter Tryz.func185, Tryz.ntmps185
  go_wp2_with (first
   | (go_at_call 35; (with_reducible refine (inRange_c _ _ _ _).mono ?_); rintro e w1 ⟨⟨hP, rfl⟩ | ⟨hP, rfl⟩, rfl⟩ <;> first | (exfalso; omega) | skip))
  go_ret2
  exact ⟨.inr ⟨HNF.out, _, rfl⟩, eX⟩
set_option maxRecDepth 100000 in
theorem calcB4_c (q : Int) (w : World) :
  Calls Tryz.prog 185 #[vFld 2 4 q] w fun e w' => CalcR 2 4 q e w' ∧ Ext w w' := by
 by_cases hq : (2 : Int) ^ 4 ≤ q ∧ q < 2 ^ (4 + 1)
 ·have hq1 : 16 ≤ q := hq.1
  have hq2 : q < 32 := hq.2
  have hqs : (q / 16 == 1) = true := by simp; omega
  have HQ := Lib.hid hq
  have hb0 := Blk.new w #[.int .i64 2, .int .i64 4, .int .i64 q] 53
  have hb1 := Blk.new (w.alloc (.cells #[.int .i64 2, .int .i64 4, .int .i64 q] 53)) ((Tryz.zeroCells238.setIfInBounds 0 (.bool true)).setIfInBounds 1 (.int .i64 16)) 238
  have hb2 := Blk.new ((w.alloc (.cells #[.int .i64 2, .int .i64 4, .int .i64 q] 53)).alloc (.cells ((Tryz.zeroCells238.setIfInBounds 0 (.bool true)).setIfInBounds 1 (.int .i64 16)) 238)) #[.pointer (some ⟨w.heap.size + 1, 0, none⟩)] 216
  simp only [World.size_alloc] at hb1 hb2
  have hb1' := hb1.alloc (.cells #[.pointer (some ⟨w.heap.size + 1, 0, none⟩)] 216)
  have hcb : CalcB _ _ true (2 ^ 4) := ⟨_, hb1', calcZero2 16⟩
  have hq1 := hb2.cell (i := 0) (v := .pointer (some ⟨w.heap.size + 1, 0, none⟩)) rfl
  have hq2 := ((hb0.alloc (.cells ((Tryz.zeroCells238.setIfInBounds 0 (.bool true)).setIfInBounds 1 (.int .i64 16)) 238)).alloc (.cells #[.pointer (some ⟨w.heap.size + 1, 0, none⟩)] 216)).cell (i := 2) (v := .int .i64 q) rfl
  have HC := Lib.hid hcb; have HQ1 := Lib.hid hq1; have HQ2 := Lib.hid hq2
  clear hb0 hb1 hb1' hcb hq1 hq2
  replace hb2 := Lib.hid hb2
  go_enter Tryz.func185, Tryz.ntmps185
  go_wp2_with (first
   | (go_at_call 35; (with_reducible refine (inRange_c _ _ _ _).mono ?_); rintro e w1 ⟨⟨hP, rfl⟩ | ⟨hP, rfl⟩, rfl⟩ <;> first | (exfalso; omega) | skip))
  refine (fill2_c 4 q 15 _ _ _ _ (by decide) (by omega) HQ.out HC.out HQ1.out HQ2.out (by simp) (by simp; omega)).mono ?_
  rintro e w1 ⟨⟨hR, rfl⟩ | ⟨hR, rfl⟩, hcb, hbut⟩
  all_goals
   have hE : Ext w w1 := ((((Ext.refl w).alloc _).alloc _).alloc _).but hbut (by omega)
   have hb2' := hb2.out.but hbut (by omega)
   have q0 := hb2'.cell (i := 0) (v := .pointer (some ⟨w.heap.size + 1, 0, none⟩)) rfl
   clear hbut
   go_wp2
   go_ret2
  ·exact ⟨.inl ⟨.inr ⟨by omega, rfl, by omega, HQ.out, hR⟩, _, true, rfl, hcb⟩, hE⟩
  ·refine ⟨.inr ⟨fun h => ?_, _, rfl⟩, hE⟩
   rcases h with ⟨h, _⟩ | ⟨_, _, _, _, h⟩
   ·omega
   ·exact hR h
 ·have hqs : (q / 16 == 1) = false := by
   have h1 : ¬ (16 ≤ q ∧ q < 32) := hq
   simp; omega
  have hnf : ¬ fldOK 2 4 q := fun h => by
   rcases h with ⟨h, _⟩ | ⟨_, _, _, h, _⟩
   ·omega
   ·exact hq h
  have HNF := Lib.hid hnf; clear hnf hq
  go_enter Tryz.func185, Tryz.ntmps185
  go_wp2_with (first
   | (go_at_call 35; (with_reducible refine (inRange_c _ _ _ _).mono ?_); rintro e w1 ⟨⟨hP, rfl⟩ | ⟨hP, rfl⟩, rfl⟩ <;> first | (exfalso; omega) | skip))
  go_ret2
  exact ⟨.inr ⟨HNF.out, _, rfl⟩, eX⟩
set_option maxRecDepth 100000 in
theorem calcB5_c (q : Int) (w : World) :
  Calls Tryz.prog 185 #[vFld 2 5 q] w fun e w' => CalcR 2 5 q e w' ∧ Ext w w' := by
 by_cases hq : (2 : Int) ^ 5 ≤ q ∧ q < 2 ^ (5 + 1)
 ·have hq1 : 32 ≤ q := hq.1
  have hq2 : q < 64 := hq.2
  have hqs : (q / 32 == 1) = true := by simp; omega
  have HQ := Lib.hid hq
  have hb0 := Blk.new w #[.int .i64 2, .int .i64 5, .int .i64 q] 53
  have hb1 := Blk.new (w.alloc (.cells #[.int .i64 2, .int .i64 5, .int .i64 q] 53)) ((Tryz.zeroCells238.setIfInBounds 0 (.bool true)).setIfInBounds 1 (.int .i64 32)) 238
  have hb2 := Blk.new ((w.alloc (.cells #[.int .i64 2, .int .i64 5, .int .i64 q] 53)).alloc (.cells ((Tryz.zeroCells238.setIfInBounds 0 (.bool true)).setIfInBounds 1 (.int .i64 32)) 238)) #[.pointer (some ⟨w.heap.size + 1, 0, none⟩)] 216
  simp only [World.size_alloc] at hb1 hb2
  have hb1' := hb1.alloc (.cells #[.pointer (some ⟨w.heap.size + 1, 0, none⟩)] 216)
  have hcb : CalcB _ _ true (2 ^ 5) := ⟨_, hb1', calcZero2 32⟩
  have hq1 := hb2.cell (i := 0) (v := .pointer (some ⟨w.heap.size + 1, 0, none⟩)) rfl
  have hq2 := ((hb0.alloc (.cells ((Tryz.zeroCells238.setIfInBounds 0 (.bool true)).setIfInBounds 1 (.int .i64 32)) 238)).alloc (.cells #[.pointer (some ⟨w.heap.size + 1, 0, none⟩)] 216)).cell (i := 2) (v := .int .i64 q) rfl
  have HC := Lib.hid hcb; have HQ1 := Lib.hid hq1; have HQ2 := Lib.hid hq2
  clear hb0 hb1 hb1' hcb hq1 hq2
  replace hb2 := Lib.hid hb2
  go_enter Tryz.func185, Tryz.ntmps185
  go_wp2_with (first
   | (go_at_call 35; (with_reducible refine (inRange_c _ _ _ _).mono ?_); rintro e w1 ⟨⟨hP, rfl⟩ | ⟨hP, rfl⟩, rfl⟩ <;> first | (exfalso; omega) | skip))
  refine (fill2_c 5 q 31 _ _ _ _ (by decide) (by omega) HQ.out HC.out HQ1.out HQ2.out (by simp) (by simp; omega)).mono ?_
  rintro e w1 ⟨⟨hR, rfl⟩ | ⟨hR, rfl⟩, hcb, hbut⟩
  all_goals
   have hE : Ext w w1 := ((((Ext.refl w).alloc _).alloc _).alloc _).but hbut (by omega)
   have hb2' := hb2.out.but hbut (by omega)
   have q0 := hb2'.cell (i := 0) (v := .pointer (some ⟨w.heap.size + 1, 0, none⟩)) rfl
   clear hbut
   go_wp2
   go_ret2
  ·exact ⟨.inl ⟨.inr ⟨by omega, rfl, by omega, HQ.out, hR⟩, _, true, rfl, hcb⟩, hE⟩
  ·refine ⟨.inr ⟨fun h => ?_, _, rfl⟩, hE⟩
   rcases h with ⟨h, _⟩ | ⟨_, _, _, _, h⟩
   ·omega
   ·exact hR h
 ·have hqs : (q / 32 == 1) = false := by
   have h1 : ¬ (32 ≤ q ∧ q < 64) := hq
   simp; omega
  have hnf : ¬ fldOK 2 5 q := fun h => by
   rcases h with ⟨h, _⟩ | ⟨_, _, _, h, _⟩
   ·omega
   ·exact hq h
  have HNF := Lib.hid hnf; clear hnf hq
  go_enter Tryz.func185, Tryz.ntmps185
  go_wp2_with (first
   | (go_at_call 35; (with_reducible refine (inRange_c _ _ _ _).mono ?_); rintro e w1 ⟨⟨hP, rfl⟩ | ⟨hP, rfl⟩, rfl⟩ <;> first | (exfalso; omega) | skip))
  go_ret2
  exact ⟨.inr ⟨HNF.out, _, rfl⟩, eX⟩
set_option maxRecDepth 100000 in
theorem calcB6_c (q : Int) (w : World) :
  Calls Tryz.prog 185 #[vFld 2 6 q] w fun e w' => CalcR 2 6 q e w' ∧ Ext w w' := by
 by_cases hq : (2 : Int) ^ 6 ≤ q ∧ q < 2 ^ (6 + 1)
 ·have hq1 : 64 ≤ q := hq.1
  have hq2 : q < 128 := hq.2
  have hqs : (q / 64 == 1) = true := by simp; omega
  have HQ := Lib.hid hq
  have hb0 := Blk.new w #[.int .i64 2, .int .i64 6, .int .i64 q] 53
  have hb1 := Blk.new (w.alloc (.cells #[.int .i64 2, .int .i64 6, .int .i64 q] 53)) ((Tryz.zeroCells238.setIfInBounds 0 (.bool true)).setIfInBounds 1 (.int .i64 64)) 238
  have hb2 := Blk.new ((w.alloc (.cells #[.int .i64 2, .int .i64 6, .int .i64 q] 53)).alloc (.cells ((Tryz.zeroCells238.setIfInBounds 0 (.bool true)).setIfInBounds 1 (.int .i64 64)) 238)) #[.pointer (some ⟨w.heap.size + 1, 0, none⟩)] 216
  simp only [World.size_alloc] at hb1 hb2
  have hb1' := hb1.alloc (.cells #[.pointer (some ⟨w.heap.size + 1, 0, none⟩)] 216)
  have hcb : CalcB _ _ true (2 ^ 6) := ⟨_, hb1', calcZero2 64⟩
  have hq1 := hb2.cell (i := 0) (v := .pointer (some ⟨w.heap.size + 1, 0, none⟩)) rfl
  have hq2 := ((hb0.alloc (.cells ((Tryz.zeroCells238.setIfInBounds 0 (.bool true)).setIfInBounds 1 (.int .i64 64)) 238)).alloc (.cells #[.pointer (some ⟨w.heap.size + 1, 0, none⟩)] 216)).cell (i := 2) (v := .int .i64 q) rfl
  have HC := Lib.hid hcb; have HQ1 := Lib.hid hq1; have HQ2 := Lib.hid hq2
  clear hb0 hb1 hb1' hcb hq1 hq2
  replace hb2 := Lib.hid hb2
  go_enter Tryz.func185, Tryz.ntmps185
  go_wp2_with (first
   | (go_at_call 35; (with_reducible refine (inRange_c _ _ _ _).mono ?_); rintro e w1 ⟨⟨hP, rfl⟩ | ⟨hP, rfl⟩, rfl⟩ <;> first | (exfalso; omega) | skip))
  refine (fill2_c 6 q 63 _ _ _ _ (by decide) (by omega) HQ.out HC.out HQ1.out HQ2.out (by simp) (by simp; omega)).mono ?_
  rintro e w1 ⟨⟨hR, rfl⟩ | ⟨hR, rfl⟩, hcb, hbut⟩
  all_goals
   have hE : Ext w w1 := ((((Ext.refl w).alloc _).alloc _).alloc _).but hbut (by omega)
   have hb2' := hb2.out.but hbut (by omega)
   have q0 := hb2'.cell (i := 0) (v := .pointer (some ⟨w.heap.size + 1, 0, none⟩)) rfl
   clear hbut
   go_wp2
   go_ret2
  ·exact ⟨.inl ⟨.inr ⟨by omega, rfl, by omega, HQ.out, hR⟩, _, true, rfl, hcb⟩, hE⟩
  ·refine ⟨.inr ⟨fun h => ?_, _, rfl⟩, hE⟩
   rcases h with ⟨h, _⟩ | ⟨_, _, _, _, h⟩
   ·omega
   ·exact hR h
 ·have hqs : (q / 64 == 1) = false := by
   have h1 : ¬ (64 ≤ q ∧ q < 128) := hq
   simp; omega
  have hnf : ¬ fldOK 2 6 q := fun h => by
   rcases h with ⟨h, _⟩ | ⟨_, _, _, h, _⟩
   ·omega
   ·exact hq h
  have HNF := Lib.hid hnf; clear hnf hq
  go_enter Tryz.func185, Tryz.ntmps185
  go_wp2_with (first
   | (go_at_call 35; (with_reducible refine (inRange_c _ _ _ _).mono ?_); rintro e w1 ⟨⟨hP, rfl⟩ | ⟨hP, rfl⟩, rfl⟩ <;> first | (exfalso; omega) | skip))
  go_ret2
  exact ⟨.inr ⟨HNF.out, _, rfl⟩, eX⟩
set_option maxRecDepth 100000 in
theorem calcB7_c (q : Int) (w : World) :
  Calls Tryz.prog 185 #[vFld 2 7 q] w fun e w' => CalcR 2 7 q e w' ∧ Ext w w' := by
 by_cases hq : (2 : Int) ^ 7 ≤ q ∧ q < 2 ^ (7 + 1)
 ·have hq1 : 128 ≤ q := hq.1
  have hq2 : q < 256 := hq.2
  have hqs : (q / 128 == 1) = true := by simp; omega
  have HQ := Lib.hid hq
  have hb0 := Blk.new w #[.int .i64 2, .int .i64 7, .int .i64 q] 53
  have hb1 := Blk.new (w.alloc (.cells #[.int .i64 2, .int .i64 7, .int .i64 q] 53)) ((Tryz.zeroCells238.setIfInBounds 0 (.bool true)).setIfInBounds 1 (.int .i64 128)) 238
  have hb2 := Blk.new ((w.alloc (.cells #[.int .i64 2, .int .i64 7, .int .i64 q] 53)).alloc (.cells ((Tryz.zeroCells238.setIfInBounds 0 (.bool true)).setIfInBounds 1 (.int .i64 128)) 238)) #[.pointer (some ⟨w.heap.size + 1, 0, none⟩)] 216
  simp only [World.size_alloc] at hb1 hb2
  have hb1' := hb1.alloc (.cells #[.pointer (some ⟨w.heap.size + 1, 0, none⟩)] 216)
  have hcb : CalcB _ _ true (2 ^ 7) := ⟨_, hb1', calcZero2 128⟩
  have hq1 := hb2.cell (i := 0) (v := .pointer (some ⟨w.heap.size + 1, 0, none⟩)) rfl
  have hq2 := ((hb0.alloc (.cells ((Tryz.zeroCells238.setIfInBounds 0 (.bool true)).setIfInBounds 1 (.int .i64 128)) 238)).alloc (.cells #[.pointer (some ⟨w.heap.size + 1, 0, none⟩)] 216)).cell (i := 2) (v := .int .i64 q) rfl
  have HC := Lib.hid hcb; have HQ1 := Lib.hid hq1; have HQ2 := Lib.hid hq2
  clear hb0 hb1 hb1' hcb hq1 hq2
  replace hb2 := Lib.hid hb2
  go_enter Tryz.func185, Tryz.ntmps185
  go_wp2_with (first
   | (go_at_call 35; (with_reducible refine (inRange_c _ _ _ _).mono ?_); rintro e w1 ⟨⟨hP, rfl⟩ | ⟨hP, rfl⟩, rfl⟩ <;> first | (exfalso; omega) | skip))
  refine (fill2_c 7 q 127 _ _ _ _ (by decide) (by omega) HQ.out HC.out HQ1.out HQ2.out (by simp) (by simp; omega)).mono ?_
  rintro e w1 ⟨⟨hR, rfl⟩ | ⟨hR, rfl⟩, hcb, hbut⟩
  all_goals
   have hE : Ext w w1 := ((((Ext.refl w).alloc _).alloc _).alloc _).but hbut (by omega)
   have hb2' := hb2.out.but hbut (by omega)
   have q0 := hb2'.cell (i := 0) (v := .pointer (some ⟨w.heap.size + 1, 0, none⟩)) rfl
   clear hbut
   go_wp2
   go_ret2
  ·exact ⟨.inl ⟨.inr ⟨by omega, rfl, by omega, HQ.out, hR⟩, _, true, rfl, hcb⟩, hE⟩
  ·refine ⟨.inr ⟨fun h => ?_, _, rfl⟩, hE⟩
   rcases h with ⟨h, _⟩ | ⟨_, _, _, _, h⟩
   ·omega
   ·exact hR h
 ·have hqs : (q / 128 == 1) = false := by
   have h1 : ¬ (128 ≤ q ∧ q < 256) := hq
   simp; omega
  have hnf : ¬ fldOK 2 7 q := fun h => by
   rcases h with ⟨h, _⟩ | ⟨_, _, _, h, _⟩
   ·omega
   ·exact hq h
  have HNF := Lib.hid hnf; clear hnf hq
  go_enter Tryz.func185, Tryz.ntmps185
  go_wp2_with (first
   | (go_at_call 35; (with_reducible refine (inRange_c _ _ _ _).mono ?_); rintro e w1 ⟨⟨hP, rfl⟩ | ⟨hP, rfl⟩, rfl⟩ <;> first | (exfalso; omega) | skip))
  go_ret2
  exact ⟨.inr ⟨HNF.out, _, rfl⟩, eX⟩
set_option maxRecDepth 100000 in
theorem calcB8_c (q : Int) (w : World) :
  Calls Tryz.prog 185 #[vFld 2 8 q] w fun e w' => CalcR 2 8 q e w' ∧ Ext w w' := by
 by_cases hq : (2 : Int) ^ 8 ≤ q ∧ q < 2 ^ (8 + 1)
 ·have hq1 : 256 ≤ q := hq.1
  have hq2 : q < 512 := hq.2
  have hqs : (q / 256 == 1) = true := by simp; omega
  have HQ := Lib.hid hq
  have hb0 := Blk.new w #[.int .i64 2, .int .i64 8, .int .i64 q] 53
  have hb1 := Blk.new (w.alloc (.cells #[.int .i64 2, .int .i64 8, .int .i64 q] 53)) ((Tryz.zeroCells238.setIfInBounds 0 (.bool true)).setIfInBounds 1 (.int .i64 256)) 238
  have hb2 := Blk.new ((w.alloc (.cells #[.int .i64 2, .int .i64 8, .int .i64 q] 53)).alloc (.cells ((Tryz.zeroCells238.setIfInBounds 0 (.bool true)).setIfInBounds 1 (.int .i64 256)) 238)) #[.pointer (some ⟨w.heap.size + 1, 0, none⟩)] 216
  simp only [World.size_alloc] at hb1 hb2
  have hb1' := hb1.alloc (.cells #[.pointer (some ⟨w.heap.size + 1, 0, none⟩)] 216)
  have hcb : CalcB _ _ true (2 ^ 8) := ⟨_, hb1', calcZero2 256⟩
  have hq1 := hb2.cell (i := 0) (v := .pointer (some ⟨w.heap.size + 1, 0, none⟩)) rfl
  have hq2 := ((hb0.alloc (.cells ((Tryz.zeroCells238.setIfInBounds 0 (.bool true)).setIfInBounds 1 (.int .i64 256)) 238)).alloc (.cells #[.pointer (some ⟨w.heap.size + 1, 0, none⟩)] 216)).cell (i := 2) (v := .int .i64 q) rfl
  have HC := Lib.hid hcb; have HQ1 := Lib.hid hq1; have HQ2 := Lib.hid hq2
  clear hb0 hb1 hb1' hcb hq1 hq2
  replace hb2 := Lib.hid hb2
  go_enter Tryz.func185, Tryz.ntmps185
  go_wp2_with (first
   | (go_at_call 35; (with_reducible refine (inRange_c _ _ _ _).mono ?_); rintro e w1 ⟨⟨hP, rfl⟩ | ⟨hP, rfl⟩, rfl⟩ <;> first | (exfalso; omega) | skip))
  refine (fill2_c 8 q 255 _ _ _ _ (by decide) (by omega) HQ.out HC.out HQ1.out HQ2.out (by simp) (by simp; omega)).mono ?_
  rintro e w1 ⟨⟨hR, rfl⟩ | ⟨hR, rfl⟩, hcb, hbut⟩
  all_goals
   have hE : Ext w w1 := ((((Ext.refl w).alloc _).alloc _).alloc _).but hbut (by omega)
   have hb2' := hb2.out.but hbut (by omega)
   have q0 := hb2'.cell (i := 0) (v := .pointer (some ⟨w.heap.size + 1, 0, none⟩)) rfl
   clear hbut
   go_wp2
   go_ret2
  ·exact ⟨.inl ⟨.inr ⟨by omega, rfl, by omega, HQ.out, hR⟩, _, true, rfl, hcb⟩, hE⟩
  ·refine ⟨.inr ⟨fun h => ?_, _, rfl⟩, hE⟩
   rcases h with ⟨h, _⟩ | ⟨_, _, _, _, h⟩
   ·omega
   ·exact hR h
 ·have hqs : (q / 256 == 1) = false := by
   have h1 : ¬ (256 ≤ q ∧ q < 512) := hq
   simp; omega
  have hnf : ¬ fldOK 2 8 q := fun h => by
   rcases h with ⟨h, _⟩ | ⟨_, _, _, h, _⟩
   ·omega
   ·exact hq h
  have HNF := Lib.hid hnf; clear hnf hq
  go_enter Tryz.func185, Tryz.ntmps185
  go_wp2_with (first
   | (go_at_call 35; (with_reducible refine (inRange_c _ _ _ _).mono ?_); rintro e w1 ⟨⟨hP, rfl⟩ | ⟨hP, rfl⟩, rfl⟩ <;> first | (exfalso; omega) | skip))
  go_ret2
  exact ⟨.inr ⟨HNF.out, _, rfl⟩, eX⟩
theorem calc_c (p k q : Int) (w : World) :
  Calls Tryz.prog 185 #[vFld p k q] w fun e w' => CalcR p k q e w' ∧ Ext w w' := by
 by_cases h1 : k = 1
 ·subst h1
  by_cases h2 : (3 ≤ p ∧ p ≤ 1021) ∧ isPr p
  ·exact calcP_yes p q w h2.1 h2.2
  ·exact calcP_no p q w h2
 ·by_cases h2 : p = 2 ∧ (3 ≤ k ∧ k ≤ 8)
  ·obtain ⟨rfl, h3⟩ := h2
   have : k = 3 ∨ k = 4 ∨ k = 5 ∨ k = 6 ∨ k = 7 ∨ k = 8 := by omega
   rcases this with rfl | rfl | rfl | rfl | rfl | rfl
   ·exact calcB3_c q w
   ·exact calcB4_c q w
   ·exact calcB5_c q w
   ·exact calcB6_c q w
   ·exact calcB7_c q w
   ·exact calcB8_c q w
  ·exact calcB_no p k q w h1 h2
end Go.Proofs.YtdnkljpnhmcnpaaGreat
