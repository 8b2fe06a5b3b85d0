
/- The arithmetic of a field: the tables are filled. -/
import Derived.Test.YtnfbgjgchcgonaaA
import Derived.Test.YtnfbgjgchcgonaaBits
import Derived.Test.YtnfbgjgchcgonaaBut
namespace Go.Proofs.Ytnfbgjgchcgonaa
set_option linter.unusedVariables false
set_option linter.unusedSimpArgs false
open Go.RowKit

/-- t, n times from 1 on. -/
def itS (t : Int → Int) : Nat → Int
  | 0 => 1
  | n + 1 => t (itS t n)
/-- The powers come back to 1 after just N steps, and never to 0. -/
def Runs (t : Int → Int) (N : Nat) : Prop := (∀ n, n < N → itS t n ≠ 0 ∧ (0 < n → itS t n ≠ 1)) ∧ itS t N = 1
theorem itS_bd {t : Int → Int} {size : Int} (h3 : 3 ≤ size) (ht : ∀ x, 0 ≤ x ∧ x < size → 0 ≤ t x ∧ t x < size) : ∀ n, 0 ≤ itS t n ∧ itS t n < size := by
  intro n
  induction n with
  | zero => exact ⟨by show (0 : Int) ≤ 1; omega, by show (1 : Int) < size; omega⟩
  | succ n ih => exact ht _ ih

/-- What a field's arithmetic keeps beside the tables. -/
def CalcS (cs : Array Value) (bin : Bool) (size : Int) : Prop := cs.size = 2044 ∧ cs[0]? = some (.bool bin) ∧ cs[1]? = some (.int .i64 size) ∧ ∀ i, 2 ≤ i → i < 2044 → ∃ n, cs[i]? = some (.int .i64 n)
theorem CalcS.set {cs : Array Value} {bin : Bool} {size : Int} (h : CalcS cs bin size) {i : Nat} (hi : 2 ≤ i) (n : Int) : CalcS (cs.setIfInBounds i (.int .i64 n)) bin size := by
  obtain ⟨h1, h2, h3, h4⟩ := h
  refine ⟨by simpa using h1, by rw [Array.getElem?_setIfInBounds_ne (by omega)]; exact h2, by rw [Array.getElem?_setIfInBounds_ne (by omega)]; exact h3, fun j h5 h6 => ?_⟩
  by_cases e : i = j
  · subst e
    exact ⟨n, by rw [Array.getElem?_setIfInBounds_self_of_lt (by omega)]⟩
  · rw [Array.getElem?_setIfInBounds_ne e]
    exact h4 j h5 h6
/-- A block holds the arithmetic of a field with so many elements. -/
def CalcB (w : World) (g : Nat) (bin : Bool) (size : Int) : Prop := ∃ cs, Blk w g cs 190 ∧ CalcS cs bin size
theorem CalcB.ext {w w' : World} {g : Nat} {bin : Bool} {size : Int} (h : CalcB w g bin size) (hb : Ext w w') : CalcB w' g bin size := by
  obtain ⟨cs, h1, h2⟩ := h
  exact ⟨cs, h1.ext hb, h2⟩
theorem CalcB.sizeCell {w : World} {g : Nat} {bin : Bool} {size : Int} (h : CalcB w g bin size) : w.cell? ⟨g, 1, none⟩ = some (.int .i64 size) := by
  obtain ⟨cs, h1, h2⟩ := h
  exact h1.cell h2.2.2.1

theorem mulFn_c (x g p : Int) (bg bp : Nat) (w : World) (h1 : w.cell? ⟨bg, 0, none⟩ = some (.int .i64 g)) (h2 : w.cell? ⟨bp, 0, none⟩ = some (.int .i64 p)) (hx : 0 ≤ x ∧ x < 100000) (hg : 0 ≤ g ∧ g < 100000) (hp : 1 ≤ p ∧ p < 100000) :
    Calls Try.prog 185 #[.int .i64 x, .pointer (some ⟨bg, 0, none⟩), .pointer (some ⟨bp, 0, none⟩)] w fun e w' => e = .returned (.int .i64 (x * g % p)) ∧ w = w' := by
  have hm : 0 ≤ x * g := Int.mul_nonneg hx.1 hg.1
  have hm2 : x * g ≤ 100000 * 100000 := Int.mul_le_mul (by omega) (by omega) hg.1 (by omega)
  have hne : ¬ p = 0 := by omega
  have e1 : (x * g).tmod p = x * g % p := Int.tmod_eq_emod_of_nonneg hm
  have b1 : x * g % p < p := Int.emod_lt_of_pos _ (by omega)
  have b2 : 0 ≤ x * g % p := Int.emod_nonneg _ hne
  have e2 := IntWalk.i64_in (x * g) (by omega)
  have e3 := IntWalk.i64_in (x * g % p) (by omega)
  go_enter Try.func185, Try.ntmps185
  go_wp2
  go_ret
  exact ⟨rfl, rfl⟩

/-- The answer of fill. -/
def FillR (t : Int → Int) (N g : Nat) (bin : Bool) (size : Int) (w : World) (e : Ending) (w' : World) : Prop := isB e (Runs t N) ∧ CalcB w' g bin size ∧ But g w w'

set_option maxRecDepth 100000 in
theorem fill1_c (t : Int → Int) (size p gn : Int) (N g bg bp : Nat) (bin : Bool) (w : World) (hN : size = N + 1) (h3 : 3 ≤ size ∧ size ≤ 1021) (ht : ∀ x, 0 ≤ x ∧ x < size → 0 ≤ t x ∧ t x < size) (hc : CalcB w g bin size)
    (q1 : w.cell? ⟨bg, 0, none⟩ = some (.int .i64 gn)) (q2 : w.cell? ⟨bp, 0, none⟩ = some (.int .i64 p)) (hbg : bg ≠ g ∧ bg < w.heap.size) (hbp : bp ≠ g ∧ bp < w.heap.size) (hgn : 0 ≤ gn ∧ gn < 100000) (hp : 1 ≤ p ∧ p < 100000) (htt : ∀ x, t x = x * gn % p) :
    Calls Try.prog 162 #[.pointer (some ⟨g, 0, none⟩), .func (.func 185) #[] #[.pointer (some ⟨bg, 0, none⟩), .pointer (some ⟨bp, 0, none⟩)]] w fun e w' => FillR t N g bin size w e w' := by
  have hbd := Lib.hid (itS_bd h3.1 ht)
  have HTT := Lib.hid htt; clear htt ht
  have HQ1 := Lib.hid q1; have HQ2 := Lib.hid q2; clear q1 q2
  have HN := Lib.hid hN
  have hsz : size - 1 = N := by omega
  go_enter Try.func162, Try.ntmps162
  go_wp2
  go_loopw [5, 6] (fun x i wr => ∃ n : Nat, n ≤ N ∧ x = .int .i64 (itS t n) ∧ i = .int .i64 n ∧ Hid (∀ m, m < n → itS t m ≠ 0 ∧ (0 < m → itS t m ≠ 1)) ∧ CalcB wr g bin size ∧ But g w wr) (fun _ i _ => N - (intOf i).toNat)
  case atStart => exact ⟨0, Nat.zero_le _, rfl, rfl, Lib.hid (fun m hm => by omega), hc, But.refl _ _⟩
  case round =>
    clear hc
    obtain ⟨n, hn, rfl, rfl, hR, ⟨cs, hb, hS⟩, hbut⟩ := hrel
    have q1 := hb.cell hS.2.2.1
    have q2 := hb.lt
    have q3 := hb.free
    have hx := hbd.out n
    have hx2 := hbd.out (n + 1)
    have hst := Lib.hid (show itS t (n + 1) = t (itS t n) from rfl)
    by_cases hlt : n < N
    · have hd : (n : Int) < size - 1 := by omega
      have hst2 : itS t (n + 1) = itS t n * gn % p := by rw [hst.out, HTT.out]
      have hno : (itS t n = 0 ∨ (0 < n ∧ itS t n = 1)) → ¬ Runs t N := fun h k => by
        have := k.1 n hlt
        rcases h with h | ⟨h0, h⟩
        · exact this.1 h
        · exact this.2 h0 h
      have hok : ¬ (itS t n = 0 ∨ (0 < n ∧ itS t n = 1)) → ∀ m, m < n + 1 → itS t m ≠ 0 ∧ (0 < m → itS t m ≠ 1) := fun h m hm => by
        rcases Nat.lt_or_ge m n with h1 | h1
        · exact hR.out m h1
        · obtain rfl : m = n := by omega
          exact ⟨fun e => h (.inl e), fun h0 e => h (.inr ⟨h0, e⟩)⟩
      have HST := Lib.hid hst2; have HNO := Lib.hid hno; have HOK := Lib.hid hok; clear hst2 hst hno hok
      generalize itS t n = X at *
      obtain ⟨k, rfl⟩ : ∃ k : Nat, X = k := ⟨X.toNat, by omega⟩
      by_cases hbad : (k : Int) = 0 ∨ (0 < n ∧ (k : Int) = 1)
      · have hnr := HNO.out hbad
        rcases hbad with h0 | ⟨h0, h1⟩
        · obtain rfl : k = 0 := by omega
          go_wp2
          go_ret
          exact ⟨isB_f hnr, ⟨cs, hb, hS⟩, hbut⟩
        · obtain rfl : k = 1 := by omega
          have h0' : (0 : Int) < n := by omega
          go_wp2
          go_ret
          exact ⟨isB_f hnr, ⟨cs, hb, hS⟩, hbut⟩
      · have hk1 : ((k : Int) == 0) = false := by simp; omega
        have hk2 : 0 < n → ((k : Int) == 1) = false := fun h => by simp; omega
        have HK := Lib.hid (HOK.out hbad)
        obtain ⟨v1, hv1⟩ := hS.2.2.2 (2 + n) (by omega) (by omega)
        obtain ⟨v2, hv2⟩ := (hS.set (i := 2 + n) (by omega) k).2.2.2 (1023 + k) (by omega) (by omega)
        have hS2 := (hS.set (i := 2 + n) (by omega) k).set (i := 1023 + k) (by omega) n
        have hb1 := hb.set (2 + n) (.int .i64 k)
        have c1 := hb.cell hv1
        have c2 := hb1.cell hv2
        have hb2 := hb1.set (1023 + k) (.int .i64 n)
        have hbut2 := (hbut.trans (But.set wr g (2 + n) (.int .i64 k))).trans (But.set _ g (1023 + k) (.int .i64 n))
        have hbut2' := Lib.hid hbut2
        obtain ⟨bc, bf, bk, bz⟩ := bucell hbut2
        have g1 := (bc bg 0 hbg.2 hbg.1).trans HQ1.out
        have g2 := (bc bp 0 hbp.2 hbp.1).trans HQ2.out
        clear bc bf bk bz hbut2 hbut HNO HOK hbad
        have hk21 : (k : Int) < 1021 := by omega
        have hn21 : (n : Int) < 1021 := by omega
        have hS2 := Lib.hid hS2
        have hb2 := Lib.hid hb2
        have hkn : k < N + 1 := by omega
        by_cases h0 : 0 < n
        · have hk2 := hk2 h0
          have h0' : (0 : Int) < n := by omega
          clear hN
          go_wp2_with (first
            | (go_at_call 185; (with_reducible refine (mulFn_c _ gn p bg bp _ g1 g2 (by omega) hgn hp).mono ?_); rintro e w1 ⟨rfl, rfl⟩))
          go_roundw
          case rel => exact ⟨n + 1, hlt, by rw [HST.out], by go_num, HK, ⟨_, hb2.out, hS2.out⟩, hbut2'.out⟩
          case measure => simp [intOf]; omega
        · have h0' : ¬ (0 : Int) < n := by omega
          clear hk2 hN
          go_wp2_with (first
            | (go_at_call 185; (with_reducible refine (mulFn_c _ gn p bg bp _ g1 g2 (by omega) hgn hp).mono ?_); rintro e w1 ⟨rfl, rfl⟩))
          go_roundw
          case rel => exact ⟨n + 1, hlt, by rw [HST.out], by go_num, HK, ⟨_, hb2.out, hS2.out⟩, hbut2'.out⟩
          case measure => simp [intOf]; omega
    · obtain rfl : n = N := by omega
      have hd : ¬ (n : Int) < size - 1 := by omega
      clear hN
      by_cases h1 : itS t n = 1
      · have hyes : Runs t n := ⟨hR.out, h1⟩
        rw [h1]
        clear h1
        go_wp2
        go_ret
        exact ⟨isB_t hyes, ⟨cs, hb, hS⟩, hbut⟩
      · have hno : ¬ Runs t n := fun k => h1 k.2
        have hb1 : (itS t n == 1) = false := by simpa using h1
        generalize itS t n = X at *
        go_wp2
        go_ret
        exact ⟨isB_f hno, ⟨cs, hb, hS⟩, hbut⟩
end Go.Proofs.Ytnfbgjgchcgonaa
