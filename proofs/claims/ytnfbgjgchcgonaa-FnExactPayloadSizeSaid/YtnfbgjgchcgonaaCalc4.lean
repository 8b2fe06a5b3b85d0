
/- The arithmetic of a field of prime size: it is found just where the field is valid. -/
import Derived.Test.YtnfbgjgchcgonaaCalc3
namespace Go.Proofs.Ytnfbgjgchcgonaa
set_option linter.unusedVariables false
set_option linter.unusedSimpArgs false
open Go.RowKit

/-- x doubled, with the polynomial q taken off where it has grown too large. -/
def xtS (k : Nat) (q x : Int) : Int := if 2 * x < 2 ^ k then 2 * x else (((2 * x).toNat ^^^ q.toNat : Nat) : Int)
/-- The field is valid. -/
def fldOK (p k q : Int) : Prop :=
  (k = 1 ∧ (3 ≤ p ∧ p ≤ 1021) ∧ isPr p ∧ (1 ≤ q ∧ q ≤ p - 1) ∧ (∀ g : Int, 1 ≤ g → g < q → ¬ Runs (gpS g p) (p - 1).toNat) ∧ Runs (gpS q p) (p - 1).toNat) ∨
  (k ≠ 1 ∧ p = 2 ∧ (3 ≤ k ∧ k ≤ 8) ∧ (2 ^ k.toNat ≤ q ∧ q < 2 ^ (k.toNat + 1)) ∧ Runs (xtS k.toNat q) (2 ^ k.toNat - 1))
def fldSize (p k : Int) : Int := if k = 1 then p else 2 ^ k.toNat
abbrev vFld (p k q : Int) : Value := .agg #[.int .i64 p, .int .i64 k, .int .i64 q]
/-- The answer of calc. -/
def CalcR (p k q : Int) (e : Ending) (w' : World) : Prop :=
  (fldOK p k q ∧ ∃ (g : Nat) (b : Bool), e = .returned (.tuple #[.pointer (some ⟨g, 0, none⟩), .bool true]) ∧ CalcB w' g b (fldSize p k)) ∨ (¬ fldOK p k q ∧ ∃ v, e = .returned (.tuple #[v, .bool false]))

theorem runs_one {p : Int} (hp : 3 ≤ p) : ¬ Runs (gpS 1 p) (p - 1).toNat := fun h => by
  have h1 : itS (gpS 1 p) 1 = 1 := by
    show 1 * 1 % p = 1
    rw [Int.one_mul]
    exact Int.emod_eq_of_lt (by omega) (by omega)
  exact (h.1 1 (by omega)).2 (by omega) h1

set_option maxRecDepth 100000 in
theorem calcP_no (p q : Int) (w : World) (hno : ¬ ((3 ≤ p ∧ p ≤ 1021) ∧ isPr p)) :
    Calls Try.prog 95 #[vFld p 1 q] w fun e w' => CalcR p 1 q e w' ∧ Ext w w' := by
  have hnf : ¬ fldOK p 1 q := fun h => by
    rcases h with ⟨_, h1, h2, _⟩ | ⟨h1, _⟩
    · exact hno ⟨h1, h2⟩
    · exact h1 rfl
  have HNF := Lib.hid hnf; clear hnf
  by_cases h1 : 3 ≤ p ∧ p ≤ 1021
  · have h2 : ¬ isPr p := fun h => hno ⟨h1, h⟩
    have hp2 : (p == 2) = false := by simp; omega
    clear hno
    go_enter Try.func95, Try.ntmps95
    go_wp2_with (first
      | (go_at_call 84; (with_reducible refine (inRange_c _ _ _ _).mono ?_); rintro e w1 ⟨⟨hP, rfl⟩ | ⟨hP, rfl⟩, rfl⟩ <;> try contradiction)
      | (go_at_call 160; (with_reducible refine (isPrime_c _ _ h1).mono ?_); rintro e w1 ⟨⟨hP, rfl⟩ | ⟨hP, rfl⟩, rfl⟩ <;> try contradiction))
    go_ret2
    exact ⟨.inr ⟨HNF.out, _, rfl⟩, (by repeat (first | exact Ext.refl _ | assumption | refine Ext.drew ?_ | refine Ext.drewN ?_ _ | refine Ext.iter ?_ _ _ | refine Ext.alloc ?_ _ | refine Ext.setCell ?_ (by first | exact Nat.le_refl _ | (simp <;> omega)) _ | refine Ext.trans2 (by assumption) ?_))⟩
  · clear hno
    by_cases h2 : p = 2
    · subst h2
      go_enter Try.func95, Try.ntmps95
      go_wp2_with (first
        | (go_at_call 84; (with_reducible refine (inRange_c _ _ _ _).mono ?_); rintro e w1 ⟨⟨hP, rfl⟩ | ⟨hP, rfl⟩, rfl⟩ <;> first | contradiction | (exfalso; omega) | skip))
      go_ret2
      exact ⟨.inr ⟨HNF.out, _, rfl⟩, (by repeat (first | exact Ext.refl _ | assumption | refine Ext.drew ?_ | refine Ext.drewN ?_ _ | refine Ext.iter ?_ _ _ | refine Ext.alloc ?_ _ | refine Ext.setCell ?_ (by first | exact Nat.le_refl _ | (simp <;> omega)) _ | refine Ext.trans2 (by assumption) ?_))⟩
    · have hp2 : (p == 2) = false := by simpa using h2
      go_enter Try.func95, Try.ntmps95
      go_wp2_with (first
        | (go_at_call 84; (with_reducible refine (inRange_c _ _ _ _).mono ?_); rintro e w1 ⟨⟨hP, rfl⟩ | ⟨hP, rfl⟩, rfl⟩ <;> first | contradiction | (exfalso; omega) | skip))
      go_ret2
      exact ⟨.inr ⟨HNF.out, _, rfl⟩, (by repeat (first | exact Ext.refl _ | assumption | refine Ext.drew ?_ | refine Ext.drewN ?_ _ | refine Ext.iter ?_ _ _ | refine Ext.alloc ?_ _ | refine Ext.setCell ?_ (by first | exact Nat.le_refl _ | (simp <;> omega)) _ | refine Ext.trans2 (by assumption) ?_))⟩

set_option maxRecDepth 100000 in
theorem calcP_yes (p q : Int) (w : World) (h1 : 3 ≤ p ∧ p ≤ 1021) (h2 : isPr p) :
    Calls Try.prog 95 #[vFld p 1 q] w fun e w' => CalcR p 1 q e w' ∧ Ext w w' := by
  obtain ⟨N, hN⟩ : ∃ N : Nat, p = N + 1 := ⟨(p - 1).toNat, by omega⟩
  have hNt : (p - 1).toNat = N := by omega
  have hb := Blk.new w #[.int .i64 p, .int .i64 1, .int .i64 q] 41
  have HPR := Lib.hid h2
  have HN := Lib.hid hN; have HNT := Lib.hid hNt
  have hx0 : Ext w (w.alloc (.cells #[.int .i64 p, .int .i64 1, .int .i64 q] 41)) := (Ext.refl w).alloc _
  go_enter Try.func95, Try.ntmps95
  clear hN hNt
  go_wp2_with (first
    | (go_at_call 84; (with_reducible refine (inRange_c _ _ _ _).mono ?_); rintro e w1 ⟨⟨hP, rfl⟩ | ⟨hP, rfl⟩, rfl⟩ <;> try contradiction)
    | (go_at_call 160; (with_reducible refine (isPrime_c _ _ h1).mono ?_); rintro e w1 ⟨⟨hP2, rfl⟩ | ⟨hP2, rfl⟩, rfl⟩ <;> try contradiction))
  generalize hw0 : w.alloc (.cells #[.int .i64 p, .int .i64 1, .int .i64 q] 41) = w0 at *
  clear hw0
  go_loopw [4] (fun i wr => ∃ d : Nat, 2 ≤ d ∧ (d : Int) ≤ p ∧ i = .int .i64 d ∧ Hid (∀ e : Int, 1 ≤ e → e < d → ¬ Runs (gpS e p) N) ∧ Ext w0 wr) (fun i _ => (p - intOf i).toNat)
  case atStart => exact ⟨2, by omega, by omega, rfl, Lib.hid (fun e he h3 => by obtain rfl : e = 1 := by omega
                                                                                have := runs_one h1.1
                                                                                rwa [HNT.out] at this), (by repeat (first | exact Ext.refl _ | assumption | refine Ext.drew ?_ | refine Ext.drewN ?_ _ | refine Ext.iter ?_ _ _ | refine Ext.alloc ?_ _ | refine Ext.setCell ?_ (by first | exact Nat.le_refl _ | (simp <;> omega)) _ | refine Ext.trans2 (by assumption) ?_))⟩
  case round =>
    obtain ⟨d, hd2, hdp, rfl, hR, hext⟩ := hrel
    have hbr := hb.ext hext
    have q0 := hbr.cell (i := 0) (v := .int .i64 p) rfl
    have q2 := hbr.cell (i := 2) (v := .int .i64 q) rfl
    have ql := hbr.lt
    by_cases hlt : (d : Int) < p
    · go_wp2_with fail
      refine (primePowers_c d p N wr HN.out h1 (by omega)).mono ?_
      rintro e w1 ⟨⟨g, b, rfl, hRb, hcb⟩, hx1⟩
      have hb1 := hbr.ext hx1
      have q2 := hb1.cell (i := 2) (v := .int .i64 q) rfl
      have ql := hb1.lt
      cases b with
      | true =>
        have hrun : Runs (gpS d p) N := hRb.1 rfl
        clear hRb
        have HRUN := Lib.hid hrun; clear hrun
        by_cases hdq : (d : Int) = q
        · have hok : fldOK p 1 q := .inl ⟨rfl, h1, HPR.out, by omega, fun g h3 h4 => by rw [HNT.out]; exact hR.out g h3 (by omega), by rw [HNT.out, ← hdq]; exact HRUN.out⟩
          have HOK := Lib.hid hok; clear hok
          subst hdq
          go_wp2_with fail
          go_quiet (fail)
          go_wp2
          go_ret2
          exact ⟨.inl ⟨HOK.out, g, false, rfl, by rw [show fldSize p 1 = p from rfl]; exact hcb.ext (by repeat (first | exact Ext.refl _ | assumption | refine Ext.drew ?_ | refine Ext.drewN ?_ _ | refine Ext.iter ?_ _ _ | refine Ext.alloc ?_ _ | refine Ext.setCell ?_ (by first | exact Nat.le_refl _ | (simp <;> omega)) _ | refine Ext.trans2 (by assumption) ?_))⟩, (by repeat (first | exact Ext.refl _ | assumption | refine Ext.drew ?_ | refine Ext.drewN ?_ _ | refine Ext.iter ?_ _ _ | refine Ext.alloc ?_ _ | refine Ext.setCell ?_ (by first | exact Nat.le_refl _ | (simp <;> omega)) _ | refine Ext.trans2 (by assumption) ?_))⟩
        · have hno : ¬ fldOK p 1 q := fun h => by
            rcases h with ⟨_, _, _, h4, h5, h6⟩ | ⟨h, _⟩
            · rw [HNT.out] at h5 h6
              rcases Int.lt_or_gt_of_ne hdq with h | h
              · exact h5 d (by omega) h HRUN.out
              · exact hR.out q h4.1 h h6
            · exact h rfl
          have HNO := Lib.hid hno; clear hno
          have hdq' : ((d : Int) == q) = false := by simpa using hdq
          go_wp2_with fail
          go_quiet (fail)
          go_wp2
          go_ret2
          exact ⟨.inr ⟨HNO.out, _, rfl⟩, (by repeat (first | exact Ext.refl _ | assumption | refine Ext.drew ?_ | refine Ext.drewN ?_ _ | refine Ext.iter ?_ _ _ | refine Ext.alloc ?_ _ | refine Ext.setCell ?_ (by first | exact Nat.le_refl _ | (simp <;> omega)) _ | refine Ext.trans2 (by assumption) ?_))⟩
      | false =>
        have hrun : ¬ Runs (gpS d p) N := fun h => by have := hRb.2 h; simp at this
        clear hRb
        have HR2 := Lib.hid (show ∀ e : Int, 1 ≤ e → e < (d + 1 : Nat) → ¬ Runs (gpS e p) N from fun e h3 h4 => by
          rcases Int.lt_or_le e d with h | h
          · exact hR.out e h3 h
          · obtain rfl : e = d := by omega
            exact hrun)
        clear hrun hR
        go_wp2
        go_roundw
        case rel => exact ⟨d + 1, by omega, by omega, by go_num, HR2, hext.trans hx1⟩
        case measure => simp [intOf]; omega
    · have hno : ¬ fldOK p 1 q := fun h => by
        rcases h with ⟨_, _, _, h4, h5, h6⟩ | ⟨h, _⟩
        · rw [HNT.out] at h6
          exact hR.out q h4.1 (by omega) h6
        · exact h rfl
      have HNO := Lib.hid hno; clear hno
      go_wp2
      go_ret2
      exact ⟨.inr ⟨HNO.out, _, rfl⟩, (by repeat (first | exact Ext.refl _ | assumption | refine Ext.drew ?_ | refine Ext.drewN ?_ _ | refine Ext.iter ?_ _ _ | refine Ext.alloc ?_ _ | refine Ext.setCell ?_ (by first | exact Nat.le_refl _ | (simp <;> omega)) _ | refine Ext.trans2 (by assumption) ?_))⟩
end Go.Proofs.Ytnfbgjgchcgonaa
