
/- The reference's IsField. -/
import Derived.Test.YtnfbgjgchcgonaaSFld
namespace Go.Proofs.Ytnfbgjgchcgonaa
set_option linter.unusedVariables false
set_option linter.unusedSimpArgs false
open Go.RowKit

theorem gps_one {g p : Int} (hg : 0 ≤ g ∧ g < p) : itS (gpS g p) 1 = g := by
  show 1 * g % p = g
  rw [Int.one_mul]
  exact Int.emod_eq_of_lt hg.1 hg.2
theorem runsP_c (p q g : Int) (w : World) (hp : 3 ≤ p ∧ p ≤ 1021) (hg : 1 ≤ g ∧ g ≤ p - 1) :
    Calls Try.prog 157 #[vFld p 1 q, .int .i64 g] w fun e w' => isB e (Runs (gpS g p) (p - 1).toNat) ∧ Ext w w' :=
  l02Runs_c p 1 q (gpS g p) p g (p - 1).toNat w (by omega) rfl (by omega) hp (gpS_bd hp.1) (gps_one (by omega)) (fun x W hx => l02MulP_c p q x g W hp (by omega) (by omega))
theorem runsB_c (p : Int) (k : Nat) (q : Int) (w : World) (hk : 3 ≤ k ∧ k ≤ 8) (hq : (2 : Int) ^ k ≤ q ∧ q < 2 ^ (k + 1)) :
    Calls Try.prog 157 #[vFld p k q, .int .i64 2] w fun e w' => isB e (Runs (xtS k q) (2 ^ k - 1)) ∧ Ext w w' := by
  have e1 := two_pow_cast k
  have e4 : (2 : Nat) ^ k ≤ 2 ^ 8 := Nat.pow_le_pow_right (by omega) hk.2
  have e5 : (2 : Nat) ^ 3 ≤ 2 ^ k := Nat.pow_le_pow_right (by omega) hk.1
  refine l02Runs_c p k q (xtS k q) (2 ^ k) 2 (2 ^ k - 1) w (by omega) ?_ (by omega) (by omega) (xtS_bd hq) ?_ (fun x W hx => l02Mul2_c p k q x W hk hx hq)
  · unfold fldSize
    rw [if_neg (by omega), Int.toNat_natCast]
  · show xtS k q 1 = 2
    unfold xtS
    rw [if_pos (by omega)]
    rfl

set_option maxRecDepth 100000 in
theorem sIsField1_c (p q : Int) (w : World) :
    Calls Try.prog 92 #[vFld p 1 q] w fun e w' => isB e (fldOK p 1 q) ∧ Ext w w' := by
  by_cases hok : (3 ≤ p ∧ p ≤ 1021) ∧ isPr p ∧ (1 ≤ q ∧ q ≤ p - 1)
  · obtain ⟨h1, h2, h3⟩ := hok
    have hb := Blk.new w #[.int .i64 p, .int .i64 1, .int .i64 q] 41
    have HPR := Lib.hid h2
    have hx0 : Ext w (w.alloc (.cells #[.int .i64 p, .int .i64 1, .int .i64 q] 41)) := (Ext.refl w).alloc _
    go_enter Try.func92, Try.ntmps92
    go_wp2_with (first
      | (go_at_call 86; (with_reducible refine (l01In_c _ _ _ _).mono ?_); rintro e w1 ⟨⟨hP, rfl⟩ | ⟨hP, rfl⟩, rfl⟩ <;> try contradiction)
      | (go_at_call 156; (with_reducible refine (l02Prime_c _ _ h1).mono ?_); rintro e w1 ⟨⟨hP2, rfl⟩ | ⟨hP2, rfl⟩, rfl⟩ <;> try contradiction))
    generalize hw0 : w.alloc (.cells #[.int .i64 p, .int .i64 1, .int .i64 q] 41) = w0 at *
    clear hw0
    go_loopw [3] (fun i wr => ∃ d : Nat, 1 ≤ d ∧ (d : Int) ≤ q ∧ i = .int .i64 d ∧ Hid (∀ e : Int, 1 ≤ e → e < d → ¬ Runs (gpS e p) (p - 1).toNat) ∧ Ext w0 wr) (fun i _ => (q - intOf i).toNat)
    case atStart => exact ⟨1, by omega, by omega, rfl, Lib.hid (fun e he h3 => by omega), (by repeat (first | exact Ext.refl _ | assumption | refine Ext.drew ?_ | refine Ext.drewN ?_ _ | refine Ext.iter ?_ _ _ | refine Ext.alloc ?_ _ | refine Ext.setCell ?_ (by first | exact Nat.le_refl _ | (simp <;> omega)) _ | refine Ext.trans2 (by assumption) ?_))⟩
    case round =>
      obtain ⟨d, hd1, hdq, rfl, hR, hext⟩ := hrel
      have hbr := hb.ext hext
      have q0 := hbr.cell (i := 0) (v := .int .i64 p) rfl
      have q1 := hbr.cell (i := 1) (v := .int .i64 1) rfl
      have q2 := hbr.cell (i := 2) (v := .int .i64 q) rfl
      have ql := hbr.lt
      by_cases hlt : (d : Int) < q
      · have hno : Runs (gpS d p) (p - 1).toNat → ¬ fldOK p 1 q := fun h k => by
          rcases k with ⟨_, _, _, _, h5, _⟩ | ⟨k, _⟩
          · exact h5 d (by omega) hlt h
          · exact k rfl
        have HNO := Lib.hid hno
        have hR2 : ¬ Runs (gpS d p) (p - 1).toNat → ∀ e : Int, 1 ≤ e → e < (d + 1 : Nat) → ¬ Runs (gpS e p) (p - 1).toNat := fun h e h3 h4 => by
          rcases Int.lt_or_le e d with h5 | h5
          · exact hR.out e h3 h5
          · obtain rfl : e = d := by omega
            exact h
        have HR2 := Lib.hid hR2
        clear hno hR2 hR
        go_wp2_with (go_at_call 157; (with_reducible refine (runsP_c p q d _ h1 (by omega)).mono ?_); rintro e w1 ⟨⟨hP3, rfl⟩ | ⟨hP3, rfl⟩, hx1⟩ <;> replace hP3 := Lib.hid hP3)
        · go_ret
          exact ⟨isB_f (HNO.out hP3.out), (by repeat (first | exact Ext.refl _ | assumption | refine Ext.drew ?_ | refine Ext.drewN ?_ _ | refine Ext.iter ?_ _ _ | refine Ext.alloc ?_ _ | refine Ext.setCell ?_ (by first | exact Nat.le_refl _ | (simp <;> omega)) _ | refine Ext.trans2 (by assumption) ?_))⟩
        · go_roundw
          case rel => exact ⟨d + 1, by omega, by omega, by go_num, Lib.hid (HR2.out hP3.out), hext.trans hx1⟩
          case measure => simp [intOf]; omega
      · obtain rfl : q = d := by omega
        have hfin : ∀ P : Prop, P = Runs (gpS d p) (p - 1).toNat → (P ↔ fldOK p 1 d) := fun P hP => by
          subst hP
          refine ⟨fun h => .inl ⟨rfl, h1, HPR.out, h3, hR.out, h⟩, fun h => ?_⟩
          rcases h with ⟨_, _, _, _, _, h⟩ | ⟨k, _⟩
          · exact h
          · exact absurd rfl k
        have HF := Lib.hid (hfin _ rfl)
        clear hfin hR
        go_wp2_with (go_at_call 157; (with_reducible refine (runsP_c p d d _ h1 (by omega)).mono ?_); rintro e w1 ⟨⟨hP3, rfl⟩ | ⟨hP3, rfl⟩, hx1⟩ <;> replace hP3 := Lib.hid hP3)
        · go_ret
          exact ⟨isB_t (HF.out.1 hP3.out), (by repeat (first | exact Ext.refl _ | assumption | refine Ext.drew ?_ | refine Ext.drewN ?_ _ | refine Ext.iter ?_ _ _ | refine Ext.alloc ?_ _ | refine Ext.setCell ?_ (by first | exact Nat.le_refl _ | (simp <;> omega)) _ | refine Ext.trans2 (by assumption) ?_))⟩
        · go_ret
          exact ⟨isB_f (fun h => hP3.out (HF.out.2 h)), (by repeat (first | exact Ext.refl _ | assumption | refine Ext.drew ?_ | refine Ext.drewN ?_ _ | refine Ext.iter ?_ _ _ | refine Ext.alloc ?_ _ | refine Ext.setCell ?_ (by first | exact Nat.le_refl _ | (simp <;> omega)) _ | refine Ext.trans2 (by assumption) ?_))⟩
  · have hnf : ¬ fldOK p 1 q := fun h => by
      rcases h with ⟨_, h1, h2, h3, _⟩ | ⟨k, _⟩
      · exact hok ⟨h1, h2, h3⟩
      · exact k rfl
    have HNF := Lib.hid hnf; clear hnf
    by_cases h1 : 3 ≤ p ∧ p ≤ 1021
    · by_cases h2 : isPr p
      · have h3 : ¬ (1 ≤ q ∧ q ≤ p - 1) := fun h => hok ⟨h1, h2, h⟩
        have HPR := Lib.hid h2
        clear hok
        go_enter Try.func92, Try.ntmps92
        go_wp2_with (first
          | (go_at_call 86; (with_reducible refine (l01In_c _ _ _ _).mono ?_); rintro e w1 ⟨⟨hP, rfl⟩ | ⟨hP, rfl⟩, rfl⟩ <;> try contradiction)
          | (go_at_call 156; (with_reducible refine (l02Prime_c _ _ h1).mono ?_); rintro e w1 ⟨⟨hP2, rfl⟩ | ⟨hP2, rfl⟩, rfl⟩ <;> try contradiction))
        go_ret
        exact ⟨isB_f HNF.out, (by repeat (first | exact Ext.refl _ | assumption | refine Ext.drew ?_ | refine Ext.drewN ?_ _ | refine Ext.iter ?_ _ _ | refine Ext.alloc ?_ _ | refine Ext.setCell ?_ (by first | exact Nat.le_refl _ | (simp <;> omega)) _ | refine Ext.trans2 (by assumption) ?_))⟩
      · clear hok
        go_enter Try.func92, Try.ntmps92
        go_wp2_with (first
          | (go_at_call 86; (with_reducible refine (l01In_c _ _ _ _).mono ?_); rintro e w1 ⟨⟨hP, rfl⟩ | ⟨hP, rfl⟩, rfl⟩ <;> try contradiction)
          | (go_at_call 156; (with_reducible refine (l02Prime_c _ _ h1).mono ?_); rintro e w1 ⟨⟨hP2, rfl⟩ | ⟨hP2, rfl⟩, rfl⟩ <;> try contradiction))
        go_ret
        exact ⟨isB_f HNF.out, (by repeat (first | exact Ext.refl _ | assumption | refine Ext.drew ?_ | refine Ext.drewN ?_ _ | refine Ext.iter ?_ _ _ | refine Ext.alloc ?_ _ | refine Ext.setCell ?_ (by first | exact Nat.le_refl _ | (simp <;> omega)) _ | refine Ext.trans2 (by assumption) ?_))⟩
    · clear hok
      go_enter Try.func92, Try.ntmps92
      go_wp2_with (first
        | (go_at_call 86; (with_reducible refine (l01In_c _ _ _ _).mono ?_); rintro e w1 ⟨⟨hP, rfl⟩ | ⟨hP, rfl⟩, rfl⟩ <;> try contradiction))
      go_ret
      exact ⟨isB_f HNF.out, (by repeat (first | exact Ext.refl _ | assumption | refine Ext.drew ?_ | refine Ext.drewN ?_ _ | refine Ext.iter ?_ _ _ | refine Ext.alloc ?_ _ | refine Ext.setCell ?_ (by first | exact Nat.le_refl _ | (simp <;> omega)) _ | refine Ext.trans2 (by assumption) ?_))⟩

set_option maxRecDepth 100000 in
theorem sIsFieldB3_c (q : Int) (w : World) :
    Calls Try.prog 92 #[vFld 2 3 q] w fun e w' => isB e (fldOK 2 3 q) ∧ Ext w w' := by
  by_cases hq : (2 : Int) ^ 3 ≤ q ∧ q < 2 ^ (3 + 1)
  · have hq' : 8 ≤ q ∧ q ≤ 15 := by have h1 : 8 ≤ q ∧ q < 16 := hq; omega
    have hrun : ∀ W, Calls Try.prog 157 #[vFld 2 3 q, .int .i64 2] W fun e w' => isB e (Runs (xtS 3 q) (2 ^ 3 - 1)) ∧ Ext W w' := fun W => runsB_c 2 3 q W (by omega) hq
    have HRUN := Lib.hid hrun
    have hfin : Runs (xtS 3 q) (2 ^ 3 - 1) ↔ fldOK 2 3 q := by
      refine ⟨fun h => .inr ⟨by omega, rfl, by omega, hq, h⟩, fun h => ?_⟩
      rcases h with ⟨h, _⟩ | ⟨_, _, _, _, h⟩
      · omega
      · exact h
    have HF := Lib.hid hfin
    clear hfin hrun hq
    go_enter Try.func92, Try.ntmps92
    go_wp2_with (first
      | (go_at_call 86; (with_reducible refine (l01In_c _ _ _ _).mono ?_); rintro e w1 ⟨⟨hP, rfl⟩ | ⟨hP, rfl⟩, rfl⟩ <;> first | (exfalso; omega) | skip)
      | (go_at_call 157; (with_reducible refine (HRUN.out _).mono ?_); rintro e w1 ⟨⟨hP3, rfl⟩ | ⟨hP3, rfl⟩, hx1⟩ <;> replace hP3 := Lib.hid hP3))
    · go_ret
      exact ⟨isB_t (HF.out.1 hP3.out), (by repeat (first | exact Ext.refl _ | assumption | refine Ext.drew ?_ | refine Ext.drewN ?_ _ | refine Ext.iter ?_ _ _ | refine Ext.alloc ?_ _ | refine Ext.setCell ?_ (by first | exact Nat.le_refl _ | (simp <;> omega)) _ | refine Ext.trans2 (by assumption) ?_))⟩
    · go_ret
      exact ⟨isB_f (fun h => hP3.out (HF.out.2 h)), (by repeat (first | exact Ext.refl _ | assumption | refine Ext.drew ?_ | refine Ext.drewN ?_ _ | refine Ext.iter ?_ _ _ | refine Ext.alloc ?_ _ | refine Ext.setCell ?_ (by first | exact Nat.le_refl _ | (simp <;> omega)) _ | refine Ext.trans2 (by assumption) ?_))⟩
  · have hq' : ¬ (8 ≤ q ∧ q ≤ 15) := fun h => hq ⟨h.1, by show q < 16; omega⟩
    have hnf : ¬ fldOK 2 3 q := fun h => by
      rcases h with ⟨h, _⟩ | ⟨_, _, _, h, _⟩
      · omega
      · exact hq h
    have HNF := Lib.hid hnf; clear hnf hq
    go_enter Try.func92, Try.ntmps92
    go_wp2_with (first
      | (go_at_call 86; (with_reducible refine (l01In_c _ _ _ _).mono ?_); rintro e w1 ⟨⟨hP, rfl⟩ | ⟨hP, rfl⟩, rfl⟩ <;> first | (exfalso; omega) | skip))
    go_ret
    exact ⟨isB_f HNF.out, (by repeat (first | exact Ext.refl _ | assumption | refine Ext.drew ?_ | refine Ext.drewN ?_ _ | refine Ext.iter ?_ _ _ | refine Ext.alloc ?_ _ | refine Ext.setCell ?_ (by first | exact Nat.le_refl _ | (simp <;> omega)) _ | refine Ext.trans2 (by assumption) ?_))⟩
set_option maxRecDepth 100000 in
theorem sIsFieldB4_c (q : Int) (w : World) :
    Calls Try.prog 92 #[vFld 2 4 q] w fun e w' => isB e (fldOK 2 4 q) ∧ Ext w w' := by
  by_cases hq : (2 : Int) ^ 4 ≤ q ∧ q < 2 ^ (4 + 1)
  · have hq' : 16 ≤ q ∧ q ≤ 31 := by have h1 : 16 ≤ q ∧ q < 32 := hq; omega
    have hrun : ∀ W, Calls Try.prog 157 #[vFld 2 4 q, .int .i64 2] W fun e w' => isB e (Runs (xtS 4 q) (2 ^ 4 - 1)) ∧ Ext W w' := fun W => runsB_c 2 4 q W (by omega) hq
    have HRUN := Lib.hid hrun
    have hfin : Runs (xtS 4 q) (2 ^ 4 - 1) ↔ fldOK 2 4 q := by
      refine ⟨fun h => .inr ⟨by omega, rfl, by omega, hq, h⟩, fun h => ?_⟩
      rcases h with ⟨h, _⟩ | ⟨_, _, _, _, h⟩
      · omega
      · exact h
    have HF := Lib.hid hfin
    clear hfin hrun hq
    go_enter Try.func92, Try.ntmps92
    go_wp2_with (first
      | (go_at_call 86; (with_reducible refine (l01In_c _ _ _ _).mono ?_); rintro e w1 ⟨⟨hP, rfl⟩ | ⟨hP, rfl⟩, rfl⟩ <;> first | (exfalso; omega) | skip)
      | (go_at_call 157; (with_reducible refine (HRUN.out _).mono ?_); rintro e w1 ⟨⟨hP3, rfl⟩ | ⟨hP3, rfl⟩, hx1⟩ <;> replace hP3 := Lib.hid hP3))
    · go_ret
      exact ⟨isB_t (HF.out.1 hP3.out), (by repeat (first | exact Ext.refl _ | assumption | refine Ext.drew ?_ | refine Ext.drewN ?_ _ | refine Ext.iter ?_ _ _ | refine Ext.alloc ?_ _ | refine Ext.setCell ?_ (by first | exact Nat.le_refl _ | (simp <;> omega)) _ | refine Ext.trans2 (by assumption) ?_))⟩
    · go_ret
      exact ⟨isB_f (fun h => hP3.out (HF.out.2 h)), (by repeat (first | exact Ext.refl _ | assumption | refine Ext.drew ?_ | refine Ext.drewN ?_ _ | refine Ext.iter ?_ _ _ | refine Ext.alloc ?_ _ | refine Ext.setCell ?_ (by first | exact Nat.le_refl _ | (simp <;> omega)) _ | refine Ext.trans2 (by assumption) ?_))⟩
  · have hq' : ¬ (16 ≤ q ∧ q ≤ 31) := fun h => hq ⟨h.1, by show q < 32; omega⟩
    have hnf : ¬ fldOK 2 4 q := fun h => by
      rcases h with ⟨h, _⟩ | ⟨_, _, _, h, _⟩
      · omega
      · exact hq h
    have HNF := Lib.hid hnf; clear hnf hq
    go_enter Try.func92, Try.ntmps92
    go_wp2_with (first
      | (go_at_call 86; (with_reducible refine (l01In_c _ _ _ _).mono ?_); rintro e w1 ⟨⟨hP, rfl⟩ | ⟨hP, rfl⟩, rfl⟩ <;> first | (exfalso; omega) | skip))
    go_ret
    exact ⟨isB_f HNF.out, (by repeat (first | exact Ext.refl _ | assumption | refine Ext.drew ?_ | refine Ext.drewN ?_ _ | refine Ext.iter ?_ _ _ | refine Ext.alloc ?_ _ | refine Ext.setCell ?_ (by first | exact Nat.le_refl _ | (simp <;> omega)) _ | refine Ext.trans2 (by assumption) ?_))⟩
set_option maxRecDepth 100000 in
theorem sIsFieldB5_c (q : Int) (w : World) :
    Calls Try.prog 92 #[vFld 2 5 q] w fun e w' => isB e (fldOK 2 5 q) ∧ Ext w w' := by
  by_cases hq : (2 : Int) ^ 5 ≤ q ∧ q < 2 ^ (5 + 1)
  · have hq' : 32 ≤ q ∧ q ≤ 63 := by have h1 : 32 ≤ q ∧ q < 64 := hq; omega
    have hrun : ∀ W, Calls Try.prog 157 #[vFld 2 5 q, .int .i64 2] W fun e w' => isB e (Runs (xtS 5 q) (2 ^ 5 - 1)) ∧ Ext W w' := fun W => runsB_c 2 5 q W (by omega) hq
    have HRUN := Lib.hid hrun
    have hfin : Runs (xtS 5 q) (2 ^ 5 - 1) ↔ fldOK 2 5 q := by
      refine ⟨fun h => .inr ⟨by omega, rfl, by omega, hq, h⟩, fun h => ?_⟩
      rcases h with ⟨h, _⟩ | ⟨_, _, _, _, h⟩
      · omega
      · exact h
    have HF := Lib.hid hfin
    clear hfin hrun hq
    go_enter Try.func92, Try.ntmps92
    go_wp2_with (first
      | (go_at_call 86; (with_reducible refine (l01In_c _ _ _ _).mono ?_); rintro e w1 ⟨⟨hP, rfl⟩ | ⟨hP, rfl⟩, rfl⟩ <;> first | (exfalso; omega) | skip)
      | (go_at_call 157; (with_reducible refine (HRUN.out _).mono ?_); rintro e w1 ⟨⟨hP3, rfl⟩ | ⟨hP3, rfl⟩, hx1⟩ <;> replace hP3 := Lib.hid hP3))
    · go_ret
      exact ⟨isB_t (HF.out.1 hP3.out), (by repeat (first | exact Ext.refl _ | assumption | refine Ext.drew ?_ | refine Ext.drewN ?_ _ | refine Ext.iter ?_ _ _ | refine Ext.alloc ?_ _ | refine Ext.setCell ?_ (by first | exact Nat.le_refl _ | (simp <;> omega)) _ | refine Ext.trans2 (by assumption) ?_))⟩
    · go_ret
      exact ⟨isB_f (fun h => hP3.out (HF.out.2 h)), (by repeat (first | exact Ext.refl _ | assumption | refine Ext.drew ?_ | refine Ext.drewN ?_ _ | refine Ext.iter ?_ _ _ | refine Ext.alloc ?_ _ | refine Ext.setCell ?_ (by first | exact Nat.le_refl _ | (simp <;> omega)) _ | refine Ext.trans2 (by assumption) ?_))⟩
  · have hq' : ¬ (32 ≤ q ∧ q ≤ 63) := fun h => hq ⟨h.1, by show q < 64; omega⟩
    have hnf : ¬ fldOK 2 5 q := fun h => by
      rcases h with ⟨h, _⟩ | ⟨_, _, _, h, _⟩
      · omega
      · exact hq h
    have HNF := Lib.hid hnf; clear hnf hq
    go_enter Try.func92, Try.ntmps92
    go_wp2_with (first
      | (go_at_call 86; (with_reducible refine (l01In_c _ _ _ _).mono ?_); rintro e w1 ⟨⟨hP, rfl⟩ | ⟨hP, rfl⟩, rfl⟩ <;> first | (exfalso; omega) | skip))
    go_ret
    exact ⟨isB_f HNF.out, (by repeat (first | exact Ext.refl _ | assumption | refine Ext.drew ?_ | refine Ext.drewN ?_ _ | refine Ext.iter ?_ _ _ | refine Ext.alloc ?_ _ | refine Ext.setCell ?_ (by first | exact Nat.le_refl _ | (simp <;> omega)) _ | refine Ext.trans2 (by assumption) ?_))⟩
set_option maxRecDepth 100000 in
theorem sIsFieldB6_c (q : Int) (w : World) :
    Calls Try.prog 92 #[vFld 2 6 q] w fun e w' => isB e (fldOK 2 6 q) ∧ Ext w w' := by
  by_cases hq : (2 : Int) ^ 6 ≤ q ∧ q < 2 ^ (6 + 1)
  · have hq' : 64 ≤ q ∧ q ≤ 127 := by have h1 : 64 ≤ q ∧ q < 128 := hq; omega
    have hrun : ∀ W, Calls Try.prog 157 #[vFld 2 6 q, .int .i64 2] W fun e w' => isB e (Runs (xtS 6 q) (2 ^ 6 - 1)) ∧ Ext W w' := fun W => runsB_c 2 6 q W (by omega) hq
    have HRUN := Lib.hid hrun
    have hfin : Runs (xtS 6 q) (2 ^ 6 - 1) ↔ fldOK 2 6 q := by
      refine ⟨fun h => .inr ⟨by omega, rfl, by omega, hq, h⟩, fun h => ?_⟩
      rcases h with ⟨h, _⟩ | ⟨_, _, _, _, h⟩
      · omega
      · exact h
    have HF := Lib.hid hfin
    clear hfin hrun hq
    go_enter Try.func92, Try.ntmps92
    go_wp2_with (first
      | (go_at_call 86; (with_reducible refine (l01In_c _ _ _ _).mono ?_); rintro e w1 ⟨⟨hP, rfl⟩ | ⟨hP, rfl⟩, rfl⟩ <;> first | (exfalso; omega) | skip)
      | (go_at_call 157; (with_reducible refine (HRUN.out _).mono ?_); rintro e w1 ⟨⟨hP3, rfl⟩ | ⟨hP3, rfl⟩, hx1⟩ <;> replace hP3 := Lib.hid hP3))
    · go_ret
      exact ⟨isB_t (HF.out.1 hP3.out), (by repeat (first | exact Ext.refl _ | assumption | refine Ext.drew ?_ | refine Ext.drewN ?_ _ | refine Ext.iter ?_ _ _ | refine Ext.alloc ?_ _ | refine Ext.setCell ?_ (by first | exact Nat.le_refl _ | (simp <;> omega)) _ | refine Ext.trans2 (by assumption) ?_))⟩
    · go_ret
      exact ⟨isB_f (fun h => hP3.out (HF.out.2 h)), (by repeat (first | exact Ext.refl _ | assumption | refine Ext.drew ?_ | refine Ext.drewN ?_ _ | refine Ext.iter ?_ _ _ | refine Ext.alloc ?_ _ | refine Ext.setCell ?_ (by first | exact Nat.le_refl _ | (simp <;> omega)) _ | refine Ext.trans2 (by assumption) ?_))⟩
  · have hq' : ¬ (64 ≤ q ∧ q ≤ 127) := fun h => hq ⟨h.1, by show q < 128; omega⟩
    have hnf : ¬ fldOK 2 6 q := fun h => by
      rcases h with ⟨h, _⟩ | ⟨_, _, _, h, _⟩
      · omega
      · exact hq h
    have HNF := Lib.hid hnf; clear hnf hq
    go_enter Try.func92, Try.ntmps92
    go_wp2_with (first
      | (go_at_call 86; (with_reducible refine (l01In_c _ _ _ _).mono ?_); rintro e w1 ⟨⟨hP, rfl⟩ | ⟨hP, rfl⟩, rfl⟩ <;> first | (exfalso; omega) | skip))
    go_ret
    exact ⟨isB_f HNF.out, (by repeat (first | exact Ext.refl _ | assumption | refine Ext.drew ?_ | refine Ext.drewN ?_ _ | refine Ext.iter ?_ _ _ | refine Ext.alloc ?_ _ | refine Ext.setCell ?_ (by first | exact Nat.le_refl _ | (simp <;> omega)) _ | refine Ext.trans2 (by assumption) ?_))⟩
set_option maxRecDepth 100000 in
theorem sIsFieldB7_c (q : Int) (w : World) :
    Calls Try.prog 92 #[vFld 2 7 q] w fun e w' => isB e (fldOK 2 7 q) ∧ Ext w w' := by
  by_cases hq : (2 : Int) ^ 7 ≤ q ∧ q < 2 ^ (7 + 1)
  · have hq' : 128 ≤ q ∧ q ≤ 255 := by have h1 : 128 ≤ q ∧ q < 256 := hq; omega
    have hrun : ∀ W, Calls Try.prog 157 #[vFld 2 7 q, .int .i64 2] W fun e w' => isB e (Runs (xtS 7 q) (2 ^ 7 - 1)) ∧ Ext W w' := fun W => runsB_c 2 7 q W (by omega) hq
    have HRUN := Lib.hid hrun
    have hfin : Runs (xtS 7 q) (2 ^ 7 - 1) ↔ fldOK 2 7 q := by
      refine ⟨fun h => .inr ⟨by omega, rfl, by omega, hq, h⟩, fun h => ?_⟩
      rcases h with ⟨h, _⟩ | ⟨_, _, _, _, h⟩
      · omega
      · exact h
    have HF := Lib.hid hfin
    clear hfin hrun hq
    go_enter Try.func92, Try.ntmps92
    go_wp2_with (first
      | (go_at_call 86; (with_reducible refine (l01In_c _ _ _ _).mono ?_); rintro e w1 ⟨⟨hP, rfl⟩ | ⟨hP, rfl⟩, rfl⟩ <;> first | (exfalso; omega) | skip)
      | (go_at_call 157; (with_reducible refine (HRUN.out _).mono ?_); rintro e w1 ⟨⟨hP3, rfl⟩ | ⟨hP3, rfl⟩, hx1⟩ <;> replace hP3 := Lib.hid hP3))
    · go_ret
      exact ⟨isB_t (HF.out.1 hP3.out), (by repeat (first | exact Ext.refl _ | assumption | refine Ext.drew ?_ | refine Ext.drewN ?_ _ | refine Ext.iter ?_ _ _ | refine Ext.alloc ?_ _ | refine Ext.setCell ?_ (by first | exact Nat.le_refl _ | (simp <;> omega)) _ | refine Ext.trans2 (by assumption) ?_))⟩
    · go_ret
      exact ⟨isB_f (fun h => hP3.out (HF.out.2 h)), (by repeat (first | exact Ext.refl _ | assumption | refine Ext.drew ?_ | refine Ext.drewN ?_ _ | refine Ext.iter ?_ _ _ | refine Ext.alloc ?_ _ | refine Ext.setCell ?_ (by first | exact Nat.le_refl _ | (simp <;> omega)) _ | refine Ext.trans2 (by assumption) ?_))⟩
  · have hq' : ¬ (128 ≤ q ∧ q ≤ 255) := fun h => hq ⟨h.1, by show q < 256; omega⟩
    have hnf : ¬ fldOK 2 7 q := fun h => by
      rcases h with ⟨h, _⟩ | ⟨_, _, _, h, _⟩
      · omega
      · exact hq h
    have HNF := Lib.hid hnf; clear hnf hq
    go_enter Try.func92, Try.ntmps92
    go_wp2_with (first
      | (go_at_call 86; (with_reducible refine (l01In_c _ _ _ _).mono ?_); rintro e w1 ⟨⟨hP, rfl⟩ | ⟨hP, rfl⟩, rfl⟩ <;> first | (exfalso; omega) | skip))
    go_ret
    exact ⟨isB_f HNF.out, (by repeat (first | exact Ext.refl _ | assumption | refine Ext.drew ?_ | refine Ext.drewN ?_ _ | refine Ext.iter ?_ _ _ | refine Ext.alloc ?_ _ | refine Ext.setCell ?_ (by first | exact Nat.le_refl _ | (simp <;> omega)) _ | refine Ext.trans2 (by assumption) ?_))⟩
set_option maxRecDepth 100000 in
theorem sIsFieldB8_c (q : Int) (w : World) :
    Calls Try.prog 92 #[vFld 2 8 q] w fun e w' => isB e (fldOK 2 8 q) ∧ Ext w w' := by
  by_cases hq : (2 : Int) ^ 8 ≤ q ∧ q < 2 ^ (8 + 1)
  · have hq' : 256 ≤ q ∧ q ≤ 511 := by have h1 : 256 ≤ q ∧ q < 512 := hq; omega
    have hrun : ∀ W, Calls Try.prog 157 #[vFld 2 8 q, .int .i64 2] W fun e w' => isB e (Runs (xtS 8 q) (2 ^ 8 - 1)) ∧ Ext W w' := fun W => runsB_c 2 8 q W (by omega) hq
    have HRUN := Lib.hid hrun
    have hfin : Runs (xtS 8 q) (2 ^ 8 - 1) ↔ fldOK 2 8 q := by
      refine ⟨fun h => .inr ⟨by omega, rfl, by omega, hq, h⟩, fun h => ?_⟩
      rcases h with ⟨h, _⟩ | ⟨_, _, _, _, h⟩
      · omega
      · exact h
    have HF := Lib.hid hfin
    clear hfin hrun hq
    go_enter Try.func92, Try.ntmps92
    go_wp2_with (first
      | (go_at_call 86; (with_reducible refine (l01In_c _ _ _ _).mono ?_); rintro e w1 ⟨⟨hP, rfl⟩ | ⟨hP, rfl⟩, rfl⟩ <;> first | (exfalso; omega) | skip)
      | (go_at_call 157; (with_reducible refine (HRUN.out _).mono ?_); rintro e w1 ⟨⟨hP3, rfl⟩ | ⟨hP3, rfl⟩, hx1⟩ <;> replace hP3 := Lib.hid hP3))
    · go_ret
      exact ⟨isB_t (HF.out.1 hP3.out), (by repeat (first | exact Ext.refl _ | assumption | refine Ext.drew ?_ | refine Ext.drewN ?_ _ | refine Ext.iter ?_ _ _ | refine Ext.alloc ?_ _ | refine Ext.setCell ?_ (by first | exact Nat.le_refl _ | (simp <;> omega)) _ | refine Ext.trans2 (by assumption) ?_))⟩
    · go_ret
      exact ⟨isB_f (fun h => hP3.out (HF.out.2 h)), (by repeat (first | exact Ext.refl _ | assumption | refine Ext.drew ?_ | refine Ext.drewN ?_ _ | refine Ext.iter ?_ _ _ | refine Ext.alloc ?_ _ | refine Ext.setCell ?_ (by first | exact Nat.le_refl _ | (simp <;> omega)) _ | refine Ext.trans2 (by assumption) ?_))⟩
  · have hq' : ¬ (256 ≤ q ∧ q ≤ 511) := fun h => hq ⟨h.1, by show q < 512; omega⟩
    have hnf : ¬ fldOK 2 8 q := fun h => by
      rcases h with ⟨h, _⟩ | ⟨_, _, _, h, _⟩
      · omega
      · exact hq h
    have HNF := Lib.hid hnf; clear hnf hq
    go_enter Try.func92, Try.ntmps92
    go_wp2_with (first
      | (go_at_call 86; (with_reducible refine (l01In_c _ _ _ _).mono ?_); rintro e w1 ⟨⟨hP, rfl⟩ | ⟨hP, rfl⟩, rfl⟩ <;> first | (exfalso; omega) | skip))
    go_ret
    exact ⟨isB_f HNF.out, (by repeat (first | exact Ext.refl _ | assumption | refine Ext.drew ?_ | refine Ext.drewN ?_ _ | refine Ext.iter ?_ _ _ | refine Ext.alloc ?_ _ | refine Ext.setCell ?_ (by first | exact Nat.le_refl _ | (simp <;> omega)) _ | refine Ext.trans2 (by assumption) ?_))⟩
set_option maxRecDepth 100000 in
theorem sIsFieldN_c (p k q : Int) (w : World) (hk1 : k ≠ 1) (hno : ¬ (p = 2 ∧ (3 ≤ k ∧ k ≤ 8))) :
    Calls Try.prog 92 #[vFld p k q] w fun e w' => isB e (fldOK p k q) ∧ Ext w w' := by
  have hnf : ¬ fldOK p k q := fun h => by
    rcases h with ⟨h1, _⟩ | ⟨_, h1, h2, _⟩
    · exact hk1 h1
    · exact hno ⟨h1, h2⟩
  have HNF := Lib.hid hnf; clear hnf
  have hk1' : (k == 1) = false := by simpa using hk1
  by_cases h2 : p = 2
  · subst h2
    have h3 : ¬ (3 ≤ k ∧ k ≤ 8) := fun h => hno ⟨rfl, h⟩
    clear hno
    go_enter Try.func92, Try.ntmps92
    go_wp2_with (first
      | (go_at_call 86; (with_reducible refine (l01In_c _ _ _ _).mono ?_); rintro e w1 ⟨⟨hP, rfl⟩ | ⟨hP, rfl⟩, rfl⟩ <;> first | contradiction | skip))
    go_ret
    exact ⟨isB_f HNF.out, (by repeat (first | exact Ext.refl _ | assumption | refine Ext.drew ?_ | refine Ext.drewN ?_ _ | refine Ext.iter ?_ _ _ | refine Ext.alloc ?_ _ | refine Ext.setCell ?_ (by first | exact Nat.le_refl _ | (simp <;> omega)) _ | refine Ext.trans2 (by assumption) ?_))⟩
  · have hp2 : (p != 2) = true := by simpa using h2
    clear hno
    go_enter Try.func92, Try.ntmps92
    go_wp2
    go_ret
    exact ⟨isB_f HNF.out, (by repeat (first | exact Ext.refl _ | assumption | refine Ext.drew ?_ | refine Ext.drewN ?_ _ | refine Ext.iter ?_ _ _ | refine Ext.alloc ?_ _ | refine Ext.setCell ?_ (by first | exact Nat.le_refl _ | (simp <;> omega)) _ | refine Ext.trans2 (by assumption) ?_))⟩
theorem sIsField_c (p k q : Int) (w : World) :
    Calls Try.prog 92 #[vFld p k q] w fun e w' => isB e (fldOK p k q) ∧ Ext w w' := by
  by_cases h1 : k = 1
  · subst h1
    exact sIsField1_c p q w
  · by_cases h2 : p = 2 ∧ (3 ≤ k ∧ k ≤ 8)
    · obtain ⟨rfl, h3⟩ := h2
      have : k = 3 ∨ k = 4 ∨ k = 5 ∨ k = 6 ∨ k = 7 ∨ k = 8 := by omega
      rcases this with rfl | rfl | rfl | rfl | rfl | rfl
      · exact sIsFieldB3_c q w
      · exact sIsFieldB4_c q w
      · exact sIsFieldB5_c q w
      · exact sIsFieldB6_c q w
      · exact sIsFieldB7_c q w
      · exact sIsFieldB8_c q w
    · exact sIsFieldN_c p k q w h1 h2
end Go.Proofs.Ytnfbgjgchcgonaa
