/- Families of symbols: which are valid, on both sides. -/
import Derived.Test.YtdnkljpnhmcnpaaGreatLBoundedDamageK10
set_option linter.unusedVariables false
set_option linter.unusedSimpArgs false
namespace Go.Proofs.YtdnkljpnhmcnpaaGreat
open Go.RowKit

def nameOK (s : ByteArray) : Prop := (∀ i, i < s.size → 97 ≤ byteAt s i ∧ byteAt s i ≤ 122) ∧ (1 ≤ s.size ∧ s.size ≤ 8)
set_option maxRecDepth 100000 in
theorem iName_c (s : ByteArray) (w : World) (hs : s.size ≤ 1048576) : Calls Tryz.prog 171 #[.string s] w fun e w' => isB e (nameOK s) ∧ w = w' := by
 have hv := Lib.hid (show nameOK s ↔ (∀ i, i < s.size → 97 ≤ byteAt s i ∧ byteAt s i ≤ 122) ∧ (1 ≤ s.size ∧ s.size ≤ 8) from Iff.rfl)
 have hbe := Lib.hid (fun i (h : i < s.size) => byteAt_eq h)
 generalize nameOK s = M at *
 go_enter Tryz.func171, Tryz.ntmps171
 go_wp2_with fail
 go_loop [3] (fun i => ∃ k : Nat, k ≤ s.size ∧ i = .int .i64 k ∧ Hid (∀ i, i < k → 97 ≤ byteAt s i ∧ byteAt s i ≤ 122)) (fun i => s.size - (intOf i).toNat)
 case atStart => exact ⟨0, Nat.zero_le _, rfl, Lib.hid (fun i h => absurd h (Nat.not_lt_zero i))⟩
 case round =>
  obtain ⟨k, hk, rfl, hall⟩ := hrel
  by_cases hlt : k < s.size
  ·have hb := hbe.out k hlt
   by_cases h1 : ((s[k]'hlt).toNat : Int) < 97
   ·go_wp2
    go_ret
    exact ⟨isB_f (fun h => by have := (hv.out.1 h).1 k hlt; omega), rfl⟩
   ·by_cases h2 : (122 : Int) < ((s[k]'hlt).toNat : Int)
    ·go_wp2
     go_ret
     exact ⟨isB_f (fun h => by have := (hv.out.1 h).1 k hlt; omega), rfl⟩
    ·replace hb := Lib.hid hb
     go_wp2
     go_round
     case rel => exact ⟨k + 1, hlt, by go_num, Lib.hid (fun i hi => by
      by_cases e : i = k
      ·subst e; have := hb.out; omega
      ·exact hall.out i (by omega))⟩
     case measure => simp [intOf]; omega
  ·obtain rfl : k = s.size := by omega
   by_cases h1 : 1 ≤ s.size ∧ s.size ≤ 8
   ·have d1 : (1 : Int) ≤ s.size := by omega
    have d2 : (s.size : Int) ≤ 8 := by omega
    go_wp2_with (first
     | (go_at_call 35; (with_reducible refine (inRange_c _ _ _ _).mono ?_); rintro e w1' ⟨⟨hP', rfl⟩ | ⟨hP', rfl⟩, rfl⟩ <;> first | (exfalso; omega) | skip))
    go_ret
    exact ⟨isB_t (hv.out.2 ⟨hall.out, h1⟩), rfl⟩
   ·go_wp2_with (first
     | (go_at_call 35; (with_reducible refine (inRange_c _ _ _ _).mono ?_); rintro e w1' ⟨⟨hP', rfl⟩ | ⟨hP', rfl⟩, rfl⟩ <;> first | (exfalso; omega) | skip))
    all_goals
     go_ret
     first
      | exact ⟨isB_f (fun h => h1 (hv.out.1 h).2), rfl⟩
      | exact ⟨isB_m ⟨fun h => absurd (by simpa using h) h1, fun h => absurd (hv.out.1 h).2 h1⟩, rfl⟩
      | exact ⟨isB_m (by constructor; (intro h; exfalso; simp at h; omega); (intro h; exact absurd (hv.out.1 h).2 h1)), rfl⟩
set_option maxRecDepth 100000 in
theorem sName_c (s : ByteArray) (w : World) (hs : s.size ≤ 1048576) : Calls Tryz.prog 103 #[.string s] w fun e w' => isB e (nameOK s) ∧ w = w' := by
 have hv := Lib.hid (show nameOK s ↔ (∀ i, i < s.size → 97 ≤ byteAt s i ∧ byteAt s i ≤ 122) ∧ (1 ≤ s.size ∧ s.size ≤ 8) from Iff.rfl)
 have hbe := Lib.hid (fun i (h : i < s.size) => byteAt_eq h)
 generalize nameOK s = M at *
 go_enter Tryz.func103, Tryz.ntmps103
 go_wp2_with fail
 go_loop [3] (fun i => ∃ k : Nat, k ≤ s.size ∧ i = .int .i64 k ∧ Hid (∀ i, i < k → 97 ≤ byteAt s i ∧ byteAt s i ≤ 122)) (fun i => s.size - (intOf i).toNat)
 case atStart => exact ⟨0, Nat.zero_le _, rfl, Lib.hid (fun i h => absurd h (Nat.not_lt_zero i))⟩
 case round =>
  obtain ⟨k, hk, rfl, hall⟩ := hrel
  by_cases hlt : k < s.size
  ·have hb := hbe.out k hlt
   by_cases h1 : ((s[k]'hlt).toNat : Int) < 97
   ·go_wp2
    go_ret
    exact ⟨isB_f (fun h => by have := (hv.out.1 h).1 k hlt; omega), rfl⟩
   ·by_cases h2 : (122 : Int) < ((s[k]'hlt).toNat : Int)
    ·go_wp2
     go_ret
     exact ⟨isB_f (fun h => by have := (hv.out.1 h).1 k hlt; omega), rfl⟩
    ·replace hb := Lib.hid hb
     go_wp2
     go_round
     case rel => exact ⟨k + 1, hlt, by go_num, Lib.hid (fun i hi => by
      by_cases e : i = k
      ·subst e; have := hb.out; omega
      ·exact hall.out i (by omega))⟩
     case measure => simp [intOf]; omega
  ·obtain rfl : k = s.size := by omega
   by_cases h1 : 1 ≤ s.size ∧ s.size ≤ 8
   ·have d1 : (1 : Int) ≤ s.size := by omega
    have d2 : (s.size : Int) ≤ 8 := by omega
    go_wp2_with (first
     | (go_at_call 35; (with_reducible refine (inRange_c _ _ _ _).mono ?_); rintro e w1' ⟨⟨hP', rfl⟩ | ⟨hP', rfl⟩, rfl⟩ <;> first | (exfalso; omega) | skip))
    go_ret
    exact ⟨isB_t (hv.out.2 ⟨hall.out, h1⟩), rfl⟩
   ·go_wp2_with (first
     | (go_at_call 35; (with_reducible refine (inRange_c _ _ _ _).mono ?_); rintro e w1' ⟨⟨hP', rfl⟩ | ⟨hP', rfl⟩, rfl⟩ <;> first | (exfalso; omega) | skip))
    all_goals
     go_ret
     first
      | exact ⟨isB_f (fun h => h1 (hv.out.1 h).2), rfl⟩
      | exact ⟨isB_m ⟨fun h => absurd (by simpa using h) h1, fun h => absurd (hv.out.1 h).2 h1⟩, rfl⟩
      | exact ⟨isB_m (by constructor; (intro h; exfalso; simp at h; omega); (intro h; exact absurd (hv.out.1 h).2 h1)), rfl⟩
def risOK (lo hi : Int) (xs : List Int) : Prop := ∀ i, i < xs.length → (lo ≤ xs.getD i 0 ∧ xs.getD i 0 ≤ hi) ∧ (0 < i → xs.getD (i - 1) 0 < xs.getD i 0)
theorem ris_step {lo hi : Int} {xs : List Int} {k : Nat} (h : ∀ i, i < k → (lo ≤ xs.getD i 0 ∧ xs.getD i 0 ≤ hi) ∧ (0 < i → xs.getD (i - 1) 0 < xs.getD i 0)) (h1 : lo ≤ xs.getD k 0 ∧ xs.getD k 0 ≤ hi) (h2 : 0 < k → xs.getD (k - 1) 0 < xs.getD k 0) :
  ∀ i, i < k + 1 → (lo ≤ xs.getD i 0 ∧ xs.getD i 0 ≤ hi) ∧ (0 < i → xs.getD (i - 1) 0 < xs.getD i 0) := fun i hi' => by
 by_cases e : i = k
 ·subst e; exact ⟨h1, h2⟩
 ·exact h i (by omega)
set_option maxHeartbeats 800000 in
set_option maxRecDepth 100000 in
theorem rises_c (p : Option Addr) (c : Nat) (lo hi : Int) (xs : List Int) (w : World) (hx : IntsAt w p xs) (hl : xs.length ≤ 1048576) :
  Calls Tryz.prog 129 #[.slice p xs.length c, .int .i64 lo, .int .i64 hi] w fun e w' => isB e (risOK lo hi xs) ∧ w = w' := by
 have hv := Lib.hid (show risOK lo hi xs ↔ ∀ i, i < xs.length → (lo ≤ xs.getD i 0 ∧ xs.getD i 0 ≤ hi) ∧ (0 < i → xs.getD (i - 1) 0 < xs.getD i 0) from Iff.rfl)
 generalize risOK lo hi xs = M at *
 have HX := Lib.hid hx; clear hx
 go_enter Tryz.func129, Tryz.ntmps129
 go_wp2_with fail
 go_loop [11] (fun i => ∃ k : Nat, k ≤ xs.length ∧ i = .int .i64 k ∧ Hid (∀ i, i < k → (lo ≤ xs.getD i 0 ∧ xs.getD i 0 ≤ hi) ∧ (0 < i → xs.getD (i - 1) 0 < xs.getD i 0))) (fun i => xs.length - (intOf i).toNat)
 case atStart => exact ⟨0, Nat.zero_le _, rfl, Lib.hid (fun i h => absurd h (Nat.not_lt_zero i))⟩
 case round =>
  obtain ⟨k, hk, rfl, hall⟩ := hrel
  by_cases hlt : k < xs.length
  ·obtain ⟨b, o, rfl, hbl, y1⟩ := HX.out k hlt
   have hst := Lib.hid (fun h1 h2 => ris_step (k := k) hall.out h1 h2)
   have hno := Lib.hid (fun h : M => (hv.out.1 h) k hlt)
   by_cases h1 : lo ≤ xs.getD k 0 ∧ xs.getD k 0 ≤ hi
   ·by_cases h0 : k = 0
    ·subst h0
     rw [Nat.add_zero] at y1
     generalize xs.getD 0 0 = x at *
     go_wp2_with (go_at_call 35; (with_reducible refine (inRange_c _ _ _ _).mono ?_); rintro e w1' ⟨⟨hP', rfl⟩ | ⟨hP', rfl⟩, rfl⟩ <;> first | (exfalso; omega) | skip)
     go_round
     case rel => exact ⟨0 + 1, hlt, by go_num, Lib.hid (hst.out h1 (fun h => absurd h (Nat.lt_irrefl 0)))⟩
     case measure => simp [intOf]; omega
    ·obtain ⟨b', o', e', -, y2⟩ := HX.out (k - 1) (by omega)
     simp only [Option.some.injEq, Addr.mk.injEq, and_true] at e'
     obtain ⟨rfl, rfl⟩ := e'
     obtain ⟨j, rfl⟩ : ∃ j, k = j + 1 := ⟨k - 1, by omega⟩
     simp only [Nat.add_sub_cancel] at y2 hst hno
     generalize xs.getD (j + 1) 0 = x at *
     generalize xs.getD j 0 = y at *
     have hk0 : (0 : Int) < ((j + 1 : Nat) : Int) := by omega
     by_cases h2 : x ≤ y
     ·go_wp2_with (go_at_call 35; (with_reducible refine (inRange_c _ _ _ _).mono ?_); rintro e w1' ⟨⟨hP', rfl⟩ | ⟨hP', rfl⟩, rfl⟩ <;> first | (exfalso; omega) | skip)
      go_ret
      exact ⟨isB_f (fun h => by have := (hno.out h).2 (by omega); omega), rfl⟩
     ·go_wp2_with (go_at_call 35; (with_reducible refine (inRange_c _ _ _ _).mono ?_); rintro e w1' ⟨⟨hP', rfl⟩ | ⟨hP', rfl⟩, rfl⟩ <;> first | (exfalso; omega) | skip)
      go_round
      case rel => exact ⟨j + 1 + 1, hlt, by go_num, Lib.hid (hst.out h1 (fun _ => by omega))⟩
      case measure => simp [intOf]; omega
   ·generalize xs.getD k 0 = x at *
    go_wp2_with (go_at_call 35; (with_reducible refine (inRange_c _ _ _ _).mono ?_); rintro e w1' ⟨⟨hP', rfl⟩ | ⟨hP', rfl⟩, rfl⟩ <;> first | (exfalso; omega) | skip)
    go_ret
    exact ⟨isB_f (fun h => h1 (hno.out h).1), rfl⟩
  ·obtain rfl : k = xs.length := by omega
   go_wp2
   go_ret
   exact ⟨isB_t (hv.out.2 hall.out), rfl⟩
set_option maxHeartbeats 1600000 in
set_option maxRecDepth 100000 in
theorem sRises_c (p : Option Addr) (c most : Nat) (lo hi : Int) (xs : List Int) (w : World) (hx : IntsAt w p xs) (hl : xs.length ≤ 1048576) (hm : most ≤ 100) :
  Calls Tryz.prog 105 #[.slice p xs.length c, .int .i64 most, .int .i64 lo, .int .i64 hi] w fun e w' => isB e ((1 ≤ xs.length ∧ xs.length ≤ most) ∧ risOK lo hi xs) ∧ Ext w w' := by
 have hv := Lib.hid (show risOK lo hi xs ↔ ∀ i, i < xs.length → (lo ≤ xs.getD i 0 ∧ xs.getD i 0 ≤ hi) ∧ (0 < i → xs.getD (i - 1) 0 < xs.getD i 0) from Iff.rfl)
 generalize risOK lo hi xs = M at *
 have HX := Lib.hid hx; clear hx
 by_cases hn : 1 ≤ xs.length ∧ xs.length ≤ most
 ·obtain ⟨hn1, hn2⟩ := hn
  have d1 : ¬ (xs.length : Int) < 1 := by omega
  have d2 : ¬ (most : Int) < (xs.length : Int) := by omega
  have d3 : ¬ xs.length < 1 := by omega
  have d4 : ¬ most < xs.length := by omega
  have d5 : ¬ xs = [] := fun e => by rw [e] at hn1; exact absurd hn1 (by simp)
  have d6 : xs.length ≠ 0 := by omega
  go_enter Tryz.func105, Tryz.ntmps105
  go_upto_region 4 with (fail)
  clear d1 d2 d3 d4 d5 d6
  go_loopw [9] (fun i wr => ∃ k : Nat, k ≤ xs.length ∧ i = .int .i64 k ∧ Hid (∀ i, i < k → (lo ≤ xs.getD i 0 ∧ xs.getD i 0 ≤ hi) ∧ (0 < i → xs.getD (i - 1) 0 < xs.getD i 0)) ∧ Ext w wr) (fun i _ => xs.length - (intOf i).toNat)
  case atStart => exact ⟨0, Nat.zero_le _, rfl, Lib.hid (fun i h => absurd h (Nat.not_lt_zero i)), Ext.refl _⟩
  case round =>
   obtain ⟨k, hk, rfl, hall, hext⟩ := hrel
   by_cases hlt : k < xs.length
   ·obtain ⟨b, o, rfl, hbl, y1⟩ := (HX.out.ext hext) k hlt
    have hst := Lib.hid (fun h1 h2 => ris_step (k := k) hall.out h1 h2)
    have hno := Lib.hid (fun h : M => (hv.out.1 h) k hlt)
    by_cases h1 : lo ≤ xs.getD k 0 ∧ xs.getD k 0 ≤ hi
    ·by_cases h0 : k = 0
     ·subst h0
      rw [Nat.add_zero] at y1
      generalize xs.getD 0 0 = x at *
      go_wp2_with fail
      refine wp_region_canon (fun w' => Ext wr w') [(0, true), (1, true), (2, true), (3, true), (4, true), (5, true), (6, false), (7, true), (8, true), (9, true), (10, true), (11, true), (12, true), (13, true), (14, true), (15, true), (16, true), (17, true), (18, true), (19, true), (20, true), (21, true), (22, true), (23, true)] (by kernel_rfl) (by kernel_rfl) (by decide) (by kernel_rfl) ?_ ?_
      ·exact eX
      refine canon_intro fun ops eo => ?_
      replace eo := canon_eo eo
      iterate 6 all_goals (refine cS eo rfl rfl evE ?_; simp only [ptN])
      all_goals first | (refine canon_ef (eo.out 6 rfl) rfl (fun K hK => ?_); go_simp; ((go_at_call 29; (with_reducible refine (l01In_c _ _ _ _).mono ?_); rintro e w2' ⟨⟨hP2, rfl⟩ | ⟨hP2, rfl⟩, rfl⟩ <;> first | (exfalso; omega) | skip)); all_goals (refine hK _ _ ⟨eX, ?_⟩; clear hK K; go_simp))
      iterate 2 all_goals (refine cS eo rfl rfl evE ?_; simp only [ptN])
      iterate 14 all_goals ((first | refine cU eo rfl rfl rfl rfl rfl ?_ | refine cX eo rfl rfl rfl rfl rfl ?_ | refine cW eo rfl rfl rfl rfl rfl evE ?_); simp only [ptN])
      all_goals (refine cS eo rfl rfl evE ?_; simp only [ptN])
      all_goals (clear eo; refine canon_done (NoPanic.normal ?_))
      go_wp2
      go_roundw
      case rel => exact ⟨0 + 1, hlt, by go_num, Lib.hid (hst.out h1 (fun h => absurd h (Nat.lt_irrefl 0))), hext.trans eX⟩
      case measure => simp [intOf]; omega
     ·obtain ⟨b', o', e', -, y2⟩ := (HX.out.ext hext) (k - 1) (by omega)
      simp only [Option.some.injEq, Addr.mk.injEq, and_true] at e'
      obtain ⟨rfl, rfl⟩ := e'
      obtain ⟨j, rfl⟩ : ∃ j, k = j + 1 := ⟨k - 1, by omega⟩
      simp only [Nat.add_sub_cancel] at y2 hst hno
      generalize xs.getD (j + 1) 0 = x at *
      generalize xs.getD j 0 = y at *
      have hk0 : (0 : Int) < ((j + 1 : Nat) : Int) := by omega
      have hj1 : IntKind.i64.wrap (((j + 1 : Nat) : Int) - 1) = (j : Int) := by rw [show (((j + 1 : Nat) : Int) - 1) = (j : Int) by omega]; exact IntWalk.i64_in _ (by omega)
      have hj2 : IntKind.i64.wrap (j : Int) = (j : Int) := IntWalk.i64_in _ (by omega)
      have hj3 : j < xs.length := by omega
      by_cases h2 : x ≤ y
      ·have d7 := decide_eq_true h2
       go_wp2_with fail
       refine wp_region_canon (fun w' => Ext wr w') [(0, true), (1, true), (2, true), (3, true), (4, true), (5, true), (6, false), (7, true), (8, true), (9, true), (10, true), (11, true), (12, true), (13, true), (14, true), (15, true), (16, true), (17, true), (18, true), (19, true), (20, true), (21, true), (22, true), (23, true)] (by kernel_rfl) (by kernel_rfl) (by decide) (by kernel_rfl) ?_ ?_
       ·exact eX
       refine canon_intro fun ops eo => ?_
       replace eo := canon_eo eo
       iterate 6 all_goals (refine cS eo rfl rfl evE ?_; simp only [ptN])
       all_goals first | (refine canon_ef (eo.out 6 rfl) rfl (fun K hK => ?_); go_simp; ((go_at_call 29; (with_reducible refine (l01In_c _ _ _ _).mono ?_); rintro e w2' ⟨⟨hP2, rfl⟩ | ⟨hP2, rfl⟩, rfl⟩ <;> first | (exfalso; omega) | skip)); all_goals (refine hK _ _ ⟨eX, ?_⟩; clear hK K; go_simp))
       iterate 2 all_goals (refine cS eo rfl rfl evE ?_; simp only [ptN])
       iterate 14 all_goals ((first | refine cU eo rfl rfl rfl rfl rfl ?_ | refine cX eo rfl rfl rfl rfl rfl ?_ | refine cW eo rfl rfl rfl rfl rfl evE ?_); simp only [ptN])
       all_goals (refine cS eo rfl rfl evE ?_; simp only [ptN])
       all_goals (clear eo; refine canon_done (NoPanic.normal ?_))
       go_wp2
       go_ret
       exact ⟨isB_f (fun h => by have := (hno.out h.2).2 (by omega); omega), hext.trans eX⟩
      ·have d7 := decide_eq_false h2
       go_wp2_with fail
       refine wp_region_canon (fun w' => Ext wr w') [(0, true), (1, true), (2, true), (3, true), (4, true), (5, true), (6, false), (7, true), (8, true), (9, true), (10, true), (11, true), (12, true), (13, true), (14, true), (15, true), (16, true), (17, true), (18, true), (19, true), (20, true), (21, true), (22, true), (23, true)] (by kernel_rfl) (by kernel_rfl) (by decide) (by kernel_rfl) ?_ ?_
       ·exact eX
       refine canon_intro fun ops eo => ?_
       replace eo := canon_eo eo
       iterate 6 all_goals (refine cS eo rfl rfl evE ?_; simp only [ptN])
       all_goals first | (refine canon_ef (eo.out 6 rfl) rfl (fun K hK => ?_); go_simp; ((go_at_call 29; (with_reducible refine (l01In_c _ _ _ _).mono ?_); rintro e w2' ⟨⟨hP2, rfl⟩ | ⟨hP2, rfl⟩, rfl⟩ <;> first | (exfalso; omega) | skip)); all_goals (refine hK _ _ ⟨eX, ?_⟩; clear hK K; go_simp))
       iterate 2 all_goals (refine cS eo rfl rfl evE ?_; simp only [ptN])
       iterate 14 all_goals ((first | refine cU eo rfl rfl rfl rfl rfl ?_ | refine cX eo rfl rfl rfl rfl rfl ?_ | refine cW eo rfl rfl rfl rfl rfl evE ?_); simp only [ptN])
       all_goals (refine cS eo rfl rfl evE ?_; simp only [ptN])
       all_goals (clear eo; refine canon_done (NoPanic.normal ?_))
       go_wp2
       go_roundw
       case rel => exact ⟨j + 1 + 1, hlt, by go_num, Lib.hid (hst.out h1 (fun _ => by omega)), hext.trans eX⟩
       case measure => simp [intOf]; omega
    ·generalize xs.getD k 0 = x at *
     go_wp2_with fail
     refine wp_region_canon (fun w' => Ext wr w') [(0, true), (1, true), (2, true), (3, true), (4, true), (5, true), (6, false), (7, true), (8, true), (9, true), (10, true), (11, true), (12, true), (13, true), (14, true), (15, true), (16, true), (17, true), (18, true), (19, true), (20, true), (21, true), (22, true), (23, true)] (by kernel_rfl) (by kernel_rfl) (by decide) (by kernel_rfl) ?_ ?_
     ·exact eX
     refine canon_intro fun ops eo => ?_
     replace eo := canon_eo eo
     iterate 6 all_goals (refine cS eo rfl rfl evE ?_; simp only [ptN])
     all_goals first | (refine canon_ef (eo.out 6 rfl) rfl (fun K hK => ?_); go_simp; ((go_at_call 29; (with_reducible refine (l01In_c _ _ _ _).mono ?_); rintro e w2' ⟨⟨hP2, rfl⟩ | ⟨hP2, rfl⟩, rfl⟩ <;> first | (exfalso; omega) | skip)); all_goals (refine hK _ _ ⟨eX, ?_⟩; clear hK K; go_simp))
     iterate 2 all_goals (refine cS eo rfl rfl evE ?_; simp only [ptN])
     iterate 14 all_goals ((first | refine cU eo rfl rfl rfl rfl rfl ?_ | refine cX eo rfl rfl rfl rfl rfl ?_ | refine cW eo rfl rfl rfl rfl rfl evE ?_); simp only [ptN])
     all_goals (refine cS eo rfl rfl evE ?_; simp only [ptN])
     all_goals (clear eo; refine canon_done (NoPanic.normal ?_))
     go_wp2
     go_ret
     exact ⟨isB_f (fun h => h1 (hno.out h.2).1), hext.trans eX⟩
   ·obtain rfl : k = xs.length := by omega
    go_wp2
    go_ret
    exact ⟨isB_t ⟨⟨hn1, hn2⟩, hv.out.2 hall.out⟩, hext⟩
 ·by_cases hz : xs.length < 1
  ·have d1 : (xs.length : Int) < 1 := by omega
   have d5 : xs = [] := List.eq_nil_of_length_eq_zero (by omega)
   have d6 : xs.length = 0 := by omega
   subst d5
   go_enter Tryz.func105, Tryz.ntmps105
   go_wp2
   go_ret
   exact ⟨isB_f (fun h => by first | exact h | exact hn h.1), Ext.refl _⟩
  ·have d2 : (most : Int) < (xs.length : Int) := by omega
   have d4 : most < xs.length := by omega
   have d1 : ¬ (xs.length : Int) < 1 := by omega
   have d5 : ¬ xs = [] := fun e => by rw [e] at hz; exact absurd (by simp) hz
   go_enter Tryz.func105, Tryz.ntmps105
   go_wp2
   go_ret
   exact ⟨isB_f (fun h => by first | exact h | exact hn h.1), Ext.refl _⟩
theorem fld32_no : ∀ q : Nat, 32 ≤ q → q < 37 → ¬ fldOK 2 5 (q : Int) := fun q h1 h2 h => by
 have h3 : q = 32 ∨ q = 33 ∨ q = 34 ∨ q = 35 ∨ q = 36 := by omega
 rcases h with ⟨h, _⟩ | ⟨_, _, _, _, h⟩
 ·exact absurd h (by decide)
 ·rcases h3 with rfl | rfl | rfl | rfl | rfl <;> exact absurd h (by unfold Runs; decide +kernel)
theorem fld32_yes : fldOK 2 5 37 := .inr ⟨by decide, rfl, by decide, by decide, by unfold Runs; decide +kernel⟩
theorem notPr32 : ¬ isPr 32 := fun h => absurd (h 2 (Nat.le_refl _) (by decide)) (by decide)
theorem iIsField_c (p k q : Int) (w : World) : Calls Tryz.prog 172 #[vFld p k q] w fun e w' => isB e (fldOK p k q) ∧ Ext w w' := by
 have hx0 : Ext w (w.alloc (.cells #[.int .i64 p, .int .i64 k, .int .i64 q] 53)) := (Ext.refl w).alloc _
 by_cases hf : fldOK p k q
 ·have hca := Lib.hid (fun W => calcOK_c p k q (fldSize p k) hf rfl W)
  have hff := Lib.hid hf
  clear hf
  go_enter Tryz.func172, Tryz.ntmps172
  go_wp2_with (go_at_call 185; (with_reducible refine (hca.out _).mono ?_); rintro e w2 ⟨⟨g, bb, rfl, hcb⟩, hx2⟩)
  go_ret
  exact ⟨isB_t hff.out, hx0.trans hx2⟩
 ·have hca := Lib.hid (fun W => calcNo_c p k q hf W)
  have hff := Lib.hid hf
  clear hf
  go_enter Tryz.func172, Tryz.ntmps172
  go_wp2_with (go_at_call 185; (with_reducible refine (hca.out _).mono ?_); rintro e w2 ⟨⟨vv, rfl⟩, hx2⟩)
  go_ret
  exact ⟨isB_f hff.out, hx0.trans hx2⟩
set_option maxHeartbeats 800000 in
set_option maxRecDepth 100000 in
theorem iField32_c (w : World) : Calls Tryz.prog 173 #[.int .i64 32] w fun e w' => e = .returned (.tuple #[vFld 2 5 37, .int .i64 0]) ∧ Ext w w' := by
 have hnp := Lib.hid notPr32
 have h0 := Blk.new w #[.int .i64 0, .int .i64 0, .int .i64 0] 53
 have hx0 : Ext w (w.alloc (.cells #[.int .i64 0, .int .i64 0, .int .i64 0] 53)) := (Ext.refl w).alloc _
 go_enter Tryz.func173, Tryz.ntmps173
 go_upto_region 9 with (first
  | (go_at_call 35; (with_reducible refine (inRange_c _ _ _ _).mono ?_); rintro e w1' ⟨⟨hP', rfl⟩ | ⟨hP', rfl⟩, rfl⟩ <;> first | (exfalso; omega) | skip)
  | (go_at_call 209; (with_reducible refine (isPrime_c 32 _ (by omega)).mono ?_); rintro e w1 ⟨⟨hP, rfl⟩ | ⟨hP, rfl⟩, rfl⟩ <;> first | exact absurd hP hnp.out | skip))
 clear hP
 generalize w.alloc (.cells #[.int .i64 0, .int .i64 0, .int .i64 0] 53) = w0 at *
 go_loopw [7] (fun i wr => ∃ k : Nat, 3 ≤ k ∧ k ≤ 5 ∧ i = .int .i64 k ∧ Blk wr w.heap.size #[.int .i64 0, .int .i64 0, .int .i64 0] 53 ∧ Ext w wr) (fun i _ => 9 - (intOf i).toNat)
 case atStart => exact ⟨3, by omega, by omega, rfl, h0, hx0⟩
 case round =>
  clear h0 hx0
  obtain ⟨k, hk3, hk5, rfl, h0, hext⟩ := hrel
  have hkc : k = 3 ∨ k = 4 ∨ k = 5 := by omega
  rcases hkc with rfl | rfl | rfl
  ·go_wp2
   go_roundw
   case rel => exact ⟨4, by omega, by omega, by go_num, h0, hext⟩
   case measure => simp [intOf]
  ·go_wp2
   go_roundw
   case rel => exact ⟨5, by omega, by omega, by go_num, h0, hext⟩
   case measure => simp [intOf]
  ·rw [show ((5 : Nat) : Int) = 5 from rfl]
   go_upto_region 13 with (fail)
   go_loopw [8] (fun i wr => ∃ q : Nat, 32 ≤ q ∧ q ≤ 37 ∧ i = .int .i64 q ∧ Blk wr w.heap.size #[.int .i64 0, .int .i64 0, .int .i64 0] 53 ∧ Ext w wr) (fun i _ => 64 - (intOf i).toNat)
   case atStart => exact ⟨32, by omega, by omega, rfl, h0, hext⟩
   case round =>
    clear h0 hext
    obtain ⟨q, hq1, hq2, rfl, h0, hext⟩ := hrel
    by_cases hlt : q < 37
    ·have hno := Lib.hid (fld32_no q hq1 hlt)
     have hif := Lib.hid (fun W => iIsField_c 2 5 q W)
     generalize fldOK 2 5 q = G at *
     go_wp2_with (go_at_call 172; (with_reducible refine (hif.out _).mono ?_); rintro e w2 ⟨⟨hP, rfl⟩ | ⟨hP, rfl⟩, hx2⟩ <;> first | exact absurd hP hno.out | skip)
     have hxr : Ext wr w2 := ((Ext.refl wr).alloc _).trans hx2
     go_roundw
     case rel => exact ⟨q + 1, by omega, by omega, by go_num, h0.ext hxr, hext.trans hxr⟩
     case measure => simp [intOf]; omega
    ·obtain rfl : q = 37 := by omega
     rw [show ((37 : Nat) : Int) = 37 from rfl]
     have hyes := Lib.hid fld32_yes
     have hif := Lib.hid (fun W => iIsField_c 2 5 37 W)
     generalize fldOK 2 5 37 = G at *
     have hb := Blk.new wr #[.int .i64 2, .int .i64 5, .int .i64 37] 53
     have hgl := h0.lt
     go_wp2_with (go_at_call 172; (with_reducible refine (hif.out _).mono ?_); rintro e w2 ⟨⟨hP, rfl⟩ | ⟨hP, rfl⟩, hx2⟩ <;> (first | exact absurd hyes.out hP | skip); have hb2 := hb.ext hx2; have h02 := (h0.alloc (.cells #[.int .i64 2, .int .i64 5, .int .i64 37] 53)).ext hx2; obtain ⟨d0, d1, d2⟩ := hb2.c3; have dl := hb2.lt; obtain ⟨z0, z1, z2⟩ := h02.c3; have zl := h02.lt; have zf := h02.free)
     have hxr : Ext wr w2 := ((Ext.refl wr).alloc _).trans hx2
     have hF := ((h02.set 0 (.int .i64 2)).set 1 (.int .i64 5)).set 2 (.int .i64 37)
     obtain ⟨c0, c1, c2⟩ := hF.c3
     have hx9 := (((hext.trans hxr).setCell (p := ⟨w.heap.size, 0, none⟩) (Nat.le_refl _) (.int .i64 2)).setCell (p := ⟨w.heap.size, 1, none⟩) (Nat.le_refl _) (.int .i64 5)).setCell (p := ⟨w.heap.size, 2, none⟩) (Nat.le_refl _) (.int .i64 37)
     clear d0 d1 d2 dl z0 z1 z2 zl zf
     exact bodyPost_ret (v := .tuple #[vFld 2 5 37, .int .i64 0]) (by simp [results, Tryz.results173, go_sem, c0, c1, c2, vFld]) rfl ⟨rfl, hx9⟩
set_option maxHeartbeats 800000 in
set_option maxRecDepth 100000 in
theorem sField32_c (w : World) : Calls Tryz.prog 106 #[.int .i64 32] w fun e w' => e = .returned (.tuple #[vFld 2 5 37, .int .i64 0]) ∧ Ext w w' := by
 have hnp := Lib.hid notPr32
 have h0 := Blk.new w #[.int .i64 0, .int .i64 0, .int .i64 0] 53
 have hx0 : Ext w (w.alloc (.cells #[.int .i64 0, .int .i64 0, .int .i64 0] 53)) := (Ext.refl w).alloc _
 go_enter Tryz.func106, Tryz.ntmps106
 go_upto_region 9 with (first
  | (go_at_call 29; (with_reducible refine (l01In_c _ _ _ _).mono ?_); rintro e w1' ⟨⟨hP', rfl⟩ | ⟨hP', rfl⟩, rfl⟩ <;> first | (exfalso; omega) | skip)
  | (go_at_call 159; (with_reducible refine (l02Prime_c 32 _ (by omega)).mono ?_); rintro e w1 ⟨⟨hP, rfl⟩ | ⟨hP, rfl⟩, rfl⟩ <;> first | exact absurd hP hnp.out | skip))
 clear hP
 generalize w.alloc (.cells #[.int .i64 0, .int .i64 0, .int .i64 0] 53) = w0 at *
 go_loopw [6] (fun i wr => ∃ k : Nat, 3 ≤ k ∧ k ≤ 5 ∧ i = .int .i64 k ∧ Blk wr w.heap.size #[.int .i64 0, .int .i64 0, .int .i64 0] 53 ∧ Ext w wr) (fun i _ => 9 - (intOf i).toNat)
 case atStart => exact ⟨3, by omega, by omega, rfl, h0, hx0⟩
 case round =>
  clear h0 hx0
  obtain ⟨k, hk3, hk5, rfl, h0, hext⟩ := hrel
  have hkc : k = 3 ∨ k = 4 ∨ k = 5 := by omega
  rcases hkc with rfl | rfl | rfl
  ·go_wp2
   go_roundw
   case rel => exact ⟨4, by omega, by omega, by go_num, h0, hext⟩
   case measure => simp [intOf]
  ·go_wp2
   go_roundw
   case rel => exact ⟨5, by omega, by omega, by go_num, h0, hext⟩
   case measure => simp [intOf]
  ·rw [show ((5 : Nat) : Int) = 5 from rfl]
   go_upto_region 13 with (fail)
   go_loopw [7] (fun i wr => ∃ q : Nat, 32 ≤ q ∧ q ≤ 37 ∧ i = .int .i64 q ∧ Blk wr w.heap.size #[.int .i64 0, .int .i64 0, .int .i64 0] 53 ∧ Ext w wr) (fun i _ => 64 - (intOf i).toNat)
   case atStart => exact ⟨32, by omega, by omega, rfl, h0, hext⟩
   case round =>
    clear h0 hext
    obtain ⟨q, hq1, hq2, rfl, h0, hext⟩ := hrel
    by_cases hlt : q < 37
    ·have hno := Lib.hid (fld32_no q hq1 hlt)
     have hif := Lib.hid (fun W => sIsField_c 2 5 q W)
     generalize fldOK 2 5 q = G at *
     go_wp2_with (go_at_call 104; (with_reducible refine (hif.out _).mono ?_); rintro e w2 ⟨⟨hP, rfl⟩ | ⟨hP, rfl⟩, hx2⟩ <;> first | exact absurd hP hno.out | skip)
     have hxr : Ext wr w2 := ((Ext.refl wr).alloc _).trans hx2
     go_roundw
     case rel => exact ⟨q + 1, by omega, by omega, by go_num, h0.ext hxr, hext.trans hxr⟩
     case measure => simp [intOf]; omega
    ·obtain rfl : q = 37 := by omega
     rw [show ((37 : Nat) : Int) = 37 from rfl]
     have hyes := Lib.hid fld32_yes
     have hif := Lib.hid (fun W => sIsField_c 2 5 37 W)
     generalize fldOK 2 5 37 = G at *
     have hb := Blk.new wr #[.int .i64 2, .int .i64 5, .int .i64 37] 53
     have hgl := h0.lt
     go_wp2_with (go_at_call 104; (with_reducible refine (hif.out _).mono ?_); rintro e w2 ⟨⟨hP, rfl⟩ | ⟨hP, rfl⟩, hx2⟩ <;> (first | exact absurd hyes.out hP | skip); have hb2 := hb.ext hx2; have h02 := (h0.alloc (.cells #[.int .i64 2, .int .i64 5, .int .i64 37] 53)).ext hx2; obtain ⟨d0, d1, d2⟩ := hb2.c3; have dl := hb2.lt; obtain ⟨z0, z1, z2⟩ := h02.c3; have zl := h02.lt; have zf := h02.free)
     have hxr : Ext wr w2 := ((Ext.refl wr).alloc _).trans hx2
     have hF := ((h02.set 0 (.int .i64 2)).set 1 (.int .i64 5)).set 2 (.int .i64 37)
     obtain ⟨c0, c1, c2⟩ := hF.c3
     have hx9 := (((hext.trans hxr).setCell (p := ⟨w.heap.size, 0, none⟩) (Nat.le_refl _) (.int .i64 2)).setCell (p := ⟨w.heap.size, 1, none⟩) (Nat.le_refl _) (.int .i64 5)).setCell (p := ⟨w.heap.size, 2, none⟩) (Nat.le_refl _) (.int .i64 37)
     clear d0 d1 d2 dl z0 z1 z2 zl zf
     exact bodyPost_ret (v := .tuple #[vFld 2 5 37, .int .i64 0]) (by simp [results, Tryz.results106, go_sem, c0, c1, c2, vFld]) rfl ⟨rfl, hx9⟩
end Go.Proofs.YtdnkljpnhmcnpaaGreat
