/- Glyphs of chapter 29: contracts. -/
import Derived.Test.YtjlndmicjdjdlaaInts
import Derived.Test.YtjlndmicjdjdlaaCheck
namespace Go.Proofs.Ytjlndmicjdjdlaa
set_option linter.unusedVariables false
set_option linter.unusedSimpArgs false
open Go.RowKit

def digitsL : List UInt8 := [55, 53, 53, 53, 55, 50, 54, 50, 50, 55, 55, 49, 55, 52, 55, 55, 49, 51, 49, 55, 53, 53, 55, 49, 49, 55, 52, 55, 49, 55, 55, 52, 55, 53, 55, 55, 49, 50, 50, 50, 55, 53, 50, 53, 55, 55, 53, 55, 49, 55]
def lettersL : List UInt8 := [50, 53, 55, 53, 53, 54, 53, 54, 53, 54, 51, 52, 52, 52, 51, 54, 53, 53, 53, 54, 55, 52, 54, 52, 55, 55, 52, 54, 52, 52, 51, 52, 53, 53, 51, 53, 53, 55, 53, 53, 55, 50, 50, 50, 55, 49, 49, 49, 53, 50, 53, 53, 54, 53, 53, 52, 52, 52, 52, 55, 53, 55, 55, 53, 53, 54, 53, 53, 53, 53, 50, 53, 53, 53, 50, 54, 53, 54, 52, 52, 50, 53, 53, 54, 51, 54, 53, 54, 53, 53, 51, 52, 50, 49, 54, 55, 50, 50, 50, 50, 53, 53, 53, 53, 55, 53, 53, 53, 53, 50, 53, 53, 55, 55, 53, 53, 53, 50, 53, 53, 53, 53, 50, 50, 50, 55, 49, 50, 52, 55]
/-- The k-th row of glyph number a. -/
def gl (a k : Nat) : Int := (((digitsL ++ lettersL).getD (5 * a + k) 0).toNat : Int) - 48
def glRow (a : Nat) : List Int := [gl a 0, gl a 1, gl a 2, gl a 3, gl a 4]
theorem gl_bd (a k : Nat) (h : a < 36) (hk : k < 5) : 1 ≤ gl a k ∧ gl a k ≤ 7 := by
  have : ∀ i, i < 180 → 49 ≤ ((digitsL ++ lettersL).getD i 0).toNat ∧ ((digitsL ++ lettersL).getD i 0).toNat ≤ 55 := by decide +kernel
  have := this (5 * a + k) (by omega)
  unfold gl
  omega
/-- A table of glyph rows, from glyph number off on. -/
def IsTab (R : ByteArray) (off n : Nat) : Prop := R.size = 5 * n ∧ ∀ a k, a < n → k < 5 → byteAt R (5 * a + k) = gl (off + a) k + 48
theorem tab_digits (R : ByteArray) (h : R.data.toList = digitsL) : IsTab R 0 10 := by
  refine ⟨by rw [ByteArray.size, ← Array.length_toList, h]; rfl, fun a k ha hk => ?_⟩
  unfold byteAt gl
  rw [h, List.getD_eq_getElem?_getD, List.getD_eq_getElem?_getD, List.getElem?_append_left (by show _ < 50; omega)]
  simp
theorem tab_letters (R : ByteArray) (h : R.data.toList = lettersL) : IsTab R 10 26 := by
  refine ⟨by rw [ByteArray.size, ← Array.length_toList, h]; rfl, fun a k ha hk => ?_⟩
  unfold byteAt gl
  rw [h, List.getD_eq_getElem?_getD, List.getD_eq_getElem?_getD, List.getElem?_append_right (by show 50 ≤ _; omega)]
  have : 5 * (10 + a) + k - digitsL.length = 5 * a + k := by show _ - 50 = _; omega
  rw [this]
  simp

theorem tab_all (R : ByteArray) (h : R.data.toList = digitsL ++ lettersL) : IsTab R 0 36 := by
  refine ⟨by rw [ByteArray.size, ← Array.length_toList, h]; rfl, fun a k ha hk => ?_⟩
  unfold byteAt gl
  rw [h]
  simp
theorem sGlyphs_c (w : World) :
    Calls Try.prog 41 #[] w fun e w' => (∃ R, e = .returned (.string R) ∧ IsTab R 0 36) ∧ w = w' := by
  go_enter Try.func41, Try.ntmps41
  go_wp2
  go_ret
  exact ⟨⟨_, rfl, tab_all _ rfl⟩, rfl⟩

abbrev v5 (l : Nat → Int) : Value := .agg #[.int .i64 (l 0), .int .i64 (l 1), .int .i64 (l 2), .int .i64 (l 3), .int .i64 (l 4)]

theorem cells5 (A : Nat) (cs : Array Value) (k : Nat) (hk : 5 ≤ k) (h : cs.size = 5 ∧ ∀ j, j < k → cs[j]? = some (.int .i64 (gl A j))) :
    cs = #[.int .i64 (gl A 0), .int .i64 (gl A 1), .int .i64 (gl A 2), .int .i64 (gl A 3), .int .i64 (gl A 4)] := by
  obtain ⟨h1, h2⟩ := h
  apply Array.ext
  · simpa using h1
  · intro i hi1 hi2
    simp at hi2
    have := h2 i (by omega)
    rw [Array.getElem?_eq_getElem hi1] at this
    have e := Option.some.inj this
    rw [e]
    match i, hi2 with
    | 0, _ => rfl
    | 1, _ => rfl
    | 2, _ => rfl
    | 3, _ => rfl
    | 4, _ => rfl
theorem cells5_set {A : Nat} {cs : Array Value} {k : Nat} (hk : k < 5) (h : cs.size = 5 ∧ ∀ j, j < k → cs[j]? = some (.int .i64 (gl A j))) {x : Int} (hx : x = gl A k) :
    (cs.setIfInBounds k (.int .i64 x)).size = 5 ∧ ∀ j, j < k + 1 → (cs.setIfInBounds k (.int .i64 x))[j]? = some (.int .i64 (gl A j)) := by
  obtain ⟨h1, h2⟩ := h
  refine ⟨by simpa using h1, fun j hj => ?_⟩
  by_cases e : j = k
  · subst e
    rw [Array.getElem?_setIfInBounds_self_of_lt (by omega), hx]
  · rw [Array.getElem?_setIfInBounds_ne (by omega)]
    exact h2 j (by omega)

set_option maxRecDepth 100000 in
theorem glyph_c (b : Int) (w : World) :
    Calls Try.prog 42 #[.int .i64 b] w fun e w' => ((b = 32 ∧ e = .returned (.tuple #[v5 fun _ => 0, .bool true])) ∨ (∃ a : Nat, ((48 ≤ b ∧ b ≤ 57 ∧ b = a + 48) ∨ (65 ≤ b ∧ b ≤ 90 ∧ b = a + 55)) ∧ e = .returned (.tuple #[v5 (gl a), .bool true])) ∨
      (¬ (b = 32 ∨ (48 ≤ b ∧ b ≤ 57) ∨ (65 ≤ b ∧ b ≤ 90)) ∧ e = .returned (.tuple #[v5 fun _ => 0, .bool false]))) ∧ Ext w w' := by
  by_cases h32 : b = 32
  · go_enter Try.func42, Try.ntmps42
    go_wp2
    exact bodyPost_ret (v := .tuple #[v5 fun _ => 0, .bool true]) (by simp [results, Try.results42, go_sem]) rfl ⟨.inl ⟨h32, rfl⟩, (by repeat (first | exact Ext.refl _ | assumption | refine Ext.drew ?_ | refine Ext.drewN ?_ _ | refine Ext.iter ?_ _ _ | refine Ext.alloc ?_ _ | refine Ext.setCell ?_ (by first | exact Nat.le_refl _ | (simp <;> omega)) _ | refine Ext.trans2 (by assumption) ?_))⟩
  · by_cases hin : (48 ≤ b ∧ b ≤ 57) ∨ (65 ≤ b ∧ b ≤ 90)
    · obtain ⟨A, hA, hA2⟩ : ∃ A : Nat, ((48 ≤ b ∧ b ≤ 57 ∧ b = A + 48) ∨ (65 ≤ b ∧ b ≤ 90 ∧ b = A + 55)) ∧ A < 36 := by
        rcases hin with h | h
        · exact ⟨(b - 48).toNat, by omega, by omega⟩
        · exact ⟨(b - 55).toNat, by omega, by omega⟩
      have HA := Lib.hid hA; clear hA
      go_enter Try.func42, Try.ntmps42
      go_wp2_with (first | (go_at_call 35; (with_reducible refine (inRange_c _ _ _ _).mono ?_); rintro e w' ⟨⟨hP, rfl⟩ | ⟨hP, rfl⟩, rfl⟩ <;> go_prune))
      · generalize hR : ({ data := #[55, 53, 53, 53, 55, 50, 54, 50, 50, 55, 55, 49, 55, 52, 55, 55, 49, 51, 49, 55, 53, 53, 55, 49, 49, 55, 52, 55, 49, 55, 55, 52, 55, 53, 55, 55, 49, 50, 50, 50, 55, 53, 50, 53, 55, 55, 53, 55, 49, 55] } : ByteArray) = R
        have hT : IsTab R 0 10 := by rw [← hR]; exact tab_digits _ rfl
        clear hR
        obtain ⟨a, ha⟩ : ∃ a : Nat, b = a + 48 := ⟨(b - 48).toNat, by omega⟩
        subst ha
        have han : a < 10 := by have := HA.out; omega
        have hAa : 0 + a = A := by have := HA.out; omega
        have HAA := Lib.hid hAa; clear hAa
        simp only [Int.add_sub_cancel]
        go_loopw [24] (fun i wr => ∃ (k : Nat) (cs : Array Value), k ≤ 5 ∧ i = .int .i64 k ∧
          wr = (w.alloc (.cells #[.int .i64 0, .int .i64 0, .int .i64 0, .int .i64 0, .int .i64 0] 59)).alloc (.cells cs 59) ∧ Hid (cs.size = 5 ∧ ∀ j, j < k → cs[j]? = some (.int .i64 (gl A j)))) (fun i _ => 5 - (intOf i).toNat)
        case atStart => exact ⟨0, _, by omega, rfl, rfl, rfl, fun j h => absurd h (by omega)⟩
        case round =>
          obtain ⟨k, cs, hk, rfl, rfl, HC⟩ := hrel
          by_cases hlt : k < 5
          · have hgb := gl_bd A k hA2 hlt
            have hsz := hT.1
            have hb1 := hT.2 a k han hlt
            have hi : 5 * a + k < R.size := by omega
            rw [byteAt_eq hi, HAA.out] at hb1
            have HB := Lib.hid hb1
            have h8 : (R[5 * a + k]'hi).toNat ≤ 60 := by omega
            have h9 : 48 ≤ (R[5 * a + k]'hi).toNat := by omega
            have hcs : (cs[k]?).isSome = true := by have := HC.out.1; simp [hlt, this]
            obtain ⟨cv, hcv⟩ := Option.isSome_iff_exists.1 hcs
            have HT := Lib.hid hT
            clear hT hb1 hcs
            go_wp2
            go_roundw
            case rel => exact ⟨k + 1, _, by omega, by go_num, rfl, cells5_set hlt HC.out (by have := HB.out; omega)⟩
            case measure => simp [intOf]; omega
          · have hcs := cells5 A cs k (by omega) HC.out
            subst hcs
            clear hT
            go_wp2
            exact bodyPost_ret (v := .tuple #[v5 (gl A), .bool true]) (by simp [results, Try.results42, go_sem]) rfl ⟨.inr (.inl ⟨A, HA.out, rfl⟩), (by repeat (first | exact Ext.refl _ | assumption | refine Ext.drew ?_ | refine Ext.drewN ?_ _ | refine Ext.iter ?_ _ _ | refine Ext.alloc ?_ _ | refine Ext.setCell ?_ (by first | exact Nat.le_refl _ | (simp <;> omega)) _ | refine Ext.trans2 (by assumption) ?_))⟩
      · simp only [List.append_eq, List.cons_append, List.nil_append]
        generalize hR : ({ data := #[50, 53, 55, 53, 53, 54, 53, 54, 53, 54, 51, 52, 52, 52, 51, 54, 53, 53, 53, 54, 55, 52, 54, 52, 55, 55, 52, 54, 52, 52, 51, 52, 53, 53, 51, 53, 53, 55, 53, 53, 55, 50, 50, 50, 55, 49, 49, 49, 53, 50, 53, 53, 54, 53, 53, 52, 52, 52, 52, 55, 53, 55, 55, 53, 53, 54, 53, 53, 53, 53, 50, 53, 53, 53, 50, 54, 53, 54, 52, 52, 50, 53, 53, 54, 51, 54, 53, 54, 53, 53, 51, 52, 50, 49, 54, 55, 50, 50, 50, 50, 53, 53, 53, 53, 55, 53, 53, 53, 53, 50, 53, 53, 55, 55, 53, 53, 53, 50, 53, 53, 53, 53, 50, 50, 50, 55, 49, 50, 52, 55] } : ByteArray) = R
        have hT : IsTab R 10 26 := by rw [← hR]; exact tab_letters _ rfl
        clear hR
        obtain ⟨a, ha⟩ : ∃ a : Nat, b = a + 65 := ⟨(b - 65).toNat, by omega⟩
        subst ha
        have han : a < 26 := by have := HA.out; omega
        have hAa : 10 + a = A := by have := HA.out; omega
        have HAA := Lib.hid hAa; clear hAa
        simp only [Int.add_sub_cancel]
        go_loopw [24] (fun i wr => ∃ (k : Nat) (cs : Array Value), k ≤ 5 ∧ i = .int .i64 k ∧
          wr = (w.alloc (.cells #[.int .i64 0, .int .i64 0, .int .i64 0, .int .i64 0, .int .i64 0] 59)).alloc (.cells cs 59) ∧ Hid (cs.size = 5 ∧ ∀ j, j < k → cs[j]? = some (.int .i64 (gl A j)))) (fun i _ => 5 - (intOf i).toNat)
        case atStart => exact ⟨0, _, by omega, rfl, rfl, rfl, fun j h => absurd h (by omega)⟩
        case round =>
          obtain ⟨k, cs, hk, rfl, rfl, HC⟩ := hrel
          by_cases hlt : k < 5
          · have hgb := gl_bd A k hA2 hlt
            have hsz := hT.1
            have hb1 := hT.2 a k han hlt
            have hi : 5 * a + k < R.size := by omega
            rw [byteAt_eq hi, HAA.out] at hb1
            have HB := Lib.hid hb1
            have h8 : (R[5 * a + k]'hi).toNat ≤ 60 := by omega
            have h9 : 48 ≤ (R[5 * a + k]'hi).toNat := by omega
            have hcs : (cs[k]?).isSome = true := by have := HC.out.1; simp [hlt, this]
            obtain ⟨cv, hcv⟩ := Option.isSome_iff_exists.1 hcs
            have HT := Lib.hid hT
            clear hT hb1 hcs
            go_wp2
            go_roundw
            case rel => exact ⟨k + 1, _, by omega, by go_num, rfl, cells5_set hlt HC.out (by have := HB.out; omega)⟩
            case measure => simp [intOf]; omega
          · have hcs := cells5 A cs k (by omega) HC.out
            subst hcs
            clear hT
            go_wp2
            exact bodyPost_ret (v := .tuple #[v5 (gl A), .bool true]) (by simp [results, Try.results42, go_sem]) rfl ⟨.inr (.inl ⟨A, HA.out, rfl⟩), (by repeat (first | exact Ext.refl _ | assumption | refine Ext.drew ?_ | refine Ext.drewN ?_ _ | refine Ext.iter ?_ _ _ | refine Ext.alloc ?_ _ | refine Ext.setCell ?_ (by first | exact Nat.le_refl _ | (simp <;> omega)) _ | refine Ext.trans2 (by assumption) ?_))⟩
    · go_enter Try.func42, Try.ntmps42
      go_wp2_with (first | (go_at_call 35; (with_reducible refine (inRange_c _ _ _ _).mono ?_); rintro e w' ⟨⟨hP, rfl⟩ | ⟨hP, rfl⟩, rfl⟩ <;> go_prune))
      exact bodyPost_ret (v := .tuple #[v5 fun _ => 0, .bool false]) (by simp [results, Try.results42, go_sem]) rfl ⟨.inr (.inr ⟨by omega, rfl⟩), (by repeat (first | exact Ext.refl _ | assumption | refine Ext.drew ?_ | refine Ext.drewN ?_ _ | refine Ext.iter ?_ _ _ | refine Ext.alloc ?_ _ | refine Ext.setCell ?_ (by first | exact Nat.le_refl _ | (simp <;> omega)) _ | refine Ext.trans2 (by assumption) ?_))⟩

/-- Row number at of the glyph of b. -/
def glAt (b : Int) : Nat := if 48 ≤ b ∧ b ≤ 57 then (b - 48).toNat else (b - 55).toNat
def glList (b : Int) : List Int := if b = 32 then [0, 0, 0, 0, 0] else if (48 ≤ b ∧ b ≤ 57) ∨ (65 ≤ b ∧ b ≤ 90) then glRow (glAt b) else []
def glCode (b : Int) : Int := if b = 32 ∨ (48 ≤ b ∧ b ≤ 57) ∨ (65 ≤ b ∧ b ≤ 90) then 0 else 4

theorem OwnInts_alloc (B : Nat) (w : World) (xs : List Int) (t : TypeId) (hB : B ≤ w.heap.size) : OwnInts B (w.alloc (.cells (xs.map (Value.int .i64)).toArray t)) (some ⟨w.heap.size, 0, none⟩) xs := fun i hi => by
  obtain ⟨b, o, h1, h2, h3⟩ := IntsAt_alloc w xs t i hi
  simp at h1
  obtain ⟨rfl, rfl⟩ := h1
  refine ⟨_, _, rfl, hB, h2, h3, ?_⟩
  have : (w.alloc (.cells (xs.map (Value.int .i64)).toArray t)).heap[w.heap.size]? = some (.cells (xs.map (Value.int .i64)).toArray t) := (MapKept.heap_alloc w _).1
  simp only [World.frozen?, this]
  simp

set_option maxRecDepth 100000 in
theorem iGlyphRows_c (b : Int) (w : World) :
    Calls Try.prog 18 #[.int .i64 b] w fun e w' => (∃ p c, e = .returned (.tuple #[.slice p (glList b).length c, .int .i64 (glCode b)]) ∧ OwnInts w.heap.size w' p (glList b)) ∧ Ext w w' := by
  go_enter Try.func18, Try.ntmps18
  go_wp2_with (first
    | (go_at_call 42; refine (glyph_c _ _).mono ?_; rintro e w1 ⟨⟨h, rfl⟩ | ⟨A, h, rfl⟩ | ⟨h, rfl⟩, hb⟩ <;> (obtain ⟨hc, hf, hk, hz⟩ := ecell hb; try (have hx := Ext.trans2 hb (by assumption); obtain ⟨hcx, hfx, hkx, hzx⟩ := ecell hx)) <;> (try simp at hz)))
  · subst h
    go_ret2
    exact ⟨⟨_, _, rfl, OwnInts_alloc w.heap.size w1 [0, 0, 0, 0, 0] _ hz⟩, (by repeat (first | exact Ext.refl _ | assumption | refine Ext.drew ?_ | refine Ext.drewN ?_ _ | refine Ext.iter ?_ _ _ | refine Ext.alloc ?_ _ | refine Ext.setCell ?_ (by first | exact Nat.le_refl _ | (simp <;> omega)) _ | refine Ext.trans2 (by assumption) ?_))⟩
  · have e : glList b = glRow A := by
      unfold glList glAt
      rcases h with h | h
      · rw [if_neg (by omega), if_pos (by omega), if_pos (by omega)]; congr 1; omega
      · rw [if_neg (by omega), if_pos (by omega), if_neg (by omega)]; congr 1; omega
    have e2 : glCode b = 0 := if_pos (by omega)
    go_ret2
    rw [e, e2]
    exact ⟨⟨_, _, rfl, OwnInts_alloc w.heap.size w1 (glRow A) _ hz⟩, (by repeat (first | exact Ext.refl _ | assumption | refine Ext.drew ?_ | refine Ext.drewN ?_ _ | refine Ext.iter ?_ _ _ | refine Ext.alloc ?_ _ | refine Ext.setCell ?_ (by first | exact Nat.le_refl _ | (simp <;> omega)) _ | refine Ext.trans2 (by assumption) ?_))⟩
  · have e : glList b = [] := by
      unfold glList
      rw [if_neg (by omega), if_neg (by omega)]
    have e2 : glCode b = 4 := if_neg (by omega)
    go_ret2
    rw [e, e2]
    exact ⟨⟨_, _, rfl, OwnInts.nil _ _ _⟩, (by repeat (first | exact Ext.refl _ | assumption | refine Ext.drew ?_ | refine Ext.drewN ?_ _ | refine Ext.iter ?_ _ _ | refine Ext.alloc ?_ _ | refine Ext.setCell ?_ (by first | exact Nat.le_refl _ | (simp <;> omega)) _ | refine Ext.trans2 (by assumption) ?_))⟩

end Go.Proofs.Ytjlndmicjdjdlaa