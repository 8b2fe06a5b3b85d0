
/- Contracts of chapter 9: modes, segments. -/
import Derived.Test.YtbnpdpmbbppnhaaA
namespace Go.Proofs.Ytbnpdpmbbppnhaa
set_option linter.unusedVariables false
set_option linter.unusedSimpArgs false
open Go.RowKit

def idxB (s : ByteArray) (b : Int) : Int := match s.data.toList.findIdx? (fun c => (c.toNat : Int) == b) with | some i => i | none => -1
theorem bget (s : ByteArray) (j : Nat) (h : j < s.size) : s.data.toList[j]'(by simpa using h) = s[j]'h := by
  cases s; rfl
theorem idxB_found {s : ByteArray} {b : Int} {k : Nat} (h : k < s.size) (hk : ((s[k]'h).toNat : Int) = b) (hn : ∀ j (h : j < s.size), j < k → ((s[j]'h).toNat : Int) ≠ b) : idxB s b = k := by
  unfold idxB
  have : s.data.toList.findIdx? (fun c => (c.toNat : Int) == b) = some k := by
    rw [List.findIdx?_eq_some_iff_getElem]
    refine ⟨by simpa using h, by rw [bget s k h]; simpa using hk, fun j hj => ?_⟩
    have hj' : j < s.size := by omega
    rw [bget s j hj']
    simpa using hn j hj' hj
  rw [this]
theorem idxB_none {s : ByteArray} {b : Int} (hn : ∀ j (h : j < s.size), ((s[j]'h).toNat : Int) ≠ b) : idxB s b = -1 := by
  unfold idxB
  have : s.data.toList.findIdx? (fun c => (c.toNat : Int) == b) = none := by
    rw [List.findIdx?_eq_none_iff]
    intro x hx
    obtain ⟨j, hj, rfl⟩ := List.mem_iff_getElem.1 hx
    have hj' : j < s.size := by simpa using hj
    rw [bget s j hj']
    simpa using hn j hj'
  rw [this]

def Ascii (s : ByteArray) : Prop := ∀ j (h : j < s.size), (s[j]'h).toNat < 128

theorem listedValue_c (cs : ByteArray) (p : Option Addr) (n c : Nat) (b : Int) (w : World) (ha : Ascii cs) (hs : cs.size ≤ 1000) :
    Calls Try.prog 275 #[.agg #[.string cs, .slice p n c], .int .i64 b] w fun e w' => e = .returned (.int .i64 (idxB cs b)) ∧ Ext w w' := by
  go_enter Try.func275, Try.ntmps275
  go_wp2
  go_loopw [4] (fun _ wr => ∃ pos : Nat, wr = (w.alloc (.cells #[.string cs, .slice p n c] 253)).iter cs pos ∧ pos ≤ cs.size ∧ ∀ j (h : j < cs.size), j < pos → ((cs[j]'h).toNat : Int) ≠ b) (fun _ wr => cs.size - wr.iterPos (w.heap.size + 1))
  case atStart => exact ⟨0, rfl, Nat.zero_le _, fun j h hj => absurd hj (Nat.not_lt_zero _)⟩
  case round =>
    obtain ⟨pos, rfl, hpos, hno⟩ := hrel
    have HN := Lib.hid hno; clear hno
    by_cases hlt : pos < cs.size
    · have hasc := ha pos hlt
      have hnx := fun ty => run_next_ascii (P := Try.prog) (w.alloc (.cells #[.string cs, .slice p n c] 253)) cs pos ty hlt hasc
      simp at hnx
      clear ha
      go_wp2
      · have hb : ((cs[pos]'hlt).toNat : Int) = b := by rename_i h; simpa using h
        go_ret
        exact ⟨ret_int (idxB_found hlt hb HN.out).symm, (by repeat (first | exact Ext.refl _ | assumption | refine Ext.drew ?_ | refine Ext.drewN ?_ _ | refine Ext.iter ?_ _ _ | refine Ext.alloc ?_ _ | refine Ext.setCell ?_ (by first | exact Nat.le_refl _ | (simp <;> omega)) _ | refine Ext.trans2 (by assumption) ?_))⟩
      · have hb : ((cs[pos]'hlt).toNat : Int) ≠ b := by rename_i h; simpa using h
        go_roundw
        case rel => exact ⟨pos + 1, rfl, hlt, fun j h hj => by
          by_cases e : j = pos
          · subst e; exact hb
          · exact HN.out j h (by omega)⟩
        case measure => rw [iterPos_at (by simp), iterPos_at (by simp)]; omega
    · have hnx := fun ty => run_next_end (P := Try.prog) (w.alloc (.cells #[.string cs, .slice p n c] 253)) cs pos ty hlt
      simp at hnx
      clear ha
      go_wp2
      go_ret
      exact ⟨ret_int (idxB_none fun j h => HN.out j h (by omega)).symm, (by repeat (first | exact Ext.refl _ | assumption | refine Ext.drew ?_ | refine Ext.drewN ?_ _ | refine Ext.iter ?_ _ _ | refine Ext.alloc ?_ _ | refine Ext.setCell ?_ (by first | exact Nat.le_refl _ | (simp <;> omega)) _ | refine Ext.trans2 (by assumption) ?_))⟩

theorem plainValue_c (b : Int) (w : World) :
    Calls Try.prog 280 #[.agg #[], .int .i64 b] w fun e w' => e = .returned (.int .i64 b) ∧ Ext w w' := by
  go_enter Try.func280, Try.ntmps280
  go_wp2
  go_ret
  exact ⟨rfl, (by repeat (first | exact Ext.refl _ | assumption | refine Ext.drew ?_ | refine Ext.drewN ?_ _ | refine Ext.iter ?_ _ _ | refine Ext.alloc ?_ _ | refine Ext.setCell ?_ (by first | exact Nat.le_refl _ | (simp <;> omega)) _ | refine Ext.trans2 (by assumption) ?_))⟩

def digitsB : ByteArray := ⟨#[48, 49, 50, 51, 52, 53, 54, 55, 56, 57]⟩
def lettersB : ByteArray := ⟨#[48, 49, 50, 51, 52, 53, 54, 55, 56, 57, 65, 66, 67, 68, 69, 70, 71, 72, 73, 74, 75, 76, 77, 78, 79, 80, 81, 82, 83, 84, 85, 86, 87, 88, 89, 90, 32, 33, 35, 38, 40, 41, 43, 45, 47]⟩
def lowerB : ByteArray := ⟨#[97, 98, 99, 100, 101, 102, 103, 104, 105, 106, 107, 108, 109, 110, 111, 112, 113, 114, 115, 116, 117, 118, 119, 120, 121, 122, 32, 10, 44, 46, 39, 63]⟩
def modeSet (m : Int) : ByteArray := if m = 1 then digitsB else if m = 2 then lettersB else if m = 3 then lowerB else ByteArray.empty
def charVal (m b : Int) : Int := if ¬ (1 ≤ m ∧ m ≤ 4) ∨ ¬ (0 ≤ b ∧ b ≤ 255) then -1 else if m = 4 then b else idxB (modeSet m) b

def modeWidths (m : Int) : List Int := if m = 1 then [4, 7, 10] else if m = 2 then [6, 11] else if m = 3 then [5] else []
/-- v is the mode of the number m; with another number it is the plain one. -/
def ModeV (w : World) (m : Int) (v : Value) : Prop :=
  ((1 ≤ m ∧ m ≤ 3) ∧ ∃ p n, v = .iface 253 (.agg #[.string (modeSet m), .slice p n n]) ∧ n = (modeWidths m).length ∧ IntsAt w p (modeWidths m)) ∨
  (¬ (1 ≤ m ∧ m ≤ 3) ∧ v = .iface 255 (.agg #[]))
theorem ModeV.ext {w w' : World} {m : Int} {v : Value} (h : ModeV w m v) (hb : Ext w w') : ModeV w' m v := by
  rcases h with ⟨h, p, n, h1, h2, h3⟩ | h
  · exact .inl ⟨h, p, n, h1, h2, h3.ext hb⟩
  · exact .inr h

theorem modeOf_c (n : Int) (w : World) :
    Calls Try.prog 206 #[.int .i64 n] w fun e w' => (∃ v, (((1 ≤ n ∧ n ≤ 4) ∧ e = .returned (.tuple #[v, .bool true])) ∨ (¬ (1 ≤ n ∧ n ≤ 4) ∧ e = .returned (.tuple #[v, .bool false]))) ∧ ModeV w' n v) ∧ Ext w w' := by
  go_enter Try.func206, Try.ntmps206
  go_wp2
  · obtain rfl : n = 1 := by rename_i h; simpa using h
    go_ret2
    exact ⟨⟨_, .inl ⟨by omega, rfl⟩, .inl ⟨by omega, _, _, rfl, rfl, IntsAt_alloc w [4, 7, 10] _⟩⟩, (by repeat (first | exact Ext.refl _ | assumption | refine Ext.drew ?_ | refine Ext.drewN ?_ _ | refine Ext.iter ?_ _ _ | refine Ext.alloc ?_ _ | refine Ext.setCell ?_ (by first | exact Nat.le_refl _ | (simp <;> omega)) _ | refine Ext.trans2 (by assumption) ?_))⟩
  · obtain rfl : n = 2 := by rename_i h; simpa using h
    go_ret2
    exact ⟨⟨_, .inl ⟨by omega, rfl⟩, .inl ⟨by omega, _, _, rfl, rfl, IntsAt_alloc w [6, 11] _⟩⟩, (by repeat (first | exact Ext.refl _ | assumption | refine Ext.drew ?_ | refine Ext.drewN ?_ _ | refine Ext.iter ?_ _ _ | refine Ext.alloc ?_ _ | refine Ext.setCell ?_ (by first | exact Nat.le_refl _ | (simp <;> omega)) _ | refine Ext.trans2 (by assumption) ?_))⟩
  · obtain rfl : n = 3 := by rename_i h; simpa using h
    go_ret2
    exact ⟨⟨_, .inl ⟨by omega, rfl⟩, .inl ⟨by omega, _, _, rfl, rfl, IntsAt_alloc w [5] _⟩⟩, (by repeat (first | exact Ext.refl _ | assumption | refine Ext.drew ?_ | refine Ext.drewN ?_ _ | refine Ext.iter ?_ _ _ | refine Ext.alloc ?_ _ | refine Ext.setCell ?_ (by first | exact Nat.le_refl _ | (simp <;> omega)) _ | refine Ext.trans2 (by assumption) ?_))⟩
  · obtain rfl : n = 4 := by rename_i h; simpa using h
    go_ret2
    exact ⟨⟨_, .inl ⟨by omega, rfl⟩, .inr ⟨by omega, rfl⟩⟩, (by repeat (first | exact Ext.refl _ | assumption | refine Ext.drew ?_ | refine Ext.drewN ?_ _ | refine Ext.iter ?_ _ _ | refine Ext.alloc ?_ _ | refine Ext.setCell ?_ (by first | exact Nat.le_refl _ | (simp <;> omega)) _ | refine Ext.trans2 (by assumption) ?_))⟩
  · have h5 : ¬ (1 ≤ n ∧ n ≤ 4) := by
      rename_i h1 h2 h3 h4
      simp at h1 h2 h3 h4
      omega
    go_ret2
    exact ⟨⟨_, .inr ⟨h5, rfl⟩, .inr ⟨by omega, rfl⟩⟩, (by repeat (first | exact Ext.refl _ | assumption | refine Ext.drew ?_ | refine Ext.drewN ?_ _ | refine Ext.iter ?_ _ _ | refine Ext.alloc ?_ _ | refine Ext.setCell ?_ (by first | exact Nat.le_refl _ | (simp <;> omega)) _ | refine Ext.trans2 (by assumption) ?_))⟩

theorem set_c (m : Int) (w : World) :
    Calls Try.prog 219 #[.int .i64 m] w fun e w' => e = .returned (.string (modeSet m)) ∧ w = w' := by
  go_enter Try.func219, Try.ntmps219
  go_wp2
  · obtain rfl : m = 1 := by rename_i h; simpa using h
    go_ret
    exact ⟨rfl, rfl⟩
  · obtain rfl : m = 2 := by rename_i h; simpa using h
    go_ret
    exact ⟨rfl, rfl⟩
  · obtain rfl : m = 3 := by rename_i h; simpa using h
    go_ret
    exact ⟨rfl, rfl⟩
  · have : modeSet m = ByteArray.empty := by
      rename_i h1 h2 h3
      simp at h1 h2 h3
      simp [modeSet, h1, h2, h3]
    go_ret
    refine ⟨?_, rfl⟩
    rw [this]
    rfl

theorem ascii_of_all {s : ByteArray} (h : s.data.toList.all (fun c => decide (c.toNat < 128)) = true) : Ascii s := by
  intro j hj
  rw [← bget s j hj]
  simp only [List.all_eq_true, decide_eq_true_eq] at h
  exact h _ (List.getElem_mem _)
theorem modeSet_ascii (m : Int) : Ascii (modeSet m) := by
  unfold modeSet
  split
  · exact ascii_of_all (by decide)
  · split
    · exact ascii_of_all (by decide)
    · split
      · exact ascii_of_all (by decide)
      · exact ascii_of_all (by decide)
theorem modeSet_size (m : Int) : (modeSet m).size ≤ 45 := by
  unfold modeSet
  (repeat' split) <;> decide

theorem sCharacterValue_c (m b : Int) (w : World) :
    Calls Try.prog 217 #[.int .i64 m, .int .i64 b] w fun e w' => e = .returned (.int .i64 (charVal m b)) ∧ Ext w w' := by
  have hs := modeSet_size m
  by_cases h4 : m = 4
  · go_enter Try.func217, Try.ntmps217
    go_wp2_with (first | (go_at_call 99; (with_reducible refine (l01In_c _ _ _ _).mono ?_); rintro e w' ⟨⟨hP, rfl⟩ | ⟨hP, rfl⟩, rfl⟩ <;> go_prune))
    all_goals go_ret
    all_goals refine ⟨ret_int ?_, (by repeat (first | exact Ext.refl _ | assumption | refine Ext.drew ?_ | refine Ext.drewN ?_ _ | refine Ext.iter ?_ _ _ | refine Ext.alloc ?_ _ | refine Ext.setCell ?_ (by first | exact Nat.le_refl _ | (simp <;> omega)) _ | refine Ext.trans2 (by assumption) ?_))⟩
    all_goals unfold charVal
    all_goals first | (rw [if_neg (by omega), if_neg (by omega)]; done) | (rw [if_neg (by omega), if_pos (by omega)]; done) | (rw [if_pos (by omega)]; done) | skip
  · by_cases hr : (1 ≤ m ∧ m ≤ 4) ∧ 0 ≤ b ∧ b ≤ 255
    · go_enter Try.func217, Try.ntmps217
      go_wp2_with (first | (go_at_call 99; (with_reducible refine (l01In_c _ _ _ _).mono ?_); rintro e w' ⟨⟨hP, rfl⟩ | ⟨hP, rfl⟩, rfl⟩ <;> go_prune) | (go_at_call 219; (with_reducible refine (set_c _ _).mono ?_); rintro e w' ⟨rfl, rfl⟩))
      generalize hgs : modeSet m = cs at hs
      have HG := Lib.hid hgs; clear hgs
      go_loop [6] (fun i => ∃ k : Nat, k ≤ cs.size ∧ i = .int .i64 k ∧ ∀ j (h : j < cs.size), j < k → ((cs[j]'h).toNat : Int) ≠ b) (fun i => cs.size - (intOf i).toNat)
      case atStart => exact ⟨0, Nat.zero_le _, rfl, fun j h hj => absurd hj (Nat.not_lt_zero _)⟩
      case round =>
        obtain ⟨k, hk, rfl, hno⟩ := hrel
        have HN := Lib.hid hno; clear hno
        by_cases hlt : k < cs.size
        · have h8 : (cs[k]'hlt).toNat < 256 := UInt8.toNat_lt _
          go_wp2
          · have hb : ((cs[k]'hlt).toNat : Int) = b := by simpa using (by assumption : (((cs[k]'hlt).toNat : Int) == b) = true)
            go_ret
            exact ⟨ret_int (by unfold charVal; rw [if_neg (by omega), if_neg (by omega), HG.out]; exact (idxB_found hlt hb HN.out).symm), (by repeat (first | exact Ext.refl _ | assumption | refine Ext.drew ?_ | refine Ext.drewN ?_ _ | refine Ext.iter ?_ _ _ | refine Ext.alloc ?_ _ | refine Ext.setCell ?_ (by first | exact Nat.le_refl _ | (simp <;> omega)) _ | refine Ext.trans2 (by assumption) ?_))⟩
          · have hb : ((cs[k]'hlt).toNat : Int) ≠ b := by simpa using (by assumption : (((cs[k]'hlt).toNat : Int) == b) = false)
            go_round
            case rel => exact ⟨k + 1, hlt, by go_num, fun j h hj => by
              by_cases e : j = k
              · subst e; exact hb
              · exact HN.out j h (by omega)⟩
            case measure => simp [intOf]; omega
        · go_wp2
          go_ret
          exact ⟨ret_int (by unfold charVal; rw [if_neg (by omega), if_neg (by omega), HG.out]; exact (idxB_none fun j h => HN.out j h (by omega)).symm), (by repeat (first | exact Ext.refl _ | assumption | refine Ext.drew ?_ | refine Ext.drewN ?_ _ | refine Ext.iter ?_ _ _ | refine Ext.alloc ?_ _ | refine Ext.setCell ?_ (by first | exact Nat.le_refl _ | (simp <;> omega)) _ | refine Ext.trans2 (by assumption) ?_))⟩
    · go_enter Try.func217, Try.ntmps217
      go_wp2_with (first | (go_at_call 99; (with_reducible refine (l01In_c _ _ _ _).mono ?_); rintro e w' ⟨⟨hP, rfl⟩ | ⟨hP, rfl⟩, rfl⟩ <;> go_prune))
      all_goals go_ret
      all_goals refine ⟨ret_int ?_, (by repeat (first | exact Ext.refl _ | assumption | refine Ext.drew ?_ | refine Ext.drewN ?_ _ | refine Ext.iter ?_ _ _ | refine Ext.alloc ?_ _ | refine Ext.setCell ?_ (by first | exact Nat.le_refl _ | (simp <;> omega)) _ | refine Ext.trans2 (by assumption) ?_))⟩
      all_goals unfold charVal
      all_goals (rw [if_pos (by omega)])

def AllIn (m : Int) (s : ByteArray) : Prop := ∀ j (h : j < s.size), 0 ≤ charVal m (s[j]'h).toNat
theorem charVal_lo (m b : Int) : -1 ≤ charVal m b := by
  unfold charVal idxB
  split
  · omega
  · split
    · omega
    · split <;> omega

theorem charVal_listed {m b : Int} (hm : 1 ≤ m ∧ m ≤ 3) (hb : 0 ≤ b ∧ b ≤ 255) : charVal m b = idxB (modeSet m) b := by
  unfold charVal
  rw [if_neg (by omega), if_neg (by omega)]
theorem charVal_bytes {m b : Int} (hm : m = 4) (hb : 0 ≤ b ∧ b ≤ 255) : charVal m b = b := by
  unfold charVal
  rw [if_neg (by omega), if_pos hm]
theorem wrapByte (c : UInt8) : IntKind.i64.wrap (c.toNat : Int) = c.toNat := by
  have := UInt8.toNat_lt c
  exact IntWalk.i64_in _ (by omega)
theorem AllIn_step {m : Int} {s : ByteArray} {k : Nat} (hk : k < s.size) (h : ∀ j (h : j < s.size), j < k → 0 ≤ charVal m (s[j]'h).toNat) (h0 : 0 ≤ charVal m (s[k]'hk).toNat) :
    ∀ j (h : j < s.size), j < k + 1 → 0 ≤ charVal m (s[j]'h).toNat := fun j hj hjk => by
  by_cases e : j = k
  · subst e; exact h0
  · exact h j hj (by omega)

theorem iAllIn_c (m : Int) (v : Value) (s : ByteArray) (w : World) (hm : 1 ≤ m ∧ m ≤ 4) (hv : ModeV w m v) (hs : s.size ≤ 1048576) :
    Calls Try.prog 245 #[v, .string s] w fun e w' => isB e (AllIn m s) ∧ Ext w w' := by
  have ha := modeSet_ascii m
  have hms := modeSet_size m
  rcases hv with ⟨hm', p, n, rfl, hn, hi⟩ | ⟨hm', rfl⟩
  · clear hn
    have hna : ∀  w, (nilAhead 379 253 (.agg #[.string (modeSet m), .slice p n n]) (nthInv Try.f245 0)).run Try.prog w = .ok (some false) w := fun  w => by kernel_rfl
    conv at hna => intro  w; lhs; arg 2; arg 4; whnf
    have hme : ∀  w, (method 379 253 (.agg #[.string (modeSet m), .slice p n n]) (nthInv Try.f245 0)).run Try.prog w = .ok (275, (.agg #[.string (modeSet m), .slice p n n])) w := fun  w => by kernel_rfl
    conv at hme => intro  w; lhs; arg 2; arg 4; whnf
    go_enter Try.func245, Try.ntmps245
    go_wp2
    go_loopw [5] (fun i wr => ∃ k : Nat, k ≤ s.size ∧ i = .int .i64 k ∧ Ext w wr ∧ ∀ j (h : j < s.size), j < k → 0 ≤ charVal m (s[j]'h).toNat) (fun i _ => s.size - (intOf i).toNat)
    case atStart => exact ⟨0, Nat.zero_le _, rfl, Ext.refl _, fun j h hj => absurd hj (Nat.not_lt_zero _)⟩
    case round =>
      obtain ⟨k, hk, rfl, hext, hno⟩ := hrel
      have HN := Lib.hid hno; clear hno
      by_cases hlt : k < s.size
      · have h8 : (s[k]'hlt).toNat < 256 := UInt8.toNat_lt _
        have hw := wrapByte (s[k]'hlt)
        go_wp2
        go_region_with (first
          | (go_at_call 275; (with_reducible refine (listedValue_c _ _ _ _ _ _ (by assumption) (by omega)).mono ?_); rintro e w1 ⟨rfl, hb⟩; (obtain ⟨hc, hf, hk, hz⟩ := ecell hb; try (have hx := Ext.trans2 hb (by assumption); obtain ⟨hcx, hfx, hkx, hzx⟩ := ecell hx)); try simp at hz))
        all_goals clear hw
        all_goals go_wp2
        all_goals first
          | (have hl : idxB (modeSet m) (s[k]'hlt).toNat < 0 := by assumption
             go_ret
             exact ⟨isB_f fun hall => by have := hall k hlt; rw [charVal_listed hm' (by omega)] at this; omega, (by repeat (first | exact Ext.refl _ | assumption | refine Ext.drew ?_ | refine Ext.drewN ?_ _ | refine Ext.iter ?_ _ _ | refine Ext.alloc ?_ _ | refine Ext.setCell ?_ (by first | exact Nat.le_refl _ | (simp <;> omega)) _ | refine Ext.trans2 (by assumption) ?_))⟩)
          | (have hl : ¬ idxB (modeSet m) (s[k]'hlt).toNat < 0 := by omega
             go_roundw
             case rel => exact ⟨k + 1, hlt, by go_num, (by repeat (first | exact Ext.refl _ | assumption | refine Ext.drew ?_ | refine Ext.drewN ?_ _ | refine Ext.iter ?_ _ _ | refine Ext.alloc ?_ _ | refine Ext.setCell ?_ (by first | exact Nat.le_refl _ | (simp <;> omega)) _ | refine Ext.trans2 (by assumption) ?_)), AllIn_step hlt HN.out (by rw [charVal_listed hm' (by omega)]; omega)⟩
             case measure => simp [intOf]; omega)
      · go_wp2
        go_ret
        exact ⟨isB_t fun j h => HN.out j h (by omega), (by repeat (first | exact Ext.refl _ | assumption | refine Ext.drew ?_ | refine Ext.drewN ?_ _ | refine Ext.iter ?_ _ _ | refine Ext.alloc ?_ _ | refine Ext.setCell ?_ (by first | exact Nat.le_refl _ | (simp <;> omega)) _ | refine Ext.trans2 (by assumption) ?_))⟩
  · skip
    have hna : ∀  w, (nilAhead 379 255 (.agg #[]) (nthInv Try.f245 0)).run Try.prog w = .ok (some false) w := fun  w => by kernel_rfl
    conv at hna => intro  w; lhs; arg 2; arg 4; whnf
    have hme : ∀  w, (method 379 255 (.agg #[]) (nthInv Try.f245 0)).run Try.prog w = .ok (280, (.agg #[])) w := fun  w => by kernel_rfl
    conv at hme => intro  w; lhs; arg 2; arg 4; whnf
    go_enter Try.func245, Try.ntmps245
    go_wp2
    go_loopw [5] (fun i wr => ∃ k : Nat, k ≤ s.size ∧ i = .int .i64 k ∧ Ext w wr ∧ ∀ j (h : j < s.size), j < k → 0 ≤ charVal m (s[j]'h).toNat) (fun i _ => s.size - (intOf i).toNat)
    case atStart => exact ⟨0, Nat.zero_le _, rfl, Ext.refl _, fun j h hj => absurd hj (Nat.not_lt_zero _)⟩
    case round =>
      obtain ⟨k, hk, rfl, hext, hno⟩ := hrel
      have HN := Lib.hid hno; clear hno
      by_cases hlt : k < s.size
      · have h8 : (s[k]'hlt).toNat < 256 := UInt8.toNat_lt _
        have hw := wrapByte (s[k]'hlt)
        go_wp2
        go_region_with (first
          | (go_at_call 280; (with_reducible refine (plainValue_c _ _).mono ?_); rintro e w1 ⟨rfl, hb⟩; (obtain ⟨hc, hf, hk, hz⟩ := ecell hb; try (have hx := Ext.trans2 hb (by assumption); obtain ⟨hcx, hfx, hkx, hzx⟩ := ecell hx)); try simp at hz))
        all_goals clear hw
        all_goals go_wp2
        all_goals
          go_roundw
          case rel => exact ⟨k + 1, hlt, by go_num, (by repeat (first | exact Ext.refl _ | assumption | refine Ext.drew ?_ | refine Ext.drewN ?_ _ | refine Ext.iter ?_ _ _ | refine Ext.alloc ?_ _ | refine Ext.setCell ?_ (by first | exact Nat.le_refl _ | (simp <;> omega)) _ | refine Ext.trans2 (by assumption) ?_)), AllIn_step hlt HN.out (by rw [charVal_bytes (by omega) (by omega)]; omega)⟩
          case measure => simp [intOf]; omega
      · go_wp2
        go_ret
        exact ⟨isB_t fun j h => HN.out j h (by omega), (by repeat (first | exact Ext.refl _ | assumption | refine Ext.drew ?_ | refine Ext.drewN ?_ _ | refine Ext.iter ?_ _ _ | refine Ext.alloc ?_ _ | refine Ext.setCell ?_ (by first | exact Nat.le_refl _ | (simp <;> omega)) _ | refine Ext.trans2 (by assumption) ?_))⟩

end Go.Proofs.Ytbnpdpmbbppnhaa
