/- Contracts of chapter 9: modes, segments. -/
import Derived.Test.YthpnkcamjcohgaaDoorLPartsK00
import Derived.Test.YthpnkcamjcohgaaDoorLPartsK01
/-! Contracts of chapter 9: modes, segments. -/
namespace Go.Proofs.YthpnkcamjcohgaaDoor
set_option linter.unusedVariables false
set_option linter.unusedSimpArgs false
open Go.RowKit

def idxB (s : ByteArray) (b : Int) : Int := match s.data.toList.findIdx? (fun c => (c.toNat : Int) == b) with | some i => i | none => -1
theorem bget (s : ByteArray) (j : Nat) (h : j < s.size) : s.data.toList[j]'(by simpa using h) = s[j]'h := by
  cases s; rfl
theorem idxB_found {s : ByteArray} {b : Int} {k : Nat} (h : k < s.size) (hk : ((s[k]'h).toNat : Int) = b) (hn : ∀ j (h : j < s.size), j < k → ((s[j]'h).toNat : Int) ≠ b) : idxB s b = k := by
  unfold idxB
  have : s.data.toList.findIdx? (fun c => (c.toNat : Int) == b) = some k := by
    rw [List.findIdx?_eq_some_iff_getElem]
    refine ⟨by simpa using h, by rw [bget s k h]; simpa using hk, fun j hj => ?_⟩
    have hj' : j < s.size := by omega
    rw [bget s j hj']
    simpa using hn j hj' hj
  rw [this]
theorem idxB_none {s : ByteArray} {b : Int} (hn : ∀ j (h : j < s.size), ((s[j]'h).toNat : Int) ≠ b) : idxB s b = -1 := by
  unfold idxB
  have : s.data.toList.findIdx? (fun c => (c.toNat : Int) == b) = none := by
    rw [List.findIdx?_eq_none_iff]
    intro x hx
    obtain ⟨j, hj, rfl⟩ := List.mem_iff_getElem.1 hx
    have hj' : j < s.size := by simpa using hj
    rw [bget s j hj']
    simpa using hn j hj'
  rw [this]

def Ascii (s : ByteArray) : Prop := ∀ j (h : j < s.size), (s[j]'h).toNat < 128

theorem listedValue_c (cs : ByteArray) (p : Option Addr) (n c : Nat) (b : Int) (w : World) (ha : Ascii cs) (hs : cs.size ≤ 1000) :
    Calls Tryd.prog 229 #[.agg #[.string cs, .slice p n c], .int .i64 b] w fun e w' => e = .returned (.int .i64 (idxB cs b)) ∧ Ext w w' := by
  go_enter Tryd.func229, Tryd.ntmps229
  go_wp2
  go_loopw [4] (fun _ wr => ∃ pos : Nat, wr = (w.alloc (.cells #[.string cs, .slice p n c] 239)).iter cs pos ∧ pos ≤ cs.size ∧ ∀ j (h : j < cs.size), j < pos → ((cs[j]'h).toNat : Int) ≠ b) (fun _ wr => cs.size - wr.iterPos (w.heap.size + 1))
  case atStart => exact ⟨0, rfl, Nat.zero_le _, fun j h hj => absurd hj (Nat.not_lt_zero _)⟩
  case round =>
    obtain ⟨pos, rfl, hpos, hno⟩ := hrel
    have HN := Lib.hid hno; clear hno
    by_cases hlt : pos < cs.size
    · have hasc := ha pos hlt
      have hnx := fun ty => run_next_ascii (P := Tryd.prog) (w.alloc (.cells #[.string cs, .slice p n c] 239)) cs pos ty hlt hasc
      simp at hnx
      clear ha
      go_wp2
      · have hb : ((cs[pos]'hlt).toNat : Int) = b := by rename_i h; simpa using h
        go_ret
        exact ⟨ret_int (idxB_found hlt hb HN.out).symm, (by repeat (first | exact Ext.refl _ | assumption | refine Ext.drew ?_ | refine Ext.drewN ?_ _ | refine Ext.iter ?_ _ _ | refine Ext.alloc ?_ _ | refine Ext.setCell ?_ (by first | exact Nat.le_refl _ | (simp <;> omega)) _ | refine Ext.trans2 (by assumption) ?_))⟩
      · have hb : ((cs[pos]'hlt).toNat : Int) ≠ b := by rename_i h; simpa using h
        go_roundw
        case rel => exact ⟨pos + 1, rfl, hlt, fun j h hj => by
          by_cases e : j = pos
          · subst e; exact hb
          · exact HN.out j h (by omega)⟩
        case measure => rw [iterPos_at (by simp), iterPos_at (by simp)]; omega
    · have hnx := fun ty => run_next_end (P := Tryd.prog) (w.alloc (.cells #[.string cs, .slice p n c] 239)) cs pos ty hlt
      simp at hnx
      clear ha
      go_wp2
      go_ret
      exact ⟨ret_int (idxB_none fun j h => HN.out j h (by omega)).symm, (by repeat (first | exact Ext.refl _ | assumption | refine Ext.drew ?_ | refine Ext.drewN ?_ _ | refine Ext.iter ?_ _ _ | refine Ext.alloc ?_ _ | refine Ext.setCell ?_ (by first | exact Nat.le_refl _ | (simp <;> omega)) _ | refine Ext.trans2 (by assumption) ?_))⟩

theorem plainValue_c (b : Int) (w : World) :
    Calls Tryd.prog 234 #[.agg #[], .int .i64 b] w fun e w' => e = .returned (.int .i64 b) ∧ Ext w w' := by
  go_enter Tryd.func234, Tryd.ntmps234
  go_wp2
  go_ret
  exact ⟨rfl, (by repeat (first | exact Ext.refl _ | assumption | refine Ext.drew ?_ | refine Ext.drewN ?_ _ | refine Ext.iter ?_ _ _ | refine Ext.alloc ?_ _ | refine Ext.setCell ?_ (by first | exact Nat.le_refl _ | (simp <;> omega)) _ | refine Ext.trans2 (by assumption) ?_))⟩

def digitsB : ByteArray := ⟨#[48, 49, 50, 51, 52, 53, 54, 55, 56, 57]⟩
def lettersB : ByteArray := ⟨#[48, 49, 50, 51, 52, 53, 54, 55, 56, 57, 65, 66, 67, 68, 69, 70, 71, 72, 73, 74, 75, 76, 77, 78, 79, 80, 81, 82, 83, 84, 85, 86, 87, 88, 89, 90, 32, 33, 35, 38, 40, 41, 43, 45, 47]⟩
def lowerB : ByteArray := ⟨#[97, 98, 99, 100, 101, 102, 103, 104, 105, 106, 107, 108, 109, 110, 111, 112, 113, 114, 115, 116, 117, 118, 119, 120, 121, 122, 32, 10, 44, 46, 39, 63]⟩
def modeSet (m : Int) : ByteArray := if m = 1 then digitsB else if m = 2 then lettersB else if m = 3 then lowerB else ByteArray.empty
def charVal (m b : Int) : Int := if ¬ (1 ≤ m ∧ m ≤ 4) ∨ ¬ (0 ≤ b ∧ b ≤ 255) then -1 else if m = 4 then b else idxB (modeSet m) b

def modeWidths (m : Int) : List Int := if m = 1 then [4, 7, 10] else if m = 2 then [6, 11] else if m = 3 then [5] else []
/-- v is the mode of the number m; with another number it is the plain one. -/
def ModeV (w : World) (m : Int) (v : Value) : Prop :=
  ((1 ≤ m ∧ m ≤ 3) ∧ ∃ p n, v = .iface 239 (.agg #[.string (modeSet m), .slice p n n]) ∧ n = (modeWidths m).length ∧ IntsAt w p (modeWidths m)) ∨
  (¬ (1 ≤ m ∧ m ≤ 3) ∧ v = .iface 241 (.agg #[]))
theorem ModeV.ext {w w' : World} {m : Int} {v : Value} (h : ModeV w m v) (hb : Ext w w') : ModeV w' m v := by
  rcases h with ⟨h, p, n, h1, h2, h3⟩ | h
  · exact .inl ⟨h, p, n, h1, h2, h3.ext hb⟩
  · exact .inr h

theorem modeOf_c (n : Int) (w : World) :
    Calls Tryd.prog 151 #[.int .i64 n] w fun e w' => (∃ v, (((1 ≤ n ∧ n ≤ 4) ∧ e = .returned (.tuple #[v, .bool true])) ∨ (¬ (1 ≤ n ∧ n ≤ 4) ∧ e = .returned (.tuple #[v, .bool false]))) ∧ ModeV w' n v) ∧ Ext w w' := by
  go_enter Tryd.func151, Tryd.ntmps151
  go_wp2
  · obtain rfl : n = 1 := by rename_i h; simpa using h
    go_ret2
    exact ⟨⟨_, .inl ⟨by omega, rfl⟩, .inl ⟨by omega, _, _, rfl, rfl, IntsAt_alloc w [4, 7, 10] _⟩⟩, (by repeat (first | exact Ext.refl _ | assumption | refine Ext.drew ?_ | refine Ext.drewN ?_ _ | refine Ext.iter ?_ _ _ | refine Ext.alloc ?_ _ | refine Ext.setCell ?_ (by first | exact Nat.le_refl _ | (simp <;> omega)) _ | refine Ext.trans2 (by assumption) ?_))⟩
  · obtain rfl : n = 2 := by rename_i h; simpa using h
    go_ret2
    exact ⟨⟨_, .inl ⟨by omega, rfl⟩, .inl ⟨by omega, _, _, rfl, rfl, IntsAt_alloc w [6, 11] _⟩⟩, (by repeat (first | exact Ext.refl _ | assumption | refine Ext.drew ?_ | refine Ext.drewN ?_ _ | refine Ext.iter ?_ _ _ | refine Ext.alloc ?_ _ | refine Ext.setCell ?_ (by first | exact Nat.le_refl _ | (simp <;> omega)) _ | refine Ext.trans2 (by assumption) ?_))⟩
  · obtain rfl : n = 3 := by rename_i h; simpa using h
    go_ret2
    exact ⟨⟨_, .inl ⟨by omega, rfl⟩, .inl ⟨by omega, _, _, rfl, rfl, IntsAt_alloc w [5] _⟩⟩, (by repeat (first | exact Ext.refl _ | assumption | refine Ext.drew ?_ | refine Ext.drewN ?_ _ | refine Ext.iter ?_ _ _ | refine Ext.alloc ?_ _ | refine Ext.setCell ?_ (by first | exact Nat.le_refl _ | (simp <;> omega)) _ | refine Ext.trans2 (by assumption) ?_))⟩
  · obtain rfl : n = 4 := by rename_i h; simpa using h
    go_ret2
    exact ⟨⟨_, .inl ⟨by omega, rfl⟩, .inr ⟨by omega, rfl⟩⟩, (by repeat (first | exact Ext.refl _ | assumption | refine Ext.drew ?_ | refine Ext.drewN ?_ _ | refine Ext.iter ?_ _ _ | refine Ext.alloc ?_ _ | refine Ext.setCell ?_ (by first | exact Nat.le_refl _ | (simp <;> omega)) _ | refine Ext.trans2 (by assumption) ?_))⟩
  · have h5 : ¬ (1 ≤ n ∧ n ≤ 4) := by
      rename_i h1 h2 h3 h4
      simp at h1 h2 h3 h4
      omega
    go_ret2
    exact ⟨⟨_, .inr ⟨h5, rfl⟩, .inr ⟨by omega, rfl⟩⟩, (by repeat (first | exact Ext.refl _ | assumption | refine Ext.drew ?_ | refine Ext.drewN ?_ _ | refine Ext.iter ?_ _ _ | refine Ext.alloc ?_ _ | refine Ext.setCell ?_ (by first | exact Nat.le_refl _ | (simp <;> omega)) _ | refine Ext.trans2 (by assumption) ?_))⟩

theorem set_c (m : Int) (w : World) :
    Calls Tryd.prog 127 #[.int .i64 m] w fun e w' => e = .returned (.string (modeSet m)) ∧ w = w' := by
  go_enter Tryd.func127, Tryd.ntmps127
  go_wp2
  · obtain rfl : m = 1 := by rename_i h; simpa using h
    go_ret
    exact ⟨rfl, rfl⟩
  · obtain rfl : m = 2 := by rename_i h; simpa using h
    go_ret
    exact ⟨rfl, rfl⟩
  · obtain rfl : m = 3 := by rename_i h; simpa using h
    go_ret
    exact ⟨rfl, rfl⟩
  · have : modeSet m = ByteArray.empty := by
      rename_i h1 h2 h3
      simp at h1 h2 h3
      simp [modeSet, h1, h2, h3]
    go_ret
    refine ⟨?_, rfl⟩
    rw [this]
    rfl

theorem ascii_of_all {s : ByteArray} (h : s.data.toList.all (fun c => decide (c.toNat < 128)) = true) : Ascii s := by
  intro j hj
  rw [← bget s j hj]
  simp only [List.all_eq_true, decide_eq_true_eq] at h
  exact h _ (List.getElem_mem _)
theorem modeSet_ascii (m : Int) : Ascii (modeSet m) := by
  unfold modeSet
  split
  · exact ascii_of_all (by decide)
  · split
    · exact ascii_of_all (by decide)
    · split
      · exact ascii_of_all (by decide)
      · exact ascii_of_all (by decide)
theorem modeSet_size (m : Int) : (modeSet m).size ≤ 45 := by
  unfold modeSet
  (repeat' split) <;> decide

theorem sCharacterValue_c (m b : Int) (w : World) :
    Calls Tryd.prog 153 #[.int .i64 m, .int .i64 b] w fun e w' => e = .returned (.int .i64 (charVal m b)) ∧ Ext w w' := by
  have hs := modeSet_size m
  by_cases h4 : m = 4
  · go_enter Tryd.func153, Tryd.ntmps153
    go_wp2_with (first | (go_at_call 98; (with_reducible refine (l01In_c _ _ _ _).mono ?_); rintro e w' ⟨⟨hP, rfl⟩ | ⟨hP, rfl⟩, rfl⟩ <;> go_prune))
    all_goals go_ret
    all_goals refine ⟨ret_int ?_, (by repeat (first | exact Ext.refl _ | assumption | refine Ext.drew ?_ | refine Ext.drewN ?_ _ | refine Ext.iter ?_ _ _ | refine Ext.alloc ?_ _ | refine Ext.setCell ?_ (by first | exact Nat.le_refl _ | (simp <;> omega)) _ | refine Ext.trans2 (by assumption) ?_))⟩
    all_goals unfold charVal
    all_goals first | (rw [if_neg (by omega), if_neg (by omega)]; done) | (rw [if_neg (by omega), if_pos (by omega)]; done) | (rw [if_pos (by omega)]; done) | skip
  · by_cases hr : (1 ≤ m ∧ m ≤ 4) ∧ 0 ≤ b ∧ b ≤ 255
    · go_enter Tryd.func153, Tryd.ntmps153
      go_wp2_with (first | (go_at_call 98; (with_reducible refine (l01In_c _ _ _ _).mono ?_); rintro e w' ⟨⟨hP, rfl⟩ | ⟨hP, rfl⟩, rfl⟩ <;> go_prune) | (go_at_call 127; (with_reducible refine (set_c _ _).mono ?_); rintro e w' ⟨rfl, rfl⟩))
      generalize hgs : modeSet m = cs at hs
      have HG := Lib.hid hgs; clear hgs
      go_loop [6] (fun i => ∃ k : Nat, k ≤ cs.size ∧ i = .int .i64 k ∧ ∀ j (h : j < cs.size), j < k → ((cs[j]'h).toNat : Int) ≠ b) (fun i => cs.size - (intOf i).toNat)
      case atStart => exact ⟨0, Nat.zero_le _, rfl, fun j h hj => absurd hj (Nat.not_lt_zero _)⟩
      case round =>
        obtain ⟨k, hk, rfl, hno⟩ := hrel
        have HN := Lib.hid hno; clear hno
        by_cases hlt : k < cs.size
        · have h8 : (cs[k]'hlt).toNat < 256 := UInt8.toNat_lt _
          go_wp2
          · have hb : ((cs[k]'hlt).toNat : Int) = b := by simpa using (by assumption : (((cs[k]'hlt).toNat : Int) == b) = true)
            go_ret
            exact ⟨ret_int (by unfold charVal; rw [if_neg (by omega), if_neg (by omega), HG.out]; exact (idxB_found hlt hb HN.out).symm), (by repeat (first | exact Ext.refl _ | assumption | refine Ext.drew ?_ | refine Ext.drewN ?_ _ | refine Ext.iter ?_ _ _ | refine Ext.alloc ?_ _ | refine Ext.setCell ?_ (by first | exact Nat.le_refl _ | (simp <;> omega)) _ | refine Ext.trans2 (by assumption) ?_))⟩
          · have hb : ((cs[k]'hlt).toNat : Int) ≠ b := by simpa using (by assumption : (((cs[k]'hlt).toNat : Int) == b) = false)
            go_round
            case rel => exact ⟨k + 1, hlt, by go_num, fun j h hj => by
              by_cases e : j = k
              · subst e; exact hb
              · exact HN.out j h (by omega)⟩
            case measure => simp [intOf]; omega
        · go_wp2
          go_ret
          exact ⟨ret_int (by unfold charVal; rw [if_neg (by omega), if_neg (by omega), HG.out]; exact (idxB_none fun j h => HN.out j h (by omega)).symm), (by repeat (first | exact Ext.refl _ | assumption | refine Ext.drew ?_ | refine Ext.drewN ?_ _ | refine Ext.iter ?_ _ _ | refine Ext.alloc ?_ _ | refine Ext.setCell ?_ (by first | exact Nat.le_refl _ | (simp <;> omega)) _ | refine Ext.trans2 (by assumption) ?_))⟩
    · go_enter Tryd.func153, Tryd.ntmps153
      go_wp2_with (first | (go_at_call 98; (with_reducible refine (l01In_c _ _ _ _).mono ?_); rintro e w' ⟨⟨hP, rfl⟩ | ⟨hP, rfl⟩, rfl⟩ <;> go_prune))
      all_goals go_ret
      all_goals refine ⟨ret_int ?_, (by repeat (first | exact Ext.refl _ | assumption | refine Ext.drew ?_ | refine Ext.drewN ?_ _ | refine Ext.iter ?_ _ _ | refine Ext.alloc ?_ _ | refine Ext.setCell ?_ (by first | exact Nat.le_refl _ | (simp <;> omega)) _ | refine Ext.trans2 (by assumption) ?_))⟩
      all_goals unfold charVal
      all_goals (rw [if_pos (by omega)])

def AllIn (m : Int) (s : ByteArray) : Prop := ∀ j (h : j < s.size), 0 ≤ charVal m (s[j]'h).toNat
theorem charVal_listed {m b : Int} (hm : 1 ≤ m ∧ m ≤ 3) (hb : 0 ≤ b ∧ b ≤ 255) : charVal m b = idxB (modeSet m) b := by
  unfold charVal
  rw [if_neg (by omega), if_neg (by omega)]
theorem wrapByte (c : UInt8) : IntKind.i64.wrap (c.toNat : Int) = c.toNat := by
  have := UInt8.toNat_lt c
  exact IntWalk.i64_in _ (by omega)
end Go.Proofs.YthpnkcamjcohgaaDoor

/-! Contracts of chapter 9, second part: widths, whole segments. -/
namespace Go.Proofs.YthpnkcamjcohgaaDoor
set_option linter.unusedVariables false
set_option linter.unusedSimpArgs false
open Go.RowKit

theorem listedGroup_c (cs : ByteArray) (p : Option Addr) (n c : Nat) (w : World) (hn : n ≤ 1000) :
    Calls Tryd.prog 228 #[.agg #[.string cs, .slice p n c]] w fun e w' => e = .returned (.int .i64 n) ∧ Ext w w' := by
  go_enter Tryd.func228, Tryd.ntmps228
  go_wp2
  go_ret
  exact ⟨rfl, (by repeat (first | exact Ext.refl _ | assumption | refine Ext.drew ?_ | refine Ext.drewN ?_ _ | refine Ext.iter ?_ _ _ | refine Ext.alloc ?_ _ | refine Ext.setCell ?_ (by first | exact Nat.le_refl _ | (simp <;> omega)) _ | refine Ext.trans2 (by assumption) ?_))⟩
theorem plainGroup_c (w : World) : Calls Tryd.prog 233 #[.agg #[]] w fun e w' => e = .returned (.int .i64 1) ∧ Ext w w' := by
  go_enter Tryd.func233, Tryd.ntmps233
  go_wp2
  go_ret
  exact ⟨rfl, (by repeat (first | exact Ext.refl _ | assumption | refine Ext.drew ?_ | refine Ext.drewN ?_ _ | refine Ext.iter ?_ _ _ | refine Ext.alloc ?_ _ | refine Ext.setCell ?_ (by first | exact Nat.le_refl _ | (simp <;> omega)) _ | refine Ext.trans2 (by assumption) ?_))⟩
theorem plainWidth_c (g : Int) (w : World) : Calls Tryd.prog 235 #[.agg #[], .int .i64 g] w fun e w' => e = .returned (.int .i64 8) ∧ Ext w w' := by
  go_enter Tryd.func235, Tryd.ntmps235
  go_wp2
  go_ret
  exact ⟨rfl, (by repeat (first | exact Ext.refl _ | assumption | refine Ext.drew ?_ | refine Ext.drewN ?_ _ | refine Ext.iter ?_ _ _ | refine Ext.alloc ?_ _ | refine Ext.setCell ?_ (by first | exact Nat.le_refl _ | (simp <;> omega)) _ | refine Ext.trans2 (by assumption) ?_))⟩
theorem listedWidth_c (cs : ByteArray) (p : Option Addr) (ws : List Int) (n c : Nat) (g : Int) (w : World) (hi : IntsAt w p ws) (hn : n = ws.length) (hl : ws.length ≤ 1000) (hg : 1 ≤ g ∧ g ≤ ws.length) :
    Calls Tryd.prog 230 #[.agg #[.string cs, .slice p n c], .int .i64 g] w fun e w' => e = .returned (.int .i64 (ws.getD (g - 1).toNat 0)) ∧ Ext w w' := by
  subst hn
  obtain ⟨b, o, rfl, hlt, hc⟩ := hi (g - 1).toNat (by omega)
  obtain ⟨k, hk⟩ : ∃ k : Nat, g = k + 1 := ⟨(g - 1).toNat, by omega⟩
  subst hk
  have e : ((k : Int) + 1 - 1).toNat = k := by omega
  rw [e] at hc ⊢
  clear e hi
  have hkl : k < ws.length := by omega
  go_enter Tryd.func230, Tryd.ntmps230
  go_wp2
  go_ret
  refine ⟨ret_int ?_, (by repeat (first | exact Ext.refl _ | assumption | refine Ext.drew ?_ | refine Ext.drewN ?_ _ | refine Ext.iter ?_ _ _ | refine Ext.alloc ?_ _ | refine Ext.setCell ?_ (by first | exact Nat.le_refl _ | (simp <;> omega)) _ | refine Ext.trans2 (by assumption) ?_))⟩
  simp [hkl]

def textW (m n : Int) : Int :=
  if m = 1 then n / 3 * 10 + (if n % 3 = 0 then 0 else if n % 3 = 1 then 4 else 7) else if m = 2 then n / 2 * 11 + (if n % 2 = 0 then 0 else 6) else if m = 3 then n * 5 else n * 8

theorem iTextWidth4_c (m n : Int) (w : World) (hm : ¬ (1 ≤ m ∧ m ≤ 3)) (hn : 0 ≤ n ∧ n ≤ 1000000) :
    Calls Tryd.prog 171 #[.iface 241 (.agg #[]), .int .i64 n] w fun e w' => e = .returned (.int .i64 (n * 8)) ∧ Ext w w' := by
  have h1 : IntKind.i64.wrap n = n := IntWalk.i64_in _ (by omega)
  have h2 : IntKind.i64.wrap (n * 8) = n * 8 := IntWalk.i64_in _ (by omega)
  have hna : ∀  w, (nilAhead 377 241 (.agg #[]) (nthInv Tryd.f171 2)).run Tryd.prog w = .ok (some false) w := fun  w => by kernel_rfl
  conv at hna => intro  w; lhs; arg 2; arg 4; whnf
  have hme : ∀  w, (method 377 241 (.agg #[]) (nthInv Tryd.f171 2)).run Tryd.prog w = .ok (235, (.agg #[])) w := fun  w => by kernel_rfl
  conv at hme => intro  w; lhs; arg 2; arg 4; whnf
  go_enter Tryd.func171, Tryd.ntmps171
  go_wp2
  refine wp_region_canon (fun w' => Ext w w') [(0, true), (1, true), (4, true), (5, true), (7, true), (8, true), (9, true), (2, false), (3, true), (6, false), (10, false), (11, true), (12, true)] (by kernel_rfl) (by kernel_rfl) (by decide) (by kernel_rfl) ?_ ?_
  · exact (by repeat (first | exact Ext.refl _ | assumption | refine Ext.drew ?_ | refine Ext.drewN ?_ _ | refine Ext.iter ?_ _ _ | refine Ext.alloc ?_ _ | refine Ext.setCell ?_ (by first | exact Nat.le_refl _ | (simp <;> omega)) _ | refine Ext.trans2 (by assumption) ?_))
  refine canon_intro fun ops eo => ?_
  have ho0 := canon_at eo 0 rfl
  have ho1 := canon_at eo 1 rfl
  have ho2 := canon_at eo 2 rfl
  have ho3 := canon_at eo 3 rfl
  have ho4 := canon_at eo 4 rfl
  have ho5 := canon_at eo 5 rfl
  have ho6 := canon_at eo 6 rfl
  have ho7 := canon_at eo 7 rfl
  have ho8 := canon_at eo 8 rfl
  have ho9 := canon_at eo 9 rfl
  have ho10 := canon_at eo 10 rfl
  have ho11 := canon_at eo 11 rfl
  have ho12 := canon_at eo 12 rfl
  clear eo
  all_goals (apply canon_st ho0 rfl; (intro w2 hS; first | (go_simp; first | done | rfl) | rfl | (obtain ⟨hc, hf, hk, hz⟩ := ecell hS; go_simp; first | done | rfl)); simp only [Act.put, List.setIfInBounds_toArray, List.set_cons_zero, List.set_cons_succ])
  all_goals clear ho0
  all_goals (apply canon_st ho1 rfl; (intro w2 hS; first | (go_simp; first | done | rfl) | rfl | (obtain ⟨hc, hf, hk, hz⟩ := ecell hS; go_simp; first | done | rfl)); simp only [Act.put, List.setIfInBounds_toArray, List.set_cons_zero, List.set_cons_succ])
  all_goals clear ho1
  all_goals (apply canon_st ho4 rfl; (intro w2 hS; first | (go_simp; first | done | rfl) | rfl | (obtain ⟨hc, hf, hk, hz⟩ := ecell hS; go_simp; first | done | rfl)); simp only [Act.put, List.setIfInBounds_toArray, List.set_cons_zero, List.set_cons_succ])
  all_goals clear ho4
  all_goals (apply canon_st ho5 rfl; (intro w2 hS; first | (go_simp; first | done | rfl) | rfl | (obtain ⟨hc, hf, hk, hz⟩ := ecell hS; go_simp; first | done | rfl)); simp only [Act.put, List.setIfInBounds_toArray, List.set_cons_zero, List.set_cons_succ])
  all_goals clear ho5
  all_goals (apply canon_st ho7 rfl; (intro w2 hS; first | (go_simp; first | done | rfl) | rfl | (obtain ⟨hc, hf, hk, hz⟩ := ecell hS; go_simp; first | done | rfl)); simp only [Act.put, List.setIfInBounds_toArray, List.set_cons_zero, List.set_cons_succ])
  all_goals clear ho7
  all_goals (apply canon_st ho8 rfl; (intro w2 hS; first | (go_simp; first | done | rfl) | rfl | (obtain ⟨hc, hf, hk, hz⟩ := ecell hS; go_simp; first | done | rfl)); simp only [Act.put, List.setIfInBounds_toArray, List.set_cons_zero, List.set_cons_succ])
  all_goals clear ho8
  all_goals (apply canon_st ho9 rfl; (intro w2 hS; first | (go_simp; first | done | rfl) | rfl | (obtain ⟨hc, hf, hk, hz⟩ := ecell hS; go_simp; first | done | rfl)); simp only [Act.put, List.setIfInBounds_toArray, List.set_cons_zero, List.set_cons_succ])
  all_goals clear ho9
  all_goals first | (refine canon_inv ho2 (nthInv Tryd.f171 0) rfl 241 233 Tryd.func233 ⟨_, rfl, (by kernel_rfl), (by kernel_rfl), (by kernel_rfl), ?_⟩; simp only [List.map_toArray, List.map_cons, List.map_nil, List.append_toArray, List.cons_append, List.nil_append, Act.eval]; go_simp; (with_reducible refine (plainGroup_c _).mono ?_); rintro e w1 ⟨rfl, hb⟩; (obtain ⟨hc, hf, hk, hz⟩ := ecell hb; try (have hx := Ext.trans2 hb (by assumption); obtain ⟨hcx, hfx, hkx, hzx⟩ := ecell hx)); (try simp at hz); (refine ⟨(by repeat (first | exact Ext.refl _ | assumption | refine Ext.drew ?_ | refine Ext.drewN ?_ _ | refine Ext.iter ?_ _ _ | refine Ext.alloc ?_ _ | refine Ext.setCell ?_ (by first | exact Nat.le_refl _ | (simp <;> omega)) _ | refine Ext.trans2 (by assumption) ?_)), ?_⟩; go_simp)) | (refine canon_inv ho2 (nthInv Tryd.f171 2) rfl 241 235 Tryd.func235 ⟨_, rfl, (by kernel_rfl), (by kernel_rfl), (by kernel_rfl), ?_⟩; simp only [List.map_toArray, List.map_cons, List.map_nil, List.append_toArray, List.cons_append, List.nil_append, Act.eval]; go_simp; (with_reducible refine (plainWidth_c _ _).mono ?_); rintro e w1 ⟨rfl, hb⟩; (obtain ⟨hc, hf, hk, hz⟩ := ecell hb; try (have hx := Ext.trans2 hb (by assumption); obtain ⟨hcx, hfx, hkx, hzx⟩ := ecell hx)); (try simp at hz); (refine ⟨(by repeat (first | exact Ext.refl _ | assumption | refine Ext.drew ?_ | refine Ext.drewN ?_ _ | refine Ext.iter ?_ _ _ | refine Ext.alloc ?_ _ | refine Ext.setCell ?_ (by first | exact Nat.le_refl _ | (simp <;> omega)) _ | refine Ext.trans2 (by assumption) ?_)), ?_⟩; go_simp))
  all_goals clear ho2
  all_goals (apply canon_st ho3 rfl; (intro w2 hS; first | (go_simp; first | done | rfl) | rfl | (obtain ⟨hc, hf, hk, hz⟩ := ecell hS; go_simp; first | done | rfl)); simp only [Act.put, List.setIfInBounds_toArray, List.set_cons_zero, List.set_cons_succ])
  all_goals clear ho3
  all_goals first | (refine canon_inv ho6 (nthInv Tryd.f171 0) rfl 241 233 Tryd.func233 ⟨_, rfl, (by kernel_rfl), (by kernel_rfl), (by kernel_rfl), ?_⟩; simp only [List.map_toArray, List.map_cons, List.map_nil, List.append_toArray, List.cons_append, List.nil_append, Act.eval]; go_simp; (with_reducible refine (plainGroup_c _).mono ?_); rintro e w1 ⟨rfl, hb⟩; (obtain ⟨hc, hf, hk, hz⟩ := ecell hb; try (have hx := Ext.trans2 hb (by assumption); obtain ⟨hcx, hfx, hkx, hzx⟩ := ecell hx)); (try simp at hz); (refine ⟨(by repeat (first | exact Ext.refl _ | assumption | refine Ext.drew ?_ | refine Ext.drewN ?_ _ | refine Ext.iter ?_ _ _ | refine Ext.alloc ?_ _ | refine Ext.setCell ?_ (by first | exact Nat.le_refl _ | (simp <;> omega)) _ | refine Ext.trans2 (by assumption) ?_)), ?_⟩; go_simp)) | (refine canon_inv ho6 (nthInv Tryd.f171 2) rfl 241 235 Tryd.func235 ⟨_, rfl, (by kernel_rfl), (by kernel_rfl), (by kernel_rfl), ?_⟩; simp only [List.map_toArray, List.map_cons, List.map_nil, List.append_toArray, List.cons_append, List.nil_append, Act.eval]; go_simp; (with_reducible refine (plainWidth_c _ _).mono ?_); rintro e w1 ⟨rfl, hb⟩; (obtain ⟨hc, hf, hk, hz⟩ := ecell hb; try (have hx := Ext.trans2 hb (by assumption); obtain ⟨hcx, hfx, hkx, hzx⟩ := ecell hx)); (try simp at hz); (refine ⟨(by repeat (first | exact Ext.refl _ | assumption | refine Ext.drew ?_ | refine Ext.drewN ?_ _ | refine Ext.iter ?_ _ _ | refine Ext.alloc ?_ _ | refine Ext.setCell ?_ (by first | exact Nat.le_refl _ | (simp <;> omega)) _ | refine Ext.trans2 (by assumption) ?_)), ?_⟩; go_simp))
  all_goals clear ho6
  all_goals first | (refine canon_inv ho10 (nthInv Tryd.f171 0) rfl 241 233 Tryd.func233 ⟨_, rfl, (by kernel_rfl), (by kernel_rfl), (by kernel_rfl), ?_⟩; simp only [List.map_toArray, List.map_cons, List.map_nil, List.append_toArray, List.cons_append, List.nil_append, Act.eval]; go_simp; (with_reducible refine (plainGroup_c _).mono ?_); rintro e w1 ⟨rfl, hb⟩; (obtain ⟨hc, hf, hk, hz⟩ := ecell hb; try (have hx := Ext.trans2 hb (by assumption); obtain ⟨hcx, hfx, hkx, hzx⟩ := ecell hx)); (try simp at hz); (refine ⟨(by repeat (first | exact Ext.refl _ | assumption | refine Ext.drew ?_ | refine Ext.drewN ?_ _ | refine Ext.iter ?_ _ _ | refine Ext.alloc ?_ _ | refine Ext.setCell ?_ (by first | exact Nat.le_refl _ | (simp <;> omega)) _ | refine Ext.trans2 (by assumption) ?_)), ?_⟩; go_simp)) | (refine canon_inv ho10 (nthInv Tryd.f171 2) rfl 241 235 Tryd.func235 ⟨_, rfl, (by kernel_rfl), (by kernel_rfl), (by kernel_rfl), ?_⟩; simp only [List.map_toArray, List.map_cons, List.map_nil, List.append_toArray, List.cons_append, List.nil_append, Act.eval]; go_simp; (with_reducible refine (plainWidth_c _ _).mono ?_); rintro e w1 ⟨rfl, hb⟩; (obtain ⟨hc, hf, hk, hz⟩ := ecell hb; try (have hx := Ext.trans2 hb (by assumption); obtain ⟨hcx, hfx, hkx, hzx⟩ := ecell hx)); (try simp at hz); (refine ⟨(by repeat (first | exact Ext.refl _ | assumption | refine Ext.drew ?_ | refine Ext.drewN ?_ _ | refine Ext.iter ?_ _ _ | refine Ext.alloc ?_ _ | refine Ext.setCell ?_ (by first | exact Nat.le_refl _ | (simp <;> omega)) _ | refine Ext.trans2 (by assumption) ?_)), ?_⟩; go_simp))
  all_goals clear ho10
  all_goals (apply canon_st ho11 rfl; (intro w2 hS; first | (go_simp; first | done | rfl) | rfl | (obtain ⟨hc, hf, hk, hz⟩ := ecell hS; go_simp; first | done | rfl)); simp only [Act.put, List.setIfInBounds_toArray, List.set_cons_zero, List.set_cons_succ])
  all_goals clear ho11
  all_goals (apply canon_st ho12 rfl; (intro w2 hS; first | (go_simp; first | done | rfl) | rfl | (obtain ⟨hc, hf, hk, hz⟩ := ecell hS; go_simp; first | done | rfl)); simp only [Act.put, List.setIfInBounds_toArray, List.set_cons_zero, List.set_cons_succ])
  all_goals clear ho12
  all_goals refine canon_done (NoPanic.normal ?_)
  clear h1 h2
  go_wp2_with (first | ((with_reducible refine wpList_invoke_of (nthInv Tryd.f171 0) ?_ 241 233 Tryd.func233 ?_); rfl; refine ⟨_, rfl, (by kernel_rfl), (by kernel_rfl), (by kernel_rfl), ?_⟩; simp only [List.map_toArray, List.map_cons, List.map_nil, List.append_toArray, List.cons_append, List.nil_append, Act.eval]; go_simp) | ((with_reducible refine wpList_invoke_of (nthInv Tryd.f171 2) ?_ 241 235 Tryd.func235 ?_); rfl; refine ⟨_, rfl, (by kernel_rfl), (by kernel_rfl), (by kernel_rfl), ?_⟩; simp only [List.map_toArray, List.map_cons, List.map_nil, List.append_toArray, List.cons_append, List.nil_append, Act.eval]; go_simp) | (go_at_call 233; (with_reducible refine (plainGroup_c _).mono ?_); rintro e w1 ⟨rfl, hb⟩; (obtain ⟨hc, hf, hk, hz⟩ := ecell hb; try (have hx := Ext.trans2 hb (by assumption); obtain ⟨hcx, hfx, hkx, hzx⟩ := ecell hx)); try simp at hz) | (go_at_call 235; (with_reducible refine (plainWidth_c _ _).mono ?_); rintro e w1 ⟨rfl, hb⟩; (obtain ⟨hc, hf, hk, hz⟩ := ecell hb; try (have hx := Ext.trans2 hb (by assumption); obtain ⟨hcx, hfx, hkx, hzx⟩ := ecell hx)); try simp at hz))
  go_ret
  exact ⟨rfl, (by repeat (first | exact Ext.refl _ | assumption | refine Ext.drew ?_ | refine Ext.drewN ?_ _ | refine Ext.iter ?_ _ _ | refine Ext.alloc ?_ _ | refine Ext.setCell ?_ (by first | exact Nat.le_refl _ | (simp <;> omega)) _ | refine Ext.trans2 (by assumption) ?_))⟩

theorem iTextWidth1_c (n : Int) (cs : ByteArray) (p : Option Addr) (w : World) (hi : IntsAt w p [4, 7, 10]) (hn : 0 ≤ n ∧ n ≤ 1000000) :
    Calls Tryd.prog 171 #[.iface 239 (.agg #[.string cs, .slice p 3 3]), .int .i64 n] w fun e w' => e = .returned (.int .i64 (textW 1 n)) ∧ Ext w w' := by
  have h1 : IntKind.i64.wrap (n.tdiv 3) = n / 3 := by rw [Int.tdiv_eq_ediv_of_nonneg (by omega)]; exact IntWalk.i64_in _ (by omega)
  have h2 : IntKind.i64.wrap (n / 3 * 10) = n / 3 * 10 := IntWalk.i64_in _ (by omega)
  have hv : ∀ g : Int, 1 ≤ g ∧ g ≤ 3 → 0 ≤ ([4, 7, 10] : List Int).getD (g - 1).toNat 0 ∧ ([4, 7, 10] : List Int).getD (g - 1).toNat 0 ≤ 20 := by
    intro g hg
    obtain ⟨k, hk⟩ : ∃ k : Nat, (g - 1).toNat = k := ⟨_, rfl⟩
    have : k < 3 := by omega
    rw [hk]
    match k, this with
    | 0, _ => decide
    | 1, _ => decide
    | 2, _ => decide
  have hna : ∀  w, (nilAhead 377 239 (.agg #[.string cs, .slice p 3 3]) (nthInv Tryd.f171 2)).run Tryd.prog w = .ok (some false) w := fun  w => by kernel_rfl
  conv at hna => intro  w; lhs; arg 2; arg 4; whnf
  have hme : ∀  w, (method 377 239 (.agg #[.string cs, .slice p 3 3]) (nthInv Tryd.f171 2)).run Tryd.prog w = .ok (230, (.agg #[.string cs, .slice p 3 3])) w := fun  w => by kernel_rfl
  conv at hme => intro  w; lhs; arg 2; arg 4; whnf
  go_enter Tryd.func171, Tryd.ntmps171
  go_wp2
  refine wp_region_canon (fun w' => Ext w w') [(0, true), (1, true), (4, true), (5, true), (7, true), (8, true), (9, true), (2, false), (3, true), (6, false), (10, false), (11, true), (12, true)] (by kernel_rfl) (by kernel_rfl) (by decide) (by kernel_rfl) ?_ ?_
  · exact (by repeat (first | exact Ext.refl _ | assumption | refine Ext.drew ?_ | refine Ext.drewN ?_ _ | refine Ext.iter ?_ _ _ | refine Ext.alloc ?_ _ | refine Ext.setCell ?_ (by first | exact Nat.le_refl _ | (simp <;> omega)) _ | refine Ext.trans2 (by assumption) ?_))
  refine canon_intro fun ops eo => ?_
  have ho0 := canon_at eo 0 rfl
  have ho1 := canon_at eo 1 rfl
  have ho2 := canon_at eo 2 rfl
  have ho3 := canon_at eo 3 rfl
  have ho4 := canon_at eo 4 rfl
  have ho5 := canon_at eo 5 rfl
  have ho6 := canon_at eo 6 rfl
  have ho7 := canon_at eo 7 rfl
  have ho8 := canon_at eo 8 rfl
  have ho9 := canon_at eo 9 rfl
  have ho10 := canon_at eo 10 rfl
  have ho11 := canon_at eo 11 rfl
  have ho12 := canon_at eo 12 rfl
  clear eo
  all_goals (apply canon_st ho0 rfl; (intro w2 hS; first | (go_simp; first | done | rfl) | rfl | (obtain ⟨hc, hf, hk, hz⟩ := ecell hS; go_simp; first | done | rfl)); simp only [Act.put, List.setIfInBounds_toArray, List.set_cons_zero, List.set_cons_succ])
  all_goals clear ho0
  all_goals (apply canon_st ho1 rfl; (intro w2 hS; first | (go_simp; first | done | rfl) | rfl | (obtain ⟨hc, hf, hk, hz⟩ := ecell hS; go_simp; first | done | rfl)); simp only [Act.put, List.setIfInBounds_toArray, List.set_cons_zero, List.set_cons_succ])
  all_goals clear ho1
  all_goals (apply canon_st ho4 rfl; (intro w2 hS; first | (go_simp; first | done | rfl) | rfl | (obtain ⟨hc, hf, hk, hz⟩ := ecell hS; go_simp; first | done | rfl)); simp only [Act.put, List.setIfInBounds_toArray, List.set_cons_zero, List.set_cons_succ])
  all_goals clear ho4
  all_goals (apply canon_st ho5 rfl; (intro w2 hS; first | (go_simp; first | done | rfl) | rfl | (obtain ⟨hc, hf, hk, hz⟩ := ecell hS; go_simp; first | done | rfl)); simp only [Act.put, List.setIfInBounds_toArray, List.set_cons_zero, List.set_cons_succ])
  all_goals clear ho5
  all_goals (apply canon_st ho7 rfl; (intro w2 hS; first | (go_simp; first | done | rfl) | rfl | (obtain ⟨hc, hf, hk, hz⟩ := ecell hS; go_simp; first | done | rfl)); simp only [Act.put, List.setIfInBounds_toArray, List.set_cons_zero, List.set_cons_succ])
  all_goals clear ho7
  all_goals (apply canon_st ho8 rfl; (intro w2 hS; first | (go_simp; first | done | rfl) | rfl | (obtain ⟨hc, hf, hk, hz⟩ := ecell hS; go_simp; first | done | rfl)); simp only [Act.put, List.setIfInBounds_toArray, List.set_cons_zero, List.set_cons_succ])
  all_goals clear ho8
  all_goals (apply canon_st ho9 rfl; (intro w2 hS; first | (go_simp; first | done | rfl) | rfl | (obtain ⟨hc, hf, hk, hz⟩ := ecell hS; go_simp; first | done | rfl)); simp only [Act.put, List.setIfInBounds_toArray, List.set_cons_zero, List.set_cons_succ])
  all_goals clear ho9
  all_goals first | (refine canon_inv ho2 (nthInv Tryd.f171 0) rfl 239 228 Tryd.func228 ⟨_, rfl, (by kernel_rfl), (by kernel_rfl), (by kernel_rfl), ?_⟩; simp only [List.map_toArray, List.map_cons, List.map_nil, List.append_toArray, List.cons_append, List.nil_append, Act.eval]; go_simp; (with_reducible refine (listedGroup_c _ _ _ _ _ (by omega)).mono ?_); rintro e w1 ⟨rfl, hb⟩; (obtain ⟨hc, hf, hk, hz⟩ := ecell hb; try (have hx := Ext.trans2 hb (by assumption); obtain ⟨hcx, hfx, hkx, hzx⟩ := ecell hx)); (try simp at hz); (refine ⟨(by repeat (first | exact Ext.refl _ | assumption | refine Ext.drew ?_ | refine Ext.drewN ?_ _ | refine Ext.iter ?_ _ _ | refine Ext.alloc ?_ _ | refine Ext.setCell ?_ (by first | exact Nat.le_refl _ | (simp <;> omega)) _ | refine Ext.trans2 (by assumption) ?_)), ?_⟩; go_simp)) | (refine canon_inv ho2 (nthInv Tryd.f171 2) rfl 239 230 Tryd.func230 ⟨_, rfl, (by kernel_rfl), (by kernel_rfl), (by kernel_rfl), ?_⟩; simp only [List.map_toArray, List.map_cons, List.map_nil, List.append_toArray, List.cons_append, List.nil_append, Act.eval]; go_simp; (with_reducible refine (listedWidth_c _ _ [4, 7, 10] 3 3 3 _ (hi.ext (by repeat (first | exact Ext.refl _ | assumption | refine Ext.drew ?_ | refine Ext.drewN ?_ _ | refine Ext.iter ?_ _ _ | refine Ext.alloc ?_ _ | refine Ext.setCell ?_ (by first | exact Nat.le_refl _ | (simp <;> omega)) _ | refine Ext.trans2 (by assumption) ?_))) rfl (by decide) (by decide)).mono ?_); rintro e w1 ⟨rfl, hb⟩; (obtain ⟨hc, hf, hk, hz⟩ := ecell hb; try (have hx := Ext.trans2 hb (by assumption); obtain ⟨hcx, hfx, hkx, hzx⟩ := ecell hx)); (try simp at hz); (refine ⟨(by repeat (first | exact Ext.refl _ | assumption | refine Ext.drew ?_ | refine Ext.drewN ?_ _ | refine Ext.iter ?_ _ _ | refine Ext.alloc ?_ _ | refine Ext.setCell ?_ (by first | exact Nat.le_refl _ | (simp <;> omega)) _ | refine Ext.trans2 (by assumption) ?_)), ?_⟩; go_simp))
  all_goals clear ho2
  all_goals (apply canon_st ho3 rfl; (intro w2 hS; first | (go_simp; first | done | rfl) | rfl | (obtain ⟨hc, hf, hk, hz⟩ := ecell hS; go_simp; first | done | rfl)); simp only [Act.put, List.setIfInBounds_toArray, List.set_cons_zero, List.set_cons_succ])
  all_goals clear ho3
  all_goals first | (refine canon_inv ho6 (nthInv Tryd.f171 0) rfl 239 228 Tryd.func228 ⟨_, rfl, (by kernel_rfl), (by kernel_rfl), (by kernel_rfl), ?_⟩; simp only [List.map_toArray, List.map_cons, List.map_nil, List.append_toArray, List.cons_append, List.nil_append, Act.eval]; go_simp; (with_reducible refine (listedGroup_c _ _ _ _ _ (by omega)).mono ?_); rintro e w1 ⟨rfl, hb⟩; (obtain ⟨hc, hf, hk, hz⟩ := ecell hb; try (have hx := Ext.trans2 hb (by assumption); obtain ⟨hcx, hfx, hkx, hzx⟩ := ecell hx)); (try simp at hz); (refine ⟨(by repeat (first | exact Ext.refl _ | assumption | refine Ext.drew ?_ | refine Ext.drewN ?_ _ | refine Ext.iter ?_ _ _ | refine Ext.alloc ?_ _ | refine Ext.setCell ?_ (by first | exact Nat.le_refl _ | (simp <;> omega)) _ | refine Ext.trans2 (by assumption) ?_)), ?_⟩; go_simp)) | (refine canon_inv ho6 (nthInv Tryd.f171 2) rfl 239 230 Tryd.func230 ⟨_, rfl, (by kernel_rfl), (by kernel_rfl), (by kernel_rfl), ?_⟩; simp only [List.map_toArray, List.map_cons, List.map_nil, List.append_toArray, List.cons_append, List.nil_append, Act.eval]; go_simp; (with_reducible refine (listedWidth_c _ _ [4, 7, 10] 3 3 3 _ (hi.ext (by repeat (first | exact Ext.refl _ | assumption | refine Ext.drew ?_ | refine Ext.drewN ?_ _ | refine Ext.iter ?_ _ _ | refine Ext.alloc ?_ _ | refine Ext.setCell ?_ (by first | exact Nat.le_refl _ | (simp <;> omega)) _ | refine Ext.trans2 (by assumption) ?_))) rfl (by decide) (by decide)).mono ?_); rintro e w1 ⟨rfl, hb⟩; (obtain ⟨hc, hf, hk, hz⟩ := ecell hb; try (have hx := Ext.trans2 hb (by assumption); obtain ⟨hcx, hfx, hkx, hzx⟩ := ecell hx)); (try simp at hz); (refine ⟨(by repeat (first | exact Ext.refl _ | assumption | refine Ext.drew ?_ | refine Ext.drewN ?_ _ | refine Ext.iter ?_ _ _ | refine Ext.alloc ?_ _ | refine Ext.setCell ?_ (by first | exact Nat.le_refl _ | (simp <;> omega)) _ | refine Ext.trans2 (by assumption) ?_)), ?_⟩; go_simp))
  all_goals clear ho6
  all_goals first | (refine canon_inv ho10 (nthInv Tryd.f171 0) rfl 239 228 Tryd.func228 ⟨_, rfl, (by kernel_rfl), (by kernel_rfl), (by kernel_rfl), ?_⟩; simp only [List.map_toArray, List.map_cons, List.map_nil, List.append_toArray, List.cons_append, List.nil_append, Act.eval]; go_simp; (with_reducible refine (listedGroup_c _ _ _ _ _ (by omega)).mono ?_); rintro e w1 ⟨rfl, hb⟩; (obtain ⟨hc, hf, hk, hz⟩ := ecell hb; try (have hx := Ext.trans2 hb (by assumption); obtain ⟨hcx, hfx, hkx, hzx⟩ := ecell hx)); (try simp at hz); (refine ⟨(by repeat (first | exact Ext.refl _ | assumption | refine Ext.drew ?_ | refine Ext.drewN ?_ _ | refine Ext.iter ?_ _ _ | refine Ext.alloc ?_ _ | refine Ext.setCell ?_ (by first | exact Nat.le_refl _ | (simp <;> omega)) _ | refine Ext.trans2 (by assumption) ?_)), ?_⟩; go_simp)) | (refine canon_inv ho10 (nthInv Tryd.f171 2) rfl 239 230 Tryd.func230 ⟨_, rfl, (by kernel_rfl), (by kernel_rfl), (by kernel_rfl), ?_⟩; simp only [List.map_toArray, List.map_cons, List.map_nil, List.append_toArray, List.cons_append, List.nil_append, Act.eval]; go_simp; (with_reducible refine (listedWidth_c _ _ [4, 7, 10] 3 3 3 _ (hi.ext (by repeat (first | exact Ext.refl _ | assumption | refine Ext.drew ?_ | refine Ext.drewN ?_ _ | refine Ext.iter ?_ _ _ | refine Ext.alloc ?_ _ | refine Ext.setCell ?_ (by first | exact Nat.le_refl _ | (simp <;> omega)) _ | refine Ext.trans2 (by assumption) ?_))) rfl (by decide) (by decide)).mono ?_); rintro e w1 ⟨rfl, hb⟩; (obtain ⟨hc, hf, hk, hz⟩ := ecell hb; try (have hx := Ext.trans2 hb (by assumption); obtain ⟨hcx, hfx, hkx, hzx⟩ := ecell hx)); (try simp at hz); (refine ⟨(by repeat (first | exact Ext.refl _ | assumption | refine Ext.drew ?_ | refine Ext.drewN ?_ _ | refine Ext.iter ?_ _ _ | refine Ext.alloc ?_ _ | refine Ext.setCell ?_ (by first | exact Nat.le_refl _ | (simp <;> omega)) _ | refine Ext.trans2 (by assumption) ?_)), ?_⟩; go_simp))
  all_goals clear ho10
  all_goals (apply canon_st ho11 rfl; (intro w2 hS; first | (go_simp; first | done | rfl) | rfl | (obtain ⟨hc, hf, hk, hz⟩ := ecell hS; go_simp; first | done | rfl)); simp only [Act.put, List.setIfInBounds_toArray, List.set_cons_zero, List.set_cons_succ])
  all_goals clear ho11
  all_goals (apply canon_st ho12 rfl; (intro w2 hS; first | (go_simp; first | done | rfl) | rfl | (obtain ⟨hc, hf, hk, hz⟩ := ecell hS; go_simp; first | done | rfl)); simp only [Act.put, List.setIfInBounds_toArray, List.set_cons_zero, List.set_cons_succ])
  all_goals clear ho12
  all_goals refine canon_done (NoPanic.normal ?_)
  all_goals clear h1 h2
  all_goals have HV := Lib.hid hv; clear hv
  all_goals go_wp2_with (first | ((with_reducible refine wpList_invoke_of (nthInv Tryd.f171 0) ?_ 239 228 Tryd.func228 ?_); rfl; refine ⟨_, rfl, (by kernel_rfl), (by kernel_rfl), (by kernel_rfl), ?_⟩; simp only [List.map_toArray, List.map_cons, List.map_nil, List.append_toArray, List.cons_append, List.nil_append, Act.eval]; go_simp) | (go_at_call 228; (with_reducible refine (listedGroup_c _ _ _ _ _ (by omega)).mono ?_); rintro e w1 ⟨rfl, hb⟩; (obtain ⟨hc, hf, hk, hz⟩ := ecell hb; try (have hx := Ext.trans2 hb (by assumption); obtain ⟨hcx, hfx, hkx, hzx⟩ := ecell hx)); try simp at hz) | ((with_reducible refine wpList_invoke_of (nthInv Tryd.f171 2) ?_ 239 230 Tryd.func230 ?_); rfl; refine ⟨_, rfl, (by kernel_rfl), (by kernel_rfl), (by kernel_rfl), ?_⟩; simp only [List.map_toArray, List.map_cons, List.map_nil, List.append_toArray, List.cons_append, List.nil_append, Act.eval]; go_simp) | (go_at_call 230; have hb1 := HV.out (n % 3) (by omega); refine (listedWidth_c _ _ [4, 7, 10] 3 3 (n % 3) _ (hi.ext (by repeat (first | exact Ext.refl _ | assumption | refine Ext.drew ?_ | refine Ext.drewN ?_ _ | refine Ext.iter ?_ _ _ | refine Ext.alloc ?_ _ | refine Ext.setCell ?_ (by first | exact Nat.le_refl _ | (simp <;> omega)) _ | refine Ext.trans2 (by assumption) ?_))) rfl (by decide) (by simp; omega)).mono ?_; rintro e w1 ⟨rfl, hb⟩))
  all_goals go_ret
  all_goals refine ⟨ret_int ?_, (by repeat (first | exact Ext.refl _ | assumption | refine Ext.drew ?_ | refine Ext.drewN ?_ _ | refine Ext.iter ?_ _ _ | refine Ext.alloc ?_ _ | refine Ext.setCell ?_ (by first | exact Nat.le_refl _ | (simp <;> omega)) _ | refine Ext.trans2 (by assumption) ?_))⟩
  all_goals simp only [textW]
  all_goals first
    | (have h0 : n % 3 = 0 := by omega
       simp [h0]; done)
    | (have h0 : n % 3 = 0 := by omega
       simp [h0] <;> omega)
    | (have h3 : n % 3 = 1 ∨ n % 3 = 2 := by omega
       rcases h3 with h3 | h3 <;> first | (exfalso; omega) | (simp [h3]; rw [IntWalk.wrap64_in _ ⟨by omega, by omega⟩]))

theorem iTextWidth2_c (n : Int) (cs : ByteArray) (p : Option Addr) (w : World) (hi : IntsAt w p [6, 11]) (hn : 0 ≤ n ∧ n ≤ 1000000) :
    Calls Tryd.prog 171 #[.iface 239 (.agg #[.string cs, .slice p 2 2]), .int .i64 n] w fun e w' => e = .returned (.int .i64 (textW 2 n)) ∧ Ext w w' := by
  have h1 : IntKind.i64.wrap (n.tdiv 2) = n / 2 := by rw [Int.tdiv_eq_ediv_of_nonneg (by omega)]; exact IntWalk.i64_in _ (by omega)
  have h2 : IntKind.i64.wrap (n / 2 * 11) = n / 2 * 11 := IntWalk.i64_in _ (by omega)
  have hv : ∀ g : Int, 1 ≤ g ∧ g ≤ 2 → 0 ≤ ([6, 11] : List Int).getD (g - 1).toNat 0 ∧ ([6, 11] : List Int).getD (g - 1).toNat 0 ≤ 20 := by
    intro g hg
    obtain ⟨k, hk⟩ : ∃ k : Nat, (g - 1).toNat = k := ⟨_, rfl⟩
    have : k < 2 := by omega
    rw [hk]
    match k, this with
    | 0, _ => decide
    | 1, _ => decide
  have hna : ∀  w, (nilAhead 377 239 (.agg #[.string cs, .slice p 2 2]) (nthInv Tryd.f171 2)).run Tryd.prog w = .ok (some false) w := fun  w => by kernel_rfl
  conv at hna => intro  w; lhs; arg 2; arg 4; whnf
  have hme : ∀  w, (method 377 239 (.agg #[.string cs, .slice p 2 2]) (nthInv Tryd.f171 2)).run Tryd.prog w = .ok (230, (.agg #[.string cs, .slice p 2 2])) w := fun  w => by kernel_rfl
  conv at hme => intro  w; lhs; arg 2; arg 4; whnf
  go_enter Tryd.func171, Tryd.ntmps171
  go_wp2
  refine wp_region_canon (fun w' => Ext w w') [(0, true), (1, true), (4, true), (5, true), (7, true), (8, true), (9, true), (2, false), (3, true), (6, false), (10, false), (11, true), (12, true)] (by kernel_rfl) (by kernel_rfl) (by decide) (by kernel_rfl) ?_ ?_
  · exact (by repeat (first | exact Ext.refl _ | assumption | refine Ext.drew ?_ | refine Ext.drewN ?_ _ | refine Ext.iter ?_ _ _ | refine Ext.alloc ?_ _ | refine Ext.setCell ?_ (by first | exact Nat.le_refl _ | (simp <;> omega)) _ | refine Ext.trans2 (by assumption) ?_))
  refine canon_intro fun ops eo => ?_
  have ho0 := canon_at eo 0 rfl
  have ho1 := canon_at eo 1 rfl
  have ho2 := canon_at eo 2 rfl
  have ho3 := canon_at eo 3 rfl
  have ho4 := canon_at eo 4 rfl
  have ho5 := canon_at eo 5 rfl
  have ho6 := canon_at eo 6 rfl
  have ho7 := canon_at eo 7 rfl
  have ho8 := canon_at eo 8 rfl
  have ho9 := canon_at eo 9 rfl
  have ho10 := canon_at eo 10 rfl
  have ho11 := canon_at eo 11 rfl
  have ho12 := canon_at eo 12 rfl
  clear eo
  all_goals (apply canon_st ho0 rfl; (intro w2 hS; first | (go_simp; first | done | rfl) | rfl | (obtain ⟨hc, hf, hk, hz⟩ := ecell hS; go_simp; first | done | rfl)); simp only [Act.put, List.setIfInBounds_toArray, List.set_cons_zero, List.set_cons_succ])
  all_goals clear ho0
  all_goals (apply canon_st ho1 rfl; (intro w2 hS; first | (go_simp; first | done | rfl) | rfl | (obtain ⟨hc, hf, hk, hz⟩ := ecell hS; go_simp; first | done | rfl)); simp only [Act.put, List.setIfInBounds_toArray, List.set_cons_zero, List.set_cons_succ])
  all_goals clear ho1
  all_goals (apply canon_st ho4 rfl; (intro w2 hS; first | (go_simp; first | done | rfl) | rfl | (obtain ⟨hc, hf, hk, hz⟩ := ecell hS; go_simp; first | done | rfl)); simp only [Act.put, List.setIfInBounds_toArray, List.set_cons_zero, List.set_cons_succ])
  all_goals clear ho4
  all_goals (apply canon_st ho5 rfl; (intro w2 hS; first | (go_simp; first | done | rfl) | rfl | (obtain ⟨hc, hf, hk, hz⟩ := ecell hS; go_simp; first | done | rfl)); simp only [Act.put, List.setIfInBounds_toArray, List.set_cons_zero, List.set_cons_succ])
  all_goals clear ho5
  all_goals (apply canon_st ho7 rfl; (intro w2 hS; first | (go_simp; first | done | rfl) | rfl | (obtain ⟨hc, hf, hk, hz⟩ := ecell hS; go_simp; first | done | rfl)); simp only [Act.put, List.setIfInBounds_toArray, List.set_cons_zero, List.set_cons_succ])
  all_goals clear ho7
  all_goals (apply canon_st ho8 rfl; (intro w2 hS; first | (go_simp; first | done | rfl) | rfl | (obtain ⟨hc, hf, hk, hz⟩ := ecell hS; go_simp; first | done | rfl)); simp only [Act.put, List.setIfInBounds_toArray, List.set_cons_zero, List.set_cons_succ])
  all_goals clear ho8
  all_goals (apply canon_st ho9 rfl; (intro w2 hS; first | (go_simp; first | done | rfl) | rfl | (obtain ⟨hc, hf, hk, hz⟩ := ecell hS; go_simp; first | done | rfl)); simp only [Act.put, List.setIfInBounds_toArray, List.set_cons_zero, List.set_cons_succ])
  all_goals clear ho9
  all_goals first | (refine canon_inv ho2 (nthInv Tryd.f171 0) rfl 239 228 Tryd.func228 ⟨_, rfl, (by kernel_rfl), (by kernel_rfl), (by kernel_rfl), ?_⟩; simp only [List.map_toArray, List.map_cons, List.map_nil, List.append_toArray, List.cons_append, List.nil_append, Act.eval]; go_simp; (with_reducible refine (listedGroup_c _ _ _ _ _ (by omega)).mono ?_); rintro e w1 ⟨rfl, hb⟩; (obtain ⟨hc, hf, hk, hz⟩ := ecell hb; try (have hx := Ext.trans2 hb (by assumption); obtain ⟨hcx, hfx, hkx, hzx⟩ := ecell hx)); (try simp at hz); (refine ⟨(by repeat (first | exact Ext.refl _ | assumption | refine Ext.drew ?_ | refine Ext.drewN ?_ _ | refine Ext.iter ?_ _ _ | refine Ext.alloc ?_ _ | refine Ext.setCell ?_ (by first | exact Nat.le_refl _ | (simp <;> omega)) _ | refine Ext.trans2 (by assumption) ?_)), ?_⟩; go_simp)) | (refine canon_inv ho2 (nthInv Tryd.f171 2) rfl 239 230 Tryd.func230 ⟨_, rfl, (by kernel_rfl), (by kernel_rfl), (by kernel_rfl), ?_⟩; simp only [List.map_toArray, List.map_cons, List.map_nil, List.append_toArray, List.cons_append, List.nil_append, Act.eval]; go_simp; (with_reducible refine (listedWidth_c _ _ [6, 11] 2 2 2 _ (hi.ext (by repeat (first | exact Ext.refl _ | assumption | refine Ext.drew ?_ | refine Ext.drewN ?_ _ | refine Ext.iter ?_ _ _ | refine Ext.alloc ?_ _ | refine Ext.setCell ?_ (by first | exact Nat.le_refl _ | (simp <;> omega)) _ | refine Ext.trans2 (by assumption) ?_))) rfl (by decide) (by decide)).mono ?_); rintro e w1 ⟨rfl, hb⟩; (obtain ⟨hc, hf, hk, hz⟩ := ecell hb; try (have hx := Ext.trans2 hb (by assumption); obtain ⟨hcx, hfx, hkx, hzx⟩ := ecell hx)); (try simp at hz); (refine ⟨(by repeat (first | exact Ext.refl _ | assumption | refine Ext.drew ?_ | refine Ext.drewN ?_ _ | refine Ext.iter ?_ _ _ | refine Ext.alloc ?_ _ | refine Ext.setCell ?_ (by first | exact Nat.le_refl _ | (simp <;> omega)) _ | refine Ext.trans2 (by assumption) ?_)), ?_⟩; go_simp))
  all_goals clear ho2
  all_goals (apply canon_st ho3 rfl; (intro w2 hS; first | (go_simp; first | done | rfl) | rfl | (obtain ⟨hc, hf, hk, hz⟩ := ecell hS; go_simp; first | done | rfl)); simp only [Act.put, List.setIfInBounds_toArray, List.set_cons_zero, List.set_cons_succ])
  all_goals clear ho3
  all_goals first | (refine canon_inv ho6 (nthInv Tryd.f171 0) rfl 239 228 Tryd.func228 ⟨_, rfl, (by kernel_rfl), (by kernel_rfl), (by kernel_rfl), ?_⟩; simp only [List.map_toArray, List.map_cons, List.map_nil, List.append_toArray, List.cons_append, List.nil_append, Act.eval]; go_simp; (with_reducible refine (listedGroup_c _ _ _ _ _ (by omega)).mono ?_); rintro e w1 ⟨rfl, hb⟩; (obtain ⟨hc, hf, hk, hz⟩ := ecell hb; try (have hx := Ext.trans2 hb (by assumption); obtain ⟨hcx, hfx, hkx, hzx⟩ := ecell hx)); (try simp at hz); (refine ⟨(by repeat (first | exact Ext.refl _ | assumption | refine Ext.drew ?_ | refine Ext.drewN ?_ _ | refine Ext.iter ?_ _ _ | refine Ext.alloc ?_ _ | refine Ext.setCell ?_ (by first | exact Nat.le_refl _ | (simp <;> omega)) _ | refine Ext.trans2 (by assumption) ?_)), ?_⟩; go_simp)) | (refine canon_inv ho6 (nthInv Tryd.f171 2) rfl 239 230 Tryd.func230 ⟨_, rfl, (by kernel_rfl), (by kernel_rfl), (by kernel_rfl), ?_⟩; simp only [List.map_toArray, List.map_cons, List.map_nil, List.append_toArray, List.cons_append, List.nil_append, Act.eval]; go_simp; (with_reducible refine (listedWidth_c _ _ [6, 11] 2 2 2 _ (hi.ext (by repeat (first | exact Ext.refl _ | assumption | refine Ext.drew ?_ | refine Ext.drewN ?_ _ | refine Ext.iter ?_ _ _ | refine Ext.alloc ?_ _ | refine Ext.setCell ?_ (by first | exact Nat.le_refl _ | (simp <;> omega)) _ | refine Ext.trans2 (by assumption) ?_))) rfl (by decide) (by decide)).mono ?_); rintro e w1 ⟨rfl, hb⟩; (obtain ⟨hc, hf, hk, hz⟩ := ecell hb; try (have hx := Ext.trans2 hb (by assumption); obtain ⟨hcx, hfx, hkx, hzx⟩ := ecell hx)); (try simp at hz); (refine ⟨(by repeat (first | exact Ext.refl _ | assumption | refine Ext.drew ?_ | refine Ext.drewN ?_ _ | refine Ext.iter ?_ _ _ | refine Ext.alloc ?_ _ | refine Ext.setCell ?_ (by first | exact Nat.le_refl _ | (simp <;> omega)) _ | refine Ext.trans2 (by assumption) ?_)), ?_⟩; go_simp))
  all_goals clear ho6
  all_goals first | (refine canon_inv ho10 (nthInv Tryd.f171 0) rfl 239 228 Tryd.func228 ⟨_, rfl, (by kernel_rfl), (by kernel_rfl), (by kernel_rfl), ?_⟩; simp only [List.map_toArray, List.map_cons, List.map_nil, List.append_toArray, List.cons_append, List.nil_append, Act.eval]; go_simp; (with_reducible refine (listedGroup_c _ _ _ _ _ (by omega)).mono ?_); rintro e w1 ⟨rfl, hb⟩; (obtain ⟨hc, hf, hk, hz⟩ := ecell hb; try (have hx := Ext.trans2 hb (by assumption); obtain ⟨hcx, hfx, hkx, hzx⟩ := ecell hx)); (try simp at hz); (refine ⟨(by repeat (first | exact Ext.refl _ | assumption | refine Ext.drew ?_ | refine Ext.drewN ?_ _ | refine Ext.iter ?_ _ _ | refine Ext.alloc ?_ _ | refine Ext.setCell ?_ (by first | exact Nat.le_refl _ | (simp <;> omega)) _ | refine Ext.trans2 (by assumption) ?_)), ?_⟩; go_simp)) | (refine canon_inv ho10 (nthInv Tryd.f171 2) rfl 239 230 Tryd.func230 ⟨_, rfl, (by kernel_rfl), (by kernel_rfl), (by kernel_rfl), ?_⟩; simp only [List.map_toArray, List.map_cons, List.map_nil, List.append_toArray, List.cons_append, List.nil_append, Act.eval]; go_simp; (with_reducible refine (listedWidth_c _ _ [6, 11] 2 2 2 _ (hi.ext (by repeat (first | exact Ext.refl _ | assumption | refine Ext.drew ?_ | refine Ext.drewN ?_ _ | refine Ext.iter ?_ _ _ | refine Ext.alloc ?_ _ | refine Ext.setCell ?_ (by first | exact Nat.le_refl _ | (simp <;> omega)) _ | refine Ext.trans2 (by assumption) ?_))) rfl (by decide) (by decide)).mono ?_); rintro e w1 ⟨rfl, hb⟩; (obtain ⟨hc, hf, hk, hz⟩ := ecell hb; try (have hx := Ext.trans2 hb (by assumption); obtain ⟨hcx, hfx, hkx, hzx⟩ := ecell hx)); (try simp at hz); (refine ⟨(by repeat (first | exact Ext.refl _ | assumption | refine Ext.drew ?_ | refine Ext.drewN ?_ _ | refine Ext.iter ?_ _ _ | refine Ext.alloc ?_ _ | refine Ext.setCell ?_ (by first | exact Nat.le_refl _ | (simp <;> omega)) _ | refine Ext.trans2 (by assumption) ?_)), ?_⟩; go_simp))
  all_goals clear ho10
  all_goals (apply canon_st ho11 rfl; (intro w2 hS; first | (go_simp; first | done | rfl) | rfl | (obtain ⟨hc, hf, hk, hz⟩ := ecell hS; go_simp; first | done | rfl)); simp only [Act.put, List.setIfInBounds_toArray, List.set_cons_zero, List.set_cons_succ])
  all_goals clear ho11
  all_goals (apply canon_st ho12 rfl; (intro w2 hS; first | (go_simp; first | done | rfl) | rfl | (obtain ⟨hc, hf, hk, hz⟩ := ecell hS; go_simp; first | done | rfl)); simp only [Act.put, List.setIfInBounds_toArray, List.set_cons_zero, List.set_cons_succ])
  all_goals clear ho12
  all_goals refine canon_done (NoPanic.normal ?_)
  all_goals clear h1 h2
  all_goals have HV := Lib.hid hv; clear hv
  all_goals go_wp2_with (first | ((with_reducible refine wpList_invoke_of (nthInv Tryd.f171 0) ?_ 239 228 Tryd.func228 ?_); rfl; refine ⟨_, rfl, (by kernel_rfl), (by kernel_rfl), (by kernel_rfl), ?_⟩; simp only [List.map_toArray, List.map_cons, List.map_nil, List.append_toArray, List.cons_append, List.nil_append, Act.eval]; go_simp) | (go_at_call 228; (with_reducible refine (listedGroup_c _ _ _ _ _ (by omega)).mono ?_); rintro e w1 ⟨rfl, hb⟩; (obtain ⟨hc, hf, hk, hz⟩ := ecell hb; try (have hx := Ext.trans2 hb (by assumption); obtain ⟨hcx, hfx, hkx, hzx⟩ := ecell hx)); try simp at hz) | ((with_reducible refine wpList_invoke_of (nthInv Tryd.f171 2) ?_ 239 230 Tryd.func230 ?_); rfl; refine ⟨_, rfl, (by kernel_rfl), (by kernel_rfl), (by kernel_rfl), ?_⟩; simp only [List.map_toArray, List.map_cons, List.map_nil, List.append_toArray, List.cons_append, List.nil_append, Act.eval]; go_simp) | (go_at_call 230; have hb1 := HV.out (n % 2) (by omega); refine (listedWidth_c _ _ [6, 11] 2 2 (n % 2) _ (hi.ext (by repeat (first | exact Ext.refl _ | assumption | refine Ext.drew ?_ | refine Ext.drewN ?_ _ | refine Ext.iter ?_ _ _ | refine Ext.alloc ?_ _ | refine Ext.setCell ?_ (by first | exact Nat.le_refl _ | (simp <;> omega)) _ | refine Ext.trans2 (by assumption) ?_))) rfl (by decide) (by simp; omega)).mono ?_; rintro e w1 ⟨rfl, hb⟩))
  all_goals go_ret
  all_goals refine ⟨ret_int ?_, (by repeat (first | exact Ext.refl _ | assumption | refine Ext.drew ?_ | refine Ext.drewN ?_ _ | refine Ext.iter ?_ _ _ | refine Ext.alloc ?_ _ | refine Ext.setCell ?_ (by first | exact Nat.le_refl _ | (simp <;> omega)) _ | refine Ext.trans2 (by assumption) ?_))⟩
  all_goals simp only [textW]
  all_goals first
    | (have h0 : n % 2 = 0 := by omega
       simp [h0]; done)
    | (have h0 : n % 2 = 0 := by omega
       simp [h0] <;> omega)
    | (have h3 : n % 2 = 1 ∨ n % 2 = 2 := by omega
       rcases h3 with h3 | h3 <;> first | (exfalso; omega) | (simp [h3]; rw [IntWalk.wrap64_in _ ⟨by omega, by omega⟩]))

theorem iTextWidth3_c (n : Int) (cs : ByteArray) (p : Option Addr) (w : World) (hi : IntsAt w p [5]) (hn : 0 ≤ n ∧ n ≤ 1000000) :
    Calls Tryd.prog 171 #[.iface 239 (.agg #[.string cs, .slice p 1 1]), .int .i64 n] w fun e w' => e = .returned (.int .i64 (textW 3 n)) ∧ Ext w w' := by
  have h1 : IntKind.i64.wrap n = n := IntWalk.i64_in _ (by omega)
  have h2 : IntKind.i64.wrap (n * 5) = n * 5 := IntWalk.i64_in _ (by omega)
  have hv : ∀ g : Int, 1 ≤ g ∧ g ≤ 1 → 0 ≤ ([5] : List Int).getD (g - 1).toNat 0 ∧ ([5] : List Int).getD (g - 1).toNat 0 ≤ 20 := by
    intro g hg
    obtain ⟨k, hk⟩ : ∃ k : Nat, (g - 1).toNat = k := ⟨_, rfl⟩
    have : k < 1 := by omega
    rw [hk]
    match k, this with
    | 0, _ => decide
  have hna : ∀  w, (nilAhead 377 239 (.agg #[.string cs, .slice p 1 1]) (nthInv Tryd.f171 2)).run Tryd.prog w = .ok (some false) w := fun  w => by kernel_rfl
  conv at hna => intro  w; lhs; arg 2; arg 4; whnf
  have hme : ∀  w, (method 377 239 (.agg #[.string cs, .slice p 1 1]) (nthInv Tryd.f171 2)).run Tryd.prog w = .ok (230, (.agg #[.string cs, .slice p 1 1])) w := fun  w => by kernel_rfl
  conv at hme => intro  w; lhs; arg 2; arg 4; whnf
  go_enter Tryd.func171, Tryd.ntmps171
  go_wp2
  refine wp_region_canon (fun w' => Ext w w') [(0, true), (1, true), (4, true), (5, true), (7, true), (8, true), (9, true), (2, false), (3, true), (6, false), (10, false), (11, true), (12, true)] (by kernel_rfl) (by kernel_rfl) (by decide) (by kernel_rfl) ?_ ?_
  · exact (by repeat (first | exact Ext.refl _ | assumption | refine Ext.drew ?_ | refine Ext.drewN ?_ _ | refine Ext.iter ?_ _ _ | refine Ext.alloc ?_ _ | refine Ext.setCell ?_ (by first | exact Nat.le_refl _ | (simp <;> omega)) _ | refine Ext.trans2 (by assumption) ?_))
  refine canon_intro fun ops eo => ?_
  have ho0 := canon_at eo 0 rfl
  have ho1 := canon_at eo 1 rfl
  have ho2 := canon_at eo 2 rfl
  have ho3 := canon_at eo 3 rfl
  have ho4 := canon_at eo 4 rfl
  have ho5 := canon_at eo 5 rfl
  have ho6 := canon_at eo 6 rfl
  have ho7 := canon_at eo 7 rfl
  have ho8 := canon_at eo 8 rfl
  have ho9 := canon_at eo 9 rfl
  have ho10 := canon_at eo 10 rfl
  have ho11 := canon_at eo 11 rfl
  have ho12 := canon_at eo 12 rfl
  clear eo
  all_goals (apply canon_st ho0 rfl; (intro w2 hS; first | (go_simp; first | done | rfl) | rfl | (obtain ⟨hc, hf, hk, hz⟩ := ecell hS; go_simp; first | done | rfl)); simp only [Act.put, List.setIfInBounds_toArray, List.set_cons_zero, List.set_cons_succ])
  all_goals clear ho0
  all_goals (apply canon_st ho1 rfl; (intro w2 hS; first | (go_simp; first | done | rfl) | rfl | (obtain ⟨hc, hf, hk, hz⟩ := ecell hS; go_simp; first | done | rfl)); simp only [Act.put, List.setIfInBounds_toArray, List.set_cons_zero, List.set_cons_succ])
  all_goals clear ho1
  all_goals (apply canon_st ho4 rfl; (intro w2 hS; first | (go_simp; first | done | rfl) | rfl | (obtain ⟨hc, hf, hk, hz⟩ := ecell hS; go_simp; first | done | rfl)); simp only [Act.put, List.setIfInBounds_toArray, List.set_cons_zero, List.set_cons_succ])
  all_goals clear ho4
  all_goals (apply canon_st ho5 rfl; (intro w2 hS; first | (go_simp; first | done | rfl) | rfl | (obtain ⟨hc, hf, hk, hz⟩ := ecell hS; go_simp; first | done | rfl)); simp only [Act.put, List.setIfInBounds_toArray, List.set_cons_zero, List.set_cons_succ])
  all_goals clear ho5
  all_goals (apply canon_st ho7 rfl; (intro w2 hS; first | (go_simp; first | done | rfl) | rfl | (obtain ⟨hc, hf, hk, hz⟩ := ecell hS; go_simp; first | done | rfl)); simp only [Act.put, List.setIfInBounds_toArray, List.set_cons_zero, List.set_cons_succ])
  all_goals clear ho7
  all_goals (apply canon_st ho8 rfl; (intro w2 hS; first | (go_simp; first | done | rfl) | rfl | (obtain ⟨hc, hf, hk, hz⟩ := ecell hS; go_simp; first | done | rfl)); simp only [Act.put, List.setIfInBounds_toArray, List.set_cons_zero, List.set_cons_succ])
  all_goals clear ho8
  all_goals (apply canon_st ho9 rfl; (intro w2 hS; first | (go_simp; first | done | rfl) | rfl | (obtain ⟨hc, hf, hk, hz⟩ := ecell hS; go_simp; first | done | rfl)); simp only [Act.put, List.setIfInBounds_toArray, List.set_cons_zero, List.set_cons_succ])
  all_goals clear ho9
  all_goals first | (refine canon_inv ho2 (nthInv Tryd.f171 0) rfl 239 228 Tryd.func228 ⟨_, rfl, (by kernel_rfl), (by kernel_rfl), (by kernel_rfl), ?_⟩; simp only [List.map_toArray, List.map_cons, List.map_nil, List.append_toArray, List.cons_append, List.nil_append, Act.eval]; go_simp; (with_reducible refine (listedGroup_c _ _ _ _ _ (by omega)).mono ?_); rintro e w1 ⟨rfl, hb⟩; (obtain ⟨hc, hf, hk, hz⟩ := ecell hb; try (have hx := Ext.trans2 hb (by assumption); obtain ⟨hcx, hfx, hkx, hzx⟩ := ecell hx)); (try simp at hz); (refine ⟨(by repeat (first | exact Ext.refl _ | assumption | refine Ext.drew ?_ | refine Ext.drewN ?_ _ | refine Ext.iter ?_ _ _ | refine Ext.alloc ?_ _ | refine Ext.setCell ?_ (by first | exact Nat.le_refl _ | (simp <;> omega)) _ | refine Ext.trans2 (by assumption) ?_)), ?_⟩; go_simp)) | (refine canon_inv ho2 (nthInv Tryd.f171 2) rfl 239 230 Tryd.func230 ⟨_, rfl, (by kernel_rfl), (by kernel_rfl), (by kernel_rfl), ?_⟩; simp only [List.map_toArray, List.map_cons, List.map_nil, List.append_toArray, List.cons_append, List.nil_append, Act.eval]; go_simp; (with_reducible refine (listedWidth_c _ _ [5] 1 1 1 _ (hi.ext (by repeat (first | exact Ext.refl _ | assumption | refine Ext.drew ?_ | refine Ext.drewN ?_ _ | refine Ext.iter ?_ _ _ | refine Ext.alloc ?_ _ | refine Ext.setCell ?_ (by first | exact Nat.le_refl _ | (simp <;> omega)) _ | refine Ext.trans2 (by assumption) ?_))) rfl (by decide) (by decide)).mono ?_); rintro e w1 ⟨rfl, hb⟩; (obtain ⟨hc, hf, hk, hz⟩ := ecell hb; try (have hx := Ext.trans2 hb (by assumption); obtain ⟨hcx, hfx, hkx, hzx⟩ := ecell hx)); (try simp at hz); (refine ⟨(by repeat (first | exact Ext.refl _ | assumption | refine Ext.drew ?_ | refine Ext.drewN ?_ _ | refine Ext.iter ?_ _ _ | refine Ext.alloc ?_ _ | refine Ext.setCell ?_ (by first | exact Nat.le_refl _ | (simp <;> omega)) _ | refine Ext.trans2 (by assumption) ?_)), ?_⟩; go_simp))
  all_goals clear ho2
  all_goals (apply canon_st ho3 rfl; (intro w2 hS; first | (go_simp; first | done | rfl) | rfl | (obtain ⟨hc, hf, hk, hz⟩ := ecell hS; go_simp; first | done | rfl)); simp only [Act.put, List.setIfInBounds_toArray, List.set_cons_zero, List.set_cons_succ])
  all_goals clear ho3
  all_goals first | (refine canon_inv ho6 (nthInv Tryd.f171 0) rfl 239 228 Tryd.func228 ⟨_, rfl, (by kernel_rfl), (by kernel_rfl), (by kernel_rfl), ?_⟩; simp only [List.map_toArray, List.map_cons, List.map_nil, List.append_toArray, List.cons_append, List.nil_append, Act.eval]; go_simp; (with_reducible refine (listedGroup_c _ _ _ _ _ (by omega)).mono ?_); rintro e w1 ⟨rfl, hb⟩; (obtain ⟨hc, hf, hk, hz⟩ := ecell hb; try (have hx := Ext.trans2 hb (by assumption); obtain ⟨hcx, hfx, hkx, hzx⟩ := ecell hx)); (try simp at hz); (refine ⟨(by repeat (first | exact Ext.refl _ | assumption | refine Ext.drew ?_ | refine Ext.drewN ?_ _ | refine Ext.iter ?_ _ _ | refine Ext.alloc ?_ _ | refine Ext.setCell ?_ (by first | exact Nat.le_refl _ | (simp <;> omega)) _ | refine Ext.trans2 (by assumption) ?_)), ?_⟩; go_simp)) | (refine canon_inv ho6 (nthInv Tryd.f171 2) rfl 239 230 Tryd.func230 ⟨_, rfl, (by kernel_rfl), (by kernel_rfl), (by kernel_rfl), ?_⟩; simp only [List.map_toArray, List.map_cons, List.map_nil, List.append_toArray, List.cons_append, List.nil_append, Act.eval]; go_simp; (with_reducible refine (listedWidth_c _ _ [5] 1 1 1 _ (hi.ext (by repeat (first | exact Ext.refl _ | assumption | refine Ext.drew ?_ | refine Ext.drewN ?_ _ | refine Ext.iter ?_ _ _ | refine Ext.alloc ?_ _ | refine Ext.setCell ?_ (by first | exact Nat.le_refl _ | (simp <;> omega)) _ | refine Ext.trans2 (by assumption) ?_))) rfl (by decide) (by decide)).mono ?_); rintro e w1 ⟨rfl, hb⟩; (obtain ⟨hc, hf, hk, hz⟩ := ecell hb; try (have hx := Ext.trans2 hb (by assumption); obtain ⟨hcx, hfx, hkx, hzx⟩ := ecell hx)); (try simp at hz); (refine ⟨(by repeat (first | exact Ext.refl _ | assumption | refine Ext.drew ?_ | refine Ext.drewN ?_ _ | refine Ext.iter ?_ _ _ | refine Ext.alloc ?_ _ | refine Ext.setCell ?_ (by first | exact Nat.le_refl _ | (simp <;> omega)) _ | refine Ext.trans2 (by assumption) ?_)), ?_⟩; go_simp))
  all_goals clear ho6
  all_goals first | (refine canon_inv ho10 (nthInv Tryd.f171 0) rfl 239 228 Tryd.func228 ⟨_, rfl, (by kernel_rfl), (by kernel_rfl), (by kernel_rfl), ?_⟩; simp only [List.map_toArray, List.map_cons, List.map_nil, List.append_toArray, List.cons_append, List.nil_append, Act.eval]; go_simp; (with_reducible refine (listedGroup_c _ _ _ _ _ (by omega)).mono ?_); rintro e w1 ⟨rfl, hb⟩; (obtain ⟨hc, hf, hk, hz⟩ := ecell hb; try (have hx := Ext.trans2 hb (by assumption); obtain ⟨hcx, hfx, hkx, hzx⟩ := ecell hx)); (try simp at hz); (refine ⟨(by repeat (first | exact Ext.refl _ | assumption | refine Ext.drew ?_ | refine Ext.drewN ?_ _ | refine Ext.iter ?_ _ _ | refine Ext.alloc ?_ _ | refine Ext.setCell ?_ (by first | exact Nat.le_refl _ | (simp <;> omega)) _ | refine Ext.trans2 (by assumption) ?_)), ?_⟩; go_simp)) | (refine canon_inv ho10 (nthInv Tryd.f171 2) rfl 239 230 Tryd.func230 ⟨_, rfl, (by kernel_rfl), (by kernel_rfl), (by kernel_rfl), ?_⟩; simp only [List.map_toArray, List.map_cons, List.map_nil, List.append_toArray, List.cons_append, List.nil_append, Act.eval]; go_simp; (with_reducible refine (listedWidth_c _ _ [5] 1 1 1 _ (hi.ext (by repeat (first | exact Ext.refl _ | assumption | refine Ext.drew ?_ | refine Ext.drewN ?_ _ | refine Ext.iter ?_ _ _ | refine Ext.alloc ?_ _ | refine Ext.setCell ?_ (by first | exact Nat.le_refl _ | (simp <;> omega)) _ | refine Ext.trans2 (by assumption) ?_))) rfl (by decide) (by decide)).mono ?_); rintro e w1 ⟨rfl, hb⟩; (obtain ⟨hc, hf, hk, hz⟩ := ecell hb; try (have hx := Ext.trans2 hb (by assumption); obtain ⟨hcx, hfx, hkx, hzx⟩ := ecell hx)); (try simp at hz); (refine ⟨(by repeat (first | exact Ext.refl _ | assumption | refine Ext.drew ?_ | refine Ext.drewN ?_ _ | refine Ext.iter ?_ _ _ | refine Ext.alloc ?_ _ | refine Ext.setCell ?_ (by first | exact Nat.le_refl _ | (simp <;> omega)) _ | refine Ext.trans2 (by assumption) ?_)), ?_⟩; go_simp))
  all_goals clear ho10
  all_goals (apply canon_st ho11 rfl; (intro w2 hS; first | (go_simp; first | done | rfl) | rfl | (obtain ⟨hc, hf, hk, hz⟩ := ecell hS; go_simp; first | done | rfl)); simp only [Act.put, List.setIfInBounds_toArray, List.set_cons_zero, List.set_cons_succ])
  all_goals clear ho11
  all_goals (apply canon_st ho12 rfl; (intro w2 hS; first | (go_simp; first | done | rfl) | rfl | (obtain ⟨hc, hf, hk, hz⟩ := ecell hS; go_simp; first | done | rfl)); simp only [Act.put, List.setIfInBounds_toArray, List.set_cons_zero, List.set_cons_succ])
  all_goals clear ho12
  all_goals refine canon_done (NoPanic.normal ?_)
  all_goals clear h1 h2
  all_goals have HV := Lib.hid hv; clear hv
  all_goals go_wp2_with (first | ((with_reducible refine wpList_invoke_of (nthInv Tryd.f171 0) ?_ 239 228 Tryd.func228 ?_); rfl; refine ⟨_, rfl, (by kernel_rfl), (by kernel_rfl), (by kernel_rfl), ?_⟩; simp only [List.map_toArray, List.map_cons, List.map_nil, List.append_toArray, List.cons_append, List.nil_append, Act.eval]; go_simp) | (go_at_call 228; (with_reducible refine (listedGroup_c _ _ _ _ _ (by omega)).mono ?_); rintro e w1 ⟨rfl, hb⟩; (obtain ⟨hc, hf, hk, hz⟩ := ecell hb; try (have hx := Ext.trans2 hb (by assumption); obtain ⟨hcx, hfx, hkx, hzx⟩ := ecell hx)); try simp at hz) | ((with_reducible refine wpList_invoke_of (nthInv Tryd.f171 2) ?_ 239 230 Tryd.func230 ?_); rfl; refine ⟨_, rfl, (by kernel_rfl), (by kernel_rfl), (by kernel_rfl), ?_⟩; simp only [List.map_toArray, List.map_cons, List.map_nil, List.append_toArray, List.cons_append, List.nil_append, Act.eval]; go_simp) | (go_at_call 230; have hb1 := HV.out (n % 1) (by omega); refine (listedWidth_c _ _ [5] 1 1 (n % 1) _ (hi.ext (by repeat (first | exact Ext.refl _ | assumption | refine Ext.drew ?_ | refine Ext.drewN ?_ _ | refine Ext.iter ?_ _ _ | refine Ext.alloc ?_ _ | refine Ext.setCell ?_ (by first | exact Nat.le_refl _ | (simp <;> omega)) _ | refine Ext.trans2 (by assumption) ?_))) rfl (by decide) (by simp; omega)).mono ?_; rintro e w1 ⟨rfl, hb⟩))
  all_goals go_ret
  all_goals refine ⟨ret_int ?_, (by repeat (first | exact Ext.refl _ | assumption | refine Ext.drew ?_ | refine Ext.drewN ?_ _ | refine Ext.iter ?_ _ _ | refine Ext.alloc ?_ _ | refine Ext.setCell ?_ (by first | exact Nat.le_refl _ | (simp <;> omega)) _ | refine Ext.trans2 (by assumption) ?_))⟩
  all_goals simp only [textW]
  all_goals simp

theorem iTextWidth_c (m n : Int) (v : Value) (w : World) (hm : 1 ≤ m ∧ m ≤ 4) (hv : ModeV w m v) (hn : 0 ≤ n ∧ n ≤ 1000000) :
    Calls Tryd.prog 171 #[v, .int .i64 n] w fun e w' => e = .returned (.int .i64 (textW m n)) ∧ Ext w w' := by
  rcases hv with ⟨h, p, k, rfl, rfl, hi⟩ | ⟨h, rfl⟩
  · have : m = 1 ∨ m = 2 ∨ m = 3 := by omega
    rcases this with rfl | rfl | rfl
    · exact iTextWidth1_c n _ p w hi hn
    · exact iTextWidth2_c n _ p w hi hn
    · exact iTextWidth3_c n _ p w hi hn
  · have e : textW m n = n * 8 := by
      unfold textW
      rw [if_neg (by omega), if_neg (by omega), if_neg (by omega)]
    rw [e]
    exact iTextWidth4_c m n w h hn

theorem textW_bd (m n : Int) (hn : 0 ≤ n ∧ n ≤ 1000000) : 0 ≤ textW m n ∧ textW m n ≤ n * 8 := by
  unfold textW
  (repeat' split) <;> omega

theorem iSegmentWidth_c (m n : Int) (v : Value) (w : World) (hm : 1 ≤ m ∧ m ≤ 4) (hv : ModeV w m v) (hn : 0 ≤ n ∧ n ≤ 1000000) :
    Calls Tryd.prog 152 #[v, .int .i64 n] w fun e w' => e = .returned (.int .i64 (11 + textW m n)) ∧ Ext w w' := by
  have hb := textW_bd m n hn
  go_enter Tryd.func152, Tryd.ntmps152
  go_wp2_with (first | (go_at_call 171; (with_reducible refine (iTextWidth_c _ _ _ _ hm (by assumption) hn).mono ?_); rintro e w1 ⟨rfl, hb⟩; (obtain ⟨hc, hf, hk, hz⟩ := ecell hb; try (have hx := Ext.trans2 hb (by assumption); obtain ⟨hcx, hfx, hkx, hzx⟩ := ecell hx)); try simp at hz))
  go_ret
  exact ⟨rfl, (by repeat (first | exact Ext.refl _ | assumption | refine Ext.drew ?_ | refine Ext.drewN ?_ _ | refine Ext.iter ?_ _ _ | refine Ext.alloc ?_ _ | refine Ext.setCell ?_ (by first | exact Nat.le_refl _ | (simp <;> omega)) _ | refine Ext.trans2 (by assumption) ?_))⟩

abbrev vSeg (m : Int) (s : ByteArray) : Value := .agg #[.int .i64 m, .string s]
def IsSeg (m : Int) (s : ByteArray) : Prop := (1 ≤ m ∧ m ≤ 4) ∧ (1 ≤ s.size ∧ s.size ≤ 255) ∧ AllIn m s

def segLen (m : Int) (s : ByteArray) : Int := 11 + textW m s.size

def grp (m : Int) : Int := if m = 1 then 3 else if m = 2 then 2 else 1
def grpBase (m : Int) : Int := if m = 1 then 10 else if m = 2 then 45 else 256
def wid (m g : Int) : Int := if m = 1 then (if g = 1 then 4 else if g = 2 then 7 else if g = 3 then 10 else 0) else if m = 2 then (if g = 1 then 6 else if g = 2 then 11 else 0) else if m = 3 then 5 else 8

theorem sGroup_c (m : Int) (w : World) :
    Calls Tryd.prog 172 #[.int .i64 m] w fun e w' => e = .returned (.tuple #[.int .i64 (grp m), .int .i64 (grpBase m)]) ∧ w = w' := by
  go_enter Tryd.func172, Tryd.ntmps172
  go_wp2
  · obtain rfl : m = 1 := by rename_i h; simpa using h
    go_ret2
    exact ⟨rfl, rfl⟩
  · obtain rfl : m = 2 := by rename_i h; simpa using h
    go_ret2
    exact ⟨rfl, rfl⟩
  · go_ret2
    rename_i h1 h2
    simp at h1 h2
    exact ⟨ret_2i (by simp [grp, grpBase, h1, h2]), rfl⟩

theorem sWidth_c (m g : Int) (w : World) (hg : 1 ≤ g) (h1 : m = 1 → g ≤ 3) (h2 : m = 2 → g ≤ 2) :
    Calls Tryd.prog 173 #[.int .i64 m, .int .i64 g] w fun e w' => e = .returned (.int .i64 (wid m g)) ∧ Ext w w' := by
  by_cases e1 : m = 1
  · subst e1
    have := h1 rfl
    have : g = 1 ∨ g = 2 ∨ g = 3 := by omega
    clear h1 h2
    rcases this with rfl | rfl | rfl
    all_goals
      go_enter Tryd.func173, Tryd.ntmps173
      go_wp2
      go_ret
      exact ⟨rfl, (by repeat (first | exact Ext.refl _ | assumption | refine Ext.drew ?_ | refine Ext.drewN ?_ _ | refine Ext.iter ?_ _ _ | refine Ext.alloc ?_ _ | refine Ext.setCell ?_ (by first | exact Nat.le_refl _ | (simp <;> omega)) _ | refine Ext.trans2 (by assumption) ?_))⟩
  · by_cases e2 : m = 2
    · subst e2
      have := h2 rfl
      have : g = 1 ∨ g = 2 := by omega
      clear h1 h2
      rcases this with rfl | rfl
      all_goals
        go_enter Tryd.func173, Tryd.ntmps173
        go_wp2
        go_ret
        exact ⟨rfl, (by repeat (first | exact Ext.refl _ | assumption | refine Ext.drew ?_ | refine Ext.drewN ?_ _ | refine Ext.iter ?_ _ _ | refine Ext.alloc ?_ _ | refine Ext.setCell ?_ (by first | exact Nat.le_refl _ | (simp <;> omega)) _ | refine Ext.trans2 (by assumption) ?_))⟩
    · by_cases e3 : m = 3
      · subst e3
        clear h1 h2
        go_enter Tryd.func173, Tryd.ntmps173
        go_wp2
        go_ret
        exact ⟨rfl, (by repeat (first | exact Ext.refl _ | assumption | refine Ext.drew ?_ | refine Ext.drewN ?_ _ | refine Ext.iter ?_ _ _ | refine Ext.alloc ?_ _ | refine Ext.setCell ?_ (by first | exact Nat.le_refl _ | (simp <;> omega)) _ | refine Ext.trans2 (by assumption) ?_))⟩
      · clear h1 h2
        go_enter Tryd.func173, Tryd.ntmps173
        go_wp2
        go_ret
        exact ⟨ret_int (by simp [wid, e1, e2, e3]), (by repeat (first | exact Ext.refl _ | assumption | refine Ext.drew ?_ | refine Ext.drewN ?_ _ | refine Ext.iter ?_ _ _ | refine Ext.alloc ?_ _ | refine Ext.setCell ?_ (by first | exact Nat.le_refl _ | (simp <;> omega)) _ | refine Ext.trans2 (by assumption) ?_))⟩

theorem wid_bd (m g : Int) : 0 ≤ wid m g ∧ wid m g ≤ 11 := by
  unfold wid
  (repeat' split) <;> omega
theorem grp_bd (m : Int) : 1 ≤ grp m ∧ grp m ≤ 3 := by
  unfold grp
  (repeat' split) <;> omega
theorem textW_grp (m n : Int) (hm : 1 ≤ m ∧ m ≤ 4) (hn : 0 ≤ n ∧ n ≤ 1000000) : textW m n = n / grp m * wid m (grp m) + (if 0 < n % grp m then wid m (n % grp m) else 0) := by
  have : m = 1 ∨ m = 2 ∨ m = 3 ∨ m = 4 := by omega
  rcases this with rfl | rfl | rfl | rfl
  · have : n % 3 = 0 ∨ n % 3 = 1 ∨ n % 3 = 2 := by omega
    rcases this with h | h | h <;> simp [textW, grp, wid, h]
  · have : n % 2 = 0 ∨ n % 2 = 1 := by omega
    rcases this with h | h <;> simp [textW, grp, wid, h]
  · simp [textW, grp, wid]
  · simp [textW, grp, wid]

theorem sLength2_c (m n W : Int) (w : World) (hn : 0 ≤ n ∧ n ≤ 1000000) (hG : grp m = 2) (hW : wid m 2 = W) (hWb : 0 ≤ W ∧ W ≤ 11) (h2 : m = 2 → (2 : Int) ≤ 2) :
    Calls Tryd.prog 154 #[.int .i64 m, .int .i64 n] w fun e w' => e = .returned (.int .i64 (11 + (n / 2 * W + (if 0 < n % 2 then wid m (n % 2) else 0)))) ∧ Ext w w' := by
  have h3 : m = 1 → (2 : Int) ≤ 3 := by intro _; omega
  have HG := Lib.hid hG; clear hG
  have HW := Lib.hid hW; clear hW
  have HP := Lib.hid h2; have HQ := Lib.hid h3; clear h2 h3
  have hrw := wid_bd m (n % 2)
  have hp : 0 ≤ n / 2 * W := Int.mul_nonneg (by omega) hWb.1
  have hp2 : n / 2 * W ≤ 1000000 * 11 := Int.mul_le_mul (by omega) hWb.2 hWb.1 (by omega)
  have e1 : IntKind.i64.wrap (n.tdiv 2) = n / 2 := by rw [Int.tdiv_eq_ediv_of_nonneg (by omega)]; exact IntWalk.i64_in _ (by omega)
  have e2 : IntKind.i64.wrap (n / 2 * W) = n / 2 * W := IntWalk.i64_in _ (by omega)
  have e3 : IntKind.i64.wrap (11 + n / 2 * W) = 11 + n / 2 * W := IntWalk.i64_in _ (by omega)
  go_enter Tryd.func154, Tryd.ntmps154
  go_wp2_with (first
    | (go_at_call 172; refine (sGroup_c _ _).mono ?_; rintro e w1 ⟨rfl, rfl⟩; rw [HG.out]))
  refine wp_region_canon (fun w' => Ext w w') [(0, true), (1, true), (2, true), (3, true), (4, true), (5, false), (6, true), (7, true), (8, true)] (by kernel_rfl) (by kernel_rfl) (by decide) (by kernel_rfl) ?_ ?_
  · exact (by repeat (first | exact Ext.refl _ | assumption | refine Ext.drew ?_ | refine Ext.drewN ?_ _ | refine Ext.iter ?_ _ _ | refine Ext.alloc ?_ _ | refine Ext.setCell ?_ (by first | exact Nat.le_refl _ | (simp <;> omega)) _ | refine Ext.trans2 (by assumption) ?_))
  refine canon_intro fun ops eo => ?_
  have ho0 := canon_at eo 0 rfl
  have ho1 := canon_at eo 1 rfl
  have ho2 := canon_at eo 2 rfl
  have ho3 := canon_at eo 3 rfl
  have ho4 := canon_at eo 4 rfl
  have ho5 := canon_at eo 5 rfl
  have ho6 := canon_at eo 6 rfl
  have ho7 := canon_at eo 7 rfl
  have ho8 := canon_at eo 8 rfl
  clear eo
  all_goals (apply canon_st ho0 rfl; (intro w2 hS; first | (go_simp; first | done | rfl) | rfl | (obtain ⟨hc, hf, hk, hz⟩ := ecell hS; go_simp; first | done | rfl)); simp only [Act.put, List.setIfInBounds_toArray, List.set_cons_zero, List.set_cons_succ])
  all_goals clear ho0
  all_goals (apply canon_st ho1 rfl; (intro w2 hS; first | (go_simp; first | done | rfl) | rfl | (obtain ⟨hc, hf, hk, hz⟩ := ecell hS; go_simp; first | done | rfl)); simp only [Act.put, List.setIfInBounds_toArray, List.set_cons_zero, List.set_cons_succ])
  all_goals clear ho1
  all_goals (apply canon_st ho2 rfl; (intro w2 hS; first | (go_simp; first | done | rfl) | rfl | (obtain ⟨hc, hf, hk, hz⟩ := ecell hS; go_simp; first | done | rfl)); simp only [Act.put, List.setIfInBounds_toArray, List.set_cons_zero, List.set_cons_succ])
  all_goals clear ho2
  all_goals (apply canon_st ho3 rfl; (intro w2 hS; first | (go_simp; first | done | rfl) | rfl | (obtain ⟨hc, hf, hk, hz⟩ := ecell hS; go_simp; first | done | rfl)); simp only [Act.put, List.setIfInBounds_toArray, List.set_cons_zero, List.set_cons_succ])
  all_goals clear ho3
  all_goals (apply canon_st ho4 rfl; (intro w2 hS; first | (go_simp; first | done | rfl) | rfl | (obtain ⟨hc, hf, hk, hz⟩ := ecell hS; go_simp; first | done | rfl)); simp only [Act.put, List.setIfInBounds_toArray, List.set_cons_zero, List.set_cons_succ])
  all_goals clear ho4
  all_goals first | (refine canon_ef ho5 rfl (fun K hK => ?_); go_simp; ((go_at_call 173; refine (sWidth_c m _ _ (by omega) HQ.out HP.out).mono ?_; rintro e w1 ⟨rfl, hb⟩; rw [HW.out]; (obtain ⟨hc, hf, hk, hz⟩ := ecell hb; try (have hx := Ext.trans2 hb (by assumption); obtain ⟨hcx, hfx, hkx, hzx⟩ := ecell hx)); try simp at hz)); all_goals (refine hK _ _ ⟨(by repeat (first | exact Ext.refl _ | assumption | refine Ext.drew ?_ | refine Ext.drewN ?_ _ | refine Ext.iter ?_ _ _ | refine Ext.alloc ?_ _ | refine Ext.setCell ?_ (by first | exact Nat.le_refl _ | (simp <;> omega)) _ | refine Ext.trans2 (by assumption) ?_)), ?_⟩; clear hK K; go_simp))
  all_goals clear ho5
  all_goals (apply canon_st ho6 rfl; (intro w2 hS; first | (go_simp; first | done | rfl) | rfl | (obtain ⟨hc, hf, hk, hz⟩ := ecell hS; go_simp; first | done | rfl)); simp only [Act.put, List.setIfInBounds_toArray, List.set_cons_zero, List.set_cons_succ])
  all_goals clear ho6
  all_goals (apply canon_st ho7 rfl; (intro w2 hS; first | (go_simp; first | done | rfl) | rfl | (obtain ⟨hc, hf, hk, hz⟩ := ecell hS; go_simp; first | done | rfl)); simp only [Act.put, List.setIfInBounds_toArray, List.set_cons_zero, List.set_cons_succ])
  all_goals clear ho7
  all_goals (apply canon_st ho8 rfl; (intro w2 hS; first | (go_simp; first | done | rfl) | rfl | (obtain ⟨hc, hf, hk, hz⟩ := ecell hS; go_simp; first | done | rfl)); simp only [Act.put, List.setIfInBounds_toArray, List.set_cons_zero, List.set_cons_succ])
  all_goals clear ho8
  all_goals refine canon_done (NoPanic.normal ?_)
  clear e1 e2 e3
  go_wp2_with (first
    | (go_at_call 173; refine (sWidth_c m _ _ (by omega) (by intro h; have := HQ.out h; omega) (by intro h; have := HP.out h; omega)).mono ?_; rintro e w1 ⟨rfl, hb⟩))
  all_goals go_ret
  all_goals refine ⟨ret_int ?_, (by repeat (first | exact Ext.refl _ | assumption | refine Ext.drew ?_ | refine Ext.drewN ?_ _ | refine Ext.iter ?_ _ _ | refine Ext.alloc ?_ _ | refine Ext.setCell ?_ (by first | exact Nat.le_refl _ | (simp <;> omega)) _ | refine Ext.trans2 (by assumption) ?_))⟩
  all_goals first
    | (rw [if_pos (by omega)]; exact Int.add_assoc _ _ _)
    | (rw [if_neg (by omega)]; simp)
    | exact Int.add_assoc _ _ _
    | rfl

theorem sLength3_c (m n W : Int) (w : World) (hn : 0 ≤ n ∧ n ≤ 1000000) (hG : grp m = 3) (hW : wid m 3 = W) (hWb : 0 ≤ W ∧ W ≤ 11) (h2 : m = 2 → (3 : Int) ≤ 2) :
    Calls Tryd.prog 154 #[.int .i64 m, .int .i64 n] w fun e w' => e = .returned (.int .i64 (11 + (n / 3 * W + (if 0 < n % 3 then wid m (n % 3) else 0)))) ∧ Ext w w' := by
  have h3 : m = 1 → (3 : Int) ≤ 3 := by intro _; omega
  have HG := Lib.hid hG; clear hG
  have HW := Lib.hid hW; clear hW
  have HP := Lib.hid h2; have HQ := Lib.hid h3; clear h2 h3
  have hrw := wid_bd m (n % 3)
  have hp : 0 ≤ n / 3 * W := Int.mul_nonneg (by omega) hWb.1
  have hp2 : n / 3 * W ≤ 1000000 * 11 := Int.mul_le_mul (by omega) hWb.2 hWb.1 (by omega)
  have e1 : IntKind.i64.wrap (n.tdiv 3) = n / 3 := by rw [Int.tdiv_eq_ediv_of_nonneg (by omega)]; exact IntWalk.i64_in _ (by omega)
  have e2 : IntKind.i64.wrap (n / 3 * W) = n / 3 * W := IntWalk.i64_in _ (by omega)
  have e3 : IntKind.i64.wrap (11 + n / 3 * W) = 11 + n / 3 * W := IntWalk.i64_in _ (by omega)
  go_enter Tryd.func154, Tryd.ntmps154
  go_wp2_with (first
    | (go_at_call 172; refine (sGroup_c _ _).mono ?_; rintro e w1 ⟨rfl, rfl⟩; rw [HG.out]))
  refine wp_region_canon (fun w' => Ext w w') [(0, true), (1, true), (2, true), (3, true), (4, true), (5, false), (6, true), (7, true), (8, true)] (by kernel_rfl) (by kernel_rfl) (by decide) (by kernel_rfl) ?_ ?_
  · exact (by repeat (first | exact Ext.refl _ | assumption | refine Ext.drew ?_ | refine Ext.drewN ?_ _ | refine Ext.iter ?_ _ _ | refine Ext.alloc ?_ _ | refine Ext.setCell ?_ (by first | exact Nat.le_refl _ | (simp <;> omega)) _ | refine Ext.trans2 (by assumption) ?_))
  refine canon_intro fun ops eo => ?_
  have ho0 := canon_at eo 0 rfl
  have ho1 := canon_at eo 1 rfl
  have ho2 := canon_at eo 2 rfl
  have ho3 := canon_at eo 3 rfl
  have ho4 := canon_at eo 4 rfl
  have ho5 := canon_at eo 5 rfl
  have ho6 := canon_at eo 6 rfl
  have ho7 := canon_at eo 7 rfl
  have ho8 := canon_at eo 8 rfl
  clear eo
  all_goals (apply canon_st ho0 rfl; (intro w2 hS; first | (go_simp; first | done | rfl) | rfl | (obtain ⟨hc, hf, hk, hz⟩ := ecell hS; go_simp; first | done | rfl)); simp only [Act.put, List.setIfInBounds_toArray, List.set_cons_zero, List.set_cons_succ])
  all_goals clear ho0
  all_goals (apply canon_st ho1 rfl; (intro w2 hS; first | (go_simp; first | done | rfl) | rfl | (obtain ⟨hc, hf, hk, hz⟩ := ecell hS; go_simp; first | done | rfl)); simp only [Act.put, List.setIfInBounds_toArray, List.set_cons_zero, List.set_cons_succ])
  all_goals clear ho1
  all_goals (apply canon_st ho2 rfl; (intro w2 hS; first | (go_simp; first | done | rfl) | rfl | (obtain ⟨hc, hf, hk, hz⟩ := ecell hS; go_simp; first | done | rfl)); simp only [Act.put, List.setIfInBounds_toArray, List.set_cons_zero, List.set_cons_succ])
  all_goals clear ho2
  all_goals (apply canon_st ho3 rfl; (intro w2 hS; first | (go_simp; first | done | rfl) | rfl | (obtain ⟨hc, hf, hk, hz⟩ := ecell hS; go_simp; first | done | rfl)); simp only [Act.put, List.setIfInBounds_toArray, List.set_cons_zero, List.set_cons_succ])
  all_goals clear ho3
  all_goals (apply canon_st ho4 rfl; (intro w2 hS; first | (go_simp; first | done | rfl) | rfl | (obtain ⟨hc, hf, hk, hz⟩ := ecell hS; go_simp; first | done | rfl)); simp only [Act.put, List.setIfInBounds_toArray, List.set_cons_zero, List.set_cons_succ])
  all_goals clear ho4
  all_goals first | (refine canon_ef ho5 rfl (fun K hK => ?_); go_simp; ((go_at_call 173; refine (sWidth_c m _ _ (by omega) HQ.out HP.out).mono ?_; rintro e w1 ⟨rfl, hb⟩; rw [HW.out]; (obtain ⟨hc, hf, hk, hz⟩ := ecell hb; try (have hx := Ext.trans2 hb (by assumption); obtain ⟨hcx, hfx, hkx, hzx⟩ := ecell hx)); try simp at hz)); all_goals (refine hK _ _ ⟨(by repeat (first | exact Ext.refl _ | assumption | refine Ext.drew ?_ | refine Ext.drewN ?_ _ | refine Ext.iter ?_ _ _ | refine Ext.alloc ?_ _ | refine Ext.setCell ?_ (by first | exact Nat.le_refl _ | (simp <;> omega)) _ | refine Ext.trans2 (by assumption) ?_)), ?_⟩; clear hK K; go_simp))
  all_goals clear ho5
  all_goals (apply canon_st ho6 rfl; (intro w2 hS; first | (go_simp; first | done | rfl) | rfl | (obtain ⟨hc, hf, hk, hz⟩ := ecell hS; go_simp; first | done | rfl)); simp only [Act.put, List.setIfInBounds_toArray, List.set_cons_zero, List.set_cons_succ])
  all_goals clear ho6
  all_goals (apply canon_st ho7 rfl; (intro w2 hS; first | (go_simp; first | done | rfl) | rfl | (obtain ⟨hc, hf, hk, hz⟩ := ecell hS; go_simp; first | done | rfl)); simp only [Act.put, List.setIfInBounds_toArray, List.set_cons_zero, List.set_cons_succ])
  all_goals clear ho7
  all_goals (apply canon_st ho8 rfl; (intro w2 hS; first | (go_simp; first | done | rfl) | rfl | (obtain ⟨hc, hf, hk, hz⟩ := ecell hS; go_simp; first | done | rfl)); simp only [Act.put, List.setIfInBounds_toArray, List.set_cons_zero, List.set_cons_succ])
  all_goals clear ho8
  all_goals refine canon_done (NoPanic.normal ?_)
  clear e1 e2 e3
  go_wp2_with (first
    | (go_at_call 173; refine (sWidth_c m _ _ (by omega) (by intro h; have := HQ.out h; omega) (by intro h; have := HP.out h; omega)).mono ?_; rintro e w1 ⟨rfl, hb⟩))
  all_goals go_ret
  all_goals refine ⟨ret_int ?_, (by repeat (first | exact Ext.refl _ | assumption | refine Ext.drew ?_ | refine Ext.drewN ?_ _ | refine Ext.iter ?_ _ _ | refine Ext.alloc ?_ _ | refine Ext.setCell ?_ (by first | exact Nat.le_refl _ | (simp <;> omega)) _ | refine Ext.trans2 (by assumption) ?_))⟩
  all_goals first
    | (rw [if_pos (by omega)]; exact Int.add_assoc _ _ _)
    | (rw [if_neg (by omega)]; simp)
    | exact Int.add_assoc _ _ _
    | rfl

theorem sLength1_c (m n W : Int) (w : World) (hn : 0 ≤ n ∧ n ≤ 1000000) (hG : grp m = 1) (hW : wid m 1 = W) (hWb : 0 ≤ W ∧ W ≤ 11) (h2 : m = 2 → (1 : Int) ≤ 2) :
    Calls Tryd.prog 154 #[.int .i64 m, .int .i64 n] w fun e w' => e = .returned (.int .i64 (11 + (n * W + 0))) ∧ Ext w w' := by
  have h3 : m = 1 → (1 : Int) ≤ 3 := by intro _; omega
  have HG := Lib.hid hG; clear hG
  have HW := Lib.hid hW; clear hW
  have HP := Lib.hid h2; have HQ := Lib.hid h3; clear h2 h3
  have hp : 0 ≤ n * W := Int.mul_nonneg (by omega) hWb.1
  have hp2 : n * W ≤ 1000000 * 11 := Int.mul_le_mul (by omega) hWb.2 hWb.1 (by omega)
  have e1 : IntKind.i64.wrap n = n := by exact IntWalk.i64_in _ (by omega)
  have e2 : IntKind.i64.wrap (n * W) = n * W := IntWalk.i64_in _ (by omega)
  have e3 : IntKind.i64.wrap (11 + n * W) = 11 + n * W := IntWalk.i64_in _ (by omega)
  go_enter Tryd.func154, Tryd.ntmps154
  go_wp2_with (first
    | (go_at_call 172; refine (sGroup_c _ _).mono ?_; rintro e w1 ⟨rfl, rfl⟩; rw [HG.out]))
  refine wp_region_canon (fun w' => Ext w w') [(0, true), (1, true), (2, true), (3, true), (4, true), (5, false), (6, true), (7, true), (8, true)] (by kernel_rfl) (by kernel_rfl) (by decide) (by kernel_rfl) ?_ ?_
  · exact (by repeat (first | exact Ext.refl _ | assumption | refine Ext.drew ?_ | refine Ext.drewN ?_ _ | refine Ext.iter ?_ _ _ | refine Ext.alloc ?_ _ | refine Ext.setCell ?_ (by first | exact Nat.le_refl _ | (simp <;> omega)) _ | refine Ext.trans2 (by assumption) ?_))
  refine canon_intro fun ops eo => ?_
  have ho0 := canon_at eo 0 rfl
  have ho1 := canon_at eo 1 rfl
  have ho2 := canon_at eo 2 rfl
  have ho3 := canon_at eo 3 rfl
  have ho4 := canon_at eo 4 rfl
  have ho5 := canon_at eo 5 rfl
  have ho6 := canon_at eo 6 rfl
  have ho7 := canon_at eo 7 rfl
  have ho8 := canon_at eo 8 rfl
  clear eo
  all_goals (apply canon_st ho0 rfl; (intro w2 hS; first | (go_simp; first | done | rfl) | rfl | (obtain ⟨hc, hf, hk, hz⟩ := ecell hS; go_simp; first | done | rfl)); simp only [Act.put, List.setIfInBounds_toArray, List.set_cons_zero, List.set_cons_succ])
  all_goals clear ho0
  all_goals (apply canon_st ho1 rfl; (intro w2 hS; first | (go_simp; first | done | rfl) | rfl | (obtain ⟨hc, hf, hk, hz⟩ := ecell hS; go_simp; first | done | rfl)); simp only [Act.put, List.setIfInBounds_toArray, List.set_cons_zero, List.set_cons_succ])
  all_goals clear ho1
  all_goals (apply canon_st ho2 rfl; (intro w2 hS; first | (go_simp; first | done | rfl) | rfl | (obtain ⟨hc, hf, hk, hz⟩ := ecell hS; go_simp; first | done | rfl)); simp only [Act.put, List.setIfInBounds_toArray, List.set_cons_zero, List.set_cons_succ])
  all_goals clear ho2
  all_goals (apply canon_st ho3 rfl; (intro w2 hS; first | (go_simp; first | done | rfl) | rfl | (obtain ⟨hc, hf, hk, hz⟩ := ecell hS; go_simp; first | done | rfl)); simp only [Act.put, List.setIfInBounds_toArray, List.set_cons_zero, List.set_cons_succ])
  all_goals clear ho3
  all_goals (apply canon_st ho4 rfl; (intro w2 hS; first | (go_simp; first | done | rfl) | rfl | (obtain ⟨hc, hf, hk, hz⟩ := ecell hS; go_simp; first | done | rfl)); simp only [Act.put, List.setIfInBounds_toArray, List.set_cons_zero, List.set_cons_succ])
  all_goals clear ho4
  all_goals first | (refine canon_ef ho5 rfl (fun K hK => ?_); go_simp; ((go_at_call 173; refine (sWidth_c m _ _ (by omega) HQ.out HP.out).mono ?_; rintro e w1 ⟨rfl, hb⟩; rw [HW.out]; (obtain ⟨hc, hf, hk, hz⟩ := ecell hb; try (have hx := Ext.trans2 hb (by assumption); obtain ⟨hcx, hfx, hkx, hzx⟩ := ecell hx)); try simp at hz)); all_goals (refine hK _ _ ⟨(by repeat (first | exact Ext.refl _ | assumption | refine Ext.drew ?_ | refine Ext.drewN ?_ _ | refine Ext.iter ?_ _ _ | refine Ext.alloc ?_ _ | refine Ext.setCell ?_ (by first | exact Nat.le_refl _ | (simp <;> omega)) _ | refine Ext.trans2 (by assumption) ?_)), ?_⟩; clear hK K; go_simp))
  all_goals clear ho5
  all_goals (apply canon_st ho6 rfl; (intro w2 hS; first | (go_simp; first | done | rfl) | rfl | (obtain ⟨hc, hf, hk, hz⟩ := ecell hS; go_simp; first | done | rfl)); simp only [Act.put, List.setIfInBounds_toArray, List.set_cons_zero, List.set_cons_succ])
  all_goals clear ho6
  all_goals (apply canon_st ho7 rfl; (intro w2 hS; first | (go_simp; first | done | rfl) | rfl | (obtain ⟨hc, hf, hk, hz⟩ := ecell hS; go_simp; first | done | rfl)); simp only [Act.put, List.setIfInBounds_toArray, List.set_cons_zero, List.set_cons_succ])
  all_goals clear ho7
  all_goals (apply canon_st ho8 rfl; (intro w2 hS; first | (go_simp; first | done | rfl) | rfl | (obtain ⟨hc, hf, hk, hz⟩ := ecell hS; go_simp; first | done | rfl)); simp only [Act.put, List.setIfInBounds_toArray, List.set_cons_zero, List.set_cons_succ])
  all_goals clear ho8
  all_goals refine canon_done (NoPanic.normal ?_)
  clear e1 e2 e3
  go_wp2_with (first
    | (go_at_call 173; refine (sWidth_c m _ _ (by omega) (by intro h; have := HQ.out h; omega) (by intro h; have := HP.out h; omega)).mono ?_; rintro e w1 ⟨rfl, hb⟩))
  all_goals go_ret
  all_goals refine ⟨ret_int ?_, (by repeat (first | exact Ext.refl _ | assumption | refine Ext.drew ?_ | refine Ext.drewN ?_ _ | refine Ext.iter ?_ _ _ | refine Ext.alloc ?_ _ | refine Ext.setCell ?_ (by first | exact Nat.le_refl _ | (simp <;> omega)) _ | refine Ext.trans2 (by assumption) ?_))⟩
  all_goals first
    | omega
    | (simp; done)
    | skip

theorem sLength_c (m n : Int) (w : World) (hm : 1 ≤ m ∧ m ≤ 4) (hn : 0 ≤ n ∧ n ≤ 1000000) :
    Calls Tryd.prog 154 #[.int .i64 m, .int .i64 n] w fun e w' => e = .returned (.int .i64 (11 + textW m n)) ∧ Ext w w' := by
  rw [textW_grp m n hm hn]
  have h2 := grp_bd m
  have h4 : m = 2 → grp m ≤ 2 := by intro h; subst h; decide
  have : grp m = 1 ∨ grp m = 2 ∨ grp m = 3 := by omega
  rcases this with h | h | h
  · rw [h]
    have := sLength1_c m n _ w hn h rfl (wid_bd m 1) (by omega)
    simpa using this
  · rw [h]
    exact sLength2_c m n _ w hn h rfl (wid_bd m 2) (by omega)
  · rw [h]
    exact sLength3_c m n _ w hn h rfl (wid_bd m 3) (by rw [h] at h4; exact h4)

end Go.Proofs.YthpnkcamjcohgaaDoor

/-! Contracts of chapter 9, third part: the narrowest mode; how the laws hand segments on. -/
namespace Go.Proofs.YthpnkcamjcohgaaDoor
set_option linter.unusedVariables false
set_option linter.unusedSimpArgs false
open Go.RowKit

open Classical in
noncomputable def narrowest (s : ByteArray) : Int := if AllIn 1 s then 1 else if AllIn 3 s then 3 else if AllIn 2 s then 2 else 4

end Go.Proofs.YthpnkcamjcohgaaDoor
