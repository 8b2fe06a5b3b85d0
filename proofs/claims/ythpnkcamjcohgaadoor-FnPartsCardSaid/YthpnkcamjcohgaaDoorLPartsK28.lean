/- SplitMessage: parity, the longest beginning, the parts. -/
import Derived.Test.YthpnkcamjcohgaaDoorLPartsK24
import Derived.Test.YthpnkcamjcohgaaDoorLPartsK27
namespace Go.Proofs.YthpnkcamjcohgaaDoor
set_option linter.unusedVariables false
set_option linter.unusedSimpArgs false
open Go.RowKit

/-- The exclusive or of the first n bytes. -/
def parI (s : ByteArray) : Nat → Int
  | 0 => 0
  | i + 1 => bits .xor .u8 (parI s i) (byteAt s i)
theorem parI_bd (s : ByteArray) (n : Nat) : 0 ≤ parI s n ∧ parI s n ≤ 255 := by
  cases n with
  | zero => simp [parI]
  | succ n =>
    obtain ⟨x, hx⟩ : ∃ x : Int, parI s (n + 1) = IntKind.u8.wrap x := ⟨_, rfl⟩
    rw [hx, IntKind.wrap_u8]
    omega
def par (s : ByteArray) : Int := parI s s.size
set_option maxRecDepth 100000 in
theorem iParity_c (s : ByteArray) (w : World) (hs : s.size ≤ 1048576) :
    Calls Tryd.prog 55 #[.string s] w fun e w' => e = .returned (.int .i64 (par s)) ∧ Ext w w' := by
  go_enter Tryd.func55, Tryd.ntmps55
  go_wp2
  go_loopw [3, 4] (fun o i wr => ∃ n : Nat, n ≤ s.size ∧ i = .int .i64 n ∧ o = .int .u8 (parI s n) ∧ Ext w wr) (fun _ i _ => s.size - (intOf i).toNat)
  case atStart => exact ⟨0, Nat.zero_le _, rfl, rfl, (by repeat (first | exact Ext.refl _ | assumption | refine Ext.drew ?_ | refine Ext.drewN ?_ _ | refine Ext.iter ?_ _ _ | refine Ext.alloc ?_ _ | refine Ext.setCell ?_ (by first | exact Nat.le_refl _ | (simp <;> omega)) _ | refine Ext.trans2 (by assumption) ?_))⟩
  case round =>
    obtain ⟨n, hn, rfl, rfl, hext⟩ := hrel
    have hbd := parI_bd s n
    by_cases hlt : n < s.size
    · have hb8 := byteAt_eq (s := s) (i := n) hlt
      have hst : parI s (n + 1) = bits .xor .u8 (parI s n) (byteAt s n) := rfl
      rw [hb8] at hst
      have hst := Lib.hid hst
      clear hb8
      generalize parI s n = P at *
      go_wp2
      go_roundw
      case rel => exact ⟨n + 1, hlt, by go_num, by rw [hst.out], (by repeat (first | exact Ext.refl _ | assumption | refine Ext.drew ?_ | refine Ext.drewN ?_ _ | refine Ext.iter ?_ _ _ | refine Ext.alloc ?_ _ | refine Ext.setCell ?_ (by first | exact Nat.le_refl _ | (simp <;> omega)) _ | refine Ext.trans2 (by assumption) ?_))⟩
      case measure => simp [intOf]; omega
    · obtain rfl : n = s.size := by omega
      have hp := Lib.hid (show par s = parI s s.size from rfl)
      generalize parI s s.size = P at *
      have e1 := IntWalk.i64_in P (by omega)
      go_wp2
      go_ret
      exact ⟨by rw [hp.out]; rfl, (by repeat (first | exact Ext.refl _ | assumption | refine Ext.drew ?_ | refine Ext.drewN ?_ _ | refine Ext.iter ?_ _ _ | refine Ext.alloc ?_ _ | refine Ext.setCell ?_ (by first | exact Nat.le_refl _ | (simp <;> omega)) _ | refine Ext.trans2 (by assumption) ?_))⟩
set_option maxRecDepth 100000 in
theorem sParity_c (s : ByteArray) (w : World) (hs : s.size ≤ 1048576) :
    Calls Tryd.prog 60 #[.string s] w fun e w' => e = .returned (.int .i64 (par s)) ∧ Ext w w' := by
  go_enter Tryd.func60, Tryd.ntmps60
  go_wp2
  go_loopw [3, 4] (fun o i wr => ∃ n : Nat, n ≤ s.size ∧ i = .int .i64 n ∧ o = .int .u8 (parI s n) ∧ Ext w wr) (fun _ i _ => s.size - (intOf i).toNat)
  case atStart => exact ⟨0, Nat.zero_le _, rfl, rfl, (by repeat (first | exact Ext.refl _ | assumption | refine Ext.drew ?_ | refine Ext.drewN ?_ _ | refine Ext.iter ?_ _ _ | refine Ext.alloc ?_ _ | refine Ext.setCell ?_ (by first | exact Nat.le_refl _ | (simp <;> omega)) _ | refine Ext.trans2 (by assumption) ?_))⟩
  case round =>
    obtain ⟨n, hn, rfl, rfl, hext⟩ := hrel
    have hbd := parI_bd s n
    by_cases hlt : n < s.size
    · have hb8 := byteAt_eq (s := s) (i := n) hlt
      have hst : parI s (n + 1) = bits .xor .u8 (parI s n) (byteAt s n) := rfl
      rw [hb8] at hst
      have hst := Lib.hid hst
      clear hb8
      generalize parI s n = P at *
      go_wp2
      go_roundw
      case rel => exact ⟨n + 1, hlt, by go_num, by rw [hst.out], (by repeat (first | exact Ext.refl _ | assumption | refine Ext.drew ?_ | refine Ext.drewN ?_ _ | refine Ext.iter ?_ _ _ | refine Ext.alloc ?_ _ | refine Ext.setCell ?_ (by first | exact Nat.le_refl _ | (simp <;> omega)) _ | refine Ext.trans2 (by assumption) ?_))⟩
      case measure => simp [intOf]; omega
    · obtain rfl : n = s.size := by omega
      have hp := Lib.hid (show par s = parI s s.size from rfl)
      generalize parI s s.size = P at *
      have e1 := IntWalk.i64_in P (by omega)
      go_wp2
      go_ret
      exact ⟨by rw [hp.out]; rfl, (by repeat (first | exact Ext.refl _ | assumption | refine Ext.drew ?_ | refine Ext.drewN ?_ _ | refine Ext.iter ?_ _ _ | refine Ext.alloc ?_ _ | refine Ext.setCell ?_ (by first | exact Nat.le_refl _ | (simp <;> omega)) _ | refine Ext.trans2 (by assumption) ?_))⟩
set_option maxRecDepth 100000 in
theorem l12Longest_c (s : ByteArray) (room : Int) (w : World) (hs : s.size ≤ 400) (hr : 0 ≤ room ∧ room ≤ 100000) :
    Calls Tryd.prog 59 #[.string s, .int .i64 (room + 17)] w fun e w' => e = .returned (.int .i64 (longF s room)) ∧ Ext w w' := by
  go_enter Tryd.func59, Tryd.ntmps59
  go_wp2
  go_loopw [5, 6] (fun o i wr => ∃ n : Nat, n ≤ s.size ∧ i = .int .i64 ((n : Int) + 1) ∧ o = .int .i64 (longT s room n) ∧ Ext w wr) (fun _ i _ => (s.size + 1 - intOf i).toNat)
  case atStart => exact ⟨0, Nat.zero_le _, by go_num, rfl, (by repeat (first | exact Ext.refl _ | assumption | refine Ext.drew ?_ | refine Ext.drewN ?_ _ | refine Ext.iter ?_ _ _ | refine Ext.alloc ?_ _ | refine Ext.setCell ?_ (by first | exact Nat.le_refl _ | (simp <;> omega)) _ | refine Ext.trans2 (by assumption) ?_))⟩
  case round =>
    obtain ⟨n, hn, rfl, rfl, hext⟩ := hrel
    by_cases hlt : n < s.size
    · have hd : (n : Int) + 1 ≤ s.size := by omega
      have hsz : (s.extract 0 (n + 1)).size = n + 1 := by rw [ByteArray.size_extract]; omega
      have hbl : ∀ W, Calls Tryd.prog 102 #[.string (s.extract 0 (n + 1))] W fun e w' => e = .returned (.tuple #[.int .i64 (pre s (n + 1)), .int .i64 0]) ∧ Ext W w' := fun W => (sBestLength_c (s.extract 0 (n + 1)) W (by omega)).mono fun e w' h => by
        rcases h with ⟨⟨_, h⟩ | ⟨hn, _⟩, hb⟩
        · exact ⟨h, hb⟩
        · exact absurd (show (s.extract 0 (n + 1)).size ≤ 400 by omega) hn
      have hbl := Lib.hid hbl
      have hp := pre_bd s (e := n + 1) (by omega)
      have hst := Lib.hid (show longT s room (n + 1) = if pre s (n + 1) ≤ room then n + 1 else longT s room n from rfl)
      have ht : ((n : Int) + 1).toNat = n + 1 := by omega
      clear hsz
      generalize pre s (n + 1) = P at *
      generalize longT s room n = Lo at *
      by_cases hp2 : P ≤ room
      · have hd2 : P + 17 ≤ room + 17 := by omega
        go_wp2_with (go_at_call 102; (with_reducible refine (hbl.out _).mono ?_); rintro e w1 ⟨rfl, hx1⟩)
        go_roundw
        case rel => exact ⟨n + 1, hlt, by go_num, by rw [hst.out, if_pos (by omega)]; rfl, hext.trans hx1⟩
        case measure => simp [intOf]; omega
      · have hd2 : ¬ P + 17 ≤ room + 17 := by omega
        go_wp2_with (go_at_call 102; (with_reducible refine (hbl.out _).mono ?_); rintro e w1 ⟨rfl, hx1⟩)
        go_roundw
        case rel => exact ⟨n + 1, hlt, by go_num, by rw [hst.out, if_neg (by omega)], hext.trans hx1⟩
        case measure => simp [intOf]; omega
    · obtain rfl : n = s.size := by omega
      have hL := Lib.hid (show longF s room = longT s room s.size from rfl)
      generalize longT s room s.size = Lo at *
      go_wp2
      go_ret
      exact ⟨by rw [hL.out]; rfl, hext⟩

/-! The parts. -/
/-- The beginnings into which a message is split, or nothing; f and c count the parts that may yet come and those that came. -/
def splitR (room : Int) : Nat → ByteArray → Nat → Option (List ByteArray)
  | 0, _, _ => none
  | f + 1, r, c => if r.size = 0 ∧ c ≠ 0 then some [] else if (longF r room = 0 ∧ r.size ≠ 0) ∨ c = 8 then none else (splitR room f (r.extract (longF r room) r.size) (c + 1)).map fun l => r.extract 0 (longF r room) :: l
theorem split_end {room : Int} {f c : Nat} {r : ByteArray} (h : r.size = 0) (hc : c ≠ 0) : splitR room (f + 1) r c = some [] := by
  unfold splitR
  rw [if_pos ⟨h, hc⟩]
theorem split_no {room : Int} {f c : Nat} {r : ByteArray} (h : ¬ (r.size = 0 ∧ c ≠ 0)) (h2 : (longF r room = 0 ∧ r.size ≠ 0) ∨ c = 8) : splitR room (f + 1) r c = none := by
  unfold splitR
  rw [if_neg h, if_pos h2]
theorem split_go {room : Int} {f c : Nat} {r : ByteArray} (h : ¬ (r.size = 0 ∧ c ≠ 0)) (h2 : ¬ ((longF r room = 0 ∧ r.size ≠ 0) ∨ c = 8)) : splitR room (f + 1) r c = (splitR room f (r.extract (longF r room) r.size) (c + 1)).map fun l => r.extract 0 (longF r room) :: l := by
  conv => lhs; unfold splitR
  rw [if_neg h, if_neg h2]
/-- The parts with these texts, from index i on. -/
def mkP (n y : Int) : Nat → List ByteArray → List Pt
  | _, [] => []
  | i, x :: xs => ((i : Int), n, y, x) :: mkP n y (i + 1) xs
theorem mkP_len (n y : Int) : ∀ (i : Nat) (xs : List ByteArray), (mkP n y i xs).length = xs.length
  | _, [] => rfl
  | i, x :: xs => by simp [mkP, mkP_len n y (i + 1) xs]
theorem mkP_app (n y : Int) : ∀ (i : Nat) (xs ys : List ByteArray), mkP n y i (xs ++ ys) = mkP n y i xs ++ mkP n y (i + xs.length) ys
  | i, [], ys => rfl
  | i, x :: xs, ys => by
    have := mkP_app n y (i + 1) xs ys
    simp only [List.cons_append, mkP, this, List.length_cons]
    rw [show i + 1 + xs.length = i + (xs.length + 1) by omega]
/-- The answer for a list of texts, or for none. -/
def smO (y : Int) : Option (List ByteArray) → List Pt × Int
  | none => ([], 3)
  | some L => (mkP L.length y 0 L, 0)
open Classical in
/-- What SplitMessage answers. -/
noncomputable def smV (p k q : Int) (t : ByteArray) (cap : Int) : List Pt × Int :=
  if ¬ fldOK p k q then ([], 1) else if ¬ (1 ≤ cap ∧ cap ≤ 1500) then ([], 2) else if 400 < t.size ∨ 8192 < cap * fW (fldSize p k) ∨ cap * fW (fldSize p k) < 17 then ([], 3) else
  smO (par t) (splitR (cap * fW (fldSize p k) - 17) 9 t 0)
theorem split_step {room : Int} {f : Nat} {acc acc2 : List ByteArray} {R : ByteArray} (h : ¬ (R.size = 0 ∧ acc.length ≠ 0)) (h2 : ¬ ((longF R room = 0 ∧ R.size ≠ 0) ∨ acc.length = 8)) (ha : acc2 = acc ++ [R.extract 0 (longF R room)]) :
    (splitR room (f + 1) R acc.length).map (acc ++ ·) = (splitR room f (R.extract (longF R room) R.size) acc2.length).map (acc2 ++ ·) := by
  subst ha
  rw [split_go h h2, Option.map_map, List.length_append]
  congr 1
  funext l
  simp
theorem split_done {room : Int} {f : Nat} {acc : List ByteArray} {R : ByteArray} (h : R.size = 0) (hc : acc.length ≠ 0) : (splitR room (f + 1) R acc.length).map (acc ++ ·) = some acc := by
  rw [split_end h hc]
  simp
theorem split_stop {room : Int} {f : Nat} {acc : List ByteArray} {R : ByteArray} (h : ¬ (R.size = 0 ∧ acc.length ≠ 0)) (h2 : (longF R room = 0 ∧ R.size ≠ 0) ∨ acc.length = 8) : (splitR room (f + 1) R acc.length).map (acc ++ ·) = none := by
  rw [split_no h h2]
  rfl
theorem RowS.ownC {α : Type} {f : α → List Value} {k B : Nat} {e : TypeId} {w : World} {v : Value} {xs : List α} (hf : ∀ x, (f x).length = k) (h : RowS e f k B w v xs) : ∃ p c, v = .slice p xs.length c ∧ SOwn f k B w p xs ∧ xs.length ≤ c := by
  obtain ⟨p, c, hv, ho⟩ := h.own hf
  refine ⟨p, c, hv, ho, ?_⟩
  rcases h.2 with ⟨h2, hn⟩ | ⟨g, cap, cur, hv2, _, _, hle, _⟩
  · rw [hn]; omega
  · rw [hv] at hv2
    simp at hv2
    omega
theorem toList_ne {r : ByteArray} (h : ¬ r.size = 0) : ¬ r.toList = [] := fun e => h (by
  rw [ByteArray.toList_eq] at e
  have := congrArg List.length e
  simpa using this)
/-- Parts and a code given back, in cells of one's own. -/
def PLC (B : Nat) (Y : List Pt × Int) (e : Ending) (w' : World) : Prop := ∃ p c, e = .returned (.tuple #[.slice p Y.1.length c, .int .i64 Y.2]) ∧ OwnCells B w' p (Y.1.flatMap ptF) ∧ Y.1.length ≤ c
theorem PLC.nil {B : Nat} {code : Int} {w : World} : PLC B ([], code) (.returned (.tuple #[.slice none 0 0, .int .i64 code])) w := ⟨none, 0, rfl, OwnCells.nil _ _ _, Nat.le_refl _⟩
end Go.Proofs.YthpnkcamjcohgaaDoor
