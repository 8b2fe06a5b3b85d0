
/- How the reference reads a segment. -/
import Derived.Test.YtbnpdpmbbppnhaaReadSeg2
namespace Go.Proofs.Ytbnpdpmbbppnhaa
set_option linter.unusedVariables false
set_option linter.unusedSimpArgs false
open Go.RowKit

set_option maxRecDepth 100000 in
theorem l01Number_c (p : Option Addr) (c : Nat) (xs : List Int) (a k : Nat) (w : World) (hx : IntsAt w p xs) (hl : xs.length ≤ 1048576) (hb : ∀ x ∈ xs, x = 0 ∨ x = 1) (hk : k ≤ 40) (hak : a + k ≤ xs.length) :
    Calls Try.prog 172 #[.slice p xs.length c, .int .i64 a, .int .i64 k] w fun e w' => e = .returned (.int .i64 (numAt xs a k)) ∧ w = w' := by
  have HX := Lib.hid hx; have HB := Lib.hid hb; clear hx hb
  have hd : (a : Int) + k ≤ 1048576 := by omega
  go_enter Try.func172, Try.ntmps172
  go_wp2
  go_loop [7, 8] (fun n i => ∃ j : Nat, j ≤ k ∧ i = .int .i64 j ∧ n = .int .i64 (numAt xs a j)) (fun _ i => k - (intOf i).toNat)
  case atStart => exact ⟨0, Nat.zero_le _, rfl, rfl⟩
  case round =>
    obtain ⟨j, hj, rfl, rfl⟩ := hrel
    have hn := numAt_bd HB.out a j (by omega)
    have hn2 : numAt xs a j < 2305843009213693952 := by
      have h40 : 2 ^ j ≤ 2 ^ 40 := Nat.pow_le_pow_right (by omega) (by omega)
      have e : ((2 ^ j : Nat) : Int) = (2 : Int) ^ j := by simp
      omega
    by_cases hlt : j < k
    · obtain ⟨b', o', rfl, _, h1⟩ := HX.out (a + j) (by omega)
      have hx01 : xs.getD (a + j) 0 = 0 ∨ xs.getD (a + j) 0 = 1 := by
        rw [List.getD_eq_getElem?_getD, List.getElem?_eq_getElem (by omega)]
        exact HB.out _ (List.getElem_mem _)
      have hst := Lib.hid (show numAt xs a (j + 1) = numAt xs a j * 2 + xs.getD (a + j) 0 from rfl)
      have hn0 := hn.1
      generalize numAt xs a j = N at *
      generalize xs.getD (a + j) 0 = x at *
      have hx0 : 0 ≤ x := by omega
      have hx1 : x ≤ 1 := by omega
      have hlen : a + j < xs.length := by omega
      clear hn hx01
      go_wp2
      go_round
      case rel => exact ⟨j + 1, hlt, by go_num, by rw [hst.out]; go_num⟩
      case measure => simp [intOf]; omega
    · obtain rfl : j = k := by omega
      go_wp2
      go_ret
      exact ⟨rfl, rfl⟩

theorem sChar_c (m v : Int) (w : World) (hm : 1 ≤ m ∧ m ≤ 4) (hv : 0 ≤ v ∧ v < iBase m) :
    Calls Try.prog 244 #[.int .i64 m, .int .i64 v] w fun e w' => e = .returned (.int .u8 (chr m v).toNat) ∧ w = w' := by
  by_cases h4 : m = 4
  · subst h4
    have hv2 : v < 256 := hv.2
    have hc : ((chr 4 v).toNat : Int) = v := by
      unfold chr
      rw [if_pos rfl, UInt8.toNat_ofNat_of_lt' (show v.toNat < 256 by omega), Int.toNat_of_nonneg hv.1]
    rw [hc]
    clear hc
    have hv0 := hv.1
    clear hv
    go_enter Try.func244, Try.ntmps244
    go_wp2
    go_ret
    exact ⟨rfl, rfl⟩
  · have hs := modeSet_size m
    have hz := iBase_size (m := m) (by omega)
    obtain ⟨k, rfl⟩ : ∃ k : Nat, v = k := ⟨v.toNat, by omega⟩
    have hk : k < (modeSet m).size := by omega
    have hc : chr m (k : Int) = (modeSet m)[k]'hk := by
      unfold chr
      rw [if_neg (by omega), Int.toNat_natCast, List.getD_eq_getElem?_getD, List.getElem?_eq_getElem (by simpa using hk)]
      exact bget _ k hk
    rw [hc]
    clear hc hz
    have hS := fun W => set_c m W
    generalize modeSet m = S at *
    have HS := Lib.hid hS; clear hS
    have h4' : (m == 4) = false := by simpa using h4
    go_enter Try.func244, Try.ntmps244
    go_wp2_with (first | (go_at_call 219; (with_reducible refine (HS.out _).mono ?_); rintro e w1 ⟨rfl, rfl⟩))
    go_ret
    exact ⟨rfl, rfl⟩

set_option maxRecDepth 100000 in
theorem l09Read1_c (p : Option Addr) (c : Nat) (xs : List Int) (a : Nat) (w : World) (hx : IntsAt w p xs) (hl : xs.length ≤ 1048576) (ha : a ≤ xs.length) (hs : xs.length < a + 11) :
    Calls Try.prog 204 #[.slice p xs.length c, .int .i64 a] w fun e w' => rdR xs a e ∧ Ext w w' := by
  have hn : rdS xs a = none := by unfold rdS; rw [if_pos hs]
  have HN := Lib.hid hn; clear hn
  have hd : (xs.length : Int) < a + 3 + 8 := by omega
  go_enter Try.func204, Try.ntmps204
  go_wp2
  exact bodyPost_ret (v := .tuple #[vSeg 0 ⟨#[]⟩, .int .i64 0, .bool false]) (by simp [results, Try.results204, go_sem]) rfl ⟨.inr ⟨HN.out, rfl⟩, (by repeat (first | exact Ext.refl _ | assumption | refine Ext.drew ?_ | refine Ext.drewN ?_ _ | refine Ext.iter ?_ _ _ | refine Ext.alloc ?_ _ | refine Ext.setCell ?_ (by first | exact Nat.le_refl _ | (simp <;> omega)) _ | refine Ext.trans2 (by assumption) ?_))⟩

set_option maxHeartbeats 1600000 in
set_option maxRecDepth 100000 in
theorem l09Read2_c (p : Option Addr) (c : Nat) (xs : List Int) (a : Nat) (w : World) (hx : IntsAt w p xs) (hl : xs.length ≤ 1048576) (hb : ∀ x ∈ xs, x = 0 ∨ x = 1) (ha : a + 11 ≤ xs.length)
    (hbad : ¬ (1 ≤ numAt xs a 3 ∧ numAt xs a 3 ≤ 4) ∨ numAt xs (a + 3) 8 = 0 ∨ (xs.length : Int) < a + 11 + textW (numAt xs a 3) (numAt xs (a + 3) 8)) :
    Calls Try.prog 204 #[.slice p xs.length c, .int .i64 a] w fun e w' => rdR xs a e ∧ Ext w w' := by
  have hnone : rdS xs a = none := by
    unfold rdS
    rw [if_neg (by omega), if_pos hbad]
  have HN := Lib.hid hnone; clear hnone
  have b1 := numAt_bd hb a 3 (by omega)
  have b2 := numAt_bd hb (a + 3) 8 (by omega)
  have htw := textW_bd (numAt xs a 3) (numAt xs (a + 3) 8) (by omega)
  have n1 : ∀ W, IntsAt W p xs → Calls Try.prog 172 #[.slice p xs.length c, .int .i64 a, .int .i64 3] W fun e w' => e = .returned (.int .i64 (numAt xs a 3)) ∧ W = w' := fun W h => l01Number_c p c xs a 3 W h hl hb (by omega) (by omega)
  have n2 : ∀ W, IntsAt W p xs → Calls Try.prog 172 #[.slice p xs.length c, .int .i64 ((a : Int) + 3), .int .i64 8] W fun e w' => e = .returned (.int .i64 (numAt xs (a + 3) 8)) ∧ W = w' := fun W h => l01Number_c p c xs (a + 3) 8 W h hl hb (by omega) (by omega)
  have HX := Lib.hid hx; clear hx hb
  have N1 := Lib.hid n1; have N2 := Lib.hid n2; clear n1 n2
  generalize hme : numAt xs a 3 = m at *
  generalize hce : numAt xs (a + 3) 8 = cI at *
  clear hme hce
  have hd1 : (a : Int) + 3 + 8 ≤ xs.length := by omega
  have hm8 : m < 8 := b1.2
  have hc8 : cI < 256 := b2.2
  by_cases hm : 1 ≤ m ∧ m ≤ 4
  · by_cases h0 : cI = 0
    · subst h0
      go_enter Try.func204, Try.ntmps204
      go_wp2_with (first
        | (go_at_call 172; (with_reducible refine (N1.out _ (HX.out.ext (by repeat (first | exact Ext.refl _ | assumption | refine Ext.drew ?_ | refine Ext.drewN ?_ _ | refine Ext.iter ?_ _ _ | refine Ext.alloc ?_ _ | refine Ext.setCell ?_ (by first | exact Nat.le_refl _ | (simp <;> omega)) _ | refine Ext.trans2 (by assumption) ?_)))).mono ?_); rintro e w1 ⟨rfl, rfl⟩)
        | (go_at_call 172; (with_reducible refine (N2.out _ (HX.out.ext (by repeat (first | exact Ext.refl _ | assumption | refine Ext.drew ?_ | refine Ext.drewN ?_ _ | refine Ext.iter ?_ _ _ | refine Ext.alloc ?_ _ | refine Ext.setCell ?_ (by first | exact Nat.le_refl _ | (simp <;> omega)) _ | refine Ext.trans2 (by assumption) ?_)))).mono ?_); rintro e w1 ⟨rfl, rfl⟩)
        | (go_at_call 99; (with_reducible refine (l01In_c _ _ _ _).mono ?_); rintro e w1 ⟨⟨hP, rfl⟩ | ⟨hP, rfl⟩, rfl⟩ <;> try contradiction))
      exact bodyPost_ret (v := .tuple #[vSeg 0 ⟨#[]⟩, .int .i64 0, .bool false]) (by simp [results, Try.results204, go_sem]) rfl ⟨.inr ⟨HN.out, rfl⟩, (by repeat (first | exact Ext.refl _ | assumption | refine Ext.drew ?_ | refine Ext.drewN ?_ _ | refine Ext.iter ?_ _ _ | refine Ext.alloc ?_ _ | refine Ext.setCell ?_ (by first | exact Nat.le_refl _ | (simp <;> omega)) _ | refine Ext.trans2 (by assumption) ?_))⟩
    · have hc0 : (cI == 0) = false := by simpa using h0
      have hlt : (xs.length : Int) < a + (11 + textW m cI) := by
        rcases hbad with h | h | h
        · exact absurd hm h
        · exact absurd h h0
        · omega
      have hbr := Blk.new w #[.int .i64 0, .string ⟨#[]⟩] 107
      clear hbad
      go_enter Try.func204, Try.ntmps204
      go_wp2_with (first
        | (go_at_call 172; (with_reducible refine (N1.out _ (HX.out.ext (by repeat (first | exact Ext.refl _ | assumption | refine Ext.drew ?_ | refine Ext.drewN ?_ _ | refine Ext.iter ?_ _ _ | refine Ext.alloc ?_ _ | refine Ext.setCell ?_ (by first | exact Nat.le_refl _ | (simp <;> omega)) _ | refine Ext.trans2 (by assumption) ?_)))).mono ?_); rintro e w1 ⟨rfl, rfl⟩)
        | (go_at_call 172; (with_reducible refine (N2.out _ (HX.out.ext (by repeat (first | exact Ext.refl _ | assumption | refine Ext.drew ?_ | refine Ext.drewN ?_ _ | refine Ext.iter ?_ _ _ | refine Ext.alloc ?_ _ | refine Ext.setCell ?_ (by first | exact Nat.le_refl _ | (simp <;> omega)) _ | refine Ext.trans2 (by assumption) ?_)))).mono ?_); rintro e w1 ⟨rfl, rfl⟩)
        | (go_at_call 99; (with_reducible refine (l01In_c _ _ _ _).mono ?_); rintro e w1 ⟨⟨hP, rfl⟩ | ⟨hP, rfl⟩, rfl⟩ <;> try contradiction)
        | (go_at_call 220; (with_reducible refine (sLength_c m cI _ hm (by omega)).mono ?_); rintro e w2 ⟨rfl, hb2⟩; have hres2 := hbr.ext hb2; have z0 := hres2.cell (i := 0) (v := .int .i64 0) rfl; have z1 := hres2.cell (i := 1) (v := .string ⟨#[]⟩) rfl; have z2 := hres2.free; have z3 := hres2.lt; have l0 := (hres2.set 0 (.int .i64 0)).cell (i := 0) (v := .int .i64 0) rfl; have l1 := ((hres2.set 0 (.int .i64 0)).set 1 (.string ⟨#[]⟩)).cell (i := 1) (v := .string ⟨#[]⟩) rfl))
      exact bodyPost_ret (v := .tuple #[vSeg 0 ⟨#[]⟩, .int .i64 0, .bool false]) (by simp [results, Try.results204, go_sem, l0, l1]) rfl ⟨.inr ⟨HN.out, rfl⟩, (by repeat (first | exact Ext.refl _ | assumption | refine Ext.drew ?_ | refine Ext.drewN ?_ _ | refine Ext.iter ?_ _ _ | refine Ext.alloc ?_ _ | refine Ext.setCell ?_ (by first | exact Nat.le_refl _ | (simp <;> omega)) _ | refine Ext.trans2 (by assumption) ?_))⟩
  · clear hbad
    go_enter Try.func204, Try.ntmps204
    go_wp2_with (first
      | (go_at_call 172; (with_reducible refine (N1.out _ (HX.out.ext (by repeat (first | exact Ext.refl _ | assumption | refine Ext.drew ?_ | refine Ext.drewN ?_ _ | refine Ext.iter ?_ _ _ | refine Ext.alloc ?_ _ | refine Ext.setCell ?_ (by first | exact Nat.le_refl _ | (simp <;> omega)) _ | refine Ext.trans2 (by assumption) ?_)))).mono ?_); rintro e w1 ⟨rfl, rfl⟩)
      | (go_at_call 172; (with_reducible refine (N2.out _ (HX.out.ext (by repeat (first | exact Ext.refl _ | assumption | refine Ext.drew ?_ | refine Ext.drewN ?_ _ | refine Ext.iter ?_ _ _ | refine Ext.alloc ?_ _ | refine Ext.setCell ?_ (by first | exact Nat.le_refl _ | (simp <;> omega)) _ | refine Ext.trans2 (by assumption) ?_)))).mono ?_); rintro e w1 ⟨rfl, rfl⟩)
      | (go_at_call 99; (with_reducible refine (l01In_c _ _ _ _).mono ?_); rintro e w1 ⟨⟨hP, rfl⟩ | ⟨hP, rfl⟩, rfl⟩ <;> try contradiction))
    exact bodyPost_ret (v := .tuple #[vSeg 0 ⟨#[]⟩, .int .i64 0, .bool false]) (by simp [results, Try.results204, go_sem]) rfl ⟨.inr ⟨HN.out, rfl⟩, (by repeat (first | exact Ext.refl _ | assumption | refine Ext.drew ?_ | refine Ext.drewN ?_ _ | refine Ext.iter ?_ _ _ | refine Ext.alloc ?_ _ | refine Ext.setCell ?_ (by first | exact Nat.le_refl _ | (simp <;> omega)) _ | refine Ext.trans2 (by assumption) ?_))⟩

/-- For a group of n, the base of the reference and that of the program do the same. -/
theorem gq_base {m G : Int} {wd n : Nat} (hm : 1 ≤ m ∧ m ≤ 4) (hG : 0 ≤ G ∧ G < 2 ^ wd) (hn : n ≤ (grp m).toNat) (hwd : wid m n = wd) : ∀ j, j < n → gq G (iBase m) j % grpBase m = gq G (iBase m) j % iBase m ∧ gq G (iBase m) j / grpBase m = gq G (iBase m) j / iBase m := by
  intro j hj
  have : m = 1 ∨ m = 2 ∨ m = 3 ∨ m = 4 := by omega
  rcases this with rfl | rfl | rfl | rfl
  · exact ⟨rfl, rfl⟩
  · exact ⟨rfl, rfl⟩
  · have e : (grp 3).toNat = 1 := rfl
    obtain rfl : j = 0 := by omega
    have e5 : wid 3 (n : Int) = 5 := rfl
    obtain rfl : wd = 5 := by omega
    have h2 : G < 32 := hG.2
    have h1 := hG.1
    show G % 256 = G % 32 ∧ G / 256 = G / 32
    omega
  · exact ⟨rfl, rfl⟩

set_option maxHeartbeats 1600000 in
set_option maxRecDepth 100000 in
theorem l09Read3_c (p : Option Addr) (c : Nat) (xs : List Int) (a : Nat) (w : World) (hx : IntsAt w p xs) (hl : xs.length ≤ 1048576) (hb : ∀ x ∈ xs, x = 0 ∨ x = 1) (ha : a + 11 ≤ xs.length)
    (h0 : numAt xs (a + 3) 8 ≠ 0) (ht : (a : Int) + 11 + textW (numAt xs a 3) (numAt xs (a + 3) 8) ≤ xs.length) (hm : 1 ≤ numAt xs a 3 ∧ numAt xs a 3 ≤ 4) :
    Calls Try.prog 204 #[.slice p xs.length c, .int .i64 a] w fun e w' => rdR xs a e ∧ Ext w w' := by
  have b1 := numAt_bd hb a 3 (by omega)
  have b2 := numAt_bd hb (a + 3) 8 (by omega)
  have htw := textW_bd (numAt xs a 3) (numAt xs (a + 3) 8) (by omega)
  have HX := Lib.hid hx; have HB := Lib.hid hb; clear hx hb
  have n1 : ∀ W, IntsAt W p xs → Calls Try.prog 172 #[.slice p xs.length c, .int .i64 a, .int .i64 3] W fun e w' => e = .returned (.int .i64 (numAt xs a 3)) ∧ W = w' := fun W h => l01Number_c p c xs a 3 W h hl HB.out (by omega) (by omega)
  have n2 : ∀ W, IntsAt W p xs → Calls Try.prog 172 #[.slice p xs.length c, .int .i64 ((a : Int) + 3), .int .i64 8] W fun e w' => e = .returned (.int .i64 (numAt xs (a + 3) 8)) ∧ W = w' := fun W h => l01Number_c p c xs (a + 3) 8 W h hl HB.out (by omega) (by omega)
  have N1 := Lib.hid n1; have N2 := Lib.hid n2; clear n1 n2
  have hSS : rdS xs a = (rdG (numAt xs a 3) xs (numAt xs (a + 3) 8).toNat (a + 11) (numAt xs (a + 3) 8).toNat).map fun r => (numAt xs a 3, r.1, r.2) := by
    have hm' := hm
    unfold rdS
    rw [if_neg (by omega), if_neg (by omega)]
  generalize hme : numAt xs a 3 = m at *
  generalize hce : numAt xs (a + 3) 8 = cI at *
  obtain ⟨cn, rfl⟩ : ∃ cn : Nat, cI = cn := ⟨cI.toNat, by omega⟩
  have hc0 : ((cn : Int) == 0) = false := by simpa using h0
  have hcp : 1 ≤ cn := by omega
  clear h0
  rw [Int.toNat_natCast] at hSS
  replace hSS := Lib.hid hSS
  clear hme hce
  have hm8 : m < 8 := b1.2
  have hc8 : cn < 256 := by have := b2.2; omega
  have htl : (a : Int) + (11 + textW m cn) ≤ xs.length := by omega
  have hI1 : Try.prog.underlying 22 = some (.slice 5) := by kernel_rfl
  have hI2 := infoByte
  clear b1 b2
  have hbr := Blk.new w #[.int .i64 0, .string ⟨#[]⟩] 107
  go_enter Try.func204, Try.ntmps204
  go_wp2_with (first
    | (go_at_call 172; (with_reducible refine (N1.out _ (HX.out.ext (by repeat (first | exact Ext.refl _ | assumption | refine Ext.drew ?_ | refine Ext.drewN ?_ _ | refine Ext.iter ?_ _ _ | refine Ext.alloc ?_ _ | refine Ext.setCell ?_ (by first | exact Nat.le_refl _ | (simp <;> omega)) _ | refine Ext.trans2 (by assumption) ?_)))).mono ?_); rintro e w1 ⟨rfl, rfl⟩)
    | (go_at_call 172; (with_reducible refine (N2.out _ (HX.out.ext (by repeat (first | exact Ext.refl _ | assumption | refine Ext.drew ?_ | refine Ext.drewN ?_ _ | refine Ext.iter ?_ _ _ | refine Ext.alloc ?_ _ | refine Ext.setCell ?_ (by first | exact Nat.le_refl _ | (simp <;> omega)) _ | refine Ext.trans2 (by assumption) ?_)))).mono ?_); rintro e w1 ⟨rfl, rfl⟩)
    | (go_at_call 99; (with_reducible refine (l01In_c _ _ _ _).mono ?_); rintro e w1 ⟨⟨hP, rfl⟩ | ⟨hP, rfl⟩, rfl⟩ <;> try contradiction)
    | (go_at_call 220; (with_reducible refine (sLength_c m cn _ hm (by omega)).mono ?_); rintro e w2 ⟨rfl, hb2⟩)
    | (go_at_call 216; (with_reducible refine (sGroup_c _ _).mono ?_); rintro e w3 ⟨rfl, rfl⟩))
  have hx2 : Ext w w2 := ((Ext.refl w).alloc _).trans hb2
  have hrb := hbr.ext hb2
  have hI3 := hI1; have hI4 := hI2
  clear hI1 hI2
  have hrow := RowB.made (B := w2.heap.size) (w := w2) (Nat.le_refl _)
  have HR := Lib.hid (show (rdG m xs cn (a + 11) cn).map (fun r => (ByteArray.empty ++ r.1, r.2)) = rdG m xs cn (a + 11) cn by
    cases rdG m xs cn (a + 11) cn with
    | none => rfl
    | some r => simp)
  go_loopw [1, 12, 13] (fun at_ tx i wr => ∃ (a' c' f I : Nat) (acc : ByteArray), at_ = .int .i64 a' ∧ i = .int .i64 I ∧ (I + c' = cn ∨ (c' = 0 ∧ cn ≤ I)) ∧ I ≤ 300 ∧ c' ≤ f ∧ acc.size + c' ≤ 255 ∧ (a' : Int) + textW m c' ≤ xs.length ∧ RowB w2.heap.size wr tx acc ∧ Ext w2 wr ∧ Hid ((rdG m xs f a' c').map (fun r => (acc ++ r.1, r.2)) = rdG m xs cn (a + 11) cn)) (fun _ _ i _ => cn - (intOf i).toNat)
  case atStart => exact ⟨a + 11, cn, cn, 0, ByteArray.empty, by go_num, rfl, by omega, by omega, Nat.le_refl _, by show 0 + cn ≤ 255; omega, by go_num, hrow, (by repeat (first | exact Ext.refl _ | assumption | refine Ext.drew ?_ | refine Ext.drewN ?_ _ | refine Ext.iter ?_ _ _ | refine Ext.alloc ?_ _ | refine Ext.setCell ?_ (by first | exact Nat.le_refl _ | (simp <;> omega)) _ | refine Ext.trans2 (by assumption) ?_)), HR⟩
  case round =>
    clear hrow HR
    obtain ⟨a', c', f, I, acc, rfl, rfl, hIc, hI300, hcf, hac, hal, hown, hext, hR⟩ := hrel
    obtain ⟨wo, rfl⟩ : ∃ wo : World, wo = wr := ⟨_, rfl⟩
    have hxo := hx2.trans hext
    by_cases hlt : I < cn
    · have hIc2 : I + c' = cn := by omega
      have hd : 0 < c' := by omega
      have hg := grp_bd m
      obtain ⟨f', rfl⟩ : ∃ f', f = f' + 1 := ⟨f - 1, by omega⟩
      have hmin : min (grp m) ((cn : Int) - I) = ((min (grp m).toNat c' : Nat) : Int) := by omega
      have hif : (if (cn : Int) - I < grp m then (cn : Int) - I else grp m) = ((min (grp m).toNat c' : Nat) : Int) := by split <;> omega
      have hn1 : 1 ≤ min (grp m).toNat c' ∧ min (grp m).toNat c' ≤ 3 ∧ min (grp m).toNat c' ≤ c' ∧ min (grp m).toNat c' ≤ (grp m).toNat := by omega
      have hR2 := hR.out
      rw [rdG, if_neg (by omega)] at hR2
      have hstep : textW m c' = wid m (min (grp m).toNat c' : Nat) + textW m ((c' - min (grp m).toNat c' : Nat) : Int) := by
        by_cases e : (grp m).toNat ≤ c'
        · rw [Nat.min_eq_left e, textW_step (by omega) e, Int.toNat_of_nonneg (by omega)]
        · rw [Nat.min_eq_right (by omega), Nat.sub_self, textW_last (by omega) (by omega) (by omega)]
          simp [textW]
      have hnext : (I + (grp m).toNat) + (c' - min (grp m).toNat c') = cn ∨ (c' - min (grp m).toNat c' = 0 ∧ cn ≤ I + (grp m).toNat) := by omega
      generalize hge : min (grp m).toNat c' = n at *
      have hwd := wid_bd m n
      have hwp : 1 ≤ wid m n := by
        have : m = 1 ∨ m = 2 ∨ m = 3 ∨ m = 4 := by omega
        have hg1 : (grp 1).toNat = 3 := rfl
        have hg2 : (grp 2).toNat = 2 := rfl
        unfold wid
        rcases this with rfl | rfl | rfl | rfl <;> (repeat' split) <;> omega
      have htr := textW_bd m ((c' - n : Nat) : Int) (by omega)
      obtain ⟨wd, hwde⟩ : ∃ wd : Nat, wid m n = wd := ⟨(wid m n).toNat, by omega⟩
      have hnb := numAt_bd HB.out a' wd (by omega)
      have hN := Lib.hid (show ∀ W, IntsAt W p xs → Calls Try.prog 172 #[.slice p xs.length c, .int .i64 a', .int .i64 wd] W fun e w' => e = .returned (.int .i64 (numAt xs a' wd)) ∧ W = w' from fun W h => l01Number_c p c xs a' wd W h hl HB.out (by omega) (by omega))
      have hWid := Lib.hid (show ∀ W, Calls Try.prog 218 #[.int .i64 m, .int .i64 n] W fun e w' => e = .returned (.int .i64 wd) ∧ Ext W w' from fun W => by
        have := sWidth_c m n W (by omega) (by rintro rfl; have : (grp 1).toNat = 3 := rfl; omega) (by rintro rfl; have : (grp 2).toNat = 2 := rfl; omega)
        rw [hwde] at this
        exact this)
      rw [hwde, Int.toNat_natCast] at hR2
      have hg40 : numAt xs a' wd ≤ 1099511627776 := by
        have h40 : 2 ^ wd ≤ 2 ^ 40 := Nat.pow_le_pow_right (by omega) (by omega)
        have e : ((2 ^ wd : Nat) : Int) = (2 : Int) ^ wd := by simp
        omega
      have hgn0 := hnb.1
      have hGB := Lib.hid (gq_base hm hnb hn1.2.2.2 hwde)
      generalize numAt xs a' wd = G at *
      have HR2 := Lib.hid hR2
      have hst2 : textW m c' = wd + textW m ((c' - n : Nat) : Int) := by rw [hstep, hwde]
      have hal2 : (a' : Int) + wd + textW m ((c' - n : Nat) : Int) ≤ xs.length := by omega
      clear hR2 hR hstep hst2 hge hnb
      rw [hwde] at hwd hwp
      clear hwde
      have hcI : (0 : Int) ≤ (cn : Int) - I := by omega
      go_wp2_with (first
        | (go_at_call 218; (with_reducible refine (hWid.out _).mono ?_); rintro e w4 ⟨rfl, hb4⟩)
        | (go_at_call 172; (with_reducible refine (hN.out _ (HX.out.ext (by repeat (first | exact Ext.refl _ | assumption | refine Ext.drew ?_ | refine Ext.drewN ?_ _ | refine Ext.iter ?_ _ _ | refine Ext.alloc ?_ _ | refine Ext.setCell ?_ (by first | exact Nat.le_refl _ | (simp <;> omega)) _ | refine Ext.trans2 (by assumption) ?_)))).mono ?_); rintro e w5 ⟨rfl, rfl⟩)
        | (at_make; go_loud (refine make_blk hI3 hI4 n rfl rfl (by omega) (by omega) ?_)))
      have hx4 : Ext wo w4 := (by repeat (first | exact Ext.refl _ | assumption | refine Ext.drew ?_ | refine Ext.drewN ?_ _ | refine Ext.iter ?_ _ _ | refine Ext.alloc ?_ _ | refine Ext.setCell ?_ (by first | exact Nat.le_refl _ | (simp <;> omega)) _ | refine Ext.trans2 (by assumption) ?_))
      have hpb := Blk.new w4 (madeCells #[.int .u8 0] n) 5
      have hown4 := (hown.ext hx4).alloc (.cells (madeCells #[.int .u8 0] n) 5)
      have hbp := iBase_pos m
      have hgp := grpBase_bd m
      have hgp1 : 1 ≤ grpBase m := by unfold grpBase; (repeat' split) <;> omega
      have hgb := fun j => gq_bd (g := G) (b := iBase m) ⟨hgn0, hg40⟩ hbp j
      have HGQ := Lib.hid hgb; clear hgb
      clear hif hmin
      go_loopw [16, 18] (fun gg i wr => ∃ (j : Nat) (cs : Array Value), j ≤ n ∧ gg = .int .i64 (gq G (iBase m) j) ∧ i = .int .i64 ((n : Int) - 1 - j) ∧ Blk wr w4.heap.size cs 5 ∧ Hid (PTab m G n cs j) ∧ Ext w4 wr) (fun _ i _ => (intOf i + 1).toNat)
      case atStart => exact ⟨0, _, Nat.zero_le _, rfl, by go_num, hpb, Lib.hid ⟨size_madeCells _ _, fun q h1 h2 => by omega⟩, (by repeat (first | exact Ext.refl _ | assumption | refine Ext.drew ?_ | refine Ext.drewN ?_ _ | refine Ext.iter ?_ _ _ | refine Ext.alloc ?_ _ | refine Ext.setCell ?_ (by first | exact Nat.le_refl _ | (simp <;> omega)) _ | refine Ext.trans2 (by assumption) ?_))⟩
      case round =>
        clear hpb
        obtain ⟨j, cs, hj, rfl, rfl, hpb, hT, hext2⟩ := hrel
        have hgj := HGQ.out j
        by_cases hjl : j < n
        · have hT2 := hT.out.step hjl
          have hmod : 0 ≤ gq G (iBase m) j % iBase m ∧ gq G (iBase m) j % iBase m < iBase m := ⟨Int.emod_nonneg _ (by omega), Int.emod_lt_of_pos _ (by omega)⟩
          obtain ⟨m1, m2⟩ := hGB.out j hjl
          have hdv := (show gq G (iBase m) (j + 1) = gq G (iBase m) j / iBase m from rfl)
          rw [← m1] at hT2 hmod
          rw [← m2] at hdv
          clear m1 m2
          have e1 : (gq G (iBase m) j).tmod (grpBase m) = gq G (iBase m) j % grpBase m := Int.tmod_eq_emod_of_nonneg hgj.1
          have hne0 : ¬ grpBase m = 0 := by omega
          have HT2 := Lib.hid hT2; have HDV := Lib.hid hdv; clear hT2 hdv
          generalize gq G (iBase m) j = gj at *
          have hmod2 := Lib.hid hmod
          have hd1 : (j : Int) ≤ (n : Int) - 1 := by omega
          have hd2 : (n : Int) - 1 - j < n := by omega
          obtain ⟨z0, hz0⟩ : ∃ v, cs[n - 1 - j]? = some v := ⟨_, Array.getElem?_eq_getElem (by rw [hT.out.1]; omega)⟩
          have q0 := hpb.cell hz0
          have q1 := hpb.lt
          have q2 := hpb.free
          have hpos : 0 < grpBase m := by omega
          have hgj0 := hgj.1
          have hgj1 := hgj.2
          go_wp2_with (first
            | (go_at_call 244; (with_reducible refine (sChar_c m _ _ hm hmod2.out).mono ?_); rintro e w5 ⟨rfl, rfl⟩))
          refine ⟨⟨j + 1, _, by omega, by rw [HDV.out], by go_num, hpb.set _ _, HT2, (hext2.setCell (Nat.le_refl _) _)⟩, by show (((n : Int) - 1 - j - 1) + 1).toNat < (((n : Int) - 1 - j) + 1).toNat; omega⟩
        · obtain rfl : j = n := by omega
          have hd1 : ¬ (0 : Int) ≤ (j : Int) - 1 - j := by omega
          have hR2 := HR2.out
          by_cases hgz : 0 < gq G (iBase m) j
          · rw [if_pos hgz] at hR2
            have hnone := Lib.hid (hSS.out.trans (by rw [← hR2]; rfl) : rdS xs a = none)
            clear hR2
            have hres := hrb.ext ((hext.trans hx4).trans hext2); have y0 := hres.cell (i := 0) (v := .int .i64 0) rfl; have y1 := hres.cell (i := 1) (v := .string ⟨#[]⟩) rfl; have y2 := hres.free; have y3 := hres.lt
            go_wp2_with fail
            have k0 := (hres.set 0 (.int .i64 0)).cell (i := 0) (v := .int .i64 0) rfl
            have k1 := ((hres.set 0 (.int .i64 0)).set 1 (.string ⟨#[]⟩)).cell (i := 1) (v := .string ⟨#[]⟩) rfl
            exact bodyPost_ret (v := .tuple #[vSeg 0 ⟨#[]⟩, .int .i64 0, .bool false]) (by simp [results, Try.results204, go_sem, k0, k1]) rfl ⟨.inr ⟨hnone.out, rfl⟩, (by repeat (first | exact Ext.refl _ | assumption | refine Ext.drew ?_ | refine Ext.drewN ?_ _ | refine Ext.iter ?_ _ _ | refine Ext.alloc ?_ _ | refine Ext.setCell ?_ (by first | exact Nat.le_refl _ | (simp <;> omega)) _ | refine Ext.trans2 (by assumption) ?_))⟩
          · rw [if_neg hgz] at hR2
            have hR3 := Lib.hid hR2
            clear hR2
            have hcs := hT.out.all
            have hrow2 := hown.ext (hx4.trans hext2)
            have hdl : (⟨(dig m G j).toArray⟩ : ByteArray).size = j := dig_len m G j
            have hsz : acc.size + (⟨(dig m G j).toArray⟩ : ByteArray).size < 1099511627776 := by rw [hdl]; omega
            have hbw := (hext.trans hx4).trans hext2
            go_wp2_with (at_builtin; go_loud (refine appendBB hrow2 hpb hcs hsz hbw.size ?_ rfl _ hdl rfl); intro v1 w7 hown7 hb7)
            have hgc : grp m = ((grp m).toNat : Int) := by omega
            refine ⟨⟨a' + wd, c' - j, f', I + (grp m).toNat, acc ++ ⟨(dig m G j).toArray⟩, by go_num, by rw [Int.natCast_add, ← hgc], hnext, by omega, by omega, by rw [ByteArray.size_append, hdl]; omega, by rw [Int.natCast_add]; omega, hown7, hbw.trans3 hb7, Lib.hid ?_⟩, by show cn - ((I : Int) + grp m).toNat < cn - (I : Int).toNat; omega⟩
            rw [← hR3.out]
            cases rdG m xs f' (a' + wd) (c' - j) with
            | none => rfl
            | some r => simp [ByteArray.append_assoc]
    · obtain rfl : c' = 0 := by omega
      have hcv := hown.conv
      have hR2 := hR.out
      rw [rdG_zero] at hR2
      have hsome := Lib.hid (hSS.out.trans (by rw [← hR2]; rfl) : rdS xs a = some (m, acc ++ ByteArray.empty, a'))
      have hres := hrb.ext (hext); have y0 := hres.cell (i := 0) (v := .int .i64 0) rfl; have y1 := hres.cell (i := 1) (v := .string ⟨#[]⟩) rfl; have y2 := hres.free; have y3 := hres.lt
      clear hR2
      go_wp2_with fail
      have k0 := (hres.set 0 (.int .i64 m)).cell (i := 0) (v := .int .i64 m) rfl
      have k1 := ((hres.set 0 (.int .i64 m)).set 1 (.string acc)).cell (i := 1) (v := .string acc) rfl
      exact bodyPost_ret (v := .tuple #[vSeg m acc, .int .i64 a', .bool true]) (by simp [results, Try.results204, go_sem, k0, k1]) rfl ⟨.inl ⟨m, acc, a', by simpa using hsome.out, rfl⟩, (by repeat (first | exact Ext.refl _ | assumption | refine Ext.drew ?_ | refine Ext.drewN ?_ _ | refine Ext.iter ?_ _ _ | refine Ext.alloc ?_ _ | refine Ext.setCell ?_ (by first | exact Nat.le_refl _ | (simp <;> omega)) _ | refine Ext.trans2 (by assumption) ?_))⟩

theorem l09Read_c (p : Option Addr) (c : Nat) (xs : List Int) (a : Nat) (w : World) (hx : IntsAt w p xs) (hl : xs.length ≤ 1048576) (hb : ∀ x ∈ xs, x = 0 ∨ x = 1) (ha : a ≤ xs.length) :
    Calls Try.prog 204 #[.slice p xs.length c, .int .i64 a] w fun e w' => rdR xs a e ∧ Ext w w' := by
  by_cases h1 : xs.length < a + 11
  · exact l09Read1_c p c xs a w hx hl ha h1
  · by_cases h2 : ¬ (1 ≤ numAt xs a 3 ∧ numAt xs a 3 ≤ 4) ∨ numAt xs (a + 3) 8 = 0 ∨ (xs.length : Int) < a + 11 + textW (numAt xs a 3) (numAt xs (a + 3) 8)
    · exact l09Read2_c p c xs a w hx hl hb (by omega) h2
    · exact l09Read3_c p c xs a w hx hl hb (by omega) (by omega) (by omega) (by omega)
end Go.Proofs.Ytbnpdpmbbppnhaa

