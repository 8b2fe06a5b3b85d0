
/- The reference's payload: bits filled up, elements. -/
import Derived.Test.YtbnpdpmbbppnhaaChan
import Derived.Test.YtbnpdpmbbppnhaaSRead
import Derived.Test.YtbnpdpmbbppnhaaPaySize
import Derived.Test.YtbnpdpmbbppnhaaMsg
import Derived.Test.YtbnpdpmbbppnhaaReadMath
import Derived.Test.YtbnpdpmbbppnhaaMarkI
/-! The reference's payload: bits filled up, elements. -/
namespace Go.Proofs.Ytbnpdpmbbppnhaa
set_option linter.unusedVariables false
set_option linter.unusedSimpArgs false
open Go.RowKit

theorem RowI.sl {B n : Nat} {w : World} {v : Value} {xs : List Int} (h : RowI B w v xs) (hn : xs.length = n) : ∃ p c, v = .slice p n c := by
  obtain ⟨p, c, hv, _⟩ := h.own
  exact ⟨p, c, by rw [hv, hn]⟩
set_option maxHeartbeats 800000 in
set_option maxRecDepth 100000 in
theorem sFill_c (p : Option Addr) (c : Nat) (xs : List Int) (room : Nat) (w : World) (hx : IntsAt w p xs) (hl : xs.length ≤ room) (hr : room ≤ 100000) :
    Calls Try.prog 97 #[.slice p xs.length c, .int .i64 room] w fun e w' => (∃ v, e = .returned v ∧ RowI w.heap.size w' v (padL xs room)) ∧ Ext w w' := by
  have HX := Lib.hid hx; clear hx
  obtain ⟨lf, hlf⟩ : ∃ lf : Nat, lf = room - xs.length := ⟨_, rfl⟩
  obtain ⟨en, hen⟩ : ∃ en : Nat, en = min lf 3 := ⟨_, rfl⟩
  obtain ⟨f, hf⟩ : ∃ f : Nat, f = lf - 3 := ⟨_, rfl⟩
  have hpad : padL xs room = xs ++ List.replicate en 0 ++ patL f := by unfold padL; rw [← hlf, ← hen, ← hf]
  have HPAD := Lib.hid hpad
  have hlen : xs.length + en + f = room := by omega
  have hen3 : en ≤ 3 := by omega
  have hen4 : en < 3 → f = 0 := by omega
  have HLEN := Lib.hid hlen; have HEN := Lib.hid hen4
  clear hpad hlf hen hf hlen hen4
  go_enter Try.func97, Try.ntmps97
  go_wp2_with (go_at_call 173; (with_reducible refine (sOwn_c p c xs _ (HX.out.ext (by repeat (first | exact Ext.refl _ | assumption | refine Ext.drew ?_ | refine Ext.drewN ?_ _ | refine Ext.iter ?_ _ _ | refine Ext.alloc ?_ _ | refine Ext.setCell ?_ (by first | exact Nat.le_refl _ | (simp <;> omega)) _ | refine Ext.trans2 (by assumption) ?_))) (by omega)).mono ?_); rintro e w1 ⟨⟨v1, rfl, hown⟩, hx1⟩)
  go_loopw [5, 6] (fun o i wr => ∃ (j : Nat) (v : Value), j ≤ en ∧ o = v ∧ i = .int .i64 j ∧ RowI w.heap.size wr v (xs ++ List.replicate j 0) ∧ Ext w wr) (fun _ i _ => en - (intOf i).toNat)
  case atStart => exact ⟨0, _, Nat.zero_le _, rfl, rfl, by simpa using hown, hx1⟩
  case round =>
    clear hown hx1
    obtain ⟨j, v, hj, rfl, rfl, hown, hext⟩ := hrel
    obtain ⟨pp, cc, rfl⟩ := hown.sl (n := xs.length + j) (by simp)
    have hsz := hext.below.size
    have hL := HLEN.out
    by_cases hlt : j < en
    · have hd1 : (j : Int) < 3 := by omega
      have hd2 : (xs.length : Int) + j < room := by omega
      have hxl : (xs ++ List.replicate j (0 : Int)).length < 1099511627776 := by simp; omega
      clear hL
      have HREP := Lib.hid (show xs ++ List.replicate (j + 1) (0 : Int) = xs ++ List.replicate j 0 ++ [0] by rw [List.replicate_succ']; simp)
      go_wp2_with (at_builtin; go_loud (refine append1I hown hxl (by omega) ?_ rfl rfl); intro v1 w3 hown3 hb3)
      go_roundw
      case rel => exact ⟨j + 1, _, hlt, rfl, by go_num, by rw [HREP.out]; exact hown3, hext.low hb3 (Nat.le_refl _)⟩
      case measure => simp [intOf]; omega
    · obtain rfl : j = en := by omega
      have hstop : ¬ ((j : Int) < 3 ∧ (xs.length : Int) + j < room) := fun h => by
        have := HEN.out (by omega)
        omega
      clear hL
      by_cases h3 : j < 3
      case' pos => have hd2 : ¬ (xs.length : Int) + j < room := fun h => hstop ⟨by omega, h⟩
      case' neg => have hd1 : ¬ (j : Int) < 3 := by omega
      all_goals
        have HST := Lib.hid hstop; clear hstop
        go_wp2
        try clear hd2
        go_loopw [5, 7] (fun o i wr => ∃ (q : Nat) (v : Value), q ≤ f ∧ o = v ∧ i = .int .i64 q ∧ RowI w.heap.size wr v (xs ++ List.replicate j 0 ++ patL q) ∧ Ext w wr) (fun _ i _ => f - (intOf i).toNat)
        case atStart => exact ⟨0, _, Nat.zero_le _, rfl, rfl, by simpa [patL] using hown, hext⟩
        case round =>
          clear hown hext hsz
          obtain ⟨q, v, hq, rfl, rfl, hown, hext⟩ := hrel
          obtain ⟨pp, cc, rfl⟩ := hown.sl (n := xs.length + j + q) (by simp [patL]; omega)
          have hsz := hext.below.size
          have hL := HLEN.out
          by_cases hlt3 : q < f
          · have hd4 : (xs.length : Int) + j + q < room := by omega
            obtain ⟨u, m6, hu⟩ : ∃ u : Nat, u < 6 ∧ u = q % 6 := ⟨q % 6, Nat.mod_lt _ (by omega), rfl⟩
            have hqm : (q : Int) % 6 = u := by omega
            have hu6 : (u : Int) < 6 := by omega
            have hqt : (q : Int).tmod 6 = u := by rw [Int.tmod_eq_emod_of_nonneg (by omega)]; exact hqm
            obtain ⟨x, hv⟩ : ∃ x : Int, x = [1, 1, 0, 1, 0, 0].getD u 0 := ⟨_, rfl⟩
            have hnew := Blk.new wr #[.int .i64 1, .int .i64 1, .int .i64 0, .int .i64 1, .int .i64 0, .int .i64 0] 2
            have hcell : (wr.alloc (.cells #[.int .i64 1, .int .i64 1, .int .i64 0, .int .i64 1, .int .i64 0, .int .i64 0] 2)).cell? ⟨wr.heap.size, u, none⟩ = some (.int .i64 x) := by
              rw [hv]
              refine hnew.cell ?_
              have : u = 0 ∨ u = 1 ∨ u = 2 ∨ u = 3 ∨ u = 4 ∨ u = 5 := by omega
              rcases this with rfl | rfl | rfl | rfl | rfl | rfl <;> rfl
            have HPS := Lib.hid (show xs ++ List.replicate j 0 ++ patL (q + 1) = xs ++ List.replicate j 0 ++ patL q ++ [x] by rw [patL_succ, hv, hu]; simp)
            have hxl : (xs ++ List.replicate j (0 : Int) ++ patL q).length < 1099511627776 := by simp [patL]; omega
            have hown2 := hown.alloc (.cells #[.int .i64 1, .int .i64 1, .int .i64 0, .int .i64 1, .int .i64 0, .int .i64 0] 2)
            have hE2 := hext.alloc (.cells #[.int .i64 1, .int .i64 1, .int .i64 0, .int .i64 1, .int .i64 0, .int .i64 0] 2)
            clear hv hu hnew hL
            go_wp2_with (at_builtin; go_loud (refine append1I hown2 hxl (by simp; omega) ?_ rfl (by simp [Act.eval])); intro v1 w3 hown3 hb3)
            go_roundw
            case rel => exact ⟨q + 1, _, hlt3, rfl, by go_num, by rw [HPS.out]; exact hown3, hE2.low hb3 (Nat.le_refl _)⟩
            case measure => simp [intOf]; omega
          · obtain rfl : q = f := by omega
            have hd4 : ¬ (xs.length : Int) + j + q < room := by omega
            clear hL
            go_wp2
            go_ret
            exact ⟨⟨_, rfl, by rw [HPAD.out]; exact hown⟩, hext⟩

/-- The numbers of wd bits each. -/
theorem sElements_c (p : Option Addr) (c wd : Nat) (xs : List Int) (w : World) (hx : IntsAt w p xs) (hb : ∀ x ∈ xs, x = 0 ∨ x = 1) (hwd : 1 ≤ wd ∧ wd ≤ 30) (hl : xs.length ≤ 100000) :
    Calls Try.prog 96 #[.int .i64 wd, .slice p xs.length c] w fun e w' => (∃ v, e = .returned v ∧ RowI w.heap.size w' v (elemsL wd xs)) ∧ Ext w w' := by
  have HX := Lib.hid hx; have HB := Lib.hid hb; clear hx hb
  have hrow := RowI.made (B := w.heap.size) (w := w) (Nat.le_refl _)
  have hx0 : Ext w (w.alloc (.cells #[] 2)) := (Ext.refl w).alloc _
  go_enter Try.func96, Try.ntmps96
  go_wp2
  go_loopw [5, 6] (fun o i wr => ∃ (m k : Nat), k = m * wd ∧ k ≤ xs.length ∧ i = .int .i64 k ∧ RowI w.heap.size wr o (elemsTo wd xs m) ∧ Ext w wr) (fun _ i _ => xs.length - (intOf i).toNat)
  case atStart => exact ⟨0, 0, by omega, by omega, rfl, by simpa [elemsTo] using hrow, hx0⟩
  case round =>
    clear hrow hx0
    obtain ⟨m, k, hk, hkl, rfl, hown, hext⟩ := hrel
    have hsz := hext.below.size
    by_cases hlt : k + wd ≤ xs.length
    · have hd : (k : Int) + wd ≤ xs.length := by omega
      have HK := Lib.hid (show k + wd = (m + 1) * wd by rw [Nat.add_mul]; omega)
      have HEL := Lib.hid (show elemsTo wd xs (m + 1) = elemsTo wd xs m ++ [numAt xs k wd] by rw [elemsTo_succ, hk])
      have hme : m < 1000000 := by
        have : m * 1 ≤ m * wd := Nat.mul_le_mul_left m hwd.1
        omega
      have HK0 := Lib.hid hk; clear hk
      go_wp2_with (first
        | (go_at_call 172; (with_reducible refine (l01Number_c p c xs k wd _ (HX.out.ext hext) (by omega) HB.out (by omega) hlt).mono ?_); rintro e w2 ⟨rfl, rfl⟩)
        | (at_builtin; go_loud (refine append1I hown (by rw [elemsTo_len]; omega) (by omega) ?_ rfl rfl); intro v1 w3 hown3 hb3))
      go_roundw
      case rel => exact ⟨m + 1, k + wd, HK.out, hlt, by go_num, by rw [HEL.out]; exact hown3, hext.low hb3 (Nat.le_refl _)⟩
      case measure => simp [intOf]; omega
    · have hd : ¬ (k : Int) + wd ≤ xs.length := by omega
      have hdiv : xs.length / wd = m := by
        rw [Nat.div_eq_iff (by omega)]
        have := hk
        rw [Nat.mul_comm] at this
        rw [Nat.mul_comm]
        omega
      have HF := Lib.hid (show elemsL wd xs = elemsTo wd xs m by unfold elemsL elemsTo; rw [hdiv])
      clear hdiv hk
      go_wp2
      go_ret
      exact ⟨⟨_, rfl, by rw [HF.out]; exact hown⟩, hext⟩
end Go.Proofs.Ytbnpdpmbbppnhaa

/-! EncodePayload. -/
/-! EncodePayload. -/
namespace Go.Proofs.Ytbnpdpmbbppnhaa
set_option linter.unusedVariables false
set_option linter.unusedSimpArgs false
open Go.RowKit

theorem mBits_bit {xs : List Sg} : ∀ x ∈ mBits xs, x = 0 ∨ x = 1 := fun x hx => by
  simp only [mBits, List.mem_flatMap] at hx
  obtain ⟨y, _, hy⟩ := hx
  exact segBits_bit x hy
theorem padL_bit {xs : List Int} {room : Nat} (h : ∀ x ∈ xs, x = 0 ∨ x = 1) : ∀ x ∈ padL xs room, x = 0 ∨ x = 1 := fun x hx => by
  simp only [padL, List.mem_append] at hx
  rcases hx with (hx | hx) | hx
  · exact h x hx
  · exact .inl (List.mem_replicate.1 hx).2
  · simp only [patL, List.mem_map] at hx
    obtain ⟨k, _, rfl⟩ := hx
    have : k % 6 = 0 ∨ k % 6 = 1 ∨ k % 6 = 2 ∨ k % 6 = 3 ∨ k % 6 = 4 ∨ k % 6 = 5 := by omega
    rcases this with h | h | h | h | h | h <;> rw [h] <;> simp
theorem padL_len {xs : List Int} {room : Nat} (h : xs.length ≤ room) : (padL xs room).length = room := by
  simp [padL, patL]; omega
theorem msg_len (t : ByteArray) : ((mBits (bests t t.size)).length : Int) = (cell t t.size).len := by
  rw [mBits_len _ (bests_ok t t.size (Nat.le_refl _)), bests_sum t t.size (Nat.le_refl _)]

open Classical in
noncomputable def epC (p k q : Int) (t : ByteArray) (cap : Int) : Int :=
  if ¬ fldOK p k q then 1 else if ¬ (1 ≤ cap ∧ cap ≤ 1500) then 2 else if ¬ t.size ≤ 400 ∨ 8192 < cap * fW (fldSize p k) ∨ cap * fW (fldSize p k) < (cell t t.size).len then 3 else 0
noncomputable def epL (p k q : Int) (t : ByteArray) (cap : Int) : List Int :=
  if epC p k q t cap = 0 then elemsL (fW (fldSize p k)) (padL (mBits (bests t t.size)) (cap * fW (fldSize p k)).toNat) else []
theorem ep_1 {p k q : Int} {t : ByteArray} {cap : Int} (h1 : ¬ fldOK p k q) : epC p k q t cap = 1 ∧ epL p k q t cap = [] := by
  have hc : epC p k q t cap = 1 := by unfold epC; rw [if_pos h1]
  exact ⟨hc, by unfold epL; rw [hc]; exact if_neg (by omega)⟩
theorem ep_2 {p k q : Int} {t : ByteArray} {cap : Int} (h1 : fldOK p k q) (h2 : ¬ (1 ≤ cap ∧ cap ≤ 1500)) : epC p k q t cap = 2 ∧ epL p k q t cap = [] := by
  have hc : epC p k q t cap = 2 := by unfold epC; rw [if_neg (not_not_intro h1), if_pos h2]
  exact ⟨hc, by unfold epL; rw [hc]; exact if_neg (by omega)⟩
theorem ep_3 {p k q : Int} {t : ByteArray} {cap : Int} (h1 : fldOK p k q) (h2 : 1 ≤ cap ∧ cap ≤ 1500) (h3 : ¬ t.size ≤ 400 ∨ 8192 < cap * fW (fldSize p k) ∨ cap * fW (fldSize p k) < (cell t t.size).len) : epC p k q t cap = 3 ∧ epL p k q t cap = [] := by
  have hc : epC p k q t cap = 3 := by unfold epC; rw [if_neg (not_not_intro h1), if_neg (not_not_intro h2), if_pos h3]
  exact ⟨hc, by unfold epL; rw [hc]; exact if_neg (by omega)⟩
theorem ep_0 {p k q : Int} {t : ByteArray} {cap : Int} (h1 : fldOK p k q) (h2 : 1 ≤ cap ∧ cap ≤ 1500) (h3 : ¬ (¬ t.size ≤ 400 ∨ 8192 < cap * fW (fldSize p k) ∨ cap * fW (fldSize p k) < (cell t t.size).len)) :
    epC p k q t cap = 0 ∧ epL p k q t cap = elemsL (fW (fldSize p k)) (padL (mBits (bests t t.size)) (cap * fW (fldSize p k)).toNat) := by
  have hc : epC p k q t cap = 0 := by unfold epC; rw [if_neg (not_not_intro h1), if_neg (not_not_intro h2), if_neg h3]
  exact ⟨hc, by unfold epL; rw [hc]; exact if_pos rfl⟩

set_option maxHeartbeats 800000 in
set_option maxRecDepth 100000 in
theorem iEncodePayload_c (p k q : Int) (t : ByteArray) (cap : Int) (w : World) (ht : t.size ≤ 1048576) :
    Calls Try.prog 26 #[vFld p k q, .string t, .int .i64 cap] w fun e w' => LC w.heap.size (epL p k q t cap) (epC p k q t cap) e w' ∧ Ext w w' := by
  by_cases h1 : fldOK p k q
  · obtain ⟨hs, hk⟩ := fldSize_bd h1
    have hbd := fW_bd hs
    have hcalc := Lib.hid (fun W => calcOK_c p k q _ h1 rfl W)
    have hcell := Lib.hid (fun W => bestLength_c t W ht)
    have hwd := Lib.hid (fun g W hq => width_c g (fldSize p k) W hq hs)
    by_cases h2 : 1 ≤ cap ∧ cap ≤ 1500
    · obtain ⟨cp, rfl⟩ : ∃ cp : Nat, cap = cp := ⟨cap.toNat, by omega⟩
      have hW : 1 ≤ fW (fldSize p k) ∧ fW (fldSize p k) ≤ 9 := by omega
      obtain ⟨R, hR⟩ : ∃ R : Nat, (cp : Int) * (fW (fldSize p k) : Int) = R := ⟨cp * fW (fldSize p k), by simp⟩
      have hRb : R ≤ 13500 := by
        have : cp * fW (fldSize p k) ≤ 1500 * 9 := Nat.mul_le_mul (by omega) hW.2
        have e : ((cp * fW (fldSize p k) : Nat) : Int) = R := by rw [← hR]; simp
        omega
      have hcl : ∀ h : t.size ≤ 400, 0 ≤ (cell t t.size).len ∧ (cell t t.size).len ≤ 1000000 := cell_len_bd t
      by_cases h3 : ¬ t.size ≤ 400 ∨ 8192 < (cp : Int) * fW (fldSize p k) ∨ (cp : Int) * fW (fldSize p k) < (cell t t.size).len
      · obtain ⟨c1, c2⟩ := ep_3 h1 h2 h3
        rw [c1, c2]
        clear c1 c2 hbd hs
        rw [hR] at h3
        generalize fldSize p k = size at *
        generalize fW size = W at *
        generalize (cell t t.size).len = L at *
        by_cases h4 : t.size ≤ 400
        · have hL := hcl h4
          have h5 : 8192 < (R : Int) ∨ (R : Int) < L := by omega
          clear hcl h3
          by_cases h6 : 8192 < (R : Int)
          · go_enter Try.func26, Try.ntmps26
            go_wp2_with (first
              | (go_at_call 84; (with_reducible refine (hcalc.out _).mono ?_); rintro e w1 ⟨⟨g, b, rfl, hcb⟩, hx1⟩; have qz := hcb.sizeCell)
              | (go_at_call 85; (with_reducible refine (inRange_c _ _ _ _).mono ?_); rintro e w2 ⟨⟨hP, rfl⟩ | ⟨hP, rfl⟩, rfl⟩ <;> try contradiction)
              | (go_at_call 86; (with_reducible refine (hwd.out _ _ qz).mono ?_); rintro e w3 ⟨rfl, hx3⟩)
              | (go_at_call 98; (with_reducible refine (isMessage_c _ _ ht).mono ?_); rintro e w4 ⟨⟨hP4, rfl⟩ | ⟨hP4, rfl⟩, rfl⟩ <;> try contradiction))
            go_ret2
            exact ⟨LC.nil, (by repeat (first | exact Ext.refl _ | assumption | refine Ext.drew ?_ | refine Ext.drewN ?_ _ | refine Ext.iter ?_ _ _ | refine Ext.alloc ?_ _ | refine Ext.setCell ?_ (by first | exact Nat.le_refl _ | (simp <;> omega)) _ | refine Ext.trans2 (by assumption) ?_))⟩
          · have h7 : (R : Int) < L := by omega
            go_enter Try.func26, Try.ntmps26
            go_wp2_with (first
              | (go_at_call 84; (with_reducible refine (hcalc.out _).mono ?_); rintro e w1 ⟨⟨g, b, rfl, hcb⟩, hx1⟩; have qz := hcb.sizeCell)
              | (go_at_call 85; (with_reducible refine (inRange_c _ _ _ _).mono ?_); rintro e w2 ⟨⟨hP, rfl⟩ | ⟨hP, rfl⟩, rfl⟩ <;> try contradiction)
              | (go_at_call 86; (with_reducible refine (hwd.out _ _ qz).mono ?_); rintro e w3 ⟨rfl, hx3⟩)
              | (go_at_call 98; (with_reducible refine (isMessage_c _ _ ht).mono ?_); rintro e w4 ⟨⟨hP4, rfl⟩ | ⟨hP4, rfl⟩, rfl⟩ <;> try contradiction)
              | (go_at_call 87; (with_reducible refine (hcell.out _).mono ?_); rintro e w5 ⟨rfl, hx5⟩))
            go_ret2
            exact ⟨LC.nil, (by repeat (first | exact Ext.refl _ | assumption | refine Ext.drew ?_ | refine Ext.drewN ?_ _ | refine Ext.iter ?_ _ _ | refine Ext.alloc ?_ _ | refine Ext.setCell ?_ (by first | exact Nat.le_refl _ | (simp <;> omega)) _ | refine Ext.trans2 (by assumption) ?_))⟩
        · clear hcl h3
          go_enter Try.func26, Try.ntmps26
          go_wp2_with (first
            | (go_at_call 84; (with_reducible refine (hcalc.out _).mono ?_); rintro e w1 ⟨⟨g, b, rfl, hcb⟩, hx1⟩; have qz := hcb.sizeCell)
            | (go_at_call 85; (with_reducible refine (inRange_c _ _ _ _).mono ?_); rintro e w2 ⟨⟨hP, rfl⟩ | ⟨hP, rfl⟩, rfl⟩ <;> try contradiction)
            | (go_at_call 86; (with_reducible refine (hwd.out _ _ qz).mono ?_); rintro e w3 ⟨rfl, hx3⟩)
            | (go_at_call 98; (with_reducible refine (isMessage_c _ _ ht).mono ?_); rintro e w4 ⟨⟨hP4, rfl⟩ | ⟨hP4, rfl⟩, rfl⟩ <;> try contradiction))
          go_ret2
          exact ⟨LC.nil, (by repeat (first | exact Ext.refl _ | assumption | refine Ext.drew ?_ | refine Ext.drewN ?_ _ | refine Ext.iter ?_ _ _ | refine Ext.alloc ?_ _ | refine Ext.setCell ?_ (by first | exact Nat.le_refl _ | (simp <;> omega)) _ | refine Ext.trans2 (by assumption) ?_))⟩
      · obtain ⟨c1, c2⟩ := ep_0 h1 h2 h3
        rw [c1, c2, hR, Int.toNat_natCast]
        rw [hR] at h3
        have hml := msg_len t
        have h4 : t.size ≤ 400 := by omega
        have hL := hcl h4
        have hmr : (mBits (bests t t.size)).length ≤ R := by omega
        have hpl := padL_len hmr
        have hpb := padL_bit (room := R) (mBits_bit (xs := bests t t.size))
        have hpk := Lib.hid (fun p c W hx => pack_c p c (mBits (bests t t.size)) R W hx hmr (by omega))
        have hel := Lib.hid (fun ch cap W hc => elementsOf_c ch cap (fW (fldSize p k)) (padL (mBits (bests t t.size)) R) W hc hpb (by omega) (by rw [hpl]; omega))
        have ham := Lib.hid (fun W => iAppendMessage_c W.heap.size (.slice none 0 0) [] t W (RowI.nil _ _) (Nat.le_refl _) (by simp) h4)
        clear c1 c2 hpl hpb
        have hL2 : (cell t t.size).len ≤ R := by omega
        have h6 : (R : Int) ≤ 8192 := by omega
        clear hml hcl h3 hmr
        generalize padL (mBits (bests t t.size)) R = PL at *
        generalize mBits (bests t t.size) = MB at *
        clear hs hbd
        generalize fldSize p k = size at *
        generalize fW size = W at *
        generalize (cell t t.size).len = L at *
        go_enter Try.func26, Try.ntmps26
        go_wp2_with (first
          | (go_at_call 84; (with_reducible refine (hcalc.out _).mono ?_); rintro e w1 ⟨⟨g, b, rfl, hcb⟩, hx1⟩; have qz := hcb.sizeCell)
          | (go_at_call 85; (with_reducible refine (inRange_c _ _ _ _).mono ?_); rintro e w2 ⟨⟨hP, rfl⟩ | ⟨hP, rfl⟩, rfl⟩ <;> try contradiction)
          | (go_at_call 86; (with_reducible refine (hwd.out _ _ qz).mono ?_); rintro e w3 ⟨rfl, hx3⟩)
          | (go_at_call 98; (with_reducible refine (isMessage_c _ _ ht).mono ?_); rintro e w4 ⟨⟨hP4, rfl⟩ | ⟨hP4, rfl⟩, rfl⟩ <;> try contradiction)
          | (go_at_call 87; (with_reducible refine (hcell.out _).mono ?_); rintro e w5 ⟨rfl, hx5⟩)
          | (go_at_call 91; (with_reducible refine (ham.out _).mono ?_); rintro e w6 ⟨v6, rfl, hr6, hG6⟩))
        have hx6 : Ext w5 w6 := hG6.toExt (Ext.refl _) (fun k hk => by simp [Value.ownBlock] at hk)
        rw [List.nil_append] at hr6
        obtain ⟨p6, c6, rfl, oq6⟩ := hr6.own
        have OQ6 := Lib.hid oq6.ints
        have hz6 := hx6.below.size
        have hx06 : Ext w w6 := (((((Ext.refl w).alloc _).trans hx1).trans hx3).trans hx5).trans hx6
        have qz6 := (((hcb.ext hx3).ext hx5).ext hx6)
        clear hr6 hG6 oq6
        refine (hpk.out _ _ _ OQ6.out).mono ?_
        rintro e w7 ⟨⟨ch, rfl, hch, hC⟩, hx7⟩
        have qz7 := (qz6.ext hx7).sizeCell
        go_wp2_with (first
          | (go_at_call 86; (with_reducible refine (hwd.out _ _ qz7).mono ?_); rintro e w8 ⟨rfl, hx8⟩))
        refine (hel.out _ _ _ (hC.ext hx8)).mono ?_
        rintro e w9 ⟨⟨v9, rfl, hr9⟩, hbut9⟩
        have hz06 := hx06.below.size
        have hz7 := hx7.below.size
        have hz8 := hx8.below.size
        go_wp2_with fail
        go_ret2
        exact ⟨LC.of (hr9.mono (by omega)), ((hx06.trans hx7).trans hx8).but hbut9 (by omega)⟩
    · obtain ⟨c1, c2⟩ := ep_2 (t := t) h1 h2
      rw [c1, c2]
      clear c1 c2 hbd hs
      generalize fldSize p k = size at *
      go_enter Try.func26, Try.ntmps26
      go_wp2_with (first
        | (go_at_call 84; (with_reducible refine (hcalc.out _).mono ?_); rintro e w1 ⟨⟨g, b, rfl, hcb⟩, hx1⟩)
        | (go_at_call 85; (with_reducible refine (inRange_c _ _ _ _).mono ?_); rintro e w2 ⟨⟨hP, rfl⟩ | ⟨hP, rfl⟩, rfl⟩ <;> try contradiction))
      go_ret2
      exact ⟨LC.nil, (by repeat (first | exact Ext.refl _ | assumption | refine Ext.drew ?_ | refine Ext.drewN ?_ _ | refine Ext.iter ?_ _ _ | refine Ext.alloc ?_ _ | refine Ext.setCell ?_ (by first | exact Nat.le_refl _ | (simp <;> omega)) _ | refine Ext.trans2 (by assumption) ?_))⟩
  · obtain ⟨c1, c2⟩ := ep_1 (t := t) (cap := cap) h1
    rw [c1, c2]
    have hcalc := Lib.hid (fun W => calcNo_c p k q h1 W)
    clear c1 c2
    go_enter Try.func26, Try.ntmps26
    go_wp2_with (first
      | (go_at_call 84; (with_reducible refine (hcalc.out _).mono ?_); rintro e w1 ⟨⟨v, rfl⟩, hx1⟩))
    go_ret2
    exact ⟨LC.nil, (by repeat (first | exact Ext.refl _ | assumption | refine Ext.drew ?_ | refine Ext.drewN ?_ _ | refine Ext.iter ?_ _ _ | refine Ext.alloc ?_ _ | refine Ext.setCell ?_ (by first | exact Nat.le_refl _ | (simp <;> omega)) _ | refine Ext.trans2 (by assumption) ?_))⟩
end Go.Proofs.Ytbnpdpmbbppnhaa

/-! The reference's EncodePayload; the walk of the law FnExactEncodePayload. -/
namespace Go.Proofs.Ytbnpdpmbbppnhaa
set_option linter.unusedVariables false
set_option linter.unusedSimpArgs false
open Go.RowKit

theorem l11Capacity_c (n : Int) (w : World) : Calls Try.prog 93 #[.int .i64 n] w fun e w' => isB e (1 ≤ n ∧ n ≤ 1500) ∧ w = w' := by
  go_enter Try.func93, Try.ntmps93
  go_wp2_with (go_at_call 99; (with_reducible refine (l01In_c _ _ _ _).mono ?_); rintro e w1 ⟨⟨hP, rfl⟩ | ⟨hP, rfl⟩, rfl⟩)
  · go_ret
    exact ⟨isB_t hP, rfl⟩
  · go_ret
    exact ⟨isB_f hP, rfl⟩

set_option maxHeartbeats 800000 in
set_option maxRecDepth 100000 in
theorem sEncodePayload_c (p k q : Int) (t : ByteArray) (cap : Int) (w : World) (ht : t.size ≤ 1048576) :
    Calls Try.prog 27 #[vFld p k q, .string t, .int .i64 cap] w fun e w' => LC w.heap.size (epL p k q t cap) (epC p k q t cap) e w' ∧ Ext w w' := by
  by_cases h1 : fldOK p k q
  · obtain ⟨hs, hk⟩ := fldSize_bd h1
    have hbd := fW_bd hs
    have hwd := Lib.hid (fun W => l11Width_c p k q W h1)
    have hwm : Hid (∀ W, Calls Try.prog 103 #[.slice none 0 0, .string t] W fun e w' => LC W.heap.size (wmList [] t) (wmCode [] t) e w' ∧ Ext W w') := Lib.hid (fun W => sWriteMessage_c none 0 [] t W (IntsAt_nil _ _) (by simp) ht)
    by_cases h2 : 1 ≤ cap ∧ cap ≤ 1500
    · obtain ⟨cp, rfl⟩ : ∃ cp : Nat, cap = cp := ⟨cap.toNat, by omega⟩
      have hW : 1 ≤ fW (fldSize p k) ∧ fW (fldSize p k) ≤ 9 := by omega
      obtain ⟨R, hR⟩ : ∃ R : Nat, (cp : Int) * (fW (fldSize p k) : Int) = R := ⟨cp * fW (fldSize p k), by simp⟩
      have hRb : R ≤ 13500 := by
        have : cp * fW (fldSize p k) ≤ 1500 * 9 := Nat.mul_le_mul (by omega) hW.2
        have e : ((cp * fW (fldSize p k) : Nat) : Int) = R := by rw [← hR]; simp
        omega
      have hib : isBits [] := ⟨by simp, by simp⟩
      by_cases h3 : ¬ t.size ≤ 400 ∨ 8192 < (cell t t.size).len
      · obtain ⟨w1, w2⟩ := wm_lim (xs := []) (s := t) hib (by simpa using h3)
        obtain ⟨c1, c2⟩ : epC p k q t cp = 3 ∧ epL p k q t cp = [] := by
          refine ep_3 h1 h2 ?_
          rcases h3 with h3 | h3
          · exact .inl h3
          · by_cases h8 : 8192 < (cp : Int) * fW (fldSize p k)
            · exact .inr (.inl h8)
            · exact .inr (.inr (by omega))
        rw [c1, c2]
        have hwm2 := hwm.out
        rw [w1, w2] at hwm2
        have HWM := Lib.hid hwm2
        clear c1 c2 w1 w2 hwm2 hbd hs h3
        generalize fldSize p k = size at *
        generalize fW size = W at *
        go_enter Try.func27, Try.ntmps27
        go_wp2_with (first
          | (go_at_call 92; (with_reducible refine (sIsField_c _ _ _ _).mono ?_); rintro e w1 ⟨⟨hP1, rfl⟩ | ⟨hP1, rfl⟩, hx1⟩ <;> (try contradiction); obtain ⟨hc1, hf1, hk1, hz1⟩ := ecell hx1; try simp at hz1)
          | (go_at_call 93; (with_reducible refine (l11Capacity_c _ _).mono ?_); rintro e w2 ⟨⟨hP, rfl⟩ | ⟨hP, rfl⟩, rfl⟩ <;> try contradiction)
          | (go_at_call 94; (with_reducible refine (hwd.out _).mono ?_); rintro e w3 ⟨rfl, hx3⟩)
          | (go_at_call 103; (with_reducible refine (HWM.out _).mono ?_); rintro e w4 ⟨⟨p4, c4, rfl, -, -⟩, hx4⟩))
        go_ret2
        exact ⟨LC.nil, (by repeat (first | exact Ext.refl _ | assumption | refine Ext.drew ?_ | refine Ext.drewN ?_ _ | refine Ext.iter ?_ _ _ | refine Ext.alloc ?_ _ | refine Ext.setCell ?_ (by first | exact Nat.le_refl _ | (simp <;> omega)) _ | refine Ext.trans2 (by assumption) ?_))⟩
      · obtain ⟨w1, w2⟩ := wm_ok (xs := []) (s := t) hib (by omega) (by simpa using fun h => h3 (.inr h))
        rw [List.nil_append] at w2
        have hwm2 := hwm.out
        rw [w1, w2] at hwm2
        have HWM := Lib.hid hwm2
        have hml := msg_len t
        clear w1 w2 hwm2
        by_cases h5 : 8192 < (cp : Int) * fW (fldSize p k) ∨ (cp : Int) * fW (fldSize p k) < (cell t t.size).len
        · obtain ⟨c1, c2⟩ := ep_3 (t := t) h1 h2 (.inr h5)
          rw [c1, c2]
          rw [hR] at h5
          clear c1 c2 hbd hs h3
          generalize mBits (bests t t.size) = MB at *
          generalize fldSize p k = size at *
          generalize fW size = W at *
          generalize (cell t t.size).len = L at *
          by_cases h6 : 8192 < (R : Int)
          all_goals
            go_enter Try.func27, Try.ntmps27
            go_wp2_with (first
              | (go_at_call 92; (with_reducible refine (sIsField_c _ _ _ _).mono ?_); rintro e w1 ⟨⟨hP1, rfl⟩ | ⟨hP1, rfl⟩, hx1⟩ <;> (try contradiction); obtain ⟨hc1, hf1, hk1, hz1⟩ := ecell hx1; try simp at hz1)
              | (go_at_call 93; (with_reducible refine (l11Capacity_c _ _).mono ?_); rintro e w2 ⟨⟨hP, rfl⟩ | ⟨hP, rfl⟩, rfl⟩ <;> try contradiction)
              | (go_at_call 94; (with_reducible refine (hwd.out _).mono ?_); rintro e w3 ⟨rfl, hx3⟩)
              | (go_at_call 103; (with_reducible refine (HWM.out _).mono ?_); rintro e w4 ⟨⟨p4, c4, rfl, -, -⟩, hx4⟩; have hml2 : ¬ (R : Int) ≤ 8192 ∨ (R : Int) < MB.length := by omega))
            all_goals first | (exfalso; omega) | skip
            go_ret2
            exact ⟨LC.nil, (by repeat (first | exact Ext.refl _ | assumption | refine Ext.drew ?_ | refine Ext.drewN ?_ _ | refine Ext.iter ?_ _ _ | refine Ext.alloc ?_ _ | refine Ext.setCell ?_ (by first | exact Nat.le_refl _ | (simp <;> omega)) _ | refine Ext.trans2 (by assumption) ?_))⟩
        · obtain ⟨c1, c2⟩ := ep_0 (t := t) h1 h2 (fun h => by rcases h with h | h; exact h3 (.inl h); exact h5 h)
          rw [c1, c2, hR, Int.toNat_natCast]
          rw [hR] at h5
          have hmr : (mBits (bests t t.size)).length ≤ R := by omega
          have hpl := padL_len hmr
          have hpb := padL_bit (room := R) (mBits_bit (xs := bests t t.size))
          have hpk := Lib.hid (fun p c W hx => sFill_c p c (mBits (bests t t.size)) R W hx hmr (by omega))
          have hel := Lib.hid (fun pp c W hx => sElements_c pp c (fW (fldSize p k)) (padL (mBits (bests t t.size)) R) W hx hpb (by omega) (by rw [hpl]; omega))
          have h6 : (R : Int) ≤ 8192 := by omega
          have h7 : ((mBits (bests t t.size)).length : Int) ≤ R := by omega
          clear c1 c2 hpb hml h3 h5 hmr
          generalize padL (mBits (bests t t.size)) R = PL at *
          generalize mBits (bests t t.size) = MB at *
          clear hs hbd
          generalize fldSize p k = size at *
          generalize fW size = W at *
          have HPL := Lib.hid hpl; clear hpl
          go_enter Try.func27, Try.ntmps27
          go_wp2_with (first
            | (go_at_call 92; (with_reducible refine (sIsField_c _ _ _ _).mono ?_); rintro e w1 ⟨⟨hP1, rfl⟩ | ⟨hP1, rfl⟩, hx1⟩ <;> (try contradiction); obtain ⟨hc1, hf1, hk1, hz1⟩ := ecell hx1; try simp at hz1)
            | (go_at_call 93; (with_reducible refine (l11Capacity_c _ _).mono ?_); rintro e w2 ⟨⟨hP, rfl⟩ | ⟨hP, rfl⟩, rfl⟩ <;> try contradiction)
            | (go_at_call 94; (with_reducible refine (hwd.out _).mono ?_); rintro e w3 ⟨rfl, hx3⟩)
            | (go_at_call 103; (with_reducible refine (HWM.out _).mono ?_); rintro e w4 ⟨⟨p4, c4, rfl, oq4, -⟩, hx4⟩; replace oq4 := Lib.hid oq4.ints)
            | (go_at_call 97; (with_reducible refine (hpk.out _ _ _ oq4.out).mono ?_); rintro e w5 ⟨⟨v5, rfl, hr5⟩, hx5⟩))
          obtain ⟨p5, c5, rfl, oq5⟩ := hr5.own
          have OQ5 := Lib.hid oq5.ints
          clear hr5 oq5
          refine (hel.out _ _ _ OQ5.out).mono ?_
          rintro e w6 ⟨⟨v6, rfl, hr6⟩, hx6⟩
          have hxx : Ext w w5 := (((((Ext.refl w).alloc _).trans hx1).trans hx3).trans hx4).trans hx5
          go_wp2_with fail
          go_ret2
          exact ⟨LC.of (hr6.mono hxx.below.size), hxx.trans hx6⟩
    · obtain ⟨c1, c2⟩ := ep_2 (t := t) h1 h2
      rw [c1, c2]
      clear c1 c2 hbd hs
      go_enter Try.func27, Try.ntmps27
      go_wp2_with (first
        | (go_at_call 92; (with_reducible refine (sIsField_c _ _ _ _).mono ?_); rintro e w1 ⟨⟨hP1, rfl⟩ | ⟨hP1, rfl⟩, hx1⟩ <;> (try contradiction))
        | (go_at_call 93; (with_reducible refine (l11Capacity_c _ _).mono ?_); rintro e w2 ⟨⟨hP, rfl⟩ | ⟨hP, rfl⟩, rfl⟩ <;> try contradiction))
      go_ret2
      exact ⟨LC.nil, (by repeat (first | exact Ext.refl _ | assumption | refine Ext.drew ?_ | refine Ext.drewN ?_ _ | refine Ext.iter ?_ _ _ | refine Ext.alloc ?_ _ | refine Ext.setCell ?_ (by first | exact Nat.le_refl _ | (simp <;> omega)) _ | refine Ext.trans2 (by assumption) ?_))⟩
  · obtain ⟨c1, c2⟩ := ep_1 (t := t) (cap := cap) h1
    rw [c1, c2]
    clear c1 c2
    go_enter Try.func27, Try.ntmps27
    go_wp2_with (first
      | (go_at_call 92; (with_reducible refine (sIsField_c _ _ _ _).mono ?_); rintro e w1 ⟨⟨hP1, rfl⟩ | ⟨hP1, rfl⟩, hx1⟩ <;> (try contradiction)))
    go_ret2
    exact ⟨LC.nil, (by repeat (first | exact Ext.refl _ | assumption | refine Ext.drew ?_ | refine Ext.drewN ?_ _ | refine Ext.iter ?_ _ _ | refine Ext.alloc ?_ _ | refine Ext.setCell ?_ (by first | exact Nat.le_refl _ | (simp <;> omega)) _ | refine Ext.trans2 (by assumption) ?_))⟩
end Go.Proofs.Ytbnpdpmbbppnhaa
