
/- WriteMessage. -/
import Derived.Test.YtbnpdpmbbppnhaaWriteS
import Derived.Test.YtbnpdpmbbppnhaaSegMath3
import Derived.Test.YtbnpdpmbbppnhaaWBest
namespace Go.Proofs.Ytbnpdpmbbppnhaa
set_option linter.unusedVariables false
set_option linter.unusedSimpArgs false
open Go.RowKit

theorem SOwn.grew {α : Type} {f : α → List Value} {k n0 : Nat} {v o : Value} {W wr : World} {p : Option Addr} {xs : List α} (hx : SOwn f k n0 W p xs) (h : Grew v W wr o) (hv : ∀ k, v.ownBlock = some k → k < n0) : SOwn f k n0 wr p xs := fun i hi => by
  obtain ⟨b, o', e, hB, hb, hc, hf⟩ := hx i hi
  have hbk : wr.heap[b]? = W.heap[b]? := h.by_.block b hb fun e => by have := hv b e.symm; omega
  exact ⟨b, o', e, hB, Nat.lt_of_lt_of_le hb h.by_.size, fun j u hu => (World.cell?_of_block (a := ⟨b, o' + i * k + j, none⟩) hbk).trans (hc j u hu), fun j => (World.frozen?_of_block (a := ⟨b, j, none⟩) hbk).trans (hf j)⟩

set_option maxRecDepth 100000 in
theorem iAppendMessage_c (B : Nat) (v : Value) (xs : List Int) (s : ByteArray) (w : World) (hown : RowI B w v xs) (hB : B ≤ w.heap.size) (hl : xs.length ≤ 100000) (hs : s.size ≤ 400) :
    Calls Try.prog 91 #[v, .string s] w fun e w' => GrewI B v w (xs ++ mBits (bests s s.size)) e w' := by
  have hvl : ∀ k, v.ownBlock = some k → k < w.heap.size := fun k hk => (hown.lt k hk).2
  have HVL := Lib.hid hvl; clear hvl
  have hbl := bests_len s s.size
  have hok := Lib.hid (bests_ok s s.size (Nat.le_refl _))
  have hml := mBits_len (bests s s.size) hok.out
  rw [bests_sum s s.size (Nat.le_refl _)] at hml
  have hck := (cell_ok s s.size).2.1
  have hml2 : (mBits (bests s s.size)).length ≤ 10000 := by omega
  clear hml hck
  go_enter Try.func91, Try.ntmps91
  go_wp2_with (go_at_call 165; (with_reducible refine (bestSegments_c s _ (by omega)).mono ?_); rintro e w1 ⟨⟨vs, rfl, hr⟩, hb1⟩; obtain ⟨p1, c1, rfl, oq1⟩ := hr.own segF_len; clear hr)
  generalize hbe : bests s s.size = L at *
  have HBE := Lib.hid hbe; clear hbe
  have hown1 := hown.ext hb1
  have hB1 : B ≤ w1.heap.size := Nat.le_trans hB hb1.below.size
  go_loopw [0, 10] (fun o i wr => ∃ (k : Nat), k ≤ L.length ∧ i = .int .i64 k ∧ RowI B wr o (xs ++ mBits (L.take k)) ∧ Grew v w1 wr o) (fun _ i _ => L.length - (intOf i).toNat)
  case atStart => exact ⟨0, Nat.zero_le _, rfl, by simpa [mBits] using hown1, Grew.refl _ _⟩
  case round =>
    clear hown1 hown
    obtain ⟨k, hk, rfl, hown, hG⟩ := hrel
    have hsz := hG.by_.size
    by_cases hlt : k < L.length
    · obtain ⟨b, o, rfl, hbl, h0, h1⟩ := ((oq1.grew hG HVL.out).sat).two hlt (u := .int .i64 (L[k]'hlt).1) (v := .string (L[k]'hlt).2) rfl
      have hoks := Lib.hid (hok.out _ (List.getElem_mem hlt))
      have hle := mBits_take_le L k
      have hlx : (xs ++ mBits (L.take k)).length ≤ 500000 := by simp; omega
      have hown2 := hown.alloc (.cells #[.int .i64 (L[k]'hlt).1, .string (L[k]'hlt).2] 107)
      have hT := Lib.hid (mBits_take hlt)
      have hGa : Grew v w1 (wr.alloc (.cells #[.int .i64 (L[k]'hlt).1, .string (L[k]'hlt).2] 107)) u0 := hG.trans (Grew.ext ((Ext.refl wr).alloc _))
      go_wp2_with (go_at_call 166; (with_reducible refine (iAppendSegment_c B _ _ _ _ _ hown2 (by simp; omega) hlx hoks.out).mono ?_); rintro e w2 ⟨v2, rfl, hown3, hG3⟩)
      go_roundw
      case rel => exact ⟨k + 1, hlt, by go_num, by rw [hT.out, ← List.append_assoc]; exact hown3, hGa.trans hG3⟩
      case measure => simp [intOf]; omega
    · obtain rfl : k = L.length := by omega
      rw [List.take_length] at hown
      clear oq1
      go_wp2
      go_ret
      exact ⟨_, rfl, by rw [HBE.out]; exact hown, (Grew.ext hb1).trans hG⟩

open Classical in
noncomputable def wmCode (xs : List Int) (s : ByteArray) : Int := if ¬ isBits xs then 1 else if ¬ s.size ≤ 400 ∨ 8192 < (xs.length : Int) + (cell s s.size).len then 3 else 0
noncomputable def wmList (xs : List Int) (s : ByteArray) : List Int := if wmCode xs s = 0 then xs ++ mBits (bests s s.size) else []
theorem wm_ok {xs : List Int} {s : ByteArray} (h1 : isBits xs) (h2 : s.size ≤ 400) (h3 : ¬ 8192 < (xs.length : Int) + (cell s s.size).len) : wmCode xs s = 0 ∧ wmList xs s = xs ++ mBits (bests s s.size) := by
  have hc : wmCode xs s = 0 := by unfold wmCode; rw [if_neg (not_not_intro h1), if_neg (by omega)]
  exact ⟨hc, by unfold wmList; rw [if_pos hc]⟩
theorem wm_lim {xs : List Int} {s : ByteArray} (h1 : isBits xs) (h2 : ¬ s.size ≤ 400 ∨ 8192 < (xs.length : Int) + (cell s s.size).len) : wmCode xs s = 3 ∧ wmList xs s = [] := by
  have hc : wmCode xs s = 3 := by unfold wmCode; rw [if_neg (not_not_intro h1), if_pos h2]
  exact ⟨hc, by unfold wmList; rw [hc]; exact if_neg (by omega)⟩
theorem wm_inv {xs : List Int} {s : ByteArray} (h1 : ¬ isBits xs) : wmCode xs s = 1 ∧ wmList xs s = [] := by
  have hc : wmCode xs s = 1 := by unfold wmCode; rw [if_pos h1]
  exact ⟨hc, by unfold wmList; rw [hc]; exact if_neg (by omega)⟩
theorem wmList_len (xs : List Int) (s : ByteArray) (hl : xs.length ≤ 1048576) : (wmList xs s).length ≤ 50000000 := by
  unfold wmList
  split
  · rename_i h
    have h2 : s.size ≤ 400 := by
      unfold wmCode at h
      split at h
      · omega
      · split at h
        · omega
        · omega
    have hml := mBits_len (bests s s.size) (bests_ok s s.size (Nat.le_refl _))
    rw [bests_sum s s.size (Nat.le_refl _)] at hml
    have hck := (cell_ok s s.size).2.1
    rw [List.length_append]
    omega
  · simp

set_option maxRecDepth 100000 in
theorem sWriteMessage_c (p : Option Addr) (c : Nat) (xs : List Int) (s : ByteArray) (w : World) (hx : IntsAt w p xs) (hl : xs.length ≤ 1048576) (hs : s.size ≤ 1048576) :
    Calls Try.prog 103 #[.slice p xs.length c, .string s] w fun e w' => LC w.heap.size (wmList xs s) (wmCode xs s) e w' ∧ Ext w w' := by
  have hck := cell_ok s s.size
  simp only [Cell.ok] at hck
  by_cases h1 : isBits xs
  · by_cases h2 : s.size ≤ 400
    · by_cases h3 : 8192 < (xs.length : Int) + (cell s s.size).len
      · obtain ⟨hcode, hlist⟩ := wm_lim h1 (.inr h3)
        rw [hcode, hlist]
        clear hcode hlist
        go_enter Try.func103, Try.ntmps103
        go_wp2_with (first
          | (go_at_call 175; (with_reducible refine (sIsBits_c _ _ _ _ (hx.ext (by repeat (first | exact Ext.refl _ | assumption | refine Ext.drew ?_ | refine Ext.drewN ?_ _ | refine Ext.iter ?_ _ _ | refine Ext.alloc ?_ _ | refine Ext.setCell ?_ (by first | exact Nat.le_refl _ | (simp <;> omega)) _ | refine Ext.trans2 (by assumption) ?_))) hl).mono ?_); rintro e w1 ⟨⟨hP, rfl⟩ | ⟨hP, rfl⟩, rfl⟩ <;> try contradiction)
          | (go_at_call 104; (with_reducible refine (sBestLength_c _ _ hs).mono ?_); rintro e w2 ⟨⟨hP, rfl⟩ | ⟨hP, rfl⟩, hb⟩ <;> try contradiction))
        go_ret2
        exact ⟨LC.nil, (by repeat (first | exact Ext.refl _ | assumption | refine Ext.drew ?_ | refine Ext.drewN ?_ _ | refine Ext.iter ?_ _ _ | refine Ext.alloc ?_ _ | refine Ext.setCell ?_ (by first | exact Nat.le_refl _ | (simp <;> omega)) _ | refine Ext.trans2 (by assumption) ?_))⟩
      · obtain ⟨hcode, hlist⟩ := wm_ok h1 h2 h3
        rw [hcode, hlist]
        clear hcode hlist
        have hl8 := h1.1
        have hbl := bests_len s s.size
        have hok := Lib.hid (bests_ok s s.size (Nat.le_refl _))
        have hml := mBits_len (bests s s.size) hok.out
        rw [bests_sum s s.size (Nat.le_refl _)] at hml
        have hml2 : (mBits (bests s s.size)).length ≤ 10000 := by omega
        clear hml
        go_enter Try.func103, Try.ntmps103
        go_wp2_with (first
          | (go_at_call 175; (with_reducible refine (sIsBits_c _ _ _ _ (hx.ext (by repeat (first | exact Ext.refl _ | assumption | refine Ext.drew ?_ | refine Ext.drewN ?_ _ | refine Ext.iter ?_ _ _ | refine Ext.alloc ?_ _ | refine Ext.setCell ?_ (by first | exact Nat.le_refl _ | (simp <;> omega)) _ | refine Ext.trans2 (by assumption) ?_))) hl).mono ?_); rintro e w1 ⟨⟨hP, rfl⟩ | ⟨hP, rfl⟩, rfl⟩ <;> try contradiction)
          | (go_at_call 104; (with_reducible refine (sBestLength_c _ _ hs).mono ?_); rintro e w2 ⟨⟨hP, rfl⟩ | ⟨hP, rfl⟩, hb2⟩ <;> try contradiction)
          | (go_at_call 173; (with_reducible refine (sOwn_c _ _ _ _ (hx.ext hb2) hl).mono ?_); rintro e w3 ⟨⟨v3, rfl, hr3⟩, hb3⟩)
          | (go_at_call 170; (with_reducible refine (sBest_c _ _ hs).mono ?_); rintro e w4 ⟨⟨v4, rfl, hr4⟩, hb4⟩; obtain ⟨p4, c4, rfl, oq4⟩ := hr4.own segF_len; clear hr4))
        have hx4 := (hb2.trans hb3).trans hb4
        have hr5 := (hr3.ext hb4).mono hb2.below.size
        generalize hbe : bests s s.size = L at *
        have HBE := Lib.hid hbe; clear hbe hr3
        go_loopw [8, 10] (fun o i wr => ∃ (k : Nat), k ≤ L.length ∧ i = .int .i64 k ∧ RowI w.heap.size wr o (xs ++ mBits (L.take k)) ∧ Ext w4 wr) (fun _ i _ => L.length - (intOf i).toNat)
        case atStart => exact ⟨0, Nat.zero_le _, rfl, by simpa [mBits] using hr5, Ext.refl _⟩
        case round =>
          clear hr5
          obtain ⟨k, hk, rfl, hown, hext⟩ := hrel
          by_cases hlt : k < L.length
          · obtain ⟨b, o, rfl, hbl, h0, h1⟩ := (oq4.sat.ext hext).two hlt (u := .int .i64 (L[k]'hlt).1) (v := .string (L[k]'hlt).2) rfl
            have hoks := Lib.hid (hok.out _ (List.getElem_mem hlt))
            have hle := mBits_take_le L k
            obtain ⟨ys, hys⟩ : ∃ ys, ys = xs ++ mBits (L.take k) := ⟨_, rfl⟩
            rw [← hys] at hown
            have hlx : ys.length ≤ 500000 := by rw [hys]; simp; omega
            have HY := Lib.hid hys; clear hys
            have hT := Lib.hid (mBits_take hlt)
            obtain ⟨p5, c5, rfl, oq5⟩ := hown.own
            go_wp2_with (go_at_call 171; (with_reducible refine (sWrite_c _ _ _ _ _ _ oq5.ints hlx hoks.out).mono ?_); rintro e w6 ⟨⟨v6, rfl, hr6⟩, hb6⟩)
            go_roundw
            case rel => exact ⟨k + 1, hlt, by go_num, by rw [hT.out, ← List.append_assoc, ← HY.out]; exact hr6.mono (hx4.trans hext).below.size, hext.trans hb6⟩
            case measure => simp [intOf]; omega
          · obtain rfl : k = L.length := by omega
            rw [List.take_length] at hown
            clear oq4
            go_wp2
            go_ret2
            exact ⟨by rw [HBE.out]; exact LC.of hown, hx4.trans hext⟩
    · obtain ⟨hcode, hlist⟩ := wm_lim h1 (.inl h2)
      rw [hcode, hlist]
      clear hcode hlist
      go_enter Try.func103, Try.ntmps103
      go_wp2_with (first
        | (go_at_call 175; (with_reducible refine (sIsBits_c _ _ _ _ (hx.ext (by repeat (first | exact Ext.refl _ | assumption | refine Ext.drew ?_ | refine Ext.drewN ?_ _ | refine Ext.iter ?_ _ _ | refine Ext.alloc ?_ _ | refine Ext.setCell ?_ (by first | exact Nat.le_refl _ | (simp <;> omega)) _ | refine Ext.trans2 (by assumption) ?_))) hl).mono ?_); rintro e w1 ⟨⟨hP, rfl⟩ | ⟨hP, rfl⟩, rfl⟩ <;> try contradiction)
        | (go_at_call 104; (with_reducible refine (sBestLength_c _ _ hs).mono ?_); rintro e w2 ⟨⟨hP, rfl⟩ | ⟨hP, rfl⟩, hb⟩ <;> try contradiction))
      go_ret2
      exact ⟨LC.nil, (by repeat (first | exact Ext.refl _ | assumption | refine Ext.drew ?_ | refine Ext.drewN ?_ _ | refine Ext.iter ?_ _ _ | refine Ext.alloc ?_ _ | refine Ext.setCell ?_ (by first | exact Nat.le_refl _ | (simp <;> omega)) _ | refine Ext.trans2 (by assumption) ?_))⟩
  · obtain ⟨hcode, hlist⟩ := wm_inv (s := s) h1
    rw [hcode, hlist]
    clear hcode hlist
    go_enter Try.func103, Try.ntmps103
    go_wp2_with (first
      | (go_at_call 175; (with_reducible refine (sIsBits_c _ _ _ _ (hx.ext (by repeat (first | exact Ext.refl _ | assumption | refine Ext.drew ?_ | refine Ext.drewN ?_ _ | refine Ext.iter ?_ _ _ | refine Ext.alloc ?_ _ | refine Ext.setCell ?_ (by first | exact Nat.le_refl _ | (simp <;> omega)) _ | refine Ext.trans2 (by assumption) ?_))) hl).mono ?_); rintro e w1 ⟨⟨hP, rfl⟩ | ⟨hP, rfl⟩, rfl⟩ <;> try contradiction))
    go_ret2
    exact ⟨LC.nil, (by repeat (first | exact Ext.refl _ | assumption | refine Ext.drew ?_ | refine Ext.drewN ?_ _ | refine Ext.iter ?_ _ _ | refine Ext.alloc ?_ _ | refine Ext.setCell ?_ (by first | exact Nat.le_refl _ | (simp <;> omega)) _ | refine Ext.trans2 (by assumption) ?_))⟩
end Go.Proofs.Ytbnpdpmbbppnhaa
