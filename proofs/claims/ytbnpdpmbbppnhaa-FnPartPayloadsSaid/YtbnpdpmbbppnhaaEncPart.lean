
/- EncodePart. -/
import Derived.Test.YtbnpdpmbbppnhaaPart
namespace Go.Proofs.Ytbnpdpmbbppnhaa
set_option linter.unusedVariables false
set_option linter.unusedSimpArgs false
open Go.RowKit

open Classical in
noncomputable def edC (p k q i n y : Int) (t : ByteArray) (cap : Int) : Int :=
  if ¬ fldOK p k q then 1 else if ¬ (partOK i n y t ∧ 1 ≤ cap ∧ cap ≤ 1500) then 2 else if 8192 < cap * fW (fldSize p k) ∨ cap * fW (fldSize p k) < 17 + (cell t t.size).len then 3 else 0
noncomputable def edL (p k q i n y : Int) (t : ByteArray) (cap : Int) : List Int :=
  if edC p k q i n y t cap = 0 then elemsL (fW (fldSize p k)) (padL (partL i n y t) (cap * fW (fldSize p k)).toNat) else []
section
variable {p k q i n y : Int} {t : ByteArray} {cap : Int}
theorem ed_1 (h1 : ¬ fldOK p k q) : edC p k q i n y t cap = 1 ∧ edL p k q i n y t cap = [] := by
  have hc : edC p k q i n y t cap = 1 := by unfold edC; rw [if_pos h1]
  exact ⟨hc, by unfold edL; rw [hc]; exact if_neg (by omega)⟩
theorem ed_2 (h1 : fldOK p k q) (h2 : ¬ (partOK i n y t ∧ 1 ≤ cap ∧ cap ≤ 1500)) : edC p k q i n y t cap = 2 ∧ edL p k q i n y t cap = [] := by
  have hc : edC p k q i n y t cap = 2 := by unfold edC; rw [if_neg (not_not_intro h1), if_pos h2]
  exact ⟨hc, by unfold edL; rw [hc]; exact if_neg (by omega)⟩
theorem ed_3 (h1 : fldOK p k q) (h2 : partOK i n y t ∧ 1 ≤ cap ∧ cap ≤ 1500) (h3 : 8192 < cap * fW (fldSize p k) ∨ cap * fW (fldSize p k) < 17 + (cell t t.size).len) : edC p k q i n y t cap = 3 ∧ edL p k q i n y t cap = [] := by
  have hc : edC p k q i n y t cap = 3 := by unfold edC; rw [if_neg (not_not_intro h1), if_neg (not_not_intro h2), if_pos h3]
  exact ⟨hc, by unfold edL; rw [hc]; exact if_neg (by omega)⟩
theorem ed_0 (h1 : fldOK p k q) (h2 : partOK i n y t ∧ 1 ≤ cap ∧ cap ≤ 1500) (h3 : ¬ (8192 < cap * fW (fldSize p k) ∨ cap * fW (fldSize p k) < 17 + (cell t t.size).len)) :
    edC p k q i n y t cap = 0 ∧ edL p k q i n y t cap = elemsL (fW (fldSize p k)) (padL (partL i n y t) (cap * fW (fldSize p k)).toNat) := by
  have hc : edC p k q i n y t cap = 0 := by unfold edC; rw [if_neg (not_not_intro h1), if_neg (not_not_intro h2), if_neg h3]
  exact ⟨hc, by unfold edL; rw [hc]; exact if_pos rfl⟩
end

set_option maxHeartbeats 1600000 in
set_option maxRecDepth 100000 in
theorem iEncodePart_c (p k q i n y : Int) (t : ByteArray) (cap : Int) (w : World) (ht : t.size ≤ 1048576) :
    Calls Try.prog 19 #[vFld p k q, vPart i n y t, .int .i64 cap] w fun e w' => LC w.heap.size (edL p k q i n y t cap) (edC p k q i n y t cap) e w' ∧ Ext w w' := by
  have hbox : Blk ((w.alloc (.cells #[.int .i64 p, .int .i64 k, .int .i64 q] 25)).alloc (.cells #[.int .i64 i, .int .i64 n, .int .i64 y, .string t] 36)) (w.heap.size + 1) #[.int .i64 i, .int .i64 n, .int .i64 y, .string t] 36 := by
    have := Blk.new (w.alloc (.cells #[.int .i64 p, .int .i64 k, .int .i64 q] 25)) #[.int .i64 i, .int .i64 n, .int .i64 y, .string t] 36
    simpa using this
  by_cases h1 : fldOK p k q
  · obtain ⟨hs, hk⟩ := fldSize_bd h1
    have hbd := fW_bd hs
    have hcalc := Lib.hid (fun W => calcOK_c p k q _ h1 rfl W)
    have hcell := Lib.hid (fun W => bestLength_c t W ht)
    have hwd := Lib.hid (fun g W hq => width_c g (fldSize p k) W hq hs)
    have hip := Lib.hid (fun W => iIsPart_c i n y t W ht)
    by_cases h2 : partOK i n y t ∧ 1 ≤ cap ∧ cap ≤ 1500
    · obtain ⟨hpk, hcp⟩ := h2
      have HPK := Lib.hid hpk
      obtain ⟨cp, rfl⟩ : ∃ cp : Nat, cap = cp := ⟨cap.toNat, by omega⟩
      have hW : 1 ≤ fW (fldSize p k) ∧ fW (fldSize p k) ≤ 9 := by omega
      obtain ⟨R, hR⟩ : ∃ R : Nat, (cp : Int) * (fW (fldSize p k) : Int) = R := ⟨cp * fW (fldSize p k), by simp⟩
      have hRb : R ≤ 13500 := by
        have : cp * fW (fldSize p k) ≤ 1500 * 9 := Nat.mul_le_mul (by omega) hW.2
        have e : ((cp * fW (fldSize p k) : Nat) : Int) = R := by rw [← hR]; simp
        omega
      have hL := cell_len_bd t hpk.2.2.2
      by_cases h3 : 8192 < (cp : Int) * fW (fldSize p k) ∨ (cp : Int) * fW (fldSize p k) < 17 + (cell t t.size).len
      · obtain ⟨c1, c2⟩ := ed_3 h1 ⟨hpk, hcp⟩ h3
        rw [c1, c2]
        clear c1 c2 hbd hs hpk
        rw [hR] at h3
        generalize fldSize p k = size at *
        generalize fW size = W at *
        generalize (cell t t.size).len = L at *
        by_cases h6 : 8192 < (R : Int)
        · go_enter Try.func19, Try.ntmps19
          go_wp2_with (first
            | (go_at_call 84; (with_reducible refine (hcalc.out _).mono ?_); rintro e w1 ⟨⟨g, b, rfl, hcb⟩, hx1⟩; have qz := hcb.sizeCell; have hbx1 := hbox.ext hx1; have q0 := hbx1.cell (i := 0) (v := .int .i64 i) rfl; have q1 := hbx1.cell (i := 1) (v := .int .i64 n) rfl; have q2 := hbx1.cell (i := 2) (v := .int .i64 y) rfl; have q3 := hbx1.cell (i := 3) (v := .string t) rfl; have ql := hbx1.lt)
            | (go_at_call 22; (with_reducible refine (hip.out _).mono ?_); rintro e w2 ⟨⟨hP, rfl⟩ | ⟨hP, rfl⟩, hx2⟩ <;> (first | exact absurd HPK.out hP | skip); have qz2 := (hcb.ext hx2).sizeCell)
            | (go_at_call 85; (with_reducible refine (inRange_c _ _ _ _).mono ?_); rintro e w3 ⟨⟨hP3, rfl⟩ | ⟨hP3, rfl⟩, rfl⟩ <;> try contradiction)
            | (go_at_call 86; (with_reducible refine (hwd.out _ _ qz2).mono ?_); rintro e w4 ⟨rfl, hx4⟩))
          go_ret2
          exact ⟨LC.nil, (by repeat (first | exact Ext.refl _ | assumption | refine Ext.drew ?_ | refine Ext.drewN ?_ _ | refine Ext.iter ?_ _ _ | refine Ext.alloc ?_ _ | refine Ext.setCell ?_ (by first | exact Nat.le_refl _ | (simp <;> omega)) _ | refine Ext.trans2 (by assumption) ?_))⟩
        · have h7 : (R : Int) < 17 + L := by omega
          clear h3
          go_enter Try.func19, Try.ntmps19
          go_wp2_with (first
            | (go_at_call 84; (with_reducible refine (hcalc.out _).mono ?_); rintro e w1 ⟨⟨g, b, rfl, hcb⟩, hx1⟩; have hbx1 := hbox.ext hx1; have q0 := hbx1.cell (i := 0) (v := .int .i64 i) rfl; have q1 := hbx1.cell (i := 1) (v := .int .i64 n) rfl; have q2 := hbx1.cell (i := 2) (v := .int .i64 y) rfl; have q3 := hbx1.cell (i := 3) (v := .string t) rfl; have ql := hbx1.lt)
            | (go_at_call 22; (with_reducible refine (hip.out _).mono ?_); rintro e w2 ⟨⟨hP, rfl⟩ | ⟨hP, rfl⟩, hx2⟩ <;> (first | exact absurd HPK.out hP | skip); have qz2 := (hcb.ext hx2).sizeCell; have hbx2 := hbx1.ext hx2)
            | (go_at_call 85; (with_reducible refine (inRange_c _ _ _ _).mono ?_); rintro e w3 ⟨⟨hP3, rfl⟩ | ⟨hP3, rfl⟩, rfl⟩ <;> try contradiction)
            | (go_at_call 86; (with_reducible refine (hwd.out _ _ qz2).mono ?_); rintro e w4 ⟨rfl, hx4⟩; have hbx4 := hbx2.ext hx4; have r3 := hbx4.cell (i := 3) (v := .string t) rfl; have rl := hbx4.lt)
            | (go_at_call 87; (with_reducible refine (hcell.out _).mono ?_); rintro e w5 ⟨rfl, hx5⟩))
          go_ret2
          exact ⟨LC.nil, (by repeat (first | exact Ext.refl _ | assumption | refine Ext.drew ?_ | refine Ext.drewN ?_ _ | refine Ext.iter ?_ _ _ | refine Ext.alloc ?_ _ | refine Ext.setCell ?_ (by first | exact Nat.le_refl _ | (simp <;> omega)) _ | refine Ext.trans2 (by assumption) ?_))⟩
      · obtain ⟨c1, c2⟩ := ed_0 h1 ⟨hpk, hcp⟩ h3
        rw [c1, c2, hR, Int.toNat_natCast]
        rw [hR] at h3
        have hml := partL_len i n y t
        have hmr : (partL i n y t).length ≤ R := by omega
        have hpl := padL_len hmr
        have hpb := padL_bit (room := R) (partL_bit i n y t)
        have hpck := Lib.hid (fun pp c W hx => pack_c pp c (partL i n y t) R W hx hmr (by omega))
        have hel := Lib.hid (fun ch cc W hc => elementsOf_c ch cc (fW (fldSize p k)) (padL (partL i n y t) R) W hc hpb (by omega) (by rw [hpl]; omega))
        have HPT := Lib.hid (show partL i n y t = bitsOf 5 3 ++ bitsOf i 3 ++ bitsOf (n - 1) 3 ++ bitsOf y 8 ++ mBits (bests t t.size) from rfl)
        obtain ⟨n1, n2, n3, n4⟩ := hpk
        have hn1 : 1 ≤ n := n1.1
        have hn2 : n ≤ 8 := n1.2
        have h6 : (R : Int) ≤ 8192 := by omega
        have hL2 : 17 + (cell t t.size).len ≤ R := by omega
        have T4 := Lib.hid n4
        clear c1 c2 hpl hpb hml h3 hmr hs hbd
        generalize padL (partL i n y t) R = PL at *
        generalize partL i n y t = MB at *
        generalize fldSize p k = size at *
        generalize fW size = W at *
        generalize (cell t t.size).len = L at *
        go_enter Try.func19, Try.ntmps19
        go_wp2_with (first
          | (go_at_call 84; (with_reducible refine (hcalc.out _).mono ?_); rintro e w1 ⟨⟨g, b, rfl, hcb⟩, hx1⟩; have hbx1 := hbox.ext hx1; have q0 := hbx1.cell (i := 0) (v := .int .i64 i) rfl; have q1 := hbx1.cell (i := 1) (v := .int .i64 n) rfl; have q2 := hbx1.cell (i := 2) (v := .int .i64 y) rfl; have q3 := hbx1.cell (i := 3) (v := .string t) rfl; have ql := hbx1.lt)
          | (go_at_call 22; (with_reducible refine (hip.out _).mono ?_); rintro e w2 ⟨⟨hP, rfl⟩ | ⟨hP, rfl⟩, hx2⟩ <;> (first | exact absurd HPK.out hP | skip); have qz2 := (hcb.ext hx2).sizeCell; have hbx2 := hbx1.ext hx2)
          | (go_at_call 85; (with_reducible refine (inRange_c _ _ _ _).mono ?_); rintro e w3 ⟨⟨hP3, rfl⟩ | ⟨hP3, rfl⟩, rfl⟩ <;> try contradiction)
          | (go_at_call 86; (with_reducible refine (hwd.out _ _ qz2).mono ?_); rintro e w4 ⟨rfl, hx4⟩; have hbx4 := hbx2.ext hx4; have r3 := hbx4.cell (i := 3) (v := .string t) rfl; have rl := hbx4.lt)
          | (go_at_call 87; (with_reducible refine (hcell.out _).mono ?_); rintro e w5 ⟨rfl, hx5⟩))
        refine (iAppendNumber_c w5.heap.size (.slice none 0 0) [] 5 3 w5 (RowI.nil _ _) (Nat.le_refl _) (by simp) (by omega) (by omega)).mono ?_
        rintro e w6 ⟨v6, rfl, hr6, hG6⟩
        have hx56 : Ext w5 w6 := hG6.toExt (Ext.refl _) (fun k hk => by simp [Value.ownBlock] at hk)
        have hbx6 := (hbx4.ext hx5).ext hx56
        have r0 := hbx6.cell (i := 0) (v := .int .i64 i) rfl
        have r1 := hbx6.cell (i := 1) (v := .int .i64 n) rfl
        have r2 := hbx6.cell (i := 2) (v := .int .i64 y) rfl
        have r3 := hbx6.cell (i := 3) (v := .string t) rfl
        have rl := hbx6.lt
        clear hG6
        go_wp2_with fail
        refine (iAppendNumber_c w5.heap.size v6 ([] ++ bitsOf 5 3) (i) 3 w6 hr6 hx56.below.size (by simp [bitsOf_len]) (by omega) (by omega)).mono ?_
        rintro e w7 ⟨v7, rfl, hr7, hG7⟩
        have hx57 : Ext w5 w7 := hG7.toExt hx56 (fun k hk => (hr6.lt k hk).1)
        have hbx7 := (hbx4.ext hx5).ext hx57
        have r0 := hbx7.cell (i := 0) (v := .int .i64 i) rfl
        have r1 := hbx7.cell (i := 1) (v := .int .i64 n) rfl
        have r2 := hbx7.cell (i := 2) (v := .int .i64 y) rfl
        have r3 := hbx7.cell (i := 3) (v := .string t) rfl
        have rl := hbx7.lt
        clear hG7
        go_wp2_with fail
        refine (iAppendNumber_c w5.heap.size v7 ([] ++ bitsOf 5 3 ++ bitsOf i 3) (n - 1) 3 w7 hr7 hx57.below.size (by simp [bitsOf_len]) (by omega) (by omega)).mono ?_
        rintro e w8 ⟨v8, rfl, hr8, hG8⟩
        have hx58 : Ext w5 w8 := hG8.toExt hx57 (fun k hk => (hr7.lt k hk).1)
        have hbx8 := (hbx4.ext hx5).ext hx58
        have r0 := hbx8.cell (i := 0) (v := .int .i64 i) rfl
        have r1 := hbx8.cell (i := 1) (v := .int .i64 n) rfl
        have r2 := hbx8.cell (i := 2) (v := .int .i64 y) rfl
        have r3 := hbx8.cell (i := 3) (v := .string t) rfl
        have rl := hbx8.lt
        clear hG8
        go_wp2_with fail
        refine (iAppendNumber_c w5.heap.size v8 ([] ++ bitsOf 5 3 ++ bitsOf i 3 ++ bitsOf (n - 1) 3) (y) 8 w8 hr8 hx58.below.size (by simp [bitsOf_len]) (by omega) (by omega)).mono ?_
        rintro e w9 ⟨v9, rfl, hr9, hG9⟩
        have hx59 : Ext w5 w9 := hG9.toExt hx58 (fun k hk => (hr8.lt k hk).1)
        have hbx9 := (hbx4.ext hx5).ext hx59
        have r0 := hbx9.cell (i := 0) (v := .int .i64 i) rfl
        have r1 := hbx9.cell (i := 1) (v := .int .i64 n) rfl
        have r2 := hbx9.cell (i := 2) (v := .int .i64 y) rfl
        have r3 := hbx9.cell (i := 3) (v := .string t) rfl
        have rl := hbx9.lt
        clear hG9
        go_wp2_with fail
        refine (iAppendMessage_c w5.heap.size v9 ([] ++ bitsOf 5 3 ++ bitsOf i 3 ++ bitsOf (n - 1) 3 ++ bitsOf y 8) t w9 hr9 hx59.below.size (by simp [bitsOf_len]) T4.out).mono ?_
        rintro e w10 ⟨v10, rfl, hr10, hG10⟩
        have hx510 : Ext w5 w10 := hG10.toExt hx59 (fun k hk => (hr9.lt k hk).1)
        rw [List.nil_append, ← HPT.out] at hr10
        obtain ⟨p10, c10, rfl, oq10⟩ := hr10.own
        have OQ10 := Lib.hid oq10.ints
        have hx05 : Ext w w5 := ((((((Ext.refl w).alloc _).alloc _).trans hx1).trans hx2).trans hx4).trans hx5
        have hx010 := hx05.trans hx510
        have qz10 := ((((hcb.ext hx2).ext hx4).ext hx5).ext hx510)
        clear hr10 hG10 oq10 hr9 hr8 hr7 hr6
        go_wp2_with fail
        refine (hpck.out _ _ _ OQ10.out).mono ?_
        rintro e w11 ⟨⟨ch, rfl, hch, hC⟩, hx11⟩
        have qz11 := (qz10.ext hx11).sizeCell
        go_wp2_with (first
          | (go_at_call 86; (with_reducible refine (hwd.out _ _ qz11).mono ?_); rintro e w12 ⟨rfl, hx12⟩))
        refine (hel.out _ _ _ (hC.ext hx12)).mono ?_
        rintro e w13 ⟨⟨v13, rfl, hr13⟩, hbut13⟩
        have hz010 := hx010.below.size
        have hz11 := hx11.below.size
        have hz12 := hx12.below.size
        go_wp2_with fail
        go_ret2
        exact ⟨LC.of (hr13.mono (by omega)), ((hx010.trans hx11).trans hx12).but hbut13 (by omega)⟩
    · obtain ⟨c1, c2⟩ := ed_2 h1 h2
      rw [c1, c2]
      clear c1 c2 hbd hs
      generalize fldSize p k = size at *
      by_cases h3 : partOK i n y t
      · have h4 : ¬ (1 ≤ cap ∧ cap ≤ 1500) := fun h => h2 ⟨h3, h⟩
        have HPK := Lib.hid h3
        clear h2 h3
        go_enter Try.func19, Try.ntmps19
        go_wp2_with (first
          | (go_at_call 84; (with_reducible refine (hcalc.out _).mono ?_); rintro e w1 ⟨⟨g, b, rfl, hcb⟩, hx1⟩; have hbx1 := hbox.ext hx1; have q0 := hbx1.cell (i := 0) (v := .int .i64 i) rfl; have q1 := hbx1.cell (i := 1) (v := .int .i64 n) rfl; have q2 := hbx1.cell (i := 2) (v := .int .i64 y) rfl; have q3 := hbx1.cell (i := 3) (v := .string t) rfl; have ql := hbx1.lt)
          | (go_at_call 22; (with_reducible refine (hip.out _).mono ?_); rintro e w2 ⟨⟨hP, rfl⟩ | ⟨hP, rfl⟩, hx2⟩ <;> (first | exact absurd HPK.out hP | skip))
          | (go_at_call 85; (with_reducible refine (inRange_c _ _ _ _).mono ?_); rintro e w3 ⟨⟨hP3, rfl⟩ | ⟨hP3, rfl⟩, rfl⟩ <;> try contradiction))
        go_ret2
        exact ⟨LC.nil, (by repeat (first | exact Ext.refl _ | assumption | refine Ext.drew ?_ | refine Ext.drewN ?_ _ | refine Ext.iter ?_ _ _ | refine Ext.alloc ?_ _ | refine Ext.setCell ?_ (by first | exact Nat.le_refl _ | (simp <;> omega)) _ | refine Ext.trans2 (by assumption) ?_))⟩
      · have HPK := Lib.hid h3
        clear h2 h3
        go_enter Try.func19, Try.ntmps19
        go_wp2_with (first
          | (go_at_call 84; (with_reducible refine (hcalc.out _).mono ?_); rintro e w1 ⟨⟨g, b, rfl, hcb⟩, hx1⟩; have hbx1 := hbox.ext hx1; have q0 := hbx1.cell (i := 0) (v := .int .i64 i) rfl; have q1 := hbx1.cell (i := 1) (v := .int .i64 n) rfl; have q2 := hbx1.cell (i := 2) (v := .int .i64 y) rfl; have q3 := hbx1.cell (i := 3) (v := .string t) rfl; have ql := hbx1.lt)
          | (go_at_call 22; (with_reducible refine (hip.out _).mono ?_); rintro e w2 ⟨⟨hP, rfl⟩ | ⟨hP, rfl⟩, hx2⟩ <;> (first | exact absurd hP HPK.out | skip)))
        go_ret2
        exact ⟨LC.nil, (by repeat (first | exact Ext.refl _ | assumption | refine Ext.drew ?_ | refine Ext.drewN ?_ _ | refine Ext.iter ?_ _ _ | refine Ext.alloc ?_ _ | refine Ext.setCell ?_ (by first | exact Nat.le_refl _ | (simp <;> omega)) _ | refine Ext.trans2 (by assumption) ?_))⟩
  · obtain ⟨c1, c2⟩ := ed_1 (i := i) (n := n) (y := y) (t := t) (cap := cap) h1
    rw [c1, c2]
    have hcalc := Lib.hid (fun W => calcNo_c p k q h1 W)
    clear c1 c2
    go_enter Try.func19, Try.ntmps19
    go_wp2_with (first
      | (go_at_call 84; (with_reducible refine (hcalc.out _).mono ?_); rintro e w1 ⟨⟨v, rfl⟩, hx1⟩))
    go_ret2
    exact ⟨LC.nil, (by repeat (first | exact Ext.refl _ | assumption | refine Ext.drew ?_ | refine Ext.drewN ?_ _ | refine Ext.iter ?_ _ _ | refine Ext.alloc ?_ _ | refine Ext.setCell ?_ (by first | exact Nat.le_refl _ | (simp <;> omega)) _ | refine Ext.trans2 (by assumption) ?_))⟩

set_option maxHeartbeats 1600000 in
set_option maxRecDepth 100000 in
theorem sEncodePart_c (p k q i n y : Int) (t : ByteArray) (cap : Int) (w : World) (ht : t.size ≤ 1048576) :
    Calls Try.prog 20 #[vFld p k q, vPart i n y t, .int .i64 cap] w fun e w' => LC w.heap.size (edL p k q i n y t cap) (edC p k q i n y t cap) e w' ∧ Ext w w' := by
  have hbox : Blk ((w.alloc (.cells #[.int .i64 p, .int .i64 k, .int .i64 q] 25)).alloc (.cells #[.int .i64 i, .int .i64 n, .int .i64 y, .string t] 36)) (w.heap.size + 1) #[.int .i64 i, .int .i64 n, .int .i64 y, .string t] 36 := by
    have := Blk.new (w.alloc (.cells #[.int .i64 p, .int .i64 k, .int .i64 q] 25)) #[.int .i64 i, .int .i64 n, .int .i64 y, .string t] 36
    simpa using this
  have fbox := (Blk.new w #[.int .i64 p, .int .i64 k, .int .i64 q] 25).alloc (.cells #[.int .i64 i, .int .i64 n, .int .i64 y, .string t] 36)
  have hx00 : Ext w ((w.alloc (.cells #[.int .i64 p, .int .i64 k, .int .i64 q] 25)).alloc (.cells #[.int .i64 i, .int .i64 n, .int .i64 y, .string t] 36)) := ((Ext.refl w).alloc _).alloc _
  by_cases h1 : fldOK p k q
  · obtain ⟨hs, hk⟩ := fldSize_bd h1
    have hbd := fW_bd hs
    have hwd := Lib.hid (fun W => l11Width_c p k q W h1)
    have hip := Lib.hid (fun W => sIsPart_c i n y t W ht)
    by_cases h2 : partOK i n y t ∧ 1 ≤ cap ∧ cap ≤ 1500
    · obtain ⟨hpk, hcp⟩ := h2
      have HPK := Lib.hid hpk
      have hlb := Lib.hid (fun W => l12Bits_c i n y t W hpk)
      obtain ⟨cp, rfl⟩ : ∃ cp : Nat, cap = cp := ⟨cap.toNat, by omega⟩
      have hW : 1 ≤ fW (fldSize p k) ∧ fW (fldSize p k) ≤ 9 := by omega
      obtain ⟨R, hR⟩ : ∃ R : Nat, (cp : Int) * (fW (fldSize p k) : Int) = R := ⟨cp * fW (fldSize p k), by simp⟩
      have hRb : R ≤ 13500 := by
        have : cp * fW (fldSize p k) ≤ 1500 * 9 := Nat.mul_le_mul (by omega) hW.2
        have e : ((cp * fW (fldSize p k) : Nat) : Int) = R := by rw [← hR]; simp
        omega
      have hml := partL_len i n y t
      have hL := cell_len_bd t hpk.2.2.2
      by_cases h3 : 8192 < (cp : Int) * fW (fldSize p k) ∨ (cp : Int) * fW (fldSize p k) < 17 + (cell t t.size).len
      · obtain ⟨c1, c2⟩ := ed_3 h1 ⟨hpk, hcp⟩ h3
        rw [c1, c2]
        clear c1 c2 hbd hs hpk
        rw [hR] at h3
        have h7 : 8192 < (R : Int) ∨ (R : Int) < (partL i n y t).length := by omega
        have hml2 : (partL i n y t).length ≤ 2000000 := by omega
        clear h3 hml
        generalize partL i n y t = MB at *
        generalize fldSize p k = size at *
        generalize fW size = W at *
        by_cases h6 : 8192 < (R : Int)
        · go_enter Try.func20, Try.ntmps20
          go_wp2_with (first | (go_at_call 92; (with_reducible refine (sIsField_c _ _ _ _).mono ?_); rintro e w1 ⟨⟨hP1, rfl⟩ | ⟨hP1, rfl⟩, hx1⟩ <;> (try contradiction); have hbx1 := hbox.ext hx1; have q0 := hbx1.cell (i := 0) (v := .int .i64 i) rfl; have q1 := hbx1.cell (i := 1) (v := .int .i64 n) rfl; have q2 := hbx1.cell (i := 2) (v := .int .i64 y) rfl; have q3 := hbx1.cell (i := 3) (v := .string t) rfl; have ql := hbx1.lt; have fbx1 := fbox.ext hx1; have f0 := fbx1.cell (i := 0) (v := .int .i64 p) rfl; have f1 := fbx1.cell (i := 1) (v := .int .i64 k) rfl; have f2 := fbx1.cell (i := 2) (v := .int .i64 q) rfl; have fl := fbx1.lt) | (go_at_call 23; (with_reducible refine (hip.out _).mono ?_); rintro e w2 ⟨⟨hP, rfl⟩ | ⟨hP, rfl⟩, hx2⟩ <;> (first | exact absurd HPK.out hP | skip); have hbx2 := hbx1.ext hx2; have q0 := hbx2.cell (i := 0) (v := .int .i64 i) rfl; have q1 := hbx2.cell (i := 1) (v := .int .i64 n) rfl; have q2 := hbx2.cell (i := 2) (v := .int .i64 y) rfl; have q3 := hbx2.cell (i := 3) (v := .string t) rfl; have ql := hbx2.lt; have fbx2 := fbx1.ext hx2; have f0 := fbx2.cell (i := 0) (v := .int .i64 p) rfl; have f1 := fbx2.cell (i := 1) (v := .int .i64 k) rfl; have f2 := fbx2.cell (i := 2) (v := .int .i64 q) rfl; have fl := fbx2.lt) | (go_at_call 93; (with_reducible refine (l11Capacity_c _ _).mono ?_); rintro e w3 ⟨⟨hP3, rfl⟩ | ⟨hP3, rfl⟩, rfl⟩ <;> try contradiction) | (go_at_call 94; (with_reducible refine (hwd.out _).mono ?_); rintro e w4 ⟨rfl, hx4⟩; have hbx4 := hbx2.ext hx4; have q0 := hbx4.cell (i := 0) (v := .int .i64 i) rfl; have q1 := hbx4.cell (i := 1) (v := .int .i64 n) rfl; have q2 := hbx4.cell (i := 2) (v := .int .i64 y) rfl; have q3 := hbx4.cell (i := 3) (v := .string t) rfl; have ql := hbx4.lt; have fbx4 := fbx2.ext hx4; have f0 := fbx4.cell (i := 0) (v := .int .i64 p) rfl; have f1 := fbx4.cell (i := 1) (v := .int .i64 k) rfl; have f2 := fbx4.cell (i := 2) (v := .int .i64 q) rfl; have fl := fbx4.lt) | (go_at_call 95; (with_reducible refine (hlb.out _).mono ?_); rintro e w5 ⟨⟨v5, rfl, hr5⟩, hx5⟩; obtain ⟨p5, c5, rfl, oq5⟩ := hr5.own; replace oq5 := Lib.hid oq5.ints; clear hr5))
          go_ret2
          exact ⟨LC.nil, (by repeat (first | exact Ext.refl _ | assumption | refine Ext.drew ?_ | refine Ext.drewN ?_ _ | refine Ext.iter ?_ _ _ | refine Ext.alloc ?_ _ | refine Ext.setCell ?_ (by first | exact Nat.le_refl _ | (simp <;> omega)) _ | refine Ext.trans2 (by assumption) ?_))⟩
        · have h8 : (R : Int) < MB.length := by omega
          clear h7
          go_enter Try.func20, Try.ntmps20
          go_wp2_with (first | (go_at_call 92; (with_reducible refine (sIsField_c _ _ _ _).mono ?_); rintro e w1 ⟨⟨hP1, rfl⟩ | ⟨hP1, rfl⟩, hx1⟩ <;> (try contradiction); have hbx1 := hbox.ext hx1; have q0 := hbx1.cell (i := 0) (v := .int .i64 i) rfl; have q1 := hbx1.cell (i := 1) (v := .int .i64 n) rfl; have q2 := hbx1.cell (i := 2) (v := .int .i64 y) rfl; have q3 := hbx1.cell (i := 3) (v := .string t) rfl; have ql := hbx1.lt; have fbx1 := fbox.ext hx1; have f0 := fbx1.cell (i := 0) (v := .int .i64 p) rfl; have f1 := fbx1.cell (i := 1) (v := .int .i64 k) rfl; have f2 := fbx1.cell (i := 2) (v := .int .i64 q) rfl; have fl := fbx1.lt) | (go_at_call 23; (with_reducible refine (hip.out _).mono ?_); rintro e w2 ⟨⟨hP, rfl⟩ | ⟨hP, rfl⟩, hx2⟩ <;> (first | exact absurd HPK.out hP | skip); have hbx2 := hbx1.ext hx2; have q0 := hbx2.cell (i := 0) (v := .int .i64 i) rfl; have q1 := hbx2.cell (i := 1) (v := .int .i64 n) rfl; have q2 := hbx2.cell (i := 2) (v := .int .i64 y) rfl; have q3 := hbx2.cell (i := 3) (v := .string t) rfl; have ql := hbx2.lt; have fbx2 := fbx1.ext hx2; have f0 := fbx2.cell (i := 0) (v := .int .i64 p) rfl; have f1 := fbx2.cell (i := 1) (v := .int .i64 k) rfl; have f2 := fbx2.cell (i := 2) (v := .int .i64 q) rfl; have fl := fbx2.lt) | (go_at_call 93; (with_reducible refine (l11Capacity_c _ _).mono ?_); rintro e w3 ⟨⟨hP3, rfl⟩ | ⟨hP3, rfl⟩, rfl⟩ <;> try contradiction) | (go_at_call 94; (with_reducible refine (hwd.out _).mono ?_); rintro e w4 ⟨rfl, hx4⟩; have hbx4 := hbx2.ext hx4; have q0 := hbx4.cell (i := 0) (v := .int .i64 i) rfl; have q1 := hbx4.cell (i := 1) (v := .int .i64 n) rfl; have q2 := hbx4.cell (i := 2) (v := .int .i64 y) rfl; have q3 := hbx4.cell (i := 3) (v := .string t) rfl; have ql := hbx4.lt; have fbx4 := fbx2.ext hx4; have f0 := fbx4.cell (i := 0) (v := .int .i64 p) rfl; have f1 := fbx4.cell (i := 1) (v := .int .i64 k) rfl; have f2 := fbx4.cell (i := 2) (v := .int .i64 q) rfl; have fl := fbx4.lt) | (go_at_call 95; (with_reducible refine (hlb.out _).mono ?_); rintro e w5 ⟨⟨v5, rfl, hr5⟩, hx5⟩; obtain ⟨p5, c5, rfl, oq5⟩ := hr5.own; replace oq5 := Lib.hid oq5.ints; clear hr5))
          go_ret2
          exact ⟨LC.nil, (by repeat (first | exact Ext.refl _ | assumption | refine Ext.drew ?_ | refine Ext.drewN ?_ _ | refine Ext.iter ?_ _ _ | refine Ext.alloc ?_ _ | refine Ext.setCell ?_ (by first | exact Nat.le_refl _ | (simp <;> omega)) _ | refine Ext.trans2 (by assumption) ?_))⟩
      · obtain ⟨c1, c2⟩ := ed_0 h1 ⟨hpk, hcp⟩ h3
        rw [c1, c2, hR, Int.toNat_natCast]
        rw [hR] at h3
        have hmr : (partL i n y t).length ≤ R := by omega
        have hpl := padL_len hmr
        have hpb := padL_bit (room := R) (partL_bit i n y t)
        have hpck := Lib.hid (fun pp c W hx => sFill_c pp c (partL i n y t) R W hx hmr (by omega))
        have hel := Lib.hid (fun pp cc W hx => sElements_c pp cc (fW (fldSize p k)) (padL (partL i n y t) R) W hx hpb (by omega) (by rw [hpl]; omega))
        have h6 : (R : Int) ≤ 8192 := by omega
        have h8 : ((partL i n y t).length : Int) ≤ R := by omega
        have HPL := Lib.hid hpl
        clear c1 c2 hpl hpb hml h3 hmr hs hbd hpk
        generalize padL (partL i n y t) R = PL at *
        generalize partL i n y t = MB at *
        generalize fldSize p k = size at *
        generalize fW size = W at *
        go_enter Try.func20, Try.ntmps20
        go_wp2_with (first | (go_at_call 92; (with_reducible refine (sIsField_c _ _ _ _).mono ?_); rintro e w1 ⟨⟨hP1, rfl⟩ | ⟨hP1, rfl⟩, hx1⟩ <;> (try contradiction); have hbx1 := hbox.ext hx1; have q0 := hbx1.cell (i := 0) (v := .int .i64 i) rfl; have q1 := hbx1.cell (i := 1) (v := .int .i64 n) rfl; have q2 := hbx1.cell (i := 2) (v := .int .i64 y) rfl; have q3 := hbx1.cell (i := 3) (v := .string t) rfl; have ql := hbx1.lt; have fbx1 := fbox.ext hx1; have f0 := fbx1.cell (i := 0) (v := .int .i64 p) rfl; have f1 := fbx1.cell (i := 1) (v := .int .i64 k) rfl; have f2 := fbx1.cell (i := 2) (v := .int .i64 q) rfl; have fl := fbx1.lt) | (go_at_call 23; (with_reducible refine (hip.out _).mono ?_); rintro e w2 ⟨⟨hP, rfl⟩ | ⟨hP, rfl⟩, hx2⟩ <;> (first | exact absurd HPK.out hP | skip); have hbx2 := hbx1.ext hx2; have q0 := hbx2.cell (i := 0) (v := .int .i64 i) rfl; have q1 := hbx2.cell (i := 1) (v := .int .i64 n) rfl; have q2 := hbx2.cell (i := 2) (v := .int .i64 y) rfl; have q3 := hbx2.cell (i := 3) (v := .string t) rfl; have ql := hbx2.lt; have fbx2 := fbx1.ext hx2; have f0 := fbx2.cell (i := 0) (v := .int .i64 p) rfl; have f1 := fbx2.cell (i := 1) (v := .int .i64 k) rfl; have f2 := fbx2.cell (i := 2) (v := .int .i64 q) rfl; have fl := fbx2.lt) | (go_at_call 93; (with_reducible refine (l11Capacity_c _ _).mono ?_); rintro e w3 ⟨⟨hP3, rfl⟩ | ⟨hP3, rfl⟩, rfl⟩ <;> try contradiction) | (go_at_call 94; (with_reducible refine (hwd.out _).mono ?_); rintro e w4 ⟨rfl, hx4⟩; have hbx4 := hbx2.ext hx4; have q0 := hbx4.cell (i := 0) (v := .int .i64 i) rfl; have q1 := hbx4.cell (i := 1) (v := .int .i64 n) rfl; have q2 := hbx4.cell (i := 2) (v := .int .i64 y) rfl; have q3 := hbx4.cell (i := 3) (v := .string t) rfl; have ql := hbx4.lt; have fbx4 := fbx2.ext hx4; have f0 := fbx4.cell (i := 0) (v := .int .i64 p) rfl; have f1 := fbx4.cell (i := 1) (v := .int .i64 k) rfl; have f2 := fbx4.cell (i := 2) (v := .int .i64 q) rfl; have fl := fbx4.lt) | (go_at_call 95; (with_reducible refine (hlb.out _).mono ?_); rintro e w5 ⟨⟨v5, rfl, hr5⟩, hx5⟩; obtain ⟨p5, c5, rfl, oq5⟩ := hr5.own; replace oq5 := Lib.hid oq5.ints; clear hr5) | (go_at_call 97; (with_reducible refine (hpck.out _ _ _ oq5.out).mono ?_); rintro e w6 ⟨⟨v6, rfl, hr6⟩, hx6⟩; obtain ⟨p6, c6, rfl, oq6⟩ := hr6.own; replace oq6 := Lib.hid oq6.ints; clear hr6) | (go_at_call 96; (with_reducible refine (hel.out _ _ _ oq6.out).mono ?_); rintro e w7 ⟨⟨v7, rfl, hr7⟩, hx7⟩))
        go_ret2
        have hxx : Ext w w6 := ((((hx00.trans hx1).trans hx2).trans hx4).trans hx5).trans hx6
        exact ⟨LC.of (hr7.mono hxx.below.size), hxx.trans hx7⟩
    · obtain ⟨c1, c2⟩ := ed_2 h1 h2
      rw [c1, c2]
      clear c1 c2 hbd hs
      by_cases h3 : partOK i n y t
      · have h4 : ¬ (1 ≤ cap ∧ cap ≤ 1500) := fun h => h2 ⟨h3, h⟩
        have HPK := Lib.hid h3
        clear h2 h3
        go_enter Try.func20, Try.ntmps20
        go_wp2_with (first | (go_at_call 92; (with_reducible refine (sIsField_c _ _ _ _).mono ?_); rintro e w1 ⟨⟨hP1, rfl⟩ | ⟨hP1, rfl⟩, hx1⟩ <;> (try contradiction); have hbx1 := hbox.ext hx1; have q0 := hbx1.cell (i := 0) (v := .int .i64 i) rfl; have q1 := hbx1.cell (i := 1) (v := .int .i64 n) rfl; have q2 := hbx1.cell (i := 2) (v := .int .i64 y) rfl; have q3 := hbx1.cell (i := 3) (v := .string t) rfl; have ql := hbx1.lt; have fbx1 := fbox.ext hx1; have f0 := fbx1.cell (i := 0) (v := .int .i64 p) rfl; have f1 := fbx1.cell (i := 1) (v := .int .i64 k) rfl; have f2 := fbx1.cell (i := 2) (v := .int .i64 q) rfl; have fl := fbx1.lt) | (go_at_call 23; (with_reducible refine (hip.out _).mono ?_); rintro e w2 ⟨⟨hP, rfl⟩ | ⟨hP, rfl⟩, hx2⟩ <;> (first | exact absurd HPK.out hP | skip); have hbx2 := hbx1.ext hx2; have q0 := hbx2.cell (i := 0) (v := .int .i64 i) rfl; have q1 := hbx2.cell (i := 1) (v := .int .i64 n) rfl; have q2 := hbx2.cell (i := 2) (v := .int .i64 y) rfl; have q3 := hbx2.cell (i := 3) (v := .string t) rfl; have ql := hbx2.lt; have fbx2 := fbx1.ext hx2; have f0 := fbx2.cell (i := 0) (v := .int .i64 p) rfl; have f1 := fbx2.cell (i := 1) (v := .int .i64 k) rfl; have f2 := fbx2.cell (i := 2) (v := .int .i64 q) rfl; have fl := fbx2.lt) | (go_at_call 93; (with_reducible refine (l11Capacity_c _ _).mono ?_); rintro e w3 ⟨⟨hP3, rfl⟩ | ⟨hP3, rfl⟩, rfl⟩ <;> try contradiction))
        go_ret2
        exact ⟨LC.nil, (by repeat (first | exact Ext.refl _ | assumption | refine Ext.drew ?_ | refine Ext.drewN ?_ _ | refine Ext.iter ?_ _ _ | refine Ext.alloc ?_ _ | refine Ext.setCell ?_ (by first | exact Nat.le_refl _ | (simp <;> omega)) _ | refine Ext.trans2 (by assumption) ?_))⟩
      · have HPK := Lib.hid h3
        clear h2 h3
        go_enter Try.func20, Try.ntmps20
        go_wp2_with (first | (go_at_call 92; (with_reducible refine (sIsField_c _ _ _ _).mono ?_); rintro e w1 ⟨⟨hP1, rfl⟩ | ⟨hP1, rfl⟩, hx1⟩ <;> (try contradiction); have hbx1 := hbox.ext hx1; have q0 := hbx1.cell (i := 0) (v := .int .i64 i) rfl; have q1 := hbx1.cell (i := 1) (v := .int .i64 n) rfl; have q2 := hbx1.cell (i := 2) (v := .int .i64 y) rfl; have q3 := hbx1.cell (i := 3) (v := .string t) rfl; have ql := hbx1.lt; have fbx1 := fbox.ext hx1; have f0 := fbx1.cell (i := 0) (v := .int .i64 p) rfl; have f1 := fbx1.cell (i := 1) (v := .int .i64 k) rfl; have f2 := fbx1.cell (i := 2) (v := .int .i64 q) rfl; have fl := fbx1.lt) | (go_at_call 23; (with_reducible refine (hip.out _).mono ?_); rintro e w2 ⟨⟨hP, rfl⟩ | ⟨hP, rfl⟩, hx2⟩ <;> (first | exact absurd hP HPK.out | skip)))
        go_ret2
        exact ⟨LC.nil, (by repeat (first | exact Ext.refl _ | assumption | refine Ext.drew ?_ | refine Ext.drewN ?_ _ | refine Ext.iter ?_ _ _ | refine Ext.alloc ?_ _ | refine Ext.setCell ?_ (by first | exact Nat.le_refl _ | (simp <;> omega)) _ | refine Ext.trans2 (by assumption) ?_))⟩
  · obtain ⟨c1, c2⟩ := ed_1 (i := i) (n := n) (y := y) (t := t) (cap := cap) h1
    rw [c1, c2]
    clear c1 c2
    go_enter Try.func20, Try.ntmps20
    go_wp2_with (first
      | (go_at_call 92; (with_reducible refine (sIsField_c _ _ _ _).mono ?_); rintro e w1 ⟨⟨hP1, rfl⟩ | ⟨hP1, rfl⟩, hx1⟩ <;> (try contradiction)))
    go_ret2
    exact ⟨LC.nil, (by repeat (first | exact Ext.refl _ | assumption | refine Ext.drew ?_ | refine Ext.drewN ?_ _ | refine Ext.iter ?_ _ _ | refine Ext.alloc ?_ _ | refine Ext.setCell ?_ (by first | exact Nat.le_refl _ | (simp <;> omega)) _ | refine Ext.trans2 (by assumption) ?_))⟩
theorem edL_len (p k q i n y : Int) (t : ByteArray) (cap : Int) : (edL p k q i n y t cap).length ≤ 8192 := by
  by_cases h : edC p k q i n y t cap = 0
  · unfold edC at h
    split at h
    · omega
    split at h
    · omega
    split at h
    · omega
    · rename_i h1 h2 h3
      obtain ⟨_, hl⟩ := ed_0 (Classical.not_not.1 h1) (Classical.not_not.1 h2) h3
      rw [hl]
      have hp : (padL (partL i n y t) (cap * fW (fldSize p k)).toNat).length = (cap * fW (fldSize p k)).toNat := padL_len (by have := partL_len i n y t; omega)
      unfold elemsL
      rw [List.length_map, List.length_range, hp]
      exact Nat.le_trans (Nat.div_le_self _ _) (by omega)
  · unfold edL
    rw [if_neg h]
    simp
end Go.Proofs.Ytbnpdpmbbppnhaa
