/- The walk of the law FnBestSegments. -/
import Derived.Test.YtepneadbddjmjaaDraw10
import Derived.Test.YtepneadbddjmjaaSegOpt
import Derived.Test.YtepneadbddjmjaaWSegsR
namespace Go.Proofs.Ytepneadbddjmjaa
set_option linter.unusedVariables false
set_option linter.unusedSimpArgs false
open Go.RowKit

theorem lb_ge (s : ByteArray) (h : s.size ≤ 60) : (cell s s.size).len ≤ lbV s := by
  by_cases h0 : s.size = 0
  · have e : lbV s = 0 := by unfold lbV lbJ; rw [h0]; rfl
    rw [e, h0]
    exact Int.le_refl _
  · have hm := narrowest_bd s
    have hok : segsOK [(narrowest s, s)] := fun x hx => by
      simp at hx
      subst hx
      exact ⟨hm, (by show 1 ≤ s.size ∧ s.size ≤ 255; omega), narrowest_in s⟩
    have := best_le (s := s) hok (by rw [joined_cons, joined_nil, ByteArray.append_empty])
    rw [segsSum_cons, segsSum_nil] at this
    simp only at this
    have e : lbV s = segLen (narrowest s) s := by
      unfold lbV lbJ segLen
      rw [show (s.size + 254) / 255 = 1 by omega]
      simp only [lbS]
      rw [show mn255 ((s.size : Int) - 255 * (0 : Nat)) = s.size by unfold mn255; rw [if_neg (by omega)]; omega]
      omega
    rw [e]
    omega

/-- The length of the best segmentation. -/
def bestN (s : ByteArray) : Int := (cell s s.size).len
theorem iBestN_c (s : ByteArray) (w : World) (hs : s.size ≤ 1048576) :
    Calls Try.prog 18 #[.string s] w fun e w' => limR s e (bestN s) ∧ Ext w w' := iBestLength_c s w hs
theorem bestN_bd (s : ByteArray) (h : s.size ≤ 400) : 0 ≤ bestN s ∧ bestN s ≤ 7600 := by
  have := cell_ok s s.size
  simp only [Cell.ok] at this
  unfold bestN
  omega
set_option maxRecDepth 100000 in
theorem bestSegs_law (p : Option Addr) (c : Nat) (code : List Int) (w : World) (hx : U8At w p code) (hl : code.length ≤ maxLen) :
    Calls Try.prog 13 #[.slice p code.length c] w fun e w' => e = .returned (.bool true) ∧ Ext w w' := by
  have HX := Lib.hid hx; clear hx
  by_cases h4 : code.length ≤ 4096
  · go_enter Try.func13, Try.ntmps13
    go_wp2_with (first
      | (go_at_call 42; (with_reducible refine (big_c _ _ _ _ hl).mono ?_); rintro e w1 ⟨⟨hP, rfl⟩ | ⟨hP, rfl⟩, rfl⟩ <;> first | (exfalso; omega) | skip)
      | (go_at_call 59; (with_reducible refine (DrawBestSegments_c _ _ _ _ HX.out h4).mono ?_); rintro e w2 ⟨t, rfl, ht, hx2⟩))
    have hlen := bsL_len t
    have hok := Lib.hid (show ∀ x ∈ bsL t, x.2.size ≤ 1048576 from fun x hx => by have := bsL_size t x hx; omega)
    have hB : t.size ≤ 400 → bsL t = bests t t.size ∧ bsC t = 0 := fun h => ⟨if_pos h, if_pos h⟩
    have hC : ¬ t.size ≤ 400 → bsC t = 3 := fun h => if_neg h
    have HB := Lib.hid hB; have HC := Lib.hid hC; clear hB hC
    generalize hL : bsL t = L at *
    generalize hK : bsC t = K at *
    have HL := Lib.hid hL; have HK := Lib.hid hK; clear hL hK
    refine (iBestSegments_c t _ (by omega)).mono ?_
    unfold bsR
    rw [HL.out, HK.out]
    rintro e w3 ⟨⟨p3, c3, rfl, oq3⟩, hx3⟩
    go_wp2_with fail
    refine (sBestSegments_c t _ (by omega)).mono ?_
    unfold bsR
    rw [HL.out, HK.out]
    rintro e w4 ⟨⟨p4, c4, rfl, oq4⟩, hx4⟩
    have hx04 := (hx2.trans hx3).trans hx4
    have sq3 := oq3.sat.ext hx4
    have sq4 := oq4.sat
    go_wp2_with fail
    go_loopw [8] (fun i wr => ∃ k : Nat, k ≤ L.length ∧ i = .int .i64 k ∧ Ext w4 wr) (fun i _ => L.length - (intOf i).toNat)
    case atStart => exact ⟨0, Nat.zero_le _, rfl, Ext.refl _⟩
    case round =>
      obtain ⟨k, hk, rfl, hext⟩ := hrel
      by_cases hlt : k < L.length
      · obtain ⟨b, o, rfl, hbl, h0, h1⟩ := (sq3.ext hext).two hlt (u := .int .i64 (L[k]'hlt).1) (v := .string (L[k]'hlt).2) rfl
        obtain ⟨b2, o2, rfl, hbl2, g0, g1⟩ := (sq4.ext hext).two hlt (u := .int .i64 (L[k]'hlt).1) (v := .string (L[k]'hlt).2) rfl
        have HS3 := Lib.hid sq3; have HS4 := Lib.hid sq4
        clear sq3 sq4 oq3 oq4
        go_wp2
        go_quiet (fail)
        go_wp2
        go_roundw
        case rel => exact ⟨k + 1, hlt, by go_num, hext.drewN _⟩
        case measure => simp [intOf]; omega
      · obtain rfl : k = L.length := by omega
        have HS3 := Lib.hid (sq3.ext hext); have HS4 := Lib.hid sq4
        clear sq3 sq4 oq3 oq4
        have hx5 := hx04.trans hext
        by_cases h60 : t.size ≤ 60
        · obtain ⟨hbb, hk0⟩ := HB.out (by omega)
          subst hk0
          have hokS : segsOK L := by rw [hbb]; exact bests_ok t t.size (Nat.le_refl _)
          have hsum : segsSum L = (cell t t.size).len := by rw [hbb]; exact bests_sum t t.size (Nat.le_refl _)
          have hjo : joined L = t := by rw [hbb]; exact bests_whole t
          have hsl : slA L = (cell t t.size).len ∧ slB L = 0 := ⟨by unfold slA; rw [if_pos ⟨hlen, hokS⟩, hsum], by unfold slB; rw [if_neg (by omega), if_pos hokS]⟩
          have hjj : jnA L = t ∧ jnB L = 0 := by
            have hc : L.length ≤ 400 ∧ segsOK L ∧ (joined L).size ≤ 400 := ⟨hlen, hokS, by rw [hjo]; omega⟩
            exact ⟨by unfold jnA; rw [if_pos hc, hjo], by unfold jnB; rw [if_pos hc]⟩
          have hseg : isSegm t L := ⟨⟨hlen, hokS, by rw [hjo]; omega⟩, hjo⟩
          have hlb := lb_ge t h60
          have HSL := Lib.hid hsl; have HJJ := Lib.hid hjj; have HSG := Lib.hid hseg
          clear hbb hokS hsum hjo hsl hjj hseg hext
          have hd : (t.size : Int) ≤ 60 := by omega
          go_wp2_with (go_at_call 18; (with_reducible refine (iBestLength_c t _ (by omega)).mono ?_); rintro e w5 ⟨⟨_, rfl⟩ | ⟨h9, rfl⟩, hx6⟩ <;> first | (exfalso; omega) | skip)
          refine (iSegmentsLength_c p3 c3 L _ (HS3.out.ext hx6) hok.out (by omega)).mono ?_
          rintro e w6 ⟨hr, hx7⟩
          obtain rfl := hr.fn
          clear hr
          rw [HSL.out.1, HSL.out.2]
          go_wp2_with (go_at_call 16; (with_reducible refine (iLengthBound_c t _ (by omega)).mono ?_); rintro e w7 ⟨⟨_, rfl⟩ | ⟨h9, rfl⟩, hx8⟩ <;> first | (exfalso; omega) | skip)
          refine (iJoinSegments_c p3 c3 L _ (((HS3.out.ext hx6).ext hx7).ext hx8) hok.out (by omega)).mono ?_
          rintro e w8 ⟨hr, hx9⟩
          obtain rfl := hr.fn
          clear hr
          rw [HJJ.out.1, HJJ.out.2]
          go_wp2_with (first
            | (go_at_call 27; (with_reducible refine (iIsSegmentation_c p3 c3 t L _ ((((HS3.out.ext hx6).ext hx7).ext hx8).ext hx9) hok.out (by omega)).mono ?_); rintro e w9 ⟨⟨_, rfl⟩ | ⟨hP2, rfl⟩, hx10⟩ <;> first | (exact absurd HSG.out hP2) | skip)
            | (go_at_call 48; (with_reducible refine (roll_c _ _ _ _ _ (HX.out.ext (((((hx5.trans hx6).trans hx7).trans hx8).trans hx9).trans hx10)) h4).mono ?_); rintro e w10 ⟨⟨g, rfl, rfl, hd7⟩, hx11⟩)
            | (go_at_call 49; (with_reducible refine (below_c _ _ _ hd7 (by omega)).mono ?_); rintro e w11 ⟨o, rfl, ho0, ho1, hd8, hb8⟩; obtain ⟨kn, rfl⟩ : ∃ kn : Nat, o = kn := ⟨o.toNat, by omega⟩; have hx12 := (((((hx5.trans hx6).trans hx7).trans hx8).trans hx9).trans hx10).trans (hx11.but hb8 (Nat.le_refl _)); have b1 : (cell t t.size).len ≤ bestN (t.extract 0 kn) + bestN (t.extract kn t.size) := best_sub t kn (by omega); have b2 : bestN (t.extract 0 kn) ≤ (cell t t.size).len := best_pre t kn (by omega); have b3 : bestN (t.extract kn t.size) ≤ (cell t t.size).len := best_suf t kn (by omega)))
          have hs1 : (t.extract 0 kn).size ≤ 400 := by rw [ByteArray.size_extract]; omega
          have hs2 : (t.extract kn t.size).size ≤ 400 := by rw [ByteArray.size_extract]; omega
          refine (iBestN_c (t.extract 0 kn) _ (by omega)).mono ?_
          rintro e w12 ⟨⟨_, rfl⟩ | ⟨h9, rfl⟩, hx13⟩
          case inr => exact absurd hs1 h9
          go_wp2_with fail
          refine (iBestN_c (t.extract kn t.size) _ (by omega)).mono ?_
          rintro e w13 ⟨⟨_, rfl⟩ | ⟨h9, rfl⟩, hx14⟩
          case inr => exact absurd hs2 h9
          have b4 := bestN_bd _ hs1
          have b5 := bestN_bd _ hs2
          generalize bestN (t.extract 0 kn) = na at *
          generalize bestN (t.extract kn t.size) = nb at *
          go_wp2_with fail
          go_ret
          exact ⟨rfl, (hx12.trans hx13).trans hx14⟩
        · have hd : ¬ (t.size : Int) ≤ 60 := by omega
          by_cases h400 : t.size ≤ 400
          · obtain ⟨_, hk0⟩ := HB.out h400
            subst hk0
            go_wp2
            go_ret
            exact ⟨rfl, hx5⟩
          · have hk0 := HC.out h400
            subst hk0
            go_wp2
            go_ret
            exact ⟨rfl, hx5⟩
  · go_enter Try.func13, Try.ntmps13
    go_wp2_with (first
      | (go_at_call 42; (with_reducible refine (big_c _ _ _ _ hl).mono ?_); rintro e w1 ⟨⟨hP, rfl⟩ | ⟨hP, rfl⟩, rfl⟩ <;> first | (exfalso; omega) | skip))
    go_ret
    exact ⟨rfl, (by repeat (first | exact Ext.refl _ | assumption | refine Ext.drew ?_ | refine Ext.drewN ?_ _ | refine Ext.iter ?_ _ _ | refine Ext.alloc ?_ _ | refine Ext.setCell ?_ (by first | exact Nat.le_refl _ | (simp <;> omega)) _ | refine Ext.trans2 (by assumption) ?_))⟩
end Go.Proofs.Ytepneadbddjmjaa
