/- The walk of the law WriteMessage. -/
import Derived.Test.YtepneadbddjmjaaMsg
import Derived.Test.YtepneadbddjmjaaMarkI
namespace Go.Proofs.Ytepneadbddjmjaa
set_option linter.unusedVariables false
set_option linter.unusedSimpArgs false
open Go.RowKit

set_option maxRecDepth 100000 in
theorem writeMessage_law (p : Option Addr) (c : Nat) (xs : List Int) (s : ByteArray) (w : World) (hx : IntsAt w p xs) (hl : xs.length ≤ maxLen) (hw : wfs xs) (hs : s.size ≤ maxLen) :
    Calls Try.prog 10 #[.slice p xs.length c, .string s] w fun e w' => e = .returned (.bool true) ∧ Ext w w' := by
  have HW := Lib.hid hw; clear hw
  unfold maxLen at hl hs
  by_cases hl2 : xs.length ≤ 1048576
  · by_cases hs2 : s.size ≤ 1048576
    · have hwl := wmList_len xs s hl2
      generalize hL : wmList xs s = L at *
      generalize hK : wmCode xs s = K at *
      have HK := Lib.hid hK; have HL := Lib.hid hL; clear hK hL
      go_enter Try.func10, Try.ntmps10
      go_wp2_with (go_at_call 34; (with_reducible refine (toInt64S_c _ _ _ _ hx hl2).mono ?_); rintro e w2 ⟨⟨p2, rfl, oq2⟩, hx2⟩)
      refine (sWriteMessage_c _ _ xs s _ oq2.ints hl2 hs2).mono ?_
      rw [HL.out, HK.out]
      rintro e w4 ⟨⟨p4, c4, rfl, oq4⟩, hx4'⟩
      have hxw4 := hx2.trans hx4'
      go_wp2_with fail
      refine (toInt64S_c _ _ _ _ (hx.ext hxw4) hl2).mono ?_
      rintro e w5 ⟨⟨p5, rfl, oq5⟩, hx5⟩
      go_wp2_with fail
      refine (iWriteMessage_c _ _ xs s _ oq5.ints hl2 HW.out hs2).mono ?_
      rw [HL.out, HK.out]
      rintro e w7 ⟨⟨p7, c7, rfl, oq7⟩, hx7⟩
      go_wp2_with fail
      refine (eqInt64S_c p7 p4 c7 c4 L L w7 oq7.ints ((oq4.ints.ext hx5).ext hx7) (by omega) (by omega)).mono ?_
      rintro e w8 ⟨⟨_, rfl⟩ | ⟨hne, rfl⟩, n8, rfl⟩
      case inr => exact absurd rfl hne
      go_wp2_with fail
      have hx8 : Ext w4 (w7.drewN n8) := (hx5.trans hx7).drewN n8
      refine (toInt64S_c _ _ _ _ ((hx.ext hxw4).ext hx8) hl2).mono ?_
      rintro e w9 ⟨⟨p9, rfl, oq9⟩, hx9⟩
      go_wp2_with fail
      refine (eqInt64S_c p5 p9 _ _ xs xs w9 ((oq5.ints.ext (hx7.drewN n8)).ext hx9) oq9.ints (by omega) (by omega)).mono ?_
      rintro e w10 ⟨⟨_, rfl⟩ | ⟨hne, rfl⟩, n10, rfl⟩
      case inr => exact absurd rfl hne
      have hx10 : Ext w5 (w9.drewN n10) := ((hx7.drewN n8).trans hx9).drewN n10
      have oq5' := oq5.ext hx10
      go_wp2_with fail
      refine (mark_c w4.heap.size p5 _ 1 xs (w9.drewN n10) oq5' (by omega) (by omega)).mono ?_
      rintro e w11 ⟨rfl, oq11, hb11, hk11⟩
      have hg7 : OwnInts w5.heap.size (w9.drewN n10) p7 L := (oq7.ext ((((Ext.refl w7).drewN n8).trans hx9).drewN n10))
      have hg11 : OwnInts w5.heap.size w11 p7 L := hg7.keep hb11.size fun b' o' h2 e2 hlt => hk11 b' hlt fun b o h1 e1 => by
        have := (oq5.lt0 h1 e1).2
        have := (oq7.lt0 h2 e2).1
        omega
      have hx11 : Ext w4 w11 := (hx5.trans hx10).low hb11 (Nat.le_refl _)
      have hw11 : IntsAt w11 p4 L := oq4.ints.ext hx11
      clear hk11
      go_wp2_with (first
        | (go_at_call 37; (with_reducible refine (eqInt64S_c p7 p4 c7 c4 L L w11 hg11.ints hw11 (by omega) (by omega)).mono ?_); rintro e w12 ⟨⟨_, rfl⟩ | ⟨hne, rfl⟩, n12, rfl⟩; rotate_left 1; exact absurd rfl hne))
      refine (mark_c w5.heap.size p7 _ 1 L (w11.drewN n12) hg11 (by omega) (by omega)).mono ?_
      rintro e w13 ⟨rfl, oq13, hb13, -⟩
      go_wp2_with fail
      refine (heldInt64S_c p7 _ 1 L.length w13 oq13.ints (by omega) (by omega)).mono ?_
      rintro e w13' ⟨rfl, rfl⟩
      have hx13 : Ext w4 w13 := (hx11.drewN n12).low hb13 hx5.below.size
      have hxw13 := hxw4.trans hx13
      go_wp2_with (go_at_call 34; (with_reducible refine (toInt64S_c _ _ _ _ (hx.ext hxw13) hl2).mono ?_); rintro e w14 ⟨⟨p14, rfl, oq14⟩, hx14⟩)
      refine (iWriteMessage_c _ _ xs s _ oq14.ints hl2 HW.out hs2).mono ?_
      rw [HL.out, HK.out]
      rintro e w16 ⟨⟨p16, c16, rfl, oq16⟩, hx16'⟩
      have hx16 : Ext w13 w16 := hx14.trans hx16'
      go_wp2_with (first
        | (go_at_call 37; (with_reducible refine (eqInt64S_c p16 p4 c16 c4 L L w16 oq16.ints (oq4.ints.ext (hx13.trans hx16)) (by omega) (by omega)).mono ?_); rintro e w17 ⟨⟨_, rfl⟩ | ⟨hne, rfl⟩, n17, rfl⟩; rotate_left 1; exact absurd rfl hne)
        | (go_at_call 39; (with_reducible refine (heldInt64S_c p7 c7 1 L.length _ (oq13.ints.ext (hx16.drewN n17)) (by omega) (by omega)).mono ?_); rintro e w18 ⟨rfl, rfl⟩))
      go_ret
      exact ⟨rfl, (hxw13.trans hx16).drewN n17⟩
    · go_enter Try.func10, Try.ntmps10
      go_wp2
      go_ret
      exact ⟨rfl, (by repeat (first | exact Ext.refl _ | assumption | refine Ext.drew ?_ | refine Ext.drewN ?_ _ | refine Ext.iter ?_ _ _ | refine Ext.alloc ?_ _ | refine Ext.setCell ?_ (by first | exact Nat.le_refl _ | (simp <;> omega)) _ | refine Ext.trans2 (by assumption) ?_))⟩
  · go_enter Try.func10, Try.ntmps10
    go_wp2
    go_ret
    exact ⟨rfl, (by repeat (first | exact Ext.refl _ | assumption | refine Ext.drew ?_ | refine Ext.drewN ?_ _ | refine Ext.iter ?_ _ _ | refine Ext.alloc ?_ _ | refine Ext.setCell ?_ (by first | exact Nat.le_refl _ | (simp <;> omega)) _ | refine Ext.trans2 (by assumption) ?_))⟩
end Go.Proofs.Ytepneadbddjmjaa
