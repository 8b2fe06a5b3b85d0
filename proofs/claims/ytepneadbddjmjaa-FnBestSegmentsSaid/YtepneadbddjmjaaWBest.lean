/- BestSegments: the law's walk. -/
import Derived.Test.YtepneadbddjmjaaBestS
import Derived.Test.YtepneadbddjmjaaMarkS
namespace Go.Proofs.Ytepneadbddjmjaa
set_option linter.unusedVariables false
set_option linter.unusedSimpArgs false
open Go.RowKit

def bsL (s : ByteArray) : List Sg := if s.size ≤ 400 then bests s s.size else []
def bsC (s : ByteArray) : Int := if s.size ≤ 400 then 0 else 3
theorem bsL_len (s : ByteArray) : (bsL s).length ≤ 400 := by
  unfold bsL
  split
  · have := bests_len s s.size
    omega
  · simp
/-- The answer of BestSegments. -/
def bsR (s : ByteArray) (B : Nat) (e : Ending) (w : World) : Prop := ∃ p c, e = .returned (.tuple #[.slice p (bsL s).length c, .int .i64 (bsC s)]) ∧ SOwn segF 2 B w p (bsL s)

theorem iBestSegments_c (s : ByteArray) (w : World) (hs : s.size ≤ 1048576) :
    Calls Try.prog 29 #[.string s] w fun e w' => bsR s w.heap.size e w' ∧ Ext w w' := (BestSegments_c s w hs).mono fun e w' ⟨h, hx⟩ => by
  refine ⟨?_, hx⟩
  unfold bsR bsL bsC
  rcases h with ⟨h, v, rfl, hr⟩ | ⟨h, rfl⟩
  · rw [if_pos h, if_pos h]
    obtain ⟨p, c, rfl, ho⟩ := hr.own segF_len
    exact ⟨p, c, rfl, ho⟩
  · rw [if_neg h, if_neg h]
    exact ⟨none, 0, rfl, SOwn.nil _ _ _⟩
theorem sBestSegments_c (s : ByteArray) (w : World) (hs : s.size ≤ 1048576) :
    Calls Try.prog 28 #[.string s] w fun e w' => bsR s w.heap.size e w' ∧ Ext w w' := by
  by_cases h : s.size ≤ 400
  · have hL : bsL s = bests s s.size := if_pos h
    have hC : bsC s = 0 := if_pos h
    unfold bsR
    rw [hL, hC]
    clear hL hC
    have hd : (s.size : Int) ≤ 400 := by omega
    go_enter Try.func28, Try.ntmps28
    go_wp2_with (go_at_call 69; (with_reducible refine (sBest_c _ _ hs).mono ?_); rintro e w1 ⟨⟨v, rfl, hr⟩, hb⟩)
    go_ret2
    obtain ⟨p, c, rfl, ho⟩ := hr.own segF_len
    exact ⟨⟨p, c, rfl, ho⟩, hb⟩
  · have hL : bsL s = [] := if_neg h
    have hC : bsC s = 3 := if_neg h
    unfold bsR
    rw [hL, hC]
    clear hL hC
    have hd : 400 < (s.size : Int) := by omega
    go_enter Try.func28, Try.ntmps28
    go_wp2
    go_ret2
    exact ⟨⟨none, 0, rfl, SOwn.nil _ _ _⟩, (by repeat (first | exact Ext.refl _ | assumption | refine Ext.drew ?_ | refine Ext.drewN ?_ _ | refine Ext.iter ?_ _ _ | refine Ext.alloc ?_ _ | refine Ext.setCell ?_ (by first | exact Nat.le_refl _ | (simp <;> omega)) _ | refine Ext.trans2 (by assumption) ?_))⟩

set_option maxRecDepth 100000 in
theorem bestSegments_law (s : ByteArray) (w : World) (hs : s.size ≤ maxLen) :
    Calls Try.prog 8 #[.string s] w fun e w' => e = .returned (.bool true) ∧ Ext w w' := by
  unfold maxLen at hs
  by_cases h : s.size ≤ 1048576
  · have hl := bsL_len s
    generalize hL : bsL s = L at *
    generalize hK : bsC s = K at *
    have HL := Lib.hid hL; have HK := Lib.hid hK; clear hL hK
    go_enter Try.func8, Try.ntmps8
    go_wp2_with fail
    refine (sBestSegments_c s _ h).mono ?_
    unfold bsR
    rw [HL.out, HK.out]
    rintro e w1 ⟨⟨p1, c1, rfl, oq1⟩, hx1⟩
    go_wp2_with fail
    refine (iBestSegments_c s _ h).mono ?_
    unfold bsR
    rw [HL.out, HK.out]
    rintro e w2 ⟨⟨p2, c2, rfl, oq2⟩, hx2⟩
    go_wp2_with fail
    refine (eqSegmentS_c p2 p1 c2 c1 L L w2 oq2.sat (oq1.sat.ext hx2) (by omega) (by omega)).mono ?_
    rintro e w3 ⟨⟨_, rfl⟩ | ⟨hne, rfl⟩, hx3⟩
    case inr => exact absurd rfl hne
    go_wp2_with fail
    refine (markSegmentS_c w1.heap.size p2 c2 1 L w3 (oq2.ext hx3) (by omega) (by omega) (hx2.trans hx3).below.size).mono ?_
    rintro e w4 ⟨rfl, oq4, hM4⟩
    have hx4 : Ext w1 w4 := (hx2.trans hx3).low hM4.1 (Nat.le_refl _)
    go_wp2_with fail
    refine (heldSegmentS_c p2 c2 1 L.length w4 (oq4.sat segF_len (by omega)) (by omega) (by omega)).mono ?_
    rintro e w5 ⟨rfl, hx5⟩
    go_wp2_with fail
    refine (iBestSegments_c s _ h).mono ?_
    unfold bsR
    rw [HL.out, HK.out]
    rintro e w6 ⟨⟨p6, c6, rfl, oq6⟩, hx6⟩
    go_wp2_with fail
    refine (eqSegmentS_c p6 p1 c6 c1 L L w6 oq6.sat (((oq1.sat.ext hx4).ext hx5).ext hx6) (by omega) (by omega)).mono ?_
    rintro e w7 ⟨⟨_, rfl⟩ | ⟨hne, rfl⟩, hx7⟩
    case inr => exact absurd rfl hne
    go_wp2_with fail
    refine (heldSegmentS_c p2 c2 1 L.length w7 ((((oq4.sat segF_len (by omega)).ext hx5).ext hx6).ext hx7) (by omega) (by omega)).mono ?_
    rintro e w8 ⟨rfl, hx8⟩
    go_wp2_with fail
    go_ret
    exact ⟨rfl, ((((hx1.trans hx4).trans hx5).trans hx6).trans hx7).trans hx8⟩
  · go_enter Try.func8, Try.ntmps8
    go_wp2
    go_ret
    exact ⟨rfl, (by repeat (first | exact Ext.refl _ | assumption | refine Ext.drew ?_ | refine Ext.drewN ?_ _ | refine Ext.iter ?_ _ _ | refine Ext.alloc ?_ _ | refine Ext.setCell ?_ (by first | exact Nat.le_refl _ | (simp <;> omega)) _ | refine Ext.trans2 (by assumption) ?_))⟩
end Go.Proofs.Ytepneadbddjmjaa
