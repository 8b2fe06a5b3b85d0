/- The best lengths of the beginnings of a message, as the program computes them; the longest beginning that has room. -/
import Derived.Test.YthpnkcamjcohgaaDoorLPartsK26
import Derived.Test.YthpnkcamjcohgaaDoorLPartsK11
namespace Go.Proofs.YthpnkcamjcohgaaDoor
set_option linter.unusedVariables false
set_option linter.unusedSimpArgs false
open Go.RowKit

/-- The table holds the best lengths of the beginnings of up to e bytes. -/
def BTab (s : ByteArray) (cs : Array Value) (e : Nat) : Prop := cs.size = s.size + 1 ∧ ∀ j, j ≤ e → j ≤ s.size → cs[j]? = some (.int .i64 (pre s j))
theorem BTab.zero (s : ByteArray) : BTab s (madeCells #[.int .i64 0] (s.size + 1)) 0 := by
  refine ⟨size_madeCells _ _, fun j h1 h2 => ?_⟩
  obtain rfl : j = 0 := by omega
  rw [made_get (by omega), pre_zero]
  rfl
theorem BTab.put {s : ByteArray} {cs : Array Value} {e : Nat} (h : BTab s cs e) (he : e < s.size) : BTab s (cs.setIfInBounds (e + 1) (.int .i64 (pre s (e + 1)))) (e + 1) := by
  refine ⟨by simpa using h.1, fun j h1 h2 => ?_⟩
  by_cases hj : j = e + 1
  · subst hj
    rw [Array.getElem?_setIfInBounds_self_of_lt (by rw [h.1]; omega)]
  · rw [Array.getElem?_setIfInBounds_ne (by omega)]
    exact h.2 j (by omega) h2
set_option maxHeartbeats 2000000 in
set_option maxRecDepth 100000 in
theorem beginnings_c (s : ByteArray) (w : World) (hs : s.size ≤ 1048576) :
    Calls Tryd.prog 97 #[.string s] w fun e w' => (∃ g cs, e = .returned (.slice (some ⟨g, 0, none⟩) (s.size + 1) (s.size + 1)) ∧ w.heap.size ≤ g ∧ Blk w' g cs 2 ∧ BTab s cs s.size) ∧ Ext w w' := by
  have hI1 : Tryd.prog.underlying 46 = some (.slice 2) := by kernel_rfl
  have hI2 := infoInt
  go_enter Tryd.func97, Tryd.ntmps97
  go_wp2_with (first
    | (at_make; go_loud (refine make_blk hI1 hI2 (s.size + 1) ?_ ?_ (by omega) (by omega) ?_; rfl; rfl))
    | (go_at_call 129; refine (widths_c _).mono ?_; rintro e w1 ⟨⟨gw, csw, rfl, hgw, hblkw, hW⟩, hb⟩; replace hW := Lib.hid hW))
  have hbT := (Blk.new w (madeCells #[.int .i64 0] (s.size + 1)) 2).ext (by simpa using hb)
  have hD := Lib.hid (BTab.zero s)
  have hgT := hbT.lt
  have hgw2 := hblkw.lt
  have hgw3 : w.heap.size < gw := by rw [World.size_alloc] at hgw; omega
  have hx : Ext w w1 := ((Ext.refl w).alloc _).trans hb
  clear hb hI1 hI2 hgw
  go_loopw [6] (fun i wr => ∃ (d : Nat) (csT csF : Array Value), d ≤ s.size ∧ i = .int .i64 ((d : Int) + 1) ∧ Blk wr w.heap.size csT 2 ∧ Blk wr w1.heap.size csF 180 ∧ Blk wr gw csw 213 ∧ Ext w wr ∧ Hid (BTab s csT d) ∧ Hid (∀ b, RTab (fun m => backF m s d) b csF 1)) (fun i _ => (s.size + 1 - intOf i).toNat)
  case atStart => exact ⟨0, _, _, Nat.zero_le _, by go_num, hbT.alloc _, Blk.new _ _ _, hblkw.alloc _, hx.alloc _, hD, Lib.hid fun b => ⟨rfl, fun m h1 h2 => by match m, h1, h2 with | 1, _, _ => rfl | 2, _, _ => rfl | 3, _, _ => rfl | 4, _, _ => rfl⟩⟩
  case round =>
    obtain ⟨d, csT, csF, hd, rfl, hbT, hbF, hbW, hext, hD, hF⟩ := hrel
    by_cases hlt : d < s.size
    · have hb8 := Lib.hid (byteAt_eq (s := s) (i := d) hlt)
      have hfl := hbF.lt
      have hdi : (d : Int) + 1 ≤ s.size := by omega
      have ed : (d : Int) + 1 - 1 = d := by omega
      go_wp2_with (first
        | (go_at_call 130; go_loud (refine (take_c _ _ _ (fun m => backF m s d) _ _ hbF (fun m _ _ => by have := backF_le m s d; omega) (hF.out _)).mono ?_); rintro e w2 ⟨⟨rfl, csF2, hbF2, hF2⟩, hbut⟩; replace hF2 := Lib.hid hF2))
      have hbT2 := hbT.but hbut (by omega)
      have hbW2 := hbW.but hbut (by omega)
      have hE2 := hext.but hbut (by have := hx.below.size; omega)
      have HF := Lib.hid (show csF2.size = 5 ∧ ∀ m : Nat, 1 ≤ m → m ≤ 4 → csF2[m]? = some (.int .i64 (backF m s (d + 1))) by
        refine ⟨hF2.out.1, ?_⟩
        intro m h1 h2
        rw [hF2.out.2 m h1 h2, if_pos (by omega), ← hb8.out]
        have := backF_le m s d
        simp only [nextR, backF]
        split <;> simp <;> omega)
      clear hbut hF2 hb8 hext hbW hbT hbF hF hblkw ed
      go_loopw [7, 8] (fun bb i wr' => ∃ (M : Nat) (b : Int), 1 ≤ M ∧ M ≤ 5 ∧ i = .int .i64 M ∧ bb = .int .i64 b ∧ Ext w2 wr' ∧ Hid (Least s (d + 1) M 1 b)) (fun _ i _ => (5 - intOf i).toNat)
      case atStart => exact ⟨1, -1, by omega, by omega, rfl, rfl, (by repeat (first | exact Ext.refl _ | assumption | refine Ext.drew ?_ | refine Ext.drewN ?_ _ | refine Ext.iter ?_ _ _ | refine Ext.alloc ?_ _ | refine Ext.setCell ?_ (by first | exact Nat.le_refl _ | (simp <;> omega)) _ | refine Ext.trans2 (by assumption) ?_)), Lib.hid (Least.start _ _)⟩
      case round =>
        obtain ⟨M, b, hM1, hM2, rfl, rfl, hE3, hL⟩ := hrel
        by_cases hlt2 : M ≤ 4
        · have hdec : (M : Int) ≤ 4 := by omega
          go_wp2_with fail
          go_loopw [7, 9] (fun bb i wr'' => ∃ (t : Nat) (b : Int), 1 ≤ t ∧ t ≤ backF M s (d + 1) + 1 ∧ i = .int .i64 t ∧ bb = .int .i64 b ∧ Ext w2 wr'' ∧ Hid (Least s (d + 1) M t b)) (fun _ i _ => (256 - intOf i).toNat)
          case atStart => exact ⟨1, b, by omega, by omega, rfl, rfl, hE3, hL⟩
          case round =>
            clear hL hE3
            obtain ⟨t, b2, ht1, ht2, rfl, rfl, hE4, hL⟩ := hrel
            have hfb := backF_le M s (d + 1)
            have hbF4 := hbF2.ext hE4
            have hbT4 := hbT2.ext hE4
            have hbW4 := hbW2.ext hE4
            have hfc := hbF4.cell (HF.out.2 M hM1 hlt2)
            have hfl4 := hbF4.lt
            have htl4 := hbT4.lt
            have hwl4 := hbW4.lt
            by_cases hlt3 : t ≤ backF M s (d + 1)
            · obtain ⟨r, hr⟩ : ∃ r : Nat, d + 1 = r + t := ⟨d + 1 - t, by omega⟩
              have er : d + 1 - t = r := by omega
              have k0 := hbT4.cell (hD.out.2 r (by omega) (by omega))
              have g1 : (M : Int) < 5 := by omega
              have g2 : (t : Int) < 256 := by omega
              have hp := pre_bd s (e := r) (by omega)
              have hsw := segW_bd M t (by omega)
              have hwc := hbW4.cell (hW.out.2 M t hM1 ht1 (by omega) (by omega))
              have hlb := hL.out.bd (by omega)
              have e1 : IntKind.i64.wrap ((d : Int) + 1 - t) = r := by rw [show (d : Int) + 1 - t = r by omega]; exact IntWalk.i64_in _ (by omega)
              have e2 := IntWalk.i64_in (pre s r + segW M t) (by omega)
              have hup := fun h => hL.out.upd (by omega) ⟨hM1, hlt2⟩ ht1 hlt3 h
              have hst := fun h1 h2 => hL.out.stay (t := t) h1 h2
              rw [er] at hup hst
              have hup := Lib.hid hup
              have hst := Lib.hid hst
              have hri : (r : Int) < s.size + 1 := by omega
              clear er hL
              generalize pre s r = P at *
              generalize segW M t = Wd at *
              replace hr := Lib.hid hr
              go_wp2_with fail
              refine wp_region_canon (fun w' => Ext wr w') [(0, true), (1, true), (2, true), (3, true), (4, true), (5, true), (6, true), (7, true), (8, true), (9, true), (10, true), (11, true), (12, true), (13, true), (14, true)] (by kernel_rfl) (by kernel_rfl) (by decide) (by kernel_rfl) ?_ ?_
              · exact (by repeat (first | exact Ext.refl _ | assumption | refine Ext.drew ?_ | refine Ext.drewN ?_ _ | refine Ext.iter ?_ _ _ | refine Ext.alloc ?_ _ | refine Ext.setCell ?_ (by first | exact Nat.le_refl _ | (simp <;> omega)) _ | refine Ext.trans2 (by assumption) ?_))
              refine canon_intro fun ops eo => ?_
              have ho0 := canon_at eo 0 rfl
              have ho1 := canon_at eo 1 rfl
              have ho2 := canon_at eo 2 rfl
              have ho3 := canon_at eo 3 rfl
              have ho4 := canon_at eo 4 rfl
              have ho5 := canon_at eo 5 rfl
              have ho6 := canon_at eo 6 rfl
              have ho7 := canon_at eo 7 rfl
              have ho8 := canon_at eo 8 rfl
              have ho9 := canon_at eo 9 rfl
              have ho10 := canon_at eo 10 rfl
              have ho11 := canon_at eo 11 rfl
              have ho12 := canon_at eo 12 rfl
              have ho13 := canon_at eo 13 rfl
              have ho14 := canon_at eo 14 rfl
              clear eo
              all_goals (apply canon_st ho0 rfl; (intro w2 hS; first | (go_simp; first | done | rfl) | rfl | (obtain ⟨hc, hf, hk, hz⟩ := ecell hS; go_simp; first | done | rfl)); simp only [Act.put, List.setIfInBounds_toArray, List.set_cons_zero, List.set_cons_succ])
              all_goals clear ho0
              all_goals (apply canon_st ho1 rfl; (intro w2 hS; first | (go_simp; first | done | rfl) | rfl | (obtain ⟨hc, hf, hk, hz⟩ := ecell hS; go_simp; first | done | rfl)); simp only [Act.put, List.setIfInBounds_toArray, List.set_cons_zero, List.set_cons_succ])
              all_goals clear ho1
              all_goals (apply canon_st ho2 rfl; (intro w2 hS; first | (go_simp; first | done | rfl) | rfl | (obtain ⟨hc, hf, hk, hz⟩ := ecell hS; go_simp; first | done | rfl)); simp only [Act.put, List.setIfInBounds_toArray, List.set_cons_zero, List.set_cons_succ])
              all_goals clear ho2
              all_goals (apply canon_st ho3 rfl; (intro w2 hS; first | (go_simp; first | done | rfl) | rfl | (obtain ⟨hc, hf, hk, hz⟩ := ecell hS; go_simp; first | done | rfl)); simp only [Act.put, List.setIfInBounds_toArray, List.set_cons_zero, List.set_cons_succ])
              all_goals clear ho3
              all_goals (apply canon_st ho4 rfl; (intro w2 hS; first | (go_simp; first | done | rfl) | rfl | (obtain ⟨hc, hf, hk, hz⟩ := ecell hS; go_simp; first | done | rfl)); simp only [Act.put, List.setIfInBounds_toArray, List.set_cons_zero, List.set_cons_succ])
              all_goals clear ho4
              all_goals (apply canon_st ho5 rfl; (intro w2 hS; first | (go_simp; first | done | rfl) | rfl | (obtain ⟨hc, hf, hk, hz⟩ := ecell hS; go_simp; first | done | rfl)); simp only [Act.put, List.setIfInBounds_toArray, List.set_cons_zero, List.set_cons_succ])
              all_goals clear ho5
              all_goals (apply canon_st ho6 rfl; (intro w2 hS; first | (go_simp; first | done | rfl) | rfl | (obtain ⟨hc, hf, hk, hz⟩ := ecell hS; go_simp; first | done | rfl)); simp only [Act.put, List.setIfInBounds_toArray, List.set_cons_zero, List.set_cons_succ])
              all_goals clear ho6
              all_goals (apply canon_st ho7 rfl; (intro w2 hS; first | (go_simp; first | done | rfl) | rfl | (obtain ⟨hc, hf, hk, hz⟩ := ecell hS; go_simp; first | done | rfl)); simp only [Act.put, List.setIfInBounds_toArray, List.set_cons_zero, List.set_cons_succ])
              all_goals clear ho7
              all_goals (apply canon_st ho8 rfl; (intro w2 hS; first | (go_simp; first | done | rfl) | rfl | (obtain ⟨hc, hf, hk, hz⟩ := ecell hS; go_simp; first | done | rfl)); simp only [Act.put, List.setIfInBounds_toArray, List.set_cons_zero, List.set_cons_succ])
              all_goals clear ho8
              all_goals (apply canon_st ho9 rfl; (intro w2 hS; first | (go_simp; first | done | rfl) | rfl | (obtain ⟨hc, hf, hk, hz⟩ := ecell hS; go_simp; first | done | rfl)); simp only [Act.put, List.setIfInBounds_toArray, List.set_cons_zero, List.set_cons_succ])
              all_goals clear ho9
              all_goals (apply canon_st ho10 rfl; (intro w2 hS; first | (go_simp; first | done | rfl) | rfl | (obtain ⟨hc, hf, hk, hz⟩ := ecell hS; go_simp; first | done | rfl)); simp only [Act.put, List.setIfInBounds_toArray, List.set_cons_zero, List.set_cons_succ])
              all_goals clear ho10
              all_goals (apply canon_st ho11 rfl; (intro w2 hS; first | (go_simp; first | done | rfl) | rfl | (obtain ⟨hc, hf, hk, hz⟩ := ecell hS; go_simp; first | done | rfl)); simp only [Act.put, List.setIfInBounds_toArray, List.set_cons_zero, List.set_cons_succ])
              all_goals clear ho11
              all_goals (apply canon_st ho12 rfl; (intro w2 hS; first | (go_simp; first | done | rfl) | rfl | (obtain ⟨hc, hf, hk, hz⟩ := ecell hS; go_simp; first | done | rfl)); simp only [Act.put, List.setIfInBounds_toArray, List.set_cons_zero, List.set_cons_succ])
              all_goals clear ho12
              all_goals (apply canon_st ho13 rfl; (intro w2 hS; first | (go_simp; first | done | rfl) | rfl | (obtain ⟨hc, hf, hk, hz⟩ := ecell hS; go_simp; first | done | rfl)); simp only [Act.put, List.setIfInBounds_toArray, List.set_cons_zero, List.set_cons_succ])
              all_goals clear ho13
              all_goals (apply canon_st ho14 rfl; (intro w2 hS; first | (go_simp; first | done | rfl) | rfl | (obtain ⟨hc, hf, hk, hz⟩ := ecell hS; go_simp; first | done | rfl)); simp only [Act.put, List.setIfInBounds_toArray, List.set_cons_zero, List.set_cons_succ])
              all_goals clear ho14
              all_goals refine canon_done (NoPanic.normal ?_)
              clear e1 e2 k0 hwc hfc
              by_cases hb0 : b2 < 0
              · go_wp2
                go_roundw
                case rel => exact ⟨t + 1, _, by omega, by omega, by go_num, rfl, hE4.drew, Lib.hid (hup.out (.inl hb0))⟩
                case measure => simp [intOf]; omega
              · by_cases hb1 : P + Wd < b2
                · go_wp2
                  go_roundw
                  case rel => exact ⟨t + 1, _, by omega, by omega, by go_num, rfl, hE4.drew, Lib.hid (hup.out (.inr hb1))⟩
                  case measure => simp [intOf]; omega
                · go_wp2
                  go_roundw
                  case rel => exact ⟨t + 1, _, by omega, by omega, by go_num, rfl, hE4.drew, Lib.hid (hst.out (by omega) (by omega))⟩
                  case measure => simp [intOf]; omega
            · go_wp2
              refine ⟨⟨M + 1, b2, by omega, by omega, by go_num, rfl, hE4, ?_⟩, by simp [intOf]; omega⟩
              exact Lib.hid (hL.out.next (by omega))
        · obtain rfl : M = 5 := by omega
          have hbb := hL.out.done (by omega) (by omega)
          subst hbb
          clear hL
          have hbT4 := hbT2.ext hE3
          obtain ⟨z0, hz0⟩ := (show ∃ v, csT[d + 1]? = some v from ⟨_, Array.getElem?_eq_getElem (by rw [hD.out.1]; omega)⟩)
          have hz0 := hbT4.cell hz0
          have q4 := hbT4.lt
          have q5 := hbT4.free
          have hdi2 : (d : Int) + 1 < s.size + 1 := by omega
          go_wp2
          have n1 : w1.heap.size ≠ w.heap.size := by omega
          have n2 : gw ≠ w.heap.size := by omega
          refine ⟨⟨d + 1, _, csF2, hlt, by go_num, hbT4.set (d + 1) (.int .i64 (pre s (d + 1))), (hbF2.ext hE3).far n1 _, (hbW2.ext hE3).far n2 _, (hE2.trans hE3).setCell (Nat.le_refl _) _, Lib.hid (hD.out.put hlt), Lib.hid fun b => ⟨HF.out.1, fun m h1 h2 => by rw [if_neg (by omega)]; exact HF.out.2 m h1 h2⟩⟩, by simp [intOf]; omega⟩
    · go_wp2
      go_ret
      obtain rfl : d = s.size := by omega
      exact ⟨⟨_, csT, rfl, Nat.le_refl _, hbT, hD.out⟩, hext⟩
end Go.Proofs.YthpnkcamjcohgaaDoor

/-! The longest beginning that has room. -/
namespace Go.Proofs.YthpnkcamjcohgaaDoor
set_option linter.unusedVariables false
set_option linter.unusedSimpArgs false
open Go.RowKit

def longT (s : ByteArray) (room : Int) : Nat → Nat
  | 0 => 0
  | n + 1 => if pre s (n + 1) ≤ room then n + 1 else longT s room n
/-- The longest beginning whose best segmentation has room. -/
def longF (s : ByteArray) (room : Int) : Nat := longT s room s.size
theorem longT_le (s : ByteArray) (room : Int) (n : Nat) : longT s room n ≤ n := by
  induction n with
  | zero => exact Nat.le_refl _
  | succ n ih =>
    simp only [longT]
    split <;> omega
set_option maxRecDepth 100000 in
theorem longest_c (s : ByteArray) (room : Int) (w : World) (hs : s.size ≤ 1048576) :
    Calls Tryd.prog 54 #[.string s, .int .i64 room] w fun e w' => e = .returned (.int .i64 (longF s room)) ∧ Ext w w' := by
  go_enter Tryd.func54, Tryd.ntmps54
  go_wp2_with (go_at_call 97; refine (beginnings_c s _ hs).mono ?_; rintro e w1 ⟨⟨g, cs, rfl, hg, hB, hD⟩, hb⟩; replace hD := Lib.hid hD)
  have hgl := hB.lt
  go_loopw [6] (fun i wr => ∃ n : Nat, n ≤ s.size ∧ i = .int .i64 n ∧ Hid (longF s room = longT s room n) ∧ Ext w1 wr) (fun i _ => (intOf i).toNat)
  case atStart => exact ⟨s.size, Nat.le_refl _, rfl, Lib.hid rfl, (by repeat (first | exact Ext.refl _ | assumption | refine Ext.drew ?_ | refine Ext.drewN ?_ _ | refine Ext.iter ?_ _ _ | refine Ext.alloc ?_ _ | refine Ext.setCell ?_ (by first | exact Nat.le_refl _ | (simp <;> omega)) _ | refine Ext.trans2 (by assumption) ?_))⟩
  case round =>
    obtain ⟨n, hn, rfl, hL, hext⟩ := hrel
    have hBr := hB.ext hext
    have k0 := hBr.cell (hD.out.2 n hn hn)
    have k1 := hBr.lt
    by_cases h0 : 0 < n
    · have h0i : 0 < (n : Int) := by omega
      have hni : (n : Int) < s.size + 1 := by omega
      obtain ⟨m, rfl⟩ : ∃ m, n = m + 1 := ⟨n - 1, by omega⟩
      have hst := Lib.hid (show longT s room (m + 1) = if pre s (m + 1) ≤ room then m + 1 else longT s room m from rfl)
      generalize pre s (m + 1) = P at *
      by_cases hp : P ≤ room
      · have hp2 : ¬ room < P := by omega
        go_wp2
        go_ret
        refine ⟨?_, hb.trans (by repeat (first | exact Ext.refl _ | assumption | refine Ext.drew ?_ | refine Ext.drewN ?_ _ | refine Ext.iter ?_ _ _ | refine Ext.alloc ?_ _ | refine Ext.setCell ?_ (by first | exact Nat.le_refl _ | (simp <;> omega)) _ | refine Ext.trans2 (by assumption) ?_))⟩
        rw [hL.out, hst.out, if_pos hp]
        rfl
      · have hp2 : room < P := by omega
        go_wp2
        go_roundw
        case rel => exact ⟨m, by omega, by go_num, Lib.hid (by rw [hL.out, hst.out, if_neg hp]), hext⟩
        case measure => simp [intOf] <;> omega
    · obtain rfl : n = 0 := by omega
      go_wp2
      go_ret
      exact ⟨by rw [hL.out]; rfl, hb.trans (by repeat (first | exact Ext.refl _ | assumption | refine Ext.drew ?_ | refine Ext.drewN ?_ _ | refine Ext.iter ?_ _ _ | refine Ext.alloc ?_ _ | refine Ext.setCell ?_ (by first | exact Nat.le_refl _ | (simp <;> omega)) _ | refine Ext.trans2 (by assumption) ?_))⟩
end Go.Proofs.YthpnkcamjcohgaaDoor
