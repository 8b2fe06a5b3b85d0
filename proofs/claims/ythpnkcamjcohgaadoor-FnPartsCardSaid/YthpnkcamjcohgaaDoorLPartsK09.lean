/- Texts of the claim. -/
import Derived.Test.YthpnkcamjcohgaaDoorLPartsK08
import Derived.Test.YthpnkcamjcohgaaDoorLPartsK05
namespace Go.Proofs.YthpnkcamjcohgaaDoor
set_option linter.unusedVariables false
set_option linter.unusedSimpArgs false
open Go.RowKit

/-- The first M modes' widths are in the table, and of mode M + 1 those of fewer than t bytes. -/
def WTab (cs : Array Value) (M t : Nat) : Prop := cs.size = 1280 ∧ ∀ m n : Nat, 1 ≤ m → 1 ≤ n → n ≤ 255 → (m < M ∨ (m = M ∧ n < t)) → cs[m * 256 + n]? = some (.int .i64 (segW m n))
set_option maxRecDepth 100000 in
theorem WTab.step {cs : Array Value} {M t : Nat} (h : WTab cs M t) (hM : 1 ≤ M ∧ M ≤ 4) (ht : 1 ≤ t ∧ t ≤ 255) : WTab (cs.setIfInBounds (M * 256 + t) (.int .i64 (segW M t))) M (t + 1) := by
  refine ⟨by simpa using h.1, fun m n h1 h2 h3 h4 => ?_⟩
  by_cases e : m * 256 + n = M * 256 + t
  · have e1 : m = M ∧ n = t := by omega
    rw [e, Array.getElem?_setIfInBounds_self_of_lt (by rw [h.1]; omega), e1.1, e1.2]
  · rw [Array.getElem?_setIfInBounds_ne (by omega)]
    exact h.2 m n h1 h2 h3 (by omega)
theorem WTab.next {cs : Array Value} {M t : Nat} (h : WTab cs M t) (ht : 256 ≤ t) : WTab cs (M + 1) 1 :=
  ⟨h.1, fun m n h1 h2 h3 h4 => h.2 m n h1 h2 h3 (by omega)⟩

/-- A mode whose row lies from block B on. -/
def ModeB (B : Nat) (w : World) (m : Int) (v : Value) : Prop := ModeV w m v ∧ ∀ b o s k, v = .iface 239 (.agg #[s, .slice (some ⟨b, o, none⟩) k k]) → B ≤ b
theorem ModeB.ext {B : Nat} {w w' : World} {m : Int} {v : Value} (h : ModeB B w m v) (hb : Ext w w') : ModeB B w' m v := ⟨h.1.ext hb, h.2⟩
theorem ModeB.mono {B B' : Nat} {w : World} {m : Int} {v : Value} (h : ModeB B w m v) (hB : B' ≤ B) : ModeB B' w m v := ⟨h.1, fun b o s k e => Nat.le_trans hB (h.2 b o s k e)⟩
theorem ModeB.set {B : Nat} {w : World} {m : Int} {v : Value} (h : ModeB B w m v) {g : Nat} (hg : g < B) (i : Nat) (u : Value) : ModeB B (w.setCell ⟨g, i, none⟩ u) m v := by
  refine ⟨?_, h.2⟩
  rcases h.1 with ⟨h1, p, n, h2, h3, h4⟩ | h1
  · refine .inl ⟨h1, p, n, h2, h3, fun j hj => ?_⟩
    obtain ⟨b, o, hp, hlt, hc⟩ := h4 j hj
    have hB : B ≤ b := h.2 b o _ n (by rw [h2, hp])
    have e : (w.setCell ⟨g, i, none⟩ u).heap[b]? = w.heap[b]? := Below.heap_setCell w _ u b (by show b ≠ g; omega)
    refine ⟨b, o, hp, by simpa [World.setCell] using hlt, ?_⟩
    rw [← hc]
    simp only [World.cell?, e]
  · exact .inr h1
theorem modeOfB_c (n : Int) (w : World) :
    Calls Tryd.prog 151 #[.int .i64 n] w fun e w' => (∃ v, (((1 ≤ n ∧ n ≤ 4) ∧ e = .returned (.tuple #[v, .bool true])) ∨ (¬ (1 ≤ n ∧ n ≤ 4) ∧ e = .returned (.tuple #[v, .bool false]))) ∧ ModeB w.heap.size w' n v) ∧ Ext w w' := by
  go_enter Tryd.func151, Tryd.ntmps151
  go_wp2
  · obtain rfl : n = 1 := by rename_i h; simpa using h
    go_ret2
    exact ⟨⟨_, .inl ⟨by omega, rfl⟩, .inl ⟨by omega, _, _, rfl, rfl, IntsAt_alloc w [4, 7, 10] _⟩, by intro b o s k he; cases he; exact Nat.le_refl _⟩, (by repeat (first | exact Ext.refl _ | assumption | refine Ext.drew ?_ | refine Ext.drewN ?_ _ | refine Ext.iter ?_ _ _ | refine Ext.alloc ?_ _ | refine Ext.setCell ?_ (by first | exact Nat.le_refl _ | (simp <;> omega)) _ | refine Ext.trans2 (by assumption) ?_))⟩
  · obtain rfl : n = 2 := by rename_i h; simpa using h
    go_ret2
    exact ⟨⟨_, .inl ⟨by omega, rfl⟩, .inl ⟨by omega, _, _, rfl, rfl, IntsAt_alloc w [6, 11] _⟩, by intro b o s k he; cases he; exact Nat.le_refl _⟩, (by repeat (first | exact Ext.refl _ | assumption | refine Ext.drew ?_ | refine Ext.drewN ?_ _ | refine Ext.iter ?_ _ _ | refine Ext.alloc ?_ _ | refine Ext.setCell ?_ (by first | exact Nat.le_refl _ | (simp <;> omega)) _ | refine Ext.trans2 (by assumption) ?_))⟩
  · obtain rfl : n = 3 := by rename_i h; simpa using h
    go_ret2
    exact ⟨⟨_, .inl ⟨by omega, rfl⟩, .inl ⟨by omega, _, _, rfl, rfl, IntsAt_alloc w [5] _⟩, by intro b o s k he; cases he; exact Nat.le_refl _⟩, (by repeat (first | exact Ext.refl _ | assumption | refine Ext.drew ?_ | refine Ext.drewN ?_ _ | refine Ext.iter ?_ _ _ | refine Ext.alloc ?_ _ | refine Ext.setCell ?_ (by first | exact Nat.le_refl _ | (simp <;> omega)) _ | refine Ext.trans2 (by assumption) ?_))⟩
  · obtain rfl : n = 4 := by rename_i h; simpa using h
    go_ret2
    exact ⟨⟨_, .inl ⟨by omega, rfl⟩, .inr ⟨by omega, rfl⟩, by intro b o s k he; cases he⟩, (by repeat (first | exact Ext.refl _ | assumption | refine Ext.drew ?_ | refine Ext.drewN ?_ _ | refine Ext.iter ?_ _ _ | refine Ext.alloc ?_ _ | refine Ext.setCell ?_ (by first | exact Nat.le_refl _ | (simp <;> omega)) _ | refine Ext.trans2 (by assumption) ?_))⟩
  · have h5 : ¬ (1 ≤ n ∧ n ≤ 4) := by
      rename_i h1 h2 h3 h4
      simp at h1 h2 h3 h4
      omega
    go_ret2
    exact ⟨⟨_, .inr ⟨h5, rfl⟩, .inr ⟨by omega, rfl⟩, by intro b o s k he; cases he⟩, (by repeat (first | exact Ext.refl _ | assumption | refine Ext.drew ?_ | refine Ext.drewN ?_ _ | refine Ext.iter ?_ _ _ | refine Ext.alloc ?_ _ | refine Ext.setCell ?_ (by first | exact Nat.le_refl _ | (simp <;> omega)) _ | refine Ext.trans2 (by assumption) ?_))⟩

set_option maxRecDepth 100000 in
theorem widths_c (w : World) :
    Calls Tryd.prog 129 #[] w fun e w' => (∃ g cs, e = .returned (.pointer (some ⟨g, 0, none⟩)) ∧ w.heap.size ≤ g ∧ Blk w' g cs 213 ∧ WTab cs 5 1) ∧ Ext w w' := by
  have hz : Tryd.zeroCells213.size = 1280 := by kernel_rfl
  have h0 : WTab Tryd.zeroCells213 1 1 := ⟨hz, fun m n h1 h2 h3 h4 => by omega⟩
  have HZ := Lib.hid h0; clear h0 hz
  go_enter Tryd.func129, Tryd.ntmps129
  go_wp2_with fail
  go_loopw [2] (fun i wr => ∃ (M : Nat) (cs : Array Value), 1 ≤ M ∧ M ≤ 5 ∧ i = .int .i64 M ∧ Blk wr w.heap.size cs 213 ∧ Hid (WTab cs M 1) ∧ Ext w wr) (fun i _ => (5 - intOf i).toNat)
  case atStart => exact ⟨1, _, by omega, by omega, rfl, Blk.new _ _ _, HZ, (by repeat (first | exact Ext.refl _ | assumption | refine Ext.drew ?_ | refine Ext.drewN ?_ _ | refine Ext.iter ?_ _ _ | refine Ext.alloc ?_ _ | refine Ext.setCell ?_ (by first | exact Nat.le_refl _ | (simp <;> omega)) _ | refine Ext.trans2 (by assumption) ?_))⟩
  case round =>
    obtain ⟨M, cs, hM1, hM2, rfl, hblk, HW, hext⟩ := hrel
    by_cases hlt : M ≤ 4
    · go_wp2_with (first
        | (go_at_call 151; refine (modeOfB_c _ _).mono ?_; rintro e w1 ⟨⟨v, ⟨h4, rfl⟩ | ⟨h4, rfl⟩, hv⟩, hb⟩ <;> go_prune))
      have hblk1 := hblk.ext hb
      have hext1 := hext.trans hb
      have hv0 := hv.mono (B' := w.heap.size + 1) hblk.lt
      clear hv
      clear hblk hext hb
      go_loopw [5] (fun i wr => ∃ (t : Nat) (cs : Array Value), 1 ≤ t ∧ t ≤ 256 ∧ i = .int .i64 t ∧ Blk wr w.heap.size cs 213 ∧ Hid (WTab cs M t) ∧ Ext w wr ∧ ModeB (w.heap.size + 1) wr M v) (fun i _ => (256 - intOf i).toNat)
      case atStart => exact ⟨1, cs, by omega, by omega, rfl, hblk1, HW, hext1, hv0⟩
      case round =>
        obtain ⟨t, cs2, ht1, ht2, rfl, hblk2, HW2, hext2, hv2⟩ := hrel
        clear hblk1 hext1 HW
        by_cases hlt2 : t ≤ 255
        · have hx : ∃ v0, cs2[M * 256 + t]? = some v0 := ⟨_, Array.getElem?_eq_getElem (by rw [HW2.out.1]; omega)⟩
          obtain ⟨v0, hx⟩ := hx
          have hq1 := hblk2.cell hx
          have hq2 := hblk2.free
          have hq3 := hblk2.lt
          have e1 := IntWalk.i64_in ((t : Int) + 1) (by omega)
          have g1 : (M : Int) < 5 := by omega
          have g2 : (t : Int) < 256 := by omega
          have HV2 := Lib.hid hv2; clear hv2
          go_wp2_with fail
          refine wp_region_canon (fun w' => Ext w w') [(0, true), (1, true), (2, true), (3, true), (4, true), (6, true), (7, true), (5, false), (8, true), (9, false)] (by kernel_rfl) (by kernel_rfl) (by decide) (by kernel_rfl) ?_ ?_
          · exact (by repeat (first | exact Ext.refl _ | assumption | refine Ext.drew ?_ | refine Ext.drewN ?_ _ | refine Ext.iter ?_ _ _ | refine Ext.alloc ?_ _ | refine Ext.setCell ?_ (by first | exact Nat.le_refl _ | (simp <;> omega)) _ | refine Ext.trans2 (by assumption) ?_))
          refine canon_intro fun ops eo => ?_
          have ho0 := canon_at eo 0 rfl
          have ho1 := canon_at eo 1 rfl
          have ho2 := canon_at eo 2 rfl
          have ho3 := canon_at eo 3 rfl
          have ho4 := canon_at eo 4 rfl
          have ho5 := canon_at eo 5 rfl
          have ho6 := canon_at eo 6 rfl
          have ho7 := canon_at eo 7 rfl
          have ho8 := canon_at eo 8 rfl
          have ho9 := canon_at eo 9 rfl
          clear eo
          all_goals (apply canon_st ho0 rfl; (intro w2 hS; first | (go_simp; first | done | rfl) | rfl | (obtain ⟨hc, hf, hk, hz⟩ := ecell hS; go_simp; first | done | rfl)); simp only [Act.put, List.setIfInBounds_toArray, List.set_cons_zero, List.set_cons_succ])
          all_goals clear ho0
          all_goals (apply canon_st ho1 rfl; (intro w2 hS; first | (go_simp; first | done | rfl) | rfl | (obtain ⟨hc, hf, hk, hz⟩ := ecell hS; go_simp; first | done | rfl)); simp only [Act.put, List.setIfInBounds_toArray, List.set_cons_zero, List.set_cons_succ])
          all_goals clear ho1
          all_goals (apply canon_st ho2 rfl; (intro w2 hS; first | (go_simp; first | done | rfl) | rfl | (obtain ⟨hc, hf, hk, hz⟩ := ecell hS; go_simp; first | done | rfl)); simp only [Act.put, List.setIfInBounds_toArray, List.set_cons_zero, List.set_cons_succ])
          all_goals clear ho2
          all_goals (apply canon_st ho3 rfl; (intro w2 hS; first | (go_simp; first | done | rfl) | rfl | (obtain ⟨hc, hf, hk, hz⟩ := ecell hS; go_simp; first | done | rfl)); simp only [Act.put, List.setIfInBounds_toArray, List.set_cons_zero, List.set_cons_succ])
          all_goals clear ho3
          all_goals (apply canon_st ho4 rfl; (intro w2 hS; first | (go_simp; first | done | rfl) | rfl | (obtain ⟨hc, hf, hk, hz⟩ := ecell hS; go_simp; first | done | rfl)); simp only [Act.put, List.setIfInBounds_toArray, List.set_cons_zero, List.set_cons_succ])
          all_goals clear ho4
          all_goals (apply canon_st ho6 rfl; (intro w2 hS; first | (go_simp; first | done | rfl) | rfl | (obtain ⟨hc, hf, hk, hz⟩ := ecell hS; go_simp; first | done | rfl)); simp only [Act.put, List.setIfInBounds_toArray, List.set_cons_zero, List.set_cons_succ])
          all_goals clear ho6
          all_goals (apply canon_st ho7 rfl; (intro w2 hS; first | (go_simp; first | done | rfl) | rfl | (obtain ⟨hc, hf, hk, hz⟩ := ecell hS; go_simp; first | done | rfl)); simp only [Act.put, List.setIfInBounds_toArray, List.set_cons_zero, List.set_cons_succ])
          all_goals clear ho7
          all_goals first | (refine canon_ef ho5 rfl (fun K hK => ?_); go_simp; ((go_at_call 152; refine (iSegmentWidth_c _ _ _ _ (by omega) (HV2.out.ext (by repeat (first | exact Ext.refl _ | assumption | refine Ext.drew ?_ | refine Ext.drewN ?_ _ | refine Ext.iter ?_ _ _ | refine Ext.alloc ?_ _ | refine Ext.setCell ?_ (by first | exact Nat.le_refl _ | (simp <;> omega)) _ | refine Ext.trans2 (by assumption) ?_))).1 (by omega)).mono ?_; rintro e w1 ⟨rfl, hb⟩; have hq4 := (hblk2.drew.ext hb).cell hx; have hq5 := (hblk2.drew.ext hb).free)); all_goals (refine hK _ _ ⟨(by repeat (first | exact Ext.refl _ | assumption | refine Ext.drew ?_ | refine Ext.drewN ?_ _ | refine Ext.iter ?_ _ _ | refine Ext.alloc ?_ _ | refine Ext.setCell ?_ (by first | exact Nat.le_refl _ | (simp <;> omega)) _ | refine Ext.trans2 (by assumption) ?_)), ?_⟩; clear hK K; go_simp)) | (refine canon_ef ho5 rfl (fun K hK => ?_); go_simp; (skip); all_goals (refine hK _ _ ⟨(by repeat (first | exact Ext.refl _ | assumption | refine Ext.drew ?_ | refine Ext.drewN ?_ _ | refine Ext.iter ?_ _ _ | refine Ext.alloc ?_ _ | refine Ext.setCell ?_ (by first | exact Nat.le_refl _ | (simp <;> omega)) _ | refine Ext.trans2 (by assumption) ?_)), ?_⟩; clear hK K; go_simp))
          all_goals clear ho5
          all_goals (apply canon_st ho8 rfl; (intro w2 hS; first | (go_simp; first | done | rfl) | rfl | (obtain ⟨hc, hf, hk, hz⟩ := ecell hS; go_simp; first | done | rfl)); simp only [Act.put, List.setIfInBounds_toArray, List.set_cons_zero, List.set_cons_succ])
          all_goals clear ho8
          all_goals first | (refine canon_ef ho9 rfl (fun K hK => ?_); go_simp; ((go_at_call 152; refine (iSegmentWidth_c _ _ _ _ (by omega) (HV2.out.ext (by repeat (first | exact Ext.refl _ | assumption | refine Ext.drew ?_ | refine Ext.drewN ?_ _ | refine Ext.iter ?_ _ _ | refine Ext.alloc ?_ _ | refine Ext.setCell ?_ (by first | exact Nat.le_refl _ | (simp <;> omega)) _ | refine Ext.trans2 (by assumption) ?_))).1 (by omega)).mono ?_; rintro e w1 ⟨rfl, hb⟩; have hq4 := (hblk2.drew.ext hb).cell hx; have hq5 := (hblk2.drew.ext hb).free)); all_goals (refine hK _ _ ⟨(by repeat (first | exact Ext.refl _ | assumption | refine Ext.drew ?_ | refine Ext.drewN ?_ _ | refine Ext.iter ?_ _ _ | refine Ext.alloc ?_ _ | refine Ext.setCell ?_ (by first | exact Nat.le_refl _ | (simp <;> omega)) _ | refine Ext.trans2 (by assumption) ?_)), ?_⟩; clear hK K; go_simp)) | (refine canon_ef ho9 rfl (fun K hK => ?_); go_simp; (skip); all_goals (refine hK _ _ ⟨(by repeat (first | exact Ext.refl _ | assumption | refine Ext.drew ?_ | refine Ext.drewN ?_ _ | refine Ext.iter ?_ _ _ | refine Ext.alloc ?_ _ | refine Ext.setCell ?_ (by first | exact Nat.le_refl _ | (simp <;> omega)) _ | refine Ext.trans2 (by assumption) ?_)), ?_⟩; clear hK K; go_simp))
          all_goals clear ho9
          all_goals refine canon_done (NoPanic.normal ?_)
          clear e1
          go_wp2
          go_roundw
          case rel =>
            have hw := HW2.out.step ⟨hM1, hlt⟩ ⟨ht1, hlt2⟩ (t := t)
            exact ⟨t + 1, _, by omega, by omega, by go_num, (hblk2.drew.ext hb).set _ _, hw, (by repeat (first | exact Ext.refl _ | assumption | refine Ext.drew ?_ | refine Ext.drewN ?_ _ | refine Ext.iter ?_ _ _ | refine Ext.alloc ?_ _ | refine Ext.setCell ?_ (by first | exact Nat.le_refl _ | (simp <;> omega)) _ | refine Ext.trans2 (by assumption) ?_)), (HV2.out.ext (by repeat (first | exact Ext.refl _ | assumption | refine Ext.drew ?_ | refine Ext.drewN ?_ _ | refine Ext.iter ?_ _ _ | refine Ext.alloc ?_ _ | refine Ext.setCell ?_ (by first | exact Nat.le_refl _ | (simp <;> omega)) _ | refine Ext.trans2 (by assumption) ?_))).set (by omega) _ _⟩
          case measure => simp [intOf]; omega
        · go_wp2
          go_roundw
          case rel => exact ⟨M + 1, cs2, by omega, by omega, by go_num, hblk2, HW2.out.next (by omega), hext2⟩
          case measure => simp [intOf]; omega
    · go_wp2
      go_ret
      have e : M = 5 := by omega
      subst e
      exact ⟨⟨_, cs, rfl, Nat.le_refl _, hblk, HW.out⟩, (by repeat (first | exact Ext.refl _ | assumption | refine Ext.drew ?_ | refine Ext.drewN ?_ _ | refine Ext.iter ?_ _ _ | refine Ext.alloc ?_ _ | refine Ext.setCell ?_ (by first | exact Nat.le_refl _ | (simp <;> omega)) _ | refine Ext.trans2 (by assumption) ?_))⟩
end Go.Proofs.YthpnkcamjcohgaaDoor
