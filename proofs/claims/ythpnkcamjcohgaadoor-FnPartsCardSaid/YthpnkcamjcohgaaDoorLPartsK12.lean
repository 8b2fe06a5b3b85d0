/- The best length and the best segments. -/
import Derived.Test.YthpnkcamjcohgaaDoorLPartsK11
import Derived.Test.YthpnkcamjcohgaaDoorLPartsK08
import Derived.Test.YthpnkcamjcohgaaDoorLPartsK05
import Derived.Test.YthpnkcamjcohgaaDoorLPartsK01
/-! The best length and the best segments. -/
namespace Go.Proofs.YthpnkcamjcohgaaDoor
set_option linter.unusedVariables false
set_option linter.unusedSimpArgs false
open Go.RowKit

theorem isMessage_c (s : ByteArray) (w : World) (hs : s.size ≤ 1048576) :
    Calls Tryd.prog 53 #[.string s] w fun e w' => isB e (s.size ≤ 400) ∧ w = w' := by
  go_enter Tryd.func53, Tryd.ntmps53
  go_wp2
  go_ret
  exact ⟨isB_m (by simp; omega), rfl⟩

end Go.Proofs.YthpnkcamjcohgaaDoor

/-! The specification's table. -/
namespace Go.Proofs.YthpnkcamjcohgaaDoor
set_option linter.unusedVariables false
set_option linter.unusedSimpArgs false
open Go.RowKit

theorem sBetter_c (a b : Cell) (w : World) :
    Calls Tryd.prog 155 #[a.val, b.val] w fun e w' => e = .returned (.bool (a.better b)) ∧ Ext w w' := by
  unfold Cell.better Cell.val
  by_cases h1 : a.len = b.len
  · by_cases h2 : a.cnt = b.cnt
    · by_cases h3 : a.size = b.size
      · simp only [h1, h2, h3, ne_eq, not_true_eq_false, if_false]
        go_enter Tryd.func155, Tryd.ntmps155
        go_wp2
        go_ret
        exact ⟨rfl, (by repeat (first | exact Ext.refl _ | assumption | refine Ext.drew ?_ | refine Ext.drewN ?_ _ | refine Ext.iter ?_ _ _ | refine Ext.alloc ?_ _ | refine Ext.setCell ?_ (by first | exact Nat.le_refl _ | (simp <;> omega)) _ | refine Ext.trans2 (by assumption) ?_))⟩
      · simp only [h1, h2, h3, ne_eq, not_true_eq_false, not_false_eq_true, if_true, if_false]
        go_enter Tryd.func155, Tryd.ntmps155
        go_wp2
        go_ret
        exact ⟨rfl, (by repeat (first | exact Ext.refl _ | assumption | refine Ext.drew ?_ | refine Ext.drewN ?_ _ | refine Ext.iter ?_ _ _ | refine Ext.alloc ?_ _ | refine Ext.setCell ?_ (by first | exact Nat.le_refl _ | (simp <;> omega)) _ | refine Ext.trans2 (by assumption) ?_))⟩
    · simp only [h1, h2, ne_eq, not_true_eq_false, not_false_eq_true, if_true, if_false]
      go_enter Tryd.func155, Tryd.ntmps155
      go_wp2
      go_ret
      exact ⟨rfl, (by repeat (first | exact Ext.refl _ | assumption | refine Ext.drew ?_ | refine Ext.drewN ?_ _ | refine Ext.iter ?_ _ _ | refine Ext.alloc ?_ _ | refine Ext.setCell ?_ (by first | exact Nat.le_refl _ | (simp <;> omega)) _ | refine Ext.trans2 (by assumption) ?_))⟩
  · simp only [h1, ne_eq, not_true_eq_false, not_false_eq_true, if_true, if_false]
    go_enter Tryd.func155, Tryd.ntmps155
    go_wp2
    go_ret
    exact ⟨rfl, (by repeat (first | exact Ext.refl _ | assumption | refine Ext.drew ?_ | refine Ext.drewN ?_ _ | refine Ext.iter ?_ _ _ | refine Ext.alloc ?_ _ | refine Ext.setCell ?_ (by first | exact Nat.le_refl _ | (simp <;> omega)) _ | refine Ext.trans2 (by assumption) ?_))⟩

/-- The table in a round: the shorter rests are there, and the best choice so far where there is one. -/
def WTb (s : ByteArray) (cs : Array Value) (d : Nat) (b : Cell) : Prop := DTab s cs d ∧ (b.cnt ≠ 0 → ∀ k, k < 4 → cs[(s.size - 1 - d) * 4 + k]? = b.cells[k]?)
theorem WTb.done {s : ByteArray} {cs : Array Value} {d : Nat} (h : WTb s cs d (cell s (d + 1))) (hd : d < s.size) : DTab s cs (d + 1) := by
  refine ⟨h.1.1, fun j h1 h2 k hk => ?_⟩
  by_cases e : j = d + 1
  · subst e
    have hg := cell_good s (d + 1) (by omega)
    rw [show s.size - (d + 1) = s.size - 1 - d by omega]
    exact h.2 (by unfold Cell.good at hg; omega) k hk
  · exact h.1.2 j (by omega) h2 k hk
theorem WTb.put {s : ByteArray} {cs : Array Value} {d : Nat} {b : Cell} (h : WTb s cs d b) (hd : d < s.size) (x : Cell) : WTb s (put4 cs ((s.size - 1 - d) * 4) x) d x := by
  refine ⟨⟨by simp [put4, h.1.1], fun j h1 h2 k hk => ?_⟩, fun _ k hk => put4_at (by rw [h.1.1]; omega) hk⟩
  rw [put4_ne (by omega)]
  exact h.1.2 j h1 h2 k hk
theorem WTb.cells {s : ByteArray} {cs : Array Value} {d : Nat} {b : Cell} (h : WTb s cs d b) (hb : b.cnt ≠ 0) :
    cs[(s.size - 1 - d) * 4]? = some (.int .i64 b.len) ∧ cs[(s.size - 1 - d) * 4 + 1]? = some (.int .i64 b.cnt) ∧ cs[(s.size - 1 - d) * 4 + 2]? = some (.int .i64 b.size) ∧ cs[(s.size - 1 - d) * 4 + 3]? = some (.int .i64 b.mode) :=
  ⟨h.2 hb 0 (by omega), h.2 hb 1 (by omega), h.2 hb 2 (by omega), h.2 hb 3 (by omega)⟩
theorem Blk.ex4 {w : World} {g : Nat} {cs : Array Value} {t : TypeId} (h : Blk w g cs t) {o : Nat} (ho : o + 4 ≤ cs.size) :
    (∃ v, w.cell? ⟨g, o, none⟩ = some v) ∧ (∃ v, w.cell? ⟨g, o + 1, none⟩ = some v) ∧ (∃ v, w.cell? ⟨g, o + 2, none⟩ = some v) ∧ (∃ v, w.cell? ⟨g, o + 3, none⟩ = some v) :=
  ⟨⟨_, h.cell (Array.getElem?_eq_getElem (by omega))⟩, ⟨_, h.cell (Array.getElem?_eq_getElem (by omega))⟩, ⟨_, h.cell (Array.getElem?_eq_getElem (by omega))⟩, ⟨_, h.cell (Array.getElem?_eq_getElem (by omega))⟩⟩
theorem far_next (m : Int) (s : ByteArray) (d t : Nat) (hd : d < s.size) (ht1 : 1 ≤ t) (ht : t ≤ farF m s (d + 1) + 1) (h255 : t ≤ 255) (hd1 : t ≤ d + 1) :
    (t ≤ farF m s (d + 1) ↔ 0 ≤ charVal m (byteAt s (s.size - 1 - d + t - 1))) := by
  constructor
  · intro h
    have := farF_valid m s (d + 1) (by omega) t ht1 h
    rwa [show s.size - (d + 1) + t - 1 = s.size - 1 - d + t - 1 by omega] at this
  · intro h
    by_cases e : t ≤ farF m s (d + 1)
    · exact e
    · have e2 : farF m s (d + 1) = t - 1 := by omega
      rcases farF_stop m s (d + 1) (by omega) with h2 | h2 | h2
      · omega
      · omega
      · rw [e2, show s.size - (d + 1) + (t - 1) = s.size - 1 - d + t - 1 by omega] at h2
        omega

theorem foldT_at (L : Nat → Cell) (d : Nat) (m : Int) (b : Cell) (t : Nat) (ht : 1 ≤ t) (xc : Cell) (h : L (d - t) = xc) : foldT L d m b t = (foldT L d m b (t - 1)).upd ⟨11 + textW m t + xc.len, xc.cnt + 1, t, m⟩ := by
  obtain ⟨q, rfl⟩ : ∃ q, t = q + 1 := ⟨t - 1, by omega⟩
  rw [← h]
  rfl
set_option maxHeartbeats 2000000 in
set_option maxRecDepth 100000 in
theorem sTable_c (s : ByteArray) (w : World) (hs : s.size ≤ 1048576) :
    Calls Tryd.prog 132 #[.string s] w fun e w' => (∃ g cs, e = .returned (.slice (some ⟨g, 0, none⟩) (s.size + 1) (s.size + 1)) ∧ w.heap.size ≤ g ∧ Blk w' g cs 185 ∧ DTab s cs s.size) ∧ Ext w w' := by
  have hI1 : Tryd.prog.underlying 186 = some (.slice 185) := by kernel_rfl
  have hI2 : (Tryd.prog.info? 185).map (fun i => (i.zero, i.size, i.bytes)) = some (some (.agg #[.int .i64 0, .int .i64 0, .int .i64 0, .int .i64 0]), 4, 32) := by kernel_rfl
  go_enter Tryd.func132, Tryd.ntmps132
  go_wp2_with (first
    | (at_make; go_loud (refine make_blk hI1 hI2 (s.size + 1) ?_ ?_ (by omega) (by omega) ?_; rfl; rfl)))
  have hD := Lib.hid (DTab.zero s)
  have hb := Blk.new w (madeCells Cell.zero.val.cells ((s.size + 1) * 4)) 185
  clear hI1 hI2
  go_loopw [5] (fun i wr => ∃ (d : Nat) (cs : Array Value), d ≤ s.size ∧ i = .int .i64 ((s.size : Int) - 1 - d) ∧ Blk wr w.heap.size cs 185 ∧ Ext w wr ∧ Hid (DTab s cs d)) (fun i _ => (intOf i + 1).toNat)
  case atStart => exact ⟨0, _, Nat.zero_le _, by go_num, hb, (Ext.refl w).alloc _, hD⟩
  case round =>
    clear hb hD
    obtain ⟨d, cs, hd, rfl, hb, hext, hD⟩ := hrel
    by_cases hlt : d < s.size
    · have hdec0 : (d : Int) ≤ s.size - 1 := by omega
      have hdec9 : (s.size : Int) - 1 - d < s.size + 1 := by omega
      go_wp2_with fail
      have hw0 : WTb s cs d (foldM s (cell s) (d + 1) 0) := ⟨hD.out, fun h => absurd rfl h⟩
      have hW := Lib.hid hw0
      clear hw0
      go_loopw [6, 7] (fun fo i wr' => ∃ (M : Nat) (cs' : Array Value) (f : Bool), 1 ≤ M ∧ M ≤ 5 ∧ i = .int .i64 M ∧ fo = .bool f ∧ Hid (f = true ↔ (foldM s (cell s) (d + 1) (M - 1)).cnt ≠ 0) ∧ Blk wr' w.heap.size cs' 185 ∧ Ext w wr' ∧ Hid (WTb s cs' d (foldM s (cell s) (d + 1) (M - 1)))) (fun _ i _ => (5 - intOf i).toNat)
      case atStart => exact ⟨1, cs, false, by omega, by omega, rfl, rfl, Lib.hid ⟨fun h => absurd h (by simp), fun h => absurd rfl h⟩, hb, hext, hW⟩
      case round =>
        clear hb hext hW hD
        obtain ⟨M, csM, f, hM1, hM2, rfl, rfl, hfd, hB, hext, hW⟩ := hrel
        by_cases hlt2 : M ≤ 4
        · have hdec : (M : Int) ≤ 4 := by omega
          go_wp2_with fail
          go_loopw [6, 8] (fun fo i wr' => ∃ (t : Nat) (cs' : Array Value) (f : Bool), 1 ≤ t ∧ t ≤ farF M s (d + 1) + 1 ∧ i = .int .i64 t ∧ fo = .bool f ∧ Hid (f = true ↔ (foldT (cell s) (d + 1) M (foldM s (cell s) (d + 1) (M - 1)) (t - 1)).cnt ≠ 0) ∧ Blk wr' w.heap.size cs' 185 ∧ Ext w wr' ∧ Hid (WTb s cs' d (foldT (cell s) (d + 1) M (foldM s (cell s) (d + 1) (M - 1)) (t - 1)))) (fun _ i _ => (256 - intOf i).toNat)
          case atStart => exact ⟨1, csM, f, by omega, by omega, rfl, rfl, hfd, hB, hext, hW⟩
          case round =>
            clear hB hext hW hfd
            obtain ⟨t, csT, f, ht1, ht2, rfl, rfl, hfd, hB, hext, hW⟩ := hrel
            have hfb := farF_le M s (d + 1)
            by_cases hlt3 : t ≤ farF M s (d + 1)
            · have g1 : (t : Int) ≤ 255 := by omega
              have g2 : (s.size : Int) - 1 - d + t ≤ s.size := by omega
              have hch := (far_next M s d t hlt ht1 ht2 (by omega) (by omega)).1 hlt3
              rw [byteAt_eq (show s.size - 1 - d + t - 1 < s.size by omega)] at hch
              have hch := Lib.hid hch
              have hbi : s.size - 1 - d + t - 1 < s.size := by omega
              have h8 : (s[s.size - 1 - d + t - 1]'hbi).toNat < 256 := UInt8.toNat_lt _
              have hw8 := wrapByte (s[s.size - 1 - d + t - 1]'hbi)
              obtain ⟨k0, k1, k2, k3⟩ := hW.out.1.at4 hlt ht1 (t := t) (by omega)
              have k0 := hB.cell k0
              have k1 := hB.cell k1
              have k2 := hB.cell k2
              have k3 := hB.cell k3
              have k4 := hB.lt
              go_wp2_with (first
                | (go_at_call 153; go_loud (refine (sCharacterValue_c _ _ _).mono ?_); rintro e w2 ⟨rfl, hb⟩; replace hch := hch.out; (obtain ⟨hc, hf, hk, hz⟩ := ecell hb; try (have hx := Ext.trans2 hb (by assumption); obtain ⟨hcx, hfx, hkx, hzx⟩ := ecell hx))))
              have hX := (Ext.refl w2).alloc (.cells (cell s (d + 1 - t)).cells 185)
              have hrest := Blk.new w2 (cell s (d + 1 - t)).cells 185
              have hB5 := (hB.ext hb).ext hX
              have hext5 := (hext.trans hb).trans hX
              have hok := cell_ok s (d + 1 - t)
              have hsw := textW_bd M t (by omega)
              simp only [Cell.cells] at hrest hB5 hext5
              clear k0 k1 k2 k3 k4 hc hf hk hz hcx hfx hkx hzx hx hch hw8 h8 hX hb
              generalize w2.alloc (.cells #[.int .i64 (cell s (d + 1 - t)).len, .int .i64 (cell s (d + 1 - t)).cnt, .int .i64 (cell s (d + 1 - t)).size, .int .i64 (cell s (d + 1 - t)).mode] 185) = w5 at *
              generalize w2.heap.size = gr at *
              generalize hxc : cell s (d + 1 - t) = xc at *
              have k0 := hrest.cell (i := 0) rfl
              have k1 := hrest.cell (i := 1) rfl
              have k2 := hrest.cell (i := 2) rfl
              have k3 := hrest.cell (i := 3) rfl
              have k4 := hrest.lt
              have hj : ((d + 1 - t : Nat) : Int) = d + 1 - t := by omega
              simp only [Cell.ok, hj] at hok
              have e1 := IntWalk.i64_in (11 + textW M t + xc.len) (by omega)
              have e2 := IntWalk.i64_in (xc.cnt + 1) (by omega)
              refine wp_region_ct (fun w' => Ext w5 w') (.st 0 (.st 1 (.st 3 (.st 4 (.st 6 (.st 7 (.st 8 (.st 9 (.st 10 (.two 2 (.st 5 (.st 11 (.one 12 (.one 13 .done)))) 12 (.one 2 (.st 5 (.st 11 (.one 13 .done)))))))))))))) (by kernel_rfl) (by kernel_rfl) (by decide) (by kernel_rfl) ?_ ?_
              · exact (by repeat (first | exact Ext.refl _ | assumption | refine Ext.drew ?_ | refine Ext.drewN ?_ _ | refine Ext.iter ?_ _ _ | refine Ext.alloc ?_ _ | refine Ext.setCell ?_ (by first | exact Nat.le_refl _ | (simp <;> omega)) _ | refine Ext.trans2 (by assumption) ?_))
              refine ct_intro fun ops eo => ?_
              have ho0 := canon_at eo 0 rfl
              have ho1 := canon_at eo 1 rfl
              have ho2 := canon_at eo 2 rfl
              have ho3 := canon_at eo 3 rfl
              have ho4 := canon_at eo 4 rfl
              have ho5 := canon_at eo 5 rfl
              have ho6 := canon_at eo 6 rfl
              have ho7 := canon_at eo 7 rfl
              have ho8 := canon_at eo 8 rfl
              have ho9 := canon_at eo 9 rfl
              have ho10 := canon_at eo 10 rfl
              have ho11 := canon_at eo 11 rfl
              have ho12 := canon_at eo 12 rfl
              have ho13 := canon_at eo 13 rfl
              clear eo
              all_goals (apply ct_st ho0 rfl; (intro w2 hS; first | (go_simp; first | done | rfl) | rfl | (obtain ⟨hc, hf, hk, hz⟩ := ecell hS; go_simp; first | done | rfl)); simp only [Act.put, List.setIfInBounds_toArray, List.set_cons_zero, List.set_cons_succ])
              all_goals clear ho0
              all_goals (apply ct_st ho1 rfl; (intro w2 hS; first | (go_simp; first | done | rfl) | rfl | (obtain ⟨hc, hf, hk, hz⟩ := ecell hS; go_simp; first | done | rfl)); simp only [Act.put, List.setIfInBounds_toArray, List.set_cons_zero, List.set_cons_succ])
              all_goals clear ho1
              all_goals (apply ct_st ho3 rfl; (intro w2 hS; first | (go_simp; first | done | rfl) | rfl | (obtain ⟨hc, hf, hk, hz⟩ := ecell hS; go_simp; first | done | rfl)); simp only [Act.put, List.setIfInBounds_toArray, List.set_cons_zero, List.set_cons_succ])
              all_goals clear ho3
              all_goals (apply ct_st ho4 rfl; (intro w2 hS; first | (go_simp; first | done | rfl) | rfl | (obtain ⟨hc, hf, hk, hz⟩ := ecell hS; go_simp; first | done | rfl)); simp only [Act.put, List.setIfInBounds_toArray, List.set_cons_zero, List.set_cons_succ])
              all_goals clear ho4
              all_goals (apply ct_st ho6 rfl; (intro w2 hS; first | (go_simp; first | done | rfl) | rfl | (obtain ⟨hc, hf, hk, hz⟩ := ecell hS; go_simp; first | done | rfl)); simp only [Act.put, List.setIfInBounds_toArray, List.set_cons_zero, List.set_cons_succ])
              all_goals clear ho6
              all_goals (apply ct_st ho7 rfl; (intro w2 hS; first | (go_simp; first | done | rfl) | rfl | (obtain ⟨hc, hf, hk, hz⟩ := ecell hS; go_simp; first | done | rfl)); simp only [Act.put, List.setIfInBounds_toArray, List.set_cons_zero, List.set_cons_succ])
              all_goals clear ho7
              all_goals (apply ct_st ho8 rfl; (intro w2 hS; first | (go_simp; first | done | rfl) | rfl | (obtain ⟨hc, hf, hk, hz⟩ := ecell hS; go_simp; first | done | rfl)); simp only [Act.put, List.setIfInBounds_toArray, List.set_cons_zero, List.set_cons_succ])
              all_goals clear ho8
              all_goals (apply ct_st ho9 rfl; (intro w2 hS; first | (go_simp; first | done | rfl) | rfl | (obtain ⟨hc, hf, hk, hz⟩ := ecell hS; go_simp; first | done | rfl)); simp only [Act.put, List.setIfInBounds_toArray, List.set_cons_zero, List.set_cons_succ])
              all_goals clear ho9
              all_goals (apply ct_st ho10 rfl; (intro w2 hS; first | (go_simp; first | done | rfl) | rfl | (obtain ⟨hc, hf, hk, hz⟩ := ecell hS; go_simp; first | done | rfl)); simp only [Act.put, List.setIfInBounds_toArray, List.set_cons_zero, List.set_cons_succ])
              all_goals clear ho10
              all_goals
                refine ct_two ?_ ?_
                focus
                  all_goals first | (refine ct_op ho2 rfl (fun K hK => ?_); go_simp; ((go_at_call 154; refine (sLength_c M t _ (by omega) (by omega)).mono ?_; rintro e w6 ⟨rfl, hb⟩; (obtain ⟨hc, hf, hk, hz⟩ := ecell hb; try (have hx := Ext.trans2 hb (by assumption); obtain ⟨hcx, hfx, hkx, hzx⟩ := ecell hx)); try simp at hz)); all_goals (refine hK _ _ ⟨(by repeat (first | exact Ext.refl _ | assumption | refine Ext.drew ?_ | refine Ext.drewN ?_ _ | refine Ext.iter ?_ _ _ | refine Ext.alloc ?_ _ | refine Ext.setCell ?_ (by first | exact Nat.le_refl _ | (simp <;> omega)) _ | refine Ext.trans2 (by assumption) ?_)), ?_⟩; clear hK K; go_simp)) | (refine ct_op ho2 rfl (fun K hK => ?_); go_simp; (skip); all_goals (refine hK _ _ ⟨(by repeat (first | exact Ext.refl _ | assumption | refine Ext.drew ?_ | refine Ext.drewN ?_ _ | refine Ext.iter ?_ _ _ | refine Ext.alloc ?_ _ | refine Ext.setCell ?_ (by first | exact Nat.le_refl _ | (simp <;> omega)) _ | refine Ext.trans2 (by assumption) ?_)), ?_⟩; clear hK K; go_simp))
                  all_goals clear ho2
                  all_goals (apply ct_st ho5 rfl; (intro w2 hS; first | (go_simp; first | done | rfl) | rfl | (obtain ⟨hc, hf, hk, hz⟩ := ecell hS; go_simp; first | done | rfl)); simp only [Act.put, List.setIfInBounds_toArray, List.set_cons_zero, List.set_cons_succ])
                  all_goals clear ho5
                  all_goals (apply ct_st ho11 rfl; (intro w2 hS; first | (go_simp; first | done | rfl) | rfl | (obtain ⟨hc, hf, hk, hz⟩ := ecell hS; go_simp; first | done | rfl)); simp only [Act.put, List.setIfInBounds_toArray, List.set_cons_zero, List.set_cons_succ])
                  all_goals clear ho11
                  all_goals refine ct_one ?_
                  all_goals first | (refine ct_op ho12 rfl (fun K hK => ?_); go_simp; ((go_at_call 154; refine (sLength_c M t _ (by omega) (by omega)).mono ?_; rintro e w6 ⟨rfl, hb⟩; (obtain ⟨hc, hf, hk, hz⟩ := ecell hb; try (have hx := Ext.trans2 hb (by assumption); obtain ⟨hcx, hfx, hkx, hzx⟩ := ecell hx)); try simp at hz)); all_goals (refine hK _ _ ⟨(by repeat (first | exact Ext.refl _ | assumption | refine Ext.drew ?_ | refine Ext.drewN ?_ _ | refine Ext.iter ?_ _ _ | refine Ext.alloc ?_ _ | refine Ext.setCell ?_ (by first | exact Nat.le_refl _ | (simp <;> omega)) _ | refine Ext.trans2 (by assumption) ?_)), ?_⟩; clear hK K; go_simp)) | (refine ct_op ho12 rfl (fun K hK => ?_); go_simp; (skip); all_goals (refine hK _ _ ⟨(by repeat (first | exact Ext.refl _ | assumption | refine Ext.drew ?_ | refine Ext.drewN ?_ _ | refine Ext.iter ?_ _ _ | refine Ext.alloc ?_ _ | refine Ext.setCell ?_ (by first | exact Nat.le_refl _ | (simp <;> omega)) _ | refine Ext.trans2 (by assumption) ?_)), ?_⟩; clear hK K; go_simp))
                  all_goals clear ho12
                  all_goals refine ct_one ?_
                  all_goals first | (refine ct_op ho13 rfl (fun K hK => ?_); go_simp; ((go_at_call 154; refine (sLength_c M t _ (by omega) (by omega)).mono ?_; rintro e w6 ⟨rfl, hb⟩; (obtain ⟨hc, hf, hk, hz⟩ := ecell hb; try (have hx := Ext.trans2 hb (by assumption); obtain ⟨hcx, hfx, hkx, hzx⟩ := ecell hx)); try simp at hz)); all_goals (refine hK _ _ ⟨(by repeat (first | exact Ext.refl _ | assumption | refine Ext.drew ?_ | refine Ext.drewN ?_ _ | refine Ext.iter ?_ _ _ | refine Ext.alloc ?_ _ | refine Ext.setCell ?_ (by first | exact Nat.le_refl _ | (simp <;> omega)) _ | refine Ext.trans2 (by assumption) ?_)), ?_⟩; clear hK K; go_simp)) | (refine ct_op ho13 rfl (fun K hK => ?_); go_simp; (skip); all_goals (refine hK _ _ ⟨(by repeat (first | exact Ext.refl _ | assumption | refine Ext.drew ?_ | refine Ext.drewN ?_ _ | refine Ext.iter ?_ _ _ | refine Ext.alloc ?_ _ | refine Ext.setCell ?_ (by first | exact Nat.le_refl _ | (simp <;> omega)) _ | refine Ext.trans2 (by assumption) ?_)), ?_⟩; clear hK K; go_simp))
                  all_goals clear ho13
                  all_goals refine ct_done (NoPanic.normal ?_)
                rotate_right 1
                focus
                  all_goals first | (refine ct_op ho12 rfl (fun K hK => ?_); go_simp; ((go_at_call 154; refine (sLength_c M t _ (by omega) (by omega)).mono ?_; rintro e w6 ⟨rfl, hb⟩; (obtain ⟨hc, hf, hk, hz⟩ := ecell hb; try (have hx := Ext.trans2 hb (by assumption); obtain ⟨hcx, hfx, hkx, hzx⟩ := ecell hx)); try simp at hz)); all_goals (refine hK _ _ ⟨(by repeat (first | exact Ext.refl _ | assumption | refine Ext.drew ?_ | refine Ext.drewN ?_ _ | refine Ext.iter ?_ _ _ | refine Ext.alloc ?_ _ | refine Ext.setCell ?_ (by first | exact Nat.le_refl _ | (simp <;> omega)) _ | refine Ext.trans2 (by assumption) ?_)), ?_⟩; clear hK K; go_simp)) | (refine ct_op ho12 rfl (fun K hK => ?_); go_simp; (skip); all_goals (refine hK _ _ ⟨(by repeat (first | exact Ext.refl _ | assumption | refine Ext.drew ?_ | refine Ext.drewN ?_ _ | refine Ext.iter ?_ _ _ | refine Ext.alloc ?_ _ | refine Ext.setCell ?_ (by first | exact Nat.le_refl _ | (simp <;> omega)) _ | refine Ext.trans2 (by assumption) ?_)), ?_⟩; clear hK K; go_simp))
                  all_goals clear ho12
                  all_goals refine ct_one ?_
                  all_goals first | (refine ct_op ho2 rfl (fun K hK => ?_); go_simp; ((go_at_call 154; refine (sLength_c M t _ (by omega) (by omega)).mono ?_; rintro e w6 ⟨rfl, hb⟩; (obtain ⟨hc, hf, hk, hz⟩ := ecell hb; try (have hx := Ext.trans2 hb (by assumption); obtain ⟨hcx, hfx, hkx, hzx⟩ := ecell hx)); try simp at hz)); all_goals (refine hK _ _ ⟨(by repeat (first | exact Ext.refl _ | assumption | refine Ext.drew ?_ | refine Ext.drewN ?_ _ | refine Ext.iter ?_ _ _ | refine Ext.alloc ?_ _ | refine Ext.setCell ?_ (by first | exact Nat.le_refl _ | (simp <;> omega)) _ | refine Ext.trans2 (by assumption) ?_)), ?_⟩; clear hK K; go_simp)) | (refine ct_op ho2 rfl (fun K hK => ?_); go_simp; (skip); all_goals (refine hK _ _ ⟨(by repeat (first | exact Ext.refl _ | assumption | refine Ext.drew ?_ | refine Ext.drewN ?_ _ | refine Ext.iter ?_ _ _ | refine Ext.alloc ?_ _ | refine Ext.setCell ?_ (by first | exact Nat.le_refl _ | (simp <;> omega)) _ | refine Ext.trans2 (by assumption) ?_)), ?_⟩; clear hK K; go_simp))
                  all_goals clear ho2
                  all_goals (apply ct_st ho5 rfl; (intro w2 hS; first | (go_simp; first | done | rfl) | rfl | (obtain ⟨hc, hf, hk, hz⟩ := ecell hS; go_simp; first | done | rfl)); simp only [Act.put, List.setIfInBounds_toArray, List.set_cons_zero, List.set_cons_succ])
                  all_goals clear ho5
                  all_goals (apply ct_st ho11 rfl; (intro w2 hS; first | (go_simp; first | done | rfl) | rfl | (obtain ⟨hc, hf, hk, hz⟩ := ecell hS; go_simp; first | done | rfl)); simp only [Act.put, List.setIfInBounds_toArray, List.set_cons_zero, List.set_cons_succ])
                  all_goals clear ho11
                  all_goals refine ct_one ?_
                  all_goals first | (refine ct_op ho13 rfl (fun K hK => ?_); go_simp; ((go_at_call 154; refine (sLength_c M t _ (by omega) (by omega)).mono ?_; rintro e w6 ⟨rfl, hb⟩; (obtain ⟨hc, hf, hk, hz⟩ := ecell hb; try (have hx := Ext.trans2 hb (by assumption); obtain ⟨hcx, hfx, hkx, hzx⟩ := ecell hx)); try simp at hz)); all_goals (refine hK _ _ ⟨(by repeat (first | exact Ext.refl _ | assumption | refine Ext.drew ?_ | refine Ext.drewN ?_ _ | refine Ext.iter ?_ _ _ | refine Ext.alloc ?_ _ | refine Ext.setCell ?_ (by first | exact Nat.le_refl _ | (simp <;> omega)) _ | refine Ext.trans2 (by assumption) ?_)), ?_⟩; clear hK K; go_simp)) | (refine ct_op ho13 rfl (fun K hK => ?_); go_simp; (skip); all_goals (refine hK _ _ ⟨(by repeat (first | exact Ext.refl _ | assumption | refine Ext.drew ?_ | refine Ext.drewN ?_ _ | refine Ext.iter ?_ _ _ | refine Ext.alloc ?_ _ | refine Ext.setCell ?_ (by first | exact Nat.le_refl _ | (simp <;> omega)) _ | refine Ext.trans2 (by assumption) ?_)), ?_⟩; clear hK K; go_simp))
                  all_goals clear ho13
                  all_goals refine ct_done (NoPanic.normal ?_)
              all_goals clear e1 e2
              focus
                have hE0 : Ext w5 w6 := (((Ext.refl w5).drew).alloc _).trans hb
                obtain ⟨w7, hw7⟩ : ∃ w7, w7 = (((w6.setCell ⟨w5.heap.size, 0, none⟩ (.int .i64 (11 + textW M t + xc.len))).setCell ⟨w5.heap.size, 1, none⟩ (.int .i64 (xc.cnt + 1))).setCell ⟨w5.heap.size, 2, none⟩ (.int .i64 t)).setCell ⟨w5.heap.size, 3, none⟩ (.int .i64 M) := ⟨_, rfl⟩
                have hx7 : Blk w7 w5.heap.size #[.int .i64 (11 + textW M t + xc.len), .int .i64 (xc.cnt + 1), .int .i64 t, .int .i64 M] 185 := by
                  rw [hw7]
                  exact ((Blk.new w5.drew _ _).ext hb).set4 (⟨11 + textW M t + xc.len, xc.cnt + 1, t, M⟩ : Cell)
                have hE7 : Ext w5 w7 := by
                  rw [hw7]
                  exact (((hE0.setCell (Nat.le_refl _) _).setCell (Nat.le_refl _) _).setCell (Nat.le_refl _) _).setCell (Nat.le_refl _) _
                rw [← hw7]
                have hgx : w5.heap.size ≤ w5.heap.size := Nat.le_refl _
                generalize hgxe : w5.heap.size = gx at hx7 hgx ⊢
                clear hw7 hb hE0 hc hf hk hz
              rotate_right 1
              focus
                obtain ⟨w7, hw7⟩ : ∃ w7, w7 = w6.alloc (.cells #[.int .i64 (11 + textW M t + xc.len), .int .i64 (xc.cnt + 1), .int .i64 t, .int .i64 M] 185) := ⟨_, rfl⟩
                have hx7 : Blk w7 w6.heap.size #[.int .i64 (11 + textW M t + xc.len), .int .i64 (xc.cnt + 1), .int .i64 t, .int .i64 M] 185 := by
                  rw [hw7]
                  exact Blk.new _ _ _
                have hE7 : Ext w5 w7 := by
                  rw [hw7]
                  exact ((Ext.refl w5).drew.trans hb).alloc _
                rw [← hw7]
                have hgx : w5.heap.size ≤ w6.heap.size := by have := hb.below.size; exact this
                generalize hgxe : w6.heap.size = gx at hx7 hgx ⊢
                clear hw7 hb hc hf hk hz
              all_goals have hB7 := hB5.ext hE7
              all_goals have hext7 := hext5.trans hE7
              all_goals clear hB5 hext5 hrest k0 k1 k2 k3 k4 hE7 hsw
              all_goals have hup := Lib.hid (foldT_at (cell s) (d + 1) M (foldM s (cell s) (d + 1) (M - 1)) t ht1 xc hxc)
              all_goals have q0 := hx7.cell (i := 0) rfl
              all_goals have q1 := hx7.cell (i := 1) rfl
              all_goals have q2 := hx7.cell (i := 2) rfl
              all_goals have q3 := hx7.cell (i := 3) rfl
              all_goals have q4 := hx7.lt
              all_goals have q5 := hB7.lt
              all_goals by_cases hc0 : (foldT (cell s) (d + 1) M (foldM s (cell s) (d + 1) (M - 1)) (t - 1)).cnt = 0
              · obtain rfl : f = false := by
                  cases f
                  · rfl
                  · exact absurd hc0 (hfd.out.1 rfl)
                obtain ⟨⟨z0, hz0⟩, ⟨z1, hz1⟩, ⟨z2, hz2⟩, z3, hz3⟩ := hB7.ex4 (o := (s.size - 1 - d) * 4) (by rw [hW.out.1.1]; omega)
                have q6 := hB7.free
                go_wp2_with fail
                refine wp_region_canon (fun w' => Ext w7 w') [(0, true), (1, true), (2, true), (3, true), (4, true), (5, true), (6, true), (7, true), (8, false), (9, true)] (by kernel_rfl) (by kernel_rfl) (by decide) (by kernel_rfl) ?_ ?_
                · exact (by repeat (first | exact Ext.refl _ | assumption | refine Ext.drew ?_ | refine Ext.drewN ?_ _ | refine Ext.iter ?_ _ _ | refine Ext.alloc ?_ _ | refine Ext.setCell ?_ (by first | exact Nat.le_refl _ | (simp <;> omega)) _ | refine Ext.trans2 (by assumption) ?_))
                refine canon_intro fun ops eo => ?_
                have ho0 := canon_at eo 0 rfl
                have ho1 := canon_at eo 1 rfl
                have ho2 := canon_at eo 2 rfl
                have ho3 := canon_at eo 3 rfl
                have ho4 := canon_at eo 4 rfl
                have ho5 := canon_at eo 5 rfl
                have ho6 := canon_at eo 6 rfl
                have ho7 := canon_at eo 7 rfl
                have ho8 := canon_at eo 8 rfl
                have ho9 := canon_at eo 9 rfl
                clear eo
                all_goals first | (apply canon_st ho0 rfl; (intro w2 hS; first | (go_simp; first | done | rfl) | rfl | (obtain ⟨hc, hf, hk, hz⟩ := ecell hS; go_simp; first | done | rfl)); simp only [Act.put, List.setIfInBounds_toArray, List.set_cons_zero, List.set_cons_succ]) | (refine canon_stu ho0 rfl (by assumption) rfl rfl ?_; simp only [Act.put, List.setIfInBounds_toArray, List.set_cons_zero, List.set_cons_succ]) | (refine canon_stx ho0 rfl (by assumption) rfl rfl ?_; simp only [Act.put, List.setIfInBounds_toArray, List.set_cons_zero, List.set_cons_succ]) | (refine canon_stw (v := ?_) ho0 rfl (by assumption) rfl rfl ?_ ?_; rotate_left 1; (intro w2 hS; first | (go_simp; first | done | rfl) | rfl | (obtain ⟨hc, hf, hk, hz⟩ := ecell hS; go_simp; first | done | rfl)); simp only [Act.put, List.setIfInBounds_toArray, List.set_cons_zero, List.set_cons_succ])
                all_goals first | (apply canon_st ho1 rfl; (intro w2 hS; first | (go_simp; first | done | rfl) | rfl | (obtain ⟨hc, hf, hk, hz⟩ := ecell hS; go_simp; first | done | rfl)); simp only [Act.put, List.setIfInBounds_toArray, List.set_cons_zero, List.set_cons_succ]) | (refine canon_stu ho1 rfl (by assumption) rfl rfl ?_; simp only [Act.put, List.setIfInBounds_toArray, List.set_cons_zero, List.set_cons_succ]) | (refine canon_stx ho1 rfl (by assumption) rfl rfl ?_; simp only [Act.put, List.setIfInBounds_toArray, List.set_cons_zero, List.set_cons_succ]) | (refine canon_stw (v := ?_) ho1 rfl (by assumption) rfl rfl ?_ ?_; rotate_left 1; (intro w2 hS; first | (go_simp; first | done | rfl) | rfl | (obtain ⟨hc, hf, hk, hz⟩ := ecell hS; go_simp; first | done | rfl)); simp only [Act.put, List.setIfInBounds_toArray, List.set_cons_zero, List.set_cons_succ])
                all_goals first | (apply canon_st ho2 rfl; (intro w2 hS; first | (go_simp; first | done | rfl) | rfl | (obtain ⟨hc, hf, hk, hz⟩ := ecell hS; go_simp; first | done | rfl)); simp only [Act.put, List.setIfInBounds_toArray, List.set_cons_zero, List.set_cons_succ]) | (refine canon_stu ho2 rfl (by assumption) rfl rfl ?_; simp only [Act.put, List.setIfInBounds_toArray, List.set_cons_zero, List.set_cons_succ]) | (refine canon_stx ho2 rfl (by assumption) rfl rfl ?_; simp only [Act.put, List.setIfInBounds_toArray, List.set_cons_zero, List.set_cons_succ]) | (refine canon_stw (v := ?_) ho2 rfl (by assumption) rfl rfl ?_ ?_; rotate_left 1; (intro w2 hS; first | (go_simp; first | done | rfl) | rfl | (obtain ⟨hc, hf, hk, hz⟩ := ecell hS; go_simp; first | done | rfl)); simp only [Act.put, List.setIfInBounds_toArray, List.set_cons_zero, List.set_cons_succ])
                all_goals first | (apply canon_st ho3 rfl; (intro w2 hS; first | (go_simp; first | done | rfl) | rfl | (obtain ⟨hc, hf, hk, hz⟩ := ecell hS; go_simp; first | done | rfl)); simp only [Act.put, List.setIfInBounds_toArray, List.set_cons_zero, List.set_cons_succ]) | (refine canon_stu ho3 rfl (by assumption) rfl rfl ?_; simp only [Act.put, List.setIfInBounds_toArray, List.set_cons_zero, List.set_cons_succ]) | (refine canon_stx ho3 rfl (by assumption) rfl rfl ?_; simp only [Act.put, List.setIfInBounds_toArray, List.set_cons_zero, List.set_cons_succ]) | (refine canon_stw (v := ?_) ho3 rfl (by assumption) rfl rfl ?_ ?_; rotate_left 1; (intro w2 hS; first | (go_simp; first | done | rfl) | rfl | (obtain ⟨hc, hf, hk, hz⟩ := ecell hS; go_simp; first | done | rfl)); simp only [Act.put, List.setIfInBounds_toArray, List.set_cons_zero, List.set_cons_succ])
                all_goals first | (apply canon_st ho4 rfl; (intro w2 hS; first | (go_simp; first | done | rfl) | rfl | (obtain ⟨hc, hf, hk, hz⟩ := ecell hS; go_simp; first | done | rfl)); simp only [Act.put, List.setIfInBounds_toArray, List.set_cons_zero, List.set_cons_succ]) | (refine canon_stu ho4 rfl (by assumption) rfl rfl ?_; simp only [Act.put, List.setIfInBounds_toArray, List.set_cons_zero, List.set_cons_succ]) | (refine canon_stx ho4 rfl (by assumption) rfl rfl ?_; simp only [Act.put, List.setIfInBounds_toArray, List.set_cons_zero, List.set_cons_succ]) | (refine canon_stw (v := ?_) ho4 rfl (by assumption) rfl rfl ?_ ?_; rotate_left 1; (intro w2 hS; first | (go_simp; first | done | rfl) | rfl | (obtain ⟨hc, hf, hk, hz⟩ := ecell hS; go_simp; first | done | rfl)); simp only [Act.put, List.setIfInBounds_toArray, List.set_cons_zero, List.set_cons_succ])
                all_goals first | (apply canon_st ho5 rfl; (intro w2 hS; first | (go_simp; first | done | rfl) | rfl | (obtain ⟨hc, hf, hk, hz⟩ := ecell hS; go_simp; first | done | rfl)); simp only [Act.put, List.setIfInBounds_toArray, List.set_cons_zero, List.set_cons_succ]) | (refine canon_stu ho5 rfl (by assumption) rfl rfl ?_; simp only [Act.put, List.setIfInBounds_toArray, List.set_cons_zero, List.set_cons_succ]) | (refine canon_stx ho5 rfl (by assumption) rfl rfl ?_; simp only [Act.put, List.setIfInBounds_toArray, List.set_cons_zero, List.set_cons_succ]) | (refine canon_stw (v := ?_) ho5 rfl (by assumption) rfl rfl ?_ ?_; rotate_left 1; (intro w2 hS; first | (go_simp; first | done | rfl) | rfl | (obtain ⟨hc, hf, hk, hz⟩ := ecell hS; go_simp; first | done | rfl)); simp only [Act.put, List.setIfInBounds_toArray, List.set_cons_zero, List.set_cons_succ])
                all_goals first | (apply canon_st ho6 rfl; (intro w2 hS; first | (go_simp; first | done | rfl) | rfl | (obtain ⟨hc, hf, hk, hz⟩ := ecell hS; go_simp; first | done | rfl)); simp only [Act.put, List.setIfInBounds_toArray, List.set_cons_zero, List.set_cons_succ]) | (refine canon_stu ho6 rfl (by assumption) rfl rfl ?_; simp only [Act.put, List.setIfInBounds_toArray, List.set_cons_zero, List.set_cons_succ]) | (refine canon_stx ho6 rfl (by assumption) rfl rfl ?_; simp only [Act.put, List.setIfInBounds_toArray, List.set_cons_zero, List.set_cons_succ]) | (refine canon_stw (v := ?_) ho6 rfl (by assumption) rfl rfl ?_ ?_; rotate_left 1; (intro w2 hS; first | (go_simp; first | done | rfl) | rfl | (obtain ⟨hc, hf, hk, hz⟩ := ecell hS; go_simp; first | done | rfl)); simp only [Act.put, List.setIfInBounds_toArray, List.set_cons_zero, List.set_cons_succ])
                all_goals first | (apply canon_st ho7 rfl; (intro w2 hS; first | (go_simp; first | done | rfl) | rfl | (obtain ⟨hc, hf, hk, hz⟩ := ecell hS; go_simp; first | done | rfl)); simp only [Act.put, List.setIfInBounds_toArray, List.set_cons_zero, List.set_cons_succ]) | (refine canon_stu ho7 rfl (by assumption) rfl rfl ?_; simp only [Act.put, List.setIfInBounds_toArray, List.set_cons_zero, List.set_cons_succ]) | (refine canon_stx ho7 rfl (by assumption) rfl rfl ?_; simp only [Act.put, List.setIfInBounds_toArray, List.set_cons_zero, List.set_cons_succ]) | (refine canon_stw (v := ?_) ho7 rfl (by assumption) rfl rfl ?_ ?_; rotate_left 1; (intro w2 hS; first | (go_simp; first | done | rfl) | rfl | (obtain ⟨hc, hf, hk, hz⟩ := ecell hS; go_simp; first | done | rfl)); simp only [Act.put, List.setIfInBounds_toArray, List.set_cons_zero, List.set_cons_succ])
                all_goals first | (refine canon_efu ho8 rfl (by assumption) rfl rfl (by first | assumption | exact (by repeat (first | exact Ext.refl _ | assumption | refine Ext.drew ?_ | refine Ext.drewN ?_ _ | refine Ext.iter ?_ _ _ | refine Ext.alloc ?_ _ | refine Ext.setCell ?_ (by first | exact Nat.le_refl _ | (simp <;> omega)) _ | refine Ext.trans2 (by assumption) ?_))) ?_; simp only [Act.put, List.setIfInBounds_toArray, List.set_cons_zero, List.set_cons_succ]) | (refine canon_efx ho8 rfl (by assumption) rfl rfl (by first | assumption | exact (by repeat (first | exact Ext.refl _ | assumption | refine Ext.drew ?_ | refine Ext.drewN ?_ _ | refine Ext.iter ?_ _ _ | refine Ext.alloc ?_ _ | refine Ext.setCell ?_ (by first | exact Nat.le_refl _ | (simp <;> omega)) _ | refine Ext.trans2 (by assumption) ?_))) ?_; simp only [Act.put, List.setIfInBounds_toArray, List.set_cons_zero, List.set_cons_succ]) | (refine canon_ef ho8 rfl (fun K hK => ?_); go_simp; (skip); all_goals (refine hK _ _ ⟨(by repeat (first | exact Ext.refl _ | assumption | refine Ext.drew ?_ | refine Ext.drewN ?_ _ | refine Ext.iter ?_ _ _ | refine Ext.alloc ?_ _ | refine Ext.setCell ?_ (by first | exact Nat.le_refl _ | (simp <;> omega)) _ | refine Ext.trans2 (by assumption) ?_)), ?_⟩; clear hK K; go_simp)) | (refine canon_efw ho8 rfl (by assumption) rfl rfl (fun K hK => ?_); go_simp; (skip); all_goals (refine hK _ _ ⟨(by repeat (first | exact Ext.refl _ | assumption | refine Ext.drew ?_ | refine Ext.drewN ?_ _ | refine Ext.iter ?_ _ _ | refine Ext.alloc ?_ _ | refine Ext.setCell ?_ (by first | exact Nat.le_refl _ | (simp <;> omega)) _ | refine Ext.trans2 (by assumption) ?_)), ?_⟩; clear hK K; go_simp))
                all_goals first | (apply canon_st ho9 rfl; (intro w2 hS; first | (go_simp; first | done | rfl) | rfl | (obtain ⟨hc, hf, hk, hz⟩ := ecell hS; go_simp; first | done | rfl)); simp only [Act.put, List.setIfInBounds_toArray, List.set_cons_zero, List.set_cons_succ]) | (refine canon_stu ho9 rfl (by assumption) rfl rfl ?_; simp only [Act.put, List.setIfInBounds_toArray, List.set_cons_zero, List.set_cons_succ]) | (refine canon_stx ho9 rfl (by assumption) rfl rfl ?_; simp only [Act.put, List.setIfInBounds_toArray, List.set_cons_zero, List.set_cons_succ]) | (refine canon_stw (v := ?_) ho9 rfl (by assumption) rfl rfl ?_ ?_; rotate_left 1; (intro w2 hS; first | (go_simp; first | done | rfl) | rfl | (obtain ⟨hc, hf, hk, hz⟩ := ecell hS; go_simp; first | done | rfl)); simp only [Act.put, List.setIfInBounds_toArray, List.set_cons_zero, List.set_cons_succ])
                all_goals clear ho0 ho1 ho2 ho3 ho4 ho5 ho6 ho7 ho8 ho9
                all_goals refine canon_done (NoPanic.normal ?_)
                go_wp2_with fail
                have hu := hup.out.trans (Cell.upd_t (.inl (by simpa using hc0)))
                refine ⟨⟨t + 1, _, true, by omega, by omega, by go_num, rfl, Lib.hid ⟨fun _ => ?_, fun _ => rfl⟩, hB7.put4 _ ⟨11 + textW M t + xc.len, xc.cnt + 1, t, M⟩, (((((hext7.setCell (Nat.le_refl _) _).setCell (Nat.le_refl _) _).setCell (Nat.le_refl _) _).setCell (Nat.le_refl _) _).drew), Lib.hid ?_⟩, by simp [intOf]; omega⟩
                · rw [show t + 1 - 1 = t from rfl, hu]
                  show xc.cnt + 1 ≠ 0
                  omega
                · rw [show t + 1 - 1 = t from rfl, hu]
                  exact hW.out.put hlt _
              rotate_left 1
              · obtain rfl : f = false := by
                  cases f
                  · rfl
                  · exact absurd hc0 (hfd.out.1 rfl)
                obtain ⟨⟨z0, hz0⟩, ⟨z1, hz1⟩, ⟨z2, hz2⟩, z3, hz3⟩ := hB7.ex4 (o := (s.size - 1 - d) * 4) (by rw [hW.out.1.1]; omega)
                have q6 := hB7.free
                go_wp2_with fail
                refine wp_region_canon (fun w' => Ext w7 w') [(0, true), (1, true), (2, true), (3, true), (4, true), (5, true), (6, true), (7, true), (8, false), (9, true)] (by kernel_rfl) (by kernel_rfl) (by decide) (by kernel_rfl) ?_ ?_
                · exact (by repeat (first | exact Ext.refl _ | assumption | refine Ext.drew ?_ | refine Ext.drewN ?_ _ | refine Ext.iter ?_ _ _ | refine Ext.alloc ?_ _ | refine Ext.setCell ?_ (by first | exact Nat.le_refl _ | (simp <;> omega)) _ | refine Ext.trans2 (by assumption) ?_))
                refine canon_intro fun ops eo => ?_
                have ho0 := canon_at eo 0 rfl
                have ho1 := canon_at eo 1 rfl
                have ho2 := canon_at eo 2 rfl
                have ho3 := canon_at eo 3 rfl
                have ho4 := canon_at eo 4 rfl
                have ho5 := canon_at eo 5 rfl
                have ho6 := canon_at eo 6 rfl
                have ho7 := canon_at eo 7 rfl
                have ho8 := canon_at eo 8 rfl
                have ho9 := canon_at eo 9 rfl
                clear eo
                all_goals first | (apply canon_st ho0 rfl; (intro w2 hS; first | (go_simp; first | done | rfl) | rfl | (obtain ⟨hc, hf, hk, hz⟩ := ecell hS; go_simp; first | done | rfl)); simp only [Act.put, List.setIfInBounds_toArray, List.set_cons_zero, List.set_cons_succ]) | (refine canon_stu ho0 rfl (by assumption) rfl rfl ?_; simp only [Act.put, List.setIfInBounds_toArray, List.set_cons_zero, List.set_cons_succ]) | (refine canon_stx ho0 rfl (by assumption) rfl rfl ?_; simp only [Act.put, List.setIfInBounds_toArray, List.set_cons_zero, List.set_cons_succ]) | (refine canon_stw (v := ?_) ho0 rfl (by assumption) rfl rfl ?_ ?_; rotate_left 1; (intro w2 hS; first | (go_simp; first | done | rfl) | rfl | (obtain ⟨hc, hf, hk, hz⟩ := ecell hS; go_simp; first | done | rfl)); simp only [Act.put, List.setIfInBounds_toArray, List.set_cons_zero, List.set_cons_succ])
                all_goals first | (apply canon_st ho1 rfl; (intro w2 hS; first | (go_simp; first | done | rfl) | rfl | (obtain ⟨hc, hf, hk, hz⟩ := ecell hS; go_simp; first | done | rfl)); simp only [Act.put, List.setIfInBounds_toArray, List.set_cons_zero, List.set_cons_succ]) | (refine canon_stu ho1 rfl (by assumption) rfl rfl ?_; simp only [Act.put, List.setIfInBounds_toArray, List.set_cons_zero, List.set_cons_succ]) | (refine canon_stx ho1 rfl (by assumption) rfl rfl ?_; simp only [Act.put, List.setIfInBounds_toArray, List.set_cons_zero, List.set_cons_succ]) | (refine canon_stw (v := ?_) ho1 rfl (by assumption) rfl rfl ?_ ?_; rotate_left 1; (intro w2 hS; first | (go_simp; first | done | rfl) | rfl | (obtain ⟨hc, hf, hk, hz⟩ := ecell hS; go_simp; first | done | rfl)); simp only [Act.put, List.setIfInBounds_toArray, List.set_cons_zero, List.set_cons_succ])
                all_goals first | (apply canon_st ho2 rfl; (intro w2 hS; first | (go_simp; first | done | rfl) | rfl | (obtain ⟨hc, hf, hk, hz⟩ := ecell hS; go_simp; first | done | rfl)); simp only [Act.put, List.setIfInBounds_toArray, List.set_cons_zero, List.set_cons_succ]) | (refine canon_stu ho2 rfl (by assumption) rfl rfl ?_; simp only [Act.put, List.setIfInBounds_toArray, List.set_cons_zero, List.set_cons_succ]) | (refine canon_stx ho2 rfl (by assumption) rfl rfl ?_; simp only [Act.put, List.setIfInBounds_toArray, List.set_cons_zero, List.set_cons_succ]) | (refine canon_stw (v := ?_) ho2 rfl (by assumption) rfl rfl ?_ ?_; rotate_left 1; (intro w2 hS; first | (go_simp; first | done | rfl) | rfl | (obtain ⟨hc, hf, hk, hz⟩ := ecell hS; go_simp; first | done | rfl)); simp only [Act.put, List.setIfInBounds_toArray, List.set_cons_zero, List.set_cons_succ])
                all_goals first | (apply canon_st ho3 rfl; (intro w2 hS; first | (go_simp; first | done | rfl) | rfl | (obtain ⟨hc, hf, hk, hz⟩ := ecell hS; go_simp; first | done | rfl)); simp only [Act.put, List.setIfInBounds_toArray, List.set_cons_zero, List.set_cons_succ]) | (refine canon_stu ho3 rfl (by assumption) rfl rfl ?_; simp only [Act.put, List.setIfInBounds_toArray, List.set_cons_zero, List.set_cons_succ]) | (refine canon_stx ho3 rfl (by assumption) rfl rfl ?_; simp only [Act.put, List.setIfInBounds_toArray, List.set_cons_zero, List.set_cons_succ]) | (refine canon_stw (v := ?_) ho3 rfl (by assumption) rfl rfl ?_ ?_; rotate_left 1; (intro w2 hS; first | (go_simp; first | done | rfl) | rfl | (obtain ⟨hc, hf, hk, hz⟩ := ecell hS; go_simp; first | done | rfl)); simp only [Act.put, List.setIfInBounds_toArray, List.set_cons_zero, List.set_cons_succ])
                all_goals first | (apply canon_st ho4 rfl; (intro w2 hS; first | (go_simp; first | done | rfl) | rfl | (obtain ⟨hc, hf, hk, hz⟩ := ecell hS; go_simp; first | done | rfl)); simp only [Act.put, List.setIfInBounds_toArray, List.set_cons_zero, List.set_cons_succ]) | (refine canon_stu ho4 rfl (by assumption) rfl rfl ?_; simp only [Act.put, List.setIfInBounds_toArray, List.set_cons_zero, List.set_cons_succ]) | (refine canon_stx ho4 rfl (by assumption) rfl rfl ?_; simp only [Act.put, List.setIfInBounds_toArray, List.set_cons_zero, List.set_cons_succ]) | (refine canon_stw (v := ?_) ho4 rfl (by assumption) rfl rfl ?_ ?_; rotate_left 1; (intro w2 hS; first | (go_simp; first | done | rfl) | rfl | (obtain ⟨hc, hf, hk, hz⟩ := ecell hS; go_simp; first | done | rfl)); simp only [Act.put, List.setIfInBounds_toArray, List.set_cons_zero, List.set_cons_succ])
                all_goals first | (apply canon_st ho5 rfl; (intro w2 hS; first | (go_simp; first | done | rfl) | rfl | (obtain ⟨hc, hf, hk, hz⟩ := ecell hS; go_simp; first | done | rfl)); simp only [Act.put, List.setIfInBounds_toArray, List.set_cons_zero, List.set_cons_succ]) | (refine canon_stu ho5 rfl (by assumption) rfl rfl ?_; simp only [Act.put, List.setIfInBounds_toArray, List.set_cons_zero, List.set_cons_succ]) | (refine canon_stx ho5 rfl (by assumption) rfl rfl ?_; simp only [Act.put, List.setIfInBounds_toArray, List.set_cons_zero, List.set_cons_succ]) | (refine canon_stw (v := ?_) ho5 rfl (by assumption) rfl rfl ?_ ?_; rotate_left 1; (intro w2 hS; first | (go_simp; first | done | rfl) | rfl | (obtain ⟨hc, hf, hk, hz⟩ := ecell hS; go_simp; first | done | rfl)); simp only [Act.put, List.setIfInBounds_toArray, List.set_cons_zero, List.set_cons_succ])
                all_goals first | (apply canon_st ho6 rfl; (intro w2 hS; first | (go_simp; first | done | rfl) | rfl | (obtain ⟨hc, hf, hk, hz⟩ := ecell hS; go_simp; first | done | rfl)); simp only [Act.put, List.setIfInBounds_toArray, List.set_cons_zero, List.set_cons_succ]) | (refine canon_stu ho6 rfl (by assumption) rfl rfl ?_; simp only [Act.put, List.setIfInBounds_toArray, List.set_cons_zero, List.set_cons_succ]) | (refine canon_stx ho6 rfl (by assumption) rfl rfl ?_; simp only [Act.put, List.setIfInBounds_toArray, List.set_cons_zero, List.set_cons_succ]) | (refine canon_stw (v := ?_) ho6 rfl (by assumption) rfl rfl ?_ ?_; rotate_left 1; (intro w2 hS; first | (go_simp; first | done | rfl) | rfl | (obtain ⟨hc, hf, hk, hz⟩ := ecell hS; go_simp; first | done | rfl)); simp only [Act.put, List.setIfInBounds_toArray, List.set_cons_zero, List.set_cons_succ])
                all_goals first | (apply canon_st ho7 rfl; (intro w2 hS; first | (go_simp; first | done | rfl) | rfl | (obtain ⟨hc, hf, hk, hz⟩ := ecell hS; go_simp; first | done | rfl)); simp only [Act.put, List.setIfInBounds_toArray, List.set_cons_zero, List.set_cons_succ]) | (refine canon_stu ho7 rfl (by assumption) rfl rfl ?_; simp only [Act.put, List.setIfInBounds_toArray, List.set_cons_zero, List.set_cons_succ]) | (refine canon_stx ho7 rfl (by assumption) rfl rfl ?_; simp only [Act.put, List.setIfInBounds_toArray, List.set_cons_zero, List.set_cons_succ]) | (refine canon_stw (v := ?_) ho7 rfl (by assumption) rfl rfl ?_ ?_; rotate_left 1; (intro w2 hS; first | (go_simp; first | done | rfl) | rfl | (obtain ⟨hc, hf, hk, hz⟩ := ecell hS; go_simp; first | done | rfl)); simp only [Act.put, List.setIfInBounds_toArray, List.set_cons_zero, List.set_cons_succ])
                all_goals first | (refine canon_efu ho8 rfl (by assumption) rfl rfl (by first | assumption | exact (by repeat (first | exact Ext.refl _ | assumption | refine Ext.drew ?_ | refine Ext.drewN ?_ _ | refine Ext.iter ?_ _ _ | refine Ext.alloc ?_ _ | refine Ext.setCell ?_ (by first | exact Nat.le_refl _ | (simp <;> omega)) _ | refine Ext.trans2 (by assumption) ?_))) ?_; simp only [Act.put, List.setIfInBounds_toArray, List.set_cons_zero, List.set_cons_succ]) | (refine canon_efx ho8 rfl (by assumption) rfl rfl (by first | assumption | exact (by repeat (first | exact Ext.refl _ | assumption | refine Ext.drew ?_ | refine Ext.drewN ?_ _ | refine Ext.iter ?_ _ _ | refine Ext.alloc ?_ _ | refine Ext.setCell ?_ (by first | exact Nat.le_refl _ | (simp <;> omega)) _ | refine Ext.trans2 (by assumption) ?_))) ?_; simp only [Act.put, List.setIfInBounds_toArray, List.set_cons_zero, List.set_cons_succ]) | (refine canon_ef ho8 rfl (fun K hK => ?_); go_simp; (skip); all_goals (refine hK _ _ ⟨(by repeat (first | exact Ext.refl _ | assumption | refine Ext.drew ?_ | refine Ext.drewN ?_ _ | refine Ext.iter ?_ _ _ | refine Ext.alloc ?_ _ | refine Ext.setCell ?_ (by first | exact Nat.le_refl _ | (simp <;> omega)) _ | refine Ext.trans2 (by assumption) ?_)), ?_⟩; clear hK K; go_simp)) | (refine canon_efw ho8 rfl (by assumption) rfl rfl (fun K hK => ?_); go_simp; (skip); all_goals (refine hK _ _ ⟨(by repeat (first | exact Ext.refl _ | assumption | refine Ext.drew ?_ | refine Ext.drewN ?_ _ | refine Ext.iter ?_ _ _ | refine Ext.alloc ?_ _ | refine Ext.setCell ?_ (by first | exact Nat.le_refl _ | (simp <;> omega)) _ | refine Ext.trans2 (by assumption) ?_)), ?_⟩; clear hK K; go_simp))
                all_goals first | (apply canon_st ho9 rfl; (intro w2 hS; first | (go_simp; first | done | rfl) | rfl | (obtain ⟨hc, hf, hk, hz⟩ := ecell hS; go_simp; first | done | rfl)); simp only [Act.put, List.setIfInBounds_toArray, List.set_cons_zero, List.set_cons_succ]) | (refine canon_stu ho9 rfl (by assumption) rfl rfl ?_; simp only [Act.put, List.setIfInBounds_toArray, List.set_cons_zero, List.set_cons_succ]) | (refine canon_stx ho9 rfl (by assumption) rfl rfl ?_; simp only [Act.put, List.setIfInBounds_toArray, List.set_cons_zero, List.set_cons_succ]) | (refine canon_stw (v := ?_) ho9 rfl (by assumption) rfl rfl ?_ ?_; rotate_left 1; (intro w2 hS; first | (go_simp; first | done | rfl) | rfl | (obtain ⟨hc, hf, hk, hz⟩ := ecell hS; go_simp; first | done | rfl)); simp only [Act.put, List.setIfInBounds_toArray, List.set_cons_zero, List.set_cons_succ])
                all_goals clear ho0 ho1 ho2 ho3 ho4 ho5 ho6 ho7 ho8 ho9
                all_goals refine canon_done (NoPanic.normal ?_)
                go_wp2_with fail
                have hu := hup.out.trans (Cell.upd_t (.inl (by simpa using hc0)))
                refine ⟨⟨t + 1, _, true, by omega, by omega, by go_num, rfl, Lib.hid ⟨fun _ => ?_, fun _ => rfl⟩, hB7.put4 _ ⟨11 + textW M t + xc.len, xc.cnt + 1, t, M⟩, (((((hext7.setCell (Nat.le_refl _) _).setCell (Nat.le_refl _) _).setCell (Nat.le_refl _) _).setCell (Nat.le_refl _) _).drew), Lib.hid ?_⟩, by simp [intOf]; omega⟩
                · rw [show t + 1 - 1 = t from rfl, hu]
                  show xc.cnt + 1 ≠ 0
                  omega
                · rw [show t + 1 - 1 = t from rfl, hu]
                  exact hW.out.put hlt _
              all_goals
                obtain rfl : f = true := hfd.out.2 hc0
                obtain ⟨z0, z1, z2, z3⟩ := hW.out.cells hc0
                have z0 := hB7.cell z0
                have z1 := hB7.cell z1
                have z2 := hB7.cell z2
                have z3 := hB7.cell z3
                have q6 := hB7.free
                generalize hbe : foldT (cell s) (d + 1) M (foldM s (cell s) (d + 1) (M - 1)) (t - 1) = b at *
                go_wp2_with fail
                refine wp_region_canon (fun w' => Ext w7 w') [(0, true), (1, true), (2, true), (3, true), (4, true), (5, true), (6, true), (7, true), (8, false), (9, true)] (by kernel_rfl) (by kernel_rfl) (by decide) (by kernel_rfl) ?_ ?_
                · exact (by repeat (first | exact Ext.refl _ | assumption | refine Ext.drew ?_ | refine Ext.drewN ?_ _ | refine Ext.iter ?_ _ _ | refine Ext.alloc ?_ _ | refine Ext.setCell ?_ (by first | exact Nat.le_refl _ | (simp <;> omega)) _ | refine Ext.trans2 (by assumption) ?_))
                refine canon_intro fun ops eo => ?_
                have ho0 := canon_at eo 0 rfl
                have ho1 := canon_at eo 1 rfl
                have ho2 := canon_at eo 2 rfl
                have ho3 := canon_at eo 3 rfl
                have ho4 := canon_at eo 4 rfl
                have ho5 := canon_at eo 5 rfl
                have ho6 := canon_at eo 6 rfl
                have ho7 := canon_at eo 7 rfl
                have ho8 := canon_at eo 8 rfl
                have ho9 := canon_at eo 9 rfl
                clear eo
                all_goals first | (apply canon_st ho0 rfl; (intro w2 hS; first | (go_simp; first | done | rfl) | rfl | (obtain ⟨hc, hf, hk, hz⟩ := ecell hS; go_simp; first | done | rfl)); simp only [Act.put, List.setIfInBounds_toArray, List.set_cons_zero, List.set_cons_succ]) | (refine canon_stu ho0 rfl (by assumption) rfl rfl ?_; simp only [Act.put, List.setIfInBounds_toArray, List.set_cons_zero, List.set_cons_succ]) | (refine canon_stx ho0 rfl (by assumption) rfl rfl ?_; simp only [Act.put, List.setIfInBounds_toArray, List.set_cons_zero, List.set_cons_succ]) | (refine canon_stw (v := ?_) ho0 rfl (by assumption) rfl rfl ?_ ?_; rotate_left 1; (intro w2 hS; first | (go_simp; first | done | rfl) | rfl | (obtain ⟨hc, hf, hk, hz⟩ := ecell hS; go_simp; first | done | rfl)); simp only [Act.put, List.setIfInBounds_toArray, List.set_cons_zero, List.set_cons_succ])
                all_goals first | (apply canon_st ho1 rfl; (intro w2 hS; first | (go_simp; first | done | rfl) | rfl | (obtain ⟨hc, hf, hk, hz⟩ := ecell hS; go_simp; first | done | rfl)); simp only [Act.put, List.setIfInBounds_toArray, List.set_cons_zero, List.set_cons_succ]) | (refine canon_stu ho1 rfl (by assumption) rfl rfl ?_; simp only [Act.put, List.setIfInBounds_toArray, List.set_cons_zero, List.set_cons_succ]) | (refine canon_stx ho1 rfl (by assumption) rfl rfl ?_; simp only [Act.put, List.setIfInBounds_toArray, List.set_cons_zero, List.set_cons_succ]) | (refine canon_stw (v := ?_) ho1 rfl (by assumption) rfl rfl ?_ ?_; rotate_left 1; (intro w2 hS; first | (go_simp; first | done | rfl) | rfl | (obtain ⟨hc, hf, hk, hz⟩ := ecell hS; go_simp; first | done | rfl)); simp only [Act.put, List.setIfInBounds_toArray, List.set_cons_zero, List.set_cons_succ])
                all_goals first | (apply canon_st ho2 rfl; (intro w2 hS; first | (go_simp; first | done | rfl) | rfl | (obtain ⟨hc, hf, hk, hz⟩ := ecell hS; go_simp; first | done | rfl)); simp only [Act.put, List.setIfInBounds_toArray, List.set_cons_zero, List.set_cons_succ]) | (refine canon_stu ho2 rfl (by assumption) rfl rfl ?_; simp only [Act.put, List.setIfInBounds_toArray, List.set_cons_zero, List.set_cons_succ]) | (refine canon_stx ho2 rfl (by assumption) rfl rfl ?_; simp only [Act.put, List.setIfInBounds_toArray, List.set_cons_zero, List.set_cons_succ]) | (refine canon_stw (v := ?_) ho2 rfl (by assumption) rfl rfl ?_ ?_; rotate_left 1; (intro w2 hS; first | (go_simp; first | done | rfl) | rfl | (obtain ⟨hc, hf, hk, hz⟩ := ecell hS; go_simp; first | done | rfl)); simp only [Act.put, List.setIfInBounds_toArray, List.set_cons_zero, List.set_cons_succ])
                all_goals first | (apply canon_st ho3 rfl; (intro w2 hS; first | (go_simp; first | done | rfl) | rfl | (obtain ⟨hc, hf, hk, hz⟩ := ecell hS; go_simp; first | done | rfl)); simp only [Act.put, List.setIfInBounds_toArray, List.set_cons_zero, List.set_cons_succ]) | (refine canon_stu ho3 rfl (by assumption) rfl rfl ?_; simp only [Act.put, List.setIfInBounds_toArray, List.set_cons_zero, List.set_cons_succ]) | (refine canon_stx ho3 rfl (by assumption) rfl rfl ?_; simp only [Act.put, List.setIfInBounds_toArray, List.set_cons_zero, List.set_cons_succ]) | (refine canon_stw (v := ?_) ho3 rfl (by assumption) rfl rfl ?_ ?_; rotate_left 1; (intro w2 hS; first | (go_simp; first | done | rfl) | rfl | (obtain ⟨hc, hf, hk, hz⟩ := ecell hS; go_simp; first | done | rfl)); simp only [Act.put, List.setIfInBounds_toArray, List.set_cons_zero, List.set_cons_succ])
                all_goals first | (apply canon_st ho4 rfl; (intro w2 hS; first | (go_simp; first | done | rfl) | rfl | (obtain ⟨hc, hf, hk, hz⟩ := ecell hS; go_simp; first | done | rfl)); simp only [Act.put, List.setIfInBounds_toArray, List.set_cons_zero, List.set_cons_succ]) | (refine canon_stu ho4 rfl (by assumption) rfl rfl ?_; simp only [Act.put, List.setIfInBounds_toArray, List.set_cons_zero, List.set_cons_succ]) | (refine canon_stx ho4 rfl (by assumption) rfl rfl ?_; simp only [Act.put, List.setIfInBounds_toArray, List.set_cons_zero, List.set_cons_succ]) | (refine canon_stw (v := ?_) ho4 rfl (by assumption) rfl rfl ?_ ?_; rotate_left 1; (intro w2 hS; first | (go_simp; first | done | rfl) | rfl | (obtain ⟨hc, hf, hk, hz⟩ := ecell hS; go_simp; first | done | rfl)); simp only [Act.put, List.setIfInBounds_toArray, List.set_cons_zero, List.set_cons_succ])
                all_goals first | (apply canon_st ho5 rfl; (intro w2 hS; first | (go_simp; first | done | rfl) | rfl | (obtain ⟨hc, hf, hk, hz⟩ := ecell hS; go_simp; first | done | rfl)); simp only [Act.put, List.setIfInBounds_toArray, List.set_cons_zero, List.set_cons_succ]) | (refine canon_stu ho5 rfl (by assumption) rfl rfl ?_; simp only [Act.put, List.setIfInBounds_toArray, List.set_cons_zero, List.set_cons_succ]) | (refine canon_stx ho5 rfl (by assumption) rfl rfl ?_; simp only [Act.put, List.setIfInBounds_toArray, List.set_cons_zero, List.set_cons_succ]) | (refine canon_stw (v := ?_) ho5 rfl (by assumption) rfl rfl ?_ ?_; rotate_left 1; (intro w2 hS; first | (go_simp; first | done | rfl) | rfl | (obtain ⟨hc, hf, hk, hz⟩ := ecell hS; go_simp; first | done | rfl)); simp only [Act.put, List.setIfInBounds_toArray, List.set_cons_zero, List.set_cons_succ])
                all_goals first | (apply canon_st ho6 rfl; (intro w2 hS; first | (go_simp; first | done | rfl) | rfl | (obtain ⟨hc, hf, hk, hz⟩ := ecell hS; go_simp; first | done | rfl)); simp only [Act.put, List.setIfInBounds_toArray, List.set_cons_zero, List.set_cons_succ]) | (refine canon_stu ho6 rfl (by assumption) rfl rfl ?_; simp only [Act.put, List.setIfInBounds_toArray, List.set_cons_zero, List.set_cons_succ]) | (refine canon_stx ho6 rfl (by assumption) rfl rfl ?_; simp only [Act.put, List.setIfInBounds_toArray, List.set_cons_zero, List.set_cons_succ]) | (refine canon_stw (v := ?_) ho6 rfl (by assumption) rfl rfl ?_ ?_; rotate_left 1; (intro w2 hS; first | (go_simp; first | done | rfl) | rfl | (obtain ⟨hc, hf, hk, hz⟩ := ecell hS; go_simp; first | done | rfl)); simp only [Act.put, List.setIfInBounds_toArray, List.set_cons_zero, List.set_cons_succ])
                all_goals first | (apply canon_st ho7 rfl; (intro w2 hS; first | (go_simp; first | done | rfl) | rfl | (obtain ⟨hc, hf, hk, hz⟩ := ecell hS; go_simp; first | done | rfl)); simp only [Act.put, List.setIfInBounds_toArray, List.set_cons_zero, List.set_cons_succ]) | (refine canon_stu ho7 rfl (by assumption) rfl rfl ?_; simp only [Act.put, List.setIfInBounds_toArray, List.set_cons_zero, List.set_cons_succ]) | (refine canon_stx ho7 rfl (by assumption) rfl rfl ?_; simp only [Act.put, List.setIfInBounds_toArray, List.set_cons_zero, List.set_cons_succ]) | (refine canon_stw (v := ?_) ho7 rfl (by assumption) rfl rfl ?_ ?_; rotate_left 1; (intro w2 hS; first | (go_simp; first | done | rfl) | rfl | (obtain ⟨hc, hf, hk, hz⟩ := ecell hS; go_simp; first | done | rfl)); simp only [Act.put, List.setIfInBounds_toArray, List.set_cons_zero, List.set_cons_succ])
                all_goals first | (refine canon_efu ho8 rfl (by assumption) rfl rfl (by first | assumption | exact (by repeat (first | exact Ext.refl _ | assumption | refine Ext.drew ?_ | refine Ext.drewN ?_ _ | refine Ext.iter ?_ _ _ | refine Ext.alloc ?_ _ | refine Ext.setCell ?_ (by first | exact Nat.le_refl _ | (simp <;> omega)) _ | refine Ext.trans2 (by assumption) ?_))) ?_; simp only [Act.put, List.setIfInBounds_toArray, List.set_cons_zero, List.set_cons_succ]) | (refine canon_efx ho8 rfl (by assumption) rfl rfl (by first | assumption | exact (by repeat (first | exact Ext.refl _ | assumption | refine Ext.drew ?_ | refine Ext.drewN ?_ _ | refine Ext.iter ?_ _ _ | refine Ext.alloc ?_ _ | refine Ext.setCell ?_ (by first | exact Nat.le_refl _ | (simp <;> omega)) _ | refine Ext.trans2 (by assumption) ?_))) ?_; simp only [Act.put, List.setIfInBounds_toArray, List.set_cons_zero, List.set_cons_succ]) | (refine canon_ef ho8 rfl (fun K hK => ?_); go_simp; ((go_at_call 155; go_loud (refine (sBetter_c ⟨11 + textW M t + xc.len, xc.cnt + 1, t, M⟩ b _).mono ?_); rintro e w8 ⟨rfl, hb⟩; (obtain ⟨hc, hf, hk, hz⟩ := ecell hb; try (have hx := Ext.trans2 hb (by assumption); obtain ⟨hcx, hfx, hkx, hzx⟩ := ecell hx)))); all_goals (refine hK _ _ ⟨(by repeat (first | exact Ext.refl _ | assumption | refine Ext.drew ?_ | refine Ext.drewN ?_ _ | refine Ext.iter ?_ _ _ | refine Ext.alloc ?_ _ | refine Ext.setCell ?_ (by first | exact Nat.le_refl _ | (simp <;> omega)) _ | refine Ext.trans2 (by assumption) ?_)), ?_⟩; clear hK K; go_simp)) | (refine canon_efw ho8 rfl (by assumption) rfl rfl (fun K hK => ?_); go_simp; ((go_at_call 155; go_loud (refine (sBetter_c ⟨11 + textW M t + xc.len, xc.cnt + 1, t, M⟩ b _).mono ?_); rintro e w8 ⟨rfl, hb⟩; (obtain ⟨hc, hf, hk, hz⟩ := ecell hb; try (have hx := Ext.trans2 hb (by assumption); obtain ⟨hcx, hfx, hkx, hzx⟩ := ecell hx)))); all_goals (refine hK _ _ ⟨(by repeat (first | exact Ext.refl _ | assumption | refine Ext.drew ?_ | refine Ext.drewN ?_ _ | refine Ext.iter ?_ _ _ | refine Ext.alloc ?_ _ | refine Ext.setCell ?_ (by first | exact Nat.le_refl _ | (simp <;> omega)) _ | refine Ext.trans2 (by assumption) ?_)), ?_⟩; clear hK K; go_simp))
                all_goals first | (apply canon_st ho9 rfl; (intro w2 hS; first | (go_simp; first | done | rfl) | rfl | (obtain ⟨hc, hf, hk, hz⟩ := ecell hS; go_simp; first | done | rfl)); simp only [Act.put, List.setIfInBounds_toArray, List.set_cons_zero, List.set_cons_succ]) | (refine canon_stu ho9 rfl (by assumption) rfl rfl ?_; simp only [Act.put, List.setIfInBounds_toArray, List.set_cons_zero, List.set_cons_succ]) | (refine canon_stx ho9 rfl (by assumption) rfl rfl ?_; simp only [Act.put, List.setIfInBounds_toArray, List.set_cons_zero, List.set_cons_succ]) | (refine canon_stw (v := ?_) ho9 rfl (by assumption) rfl rfl ?_ ?_; rotate_left 1; (intro w2 hS; first | (go_simp; first | done | rfl) | rfl | (obtain ⟨hc, hf, hk, hz⟩ := ecell hS; go_simp; first | done | rfl)); simp only [Act.put, List.setIfInBounds_toArray, List.set_cons_zero, List.set_cons_succ])
                all_goals clear ho0 ho1 ho2 ho3 ho4 ho5 ho6 ho7 ho8 ho9
                all_goals refine canon_done (NoPanic.normal ?_)
                have hx8 := hx7.drew.ext hb
                have hB8 := hB7.drew.ext hb
                clear hc hf hk hz q0 q1 q2 q3 z0 z1 z2 z3 q6
                have q0 := hx8.cell (i := 0) (v := .int .i64 (11 + textW M t + xc.len)) rfl
                have q1 := hx8.cell (i := 1) (v := .int .i64 (xc.cnt + 1)) rfl
                have q2 := hx8.cell (i := 2) (v := .int .i64 t) rfl
                have q3 := hx8.cell (i := 3) (v := .int .i64 M) rfl
                have p4 := hx8.lt
                obtain ⟨z0, z1, z2, z3⟩ := hW.out.cells hc0
                have z0 := hB8.cell z0
                have z1 := hB8.cell z1
                have z2 := hB8.cell z2
                have z3 := hB8.cell z3
                have z4 := hB8.lt
                have q6 := hB8.free
                go_wp2_with fail
                · have hu := hup.out.trans (Cell.upd_t (.inr (by assumption)))
                  have hext8 := hext7.drew.trans hb
                  refine ⟨⟨t + 1, _, true, by omega, by omega, by go_num, rfl, Lib.hid ⟨fun _ => ?_, fun _ => rfl⟩, hB8.put4 _ ⟨11 + textW M t + xc.len, xc.cnt + 1, t, M⟩, ((((hext8.setCell (Nat.le_refl _) _).setCell (Nat.le_refl _) _).setCell (Nat.le_refl _) _).setCell (Nat.le_refl _) _), Lib.hid ?_⟩, by simp [intOf]; omega⟩
                  · rw [show t + 1 - 1 = t from rfl, hu]
                    show xc.cnt + 1 ≠ 0
                    omega
                  · rw [show t + 1 - 1 = t from rfl, hu]
                    exact hW.out.put hlt _
                · have hu := hup.out.trans (Cell.upd_f ⟨by simpa using hc0, by assumption⟩)
                  refine ⟨⟨t + 1, csT, true, by omega, by omega, by go_num, rfl, Lib.hid ⟨fun _ => ?_, fun _ => rfl⟩, hB7.drew.ext hb, hext7.drew.trans hb, Lib.hid ?_⟩, by simp [intOf]; omega⟩
                  · rw [show t + 1 - 1 = t from rfl, hu]
                    exact hc0
                  · rw [show t + 1 - 1 = t from rfl, hu]
                    exact hW.out
            · obtain rfl : t = farF M s (d + 1) + 1 := by omega
              have hfm := foldM_at s (cell s) (d + 1) M hM1
              rw [show farF M s (d + 1) + 1 - 1 = farF M s (d + 1) from rfl, ← hfm] at hfd hW
              clear hfm
              by_cases g1 : ((farF M s (d + 1) + 1 : Nat) : Int) ≤ 255
              · by_cases g2 : (s.size : Int) - 1 - d + (farF M s (d + 1) + 1 : Nat) ≤ s.size
                · have hch : charVal M (byteAt s (s.size - 1 - d + (farF M s (d + 1) + 1) - 1)) < 0 := by
                    have := (far_next M s d (farF M s (d + 1) + 1) hlt ht1 ht2 (by omega) (by omega)).2
                    omega
                  have hbi : s.size - 1 - d + (farF M s (d + 1) + 1) - 1 < s.size := by omega
                  rw [byteAt_eq hbi] at hch
                  have hch := Lib.hid hch
                  have h8 : (s[s.size - 1 - d + (farF M s (d + 1) + 1) - 1]'hbi).toNat < 256 := UInt8.toNat_lt _
                  generalize hge : farF M s (d + 1) + 1 = t at *
                  clear hge
                  go_wp2_with (first
                    | (go_at_call 153; go_loud (refine (sCharacterValue_c _ _ _).mono ?_); rintro e w2 ⟨rfl, hb⟩; replace hch := hch.out; (obtain ⟨hc, hf, hk, hz⟩ := ecell hb; try (have hx := Ext.trans2 hb (by assumption); obtain ⟨hcx, hfx, hkx, hzx⟩ := ecell hx))))
                  exact ⟨⟨M + 1, csT, f, by omega, by omega, by go_num, rfl, hfd, hB.ext hb, hext.trans hb, hW⟩, by simp [intOf]; omega⟩
                · generalize hge : farF M s (d + 1) + 1 = t at *
                  clear hge
                  have g3 : (s.size : Int) < s.size - 1 - d + t := by omega
                  go_wp2_with fail
                  exact ⟨⟨M + 1, csT, f, by omega, by omega, by go_num, rfl, hfd, hB, hext, hW⟩, by simp [intOf]; omega⟩
              · generalize hge : farF M s (d + 1) + 1 = t at *
                clear hge
                have g3 : 255 < (t : Int) := by omega
                go_wp2_with fail
                exact ⟨⟨M + 1, csT, f, by omega, by omega, by go_num, rfl, hfd, hB, hext, hW⟩, by simp [intOf]; omega⟩
        · obtain rfl : M = 5 := by omega
          rw [show 5 - 1 = 4 from rfl, ← cell_succ] at hW
          go_wp2
          refine ⟨⟨d + 1, csM, by omega, by go_num, hB, hext, Lib.hid (hW.out.done hlt)⟩, by simp [intOf]; omega⟩
    · go_wp2
      go_ret
      obtain rfl : d = s.size := by omega
      exact ⟨⟨_, cs, rfl, Nat.le_refl _, hb, hD.out⟩, hext⟩
end Go.Proofs.YthpnkcamjcohgaaDoor

/-! The length of the segmentation in one mode. -/
namespace Go.Proofs.YthpnkcamjcohgaaDoor
set_option linter.unusedVariables false
set_option linter.unusedSimpArgs false
open Go.RowKit

def limR (s : ByteArray) (e : Ending) (v : Int) : Prop := (s.size ≤ 400 ∧ e = .returned (.tuple #[.int .i64 v, .int .i64 0])) ∨ (¬ s.size ≤ 400 ∧ e = .returned (.tuple #[.int .i64 0, .int .i64 3]))
theorem sBestLength_c (s : ByteArray) (w : World) (hs : s.size ≤ 1048576) :
    Calls Tryd.prog 102 #[.string s] w fun e w' => limR s e (cell s s.size).len ∧ Ext w w' := by
  by_cases h : s.size ≤ 400
  · have hd : (s.size : Int) ≤ 400 := by omega
    go_enter Tryd.func102, Tryd.ntmps102
    go_wp2_with (first
      | (go_at_call 132; refine (sTable_c s _ hs).mono ?_; rintro e w1 ⟨⟨g, cs, rfl, hg, hB, hD⟩, hb⟩; have hz0 := hD.2 s.size (Nat.le_refl _) (Nat.le_refl _) 0 (by omega); rw [Nat.sub_self] at hz0; have hz0 := hB.cell (hz0.trans rfl); clear hD))
    go_ret2
    exact ⟨.inl ⟨h, rfl⟩, (by repeat (first | exact Ext.refl _ | assumption | refine Ext.drew ?_ | refine Ext.drewN ?_ _ | refine Ext.iter ?_ _ _ | refine Ext.alloc ?_ _ | refine Ext.setCell ?_ (by first | exact Nat.le_refl _ | (simp <;> omega)) _ | refine Ext.trans2 (by assumption) ?_))⟩
  · have hd : 400 < (s.size : Int) := by omega
    go_enter Tryd.func102, Tryd.ntmps102
    go_wp2
    go_ret2
    exact ⟨.inr ⟨h, rfl⟩, (by repeat (first | exact Ext.refl _ | assumption | refine Ext.drew ?_ | refine Ext.drewN ?_ _ | refine Ext.iter ?_ _ _ | refine Ext.alloc ?_ _ | refine Ext.setCell ?_ (by first | exact Nat.le_refl _ | (simp <;> omega)) _ | refine Ext.trans2 (by assumption) ?_))⟩

end Go.Proofs.YthpnkcamjcohgaaDoor
