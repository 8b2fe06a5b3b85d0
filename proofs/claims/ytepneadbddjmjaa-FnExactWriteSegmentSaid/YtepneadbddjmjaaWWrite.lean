/- The walk of the law WriteSegment. -/
import Derived.Test.YtepneadbddjmjaaWriteS
namespace Go.Proofs.Ytepneadbddjmjaa
set_option linter.unusedVariables false
set_option linter.unusedSimpArgs false
open Go.RowKit

theorem OwnInts.lt0 {B b o : Nat} {w : World} {p : Option Addr} {xs : List Int} (h : OwnInts B w p xs) (hn : xs ≠ []) (hp : p = some ⟨b, o, none⟩) : B ≤ b ∧ b < w.heap.size := by
  obtain ⟨b', o', h1, h2, h3, _⟩ := h 0 (List.length_pos_iff.2 hn)
  rw [hp] at h1
  simp at h1
  omega
theorem IntsAt.keep {w w' : World} {q : Option Addr} {ys : List Int} (h : IntsAt w q ys) (hs : w.heap.size ≤ w'.heap.size) (hk : ∀ b o, ys ≠ [] → q = some ⟨b, o, none⟩ → b < w.heap.size → w'.heap[b]? = w.heap[b]?) : IntsAt w' q ys := fun i hi => by
  obtain ⟨b, o, h1, h2, h3⟩ := h i hi
  have hn : ys ≠ [] := fun e => by subst e; simp at hi
  exact ⟨b, o, h1, Nat.lt_of_lt_of_le h2 hs, (World.cell?_of_block (a := ⟨b, o + i, none⟩) (hk b o hn h1 h2)).trans h3⟩
theorem OwnInts.keep {B : Nat} {w w' : World} {q : Option Addr} {ys : List Int} (h : OwnInts B w q ys) (hs : w.heap.size ≤ w'.heap.size) (hk : ∀ b o, ys ≠ [] → q = some ⟨b, o, none⟩ → b < w.heap.size → w'.heap[b]? = w.heap[b]?) : OwnInts B w' q ys := fun i hi => by
  obtain ⟨b, o, h1, hB, h2, h3, h4⟩ := h i hi
  have hn : ys ≠ [] := fun e => by subst e; simp at hi
  exact ⟨b, o, h1, hB, Nat.lt_of_lt_of_le h2 hs, (World.cell?_of_block (a := ⟨b, o + i, none⟩) (hk b o hn h1 h2)).trans h3, (World.frozen?_of_block (a := ⟨b, o + i, none⟩) (hk b o hn h1 h2)).trans h4⟩
/-- Of what was there only the blocks of these rows may have turned. -/
def Turned (ps : List (Option Addr × List Int)) (w w' : World) : Prop :=
  w.heap.size ≤ w'.heap.size ∧ ∀ k, k < w.heap.size → (∀ x ∈ ps, ∀ b o, x.2 ≠ [] → x.1 = some ⟨b, o, none⟩ → b ≠ k) → w'.heap[k]? = w.heap[k]?
/-- Marking a list leaves all other blocks. -/
theorem mark_c (B : Nat) (p : Option Addr) (c : Nat) (k0 : Int) (xs : List Int) (w : World) (hx : OwnInts B w p xs) (hl : xs.length ≤ 1099511627776) (hk : 0 ≤ k0 ∧ k0 ≤ 4611686018427387904) :
    Calls Try.prog 38 #[.slice p xs.length c, .int .i64 k0] w fun e w' => e = .returned (.int .i64 (k0 + xs.length)) ∧ OwnInts B w' p (marksL k0 xs.length) ∧ Below B w w' ∧
      ∀ k, k < w.heap.size → (∀ b o, xs ≠ [] → p = some ⟨b, o, none⟩ → b ≠ k) → w'.heap[k]? = w.heap[k]? := by
  by_cases h : xs = []
  · subst h
    refine (markInt64S_c w.heap.size p c k0 [] w (OwnInts.nil _ _ _) hl hk).mono ?_
    rintro e w' ⟨h1, h2, h3, h4⟩
    by_cases hB : B ≤ w.heap.size
    · exact ⟨h1, h2.mono hB, h4.mono hB, fun k hk _ => h4.block k hk⟩
    · refine ⟨h1, OwnInts.nil _ _ _, ?_, fun k hk _ => h4.block k hk⟩
      refine ⟨h4.os, h4.tape, h4.output, h4.size, fun k hk => ?_⟩
      by_cases hkk : k < w.heap.size
      · exact h4.block k hkk
      · obtain ⟨_, _, _, hs, hw⟩ := h3
        rw [Array.getElem?_eq_none (by omega), Array.getElem?_eq_none (by omega)]
  · refine (markInt64S_c B p c k0 xs w hx hl hk).mono ?_
    rintro e w' ⟨h1, h2, h3, h4⟩
    refine ⟨h1, h2, h4, fun k hk hd => ?_⟩
    obtain ⟨_, _, _, hs, hw⟩ := h3
    exact hw k fun a e1 => by
      obtain ⟨b, o, hp, _⟩ := hx 0 (List.length_pos_iff.2 h)
      rw [hp] at e1
      obtain rfl := Option.some.inj e1
      exact hd b o h hp

set_option maxRecDepth 100000 in
theorem writeSegment_law (p : Option Addr) (c : Nat) (xs : List Int) (m : Int) (t : ByteArray) (w : World) (hx : IntsAt w p xs) (hl : xs.length ≤ maxLen) (hw : wfs xs) (ht : t.size ≤ maxLen) :
    Calls Try.prog 9 #[.slice p xs.length c, vSeg m t] w fun e w' => e = .returned (.bool true) ∧ Ext w w' := by
  have HW := Lib.hid hw; clear hw
  unfold maxLen at hl
  by_cases hl2 : xs.length ≤ 1048576
  · go_enter Try.func9, Try.ntmps9
    go_wp2_with (first
      | (go_at_call 32; (with_reducible refine (szSegment_c _ _ _ _ (by omega) ht).mono ?_); rintro e w1 ⟨⟨hl, rfl⟩ | ⟨hl, rfl⟩, hb⟩))
    · have ht2 : t.size ≤ 1048576 := by omega
      clear hl ht
      have hx1 : Ext w w1 := ((Ext.refl w).alloc _).trans hb
      have hbx := (Blk.new w #[.int .i64 m, .string t] 41).ext hb
      have q0 := hbx.cell (i := 0) (v := .int .i64 m) rfl
      have q1 := hbx.cell (i := 1) (v := .string t) rfl
      have ql := hbx.lt
      have hwl := wsList_len xs m t hl2 ht2
      generalize hL : wsList xs m t = L at *
      generalize hK : wsCode xs m t = K at *
      have HK := Lib.hid hK; clear hK
      have HL := Lib.hid hL; clear hL
      refine wp_region_canon (fun w' => Ext w1 w') [(0, true), (2, true), (1, false), (3, false), (4, false), (5, true), (6, true), (7, true), (8, true), (9, true)] (by kernel_rfl) (by kernel_rfl) (by decide) (by kernel_rfl) ?_ ?_
      · exact (by repeat (first | exact Ext.refl _ | assumption | refine Ext.drew ?_ | refine Ext.drewN ?_ _ | refine Ext.iter ?_ _ _ | refine Ext.alloc ?_ _ | refine Ext.setCell ?_ (by first | exact Nat.le_refl _ | (simp <;> omega)) _ | refine Ext.trans2 (by assumption) ?_))
      refine canon_intro fun ops eo => ?_
      have ho0 := canon_at eo 0 rfl
      have ho1 := canon_at eo 1 rfl
      have ho2 := canon_at eo 2 rfl
      have ho3 := canon_at eo 3 rfl
      have ho4 := canon_at eo 4 rfl
      have ho5 := canon_at eo 5 rfl
      have ho6 := canon_at eo 6 rfl
      have ho7 := canon_at eo 7 rfl
      have ho8 := canon_at eo 8 rfl
      have ho9 := canon_at eo 9 rfl
      clear eo
      all_goals (apply canon_st ho0 rfl; (intro w2 hS; first | (go_simp; first | done | rfl) | rfl | (obtain ⟨hc, hf, hk, hz⟩ := ecell hS; go_simp; first | done | rfl)); simp only [Act.put, List.setIfInBounds_toArray, List.set_cons_zero, List.set_cons_succ])
      all_goals clear ho0
      all_goals (apply canon_st ho2 rfl; (intro w2 hS; first | (go_simp; first | done | rfl) | rfl | (obtain ⟨hc, hf, hk, hz⟩ := ecell hS; go_simp; first | done | rfl)); simp only [Act.put, List.setIfInBounds_toArray, List.set_cons_zero, List.set_cons_succ])
      all_goals clear ho2
      all_goals first | (refine canon_ef ho1 rfl (fun K hK => ?_); go_simp; ((go_at_call 34; (with_reducible refine (toInt64S_c _ _ _ _ (hx.ext (by repeat (first | exact Ext.refl _ | assumption | refine Ext.drew ?_ | refine Ext.drewN ?_ _ | refine Ext.iter ?_ _ _ | refine Ext.alloc ?_ _ | refine Ext.setCell ?_ (by first | exact Nat.le_refl _ | (simp <;> omega)) _ | refine Ext.trans2 (by assumption) ?_))) hl2).mono ?_); rintro e w2 ⟨⟨p2, rfl, oq2⟩, hb2⟩)); all_goals (refine hK _ _ ⟨(by repeat (first | exact Ext.refl _ | assumption | refine Ext.drew ?_ | refine Ext.drewN ?_ _ | refine Ext.iter ?_ _ _ | refine Ext.alloc ?_ _ | refine Ext.setCell ?_ (by first | exact Nat.le_refl _ | (simp <;> omega)) _ | refine Ext.trans2 (by assumption) ?_)), ?_⟩; clear hK K; go_simp)) | (refine canon_ef ho1 rfl (fun K hK => ?_); go_simp; ((go_at_call 35; (with_reducible refine (toSegment_c _ _ _).mono ?_); rintro e w3 ⟨rfl, hb3⟩)); all_goals (refine hK _ _ ⟨(by repeat (first | exact Ext.refl _ | assumption | refine Ext.drew ?_ | refine Ext.drewN ?_ _ | refine Ext.iter ?_ _ _ | refine Ext.alloc ?_ _ | refine Ext.setCell ?_ (by first | exact Nat.le_refl _ | (simp <;> omega)) _ | refine Ext.trans2 (by assumption) ?_)), ?_⟩; clear hK K; go_simp)) | (refine canon_ef ho1 rfl (fun K hK => ?_); go_simp; ((go_at_call 33; (with_reducible refine (sWriteSegment_c _ _ xs m t _ (oq2.ints.ext (by repeat (first | exact Ext.refl _ | assumption | refine Ext.drew ?_ | refine Ext.drewN ?_ _ | refine Ext.iter ?_ _ _ | refine Ext.alloc ?_ _ | refine Ext.setCell ?_ (by first | exact Nat.le_refl _ | (simp <;> omega)) _ | refine Ext.trans2 (by assumption) ?_))) hl2 ht2).mono ?_); rw [HL.out, HK.out]; rintro e w4 ⟨⟨p4, c4, rfl, oq4⟩, hb4⟩)); all_goals (refine hK _ _ ⟨(by repeat (first | exact Ext.refl _ | assumption | refine Ext.drew ?_ | refine Ext.drewN ?_ _ | refine Ext.iter ?_ _ _ | refine Ext.alloc ?_ _ | refine Ext.setCell ?_ (by first | exact Nat.le_refl _ | (simp <;> omega)) _ | refine Ext.trans2 (by assumption) ?_)), ?_⟩; clear hK K; go_simp))
      all_goals clear ho1
      all_goals first | (refine canon_ef ho3 rfl (fun K hK => ?_); go_simp; ((go_at_call 34; (with_reducible refine (toInt64S_c _ _ _ _ (hx.ext (by repeat (first | exact Ext.refl _ | assumption | refine Ext.drew ?_ | refine Ext.drewN ?_ _ | refine Ext.iter ?_ _ _ | refine Ext.alloc ?_ _ | refine Ext.setCell ?_ (by first | exact Nat.le_refl _ | (simp <;> omega)) _ | refine Ext.trans2 (by assumption) ?_))) hl2).mono ?_); rintro e w2 ⟨⟨p2, rfl, oq2⟩, hb2⟩)); all_goals (refine hK _ _ ⟨(by repeat (first | exact Ext.refl _ | assumption | refine Ext.drew ?_ | refine Ext.drewN ?_ _ | refine Ext.iter ?_ _ _ | refine Ext.alloc ?_ _ | refine Ext.setCell ?_ (by first | exact Nat.le_refl _ | (simp <;> omega)) _ | refine Ext.trans2 (by assumption) ?_)), ?_⟩; clear hK K; go_simp)) | (refine canon_ef ho3 rfl (fun K hK => ?_); go_simp; ((go_at_call 35; (with_reducible refine (toSegment_c _ _ _).mono ?_); rintro e w3 ⟨rfl, hb3⟩)); all_goals (refine hK _ _ ⟨(by repeat (first | exact Ext.refl _ | assumption | refine Ext.drew ?_ | refine Ext.drewN ?_ _ | refine Ext.iter ?_ _ _ | refine Ext.alloc ?_ _ | refine Ext.setCell ?_ (by first | exact Nat.le_refl _ | (simp <;> omega)) _ | refine Ext.trans2 (by assumption) ?_)), ?_⟩; clear hK K; go_simp)) | (refine canon_ef ho3 rfl (fun K hK => ?_); go_simp; ((go_at_call 33; (with_reducible refine (sWriteSegment_c _ _ xs m t _ (oq2.ints.ext (by repeat (first | exact Ext.refl _ | assumption | refine Ext.drew ?_ | refine Ext.drewN ?_ _ | refine Ext.iter ?_ _ _ | refine Ext.alloc ?_ _ | refine Ext.setCell ?_ (by first | exact Nat.le_refl _ | (simp <;> omega)) _ | refine Ext.trans2 (by assumption) ?_))) hl2 ht2).mono ?_); rw [HL.out, HK.out]; rintro e w4 ⟨⟨p4, c4, rfl, oq4⟩, hb4⟩)); all_goals (refine hK _ _ ⟨(by repeat (first | exact Ext.refl _ | assumption | refine Ext.drew ?_ | refine Ext.drewN ?_ _ | refine Ext.iter ?_ _ _ | refine Ext.alloc ?_ _ | refine Ext.setCell ?_ (by first | exact Nat.le_refl _ | (simp <;> omega)) _ | refine Ext.trans2 (by assumption) ?_)), ?_⟩; clear hK K; go_simp))
      all_goals clear ho3
      all_goals first | (refine canon_ef ho4 rfl (fun K hK => ?_); go_simp; ((go_at_call 34; (with_reducible refine (toInt64S_c _ _ _ _ (hx.ext (by repeat (first | exact Ext.refl _ | assumption | refine Ext.drew ?_ | refine Ext.drewN ?_ _ | refine Ext.iter ?_ _ _ | refine Ext.alloc ?_ _ | refine Ext.setCell ?_ (by first | exact Nat.le_refl _ | (simp <;> omega)) _ | refine Ext.trans2 (by assumption) ?_))) hl2).mono ?_); rintro e w2 ⟨⟨p2, rfl, oq2⟩, hb2⟩)); all_goals (refine hK _ _ ⟨(by repeat (first | exact Ext.refl _ | assumption | refine Ext.drew ?_ | refine Ext.drewN ?_ _ | refine Ext.iter ?_ _ _ | refine Ext.alloc ?_ _ | refine Ext.setCell ?_ (by first | exact Nat.le_refl _ | (simp <;> omega)) _ | refine Ext.trans2 (by assumption) ?_)), ?_⟩; clear hK K; go_simp)) | (refine canon_ef ho4 rfl (fun K hK => ?_); go_simp; ((go_at_call 35; (with_reducible refine (toSegment_c _ _ _).mono ?_); rintro e w3 ⟨rfl, hb3⟩)); all_goals (refine hK _ _ ⟨(by repeat (first | exact Ext.refl _ | assumption | refine Ext.drew ?_ | refine Ext.drewN ?_ _ | refine Ext.iter ?_ _ _ | refine Ext.alloc ?_ _ | refine Ext.setCell ?_ (by first | exact Nat.le_refl _ | (simp <;> omega)) _ | refine Ext.trans2 (by assumption) ?_)), ?_⟩; clear hK K; go_simp)) | (refine canon_ef ho4 rfl (fun K hK => ?_); go_simp; ((go_at_call 33; (with_reducible refine (sWriteSegment_c _ _ xs m t _ (oq2.ints.ext (by repeat (first | exact Ext.refl _ | assumption | refine Ext.drew ?_ | refine Ext.drewN ?_ _ | refine Ext.iter ?_ _ _ | refine Ext.alloc ?_ _ | refine Ext.setCell ?_ (by first | exact Nat.le_refl _ | (simp <;> omega)) _ | refine Ext.trans2 (by assumption) ?_))) hl2 ht2).mono ?_); rw [HL.out, HK.out]; rintro e w4 ⟨⟨p4, c4, rfl, oq4⟩, hb4⟩)); all_goals (refine hK _ _ ⟨(by repeat (first | exact Ext.refl _ | assumption | refine Ext.drew ?_ | refine Ext.drewN ?_ _ | refine Ext.iter ?_ _ _ | refine Ext.alloc ?_ _ | refine Ext.setCell ?_ (by first | exact Nat.le_refl _ | (simp <;> omega)) _ | refine Ext.trans2 (by assumption) ?_)), ?_⟩; clear hK K; go_simp))
      all_goals clear ho4
      all_goals (apply canon_st ho5 rfl; (intro w2 hS; first | (go_simp; first | done | rfl) | rfl | (obtain ⟨hc, hf, hk, hz⟩ := ecell hS; go_simp; first | done | rfl)); simp only [Act.put, List.setIfInBounds_toArray, List.set_cons_zero, List.set_cons_succ])
      all_goals clear ho5
      all_goals (apply canon_st ho6 rfl; (intro w2 hS; first | (go_simp; first | done | rfl) | rfl | (obtain ⟨hc, hf, hk, hz⟩ := ecell hS; go_simp; first | done | rfl)); simp only [Act.put, List.setIfInBounds_toArray, List.set_cons_zero, List.set_cons_succ])
      all_goals clear ho6
      all_goals (apply canon_st ho7 rfl; (intro w2 hS; first | (go_simp; first | done | rfl) | rfl | (obtain ⟨hc, hf, hk, hz⟩ := ecell hS; go_simp; first | done | rfl)); simp only [Act.put, List.setIfInBounds_toArray, List.set_cons_zero, List.set_cons_succ])
      all_goals clear ho7
      all_goals (apply canon_st ho8 rfl; (intro w2 hS; first | (go_simp; first | done | rfl) | rfl | (obtain ⟨hc, hf, hk, hz⟩ := ecell hS; go_simp; first | done | rfl)); simp only [Act.put, List.setIfInBounds_toArray, List.set_cons_zero, List.set_cons_succ])
      all_goals clear ho8
      all_goals (apply canon_st ho9 rfl; (intro w2 hS; first | (go_simp; first | done | rfl) | rfl | (obtain ⟨hc, hf, hk, hz⟩ := ecell hS; go_simp; first | done | rfl)); simp only [Act.put, List.setIfInBounds_toArray, List.set_cons_zero, List.set_cons_succ])
      all_goals clear ho9
      all_goals refine canon_done (NoPanic.normal ?_)
      have hx4 : Ext w1 w4 := ((((Ext.refl w1).drew).trans hb2).trans hb3).trans hb4
      have hxw4 := hx1.trans hx4
      have hb4 := hbx.ext hx4
      have q0 := hb4.cell (i := 0) (v := .int .i64 m) rfl
      have q1 := hb4.cell (i := 1) (v := .string t) rfl
      have ql := hb4.lt
      go_wp2_with fail
      refine (toInt64S_c _ _ _ _ (hx.ext hxw4) hl2).mono ?_
      rintro e w5 ⟨⟨p5, rfl, oq5⟩, hx5⟩
      have hb5 := hb4.ext hx5
      have q0 := hb5.cell (i := 0) (v := .int .i64 m) rfl
      have q1 := hb5.cell (i := 1) (v := .string t) rfl
      have ql := hb5.lt
      go_wp2_with (first
        | (go_at_call 35; (with_reducible refine (toSegment_c _ _ _).mono ?_); rintro e w6 ⟨rfl, hx6⟩))
      refine (iWriteSegment_c _ _ xs m t _ (oq5.ints.ext hx6) hl2 HW.out ht2).mono ?_
      rw [HL.out, HK.out]
      rintro e w7 ⟨⟨p7, c7, rfl, oq7⟩, hx7⟩
      go_wp2_with fail
      refine (eqInt64S_c p7 p4 c7 c4 L L w7 oq7.ints (((oq4.ints.ext hx5).ext hx6).ext hx7) (by omega) (by omega)).mono ?_
      rintro e w8 ⟨⟨_, rfl⟩ | ⟨hne, rfl⟩, n8, rfl⟩
      case inr => exact absurd rfl hne
      go_wp2_with fail
      have hx8 : Ext w4 (w7.drewN n8) := ((hx5.trans hx6).trans hx7).drewN n8
      refine (toInt64S_c _ _ _ _ ((hx.ext hxw4).ext hx8) hl2).mono ?_
      rintro e w9 ⟨⟨p9, rfl, oq9⟩, hx9⟩
      go_wp2_with fail
      refine (eqInt64S_c p5 p9 _ _ xs xs w9 (((oq5.ints.ext hx6).ext (hx7.drewN n8)).ext hx9) oq9.ints (by omega) (by omega)).mono ?_
      rintro e w10 ⟨⟨_, rfl⟩ | ⟨hne, rfl⟩, n10, rfl⟩
      case inr => exact absurd rfl hne
      have hx10 : Ext w5 (w9.drewN n10) := (((hx6.trans hx7).drewN n8).trans hx9).drewN n10
      have oq5' := oq5.ext hx10
      go_wp2_with fail
      refine (mark_c w4.heap.size p5 _ 1 xs (w9.drewN n10) oq5' (by omega) (by omega)).mono ?_
      rintro e w11 ⟨rfl, ho11, hb11, hk11⟩
      have hs5 : w5.heap.size ≤ w6.heap.size := hx6.below.size
      have hg7 : OwnInts w6.heap.size (w9.drewN n10) p7 L := (oq7.ext ((((Ext.refl w7).drewN n8).trans hx9).drewN n10))
      have hg11 : OwnInts w6.heap.size w11 p7 L := hg7.keep hb11.size fun b' o' h2 e2 hlt => hk11 b' hlt fun b o h1 e1 => by
        have := (oq5.lt0 h1 e1).2
        have := (oq7.lt0 h2 e2).1
        omega
      have hx11 : Ext w4 w11 := (hx5.trans hx10).low hb11 (Nat.le_refl _)
      have hw11 : IntsAt w11 p4 L := oq4.ints.ext hx11
      clear hk11
      go_wp2_with (first
        | (go_at_call 37; (with_reducible refine (eqInt64S_c p7 p4 c7 c4 L L w11 hg11.ints hw11 (by omega) (by omega)).mono ?_); rintro e w12 ⟨⟨_, rfl⟩ | ⟨hne, rfl⟩, n12, rfl⟩; rotate_left 1; exact absurd rfl hne))
      refine (mark_c w6.heap.size p7 _ 1 L (w11.drewN n12) hg11 (by omega) (by omega)).mono ?_
      rintro e w13 ⟨rfl, ho13, hb13, -⟩
      go_wp2_with fail
      refine (heldInt64S_c p7 _ 1 L.length w13 ho13.ints (by omega) (by omega)).mono ?_
      rintro e w13' ⟨rfl, rfl⟩
      have hs6 : w4.heap.size ≤ w6.heap.size := (hx5.trans hx6).below.size
      have hx13 : Ext w4 w13 := (hx11.drewN n12).low hb13 hs6
      have hb13' := hb4.ext hx13
      have q0 := hb13'.cell (i := 0) (v := .int .i64 m) rfl
      have q1 := hb13'.cell (i := 1) (v := .string t) rfl
      have ql := hb13'.lt
      have hxw13 := hxw4.trans hx13
      go_wp2_with fail
      refine wp_region_canon (fun w' => Ext w13 w') [(0, true), (2, true), (1, false), (3, false), (4, false), (5, true), (6, true), (7, true), (8, true), (9, true)] (by kernel_rfl) (by kernel_rfl) (by decide) (by kernel_rfl) ?_ ?_
      · exact (by repeat (first | exact Ext.refl _ | assumption | refine Ext.drew ?_ | refine Ext.drewN ?_ _ | refine Ext.iter ?_ _ _ | refine Ext.alloc ?_ _ | refine Ext.setCell ?_ (by first | exact Nat.le_refl _ | (simp <;> omega)) _ | refine Ext.trans2 (by assumption) ?_))
      refine canon_intro fun ops eo => ?_
      have ho0 := canon_at eo 0 rfl
      have ho1 := canon_at eo 1 rfl
      have ho2 := canon_at eo 2 rfl
      have ho3 := canon_at eo 3 rfl
      have ho4 := canon_at eo 4 rfl
      have ho5 := canon_at eo 5 rfl
      have ho6 := canon_at eo 6 rfl
      have ho7 := canon_at eo 7 rfl
      have ho8 := canon_at eo 8 rfl
      have ho9 := canon_at eo 9 rfl
      clear eo
      all_goals (apply canon_st ho0 rfl; (intro w2 hS; first | (go_simp; first | done | rfl) | rfl | (obtain ⟨hc, hf, hk, hz⟩ := ecell hS; go_simp; first | done | rfl)); simp only [Act.put, List.setIfInBounds_toArray, List.set_cons_zero, List.set_cons_succ])
      all_goals clear ho0
      all_goals (apply canon_st ho2 rfl; (intro w2 hS; first | (go_simp; first | done | rfl) | rfl | (obtain ⟨hc, hf, hk, hz⟩ := ecell hS; go_simp; first | done | rfl)); simp only [Act.put, List.setIfInBounds_toArray, List.set_cons_zero, List.set_cons_succ])
      all_goals clear ho2
      all_goals first | (refine canon_ef ho1 rfl (fun K hK => ?_); go_simp; ((go_at_call 34; (with_reducible refine (toInt64S_c _ _ _ _ ((hx.ext hxw13).ext (by repeat (first | exact Ext.refl _ | assumption | refine Ext.drew ?_ | refine Ext.drewN ?_ _ | refine Ext.iter ?_ _ _ | refine Ext.alloc ?_ _ | refine Ext.setCell ?_ (by first | exact Nat.le_refl _ | (simp <;> omega)) _ | refine Ext.trans2 (by assumption) ?_))) hl2).mono ?_); rintro e w14 ⟨⟨p14, rfl, oq14⟩, hb14⟩)); all_goals (refine hK _ _ ⟨(by repeat (first | exact Ext.refl _ | assumption | refine Ext.drew ?_ | refine Ext.drewN ?_ _ | refine Ext.iter ?_ _ _ | refine Ext.alloc ?_ _ | refine Ext.setCell ?_ (by first | exact Nat.le_refl _ | (simp <;> omega)) _ | refine Ext.trans2 (by assumption) ?_)), ?_⟩; clear hK K; go_simp)) | (refine canon_ef ho1 rfl (fun K hK => ?_); go_simp; ((go_at_call 35; (with_reducible refine (toSegment_c _ _ _).mono ?_); rintro e w15 ⟨rfl, hb15⟩)); all_goals (refine hK _ _ ⟨(by repeat (first | exact Ext.refl _ | assumption | refine Ext.drew ?_ | refine Ext.drewN ?_ _ | refine Ext.iter ?_ _ _ | refine Ext.alloc ?_ _ | refine Ext.setCell ?_ (by first | exact Nat.le_refl _ | (simp <;> omega)) _ | refine Ext.trans2 (by assumption) ?_)), ?_⟩; clear hK K; go_simp)) | (refine canon_ef ho1 rfl (fun K hK => ?_); go_simp; ((go_at_call 36; (with_reducible refine (iWriteSegment_c _ _ xs m t _ (oq14.ints.ext (by repeat (first | exact Ext.refl _ | assumption | refine Ext.drew ?_ | refine Ext.drewN ?_ _ | refine Ext.iter ?_ _ _ | refine Ext.alloc ?_ _ | refine Ext.setCell ?_ (by first | exact Nat.le_refl _ | (simp <;> omega)) _ | refine Ext.trans2 (by assumption) ?_))) hl2 HW.out ht2).mono ?_); rw [HL.out, HK.out]; rintro e w16 ⟨⟨p16, c16, rfl, oq16⟩, hb16⟩)); all_goals (refine hK _ _ ⟨(by repeat (first | exact Ext.refl _ | assumption | refine Ext.drew ?_ | refine Ext.drewN ?_ _ | refine Ext.iter ?_ _ _ | refine Ext.alloc ?_ _ | refine Ext.setCell ?_ (by first | exact Nat.le_refl _ | (simp <;> omega)) _ | refine Ext.trans2 (by assumption) ?_)), ?_⟩; clear hK K; go_simp))
      all_goals clear ho1
      all_goals first | (refine canon_ef ho3 rfl (fun K hK => ?_); go_simp; ((go_at_call 34; (with_reducible refine (toInt64S_c _ _ _ _ ((hx.ext hxw13).ext (by repeat (first | exact Ext.refl _ | assumption | refine Ext.drew ?_ | refine Ext.drewN ?_ _ | refine Ext.iter ?_ _ _ | refine Ext.alloc ?_ _ | refine Ext.setCell ?_ (by first | exact Nat.le_refl _ | (simp <;> omega)) _ | refine Ext.trans2 (by assumption) ?_))) hl2).mono ?_); rintro e w14 ⟨⟨p14, rfl, oq14⟩, hb14⟩)); all_goals (refine hK _ _ ⟨(by repeat (first | exact Ext.refl _ | assumption | refine Ext.drew ?_ | refine Ext.drewN ?_ _ | refine Ext.iter ?_ _ _ | refine Ext.alloc ?_ _ | refine Ext.setCell ?_ (by first | exact Nat.le_refl _ | (simp <;> omega)) _ | refine Ext.trans2 (by assumption) ?_)), ?_⟩; clear hK K; go_simp)) | (refine canon_ef ho3 rfl (fun K hK => ?_); go_simp; ((go_at_call 35; (with_reducible refine (toSegment_c _ _ _).mono ?_); rintro e w15 ⟨rfl, hb15⟩)); all_goals (refine hK _ _ ⟨(by repeat (first | exact Ext.refl _ | assumption | refine Ext.drew ?_ | refine Ext.drewN ?_ _ | refine Ext.iter ?_ _ _ | refine Ext.alloc ?_ _ | refine Ext.setCell ?_ (by first | exact Nat.le_refl _ | (simp <;> omega)) _ | refine Ext.trans2 (by assumption) ?_)), ?_⟩; clear hK K; go_simp)) | (refine canon_ef ho3 rfl (fun K hK => ?_); go_simp; ((go_at_call 36; (with_reducible refine (iWriteSegment_c _ _ xs m t _ (oq14.ints.ext (by repeat (first | exact Ext.refl _ | assumption | refine Ext.drew ?_ | refine Ext.drewN ?_ _ | refine Ext.iter ?_ _ _ | refine Ext.alloc ?_ _ | refine Ext.setCell ?_ (by first | exact Nat.le_refl _ | (simp <;> omega)) _ | refine Ext.trans2 (by assumption) ?_))) hl2 HW.out ht2).mono ?_); rw [HL.out, HK.out]; rintro e w16 ⟨⟨p16, c16, rfl, oq16⟩, hb16⟩)); all_goals (refine hK _ _ ⟨(by repeat (first | exact Ext.refl _ | assumption | refine Ext.drew ?_ | refine Ext.drewN ?_ _ | refine Ext.iter ?_ _ _ | refine Ext.alloc ?_ _ | refine Ext.setCell ?_ (by first | exact Nat.le_refl _ | (simp <;> omega)) _ | refine Ext.trans2 (by assumption) ?_)), ?_⟩; clear hK K; go_simp))
      all_goals clear ho3
      all_goals first | (refine canon_ef ho4 rfl (fun K hK => ?_); go_simp; ((go_at_call 34; (with_reducible refine (toInt64S_c _ _ _ _ ((hx.ext hxw13).ext (by repeat (first | exact Ext.refl _ | assumption | refine Ext.drew ?_ | refine Ext.drewN ?_ _ | refine Ext.iter ?_ _ _ | refine Ext.alloc ?_ _ | refine Ext.setCell ?_ (by first | exact Nat.le_refl _ | (simp <;> omega)) _ | refine Ext.trans2 (by assumption) ?_))) hl2).mono ?_); rintro e w14 ⟨⟨p14, rfl, oq14⟩, hb14⟩)); all_goals (refine hK _ _ ⟨(by repeat (first | exact Ext.refl _ | assumption | refine Ext.drew ?_ | refine Ext.drewN ?_ _ | refine Ext.iter ?_ _ _ | refine Ext.alloc ?_ _ | refine Ext.setCell ?_ (by first | exact Nat.le_refl _ | (simp <;> omega)) _ | refine Ext.trans2 (by assumption) ?_)), ?_⟩; clear hK K; go_simp)) | (refine canon_ef ho4 rfl (fun K hK => ?_); go_simp; ((go_at_call 35; (with_reducible refine (toSegment_c _ _ _).mono ?_); rintro e w15 ⟨rfl, hb15⟩)); all_goals (refine hK _ _ ⟨(by repeat (first | exact Ext.refl _ | assumption | refine Ext.drew ?_ | refine Ext.drewN ?_ _ | refine Ext.iter ?_ _ _ | refine Ext.alloc ?_ _ | refine Ext.setCell ?_ (by first | exact Nat.le_refl _ | (simp <;> omega)) _ | refine Ext.trans2 (by assumption) ?_)), ?_⟩; clear hK K; go_simp)) | (refine canon_ef ho4 rfl (fun K hK => ?_); go_simp; ((go_at_call 36; (with_reducible refine (iWriteSegment_c _ _ xs m t _ (oq14.ints.ext (by repeat (first | exact Ext.refl _ | assumption | refine Ext.drew ?_ | refine Ext.drewN ?_ _ | refine Ext.iter ?_ _ _ | refine Ext.alloc ?_ _ | refine Ext.setCell ?_ (by first | exact Nat.le_refl _ | (simp <;> omega)) _ | refine Ext.trans2 (by assumption) ?_))) hl2 HW.out ht2).mono ?_); rw [HL.out, HK.out]; rintro e w16 ⟨⟨p16, c16, rfl, oq16⟩, hb16⟩)); all_goals (refine hK _ _ ⟨(by repeat (first | exact Ext.refl _ | assumption | refine Ext.drew ?_ | refine Ext.drewN ?_ _ | refine Ext.iter ?_ _ _ | refine Ext.alloc ?_ _ | refine Ext.setCell ?_ (by first | exact Nat.le_refl _ | (simp <;> omega)) _ | refine Ext.trans2 (by assumption) ?_)), ?_⟩; clear hK K; go_simp))
      all_goals clear ho4
      all_goals (apply canon_st ho5 rfl; (intro w2 hS; first | (go_simp; first | done | rfl) | rfl | (obtain ⟨hc, hf, hk, hz⟩ := ecell hS; go_simp; first | done | rfl)); simp only [Act.put, List.setIfInBounds_toArray, List.set_cons_zero, List.set_cons_succ])
      all_goals clear ho5
      all_goals (apply canon_st ho6 rfl; (intro w2 hS; first | (go_simp; first | done | rfl) | rfl | (obtain ⟨hc, hf, hk, hz⟩ := ecell hS; go_simp; first | done | rfl)); simp only [Act.put, List.setIfInBounds_toArray, List.set_cons_zero, List.set_cons_succ])
      all_goals clear ho6
      all_goals (apply canon_st ho7 rfl; (intro w2 hS; first | (go_simp; first | done | rfl) | rfl | (obtain ⟨hc, hf, hk, hz⟩ := ecell hS; go_simp; first | done | rfl)); simp only [Act.put, List.setIfInBounds_toArray, List.set_cons_zero, List.set_cons_succ])
      all_goals clear ho7
      all_goals (apply canon_st ho8 rfl; (intro w2 hS; first | (go_simp; first | done | rfl) | rfl | (obtain ⟨hc, hf, hk, hz⟩ := ecell hS; go_simp; first | done | rfl)); simp only [Act.put, List.setIfInBounds_toArray, List.set_cons_zero, List.set_cons_succ])
      all_goals clear ho8
      all_goals (apply canon_st ho9 rfl; (intro w2 hS; first | (go_simp; first | done | rfl) | rfl | (obtain ⟨hc, hf, hk, hz⟩ := ecell hS; go_simp; first | done | rfl)); simp only [Act.put, List.setIfInBounds_toArray, List.set_cons_zero, List.set_cons_succ])
      all_goals clear ho9
      all_goals refine canon_done (NoPanic.normal ?_)
      have hx16 : Ext w13 w16 := ((((Ext.refl w13).drew).trans hb14).trans hb15).trans hb16
      go_wp2_with (first
        | (go_at_call 37; (with_reducible refine (eqInt64S_c p16 p4 c16 c4 L L w16 oq16.ints (oq4.ints.ext (hx13.trans hx16)) (by omega) (by omega)).mono ?_); rintro e w17 ⟨⟨_, rfl⟩ | ⟨hne, rfl⟩, n17, rfl⟩; rotate_left 1; exact absurd rfl hne)
        | (go_at_call 39; (with_reducible refine (heldInt64S_c p7 c7 1 L.length _ (ho13.ints.ext (hx16.drewN n17)) (by omega) (by omega)).mono ?_); rintro e w18 ⟨rfl, rfl⟩))
      go_ret
      exact ⟨rfl, (hxw13.trans hx16).drewN n17⟩
    · go_ret
      exact ⟨rfl, (by repeat (first | exact Ext.refl _ | assumption | refine Ext.drew ?_ | refine Ext.drewN ?_ _ | refine Ext.iter ?_ _ _ | refine Ext.alloc ?_ _ | refine Ext.setCell ?_ (by first | exact Nat.le_refl _ | (simp <;> omega)) _ | refine Ext.trans2 (by assumption) ?_))⟩
  · go_enter Try.func9, Try.ntmps9
    go_wp2
    go_ret
    exact ⟨rfl, (by repeat (first | exact Ext.refl _ | assumption | refine Ext.drew ?_ | refine Ext.drewN ?_ _ | refine Ext.iter ?_ _ _ | refine Ext.alloc ?_ _ | refine Ext.setCell ?_ (by first | exact Nat.le_refl _ | (simp <;> omega)) _ | refine Ext.trans2 (by assumption) ?_))⟩

theorem open_Seg {w : World} {cs : List Value} (h : rds w [.i .i64, .str] cs) : ∃ (m : Int) (s : ByteArray), cs = [.int .i64 m, .string s] ∧ s.size ≤ maxLen := by
  obtain ⟨m, _, rfl, _, h⟩ := rds_int h
  obtain ⟨s, _, rfl, hs, h⟩ := rds_str h
  exact ⟨m, s, by rw [rds_nil h], hs⟩
end Go.Proofs.Ytepneadbddjmjaa
