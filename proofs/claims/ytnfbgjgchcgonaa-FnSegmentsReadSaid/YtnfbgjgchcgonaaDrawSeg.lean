
/- Drawn lists of bits and segments. -/
import Derived.Test.YtnfbgjgchcgonaaChars
import Derived.Test.YtnfbgjgchcgonaaSlist
import Derived.Test.YtnfbgjgchcgonaaZero
namespace Go.Proofs.Ytnfbgjgchcgonaa
set_option linter.unusedVariables false
set_option linter.unusedSimpArgs false
open Go.RowKit

/-- A list has been drawn; its numbers are small. -/
def BitsR (n0 g : Nat) (w : World) (e : Ending) (w' : World) : Prop := ∃ (p : Option Addr) (c : Nat) (xs : List Int), e = .returned (.slice p xs.length c) ∧ (xs.length ≤ 100000 ∧ xs.length ≤ c) ∧ (∀ x ∈ xs, -1 ≤ x ∧ x ≤ 2) ∧ OwnInts w.heap.size w' p xs ∧ Src n0 w' g ∧ But g w w'
theorem small_wfs {xs : List Int} (h : ∀ x ∈ xs, -1 ≤ x ∧ x ≤ 2) : wfs xs := fun x hx => by
  have := h x hx
  have e1 : IntKind.i64.min = -9223372036854775808 := by decide
  have e2 : IntKind.i64.max = 9223372036854775807 := by decide
  simp only [Lit.wf, Bool.and_eq_true, decide_eq_true_eq, e1, e2]
  omega
theorem small_snoc {xs : List Int} {x : Int} (h : ∀ y ∈ xs, -1 ≤ y ∧ y ≤ 2) (hx : -1 ≤ x ∧ x ≤ 2) : ∀ y ∈ xs ++ [x], -1 ≤ y ∧ y ≤ 2 := fun y hy => by
  rcases List.mem_append.1 hy with h' | h'
  · exact h y h'
  · simp at h'; subst h'; exact hx

theorem OwnInts_zeros {B g n : Nat} {w : World} (hb : Blk w g (madeCells #[.int .i64 0] n) 2) (hB : B ≤ g) : OwnInts B w (some ⟨g, 0, none⟩) (List.replicate n 0) := fun i hi => by
  have hi2 : i < n := by simpa using hi
  refine ⟨g, 0, rfl, hB, hb.lt, ?_, hb.free _⟩
  rw [Nat.zero_add]
  refine hb.cell ?_
  rw [made_get hi2]
  simp [Nat.mod_one, hi2]
theorem bits_zeros {n0 g n : Nat} {w w3 : World} (hn : n ≤ 100000) (hs : Src n0 w3 g) (hb : But g w w3) : BitsR n0 g w (.returned (.slice (some ⟨w3.heap.size, 0, none⟩) n n)) (w3.alloc (.cells (madeCells #[.int .i64 0] n) 2)) :=
  ⟨_, n, List.replicate n 0, by rw [List.length_replicate], by rw [List.length_replicate]; exact ⟨hn, Nat.le_refl _⟩, fun x hx => by have := (List.mem_replicate.1 hx).2; omega, OwnInts_zeros (Blk.new _ _ _) hb.size, hs.ext ((Ext.refl _).alloc _), hb.trans (But.of ((Ext.refl _).alloc _))⟩
set_option maxRecDepth 100000 in
theorem DrawBits_c (n0 g : Nat) (most : Int) (w : World) (h : Src n0 w g) (hn0 : n0 ≤ w.heap.size) (hmost : 1 ≤ most ∧ most ≤ 1000) :
    Calls Try.prog 75 #[.pointer (some ⟨g, 0, none⟩), .int .i64 most] w fun e w' => BitsR n0 g w e w' := by
  have hg : g < n0 := h.1
  have hI1 : Try.prog.underlying 24 = some (.slice 2) := by kernel_rfl
  have hI2 := infoInt
  have HS := Lib.hid h; clear h
  go_enter Try.func75, Try.ntmps75
  go_wp2_with (go_at_call 90; (with_reducible refine (Next_c n0 g _ _ (HS.out.ext (by repeat (first | exact Ext.refl _ | assumption | refine Ext.drew ?_ | refine Ext.drewN ?_ _ | refine Ext.iter ?_ _ _ | refine Ext.alloc ?_ _ | refine Ext.setCell ?_ (by first | exact Nat.le_refl _ | (simp <;> omega)) _ | refine Ext.trans2 (by assumption) ?_))) (by omega)).mono ?_); rintro e w1 ⟨x, rfl, hx0, hx1, -, hs1, hb1⟩; replace hx1 := hx1 (by omega))
  have hrow := (RowI.made (w := w) (Nat.le_refl _)).but hb1 (by omega)
  have hbut := (But.of (g := g) ((Ext.refl w).alloc (.cells #[] 2))).trans hb1
  clear hb1
  go_loopw [5, 6] (fun o i wr => ∃ (k : Nat) (xs : List Int), i = .int .i64 k ∧ (xs.length : Int) + k ≤ 2000 ∧ (∀ y ∈ xs, -1 ≤ y ∧ y ≤ 2) ∧ RowI w.heap.size wr o xs ∧ Src n0 wr g ∧ But g w wr) (fun _ i _ => (intOf i).toNat)
  case atStart => exact ⟨x.toNat, [], by rw [Int.toNat_of_nonneg hx0], by simp; omega, by simp, hrow, hs1, hbut⟩
  case round =>
    clear hrow hs1 hbut hx1 hx0
    obtain ⟨k, xs, rfl, hk, hsm, hown, hs, hbut⟩ := hrel
    have hsz := hbut.size
    have HSM := Lib.hid hsm; clear hsm
    by_cases hlt : 0 < k
    · have hd : 0 < (k : Int) := by omega
      have HS2 := Lib.hid hs; clear hs hI1 hI2
      go_wp2_with (first
        | (go_at_call 90; (with_reducible refine (Next_c n0 g _ _ HS2.out (by omega)).mono ?_); rintro e w2 ⟨y, rfl, hy0, hy1, -, hs2, hb2⟩; have hy1 := hy1 (by omega); have hs2 := Lib.hid hs2; have hown2 := hown.but hb2 (by omega); have hbut2 := Lib.hid (hbut.trans hb2); have hsz2 := hb2.size)
        | (at_builtin; go_loud (refine append1I hown2 (by omega) (by omega) ?_ rfl rfl); intro v1 w3 hown3 hb3))
      go_roundw
      case rel => exact ⟨k - 1, xs ++ [y], by go_num, by simp; omega, small_snoc HSM.out (by omega), hown3, hs2.out.low hb3 hn0, hbut2.out.below hb3 (Nat.le_refl _)⟩
      case measure => simp [intOf]; omega
    · have hd : ¬ 0 < (k : Int) := by omega
      have HS2 := Lib.hid hs; clear hs
      go_wp2_with (go_at_call 90; (with_reducible refine (Next_c n0 g 40 _ HS2.out (by omega)).mono ?_); rintro e w2 ⟨y, rfl, hy0, hy1, -, hs2, hb2⟩; replace hy1 := hy1 (by omega); have hsz2 := hb2.size; have hown2 := hown.but hb2 (by omega))
      · clear hI1 hI2
        refine (Next_c n0 g 2 _ (hs2.ext ((Ext.refl _).alloc _)) (by omega)).mono ?_
        rintro e w3 ⟨z, rfl, hz0, hz1, -, hs3, hb3⟩
        replace hz1 := hz1 (by omega)
        have hsz3 := hb3.size
        rw [World.size_alloc] at hsz3
        obtain ⟨bc, bf, bk, bz⟩ := bucell hb3
        have hne : w2.heap.size ≠ g := by omega
        have hown3 := (hown2.alloc (.cells #[.int .i64 2, .int .i64 (-1)] 2)).but hb3 (by omega)
        have hbut3 := Lib.hid (((hbut.trans hb2).trans (But.of ((Ext.refl w2).alloc _))).trans hb3)
        have hs3 := Lib.hid hs3
        have : z = 0 ∨ z = 1 := by omega
        clear hs2 hb2 hb3 hbut hown2 hown
        rcases this with rfl | rfl
        all_goals
          go_wp2_with (at_builtin; go_loud (refine append1I hown3 (by omega) (by omega) ?_ rfl rfl); intro v1 w4 hown4 hb4)
          go_ret
          obtain ⟨p, c, rfl, oq, hcl⟩ := hown4.ownC
          exact ⟨p, c, _, rfl, ⟨by simp; omega, hcl⟩, small_snoc HSM.out (by omega), oq, hs3.out.low hb4 hn0, hbut3.out.below hb4 (Nat.le_refl _)⟩
      · refine (Next_c n0 g 3 _ hs2 (by omega)).mono ?_
        rintro e w3 ⟨z, rfl, hz0, hz1, -, hs3, hb3⟩
        replace hz1 := hz1 (by omega)
        have hsz3 := hb3.size
        have hbut3 := Lib.hid ((hbut.trans hb2).trans hb3)
        have : z = 0 ∨ z = 1 ∨ z = 2 := by omega
        clear hs2 hb2 hb3 hbut hown2 hown
        have HS3 := Lib.hid hs3; clear hs3
        rcases this with rfl | rfl | rfl
        · go_wp2_with (at_make; go_loud (refine make_blk hI1 hI2 8191 rfl rfl (by omega) (by omega) ?_))
          go_ret
          exact bits_zeros (by omega) HS3.out hbut3.out
        · go_wp2_with (at_make; go_loud (refine make_blk hI1 hI2 8192 rfl rfl (by omega) (by omega) ?_))
          go_ret
          exact bits_zeros (by omega) HS3.out hbut3.out
        · go_wp2_with (at_make; go_loud (refine make_blk hI1 hI2 8193 rfl rfl (by omega) (by omega) ?_))
          go_ret
          exact bits_zeros (by omega) HS3.out hbut3.out
      · go_ret
        obtain ⟨p, c, rfl, oq, hcl⟩ := hown2.ownC
        exact ⟨p, c, _, rfl, ⟨by omega, hcl⟩, HSM.out, oq, hs2, hbut.trans hb2⟩

/-- A segment has been drawn. -/
def SegR (n0 g : Nat) (w : World) (e : Ending) (w' : World) : Prop := ∃ (m : Int) (t : ByteArray), e = .returned (vSeg m t) ∧ t.size ≤ 300 ∧ Src n0 w' g ∧ But g w w'
set_option maxHeartbeats 1000000 in
set_option maxRecDepth 100000 in
theorem DrawSeg_c (n0 g : Nat) (w : World) (h : Src n0 w g) (hn0 : n0 ≤ w.heap.size) :
    Calls Try.prog 76 #[.pointer (some ⟨g, 0, none⟩)] w fun e w' => SegR n0 g w e w' := by
  have hg : g < n0 := h.1
  have hI1 : Try.prog.underlying 22 = some (.slice 5) := by kernel_rfl
  have hI2 := infoByte
  have HS := Lib.hid h; clear h
  have hbr0 := Blk.new w #[.int .i64 0, .string ByteArray.empty] 26
  have hr0 : But g w (w.alloc (.cells #[.int .i64 0, .string ByteArray.empty] 26)) := But.of ((Ext.refl w).alloc _)
  go_enter Try.func76, Try.ntmps76
  go_wp2_with (first
    | (go_at_call 90; (with_reducible refine (Next_c n0 g 4 _ (HS.out.ext (by repeat (first | exact Ext.refl _ | assumption | refine Ext.drew ?_ | refine Ext.drewN ?_ _ | refine Ext.iter ?_ _ _ | refine Ext.alloc ?_ _ | refine Ext.setCell ?_ (by first | exact Nat.le_refl _ | (simp <;> omega)) _ | refine Ext.trans2 (by assumption) ?_))) (by omega)).mono ?_); rintro e w1 ⟨y, rfl, hy0, hy1, -, hs1, hb1⟩; replace hy1 := hy1 (by omega); have hz1 := hb1.size; rw [World.size_alloc] at hz1)
    | (go_at_call 147; (with_reducible refine (DrawText_c n0 g _ _ _ hs1 (by omega) (by omega) (by omega)).mono ?_); rintro e w2 ⟨t, rfl, ht, hs2, hb2⟩; have hz2 := hb2.size; have hbr2 := (hbr0.but hb1 (by omega)).but hb2 (by omega); have hE2 := (hr0.trans hb1).trans hb2)
    | (go_at_call 90; (with_reducible refine (Next_c n0 g 24 _ (hs2.ext ((Ext.refl w2).alloc _)) (by omega)).mono ?_); rintro e w3 ⟨z, rfl, hz0, hz24, -, hs3, hb3⟩; have hz3 := hb3.size; rw [World.size_alloc] at hz3; have hbx3 := (Blk.new w2 #[.int .i64 (1 + y), .string t] 26).but hb3 (by omega); have hbr3 := (hbr2.alloc (.cells #[.int .i64 (1 + y), .string t] 26)).but hb3 (by omega); have hE3 := (hE2.trans (But.of ((Ext.refl w2).alloc _))).trans hb3; have x0 := hbx3.cell (i := 0) (v := .int .i64 (1 + y)) rfl; have x1 := hbx3.cell (i := 1) (v := .string t) rfl; have x2 := hbx3.lt; have x3 := hbx3.free; have r0 := hbr3.cell (i := 0) (v := .int .i64 0) rfl; have r1 := hbr3.cell (i := 1) (v := .string ByteArray.empty) rfl; have r2 := hbr3.lt; have r3 := hbr3.free))
  · clear hI1 hI2
    refine (Next_c n0 g 3 _ (hs3.ext ((Ext.refl _).alloc _)) (by omega)).mono ?_
    rintro e w4 ⟨u, rfl, hu0, hu1, -, hs4, hb4⟩
    replace hu1 := hu1 (by omega)
    have hz4 := hb4.size
    rw [World.size_alloc] at hz4
    have hbx4 := (hbx3.alloc (.cells #[.int .i64 0, .int .i64 5, .int .i64 (-1)] 2)).but hb4 (by omega)
    have hbr4 := (hbr3.alloc (.cells #[.int .i64 0, .int .i64 5, .int .i64 (-1)] 2)).but hb4 (by omega)
    have hbs4 := (Blk.new w3 #[.int .i64 0, .int .i64 5, .int .i64 (-1)] 2).but hb4 (by omega)
    have hE4 := (hE3.trans (But.of ((Ext.refl w3).alloc _))).trans hb4
    clear x0 x1 x2 x3 r0 r1 r2 r3
    have x0 := hbx4.cell (i := 0) (v := .int .i64 (1 + y)) rfl
    have x1 := hbx4.cell (i := 1) (v := .string t) rfl
    have x2 := hbx4.lt
    have x3 := hbx4.free
    have r0 := hbr4.cell (i := 0) (v := .int .i64 0) rfl
    have r1 := hbr4.cell (i := 1) (v := .string ByteArray.empty) rfl
    have r2 := hbr4.lt
    have r3 := hbr4.free
    have s0 := hbs4.cell (i := 0) (v := .int .i64 0) rfl
    have s1 := hbs4.cell (i := 1) (v := .int .i64 5) rfl
    have s2 := hbs4.cell (i := 2) (v := .int .i64 (-1)) rfl
    have s3 := hbs4.lt
    have hne1 : w2.heap.size ≠ w.heap.size := by omega
    have : u = 0 ∨ u = 1 ∨ u = 2 := by omega
    rcases this with rfl | rfl | rfl
    · go_wp2
      have hbf := (((hbr4.far (g' := w2.heap.size) (i := 0) hne1.symm (.int .i64 (0))).set 0 (.int .i64 (0))).set 1 (.string (t)))
      have c0 := hbf.cell (i := 0) (v := .int .i64 (0)) rfl
      have c1 := hbf.cell (i := 1) (v := .string (t)) rfl
      exact bodyPost_ret (v := vSeg (0) (t)) (by simp [results, Try.results76, go_sem, c0, c1]) rfl ⟨_, _, rfl, by omega, hs4.low (by repeat (first | exact Below.refl _ _ | refine Below.setCell ?_ (by show _ ≤ _; simp <;> omega) _ | refine Below.alloc ?_ (by simp [World.setCell] <;> omega) _)) hn0, hE4.below (by repeat (first | exact Below.refl _ _ | refine Below.setCell ?_ (by show _ ≤ _; simp <;> omega) _ | refine Below.alloc ?_ (by simp [World.setCell] <;> omega) _)) (Nat.le_refl _)⟩
    · go_wp2
      have hbf := (((hbr4.far (g' := w2.heap.size) (i := 0) hne1.symm (.int .i64 (5))).set 0 (.int .i64 (5))).set 1 (.string (t)))
      have c0 := hbf.cell (i := 0) (v := .int .i64 (5)) rfl
      have c1 := hbf.cell (i := 1) (v := .string (t)) rfl
      exact bodyPost_ret (v := vSeg (5) (t)) (by simp [results, Try.results76, go_sem, c0, c1]) rfl ⟨_, _, rfl, by omega, hs4.low (by repeat (first | exact Below.refl _ _ | refine Below.setCell ?_ (by show _ ≤ _; simp <;> omega) _ | refine Below.alloc ?_ (by simp [World.setCell] <;> omega) _)) hn0, hE4.below (by repeat (first | exact Below.refl _ _ | refine Below.setCell ?_ (by show _ ≤ _; simp <;> omega) _ | refine Below.alloc ?_ (by simp [World.setCell] <;> omega) _)) (Nat.le_refl _)⟩
    · go_wp2
      have hbf := (((hbr4.far (g' := w2.heap.size) (i := 0) hne1.symm (.int .i64 (-1))).set 0 (.int .i64 (-1))).set 1 (.string (t)))
      have c0 := hbf.cell (i := 0) (v := .int .i64 (-1)) rfl
      have c1 := hbf.cell (i := 1) (v := .string (t)) rfl
      exact bodyPost_ret (v := vSeg (-1) (t)) (by simp [results, Try.results76, go_sem, c0, c1]) rfl ⟨_, _, rfl, by omega, hs4.low (by repeat (first | exact Below.refl _ _ | refine Below.setCell ?_ (by show _ ≤ _; simp <;> omega) _ | refine Below.alloc ?_ (by simp [World.setCell] <;> omega) _)) hn0, hE4.below (by repeat (first | exact Below.refl _ _ | refine Below.setCell ?_ (by show _ ≤ _; simp <;> omega) _ | refine Below.alloc ?_ (by simp [World.setCell] <;> omega) _)) (Nat.le_refl _)⟩
  · have hne1 : w2.heap.size ≠ w.heap.size := by omega
    have hbf := (((hbr3.far (g' := w2.heap.size) (i := 1) hne1.symm (.string (t ++ ⟨#[126]⟩))).set 0 (.int .i64 (1 + y))).set 1 (.string (t ++ ⟨#[126]⟩)))
    have c0 := hbf.cell (i := 0) (v := .int .i64 (1 + y)) rfl
    have c1 := hbf.cell (i := 1) (v := .string (t ++ ⟨#[126]⟩)) rfl
    exact bodyPost_ret (v := vSeg (1 + y) (t ++ ⟨#[126]⟩)) (by simp [results, Try.results76, go_sem, c0, c1]) rfl ⟨_, _, rfl, by rw [ByteArray.size_append]; show t.size + 1 ≤ 300; omega, hs3.low (by repeat (first | exact Below.refl _ _ | refine Below.setCell ?_ (by show _ ≤ _; simp <;> omega) _ | refine Below.alloc ?_ (by simp [World.setCell] <;> omega) _)) hn0, hE3.below (by repeat (first | exact Below.refl _ _ | refine Below.setCell ?_ (by show _ ≤ _; simp <;> omega) _ | refine Below.alloc ?_ (by simp [World.setCell] <;> omega) _)) (Nat.le_refl _)⟩
  · refine (Next_c n0 g 2 _ hs3 (by omega)).mono ?_
    rintro e w4 ⟨u, rfl, hu0, hu1, -, hs4, hb4⟩
    replace hu1 := hu1 (by omega)
    have hz4 := hb4.size
    have hbx4 := hbx3.but hb4 (by omega)
    have hbr4 := hbr3.but hb4 (by omega)
    have hE4 := hE3.trans hb4
    clear x0 x1 x2 x3 r0 r1 r2 r3
    have hne1 : w2.heap.size ≠ w.heap.size := by omega
    have hx4 := (Ext.refl w4)
    have hcv0 := zeroStr w4.heap.size 255 (w4.alloc (.cells (madeCells #[.int .u8 0] 255) 5)) (Blk.new _ _ _)
    have hcv1 := zeroStr w4.heap.size 256 (w4.alloc (.cells (madeCells #[.int .u8 0] 256) 5)) (Blk.new _ _ _)
    have hsz0 : (⟨(List.replicate 255 (0 : UInt8)).toArray⟩ : ByteArray).size = 255 := by show (List.replicate 255 (0 : UInt8)).toArray.size = 255; simp
    have hsz1 : (⟨(List.replicate 256 (0 : UInt8)).toArray⟩ : ByteArray).size = 256 := by show (List.replicate 256 (0 : UInt8)).toArray.size = 256; simp
    generalize (⟨(List.replicate 255 (0 : UInt8)).toArray⟩ : ByteArray) = z255 at *
    generalize (⟨(List.replicate 256 (0 : UInt8)).toArray⟩ : ByteArray) = z256 at *
    have HS0 := Lib.hid hsz0; have HS1 := Lib.hid hsz1; clear hsz0 hsz1
    have : u = 0 ∨ u = 1 := by omega
    rcases this with rfl | rfl
    · have x0 := hbx4.cell (i := 0) (v := .int .i64 (1 + y)) rfl
      have x1 := hbx4.cell (i := 1) (v := .string t) rfl
      have x2 := hbx4.lt
      have x3 := hbx4.free
      have r0 := hbr4.cell (i := 0) (v := .int .i64 0) rfl
      have r1 := hbr4.cell (i := 1) (v := .string ByteArray.empty) rfl
      have r2 := hbr4.lt
      have r3 := hbr4.free
      go_wp2_with (at_make; go_loud (refine make_blk hI1 hI2 255 rfl rfl (by omega) (by omega) ?_))
      have hbf := ((((hbr4.far (g' := w2.heap.size) (i := 1) hne1.symm (.string z255)).far (g' := w2.heap.size) (i := 0) hne1.symm (.int .i64 4)).set 0 (.int .i64 (4))).set 1 (.string (z255))).alloc (.cells (madeCells #[.int .u8 0] 255) 5)
      have c0 := hbf.cell (i := 0) (v := .int .i64 (4)) rfl
      have c1 := hbf.cell (i := 1) (v := .string (z255)) rfl
      have hlow := ((((((Below.refl w.heap.size w4).setCell (p := ⟨w2.heap.size, 1, none⟩) (by show _ ≤ w2.heap.size; omega) (.string z255)).setCell (p := ⟨w2.heap.size, 0, none⟩) (by show _ ≤ w2.heap.size; omega) (.int .i64 4)).setCell (p := ⟨w.heap.size, 0, none⟩) (Nat.le_refl _) (.int .i64 4)).setCell (p := ⟨w.heap.size, 1, none⟩) (Nat.le_refl _) (.string z255)))
      have hlow := hlow.alloc (Nat.le_trans (show w.heap.size ≤ w4.heap.size by omega) hlow.size) (.cells (madeCells #[.int .u8 0] 255) 5)
      exact bodyPost_ret (v := vSeg (4) (z255)) (by simp [results, Try.results76, go_sem, c0, c1]) rfl ⟨_, _, rfl, by have := HS0.out; omega, hs4.low hlow hn0, hE4.below hlow (Nat.le_refl _)⟩
    · have x0 := hbx4.cell (i := 0) (v := .int .i64 (1 + y)) rfl
      have x1 := hbx4.cell (i := 1) (v := .string t) rfl
      have x2 := hbx4.lt
      have x3 := hbx4.free
      have r0 := hbr4.cell (i := 0) (v := .int .i64 0) rfl
      have r1 := hbr4.cell (i := 1) (v := .string ByteArray.empty) rfl
      have r2 := hbr4.lt
      have r3 := hbr4.free
      go_wp2_with (at_make; go_loud (refine make_blk hI1 hI2 256 rfl rfl (by omega) (by omega) ?_))
      have hbf := ((((hbr4.far (g' := w2.heap.size) (i := 1) hne1.symm (.string z256)).far (g' := w2.heap.size) (i := 0) hne1.symm (.int .i64 4)).set 0 (.int .i64 (4))).set 1 (.string (z256))).alloc (.cells (madeCells #[.int .u8 0] 256) 5)
      have c0 := hbf.cell (i := 0) (v := .int .i64 (4)) rfl
      have c1 := hbf.cell (i := 1) (v := .string (z256)) rfl
      have hlow := ((((((Below.refl w.heap.size w4).setCell (p := ⟨w2.heap.size, 1, none⟩) (by show _ ≤ w2.heap.size; omega) (.string z256)).setCell (p := ⟨w2.heap.size, 0, none⟩) (by show _ ≤ w2.heap.size; omega) (.int .i64 4)).setCell (p := ⟨w.heap.size, 0, none⟩) (Nat.le_refl _) (.int .i64 4)).setCell (p := ⟨w.heap.size, 1, none⟩) (Nat.le_refl _) (.string z256)))
      have hlow := hlow.alloc (Nat.le_trans (show w.heap.size ≤ w4.heap.size by omega) hlow.size) (.cells (madeCells #[.int .u8 0] 256) 5)
      exact bodyPost_ret (v := vSeg (4) (z256)) (by simp [results, Try.results76, go_sem, c0, c1]) rfl ⟨_, _, rfl, by have := HS1.out; omega, hs4.low hlow hn0, hE4.below hlow (Nat.le_refl _)⟩
  · have hbf := ((hbr3.set 0 (.int .i64 (1 + y))).set 1 (.string (t)))
    have c0 := hbf.cell (i := 0) (v := .int .i64 (1 + y)) rfl
    have c1 := hbf.cell (i := 1) (v := .string (t)) rfl
    exact bodyPost_ret (v := vSeg (1 + y) (t)) (by simp [results, Try.results76, go_sem, c0, c1]) rfl ⟨_, _, rfl, by omega, hs3.low (by repeat (first | exact Below.refl _ _ | refine Below.setCell ?_ (by show _ ≤ _; simp <;> omega) _ | refine Below.alloc ?_ (by simp [World.setCell] <;> omega) _)) hn0, hE3.below (by repeat (first | exact Below.refl _ _ | refine Below.setCell ?_ (by show _ ≤ _; simp <;> omega) _ | refine Below.alloc ?_ (by simp [World.setCell] <;> omega) _)) (Nat.le_refl _)⟩

theorem OwnInts.but {g B : Nat} {w w' : World} {p : Option Addr} {xs : List Int} (h : OwnInts B w p xs) (hb : But g w w') (hg : g < B) : OwnInts B w' p xs := fun i hi => by
  obtain ⟨b, o, h1, hB, h2, h3, h4⟩ := h i hi
  have hk := hb.block b h2 (by omega)
  exact ⟨b, o, h1, hB, Nat.lt_of_lt_of_le h2 hb.size, (World.cell?_of_block (a := ⟨b, o + i, none⟩) hk).trans h3, (World.frozen?_of_block (a := ⟨b, o + i, none⟩) hk).trans h4⟩
/-- A list and a segment have been drawn. -/
def WsE (w : World) (e : Ending) (w' : World) : Prop := ∃ (p : Option Addr) (c : Nat) (xs : List Int) (m : Int) (t : ByteArray), e = .returned (.tuple #[.slice p xs.length c, vSeg m t]) ∧ xs.length ≤ 100000 ∧ wfs xs ∧ t.size ≤ 300 ∧ IntsAt w' p xs ∧ Ext w w'
set_option maxRecDepth 100000 in
theorem DrawWriteSegment_c (p : Option Addr) (c : Nat) (code : List Int) (w : World) (hx : U8At w p code) (hl : code.length ≤ 4096) :
    Calls Try.prog 15 #[.slice p code.length c] w fun e w' => WsE w e w' := by
  have hbr0 := Blk.new w #[.int .i64 0, .string ByteArray.empty] 26
  have HX := Lib.hid hx; clear hx
  go_enter Try.func15, Try.ntmps15
  go_wp2_with (first
    | (go_at_call 74; (with_reducible refine (From_c p c code _ (HX.out.ext (by repeat (first | exact Ext.refl _ | assumption | refine Ext.drew ?_ | refine Ext.drewN ?_ _ | refine Ext.iter ?_ _ _ | refine Ext.alloc ?_ _ | refine Ext.setCell ?_ (by first | exact Nat.le_refl _ | (simp <;> omega)) _ | refine Ext.trans2 (by assumption) ?_))) hl).mono ?_); rintro e w1 ⟨⟨g, rfl, hg, hs1⟩, hb1⟩; have hn1 : g < w1.heap.size := (hs1.lt); rw [← hg] at hs1; have hW1 : Ext w w1 := (((Ext.refl w).alloc _).trans hb1); replace hg := Lib.hid hg)
    | (go_at_call 75; (with_reducible refine (DrawBits_c (g + 1) g 12 _ hs1 (by omega) (by omega)).mono ?_); rintro e w2 ⟨p2, c2, xs, rfl, hxl, hsm, oq2, hs2, hb2⟩; have hz2 := hb2.size; replace hsm := Lib.hid hsm)
    | (go_at_call 76; (with_reducible refine (DrawSeg_c (g + 1) g _ hs2 (by omega)).mono ?_); rintro e w3 ⟨m, t, rfl, ht, hs3, hb3⟩; have hz3 := hb3.size; have hgr : w.heap.size ≠ g := (by have := hg.out; simp at this; omega); have hbr3 := ((hbr0.ext hb1).but hb2 hgr).but hb3 hgr; have r0 := hbr3.cell (i := 0) (v := .int .i64 0) rfl; have r1 := hbr3.cell (i := 1) (v := .string ByteArray.empty) rfl; have r2 := hbr3.lt; have r3 := hbr3.free))
  have hgw : w.heap.size + 1 = g := by have := hg.out; simp at this; omega
  have oq3 := oq2.but hb3 (by omega)
  have hbf := (hbr3.set 0 (.int .i64 m)).set 1 (.string t)
  have c0 := hbf.cell (i := 0) (v := .int .i64 m) rfl
  have c1 := hbf.cell (i := 1) (v := .string t) rfl
  have hE := ((hW1.but hb2 (by omega)).but hb3 (by omega))
  have hlow : Below (w.heap.size + 1) w3 ((w3.setCell ⟨w.heap.size, 0, none⟩ (.int .i64 m)).setCell ⟨w.heap.size, 1, none⟩ (.string t)) → True := fun _ => trivial
  have oqf : IntsAt ((w3.setCell ⟨w.heap.size, 0, none⟩ (.int .i64 m)).setCell ⟨w.heap.size, 1, none⟩ (.string t)) p2 xs := fun i hi => by
    obtain ⟨b, o, e1, e2, e3, e4, _⟩ := oq3 i hi
    refine ⟨b, o, e1, by simpa [World.setCell] using e3, ?_⟩
    rw [World.cell?_setCell_other _ _ _ _ (by simp <;> omega), World.cell?_setCell_other _ _ _ _ (by simp <;> omega)]
    exact e4
  exact bodyPost_ret (v := .tuple #[.slice p2 xs.length c2, vSeg m t]) (by simp [results, Try.results15, go_sem, c0, c1]) rfl ⟨_, _, _, _, _, rfl, hxl.1, small_wfs hsm.out, ht, oqf, (hE.setCell (Nat.le_refl _) _).setCell (Nat.le_refl _) _⟩
end Go.Proofs.Ytnfbgjgchcgonaa
