
/- readSegment, whole. -/
import Derived.Test.YtnfbgjgchcgonaaReadSeg3
namespace Go.Proofs.Ytnfbgjgchcgonaa
set_option linter.unusedVariables false
set_option linter.unusedSimpArgs false
open Go.RowKit

set_option maxHeartbeats 1600000 in
set_option maxRecDepth 100000 in
theorem readSegment2_c (p : Option Addr) (c : Nat) (xs : List Int) (a : Nat) (w : World) (hx : IntsAt w p xs) (hc : xs.length ≤ c) (hl : xs.length ≤ 1048576) (hb : ∀ x ∈ xs, x = 0 ∨ x = 1) (ha : a + 11 ≤ xs.length)
    (hbad : ¬ (1 ≤ numAt xs a 3 ∧ numAt xs a 3 ≤ 4) ∨ numAt xs (a + 3) 8 = 0 ∨ (xs.length : Int) < a + 11 + textW (numAt xs a 3) (numAt xs (a + 3) 8)) :
    Calls Try.prog 88 #[.slice p xs.length c, .int .i64 a] w fun e w' => rdR xs a e ∧ Ext w w' := by
  have hnone : rdS xs a = none := by
    unfold rdS
    rw [if_neg (by omega), if_pos hbad]
  have HN := Lib.hid hnone; clear hnone
  have b1 := numAt_bd hb a 3 (by omega)
  have b2 := numAt_bd hb (a + 3) 8 (by omega)
  have htw := textW_bd (numAt xs a 3) (numAt xs (a + 3) 8) (by omega)
  have n1 : ∀ W, IntsAt W p xs → Calls Try.prog 117 #[.slice p xs.length c, .int .i64 a, .int .i64 3] W fun e w' => e = .returned (.int .i64 (numAt xs a 3)) ∧ W = w' := fun W h => numberAt_c p c xs a 3 W h hc hl hb (by omega) (by omega)
  have n2 : ∀ W, IntsAt W p xs → Calls Try.prog 117 #[.slice p xs.length c, .int .i64 ((a : Int) + 3), .int .i64 8] W fun e w' => e = .returned (.int .i64 (numAt xs (a + 3) 8)) ∧ W = w' := fun W h => numberAt_c p c xs (a + 3) 8 W h hc hl hb (by omega) (by omega)
  have HX := Lib.hid hx; clear hx hb
  have N1 := Lib.hid n1; have N2 := Lib.hid n2; clear n1 n2
  generalize hme : numAt xs a 3 = m at *
  generalize hce : numAt xs (a + 3) 8 = cI at *
  clear hme hce
  have hd1 : (a : Int) + 3 + 8 ≤ xs.length := by omega
  go_enter Try.func88, Try.ntmps88
  by_cases h0 : cI = 0
  · subst h0
    go_wp2_with (first
    | (go_at_call 117; (with_reducible refine (N1.out _ (HX.out.ext (by repeat (first | exact Ext.refl _ | assumption | refine Ext.drew ?_ | refine Ext.drewN ?_ _ | refine Ext.iter ?_ _ _ | refine Ext.alloc ?_ _ | refine Ext.setCell ?_ (by first | exact Nat.le_refl _ | (simp <;> omega)) _ | refine Ext.trans2 (by assumption) ?_)))).mono ?_); rintro e w1 ⟨rfl, rfl⟩)
    | (go_at_call 117; (with_reducible refine (N2.out _ (HX.out.ext (by repeat (first | exact Ext.refl _ | assumption | refine Ext.drew ?_ | refine Ext.drewN ?_ _ | refine Ext.iter ?_ _ _ | refine Ext.alloc ?_ _ | refine Ext.setCell ?_ (by first | exact Nat.le_refl _ | (simp <;> omega)) _ | refine Ext.trans2 (by assumption) ?_)))).mono ?_); rintro e w1 ⟨rfl, rfl⟩)
    | (go_at_call 83; (with_reducible refine (modeOfB_c _ _).mono ?_); rintro e wm ⟨⟨vm, ⟨h4, rfl⟩ | ⟨h4, rfl⟩, hvm⟩, hb1⟩ <;> (obtain ⟨hc1, hf1, hk1, hz1⟩ := ecell hb1; simp at hz1; have hres := (Blk.new w #[.int .i64 0, .string ⟨#[]⟩] 26).ext hb1; have y0 := hres.cell (i := 0) (v := .int .i64 0) rfl; have y1 := hres.cell (i := 1) (v := .string ⟨#[]⟩) rfl; have y2 := hres.free; have y3 := hres.lt; have k0 := (hres.set 0 (.int .i64 0)).cell (i := 0) (v := .int .i64 0) rfl; have k1 := ((hres.set 0 (.int .i64 0)).set 1 (.string ⟨#[]⟩)).cell (i := 1) (v := .string ⟨#[]⟩) rfl)))
    all_goals (first | exact bodyPost_ret (v := .tuple #[vSeg 0 ⟨#[]⟩, .int .i64 0, .bool false]) (by simp [results, Try.results88, go_sem, k0, k1]) rfl ⟨.inr ⟨HN.out, rfl⟩, (by repeat (first | exact Ext.refl _ | assumption | refine Ext.drew ?_ | refine Ext.drewN ?_ _ | refine Ext.iter ?_ _ _ | refine Ext.alloc ?_ _ | refine Ext.setCell ?_ (by first | exact Nat.le_refl _ | (simp <;> omega)) _ | refine Ext.trans2 (by assumption) ?_))⟩)
  · have hc0 : (cI == 0) = false := by simpa using h0
    have hcp : 1 ≤ cI := by omega
    go_wp2_with (first
    | (go_at_call 117; (with_reducible refine (N1.out _ (HX.out.ext (by repeat (first | exact Ext.refl _ | assumption | refine Ext.drew ?_ | refine Ext.drewN ?_ _ | refine Ext.iter ?_ _ _ | refine Ext.alloc ?_ _ | refine Ext.setCell ?_ (by first | exact Nat.le_refl _ | (simp <;> omega)) _ | refine Ext.trans2 (by assumption) ?_)))).mono ?_); rintro e w1 ⟨rfl, rfl⟩)
    | (go_at_call 117; (with_reducible refine (N2.out _ (HX.out.ext (by repeat (first | exact Ext.refl _ | assumption | refine Ext.drew ?_ | refine Ext.drewN ?_ _ | refine Ext.iter ?_ _ _ | refine Ext.alloc ?_ _ | refine Ext.setCell ?_ (by first | exact Nat.le_refl _ | (simp <;> omega)) _ | refine Ext.trans2 (by assumption) ?_)))).mono ?_); rintro e w1 ⟨rfl, rfl⟩)
    | (go_at_call 83; (with_reducible refine (modeOfB_c _ _).mono ?_); rintro e wm ⟨⟨vm, ⟨h4, rfl⟩ | ⟨h4, rfl⟩, hvm⟩, hb1⟩ <;> (obtain ⟨hc1, hf1, hk1, hz1⟩ := ecell hb1; simp at hz1; have hres := (Blk.new w #[.int .i64 0, .string ⟨#[]⟩] 26).ext hb1; have y0 := hres.cell (i := 0) (v := .int .i64 0) rfl; have y1 := hres.cell (i := 1) (v := .string ⟨#[]⟩) rfl; have y2 := hres.free; have y3 := hres.lt; have k0 := (hres.set 0 (.int .i64 0)).cell (i := 0) (v := .int .i64 0) rfl; have k1 := ((hres.set 0 (.int .i64 0)).set 1 (.string ⟨#[]⟩)).cell (i := 1) (v := .string ⟨#[]⟩) rfl); have hvm0 := Lib.hid (show ModeV wm m vm from hvm.1); replace hvm := Lib.hid hvm)
    | (go_at_call 153; (with_reducible refine (iTextWidth_c m cI _ _ (by omega) hvm0.out (by omega)).mono ?_); rintro e w2 ⟨rfl, hb2⟩; have hres2 := hres.ext hb2; have z0 := hres2.cell (i := 0) (v := .int .i64 0) rfl; have z1 := hres2.cell (i := 1) (v := .string ⟨#[]⟩) rfl; have z2 := hres2.free; have z3 := hres2.lt; have l0 := (hres2.set 0 (.int .i64 0)).cell (i := 0) (v := .int .i64 0) rfl; have l1 := ((hres2.set 0 (.int .i64 0)).set 1 (.string ⟨#[]⟩)).cell (i := 1) (v := .string ⟨#[]⟩) rfl))
    all_goals (first | (have := l0; exact bodyPost_ret (v := .tuple #[vSeg 0 ⟨#[]⟩, .int .i64 0, .bool false]) (by simp [results, Try.results88, go_sem, l0, l1]) rfl ⟨.inr ⟨HN.out, rfl⟩, (by repeat (first | exact Ext.refl _ | assumption | refine Ext.drew ?_ | refine Ext.drewN ?_ _ | refine Ext.iter ?_ _ _ | refine Ext.alloc ?_ _ | refine Ext.setCell ?_ (by first | exact Nat.le_refl _ | (simp <;> omega)) _ | refine Ext.trans2 (by assumption) ?_))⟩) | exact bodyPost_ret (v := .tuple #[vSeg 0 ⟨#[]⟩, .int .i64 0, .bool false]) (by simp [results, Try.results88, go_sem, k0, k1]) rfl ⟨.inr ⟨HN.out, rfl⟩, (by repeat (first | exact Ext.refl _ | assumption | refine Ext.drew ?_ | refine Ext.drewN ?_ _ | refine Ext.iter ?_ _ _ | refine Ext.alloc ?_ _ | refine Ext.setCell ?_ (by first | exact Nat.le_refl _ | (simp <;> omega)) _ | refine Ext.trans2 (by assumption) ?_))⟩)

theorem readSegment_c (p : Option Addr) (c : Nat) (xs : List Int) (a : Nat) (w : World) (hx : IntsAt w p xs) (hc : xs.length ≤ c) (hl : xs.length ≤ 1048576) (hb : ∀ x ∈ xs, x = 0 ∨ x = 1) (ha : a ≤ xs.length) :
    Calls Try.prog 88 #[.slice p xs.length c, .int .i64 a] w fun e w' => rdR xs a e ∧ Ext w w' := by
  by_cases h1 : xs.length < a + 11
  · exact readSegment1_c p c xs a w hx hc hl hb ha (by unfold rdS; rw [if_pos h1]) h1
  · by_cases h2 : ¬ (1 ≤ numAt xs a 3 ∧ numAt xs a 3 ≤ 4) ∨ numAt xs (a + 3) 8 = 0 ∨ (xs.length : Int) < a + 11 + textW (numAt xs a 3) (numAt xs (a + 3) 8)
    · exact readSegment2_c p c xs a w hx hc hl hb (by omega) h2
    · by_cases h3 : numAt xs a 3 ≤ 3
      · exact readSegmentM1_c p c xs a w hx hc hl hb (by omega) (by omega) (by omega) (by omega)
      · exact readSegmentM2_c p c xs a w hx hc hl hb (by omega) (by omega) (by omega) (by omega)
end Go.Proofs.Ytnfbgjgchcgonaa
