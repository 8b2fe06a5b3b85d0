/- JobOf, on both sides. -/
import Derived.Test.YthpnkcamjcohgaaGreatDoorLJobsReadK29
import Derived.Test.YthpnkcamjcohgaaGreatDoorLJobsReadK07
import Derived.Test.YthpnkcamjcohgaaGreatDoorLJobsReadK14
namespace Go.Proofs.YthpnkcamjcohgaaGreatDoor
set_option linter.unusedVariables false
set_option linter.unusedSimpArgs false
open Go.RowKit

theorem jcV_job {r c : Int} {xs : List Int} (h : jcV r c xs = 0) : ∃ R C : Nat, r = R ∧ c = C ∧ okJ R C xs := by
  have hg := jcV_ok h
  obtain ⟨R, C, rfl, rfl, h1, h2, h3, h4⟩ := grid_nat hg
  refine ⟨R, C, rfl, rfl, h1, h2, h3, h4, fun x hx => ?_⟩
  unfold jcV at h
  rw [if_neg (not_not_intro hg)] at h
  split at h
  · omega
  · rename_i h5
    have h5 := Classical.not_not.1 h5 x hx
    have := (hg.2.2.2.2 x hx).2
    omega
theorem job_jcV {R C : Nat} {xs : List Int} (h : okJ R C xs) : jcV R C xs = 0 := by
  have hg : gridOK R C xs := by
    have h1 := h.rle; have h2 := h.cle; have h3 := h.r1; have h4 := h.c1; have h5 := h.le; have h6 := h.len
    refine ⟨⟨by omega, by omega⟩, ⟨by omega, by omega⟩, ?_, ?_, fun x hx => ?_⟩
    · have h7 : ((R * C : Nat) : Int) = (R : Int) * C := Int.natCast_mul R C
      omega
    · rw [h6]; exact Int.natCast_mul R C
    · rcases h.known x hx with h | h <;> omega
  unfold jcV
  rw [if_neg (not_not_intro hg), if_neg]
  exact not_not_intro (fun x hx => by rcases h.known x hx with h | h <;> omega)
/-- What JobOf tells. -/
noncomputable def joV (r c : Int) (xs : List Int) : ByteArray × Int := if jcV r c xs = 0 then (if (jobT r.toNat c.toNat xs).size ≤ 20000 then (jobT r.toNat c.toNat xs, 0) else (ByteArray.empty, 3)) else (ByteArray.empty, jcV r c xs)
theorem jobT_size {R C : Nat} {xs : List Int} (h : okJ R C xs) : (jobT R C xs).size ≤ 700000 := by
  have h1 := bdT_bd h (bandsTo_ok C xs R) (Nat.le_refl _)
  have h2 := head_size h.rle h.cle
  have h3 : enB.size = 4 := rfl
  unfold jobT
  rw [ByteArray.size_append, ByteArray.size_append]
  omega
set_option maxRecDepth 100000 in
theorem iJobOf_c (r c : Int) (p : Option Addr) (k : Nat) (xs : List Int) (w : World) (hx : IntsAt w p xs) (hl : xs.length ≤ 1048576) (hk : xs.length ≤ k) (hT : Tab10 w) :
    Calls Tryz.prog 17 #[vGrid r c p xs.length k] w fun e w' => e = .returned (.tuple #[.string (joV r c xs).1, .int .i64 (joV r c xs).2]) ∧ Ext w w' := by
  have HX := Lib.hid hx; clear hx
  have HT := Lib.hid hT; clear hT
  have hb := Blk.new w #[.int .i64 r, .int .i64 c, .slice p xs.length k] 30
  have hx0 : Ext w (w.alloc (.cells #[.int .i64 r, .int .i64 c, .slice p xs.length k] 30)) := (Ext.refl w).alloc _
  have hjc := Lib.hid (fun W (h : IntsAt W p xs) => iJobCode_c r c p k xs W h hl)
  by_cases h0 : jcV r c xs = 0
  · obtain ⟨R, C, rfl, rfl, hok⟩ := jcV_job h0
    have hjo : joV (R : Int) (C : Int) xs = if (jobT R C xs).size ≤ 20000 then (jobT R C xs, 0) else (ByteArray.empty, 3) := if_pos h0
    rw [hjo]
    rw [h0] at hjc
    clear hjo h0
    have hp0 : 0 < xs.length := by rw [hok.len]; exact Nat.mul_pos hok.r1 hok.c1
    obtain ⟨b, o, rfl, _, _⟩ := HX.out 0 hp0
    have hbd := Lib.hid (fun W (h : IntsAt W (some ⟨b, o, none⟩) xs) (hT : Tab10 W) => iJob_c R C b o k xs W h hok hk hT)
    have hjz := jobT_size hok
    clear hok
    generalize jobT R C xs = J at *
    by_cases hs : J.size ≤ 20000
    · rw [if_pos hs]
      have hd : ¬ (20000 : Int) < J.size := by omega
      go_enter Tryz.func17, Tryz.ntmps17
      go_wp2_with (first
        | (go_at_call 41; (with_reducible refine (hjc.out _ (HX.out.ext hx0)).mono ?_); rintro e w1 ⟨rfl, hx1⟩; have hb1 := hb.ext hx1; have f0 := hb1.cell (i := 0) (v := .int .i64 R) rfl; have f1 := hb1.cell (i := 1) (v := .int .i64 C) rfl; have f2 := hb1.cell (i := 2) (v := .slice (some ⟨b, o, none⟩) xs.length k) rfl; have fl := hb1.lt)
        | (go_at_call 21; (with_reducible refine (hbd.out _ (HX.out.ext (hx0.trans hx1)) (HT.out.ext (hx0.trans hx1))).mono ?_); rintro e w2 ⟨rfl, hx2⟩))
      go_ret2
      exact ⟨rfl, (hx0.trans hx1).trans hx2⟩
    · rw [if_neg hs]
      have hd : (20000 : Int) < J.size := by omega
      go_enter Tryz.func17, Tryz.ntmps17
      go_wp2_with (first
        | (go_at_call 41; (with_reducible refine (hjc.out _ (HX.out.ext hx0)).mono ?_); rintro e w1 ⟨rfl, hx1⟩; have hb1 := hb.ext hx1; have f0 := hb1.cell (i := 0) (v := .int .i64 R) rfl; have f1 := hb1.cell (i := 1) (v := .int .i64 C) rfl; have f2 := hb1.cell (i := 2) (v := .slice (some ⟨b, o, none⟩) xs.length k) rfl; have fl := hb1.lt)
        | (go_at_call 21; (with_reducible refine (hbd.out _ (HX.out.ext (hx0.trans hx1)) (HT.out.ext (hx0.trans hx1))).mono ?_); rintro e w2 ⟨rfl, hx2⟩))
      go_ret2
      exact ⟨rfl, (hx0.trans hx1).trans hx2⟩
  · have hjo : joV r c xs = (ByteArray.empty, jcV r c xs) := if_neg h0
    rw [hjo]
    generalize jcV r c xs = K at *
    have h0b : (K != 0) = true := by simpa using h0
    go_enter Tryz.func17, Tryz.ntmps17
    go_wp2_with (go_at_call 41; (with_reducible refine (hjc.out _ (HX.out.ext hx0)).mono ?_); rintro e w1 ⟨rfl, hx1⟩)
    go_ret2
    exact ⟨rfl, hx0.trans hx1⟩
set_option maxRecDepth 100000 in
theorem sJobOf_c (r c : Int) (p : Option Addr) (k : Nat) (xs : List Int) (w : World) (hx : IntsAt w p xs) (hl : xs.length ≤ 1048576) (hk : xs.length ≤ k) (hT : Tab10 w) :
    Calls Tryz.prog 24 #[vGrid r c p xs.length k] w fun e w' => e = .returned (.tuple #[.string (joV r c xs).1, .int .i64 (joV r c xs).2]) ∧ Ext w w' := by
  have HX := Lib.hid hx; clear hx
  have HT := Lib.hid hT; clear hT
  have hb := Blk.new w #[.int .i64 r, .int .i64 c, .slice p xs.length k] 30
  have hx0 : Ext w (w.alloc (.cells #[.int .i64 r, .int .i64 c, .slice p xs.length k] 30)) := (Ext.refl w).alloc _
  have hjc := Lib.hid (fun W (h : IntsAt W p xs) => sJobCode_c r c p k xs W h hl)
  by_cases h0 : jcV r c xs = 0
  · obtain ⟨R, C, rfl, rfl, hok⟩ := jcV_job h0
    have hjo : joV (R : Int) (C : Int) xs = if (jobT R C xs).size ≤ 20000 then (jobT R C xs, 0) else (ByteArray.empty, 3) := if_pos h0
    rw [hjo]
    rw [h0] at hjc
    clear hjo h0
    have hp0 : 0 < xs.length := by rw [hok.len]; exact Nat.mul_pos hok.r1 hok.c1
    obtain ⟨b, o, rfl, _, _⟩ := HX.out 0 hp0
    have hbd := Lib.hid (fun W (h : IntsAt W (some ⟨b, o, none⟩) xs) (hT : Tab10 W) => l30Job_c R C b o k xs W h hok hk)
    have hjz := jobT_size hok
    clear hok
    generalize jobT R C xs = J at *
    by_cases hs : J.size ≤ 20000
    · rw [if_pos hs]
      have hd : ¬ (20000 : Int) < J.size := by omega
      go_enter Tryz.func24, Tryz.ntmps24
      go_wp2_with (first
        | (go_at_call 50; (with_reducible refine (hjc.out _ (HX.out.ext hx0)).mono ?_); rintro e w1 ⟨rfl, hx1⟩; have hb1 := hb.ext hx1; have f0 := hb1.cell (i := 0) (v := .int .i64 R) rfl; have f1 := hb1.cell (i := 1) (v := .int .i64 C) rfl; have f2 := hb1.cell (i := 2) (v := .slice (some ⟨b, o, none⟩) xs.length k) rfl; have fl := hb1.lt)
        | (go_at_call 35; (with_reducible refine (hbd.out _ (HX.out.ext (hx0.trans hx1)) (HT.out.ext (hx0.trans hx1))).mono ?_); rintro e w2 ⟨rfl, hx2⟩))
      go_ret2
      exact ⟨rfl, (hx0.trans hx1).trans hx2⟩
    · rw [if_neg hs]
      have hd : (20000 : Int) < J.size := by omega
      go_enter Tryz.func24, Tryz.ntmps24
      go_wp2_with (first
        | (go_at_call 50; (with_reducible refine (hjc.out _ (HX.out.ext hx0)).mono ?_); rintro e w1 ⟨rfl, hx1⟩; have hb1 := hb.ext hx1; have f0 := hb1.cell (i := 0) (v := .int .i64 R) rfl; have f1 := hb1.cell (i := 1) (v := .int .i64 C) rfl; have f2 := hb1.cell (i := 2) (v := .slice (some ⟨b, o, none⟩) xs.length k) rfl; have fl := hb1.lt)
        | (go_at_call 35; (with_reducible refine (hbd.out _ (HX.out.ext (hx0.trans hx1)) (HT.out.ext (hx0.trans hx1))).mono ?_); rintro e w2 ⟨rfl, hx2⟩))
      go_ret2
      exact ⟨rfl, (hx0.trans hx1).trans hx2⟩
  · have hjo : joV r c xs = (ByteArray.empty, jcV r c xs) := if_neg h0
    rw [hjo]
    generalize jcV r c xs = K at *
    have h0b : (K != 0) = true := by simpa using h0
    go_enter Tryz.func24, Tryz.ntmps24
    go_wp2_with (go_at_call 50; (with_reducible refine (hjc.out _ (HX.out.ext hx0)).mono ?_); rintro e w1 ⟨rfl, hx1⟩)
    go_ret2
    exact ⟨rfl, hx0.trans hx1⟩
end Go.Proofs.YthpnkcamjcohgaaGreatDoor
/- Drawn jobs, and grids that have jobs. -/
/-! Drawn jobs, and grids that have jobs. -/
namespace Go.Proofs.YthpnkcamjcohgaaGreatDoor
set_option linter.unusedVariables false
set_option linter.unusedSimpArgs false
open Go.RowKit

theorem joV_size (r c : Int) (xs : List Int) : (joV r c xs).1.size ≤ 20000 := by
  unfold joV
  split
  · split
    · assumption
    · show ByteArray.empty.size ≤ 20000
      decide
  · show ByteArray.empty.size ≤ 20000
    decide
set_option maxHeartbeats 800000 in
set_option maxRecDepth 100000 in
theorem l30DrawJob_c (n0 g : Nat) (w : World) (h : Src n0 w g) (hn0 : n0 ≤ w.heap.size) (hT : ∀ W, But g w W → Tab10 W) :
    Calls Tryz.prog 19 #[.pointer (some ⟨g, 0, none⟩)] w fun e w' => TxD n0 g 20001 w e w' := by
  have hg : g < n0 := h.1
  have HT := Lib.hid hT; clear hT
  go_enter Tryz.func19, Tryz.ntmps19
  go_wp2_with fail
  refine (l16Draw_c n0 g _ h hn0).mono ?_
  rintro e w1 ⟨r, c, p, k, xs, rfl, hlx, hkx, ho1, hs1, hb1⟩
  have hz1 := hb1.size
  have hA := Blk.new w1 #[.int .i64 r, .int .i64 c, .slice p xs.length k] 30
  have hx2 : Ext w1 (w1.alloc (.cells #[.int .i64 r, .int .i64 c, .slice p xs.length k] 30)) := (Ext.refl w1).alloc _
  have hjo := Lib.hid (fun W (h1 : IntsAt W p xs) (h2 : Tab10 W) => sJobOf_c r c p k xs W h1 (by omega) hkx h2)
  have hjz := joV_size r c xs
  generalize joV r c xs = V at *
  obtain ⟨J, cd⟩ := V
  simp only at hjo hjz
  have hs2 := hs1.ext hx2
  have hb2 := hb1.trans (But.of hx2)
  have hi2 := Lib.hid (ho1.ints.ext hx2)
  have hz2 := hb2.size
  clear h hs1 hb1 ho1 hx2
  go_wp2_with fail
  generalize w1.alloc (.cells #[.int .i64 r, .int .i64 c, .slice p xs.length k] 30) = w2 at *
  generalize w1.heap.size = gA at *
  refine (hjo.out _ hi2.out (HT.out _ hb2)).mono ?_
  rintro e w3 ⟨rfl, hx3⟩
  have hs3 := hs2.ext hx3
  have hb3 := hb2.trans (But.of hx3)
  have hz3 := hb3.size
  clear hA hs2 hb2 hi2 hx3 hjo HT
  by_cases hc : cd = 0
  · subst hc
    go_wp2_with fail
    refine (Next_c n0 g 5 _ hs3 (by omega)).mono ?_
    rintro e w4 ⟨z, rfl, -, -, -, hs4, hb4⟩
    have hz4 := hb4.size
    have hb04 := hb3.trans hb4
    clear hs3 hb3 hb4
    by_cases h0 : z = 0
    · subst h0
      go_wp2_with fail
      refine (l01Damage_c n0 g J _ hs4 (by omega) (by omega)).mono ?_
      rintro e w5 ⟨t, rfl, ht, hs5, hb5⟩
      go_wp2
      go_ret
      exact ⟨t, rfl, by omega, hs5, hb04.trans hb5⟩
    · have h0b : (z == 0) = false := by simpa using h0
      go_wp2
      go_ret
      exact ⟨J, rfl, by omega, hs4, hb04⟩
  · have hcb : (cd != 0) = true := by simpa using hc
    go_wp2
    go_ret
    exact ⟨_, rfl, by decide, hs3, hb3⟩
/-- A text has been drawn and nothing old turned. -/
def TxE (n : Nat) (w : World) (e : Ending) (w' : World) : Prop := ∃ t : ByteArray, e = .returned (.string t) ∧ t.size ≤ n ∧ Ext w w'
set_option maxRecDepth 100000 in
theorem DrawReadJob_c (p : Option Addr) (c : Nat) (code : List Int) (w : World) (hx : U8At w p code) (hl : code.length ≤ 4096) (hT : Tab10 w) :
    Calls Tryz.prog 11 #[.slice p code.length c] w fun e w' => TxE 20001 w e w' := by
  have HX := Lib.hid hx; have HT := Lib.hid hT; clear hx hT
  go_enter Tryz.func11, Tryz.ntmps11
  go_wp2_with (go_at_call 18; (with_reducible refine (From_c p c code _ (HX.out.ext (by repeat (first | exact Ext.refl _ | assumption | refine Ext.drew ?_ | refine Ext.drewN ?_ _ | refine Ext.iter ?_ _ _ | refine Ext.alloc ?_ _ | refine Ext.setCell ?_ (by first | exact Nat.le_refl _ | (simp <;> omega)) _ | refine Ext.trans2 (by assumption) ?_))) hl).mono ?_); rintro e w1 ⟨⟨g, rfl, hg, hs1⟩, hW1⟩; replace hg := Lib.hid hg)
  replace hg := hg.out
  have hn1 : g < w1.heap.size := hs1.lt
  rw [← hg] at hs1
  have hgw : w.heap.size ≤ g := by omega
  clear hg
  refine (l30DrawJob_c (g + 1) g _ hs1 (by omega) (fun W hW => HT.out.ext (hW1.but hW (by omega)))).mono ?_
  rintro e w2 ⟨t, rfl, ht, hs2, hb2⟩
  have hE := hW1.but hb2 (by omega)
  clear hs1 hs2 hb2
  go_wp2
  go_ret
  exact ⟨t, rfl, ht, hE⟩
end Go.Proofs.YthpnkcamjcohgaaGreatDoor
