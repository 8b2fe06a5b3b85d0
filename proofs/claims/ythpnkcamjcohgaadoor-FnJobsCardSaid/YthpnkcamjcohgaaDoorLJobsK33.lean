/- JobOf, on both sides. -/
import Derived.Test.YthpnkcamjcohgaaDoorLJobsK32
namespace Go.Proofs.YthpnkcamjcohgaaDoor
set_option linter.unusedVariables false
set_option linter.unusedSimpArgs false
open Go.RowKit

theorem jcV_job {r c : Int} {xs : List Int} (h : jcV r c xs = 0) : ∃ R C : Nat, r = R ∧ c = C ∧ okJ R C xs := by
  have hg := jcV_ok h
  obtain ⟨R, C, rfl, rfl, h1, h2, h3, h4⟩ := grid_nat hg
  refine ⟨R, C, rfl, rfl, h1, h2, h3, h4, fun x hx => ?_⟩
  unfold jcV at h
  rw [if_neg (not_not_intro hg)] at h
  split at h
  · omega
  · rename_i h5
    have h5 := Classical.not_not.1 h5 x hx
    have := (hg.2.2.2.2 x hx).2
    omega
theorem job_jcV {R C : Nat} {xs : List Int} (h : okJ R C xs) : jcV R C xs = 0 := by
  have hg : gridOK R C xs := by
    have h1 := h.rle; have h2 := h.cle; have h3 := h.r1; have h4 := h.c1; have h5 := h.le; have h6 := h.len
    refine ⟨⟨by omega, by omega⟩, ⟨by omega, by omega⟩, ?_, ?_, fun x hx => ?_⟩
    · have h7 : ((R * C : Nat) : Int) = (R : Int) * C := Int.natCast_mul R C
      omega
    · rw [h6]; exact Int.natCast_mul R C
    · rcases h.known x hx with h | h <;> omega
  unfold jcV
  rw [if_neg (not_not_intro hg), if_neg]
  exact not_not_intro (fun x hx => by rcases h.known x hx with h | h <;> omega)
/-- What JobOf tells. -/
noncomputable def joV (r c : Int) (xs : List Int) : ByteArray × Int := if jcV r c xs = 0 then (if (jobT r.toNat c.toNat xs).size ≤ 20000 then (jobT r.toNat c.toNat xs, 0) else (ByteArray.empty, 3)) else (ByteArray.empty, jcV r c xs)
theorem jobT_size {R C : Nat} {xs : List Int} (h : okJ R C xs) : (jobT R C xs).size ≤ 700000 := by
  have h1 := bdT_bd h (bandsTo_ok C xs R) (Nat.le_refl _)
  have h2 := head_size h.rle h.cle
  have h3 : enB.size = 4 := rfl
  unfold jobT
  rw [ByteArray.size_append, ByteArray.size_append]
  omega
set_option maxRecDepth 100000 in
theorem iJobOf_c (r c : Int) (p : Option Addr) (k : Nat) (xs : List Int) (w : World) (hx : IntsAt w p xs) (hl : xs.length ≤ 1048576) (hk : xs.length ≤ k) (hT : Tab10 w) :
    Calls Tryd.prog 28 #[vGrid r c p xs.length k] w fun e w' => e = .returned (.tuple #[.string (joV r c xs).1, .int .i64 (joV r c xs).2]) ∧ Ext w w' := by
  have HX := Lib.hid hx; clear hx
  have HT := Lib.hid hT; clear hT
  have hb := Blk.new w #[.int .i64 r, .int .i64 c, .slice p xs.length k] 58
  have hx0 : Ext w (w.alloc (.cells #[.int .i64 r, .int .i64 c, .slice p xs.length k] 58)) := (Ext.refl w).alloc _
  have hjc := Lib.hid (fun W (h : IntsAt W p xs) => iJobCode_c r c p k xs W h hl)
  by_cases h0 : jcV r c xs = 0
  · obtain ⟨R, C, rfl, rfl, hok⟩ := jcV_job h0
    have hjo : joV (R : Int) (C : Int) xs = if (jobT R C xs).size ≤ 20000 then (jobT R C xs, 0) else (ByteArray.empty, 3) := if_pos h0
    rw [hjo]
    rw [h0] at hjc
    clear hjo h0
    have hp0 : 0 < xs.length := by rw [hok.len]; exact Nat.mul_pos hok.r1 hok.c1
    obtain ⟨b, o, rfl, _, _⟩ := HX.out 0 hp0
    have hbd := Lib.hid (fun W (h : IntsAt W (some ⟨b, o, none⟩) xs) (hT : Tab10 W) => iJob_c R C b o k xs W h hok hk hT)
    have hjz := jobT_size hok
    clear hok
    generalize jobT R C xs = J at *
    by_cases hs : J.size ≤ 20000
    · rw [if_pos hs]
      have hd : ¬ (20000 : Int) < J.size := by omega
      go_enter Tryd.func28, Tryd.ntmps28
      go_wp2_with (first
        | (go_at_call 75; (with_reducible refine (hjc.out _ (HX.out.ext hx0)).mono ?_); rintro e w1 ⟨rfl, hx1⟩; have hb1 := hb.ext hx1; have f0 := hb1.cell (i := 0) (v := .int .i64 R) rfl; have f1 := hb1.cell (i := 1) (v := .int .i64 C) rfl; have f2 := hb1.cell (i := 2) (v := .slice (some ⟨b, o, none⟩) xs.length k) rfl; have fl := hb1.lt)
        | (go_at_call 76; (with_reducible refine (hbd.out _ (HX.out.ext (hx0.trans hx1)) (HT.out.ext (hx0.trans hx1))).mono ?_); rintro e w2 ⟨rfl, hx2⟩))
      go_ret2
      exact ⟨rfl, (hx0.trans hx1).trans hx2⟩
    · rw [if_neg hs]
      have hd : (20000 : Int) < J.size := by omega
      go_enter Tryd.func28, Tryd.ntmps28
      go_wp2_with (first
        | (go_at_call 75; (with_reducible refine (hjc.out _ (HX.out.ext hx0)).mono ?_); rintro e w1 ⟨rfl, hx1⟩; have hb1 := hb.ext hx1; have f0 := hb1.cell (i := 0) (v := .int .i64 R) rfl; have f1 := hb1.cell (i := 1) (v := .int .i64 C) rfl; have f2 := hb1.cell (i := 2) (v := .slice (some ⟨b, o, none⟩) xs.length k) rfl; have fl := hb1.lt)
        | (go_at_call 76; (with_reducible refine (hbd.out _ (HX.out.ext (hx0.trans hx1)) (HT.out.ext (hx0.trans hx1))).mono ?_); rintro e w2 ⟨rfl, hx2⟩))
      go_ret2
      exact ⟨rfl, (hx0.trans hx1).trans hx2⟩
  · have hjo : joV r c xs = (ByteArray.empty, jcV r c xs) := if_neg h0
    rw [hjo]
    generalize jcV r c xs = K at *
    have h0b : (K != 0) = true := by simpa using h0
    go_enter Tryd.func28, Tryd.ntmps28
    go_wp2_with (go_at_call 75; (with_reducible refine (hjc.out _ (HX.out.ext hx0)).mono ?_); rintro e w1 ⟨rfl, hx1⟩)
    go_ret2
    exact ⟨rfl, hx0.trans hx1⟩
set_option maxRecDepth 100000 in
theorem sJobOf_c (r c : Int) (p : Option Addr) (k : Nat) (xs : List Int) (w : World) (hx : IntsAt w p xs) (hl : xs.length ≤ 1048576) (hk : xs.length ≤ k) (hT : Tab10 w) :
    Calls Tryd.prog 29 #[vGrid r c p xs.length k] w fun e w' => e = .returned (.tuple #[.string (joV r c xs).1, .int .i64 (joV r c xs).2]) ∧ Ext w w' := by
  have HX := Lib.hid hx; clear hx
  have HT := Lib.hid hT; clear hT
  have hb := Blk.new w #[.int .i64 r, .int .i64 c, .slice p xs.length k] 58
  have hx0 : Ext w (w.alloc (.cells #[.int .i64 r, .int .i64 c, .slice p xs.length k] 58)) := (Ext.refl w).alloc _
  have hjc := Lib.hid (fun W (h : IntsAt W p xs) => sJobCode_c r c p k xs W h hl)
  by_cases h0 : jcV r c xs = 0
  · obtain ⟨R, C, rfl, rfl, hok⟩ := jcV_job h0
    have hjo : joV (R : Int) (C : Int) xs = if (jobT R C xs).size ≤ 20000 then (jobT R C xs, 0) else (ByteArray.empty, 3) := if_pos h0
    rw [hjo]
    rw [h0] at hjc
    clear hjo h0
    have hp0 : 0 < xs.length := by rw [hok.len]; exact Nat.mul_pos hok.r1 hok.c1
    obtain ⟨b, o, rfl, _, _⟩ := HX.out 0 hp0
    have hbd := Lib.hid (fun W (h : IntsAt W (some ⟨b, o, none⟩) xs) (hT : Tab10 W) => l30Job_c R C b o k xs W h hok hk)
    have hjz := jobT_size hok
    clear hok
    generalize jobT R C xs = J at *
    by_cases hs : J.size ≤ 20000
    · rw [if_pos hs]
      have hd : ¬ (20000 : Int) < J.size := by omega
      go_enter Tryd.func29, Tryd.ntmps29
      go_wp2_with (first
        | (go_at_call 77; (with_reducible refine (hjc.out _ (HX.out.ext hx0)).mono ?_); rintro e w1 ⟨rfl, hx1⟩; have hb1 := hb.ext hx1; have f0 := hb1.cell (i := 0) (v := .int .i64 R) rfl; have f1 := hb1.cell (i := 1) (v := .int .i64 C) rfl; have f2 := hb1.cell (i := 2) (v := .slice (some ⟨b, o, none⟩) xs.length k) rfl; have fl := hb1.lt)
        | (go_at_call 78; (with_reducible refine (hbd.out _ (HX.out.ext (hx0.trans hx1)) (HT.out.ext (hx0.trans hx1))).mono ?_); rintro e w2 ⟨rfl, hx2⟩))
      go_ret2
      exact ⟨rfl, (hx0.trans hx1).trans hx2⟩
    · rw [if_neg hs]
      have hd : (20000 : Int) < J.size := by omega
      go_enter Tryd.func29, Tryd.ntmps29
      go_wp2_with (first
        | (go_at_call 77; (with_reducible refine (hjc.out _ (HX.out.ext hx0)).mono ?_); rintro e w1 ⟨rfl, hx1⟩; have hb1 := hb.ext hx1; have f0 := hb1.cell (i := 0) (v := .int .i64 R) rfl; have f1 := hb1.cell (i := 1) (v := .int .i64 C) rfl; have f2 := hb1.cell (i := 2) (v := .slice (some ⟨b, o, none⟩) xs.length k) rfl; have fl := hb1.lt)
        | (go_at_call 78; (with_reducible refine (hbd.out _ (HX.out.ext (hx0.trans hx1)) (HT.out.ext (hx0.trans hx1))).mono ?_); rintro e w2 ⟨rfl, hx2⟩))
      go_ret2
      exact ⟨rfl, (hx0.trans hx1).trans hx2⟩
  · have hjo : joV r c xs = (ByteArray.empty, jcV r c xs) := if_neg h0
    rw [hjo]
    generalize jcV r c xs = K at *
    have h0b : (K != 0) = true := by simpa using h0
    go_enter Tryd.func29, Tryd.ntmps29
    go_wp2_with (go_at_call 77; (with_reducible refine (hjc.out _ (HX.out.ext hx0)).mono ?_); rintro e w1 ⟨rfl, hx1⟩)
    go_ret2
    exact ⟨rfl, hx0.trans hx1⟩
end Go.Proofs.YthpnkcamjcohgaaDoor
