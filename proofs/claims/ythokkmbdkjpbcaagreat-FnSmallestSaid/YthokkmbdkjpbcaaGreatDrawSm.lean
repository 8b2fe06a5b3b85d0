
/- Drawn families, levels and inputs of SmallestSize. -/
import Derived.Test.YthokkmbdkjpbcaaGreatDrawFam
namespace Go.Proofs.YthokkmbdkjpbcaaGreat
set_option linter.unusedVariables false
set_option linter.unusedSimpArgs false
open Go.RowKit

theorem OwnInts.farO {B g : Nat} {w w' : World} {q : Option Addr} {xs : List Int} (h : OwnInts B w q xs) (hb : But g w w') (hne : ∀ b o, 0 < xs.length → q = some ⟨b, o, none⟩ → b ≠ g) : OwnInts B w' q xs := fun i hi => by
  obtain ⟨b', o', h1, h2, h3, h4, h5⟩ := h i hi
  obtain ⟨hc, hf, hk, _⟩ := bucell hb
  have := hne b' o' (by omega) h1
  exact ⟨b', o', h1, h2, hk _ h3, by rw [hc _ _ h3 this]; exact h4, by rw [hf _ _ h3 this]; exact h5⟩
theorem FamV.ok.mono {B B' : Nat} {w : World} {f : FamV} (h : f.ok B w) (hB : B' ≤ B) : f.ok B' w := by
  obtain ⟨h1, h2, h3, h5, h6⟩ := h
  exact ⟨h1, h2, h3, h5.mono hB, h6.mono hB⟩
def FamV.val (f : FamV) : Value := vFam f.nm f.K f.p f.k f.q f.ps f.ss.length f.cs f.co f.pl f.ls.length f.cl
theorem famAt.ext {w w' : World} {g o : Nat} {f : FamV} (h : famAt w g o f) (hb : Ext w w') (hg : g < w.heap.size) : famAt w' g o f := by
  obtain ⟨hc, _⟩ := ecell hb
  obtain ⟨h0, h1, h2, h3, h4, h5, h6, h7⟩ := h
  exact ⟨by rw [hc _ _ hg]; exact h0, by rw [hc _ _ hg]; exact h1, by rw [hc _ _ hg]; exact h2, by rw [hc _ _ hg]; exact h3, by rw [hc _ _ hg]; exact h4, by rw [hc _ _ hg]; exact h5, by rw [hc _ _ hg]; exact h6, by rw [hc _ _ hg]; exact h7⟩
theorem famAt.but {w w' : World} {g o x : Nat} {f : FamV} (h : famAt w g o f) (hb : But x w w') (hg : g < w.heap.size) (hne : g ≠ x) : famAt w' g o f := by
  obtain ⟨hc, _⟩ := bucell hb
  obtain ⟨h0, h1, h2, h3, h4, h5, h6, h7⟩ := h
  exact ⟨by rw [hc _ _ hg hne]; exact h0, by rw [hc _ _ hg hne]; exact h1, by rw [hc _ _ hg hne]; exact h2, by rw [hc _ _ hg hne]; exact h3, by rw [hc _ _ hg hne]; exact h4, by rw [hc _ _ hg hne]; exact h5, by rw [hc _ _ hg hne]; exact h6, by rw [hc _ _ hg hne]; exact h7⟩
/-- A family has been drawn. -/
def FaR (n0 g : Nat) (w : World) (e : Ending) (w' : World) : Prop := ∃ f : FamV, e = .returned f.val ∧ f.ok w.heap.size w' ∧ Src n0 w' g ∧ But g w w'
abbrev fam0 : Array Value := #[.string ⟨#[]⟩, .int .i64 0, .int .i64 0, .int .i64 0, .int .i64 0, .slice none 0 0, .int .i64 0, .slice none 0 0]
set_option maxHeartbeats 1600000 in
set_option maxRecDepth 100000 in
theorem l13Draw_c (n0 g : Nat) (w : World) (h : Src n0 w g) (hn0 : n0 ≤ w.heap.size) :
    Calls Tryz.prog 27 #[.pointer (some ⟨g, 0, none⟩)] w fun e w' => FaR n0 g w e w' := by
  have hg : g < n0 := h.1
  have HS := Lib.hid h; clear h
  have hb := Blk.new w fam0 28
  have hr0 : But g w (w.alloc (.cells fam0 28)) := But.of ((Ext.refl w).alloc _)
  have hs0 := HS.out.ext ((Ext.refl w).alloc (.cells fam0 28))
  go_enter Tryz.func27, Tryz.ntmps27
  go_wp2_with (go_at_call 57; (with_reducible refine (Library_c _).mono ?_); rintro e w1 ⟨gl, fa, fb, fc, fd, fe, rfl, hgl0, hgl1, aa, ab, ac, ad, ae, ka, kb, kc, kd, ke, hx1⟩)
  have hs1 := hs0.ext hx1
  simp only [World.size_alloc] at hgl0 ka kb kc kd ke
  have hz1 := hx1.below.size
  simp only [World.size_alloc] at hz1
  have hb1 := hb.ext hx1
  have hr1 := hr0.trans (But.of hx1)
  clear hb hr0 hs0 hx1
  refine (Next_c n0 g 5 _ hs1 (by omega)).mono ?_
  rintro e w2 ⟨x, rfl, hx0, hx5, -, hs2, hb2⟩
  replace hx5 := hx5 (by omega)
  have hz2 := hb2.size
  have hgg : gl ≠ g := by omega
  obtain ⟨j, f, hj, hf, kf⟩ : ∃ (j : Nat) (f : FamV), x = j ∧ famAt w1 gl (j * 8) f ∧ f.ok (w.heap.size + 1) w1 := by
    have : x = 0 ∨ x = 1 ∨ x = 2 ∨ x = 3 ∨ x = 4 := by omega
    rcases this with rfl | rfl | rfl | rfl | rfl
    · exact ⟨0, fa, rfl, aa, ka⟩
    · exact ⟨1, fb, rfl, ab, kb⟩
    · exact ⟨2, fc, rfl, ac, kc⟩
    · exact ⟨3, fd, rfl, ad, kd⟩
    · exact ⟨4, fe, rfl, ae, ke⟩
  clear aa ab ac ad ae ka kb kc kd ke
  subst hj
  have hj5 : (j : Int) < 5 := hx5
  obtain ⟨c0, c1, c2, c3, c4, c5, c6, c7⟩ := hf.but hb2 hgl1 hgg
  have gL : gl < w2.heap.size := by omega
  have hbr := hb1.but hb2 (by omega)
  have hr2 := hr1.trans hb2
  have kf2 := kf.but hb2 (by omega)
  clear hb1 hb2 hr1 kf hf hs1 hx5
  have r0 := hbr.cell (i := 0) (v := .string ⟨#[]⟩) rfl; have r1 := hbr.cell (i := 1) (v := .int .i64 0) rfl; have r2 := hbr.cell (i := 2) (v := .int .i64 0) rfl; have r3 := hbr.cell (i := 3) (v := .int .i64 0) rfl; have r4 := hbr.cell (i := 4) (v := .int .i64 0) rfl; have r5 := hbr.cell (i := 5) (v := .slice none 0 0) rfl; have r6 := hbr.cell (i := 6) (v := .int .i64 0) rfl; have r7 := hbr.cell (i := 7) (v := .slice none 0 0) rfl; have rl := hbr.lt; have rf := hbr.free
  have KF := Lib.hid kf2; clear kf2
  obtain ⟨nm, K, p, k, q, ps, cs, ss, co, pl, cl, ls⟩ := f
  simp only at c0 c1 c2 c3 c4 c5 c6 c7
  go_wp2_with fail
  have hF := hbr.fam (.string nm) (.int .i64 K) (.int .i64 p) (.int .i64 k) (.int .i64 q) (.slice ps ss.length cs) (.int .i64 co) (.slice pl ls.length cl)
  have hB9 := But.fam w2 w.heap.size (.string nm) (.int .i64 K) (.int .i64 p) (.int .i64 k) (.int .i64 q) (.slice ps ss.length cs) (.int .i64 co) (.slice pl ls.length cl)
  have d0 := hF.cell (i := 0) (v := .string nm) rfl; have d1 := hF.cell (i := 1) (v := .int .i64 K) rfl; have d2 := hF.cell (i := 2) (v := .int .i64 p) rfl; have d3 := hF.cell (i := 3) (v := .int .i64 k) rfl; have d4 := hF.cell (i := 4) (v := .int .i64 q) rfl; have d5 := hF.cell (i := 5) (v := .slice ps ss.length cs) rfl; have d6 := hF.cell (i := 6) (v := .int .i64 co) rfl; have d7 := hF.cell (i := 7) (v := .slice pl ls.length cl) rfl
  have kf9 := KF.out.but hB9 (by omega)
  have hlow : Below w.heap.size w2 (setFam w2 w.heap.size (.string nm) (.int .i64 K) (.int .i64 p) (.int .i64 k) (.int .i64 q) (.slice ps ss.length cs) (.int .i64 co) (.slice pl ls.length cl)) := by
    unfold setFam
    exact (((((((((Below.refl _ _).setCell (p := ⟨w.heap.size, 0, none⟩) (Nat.le_refl _) _).setCell (p := ⟨w.heap.size, 1, none⟩) (Nat.le_refl _) _).setCell (p := ⟨w.heap.size, 2, none⟩) (Nat.le_refl _) _).setCell (p := ⟨w.heap.size, 3, none⟩) (Nat.le_refl _) _).setCell (p := ⟨w.heap.size, 4, none⟩) (Nat.le_refl _) _).setCell (p := ⟨w.heap.size, 5, none⟩) (Nat.le_refl _) _).setCell (p := ⟨w.heap.size, 6, none⟩) (Nat.le_refl _) _).setCell (p := ⟨w.heap.size, 7, none⟩) (Nat.le_refl _) _)
  unfold setFam at d0 d1 d2 d3 d4 d5 d6 d7 kf9 hlow
  exact bodyPost_ret (v := vFam nm K p k q ps ss.length cs co pl ls.length cl) (by simp [results, Tryz.results27, go_sem, d0, d1, d2, d3, d4, d5, d6, d7]) rfl ⟨⟨nm, K, p, k, q, ps, cs, ss, co, pl, cl, ls⟩, rfl, kf9.mono (by omega), hs2.low hlow hn0, hr2.below hlow (Nat.le_refl _)⟩
theorem triA (a b c : Int) (j : Nat) (hj : j < 3) : ∃ v : Int, (#[.int .i64 a, .int .i64 b, .int .i64 c] : Array Value)[j]? = some (.int .i64 v) := by
  match j, hj with
  | 0, _ => exact ⟨_, rfl⟩
  | 1, _ => exact ⟨_, rfl⟩
  | 2, _ => exact ⟨_, rfl⟩
set_option maxHeartbeats 3200000 in
set_option maxRecDepth 100000 in
theorem l13DrawAny_c (n0 g : Nat) (w : World) (h : Src n0 w g) (hn0 : n0 ≤ w.heap.size) :
    Calls Tryz.prog 11 #[.pointer (some ⟨g, 0, none⟩)] w fun e w' => FaR n0 g w e w' := by
  have hg : g < n0 := h.1
  have HS := Lib.hid h; clear h
  have hb := Blk.new w fam0 28
  have hr0 : But g w (w.alloc (.cells fam0 28)) := But.of ((Ext.refl w).alloc _)
  go_enter Tryz.func11, Tryz.ntmps11
  go_wp2_with fail
  refine (l13Draw_c n0 g _ (HS.out.ext ((Ext.refl w).alloc (.cells fam0 28))) (by simp; omega)).mono ?_
  rintro e w1 ⟨⟨nm, kd, p, k, q, ps, cs, ss, co, pl, cl, ls⟩, rfl, ⟨hnm, hsl, hll, k5, k6⟩, hs1, hb1⟩
  simp only [World.size_alloc] at k5 k6
  simp only at hnm hsl hll k5 k6
  simp only [FamV.val]
  have hz1 := hb1.size
  simp only [World.size_alloc] at hz1
  have hbr1 := (hb.but hb1 (by omega)).alloc (.cells #[.string nm, .int .i64 kd, .int .i64 p, .int .i64 k, .int .i64 q, .slice ps ss.length cs, .int .i64 co, .slice pl ls.length cl] 28)
  have hbx1 := Blk.new w1 #[.string nm, .int .i64 kd, .int .i64 p, .int .i64 k, .int .i64 q, .slice ps ss.length cs, .int .i64 co, .slice pl ls.length cl] 28
  have hr1 := (hr0.trans hb1).trans (But.of ((Ext.refl _).alloc (.cells #[.string nm, .int .i64 kd, .int .i64 p, .int .i64 k, .int .i64 q, .slice ps ss.length cs, .int .i64 co, .slice pl ls.length cl] 28)))
  have hs1' := hs1.ext ((Ext.refl _).alloc (.cells #[.string nm, .int .i64 kd, .int .i64 p, .int .i64 k, .int .i64 q, .slice ps ss.length cs, .int .i64 co, .slice pl ls.length cl] 28))
  have hx1 : w1.heap.size < (w1.alloc (.cells #[.string nm, .int .i64 kd, .int .i64 p, .int .i64 k, .int .i64 q, .slice ps ss.length cs, .int .i64 co, .slice pl ls.length cl] 28)).heap.size := by simp
  have hnp : ∀ b o, 0 < ss.length → ps = some ⟨b, o, none⟩ → b ≠ w1.heap.size := fun b o hn e => by have := k5.lt0 (fun h => by rw [h] at hn; exact absurd hn (by simp)) e; omega
  have hnl : ∀ b o, 0 < ls.length → pl = some ⟨b, o, none⟩ → b ≠ w1.heap.size := fun b o hn e => by have := k6.lt0 (fun h => by rw [h] at hn; exact absurd hn (by simp)) e; omega
  replace k5 := k5.ext ((Ext.refl _).alloc (.cells #[.string nm, .int .i64 kd, .int .i64 p, .int .i64 k, .int .i64 q, .slice ps ss.length cs, .int .i64 co, .slice pl ls.length cl] 28))
  replace k6 := k6.ext ((Ext.refl _).alloc (.cells #[.string nm, .int .i64 kd, .int .i64 p, .int .i64 k, .int .i64 q, .slice ps ss.length cs, .int .i64 co, .slice pl ls.length cl] 28))
  clear hs1 hb1 hb hr0
  go_wp2_with fail
  generalize w1.alloc (.cells #[.string nm, .int .i64 kd, .int .i64 p, .int .i64 k, .int .i64 q, .slice ps ss.length cs, .int .i64 co, .slice pl ls.length cl] 28) = w2 at *
  generalize w1.heap.size = x at *
  refine (Next_c n0 g 24 _ hs1' (by omega)).mono ?_
  rintro e w3 ⟨y, rfl, hy0, hy1, -, hs3, hb3⟩
  replace hy1 := hy1 (by omega)
  have hz3 := hb3.size
  have hbr3 := hbr1.but hb3 (by omega)
  have hbx3 := hbx1.but hb3 (by omega)
  have hr3 := hr1.trans hb3
  replace k5 := Lib.hid (k5.but2 hb3 (by omega))
  replace k6 := Lib.hid (k6.but2 hb3 (by omega))
  have hnp := Lib.hid hnp; have hnl := Lib.hid hnl
  have hxz : x < w3.heap.size := by omega
  clear hs1' hb3 hr1 hbr1 hbx1 hx1
  replace hs3 := Lib.hid hs3
  replace hr3 := Lib.hid hr3
  have hne : ¬ x = w.heap.size := by omega
  have hne2 : ¬ w.heap.size = x := by omega
  have hxw : w.heap.size ≤ x := by omega
  have hwz : w.heap.size < w3.heap.size := by omega
  have hy : y = 0 ∨ y = 1 ∨ y = 2 ∨ y = 3 ∨ y = 4 ∨ y = 5 ∨ y = 6 ∨ 7 ≤ y := by omega
  rcases hy with rfl | rfl | rfl | rfl | rfl | rfl | rfl | hy
  · go_wp2_with fail
    refine (Next_c n0 g 4 _ (hs3.out.ext ((Ext.refl w3).alloc (.cells #[.string ⟨#[]⟩, .string ⟨#[110, 105, 110, 101]⟩, .string ⟨#[110, 105, 110, 101, 99, 104, 97, 114, 115]⟩, .string ⟨#[84, 105, 108, 101]⟩] 9))) (by first | omega | (simp; omega))).mono ?_
    rintro e w4 ⟨z, rfl, hz0, hz9, -, hs4, hb4⟩
    replace hz9 := hz9 (by omega)
    obtain ⟨j, rfl⟩ : ∃ j : Nat, z = j := ⟨z.toNat, by omega⟩
    have hj9 : (j : Int) < 4 := hz9
    have hz4 := hb4.size
    simp only [World.size_alloc] at hz4
    have hbx4 := (hbx3.ext ((Ext.refl w3).alloc (.cells #[.string ⟨#[]⟩, .string ⟨#[110, 105, 110, 101]⟩, .string ⟨#[110, 105, 110, 101, 99, 104, 97, 114, 115]⟩, .string ⟨#[84, 105, 108, 101]⟩] 9))).but hb4 (by omega)
    have hbr4 := (hbr3.ext ((Ext.refl w3).alloc (.cells #[.string ⟨#[]⟩, .string ⟨#[110, 105, 110, 101]⟩, .string ⟨#[110, 105, 110, 101, 99, 104, 97, 114, 115]⟩, .string ⟨#[84, 105, 108, 101]⟩] 9))).but hb4 (by omega)
    have hr4 := (hr3.out.trans (But.of ((Ext.refl w3).alloc (.cells #[.string ⟨#[]⟩, .string ⟨#[110, 105, 110, 101]⟩, .string ⟨#[110, 105, 110, 101, 99, 104, 97, 114, 115]⟩, .string ⟨#[84, 105, 108, 101]⟩] 9)))).trans hb4
    have o5 := Lib.hid ((k5.out.ext ((Ext.refl w3).alloc (.cells #[.string ⟨#[]⟩, .string ⟨#[110, 105, 110, 101]⟩, .string ⟨#[110, 105, 110, 101, 99, 104, 97, 114, 115]⟩, .string ⟨#[84, 105, 108, 101]⟩] 9))).but2 hb4 (by omega))
    have o6 := Lib.hid ((k6.out.ext ((Ext.refl w3).alloc (.cells #[.string ⟨#[]⟩, .string ⟨#[110, 105, 110, 101]⟩, .string ⟨#[110, 105, 110, 101, 99, 104, 97, 114, 115]⟩, .string ⟨#[84, 105, 108, 101]⟩] 9))).but2 hb4 (by omega))
    have hsz := (Blk.new w3 #[.string ⟨#[]⟩, .string ⟨#[110, 105, 110, 101]⟩, .string ⟨#[110, 105, 110, 101, 99, 104, 97, 114, 115]⟩, .string ⟨#[84, 105, 108, 101]⟩] 9).but hb4 (by first | omega | (simp; omega))
    (try simp only [World.size_alloc] at hsz)
    obtain ⟨v, hv, hvb⟩ : ∃ v : ByteArray, (#[.string ⟨#[]⟩, .string ⟨#[110, 105, 110, 101]⟩, .string ⟨#[110, 105, 110, 101, 99, 104, 97, 114, 115]⟩, .string ⟨#[84, 105, 108, 101]⟩] : Array Value)[j]? = some (.string v) ∧ v.size ≤ 100 := by
      have : j = 0 ∨ j = 1 ∨ j = 2 ∨ j = 3 := by omega
      rcases this with rfl | rfl | rfl | rfl
      all_goals exact ⟨_, rfl, of_decide_eq_true rfl⟩
    have s0 := hsz.cell hv
    have sl := hsz.lt
    replace hs4 := Lib.hid hs4
    replace hr4 := Lib.hid hr4
    clear hb4 hv hsz hz9 hz0 hbr3 hbx3 
    have x0 := hbx4.cell (i := 0) (v := .string nm) rfl; have x1 := hbx4.cell (i := 1) (v := .int .i64 kd) rfl; have x2 := hbx4.cell (i := 2) (v := .int .i64 p) rfl; have x3 := hbx4.cell (i := 3) (v := .int .i64 k) rfl; have x4 := hbx4.cell (i := 4) (v := .int .i64 q) rfl; have x5 := hbx4.cell (i := 5) (v := .slice ps ss.length cs) rfl; have x6 := hbx4.cell (i := 6) (v := .int .i64 co) rfl; have x7 := hbx4.cell (i := 7) (v := .slice pl ls.length cl) rfl; have xL := hbx4.lt; have xF := hbx4.free
    have r0 := hbr4.cell (i := 0) (v := .string ⟨#[]⟩) rfl; have r1 := hbr4.cell (i := 1) (v := .int .i64 0) rfl; have r2 := hbr4.cell (i := 2) (v := .int .i64 0) rfl; have r3 := hbr4.cell (i := 3) (v := .int .i64 0) rfl; have r4 := hbr4.cell (i := 4) (v := .int .i64 0) rfl; have r5 := hbr4.cell (i := 5) (v := .slice none 0 0) rfl; have r6 := hbr4.cell (i := 6) (v := .int .i64 0) rfl; have r7 := hbr4.cell (i := 7) (v := .slice none 0 0) rfl; have rL := hbr4.lt; have rF := hbr4.free
    go_wp2_with fail
    have hbF : Blk (w4.setCell ⟨x, 0, none⟩ (.string v)) w.heap.size fam0 28 := (hbr4.far hne2 (.string v) (i := 0))
    have hbT : But x w4 (w4.setCell ⟨x, 0, none⟩ (.string v)) := (But.refl x w4).setG (.string v) (i := 0)
    have hF := hbF.fam (.string v) (.int .i64 kd) (.int .i64 p) (.int .i64 k) (.int .i64 q) (.slice ps ss.length cs) (.int .i64 co) (.slice pl ls.length cl)
    have hB9 := But.fam (w4.setCell ⟨x, 0, none⟩ (.string v)) w.heap.size (.string v) (.int .i64 kd) (.int .i64 p) (.int .i64 k) (.int .i64 q) (.slice ps ss.length cs) (.int .i64 co) (.slice pl ls.length cl)
    have d0 := hF.cell (i := 0) (v := .string v) rfl; have d1 := hF.cell (i := 1) (v := .int .i64 kd) rfl; have d2 := hF.cell (i := 2) (v := .int .i64 p) rfl; have d3 := hF.cell (i := 3) (v := .int .i64 k) rfl; have d4 := hF.cell (i := 4) (v := .int .i64 q) rfl; have d5 := hF.cell (i := 5) (v := .slice ps ss.length cs) rfl; have d6 := hF.cell (i := 6) (v := .int .i64 co) rfl; have d7 := hF.cell (i := 7) (v := .slice pl ls.length cl) rfl
    have z5 := (OwnInts.farO o5.out hbT hnp.out).but2 hB9 (by omega)
    have z6 := (OwnInts.farO o6.out hbT hnl.out).but2 hB9 (by omega)
    have hlow : Below w.heap.size w4 (setFam (w4.setCell ⟨x, 0, none⟩ (.string v)) w.heap.size (.string v) (.int .i64 kd) (.int .i64 p) (.int .i64 k) (.int .i64 q) (.slice ps ss.length cs) (.int .i64 co) (.slice pl ls.length cl)) := by
      unfold setFam
      exact ((((((((((Below.refl _ _).setCell (p := ⟨x, 0, none⟩) hxw (.string v)).setCell (p := ⟨w.heap.size, 0, none⟩) (Nat.le_refl _) _).setCell (p := ⟨w.heap.size, 1, none⟩) (Nat.le_refl _) _).setCell (p := ⟨w.heap.size, 2, none⟩) (Nat.le_refl _) _).setCell (p := ⟨w.heap.size, 3, none⟩) (Nat.le_refl _) _).setCell (p := ⟨w.heap.size, 4, none⟩) (Nat.le_refl _) _).setCell (p := ⟨w.heap.size, 5, none⟩) (Nat.le_refl _) _).setCell (p := ⟨w.heap.size, 6, none⟩) (Nat.le_refl _) _).setCell (p := ⟨w.heap.size, 7, none⟩) (Nat.le_refl _) _)
    unfold setFam at d0 d1 d2 d3 d4 d5 d6 d7 z5 z6 hlow
    exact bodyPost_ret (v := .agg #[.string v, .int .i64 kd, .int .i64 p, .int .i64 k, .int .i64 q, .slice ps ss.length cs, .int .i64 co, .slice pl ls.length cl]) (by simp [results, Tryz.results11, go_sem, d0, d1, d2, d3, d4, d5, d6, d7]) rfl ⟨⟨v, kd, p, k, q, ps, cs, ss, co, pl, cl, ls⟩, rfl, ⟨hvb, hsl, hll, z5.mono (by omega), z6.mono (by omega)⟩, hs4.out.low hlow hn0, hr4.out.below hlow (Nat.le_refl _)⟩
  · skip
    have x0 := hbx3.cell (i := 0) (v := .string nm) rfl; have x1 := hbx3.cell (i := 1) (v := .int .i64 kd) rfl; have x2 := hbx3.cell (i := 2) (v := .int .i64 p) rfl; have x3 := hbx3.cell (i := 3) (v := .int .i64 k) rfl; have x4 := hbx3.cell (i := 4) (v := .int .i64 q) rfl; have x5 := hbx3.cell (i := 5) (v := .slice ps ss.length cs) rfl; have x6 := hbx3.cell (i := 6) (v := .int .i64 co) rfl; have x7 := hbx3.cell (i := 7) (v := .slice pl ls.length cl) rfl; have xL := hbx3.lt; have xF := hbx3.free
    go_wp2_with fail
    refine wp_region_c3 (fun w' => True) (.st 0 (.st 4 (.two 1 (.st 2 (.two 3 (.one 5 (.st 6 (.one 7 (.st 8 (.one 9 .done))))) 5 (.one 3 (.st 6 (.one 7 (.st 8 (.one 9 .done))))))) 5 (.one 1 (.st 2 (.one 3 (.st 6 (.one 7 (.st 8 (.one 9 .done)))))))))) (by kernel_rfl) (by kernel_rfl) (by decide) (by kernel_rfl) ?_ ?_
    · exact trivial
    refine c3_intro fun ops eo => ?_
    have ho0 := canon_at eo 0 rfl
    have ho1 := canon_at eo 1 rfl
    have ho2 := canon_at eo 2 rfl
    have ho3 := canon_at eo 3 rfl
    have ho4 := canon_at eo 4 rfl
    have ho5 := canon_at eo 5 rfl
    have ho6 := canon_at eo 6 rfl
    have ho7 := canon_at eo 7 rfl
    have ho8 := canon_at eo 8 rfl
    have ho9 := canon_at eo 9 rfl
    clear eo
    all_goals (apply c3_st ho0 rfl; (intro w2 hS; first | (go_simp; first | done | rfl) | rfl | (skip; go_simp; first | done | rfl)); simp only [Act.put, List.setIfInBounds_toArray, List.set_cons_zero, List.set_cons_succ])
    all_goals clear ho0
    all_goals (apply c3_st ho4 rfl; (intro w2 hS; first | (go_simp; first | done | rfl) | rfl | (skip; go_simp; first | done | rfl)); simp only [Act.put, List.setIfInBounds_toArray, List.set_cons_zero, List.set_cons_succ])
    all_goals clear ho4
    all_goals
      refine c3_two ?_ ?_
      rotate_right 1
      focus
        all_goals first | (refine c3_op ho5 rfl (fun K hK => ?_); go_simp; ((go_at_call 28; (with_reducible refine (Next_c n0 g 3 _ (hs3.out.ext (by repeat (first | exact Ext.refl _ | assumption | refine Ext.drew ?_ | refine Ext.drewN ?_ _ | refine Ext.iter ?_ _ _ | refine Ext.alloc ?_ _ | refine Ext.setCell ?_ (by first | exact Nat.le_refl _ | (simp <;> omega)) _ | refine Ext.trans2 (by assumption) ?_))) (by first | omega | (simp; omega))).mono ?_); rintro e w4 ⟨zz, rfl, hz0, hz9, -, hs4, hb4⟩; replace hz9 := hz9 (by omega); obtain ⟨j, rfl⟩ : ∃ j : Nat, zz = j := ⟨zz.toNat, by omega⟩; have hj9 : (j : Int) < 3 := hz9; obtain ⟨v, hv⟩ := triA 0 3 (IntKind.i64.wrap (3 - kd)) j (by omega); have hbx4 : Blk w4 x #[.string nm, .int .i64 kd, .int .i64 p, .int .i64 k, .int .i64 q, .slice ps ss.length cs, .int .i64 co, .slice pl ls.length cl] 28 := Blk.but (Blk.ext hbx3 (by repeat (first | exact Ext.refl _ | assumption | refine Ext.drew ?_ | refine Ext.drewN ?_ _ | refine Ext.iter ?_ _ _ | refine Ext.alloc ?_ _ | refine Ext.setCell ?_ (by first | exact Nat.le_refl _ | (simp <;> omega)) _ | refine Ext.trans2 (by assumption) ?_))) hb4 (by omega); have hbr4 : Blk w4 w.heap.size fam0 28 := Blk.but (Blk.ext hbr3 (by repeat (first | exact Ext.refl _ | assumption | refine Ext.drew ?_ | refine Ext.drewN ?_ _ | refine Ext.iter ?_ _ _ | refine Ext.alloc ?_ _ | refine Ext.setCell ?_ (by first | exact Nat.le_refl _ | (simp <;> omega)) _ | refine Ext.trans2 (by assumption) ?_))) hb4 (by omega); have hr4 : But g w w4 := But.trans (But.trans hr3.out (But.of (by repeat (first | exact Ext.refl _ | assumption | refine Ext.drew ?_ | refine Ext.drewN ?_ _ | refine Ext.iter ?_ _ _ | refine Ext.alloc ?_ _ | refine Ext.setCell ?_ (by first | exact Nat.le_refl _ | (simp <;> omega)) _ | refine Ext.trans2 (by assumption) ?_)))) hb4; have o5 : OwnInts (w.heap.size + 1) w4 ps ss := OwnInts.but2 (OwnInts.ext k5.out (by repeat (first | exact Ext.refl _ | assumption | refine Ext.drew ?_ | refine Ext.drewN ?_ _ | refine Ext.iter ?_ _ _ | refine Ext.alloc ?_ _ | refine Ext.setCell ?_ (by first | exact Nat.le_refl _ | (simp <;> omega)) _ | refine Ext.trans2 (by assumption) ?_))) hb4 (by omega); have o6 : OwnInts (w.heap.size + 1) w4 pl ls := OwnInts.but2 (OwnInts.ext k6.out (by repeat (first | exact Ext.refl _ | assumption | refine Ext.drew ?_ | refine Ext.drewN ?_ _ | refine Ext.iter ?_ _ _ | refine Ext.alloc ?_ _ | refine Ext.setCell ?_ (by first | exact Nat.le_refl _ | (simp <;> omega)) _ | refine Ext.trans2 (by assumption) ?_))) hb4 (by omega); clear x0 x1 x2 x3 x4 x5 x6 x7 xL xF; have x0 := hbx4.cell (i := 0) (v := .string nm) rfl; have x1 := hbx4.cell (i := 1) (v := .int .i64 kd) rfl; have x2 := hbx4.cell (i := 2) (v := .int .i64 p) rfl; have x3 := hbx4.cell (i := 3) (v := .int .i64 k) rfl; have x4 := hbx4.cell (i := 4) (v := .int .i64 q) rfl; have x5 := hbx4.cell (i := 5) (v := .slice ps ss.length cs) rfl; have x6 := hbx4.cell (i := 6) (v := .int .i64 co) rfl; have x7 := hbx4.cell (i := 7) (v := .slice pl ls.length cl) rfl; have xL := hbx4.lt; have xF := hbx4.free; have hv4 := hb4.size; simp only [World.size_alloc, World.size_drew] at hv4; have sC := (Blk.new w4 #[.int .i64 0, .int .i64 3, .int .i64 (IntKind.i64.wrap (3 - kd))] 2).cell hv; try (have sA := (Blk.but (Blk.drew (Blk.new w3 #[.int .i64 0, .int .i64 3, .int .i64 (IntKind.i64.wrap (3 - kd))] 2)) hb4 (by show w3.heap.size ≠ g; omega)).cell hv; have sB := (Blk.but (Blk.drew (Blk.new w3 #[.int .i64 0, .int .i64 3, .int .i64 (IntKind.i64.wrap (3 - kd))] 2)) hb4 (by show w3.heap.size ≠ g; omega)).lt))); all_goals ((with_reducible refine hK _ _ ?_); refine ⟨trivial, ?_⟩; clear hK K; go_simp))
        all_goals clear ho5
        all_goals refine c3_one ?_
        all_goals first | (refine c3_op ho1 rfl (fun K hK => ?_); go_simp; (skip); all_goals ((with_reducible refine hK _ _ ?_); refine ⟨trivial, ?_⟩; clear hK K; go_simp))
        all_goals clear ho1
        all_goals (apply c3_st ho2 rfl; (intro w2 hS; first | (go_simp; first | done | rfl) | rfl | (skip; go_simp; first | done | rfl)); simp only [Act.put, List.setIfInBounds_toArray, List.set_cons_zero, List.set_cons_succ])
        all_goals clear ho2
        all_goals refine c3_one ?_
        all_goals first | (refine c3_op ho3 rfl (fun K hK => ?_); go_simp; (skip); all_goals ((with_reducible refine hK _ _ ?_); refine ⟨trivial, ?_⟩; clear hK K; go_simp))
        all_goals clear ho3
        all_goals (apply c3_st ho6 rfl; (intro w2 hS; first | (go_simp; first | done | rfl) | rfl | (skip; go_simp; first | done | rfl)); simp only [Act.put, List.setIfInBounds_toArray, List.set_cons_zero, List.set_cons_succ])
        all_goals clear ho6
        all_goals refine c3_one ?_
        all_goals first | (refine c3_op ho7 rfl (fun K hK => ?_); go_simp; (skip); all_goals ((with_reducible refine hK _ _ ?_); refine ⟨trivial, ?_⟩; clear hK K; go_simp))
        all_goals clear ho7
        all_goals (apply c3_st ho8 rfl; (intro w2 hS; first | (go_simp; first | done | rfl) | rfl | (skip; go_simp; first | done | rfl)); simp only [Act.put, List.setIfInBounds_toArray, List.set_cons_zero, List.set_cons_succ])
        all_goals clear ho8
        all_goals refine c3_one ?_
        all_goals first | (refine c3_op ho9 rfl (fun K hK => ?_); go_simp; (skip); all_goals ((with_reducible refine hK _ _ ?_); refine ⟨trivial, ?_⟩; clear hK K; go_simp))
        all_goals clear ho9
        all_goals refine c3_done (NoPanic.normal ?_)
      rotate_right 1
      focus
        all_goals first | (refine c3_op ho1 rfl (fun K hK => ?_); go_simp; (skip); all_goals ((with_reducible refine hK _ _ ?_); refine ⟨trivial, ?_⟩; clear hK K; go_simp))
        all_goals clear ho1
        all_goals (apply c3_st ho2 rfl; (intro w2 hS; first | (go_simp; first | done | rfl) | rfl | (skip; go_simp; first | done | rfl)); simp only [Act.put, List.setIfInBounds_toArray, List.set_cons_zero, List.set_cons_succ])
        all_goals clear ho2
        all_goals
          refine c3_two ?_ ?_
          rotate_right 1
          focus
            all_goals first | (refine c3_op ho5 rfl (fun K hK => ?_); go_simp; ((go_at_call 28; (with_reducible refine (Next_c n0 g 3 _ (hs3.out.ext (by repeat (first | exact Ext.refl _ | assumption | refine Ext.drew ?_ | refine Ext.drewN ?_ _ | refine Ext.iter ?_ _ _ | refine Ext.alloc ?_ _ | refine Ext.setCell ?_ (by first | exact Nat.le_refl _ | (simp <;> omega)) _ | refine Ext.trans2 (by assumption) ?_))) (by first | omega | (simp; omega))).mono ?_); rintro e w4 ⟨zz, rfl, hz0, hz9, -, hs4, hb4⟩; replace hz9 := hz9 (by omega); obtain ⟨j, rfl⟩ : ∃ j : Nat, zz = j := ⟨zz.toNat, by omega⟩; have hj9 : (j : Int) < 3 := hz9; obtain ⟨v, hv⟩ := triA 0 3 (IntKind.i64.wrap (3 - kd)) j (by omega); have hbx4 : Blk w4 x #[.string nm, .int .i64 kd, .int .i64 p, .int .i64 k, .int .i64 q, .slice ps ss.length cs, .int .i64 co, .slice pl ls.length cl] 28 := Blk.but (Blk.ext hbx3 (by repeat (first | exact Ext.refl _ | assumption | refine Ext.drew ?_ | refine Ext.drewN ?_ _ | refine Ext.iter ?_ _ _ | refine Ext.alloc ?_ _ | refine Ext.setCell ?_ (by first | exact Nat.le_refl _ | (simp <;> omega)) _ | refine Ext.trans2 (by assumption) ?_))) hb4 (by omega); have hbr4 : Blk w4 w.heap.size fam0 28 := Blk.but (Blk.ext hbr3 (by repeat (first | exact Ext.refl _ | assumption | refine Ext.drew ?_ | refine Ext.drewN ?_ _ | refine Ext.iter ?_ _ _ | refine Ext.alloc ?_ _ | refine Ext.setCell ?_ (by first | exact Nat.le_refl _ | (simp <;> omega)) _ | refine Ext.trans2 (by assumption) ?_))) hb4 (by omega); have hr4 : But g w w4 := But.trans (But.trans hr3.out (But.of (by repeat (first | exact Ext.refl _ | assumption | refine Ext.drew ?_ | refine Ext.drewN ?_ _ | refine Ext.iter ?_ _ _ | refine Ext.alloc ?_ _ | refine Ext.setCell ?_ (by first | exact Nat.le_refl _ | (simp <;> omega)) _ | refine Ext.trans2 (by assumption) ?_)))) hb4; have o5 : OwnInts (w.heap.size + 1) w4 ps ss := OwnInts.but2 (OwnInts.ext k5.out (by repeat (first | exact Ext.refl _ | assumption | refine Ext.drew ?_ | refine Ext.drewN ?_ _ | refine Ext.iter ?_ _ _ | refine Ext.alloc ?_ _ | refine Ext.setCell ?_ (by first | exact Nat.le_refl _ | (simp <;> omega)) _ | refine Ext.trans2 (by assumption) ?_))) hb4 (by omega); have o6 : OwnInts (w.heap.size + 1) w4 pl ls := OwnInts.but2 (OwnInts.ext k6.out (by repeat (first | exact Ext.refl _ | assumption | refine Ext.drew ?_ | refine Ext.drewN ?_ _ | refine Ext.iter ?_ _ _ | refine Ext.alloc ?_ _ | refine Ext.setCell ?_ (by first | exact Nat.le_refl _ | (simp <;> omega)) _ | refine Ext.trans2 (by assumption) ?_))) hb4 (by omega); clear x0 x1 x2 x3 x4 x5 x6 x7 xL xF; have x0 := hbx4.cell (i := 0) (v := .string nm) rfl; have x1 := hbx4.cell (i := 1) (v := .int .i64 kd) rfl; have x2 := hbx4.cell (i := 2) (v := .int .i64 p) rfl; have x3 := hbx4.cell (i := 3) (v := .int .i64 k) rfl; have x4 := hbx4.cell (i := 4) (v := .int .i64 q) rfl; have x5 := hbx4.cell (i := 5) (v := .slice ps ss.length cs) rfl; have x6 := hbx4.cell (i := 6) (v := .int .i64 co) rfl; have x7 := hbx4.cell (i := 7) (v := .slice pl ls.length cl) rfl; have xL := hbx4.lt; have xF := hbx4.free; have hv4 := hb4.size; simp only [World.size_alloc, World.size_drew] at hv4; have sC := (Blk.new w4 #[.int .i64 0, .int .i64 3, .int .i64 (IntKind.i64.wrap (3 - kd))] 2).cell hv; try (have sA := (Blk.but (Blk.drew (Blk.new w3 #[.int .i64 0, .int .i64 3, .int .i64 (IntKind.i64.wrap (3 - kd))] 2)) hb4 (by show w3.heap.size ≠ g; omega)).cell hv; have sB := (Blk.but (Blk.drew (Blk.new w3 #[.int .i64 0, .int .i64 3, .int .i64 (IntKind.i64.wrap (3 - kd))] 2)) hb4 (by show w3.heap.size ≠ g; omega)).lt))); all_goals ((with_reducible refine hK _ _ ?_); refine ⟨trivial, ?_⟩; clear hK K; go_simp))
            all_goals clear ho5
            all_goals refine c3_one ?_
            all_goals first | (refine c3_op ho3 rfl (fun K hK => ?_); go_simp; (skip); all_goals ((with_reducible refine hK _ _ ?_); refine ⟨trivial, ?_⟩; clear hK K; go_simp))
            all_goals clear ho3
            all_goals (apply c3_st ho6 rfl; (intro w2 hS; first | (go_simp; first | done | rfl) | rfl | (skip; go_simp; first | done | rfl)); simp only [Act.put, List.setIfInBounds_toArray, List.set_cons_zero, List.set_cons_succ])
            all_goals clear ho6
            all_goals refine c3_one ?_
            all_goals first | (refine c3_op ho7 rfl (fun K hK => ?_); go_simp; (skip); all_goals ((with_reducible refine hK _ _ ?_); refine ⟨trivial, ?_⟩; clear hK K; go_simp))
            all_goals clear ho7
            all_goals (apply c3_st ho8 rfl; (intro w2 hS; first | (go_simp; first | done | rfl) | rfl | (skip; go_simp; first | done | rfl)); simp only [Act.put, List.setIfInBounds_toArray, List.set_cons_zero, List.set_cons_succ])
            all_goals clear ho8
            all_goals refine c3_one ?_
            all_goals first | (refine c3_op ho9 rfl (fun K hK => ?_); go_simp; (skip); all_goals ((with_reducible refine hK _ _ ?_); refine ⟨trivial, ?_⟩; clear hK K; go_simp))
            all_goals clear ho9
            all_goals refine c3_done (NoPanic.normal ?_)
          rotate_right 1
          focus
            all_goals first | (refine c3_op ho3 rfl (fun K hK => ?_); go_simp; (skip); all_goals ((with_reducible refine hK _ _ ?_); refine ⟨trivial, ?_⟩; clear hK K; go_simp))
            all_goals clear ho3
            all_goals refine c3_one ?_
            all_goals first | (refine c3_op ho5 rfl (fun K hK => ?_); go_simp; ((go_at_call 28; (with_reducible refine (Next_c n0 g 3 _ (hs3.out.ext (by repeat (first | exact Ext.refl _ | assumption | refine Ext.drew ?_ | refine Ext.drewN ?_ _ | refine Ext.iter ?_ _ _ | refine Ext.alloc ?_ _ | refine Ext.setCell ?_ (by first | exact Nat.le_refl _ | (simp <;> omega)) _ | refine Ext.trans2 (by assumption) ?_))) (by first | omega | (simp; omega))).mono ?_); rintro e w4 ⟨zz, rfl, hz0, hz9, -, hs4, hb4⟩; replace hz9 := hz9 (by omega); obtain ⟨j, rfl⟩ : ∃ j : Nat, zz = j := ⟨zz.toNat, by omega⟩; have hj9 : (j : Int) < 3 := hz9; obtain ⟨v, hv⟩ := triA 0 3 (IntKind.i64.wrap (3 - kd)) j (by omega); have hbx4 : Blk w4 x #[.string nm, .int .i64 kd, .int .i64 p, .int .i64 k, .int .i64 q, .slice ps ss.length cs, .int .i64 co, .slice pl ls.length cl] 28 := Blk.but (Blk.ext hbx3 (by repeat (first | exact Ext.refl _ | assumption | refine Ext.drew ?_ | refine Ext.drewN ?_ _ | refine Ext.iter ?_ _ _ | refine Ext.alloc ?_ _ | refine Ext.setCell ?_ (by first | exact Nat.le_refl _ | (simp <;> omega)) _ | refine Ext.trans2 (by assumption) ?_))) hb4 (by omega); have hbr4 : Blk w4 w.heap.size fam0 28 := Blk.but (Blk.ext hbr3 (by repeat (first | exact Ext.refl _ | assumption | refine Ext.drew ?_ | refine Ext.drewN ?_ _ | refine Ext.iter ?_ _ _ | refine Ext.alloc ?_ _ | refine Ext.setCell ?_ (by first | exact Nat.le_refl _ | (simp <;> omega)) _ | refine Ext.trans2 (by assumption) ?_))) hb4 (by omega); have hr4 : But g w w4 := But.trans (But.trans hr3.out (But.of (by repeat (first | exact Ext.refl _ | assumption | refine Ext.drew ?_ | refine Ext.drewN ?_ _ | refine Ext.iter ?_ _ _ | refine Ext.alloc ?_ _ | refine Ext.setCell ?_ (by first | exact Nat.le_refl _ | (simp <;> omega)) _ | refine Ext.trans2 (by assumption) ?_)))) hb4; have o5 : OwnInts (w.heap.size + 1) w4 ps ss := OwnInts.but2 (OwnInts.ext k5.out (by repeat (first | exact Ext.refl _ | assumption | refine Ext.drew ?_ | refine Ext.drewN ?_ _ | refine Ext.iter ?_ _ _ | refine Ext.alloc ?_ _ | refine Ext.setCell ?_ (by first | exact Nat.le_refl _ | (simp <;> omega)) _ | refine Ext.trans2 (by assumption) ?_))) hb4 (by omega); have o6 : OwnInts (w.heap.size + 1) w4 pl ls := OwnInts.but2 (OwnInts.ext k6.out (by repeat (first | exact Ext.refl _ | assumption | refine Ext.drew ?_ | refine Ext.drewN ?_ _ | refine Ext.iter ?_ _ _ | refine Ext.alloc ?_ _ | refine Ext.setCell ?_ (by first | exact Nat.le_refl _ | (simp <;> omega)) _ | refine Ext.trans2 (by assumption) ?_))) hb4 (by omega); clear x0 x1 x2 x3 x4 x5 x6 x7 xL xF; have x0 := hbx4.cell (i := 0) (v := .string nm) rfl; have x1 := hbx4.cell (i := 1) (v := .int .i64 kd) rfl; have x2 := hbx4.cell (i := 2) (v := .int .i64 p) rfl; have x3 := hbx4.cell (i := 3) (v := .int .i64 k) rfl; have x4 := hbx4.cell (i := 4) (v := .int .i64 q) rfl; have x5 := hbx4.cell (i := 5) (v := .slice ps ss.length cs) rfl; have x6 := hbx4.cell (i := 6) (v := .int .i64 co) rfl; have x7 := hbx4.cell (i := 7) (v := .slice pl ls.length cl) rfl; have xL := hbx4.lt; have xF := hbx4.free; have hv4 := hb4.size; simp only [World.size_alloc, World.size_drew] at hv4; have sC := (Blk.new w4 #[.int .i64 0, .int .i64 3, .int .i64 (IntKind.i64.wrap (3 - kd))] 2).cell hv; try (have sA := (Blk.but (Blk.drew (Blk.new w3 #[.int .i64 0, .int .i64 3, .int .i64 (IntKind.i64.wrap (3 - kd))] 2)) hb4 (by show w3.heap.size ≠ g; omega)).cell hv; have sB := (Blk.but (Blk.drew (Blk.new w3 #[.int .i64 0, .int .i64 3, .int .i64 (IntKind.i64.wrap (3 - kd))] 2)) hb4 (by show w3.heap.size ≠ g; omega)).lt))); all_goals ((with_reducible refine hK _ _ ?_); refine ⟨trivial, ?_⟩; clear hK K; go_simp))
            all_goals clear ho5
            all_goals (apply c3_st ho6 rfl; (intro w2 hS; first | (go_simp; first | done | rfl) | rfl | (skip; go_simp; first | done | rfl)); simp only [Act.put, List.setIfInBounds_toArray, List.set_cons_zero, List.set_cons_succ])
            all_goals clear ho6
            all_goals refine c3_one ?_
            all_goals first | (refine c3_op ho7 rfl (fun K hK => ?_); go_simp; (skip); all_goals ((with_reducible refine hK _ _ ?_); refine ⟨trivial, ?_⟩; clear hK K; go_simp))
            all_goals clear ho7
            all_goals (apply c3_st ho8 rfl; (intro w2 hS; first | (go_simp; first | done | rfl) | rfl | (skip; go_simp; first | done | rfl)); simp only [Act.put, List.setIfInBounds_toArray, List.set_cons_zero, List.set_cons_succ])
            all_goals clear ho8
            all_goals refine c3_one ?_
            all_goals first | (refine c3_op ho9 rfl (fun K hK => ?_); go_simp; (skip); all_goals ((with_reducible refine hK _ _ ?_); refine ⟨trivial, ?_⟩; clear hK K; go_simp))
            all_goals clear ho9
            all_goals refine c3_done (NoPanic.normal ?_)
    all_goals clear hv
    all_goals first
      | (have hsB := sB
         have hbx5 : Blk (w4.setCell ⟨x, 1, none⟩ (.int .i64 v)) x #[.string nm, .int .i64 v, .int .i64 p, .int .i64 k, .int .i64 q, .slice ps ss.length cs, .int .i64 co, .slice pl ls.length cl] 28 := (hbx4.set 1 (.int .i64 v))
         have hbr5 : Blk (w4.setCell ⟨x, 1, none⟩ (.int .i64 v)) w.heap.size fam0 28 := (hbr4.far hne2 (.int .i64 v) (i := 1))
         have hl5 : Below w.heap.size w4 (w4.setCell ⟨x, 1, none⟩ (.int .i64 v)) := (Below.refl _ _).setCell (p := ⟨x, 1, none⟩) hxw _
         have hs5 : Src n0 (w4.setCell ⟨x, 1, none⟩ (.int .i64 v)) g := hs4.low hl5 hn0
         have hr5 : But g w (w4.setCell ⟨x, 1, none⟩ (.int .i64 v)) := hr4.below hl5 (Nat.le_refl _)
         have p5 : OwnInts (w.heap.size + 1) (w4.setCell ⟨x, 1, none⟩ (.int .i64 v)) ps ss := (OwnInts.farO o5 (But.set _ x 1 (.int .i64 v)) hnp.out)
         have p6 : OwnInts (w.heap.size + 1) (w4.setCell ⟨x, 1, none⟩ (.int .i64 v)) pl ls := (OwnInts.farO o6 (But.set _ x 1 (.int .i64 v)) hnl.out)
         generalize (w4.setCell ⟨x, 1, none⟩ (.int .i64 v)) = w5 at *
         clear x0 x1 x2 x3 x4 x5 x6 x7 xL xF hbx4 hbr4 hr4 hs4 o5 o6 hl5 hbx3 hbr3
         (try clear sC)
         (try clear sA sB)
         (try clear hsB)
         clear hv4 hb4
         (try generalize w4.heap.size = z4 at *)
         clear w4
         replace hs5 := Lib.hid hs5; replace hr5 := Lib.hid hr5; replace p5 := Lib.hid p5; replace p6 := Lib.hid p6
         have x0 := hbx5.cell (i := 0) (v := .string nm) rfl; have x1 := hbx5.cell (i := 1) (v := .int .i64 v) rfl; have x2 := hbx5.cell (i := 2) (v := .int .i64 p) rfl; have x3 := hbx5.cell (i := 3) (v := .int .i64 k) rfl; have x4 := hbx5.cell (i := 4) (v := .int .i64 q) rfl; have x5 := hbx5.cell (i := 5) (v := .slice ps ss.length cs) rfl; have x6 := hbx5.cell (i := 6) (v := .int .i64 co) rfl; have x7 := hbx5.cell (i := 7) (v := .slice pl ls.length cl) rfl; have xL := hbx5.lt; have xF := hbx5.free
         have r0 := hbr5.cell (i := 0) (v := .string ⟨#[]⟩) rfl; have r1 := hbr5.cell (i := 1) (v := .int .i64 0) rfl; have r2 := hbr5.cell (i := 2) (v := .int .i64 0) rfl; have r3 := hbr5.cell (i := 3) (v := .int .i64 0) rfl; have r4 := hbr5.cell (i := 4) (v := .int .i64 0) rfl; have r5 := hbr5.cell (i := 5) (v := .slice none 0 0) rfl; have r6 := hbr5.cell (i := 6) (v := .int .i64 0) rfl; have r7 := hbr5.cell (i := 7) (v := .slice none 0 0) rfl; have rL := hbr5.lt; have rF := hbr5.free
         go_wp2_with fail
         have hbF : Blk w5 w.heap.size fam0 28 := hbr5
         have hbT : But x w5 w5 := But.refl x w5
         have hF := hbF.fam (.string nm) (.int .i64 v) (.int .i64 p) (.int .i64 k) (.int .i64 q) (.slice ps ss.length cs) (.int .i64 co) (.slice pl ls.length cl)
         have hB9 := But.fam w5 w.heap.size (.string nm) (.int .i64 v) (.int .i64 p) (.int .i64 k) (.int .i64 q) (.slice ps ss.length cs) (.int .i64 co) (.slice pl ls.length cl)
         have d0 := hF.cell (i := 0) (v := .string nm) rfl; have d1 := hF.cell (i := 1) (v := .int .i64 v) rfl; have d2 := hF.cell (i := 2) (v := .int .i64 p) rfl; have d3 := hF.cell (i := 3) (v := .int .i64 k) rfl; have d4 := hF.cell (i := 4) (v := .int .i64 q) rfl; have d5 := hF.cell (i := 5) (v := .slice ps ss.length cs) rfl; have d6 := hF.cell (i := 6) (v := .int .i64 co) rfl; have d7 := hF.cell (i := 7) (v := .slice pl ls.length cl) rfl
         have z5 := (OwnInts.farO p5.out hbT hnp.out).but2 hB9 (by omega)
         have z6 := (OwnInts.farO p6.out hbT hnl.out).but2 hB9 (by omega)
         have hlow : Below w.heap.size w5 (setFam w5 w.heap.size (.string nm) (.int .i64 v) (.int .i64 p) (.int .i64 k) (.int .i64 q) (.slice ps ss.length cs) (.int .i64 co) (.slice pl ls.length cl)) := by
           unfold setFam
           exact (((((((((Below.refl _ _).setCell (p := ⟨w.heap.size, 0, none⟩) (Nat.le_refl _) _).setCell (p := ⟨w.heap.size, 1, none⟩) (Nat.le_refl _) _).setCell (p := ⟨w.heap.size, 2, none⟩) (Nat.le_refl _) _).setCell (p := ⟨w.heap.size, 3, none⟩) (Nat.le_refl _) _).setCell (p := ⟨w.heap.size, 4, none⟩) (Nat.le_refl _) _).setCell (p := ⟨w.heap.size, 5, none⟩) (Nat.le_refl _) _).setCell (p := ⟨w.heap.size, 6, none⟩) (Nat.le_refl _) _).setCell (p := ⟨w.heap.size, 7, none⟩) (Nat.le_refl _) _)
         unfold setFam at d0 d1 d2 d3 d4 d5 d6 d7 z5 z6 hlow
         exact bodyPost_ret (v := .agg #[.string nm, .int .i64 v, .int .i64 p, .int .i64 k, .int .i64 q, .slice ps ss.length cs, .int .i64 co, .slice pl ls.length cl]) (by simp [results, Tryz.results11, go_sem, d0, d1, d2, d3, d4, d5, d6, d7]) rfl ⟨⟨nm, v, p, k, q, ps, cs, ss, co, pl, cl, ls⟩, rfl, ⟨hnm, hsl, hll, z5.mono (by omega), z6.mono (by omega)⟩, hs5.out.low hlow hn0, hr5.out.below hlow (Nat.le_refl _)⟩)
      | (have hbx5 : Blk ((w4.setCell ⟨x, 1, none⟩ (.int .i64 v)).alloc (.cells #[.int .i64 0, .int .i64 3, .int .i64 (IntKind.i64.wrap (3 - kd))] 2)) x #[.string nm, .int .i64 v, .int .i64 p, .int .i64 k, .int .i64 q, .slice ps ss.length cs, .int .i64 co, .slice pl ls.length cl] 28 := (hbx4.set 1 (.int .i64 v)).alloc (.cells #[.int .i64 0, .int .i64 3, .int .i64 (IntKind.i64.wrap (3 - kd))] 2)
         have hbr5 : Blk ((w4.setCell ⟨x, 1, none⟩ (.int .i64 v)).alloc (.cells #[.int .i64 0, .int .i64 3, .int .i64 (IntKind.i64.wrap (3 - kd))] 2)) w.heap.size fam0 28 := (hbr4.far hne2 (.int .i64 v) (i := 1)).alloc (.cells #[.int .i64 0, .int .i64 3, .int .i64 (IntKind.i64.wrap (3 - kd))] 2)
         have hl5 : Below w.heap.size w4 ((w4.setCell ⟨x, 1, none⟩ (.int .i64 v)).alloc (.cells #[.int .i64 0, .int .i64 3, .int .i64 (IntKind.i64.wrap (3 - kd))] 2)) := ((Below.refl _ _).setCell (p := ⟨x, 1, none⟩) hxw _).alloc (by simp; omega) _
         have hs5 : Src n0 ((w4.setCell ⟨x, 1, none⟩ (.int .i64 v)).alloc (.cells #[.int .i64 0, .int .i64 3, .int .i64 (IntKind.i64.wrap (3 - kd))] 2)) g := hs4.low hl5 hn0
         have hr5 : But g w ((w4.setCell ⟨x, 1, none⟩ (.int .i64 v)).alloc (.cells #[.int .i64 0, .int .i64 3, .int .i64 (IntKind.i64.wrap (3 - kd))] 2)) := hr4.below hl5 (Nat.le_refl _)
         have p5 : OwnInts (w.heap.size + 1) ((w4.setCell ⟨x, 1, none⟩ (.int .i64 v)).alloc (.cells #[.int .i64 0, .int .i64 3, .int .i64 (IntKind.i64.wrap (3 - kd))] 2)) ps ss := (OwnInts.farO o5 (But.set _ x 1 (.int .i64 v)) hnp.out).ext ((Ext.refl _).alloc (.cells #[.int .i64 0, .int .i64 3, .int .i64 (IntKind.i64.wrap (3 - kd))] 2))
         have p6 : OwnInts (w.heap.size + 1) ((w4.setCell ⟨x, 1, none⟩ (.int .i64 v)).alloc (.cells #[.int .i64 0, .int .i64 3, .int .i64 (IntKind.i64.wrap (3 - kd))] 2)) pl ls := (OwnInts.farO o6 (But.set _ x 1 (.int .i64 v)) hnl.out).ext ((Ext.refl _).alloc (.cells #[.int .i64 0, .int .i64 3, .int .i64 (IntKind.i64.wrap (3 - kd))] 2))
         generalize ((w4.setCell ⟨x, 1, none⟩ (.int .i64 v)).alloc (.cells #[.int .i64 0, .int .i64 3, .int .i64 (IntKind.i64.wrap (3 - kd))] 2)) = w5 at *
         clear x0 x1 x2 x3 x4 x5 x6 x7 xL xF hbx4 hbr4 hr4 hs4 o5 o6 hl5 hbx3 hbr3
         (try clear sC)
         (try clear sA sB)
         (try clear hsB)
         clear hv4 hb4
         (try generalize w4.heap.size = z4 at *)
         clear w4
         replace hs5 := Lib.hid hs5; replace hr5 := Lib.hid hr5; replace p5 := Lib.hid p5; replace p6 := Lib.hid p6
         have x0 := hbx5.cell (i := 0) (v := .string nm) rfl; have x1 := hbx5.cell (i := 1) (v := .int .i64 v) rfl; have x2 := hbx5.cell (i := 2) (v := .int .i64 p) rfl; have x3 := hbx5.cell (i := 3) (v := .int .i64 k) rfl; have x4 := hbx5.cell (i := 4) (v := .int .i64 q) rfl; have x5 := hbx5.cell (i := 5) (v := .slice ps ss.length cs) rfl; have x6 := hbx5.cell (i := 6) (v := .int .i64 co) rfl; have x7 := hbx5.cell (i := 7) (v := .slice pl ls.length cl) rfl; have xL := hbx5.lt; have xF := hbx5.free
         have r0 := hbr5.cell (i := 0) (v := .string ⟨#[]⟩) rfl; have r1 := hbr5.cell (i := 1) (v := .int .i64 0) rfl; have r2 := hbr5.cell (i := 2) (v := .int .i64 0) rfl; have r3 := hbr5.cell (i := 3) (v := .int .i64 0) rfl; have r4 := hbr5.cell (i := 4) (v := .int .i64 0) rfl; have r5 := hbr5.cell (i := 5) (v := .slice none 0 0) rfl; have r6 := hbr5.cell (i := 6) (v := .int .i64 0) rfl; have r7 := hbr5.cell (i := 7) (v := .slice none 0 0) rfl; have rL := hbr5.lt; have rF := hbr5.free
         go_wp2_with fail
         have hbF : Blk w5 w.heap.size fam0 28 := hbr5
         have hbT : But x w5 w5 := But.refl x w5
         have hF := hbF.fam (.string nm) (.int .i64 v) (.int .i64 p) (.int .i64 k) (.int .i64 q) (.slice ps ss.length cs) (.int .i64 co) (.slice pl ls.length cl)
         have hB9 := But.fam w5 w.heap.size (.string nm) (.int .i64 v) (.int .i64 p) (.int .i64 k) (.int .i64 q) (.slice ps ss.length cs) (.int .i64 co) (.slice pl ls.length cl)
         have d0 := hF.cell (i := 0) (v := .string nm) rfl; have d1 := hF.cell (i := 1) (v := .int .i64 v) rfl; have d2 := hF.cell (i := 2) (v := .int .i64 p) rfl; have d3 := hF.cell (i := 3) (v := .int .i64 k) rfl; have d4 := hF.cell (i := 4) (v := .int .i64 q) rfl; have d5 := hF.cell (i := 5) (v := .slice ps ss.length cs) rfl; have d6 := hF.cell (i := 6) (v := .int .i64 co) rfl; have d7 := hF.cell (i := 7) (v := .slice pl ls.length cl) rfl
         have z5 := (OwnInts.farO p5.out hbT hnp.out).but2 hB9 (by omega)
         have z6 := (OwnInts.farO p6.out hbT hnl.out).but2 hB9 (by omega)
         have hlow : Below w.heap.size w5 (setFam w5 w.heap.size (.string nm) (.int .i64 v) (.int .i64 p) (.int .i64 k) (.int .i64 q) (.slice ps ss.length cs) (.int .i64 co) (.slice pl ls.length cl)) := by
           unfold setFam
           exact (((((((((Below.refl _ _).setCell (p := ⟨w.heap.size, 0, none⟩) (Nat.le_refl _) _).setCell (p := ⟨w.heap.size, 1, none⟩) (Nat.le_refl _) _).setCell (p := ⟨w.heap.size, 2, none⟩) (Nat.le_refl _) _).setCell (p := ⟨w.heap.size, 3, none⟩) (Nat.le_refl _) _).setCell (p := ⟨w.heap.size, 4, none⟩) (Nat.le_refl _) _).setCell (p := ⟨w.heap.size, 5, none⟩) (Nat.le_refl _) _).setCell (p := ⟨w.heap.size, 6, none⟩) (Nat.le_refl _) _).setCell (p := ⟨w.heap.size, 7, none⟩) (Nat.le_refl _) _)
         unfold setFam at d0 d1 d2 d3 d4 d5 d6 d7 z5 z6 hlow
         exact bodyPost_ret (v := .agg #[.string nm, .int .i64 v, .int .i64 p, .int .i64 k, .int .i64 q, .slice ps ss.length cs, .int .i64 co, .slice pl ls.length cl]) (by simp [results, Tryz.results11, go_sem, d0, d1, d2, d3, d4, d5, d6, d7]) rfl ⟨⟨nm, v, p, k, q, ps, cs, ss, co, pl, cl, ls⟩, rfl, ⟨hnm, hsl, hll, z5.mono (by omega), z6.mono (by omega)⟩, hs5.out.low hlow hn0, hr5.out.below hlow (Nat.le_refl _)⟩)
  · go_wp2_with fail
    refine (Next_c n0 g 7 _ (hs3.out.ext ((((((((Ext.refl w3).alloc (.cells #[.int .i64 17, .int .i64 17] 2)).alloc (.cells #[.int .i64 13, .int .i64 17] 2)).alloc (.cells #[.int .i64 41, .int .i64 45] 2)).alloc (.cells #[.int .i64 18] 2)).alloc (.cells #[.int .i64 3] 2)).alloc (.cells #[.int .i64 25] 2)).alloc (.cells #[.slice none 0 0, .slice (some ⟨w3.heap.size, 0, none⟩) 2 2, .slice (some ⟨w3.heap.size + 1, 0, none⟩) 2 2, .slice (some ⟨w3.heap.size + 1 + 1, 0, none⟩) 2 2, .slice (some ⟨w3.heap.size + 1 + 1 + 1, 0, none⟩) 1 1, .slice (some ⟨w3.heap.size + 1 + 1 + 1 + 1, 0, none⟩) 1 1, .slice (some ⟨w3.heap.size + 1 + 1 + 1 + 1 + 1, 0, none⟩) 1 1] 26))) (by first | omega | (simp; omega))).mono ?_
    rintro e w4 ⟨z, rfl, hz0, hz9, -, hs4, hb4⟩
    replace hz9 := hz9 (by omega)
    obtain ⟨j, rfl⟩ : ∃ j : Nat, z = j := ⟨z.toNat, by omega⟩
    have hj9 : (j : Int) < 7 := hz9
    have hz4 := hb4.size
    simp only [World.size_alloc] at hz4
    have hbx4 := (hbx3.ext ((((((((Ext.refl w3).alloc (.cells #[.int .i64 17, .int .i64 17] 2)).alloc (.cells #[.int .i64 13, .int .i64 17] 2)).alloc (.cells #[.int .i64 41, .int .i64 45] 2)).alloc (.cells #[.int .i64 18] 2)).alloc (.cells #[.int .i64 3] 2)).alloc (.cells #[.int .i64 25] 2)).alloc (.cells #[.slice none 0 0, .slice (some ⟨w3.heap.size, 0, none⟩) 2 2, .slice (some ⟨w3.heap.size + 1, 0, none⟩) 2 2, .slice (some ⟨w3.heap.size + 1 + 1, 0, none⟩) 2 2, .slice (some ⟨w3.heap.size + 1 + 1 + 1, 0, none⟩) 1 1, .slice (some ⟨w3.heap.size + 1 + 1 + 1 + 1, 0, none⟩) 1 1, .slice (some ⟨w3.heap.size + 1 + 1 + 1 + 1 + 1, 0, none⟩) 1 1] 26))).but hb4 (by omega)
    have hbr4 := (hbr3.ext ((((((((Ext.refl w3).alloc (.cells #[.int .i64 17, .int .i64 17] 2)).alloc (.cells #[.int .i64 13, .int .i64 17] 2)).alloc (.cells #[.int .i64 41, .int .i64 45] 2)).alloc (.cells #[.int .i64 18] 2)).alloc (.cells #[.int .i64 3] 2)).alloc (.cells #[.int .i64 25] 2)).alloc (.cells #[.slice none 0 0, .slice (some ⟨w3.heap.size, 0, none⟩) 2 2, .slice (some ⟨w3.heap.size + 1, 0, none⟩) 2 2, .slice (some ⟨w3.heap.size + 1 + 1, 0, none⟩) 2 2, .slice (some ⟨w3.heap.size + 1 + 1 + 1, 0, none⟩) 1 1, .slice (some ⟨w3.heap.size + 1 + 1 + 1 + 1, 0, none⟩) 1 1, .slice (some ⟨w3.heap.size + 1 + 1 + 1 + 1 + 1, 0, none⟩) 1 1] 26))).but hb4 (by omega)
    have hr4 := (hr3.out.trans (But.of ((((((((Ext.refl w3).alloc (.cells #[.int .i64 17, .int .i64 17] 2)).alloc (.cells #[.int .i64 13, .int .i64 17] 2)).alloc (.cells #[.int .i64 41, .int .i64 45] 2)).alloc (.cells #[.int .i64 18] 2)).alloc (.cells #[.int .i64 3] 2)).alloc (.cells #[.int .i64 25] 2)).alloc (.cells #[.slice none 0 0, .slice (some ⟨w3.heap.size, 0, none⟩) 2 2, .slice (some ⟨w3.heap.size + 1, 0, none⟩) 2 2, .slice (some ⟨w3.heap.size + 1 + 1, 0, none⟩) 2 2, .slice (some ⟨w3.heap.size + 1 + 1 + 1, 0, none⟩) 1 1, .slice (some ⟨w3.heap.size + 1 + 1 + 1 + 1, 0, none⟩) 1 1, .slice (some ⟨w3.heap.size + 1 + 1 + 1 + 1 + 1, 0, none⟩) 1 1] 26)))).trans hb4
    have o5 := Lib.hid ((k5.out.ext ((((((((Ext.refl w3).alloc (.cells #[.int .i64 17, .int .i64 17] 2)).alloc (.cells #[.int .i64 13, .int .i64 17] 2)).alloc (.cells #[.int .i64 41, .int .i64 45] 2)).alloc (.cells #[.int .i64 18] 2)).alloc (.cells #[.int .i64 3] 2)).alloc (.cells #[.int .i64 25] 2)).alloc (.cells #[.slice none 0 0, .slice (some ⟨w3.heap.size, 0, none⟩) 2 2, .slice (some ⟨w3.heap.size + 1, 0, none⟩) 2 2, .slice (some ⟨w3.heap.size + 1 + 1, 0, none⟩) 2 2, .slice (some ⟨w3.heap.size + 1 + 1 + 1, 0, none⟩) 1 1, .slice (some ⟨w3.heap.size + 1 + 1 + 1 + 1, 0, none⟩) 1 1, .slice (some ⟨w3.heap.size + 1 + 1 + 1 + 1 + 1, 0, none⟩) 1 1] 26))).but2 hb4 (by omega))
    have o6 := Lib.hid ((k6.out.ext ((((((((Ext.refl w3).alloc (.cells #[.int .i64 17, .int .i64 17] 2)).alloc (.cells #[.int .i64 13, .int .i64 17] 2)).alloc (.cells #[.int .i64 41, .int .i64 45] 2)).alloc (.cells #[.int .i64 18] 2)).alloc (.cells #[.int .i64 3] 2)).alloc (.cells #[.int .i64 25] 2)).alloc (.cells #[.slice none 0 0, .slice (some ⟨w3.heap.size, 0, none⟩) 2 2, .slice (some ⟨w3.heap.size + 1, 0, none⟩) 2 2, .slice (some ⟨w3.heap.size + 1 + 1, 0, none⟩) 2 2, .slice (some ⟨w3.heap.size + 1 + 1 + 1, 0, none⟩) 1 1, .slice (some ⟨w3.heap.size + 1 + 1 + 1 + 1, 0, none⟩) 1 1, .slice (some ⟨w3.heap.size + 1 + 1 + 1 + 1 + 1, 0, none⟩) 1 1] 26))).but2 hb4 (by omega))
    have m0 := ((ownMade w3 [17, 17]).ext (((((((Ext.refl _).alloc (.cells #[.int .i64 13, .int .i64 17] 2)).alloc (.cells #[.int .i64 41, .int .i64 45] 2)).alloc (.cells #[.int .i64 18] 2)).alloc (.cells #[.int .i64 3] 2)).alloc (.cells #[.int .i64 25] 2)).alloc (.cells #[.slice none 0 0, .slice (some ⟨w3.heap.size, 0, none⟩) 2 2, .slice (some ⟨w3.heap.size + 1, 0, none⟩) 2 2, .slice (some ⟨w3.heap.size + 1 + 1, 0, none⟩) 2 2, .slice (some ⟨w3.heap.size + 1 + 1 + 1, 0, none⟩) 1 1, .slice (some ⟨w3.heap.size + 1 + 1 + 1 + 1, 0, none⟩) 1 1, .slice (some ⟨w3.heap.size + 1 + 1 + 1 + 1 + 1, 0, none⟩) 1 1] 26))).but2 hb4 (by first | omega | (simp; omega))
    (try simp only [World.size_alloc] at m0)
    have m1 := ((ownMade (w3.alloc (.cells #[.int .i64 17, .int .i64 17] 2)) [13, 17]).ext ((((((Ext.refl _).alloc (.cells #[.int .i64 41, .int .i64 45] 2)).alloc (.cells #[.int .i64 18] 2)).alloc (.cells #[.int .i64 3] 2)).alloc (.cells #[.int .i64 25] 2)).alloc (.cells #[.slice none 0 0, .slice (some ⟨w3.heap.size, 0, none⟩) 2 2, .slice (some ⟨w3.heap.size + 1, 0, none⟩) 2 2, .slice (some ⟨w3.heap.size + 1 + 1, 0, none⟩) 2 2, .slice (some ⟨w3.heap.size + 1 + 1 + 1, 0, none⟩) 1 1, .slice (some ⟨w3.heap.size + 1 + 1 + 1 + 1, 0, none⟩) 1 1, .slice (some ⟨w3.heap.size + 1 + 1 + 1 + 1 + 1, 0, none⟩) 1 1] 26))).but2 hb4 (by first | omega | (simp; omega))
    (try simp only [World.size_alloc] at m1)
    have m2 := ((ownMade ((w3.alloc (.cells #[.int .i64 17, .int .i64 17] 2)).alloc (.cells #[.int .i64 13, .int .i64 17] 2)) [41, 45]).ext (((((Ext.refl _).alloc (.cells #[.int .i64 18] 2)).alloc (.cells #[.int .i64 3] 2)).alloc (.cells #[.int .i64 25] 2)).alloc (.cells #[.slice none 0 0, .slice (some ⟨w3.heap.size, 0, none⟩) 2 2, .slice (some ⟨w3.heap.size + 1, 0, none⟩) 2 2, .slice (some ⟨w3.heap.size + 1 + 1, 0, none⟩) 2 2, .slice (some ⟨w3.heap.size + 1 + 1 + 1, 0, none⟩) 1 1, .slice (some ⟨w3.heap.size + 1 + 1 + 1 + 1, 0, none⟩) 1 1, .slice (some ⟨w3.heap.size + 1 + 1 + 1 + 1 + 1, 0, none⟩) 1 1] 26))).but2 hb4 (by first | omega | (simp; omega))
    (try simp only [World.size_alloc] at m2)
    have m3 := ((ownMade (((w3.alloc (.cells #[.int .i64 17, .int .i64 17] 2)).alloc (.cells #[.int .i64 13, .int .i64 17] 2)).alloc (.cells #[.int .i64 41, .int .i64 45] 2)) [18]).ext ((((Ext.refl _).alloc (.cells #[.int .i64 3] 2)).alloc (.cells #[.int .i64 25] 2)).alloc (.cells #[.slice none 0 0, .slice (some ⟨w3.heap.size, 0, none⟩) 2 2, .slice (some ⟨w3.heap.size + 1, 0, none⟩) 2 2, .slice (some ⟨w3.heap.size + 1 + 1, 0, none⟩) 2 2, .slice (some ⟨w3.heap.size + 1 + 1 + 1, 0, none⟩) 1 1, .slice (some ⟨w3.heap.size + 1 + 1 + 1 + 1, 0, none⟩) 1 1, .slice (some ⟨w3.heap.size + 1 + 1 + 1 + 1 + 1, 0, none⟩) 1 1] 26))).but2 hb4 (by first | omega | (simp; omega))
    (try simp only [World.size_alloc] at m3)
    have m4 := ((ownMade ((((w3.alloc (.cells #[.int .i64 17, .int .i64 17] 2)).alloc (.cells #[.int .i64 13, .int .i64 17] 2)).alloc (.cells #[.int .i64 41, .int .i64 45] 2)).alloc (.cells #[.int .i64 18] 2)) [3]).ext (((Ext.refl _).alloc (.cells #[.int .i64 25] 2)).alloc (.cells #[.slice none 0 0, .slice (some ⟨w3.heap.size, 0, none⟩) 2 2, .slice (some ⟨w3.heap.size + 1, 0, none⟩) 2 2, .slice (some ⟨w3.heap.size + 1 + 1, 0, none⟩) 2 2, .slice (some ⟨w3.heap.size + 1 + 1 + 1, 0, none⟩) 1 1, .slice (some ⟨w3.heap.size + 1 + 1 + 1 + 1, 0, none⟩) 1 1, .slice (some ⟨w3.heap.size + 1 + 1 + 1 + 1 + 1, 0, none⟩) 1 1] 26))).but2 hb4 (by first | omega | (simp; omega))
    (try simp only [World.size_alloc] at m4)
    have m5 := ((ownMade (((((w3.alloc (.cells #[.int .i64 17, .int .i64 17] 2)).alloc (.cells #[.int .i64 13, .int .i64 17] 2)).alloc (.cells #[.int .i64 41, .int .i64 45] 2)).alloc (.cells #[.int .i64 18] 2)).alloc (.cells #[.int .i64 3] 2)) [25]).ext ((Ext.refl _).alloc (.cells #[.slice none 0 0, .slice (some ⟨w3.heap.size, 0, none⟩) 2 2, .slice (some ⟨w3.heap.size + 1, 0, none⟩) 2 2, .slice (some ⟨w3.heap.size + 1 + 1, 0, none⟩) 2 2, .slice (some ⟨w3.heap.size + 1 + 1 + 1, 0, none⟩) 1 1, .slice (some ⟨w3.heap.size + 1 + 1 + 1 + 1, 0, none⟩) 1 1, .slice (some ⟨w3.heap.size + 1 + 1 + 1 + 1 + 1, 0, none⟩) 1 1] 26))).but2 hb4 (by first | omega | (simp; omega))
    (try simp only [World.size_alloc] at m5)
    have hsz := (Blk.new ((((((w3.alloc (.cells #[.int .i64 17, .int .i64 17] 2)).alloc (.cells #[.int .i64 13, .int .i64 17] 2)).alloc (.cells #[.int .i64 41, .int .i64 45] 2)).alloc (.cells #[.int .i64 18] 2)).alloc (.cells #[.int .i64 3] 2)).alloc (.cells #[.int .i64 25] 2)) #[.slice none 0 0, .slice (some ⟨w3.heap.size, 0, none⟩) 2 2, .slice (some ⟨w3.heap.size + 1, 0, none⟩) 2 2, .slice (some ⟨w3.heap.size + 1 + 1, 0, none⟩) 2 2, .slice (some ⟨w3.heap.size + 1 + 1 + 1, 0, none⟩) 1 1, .slice (some ⟨w3.heap.size + 1 + 1 + 1 + 1, 0, none⟩) 1 1, .slice (some ⟨w3.heap.size + 1 + 1 + 1 + 1 + 1, 0, none⟩) 1 1] 26).but hb4 (by first | omega | (simp; omega))
    (try simp only [World.size_alloc] at hsz)
    obtain ⟨vp, vl, vc, hv, hvb, ov, on⟩ : ∃ (vp : Option Addr) (vl : List Int) (vc : Nat), (#[.slice none 0 0, .slice (some ⟨w3.heap.size, 0, none⟩) 2 2, .slice (some ⟨w3.heap.size + 1, 0, none⟩) 2 2, .slice (some ⟨w3.heap.size + 1 + 1, 0, none⟩) 2 2, .slice (some ⟨w3.heap.size + 1 + 1 + 1, 0, none⟩) 1 1, .slice (some ⟨w3.heap.size + 1 + 1 + 1 + 1, 0, none⟩) 1 1, .slice (some ⟨w3.heap.size + 1 + 1 + 1 + 1 + 1, 0, none⟩) 1 1] : Array Value)[j]? = some (.slice vp vl.length vc) ∧ vl.length ≤ 100 ∧ OwnInts (w.heap.size + 1) w4 vp vl ∧ (∀ b o, 0 < vl.length → vp = some ⟨b, o, none⟩ → b ≠ x) := by
      have : j = 0 ∨ j = 1 ∨ j = 2 ∨ j = 3 ∨ j = 4 ∨ j = 5 ∨ j = 6 := by omega
      rcases this with rfl | rfl | rfl | rfl | rfl | rfl | rfl
      · exact ⟨none, [], 0, rfl, by simp, OwnInts.nil _ _ _, fun b o _ e => by simp at e⟩
      · exact ⟨_, [17, 17], 2, rfl, by simp, m0.mono (by omega), fun b o _ e => by simp at e; omega⟩
      · exact ⟨_, [13, 17], 2, rfl, by simp, m1.mono (by omega), fun b o _ e => by simp at e; omega⟩
      · exact ⟨_, [41, 45], 2, rfl, by simp, m2.mono (by omega), fun b o _ e => by simp at e; omega⟩
      · exact ⟨_, [18], 1, rfl, by simp, m3.mono (by omega), fun b o _ e => by simp at e; omega⟩
      · exact ⟨_, [3], 1, rfl, by simp, m4.mono (by omega), fun b o _ e => by simp at e; omega⟩
      · exact ⟨_, [25], 1, rfl, by simp, m5.mono (by omega), fun b o _ e => by simp at e; omega⟩
    have s0 := hsz.cell hv
    have sl := hsz.lt
    replace hs4 := Lib.hid hs4
    replace hr4 := Lib.hid hr4
    clear hb4 hv hsz hz9 hz0 hbr3 hbx3 m0 m1 m2 m3 m4 m5
    have x0 := hbx4.cell (i := 0) (v := .string nm) rfl; have x1 := hbx4.cell (i := 1) (v := .int .i64 kd) rfl; have x2 := hbx4.cell (i := 2) (v := .int .i64 p) rfl; have x3 := hbx4.cell (i := 3) (v := .int .i64 k) rfl; have x4 := hbx4.cell (i := 4) (v := .int .i64 q) rfl; have x5 := hbx4.cell (i := 5) (v := .slice ps ss.length cs) rfl; have x6 := hbx4.cell (i := 6) (v := .int .i64 co) rfl; have x7 := hbx4.cell (i := 7) (v := .slice pl ls.length cl) rfl; have xL := hbx4.lt; have xF := hbx4.free
    have r0 := hbr4.cell (i := 0) (v := .string ⟨#[]⟩) rfl; have r1 := hbr4.cell (i := 1) (v := .int .i64 0) rfl; have r2 := hbr4.cell (i := 2) (v := .int .i64 0) rfl; have r3 := hbr4.cell (i := 3) (v := .int .i64 0) rfl; have r4 := hbr4.cell (i := 4) (v := .int .i64 0) rfl; have r5 := hbr4.cell (i := 5) (v := .slice none 0 0) rfl; have r6 := hbr4.cell (i := 6) (v := .int .i64 0) rfl; have r7 := hbr4.cell (i := 7) (v := .slice none 0 0) rfl; have rL := hbr4.lt; have rF := hbr4.free
    go_wp2_with fail
    have hbF : Blk (w4.setCell ⟨x, 5, none⟩ (.slice vp vl.length vc)) w.heap.size fam0 28 := (hbr4.far hne2 (.slice vp vl.length vc) (i := 5))
    have hbT : But x w4 (w4.setCell ⟨x, 5, none⟩ (.slice vp vl.length vc)) := (But.refl x w4).setG (.slice vp vl.length vc) (i := 5)
    have hF := hbF.fam (.string nm) (.int .i64 kd) (.int .i64 p) (.int .i64 k) (.int .i64 q) (.slice vp vl.length vc) (.int .i64 co) (.slice pl ls.length cl)
    have hB9 := But.fam (w4.setCell ⟨x, 5, none⟩ (.slice vp vl.length vc)) w.heap.size (.string nm) (.int .i64 kd) (.int .i64 p) (.int .i64 k) (.int .i64 q) (.slice vp vl.length vc) (.int .i64 co) (.slice pl ls.length cl)
    have d0 := hF.cell (i := 0) (v := .string nm) rfl; have d1 := hF.cell (i := 1) (v := .int .i64 kd) rfl; have d2 := hF.cell (i := 2) (v := .int .i64 p) rfl; have d3 := hF.cell (i := 3) (v := .int .i64 k) rfl; have d4 := hF.cell (i := 4) (v := .int .i64 q) rfl; have d5 := hF.cell (i := 5) (v := .slice vp vl.length vc) rfl; have d6 := hF.cell (i := 6) (v := .int .i64 co) rfl; have d7 := hF.cell (i := 7) (v := .slice pl ls.length cl) rfl
    have z5 := (OwnInts.farO ov hbT on).but2 hB9 (by omega)
    have z6 := (OwnInts.farO o6.out hbT hnl.out).but2 hB9 (by omega)
    have hlow : Below w.heap.size w4 (setFam (w4.setCell ⟨x, 5, none⟩ (.slice vp vl.length vc)) w.heap.size (.string nm) (.int .i64 kd) (.int .i64 p) (.int .i64 k) (.int .i64 q) (.slice vp vl.length vc) (.int .i64 co) (.slice pl ls.length cl)) := by
      unfold setFam
      exact ((((((((((Below.refl _ _).setCell (p := ⟨x, 5, none⟩) hxw (.slice vp vl.length vc)).setCell (p := ⟨w.heap.size, 0, none⟩) (Nat.le_refl _) _).setCell (p := ⟨w.heap.size, 1, none⟩) (Nat.le_refl _) _).setCell (p := ⟨w.heap.size, 2, none⟩) (Nat.le_refl _) _).setCell (p := ⟨w.heap.size, 3, none⟩) (Nat.le_refl _) _).setCell (p := ⟨w.heap.size, 4, none⟩) (Nat.le_refl _) _).setCell (p := ⟨w.heap.size, 5, none⟩) (Nat.le_refl _) _).setCell (p := ⟨w.heap.size, 6, none⟩) (Nat.le_refl _) _).setCell (p := ⟨w.heap.size, 7, none⟩) (Nat.le_refl _) _)
    unfold setFam at d0 d1 d2 d3 d4 d5 d6 d7 z5 z6 hlow
    exact bodyPost_ret (v := .agg #[.string nm, .int .i64 kd, .int .i64 p, .int .i64 k, .int .i64 q, .slice vp vl.length vc, .int .i64 co, .slice pl ls.length cl]) (by simp [results, Tryz.results11, go_sem, d0, d1, d2, d3, d4, d5, d6, d7]) rfl ⟨⟨nm, kd, p, k, q, vp, vc, vl, co, pl, cl, ls⟩, rfl, ⟨hnm, hvb, hll, z5.mono (by omega), z6.mono (by omega)⟩, hs4.out.low hlow hn0, hr4.out.below hlow (Nat.le_refl _)⟩
  · go_wp2_with fail
    refine (Next_c n0 g 7 _ (hs3.out.ext ((((((((Ext.refl w3).alloc (.cells #[.int .i64 0] 2)).alloc (.cells #[.int .i64 80] 2)).alloc (.cells #[.int .i64 81] 2)).alloc (.cells #[.int .i64 10, .int .i64 10] 2)).alloc (.cells #[.int .i64 1, .int .i64 2, .int .i64 3, .int .i64 4] 2)).alloc (.cells #[.int .i64 1, .int .i64 2, .int .i64 3, .int .i64 4, .int .i64 5] 2)).alloc (.cells #[.slice none 0 0, .slice (some ⟨w3.heap.size, 0, none⟩) 1 1, .slice (some ⟨w3.heap.size + 1, 0, none⟩) 1 1, .slice (some ⟨w3.heap.size + 1 + 1, 0, none⟩) 1 1, .slice (some ⟨w3.heap.size + 1 + 1 + 1, 0, none⟩) 2 2, .slice (some ⟨w3.heap.size + 1 + 1 + 1 + 1, 0, none⟩) 4 4, .slice (some ⟨w3.heap.size + 1 + 1 + 1 + 1 + 1, 0, none⟩) 5 5] 26))) (by first | omega | (simp; omega))).mono ?_
    rintro e w4 ⟨z, rfl, hz0, hz9, -, hs4, hb4⟩
    replace hz9 := hz9 (by omega)
    obtain ⟨j, rfl⟩ : ∃ j : Nat, z = j := ⟨z.toNat, by omega⟩
    have hj9 : (j : Int) < 7 := hz9
    have hz4 := hb4.size
    simp only [World.size_alloc] at hz4
    have hbx4 := (hbx3.ext ((((((((Ext.refl w3).alloc (.cells #[.int .i64 0] 2)).alloc (.cells #[.int .i64 80] 2)).alloc (.cells #[.int .i64 81] 2)).alloc (.cells #[.int .i64 10, .int .i64 10] 2)).alloc (.cells #[.int .i64 1, .int .i64 2, .int .i64 3, .int .i64 4] 2)).alloc (.cells #[.int .i64 1, .int .i64 2, .int .i64 3, .int .i64 4, .int .i64 5] 2)).alloc (.cells #[.slice none 0 0, .slice (some ⟨w3.heap.size, 0, none⟩) 1 1, .slice (some ⟨w3.heap.size + 1, 0, none⟩) 1 1, .slice (some ⟨w3.heap.size + 1 + 1, 0, none⟩) 1 1, .slice (some ⟨w3.heap.size + 1 + 1 + 1, 0, none⟩) 2 2, .slice (some ⟨w3.heap.size + 1 + 1 + 1 + 1, 0, none⟩) 4 4, .slice (some ⟨w3.heap.size + 1 + 1 + 1 + 1 + 1, 0, none⟩) 5 5] 26))).but hb4 (by omega)
    have hbr4 := (hbr3.ext ((((((((Ext.refl w3).alloc (.cells #[.int .i64 0] 2)).alloc (.cells #[.int .i64 80] 2)).alloc (.cells #[.int .i64 81] 2)).alloc (.cells #[.int .i64 10, .int .i64 10] 2)).alloc (.cells #[.int .i64 1, .int .i64 2, .int .i64 3, .int .i64 4] 2)).alloc (.cells #[.int .i64 1, .int .i64 2, .int .i64 3, .int .i64 4, .int .i64 5] 2)).alloc (.cells #[.slice none 0 0, .slice (some ⟨w3.heap.size, 0, none⟩) 1 1, .slice (some ⟨w3.heap.size + 1, 0, none⟩) 1 1, .slice (some ⟨w3.heap.size + 1 + 1, 0, none⟩) 1 1, .slice (some ⟨w3.heap.size + 1 + 1 + 1, 0, none⟩) 2 2, .slice (some ⟨w3.heap.size + 1 + 1 + 1 + 1, 0, none⟩) 4 4, .slice (some ⟨w3.heap.size + 1 + 1 + 1 + 1 + 1, 0, none⟩) 5 5] 26))).but hb4 (by omega)
    have hr4 := (hr3.out.trans (But.of ((((((((Ext.refl w3).alloc (.cells #[.int .i64 0] 2)).alloc (.cells #[.int .i64 80] 2)).alloc (.cells #[.int .i64 81] 2)).alloc (.cells #[.int .i64 10, .int .i64 10] 2)).alloc (.cells #[.int .i64 1, .int .i64 2, .int .i64 3, .int .i64 4] 2)).alloc (.cells #[.int .i64 1, .int .i64 2, .int .i64 3, .int .i64 4, .int .i64 5] 2)).alloc (.cells #[.slice none 0 0, .slice (some ⟨w3.heap.size, 0, none⟩) 1 1, .slice (some ⟨w3.heap.size + 1, 0, none⟩) 1 1, .slice (some ⟨w3.heap.size + 1 + 1, 0, none⟩) 1 1, .slice (some ⟨w3.heap.size + 1 + 1 + 1, 0, none⟩) 2 2, .slice (some ⟨w3.heap.size + 1 + 1 + 1 + 1, 0, none⟩) 4 4, .slice (some ⟨w3.heap.size + 1 + 1 + 1 + 1 + 1, 0, none⟩) 5 5] 26)))).trans hb4
    have o5 := Lib.hid ((k5.out.ext ((((((((Ext.refl w3).alloc (.cells #[.int .i64 0] 2)).alloc (.cells #[.int .i64 80] 2)).alloc (.cells #[.int .i64 81] 2)).alloc (.cells #[.int .i64 10, .int .i64 10] 2)).alloc (.cells #[.int .i64 1, .int .i64 2, .int .i64 3, .int .i64 4] 2)).alloc (.cells #[.int .i64 1, .int .i64 2, .int .i64 3, .int .i64 4, .int .i64 5] 2)).alloc (.cells #[.slice none 0 0, .slice (some ⟨w3.heap.size, 0, none⟩) 1 1, .slice (some ⟨w3.heap.size + 1, 0, none⟩) 1 1, .slice (some ⟨w3.heap.size + 1 + 1, 0, none⟩) 1 1, .slice (some ⟨w3.heap.size + 1 + 1 + 1, 0, none⟩) 2 2, .slice (some ⟨w3.heap.size + 1 + 1 + 1 + 1, 0, none⟩) 4 4, .slice (some ⟨w3.heap.size + 1 + 1 + 1 + 1 + 1, 0, none⟩) 5 5] 26))).but2 hb4 (by omega))
    have o6 := Lib.hid ((k6.out.ext ((((((((Ext.refl w3).alloc (.cells #[.int .i64 0] 2)).alloc (.cells #[.int .i64 80] 2)).alloc (.cells #[.int .i64 81] 2)).alloc (.cells #[.int .i64 10, .int .i64 10] 2)).alloc (.cells #[.int .i64 1, .int .i64 2, .int .i64 3, .int .i64 4] 2)).alloc (.cells #[.int .i64 1, .int .i64 2, .int .i64 3, .int .i64 4, .int .i64 5] 2)).alloc (.cells #[.slice none 0 0, .slice (some ⟨w3.heap.size, 0, none⟩) 1 1, .slice (some ⟨w3.heap.size + 1, 0, none⟩) 1 1, .slice (some ⟨w3.heap.size + 1 + 1, 0, none⟩) 1 1, .slice (some ⟨w3.heap.size + 1 + 1 + 1, 0, none⟩) 2 2, .slice (some ⟨w3.heap.size + 1 + 1 + 1 + 1, 0, none⟩) 4 4, .slice (some ⟨w3.heap.size + 1 + 1 + 1 + 1 + 1, 0, none⟩) 5 5] 26))).but2 hb4 (by omega))
    have m0 := ((ownMade w3 [0]).ext (((((((Ext.refl _).alloc (.cells #[.int .i64 80] 2)).alloc (.cells #[.int .i64 81] 2)).alloc (.cells #[.int .i64 10, .int .i64 10] 2)).alloc (.cells #[.int .i64 1, .int .i64 2, .int .i64 3, .int .i64 4] 2)).alloc (.cells #[.int .i64 1, .int .i64 2, .int .i64 3, .int .i64 4, .int .i64 5] 2)).alloc (.cells #[.slice none 0 0, .slice (some ⟨w3.heap.size, 0, none⟩) 1 1, .slice (some ⟨w3.heap.size + 1, 0, none⟩) 1 1, .slice (some ⟨w3.heap.size + 1 + 1, 0, none⟩) 1 1, .slice (some ⟨w3.heap.size + 1 + 1 + 1, 0, none⟩) 2 2, .slice (some ⟨w3.heap.size + 1 + 1 + 1 + 1, 0, none⟩) 4 4, .slice (some ⟨w3.heap.size + 1 + 1 + 1 + 1 + 1, 0, none⟩) 5 5] 26))).but2 hb4 (by first | omega | (simp; omega))
    (try simp only [World.size_alloc] at m0)
    have m1 := ((ownMade (w3.alloc (.cells #[.int .i64 0] 2)) [80]).ext ((((((Ext.refl _).alloc (.cells #[.int .i64 81] 2)).alloc (.cells #[.int .i64 10, .int .i64 10] 2)).alloc (.cells #[.int .i64 1, .int .i64 2, .int .i64 3, .int .i64 4] 2)).alloc (.cells #[.int .i64 1, .int .i64 2, .int .i64 3, .int .i64 4, .int .i64 5] 2)).alloc (.cells #[.slice none 0 0, .slice (some ⟨w3.heap.size, 0, none⟩) 1 1, .slice (some ⟨w3.heap.size + 1, 0, none⟩) 1 1, .slice (some ⟨w3.heap.size + 1 + 1, 0, none⟩) 1 1, .slice (some ⟨w3.heap.size + 1 + 1 + 1, 0, none⟩) 2 2, .slice (some ⟨w3.heap.size + 1 + 1 + 1 + 1, 0, none⟩) 4 4, .slice (some ⟨w3.heap.size + 1 + 1 + 1 + 1 + 1, 0, none⟩) 5 5] 26))).but2 hb4 (by first | omega | (simp; omega))
    (try simp only [World.size_alloc] at m1)
    have m2 := ((ownMade ((w3.alloc (.cells #[.int .i64 0] 2)).alloc (.cells #[.int .i64 80] 2)) [81]).ext (((((Ext.refl _).alloc (.cells #[.int .i64 10, .int .i64 10] 2)).alloc (.cells #[.int .i64 1, .int .i64 2, .int .i64 3, .int .i64 4] 2)).alloc (.cells #[.int .i64 1, .int .i64 2, .int .i64 3, .int .i64 4, .int .i64 5] 2)).alloc (.cells #[.slice none 0 0, .slice (some ⟨w3.heap.size, 0, none⟩) 1 1, .slice (some ⟨w3.heap.size + 1, 0, none⟩) 1 1, .slice (some ⟨w3.heap.size + 1 + 1, 0, none⟩) 1 1, .slice (some ⟨w3.heap.size + 1 + 1 + 1, 0, none⟩) 2 2, .slice (some ⟨w3.heap.size + 1 + 1 + 1 + 1, 0, none⟩) 4 4, .slice (some ⟨w3.heap.size + 1 + 1 + 1 + 1 + 1, 0, none⟩) 5 5] 26))).but2 hb4 (by first | omega | (simp; omega))
    (try simp only [World.size_alloc] at m2)
    have m3 := ((ownMade (((w3.alloc (.cells #[.int .i64 0] 2)).alloc (.cells #[.int .i64 80] 2)).alloc (.cells #[.int .i64 81] 2)) [10, 10]).ext ((((Ext.refl _).alloc (.cells #[.int .i64 1, .int .i64 2, .int .i64 3, .int .i64 4] 2)).alloc (.cells #[.int .i64 1, .int .i64 2, .int .i64 3, .int .i64 4, .int .i64 5] 2)).alloc (.cells #[.slice none 0 0, .slice (some ⟨w3.heap.size, 0, none⟩) 1 1, .slice (some ⟨w3.heap.size + 1, 0, none⟩) 1 1, .slice (some ⟨w3.heap.size + 1 + 1, 0, none⟩) 1 1, .slice (some ⟨w3.heap.size + 1 + 1 + 1, 0, none⟩) 2 2, .slice (some ⟨w3.heap.size + 1 + 1 + 1 + 1, 0, none⟩) 4 4, .slice (some ⟨w3.heap.size + 1 + 1 + 1 + 1 + 1, 0, none⟩) 5 5] 26))).but2 hb4 (by first | omega | (simp; omega))
    (try simp only [World.size_alloc] at m3)
    have m4 := ((ownMade ((((w3.alloc (.cells #[.int .i64 0] 2)).alloc (.cells #[.int .i64 80] 2)).alloc (.cells #[.int .i64 81] 2)).alloc (.cells #[.int .i64 10, .int .i64 10] 2)) [1, 2, 3, 4]).ext (((Ext.refl _).alloc (.cells #[.int .i64 1, .int .i64 2, .int .i64 3, .int .i64 4, .int .i64 5] 2)).alloc (.cells #[.slice none 0 0, .slice (some ⟨w3.heap.size, 0, none⟩) 1 1, .slice (some ⟨w3.heap.size + 1, 0, none⟩) 1 1, .slice (some ⟨w3.heap.size + 1 + 1, 0, none⟩) 1 1, .slice (some ⟨w3.heap.size + 1 + 1 + 1, 0, none⟩) 2 2, .slice (some ⟨w3.heap.size + 1 + 1 + 1 + 1, 0, none⟩) 4 4, .slice (some ⟨w3.heap.size + 1 + 1 + 1 + 1 + 1, 0, none⟩) 5 5] 26))).but2 hb4 (by first | omega | (simp; omega))
    (try simp only [World.size_alloc] at m4)
    have m5 := ((ownMade (((((w3.alloc (.cells #[.int .i64 0] 2)).alloc (.cells #[.int .i64 80] 2)).alloc (.cells #[.int .i64 81] 2)).alloc (.cells #[.int .i64 10, .int .i64 10] 2)).alloc (.cells #[.int .i64 1, .int .i64 2, .int .i64 3, .int .i64 4] 2)) [1, 2, 3, 4, 5]).ext ((Ext.refl _).alloc (.cells #[.slice none 0 0, .slice (some ⟨w3.heap.size, 0, none⟩) 1 1, .slice (some ⟨w3.heap.size + 1, 0, none⟩) 1 1, .slice (some ⟨w3.heap.size + 1 + 1, 0, none⟩) 1 1, .slice (some ⟨w3.heap.size + 1 + 1 + 1, 0, none⟩) 2 2, .slice (some ⟨w3.heap.size + 1 + 1 + 1 + 1, 0, none⟩) 4 4, .slice (some ⟨w3.heap.size + 1 + 1 + 1 + 1 + 1, 0, none⟩) 5 5] 26))).but2 hb4 (by first | omega | (simp; omega))
    (try simp only [World.size_alloc] at m5)
    have hsz := (Blk.new ((((((w3.alloc (.cells #[.int .i64 0] 2)).alloc (.cells #[.int .i64 80] 2)).alloc (.cells #[.int .i64 81] 2)).alloc (.cells #[.int .i64 10, .int .i64 10] 2)).alloc (.cells #[.int .i64 1, .int .i64 2, .int .i64 3, .int .i64 4] 2)).alloc (.cells #[.int .i64 1, .int .i64 2, .int .i64 3, .int .i64 4, .int .i64 5] 2)) #[.slice none 0 0, .slice (some ⟨w3.heap.size, 0, none⟩) 1 1, .slice (some ⟨w3.heap.size + 1, 0, none⟩) 1 1, .slice (some ⟨w3.heap.size + 1 + 1, 0, none⟩) 1 1, .slice (some ⟨w3.heap.size + 1 + 1 + 1, 0, none⟩) 2 2, .slice (some ⟨w3.heap.size + 1 + 1 + 1 + 1, 0, none⟩) 4 4, .slice (some ⟨w3.heap.size + 1 + 1 + 1 + 1 + 1, 0, none⟩) 5 5] 26).but hb4 (by first | omega | (simp; omega))
    (try simp only [World.size_alloc] at hsz)
    obtain ⟨vp, vl, vc, hv, hvb, ov, on⟩ : ∃ (vp : Option Addr) (vl : List Int) (vc : Nat), (#[.slice none 0 0, .slice (some ⟨w3.heap.size, 0, none⟩) 1 1, .slice (some ⟨w3.heap.size + 1, 0, none⟩) 1 1, .slice (some ⟨w3.heap.size + 1 + 1, 0, none⟩) 1 1, .slice (some ⟨w3.heap.size + 1 + 1 + 1, 0, none⟩) 2 2, .slice (some ⟨w3.heap.size + 1 + 1 + 1 + 1, 0, none⟩) 4 4, .slice (some ⟨w3.heap.size + 1 + 1 + 1 + 1 + 1, 0, none⟩) 5 5] : Array Value)[j]? = some (.slice vp vl.length vc) ∧ vl.length ≤ 100 ∧ OwnInts (w.heap.size + 1) w4 vp vl ∧ (∀ b o, 0 < vl.length → vp = some ⟨b, o, none⟩ → b ≠ x) := by
      have : j = 0 ∨ j = 1 ∨ j = 2 ∨ j = 3 ∨ j = 4 ∨ j = 5 ∨ j = 6 := by omega
      rcases this with rfl | rfl | rfl | rfl | rfl | rfl | rfl
      · exact ⟨none, [], 0, rfl, by simp, OwnInts.nil _ _ _, fun b o _ e => by simp at e⟩
      · exact ⟨_, [0], 1, rfl, by simp, m0.mono (by omega), fun b o _ e => by simp at e; omega⟩
      · exact ⟨_, [80], 1, rfl, by simp, m1.mono (by omega), fun b o _ e => by simp at e; omega⟩
      · exact ⟨_, [81], 1, rfl, by simp, m2.mono (by omega), fun b o _ e => by simp at e; omega⟩
      · exact ⟨_, [10, 10], 2, rfl, by simp, m3.mono (by omega), fun b o _ e => by simp at e; omega⟩
      · exact ⟨_, [1, 2, 3, 4], 4, rfl, by simp, m4.mono (by omega), fun b o _ e => by simp at e; omega⟩
      · exact ⟨_, [1, 2, 3, 4, 5], 5, rfl, by simp, m5.mono (by omega), fun b o _ e => by simp at e; omega⟩
    have s0 := hsz.cell hv
    have sl := hsz.lt
    replace hs4 := Lib.hid hs4
    replace hr4 := Lib.hid hr4
    clear hb4 hv hsz hz9 hz0 hbr3 hbx3 m0 m1 m2 m3 m4 m5
    have x0 := hbx4.cell (i := 0) (v := .string nm) rfl; have x1 := hbx4.cell (i := 1) (v := .int .i64 kd) rfl; have x2 := hbx4.cell (i := 2) (v := .int .i64 p) rfl; have x3 := hbx4.cell (i := 3) (v := .int .i64 k) rfl; have x4 := hbx4.cell (i := 4) (v := .int .i64 q) rfl; have x5 := hbx4.cell (i := 5) (v := .slice ps ss.length cs) rfl; have x6 := hbx4.cell (i := 6) (v := .int .i64 co) rfl; have x7 := hbx4.cell (i := 7) (v := .slice pl ls.length cl) rfl; have xL := hbx4.lt; have xF := hbx4.free
    have r0 := hbr4.cell (i := 0) (v := .string ⟨#[]⟩) rfl; have r1 := hbr4.cell (i := 1) (v := .int .i64 0) rfl; have r2 := hbr4.cell (i := 2) (v := .int .i64 0) rfl; have r3 := hbr4.cell (i := 3) (v := .int .i64 0) rfl; have r4 := hbr4.cell (i := 4) (v := .int .i64 0) rfl; have r5 := hbr4.cell (i := 5) (v := .slice none 0 0) rfl; have r6 := hbr4.cell (i := 6) (v := .int .i64 0) rfl; have r7 := hbr4.cell (i := 7) (v := .slice none 0 0) rfl; have rL := hbr4.lt; have rF := hbr4.free
    go_wp2_with fail
    have hbF : Blk (w4.setCell ⟨x, 7, none⟩ (.slice vp vl.length vc)) w.heap.size fam0 28 := (hbr4.far hne2 (.slice vp vl.length vc) (i := 7))
    have hbT : But x w4 (w4.setCell ⟨x, 7, none⟩ (.slice vp vl.length vc)) := (But.refl x w4).setG (.slice vp vl.length vc) (i := 7)
    have hF := hbF.fam (.string nm) (.int .i64 kd) (.int .i64 p) (.int .i64 k) (.int .i64 q) (.slice ps ss.length cs) (.int .i64 co) (.slice vp vl.length vc)
    have hB9 := But.fam (w4.setCell ⟨x, 7, none⟩ (.slice vp vl.length vc)) w.heap.size (.string nm) (.int .i64 kd) (.int .i64 p) (.int .i64 k) (.int .i64 q) (.slice ps ss.length cs) (.int .i64 co) (.slice vp vl.length vc)
    have d0 := hF.cell (i := 0) (v := .string nm) rfl; have d1 := hF.cell (i := 1) (v := .int .i64 kd) rfl; have d2 := hF.cell (i := 2) (v := .int .i64 p) rfl; have d3 := hF.cell (i := 3) (v := .int .i64 k) rfl; have d4 := hF.cell (i := 4) (v := .int .i64 q) rfl; have d5 := hF.cell (i := 5) (v := .slice ps ss.length cs) rfl; have d6 := hF.cell (i := 6) (v := .int .i64 co) rfl; have d7 := hF.cell (i := 7) (v := .slice vp vl.length vc) rfl
    have z5 := (OwnInts.farO o5.out hbT hnp.out).but2 hB9 (by omega)
    have z6 := (OwnInts.farO ov hbT on).but2 hB9 (by omega)
    have hlow : Below w.heap.size w4 (setFam (w4.setCell ⟨x, 7, none⟩ (.slice vp vl.length vc)) w.heap.size (.string nm) (.int .i64 kd) (.int .i64 p) (.int .i64 k) (.int .i64 q) (.slice ps ss.length cs) (.int .i64 co) (.slice vp vl.length vc)) := by
      unfold setFam
      exact ((((((((((Below.refl _ _).setCell (p := ⟨x, 7, none⟩) hxw (.slice vp vl.length vc)).setCell (p := ⟨w.heap.size, 0, none⟩) (Nat.le_refl _) _).setCell (p := ⟨w.heap.size, 1, none⟩) (Nat.le_refl _) _).setCell (p := ⟨w.heap.size, 2, none⟩) (Nat.le_refl _) _).setCell (p := ⟨w.heap.size, 3, none⟩) (Nat.le_refl _) _).setCell (p := ⟨w.heap.size, 4, none⟩) (Nat.le_refl _) _).setCell (p := ⟨w.heap.size, 5, none⟩) (Nat.le_refl _) _).setCell (p := ⟨w.heap.size, 6, none⟩) (Nat.le_refl _) _).setCell (p := ⟨w.heap.size, 7, none⟩) (Nat.le_refl _) _)
    unfold setFam at d0 d1 d2 d3 d4 d5 d6 d7 z5 z6 hlow
    exact bodyPost_ret (v := .agg #[.string nm, .int .i64 kd, .int .i64 p, .int .i64 k, .int .i64 q, .slice ps ss.length cs, .int .i64 co, .slice vp vl.length vc]) (by simp [results, Tryz.results11, go_sem, d0, d1, d2, d3, d4, d5, d6, d7]) rfl ⟨⟨nm, kd, p, k, q, ps, cs, ss, co, vp, vc, vl⟩, rfl, ⟨hnm, hsl, hvb, z5.mono (by omega), z6.mono (by omega)⟩, hs4.out.low hlow hn0, hr4.out.below hlow (Nat.le_refl _)⟩
  · go_wp2_with fail
    refine (Next_c n0 g 4 _ (hs3.out.ext ((Ext.refl w3).alloc (.cells #[.int .i64 0, .int .i64 1, .int .i64 8, .int .i64 9] 2))) (by first | omega | (simp; omega))).mono ?_
    rintro e w4 ⟨z, rfl, hz0, hz9, -, hs4, hb4⟩
    replace hz9 := hz9 (by omega)
    obtain ⟨j, rfl⟩ : ∃ j : Nat, z = j := ⟨z.toNat, by omega⟩
    have hj9 : (j : Int) < 4 := hz9
    have hz4 := hb4.size
    simp only [World.size_alloc] at hz4
    have hbx4 := (hbx3.ext ((Ext.refl w3).alloc (.cells #[.int .i64 0, .int .i64 1, .int .i64 8, .int .i64 9] 2))).but hb4 (by omega)
    have hbr4 := (hbr3.ext ((Ext.refl w3).alloc (.cells #[.int .i64 0, .int .i64 1, .int .i64 8, .int .i64 9] 2))).but hb4 (by omega)
    have hr4 := (hr3.out.trans (But.of ((Ext.refl w3).alloc (.cells #[.int .i64 0, .int .i64 1, .int .i64 8, .int .i64 9] 2)))).trans hb4
    have o5 := Lib.hid ((k5.out.ext ((Ext.refl w3).alloc (.cells #[.int .i64 0, .int .i64 1, .int .i64 8, .int .i64 9] 2))).but2 hb4 (by omega))
    have o6 := Lib.hid ((k6.out.ext ((Ext.refl w3).alloc (.cells #[.int .i64 0, .int .i64 1, .int .i64 8, .int .i64 9] 2))).but2 hb4 (by omega))
    have hsz := (Blk.new w3 #[.int .i64 0, .int .i64 1, .int .i64 8, .int .i64 9] 2).but hb4 (by first | omega | (simp; omega))
    (try simp only [World.size_alloc] at hsz)
    obtain ⟨v, hv⟩ : ∃ v : Int, (#[.int .i64 0, .int .i64 1, .int .i64 8, .int .i64 9] : Array Value)[j]? = some (.int .i64 v) := by
      have : j = 0 ∨ j = 1 ∨ j = 2 ∨ j = 3 := by omega
      rcases this with rfl | rfl | rfl | rfl
      all_goals exact ⟨_, rfl⟩
    have s0 := hsz.cell hv
    have sl := hsz.lt
    replace hs4 := Lib.hid hs4
    replace hr4 := Lib.hid hr4
    clear hb4 hv hsz hz9 hz0 hbr3 hbx3 
    have x0 := hbx4.cell (i := 0) (v := .string nm) rfl; have x1 := hbx4.cell (i := 1) (v := .int .i64 kd) rfl; have x2 := hbx4.cell (i := 2) (v := .int .i64 p) rfl; have x3 := hbx4.cell (i := 3) (v := .int .i64 k) rfl; have x4 := hbx4.cell (i := 4) (v := .int .i64 q) rfl; have x5 := hbx4.cell (i := 5) (v := .slice ps ss.length cs) rfl; have x6 := hbx4.cell (i := 6) (v := .int .i64 co) rfl; have x7 := hbx4.cell (i := 7) (v := .slice pl ls.length cl) rfl; have xL := hbx4.lt; have xF := hbx4.free
    have r0 := hbr4.cell (i := 0) (v := .string ⟨#[]⟩) rfl; have r1 := hbr4.cell (i := 1) (v := .int .i64 0) rfl; have r2 := hbr4.cell (i := 2) (v := .int .i64 0) rfl; have r3 := hbr4.cell (i := 3) (v := .int .i64 0) rfl; have r4 := hbr4.cell (i := 4) (v := .int .i64 0) rfl; have r5 := hbr4.cell (i := 5) (v := .slice none 0 0) rfl; have r6 := hbr4.cell (i := 6) (v := .int .i64 0) rfl; have r7 := hbr4.cell (i := 7) (v := .slice none 0 0) rfl; have rL := hbr4.lt; have rF := hbr4.free
    go_wp2_with fail
    have hbF : Blk (w4.setCell ⟨x, 6, none⟩ (.int .i64 v)) w.heap.size fam0 28 := (hbr4.far hne2 (.int .i64 v) (i := 6))
    have hbT : But x w4 (w4.setCell ⟨x, 6, none⟩ (.int .i64 v)) := (But.refl x w4).setG (.int .i64 v) (i := 6)
    have hF := hbF.fam (.string nm) (.int .i64 kd) (.int .i64 p) (.int .i64 k) (.int .i64 q) (.slice ps ss.length cs) (.int .i64 v) (.slice pl ls.length cl)
    have hB9 := But.fam (w4.setCell ⟨x, 6, none⟩ (.int .i64 v)) w.heap.size (.string nm) (.int .i64 kd) (.int .i64 p) (.int .i64 k) (.int .i64 q) (.slice ps ss.length cs) (.int .i64 v) (.slice pl ls.length cl)
    have d0 := hF.cell (i := 0) (v := .string nm) rfl; have d1 := hF.cell (i := 1) (v := .int .i64 kd) rfl; have d2 := hF.cell (i := 2) (v := .int .i64 p) rfl; have d3 := hF.cell (i := 3) (v := .int .i64 k) rfl; have d4 := hF.cell (i := 4) (v := .int .i64 q) rfl; have d5 := hF.cell (i := 5) (v := .slice ps ss.length cs) rfl; have d6 := hF.cell (i := 6) (v := .int .i64 v) rfl; have d7 := hF.cell (i := 7) (v := .slice pl ls.length cl) rfl
    have z5 := (OwnInts.farO o5.out hbT hnp.out).but2 hB9 (by omega)
    have z6 := (OwnInts.farO o6.out hbT hnl.out).but2 hB9 (by omega)
    have hlow : Below w.heap.size w4 (setFam (w4.setCell ⟨x, 6, none⟩ (.int .i64 v)) w.heap.size (.string nm) (.int .i64 kd) (.int .i64 p) (.int .i64 k) (.int .i64 q) (.slice ps ss.length cs) (.int .i64 v) (.slice pl ls.length cl)) := by
      unfold setFam
      exact ((((((((((Below.refl _ _).setCell (p := ⟨x, 6, none⟩) hxw (.int .i64 v)).setCell (p := ⟨w.heap.size, 0, none⟩) (Nat.le_refl _) _).setCell (p := ⟨w.heap.size, 1, none⟩) (Nat.le_refl _) _).setCell (p := ⟨w.heap.size, 2, none⟩) (Nat.le_refl _) _).setCell (p := ⟨w.heap.size, 3, none⟩) (Nat.le_refl _) _).setCell (p := ⟨w.heap.size, 4, none⟩) (Nat.le_refl _) _).setCell (p := ⟨w.heap.size, 5, none⟩) (Nat.le_refl _) _).setCell (p := ⟨w.heap.size, 6, none⟩) (Nat.le_refl _) _).setCell (p := ⟨w.heap.size, 7, none⟩) (Nat.le_refl _) _)
    unfold setFam at d0 d1 d2 d3 d4 d5 d6 d7 z5 z6 hlow
    exact bodyPost_ret (v := .agg #[.string nm, .int .i64 kd, .int .i64 p, .int .i64 k, .int .i64 q, .slice ps ss.length cs, .int .i64 v, .slice pl ls.length cl]) (by simp [results, Tryz.results11, go_sem, d0, d1, d2, d3, d4, d5, d6, d7]) rfl ⟨⟨nm, kd, p, k, q, ps, cs, ss, v, pl, cl, ls⟩, rfl, ⟨hnm, hsl, hll, z5.mono (by omega), z6.mono (by omega)⟩, hs4.out.low hlow hn0, hr4.out.below hlow (Nat.le_refl _)⟩
  · go_wp2_with fail
    refine (l02DrawAny_c n0 g _ hs3.out (by omega)).mono ?_
    rintro e w4 ⟨ap, ak, aq, rfl, -, hs4, hb4⟩
    have hz4 := hb4.size
    have hbx4 := hbx3.but hb4 (by omega)
    have hbr4 := hbr3.but hb4 (by omega)
    have hr4 := Lib.hid (hr3.out.trans hb4)
    have o5 := Lib.hid (k5.out.but2 hb4 (by omega))
    have o6 := Lib.hid (k6.out.but2 hb4 (by omega))
    replace hs4 := Lib.hid hs4
    clear hb4 hbx3 hbr3
    have x0 := hbx4.cell (i := 0) (v := .string nm) rfl; have x1 := hbx4.cell (i := 1) (v := .int .i64 kd) rfl; have x2 := hbx4.cell (i := 2) (v := .int .i64 p) rfl; have x3 := hbx4.cell (i := 3) (v := .int .i64 k) rfl; have x4 := hbx4.cell (i := 4) (v := .int .i64 q) rfl; have x5 := hbx4.cell (i := 5) (v := .slice ps ss.length cs) rfl; have x6 := hbx4.cell (i := 6) (v := .int .i64 co) rfl; have x7 := hbx4.cell (i := 7) (v := .slice pl ls.length cl) rfl; have xL := hbx4.lt; have xF := hbx4.free
    have r0 := hbr4.cell (i := 0) (v := .string ⟨#[]⟩) rfl; have r1 := hbr4.cell (i := 1) (v := .int .i64 0) rfl; have r2 := hbr4.cell (i := 2) (v := .int .i64 0) rfl; have r3 := hbr4.cell (i := 3) (v := .int .i64 0) rfl; have r4 := hbr4.cell (i := 4) (v := .int .i64 0) rfl; have r5 := hbr4.cell (i := 5) (v := .slice none 0 0) rfl; have r6 := hbr4.cell (i := 6) (v := .int .i64 0) rfl; have r7 := hbr4.cell (i := 7) (v := .slice none 0 0) rfl; have rL := hbr4.lt; have rF := hbr4.free
    go_wp2_with fail
    have hbF : Blk (((w4.setCell ⟨x, 2, none⟩ (.int .i64 ap)).setCell ⟨x, 3, none⟩ (.int .i64 ak)).setCell ⟨x, 4, none⟩ (.int .i64 aq)) w.heap.size fam0 28 := (((hbr4.far hne2 (.int .i64 ap) (i := 2)).far hne2 (.int .i64 ak) (i := 3)).far hne2 (.int .i64 aq) (i := 4))
    have hbT : But x w4 (((w4.setCell ⟨x, 2, none⟩ (.int .i64 ap)).setCell ⟨x, 3, none⟩ (.int .i64 ak)).setCell ⟨x, 4, none⟩ (.int .i64 aq)) := (((But.refl x w4).setG (.int .i64 ap) (i := 2)).setG (.int .i64 ak) (i := 3)).setG (.int .i64 aq) (i := 4)
    have hF := hbF.fam (.string nm) (.int .i64 kd) (.int .i64 ap) (.int .i64 ak) (.int .i64 aq) (.slice ps ss.length cs) (.int .i64 co) (.slice pl ls.length cl)
    have hB9 := But.fam (((w4.setCell ⟨x, 2, none⟩ (.int .i64 ap)).setCell ⟨x, 3, none⟩ (.int .i64 ak)).setCell ⟨x, 4, none⟩ (.int .i64 aq)) w.heap.size (.string nm) (.int .i64 kd) (.int .i64 ap) (.int .i64 ak) (.int .i64 aq) (.slice ps ss.length cs) (.int .i64 co) (.slice pl ls.length cl)
    have d0 := hF.cell (i := 0) (v := .string nm) rfl; have d1 := hF.cell (i := 1) (v := .int .i64 kd) rfl; have d2 := hF.cell (i := 2) (v := .int .i64 ap) rfl; have d3 := hF.cell (i := 3) (v := .int .i64 ak) rfl; have d4 := hF.cell (i := 4) (v := .int .i64 aq) rfl; have d5 := hF.cell (i := 5) (v := .slice ps ss.length cs) rfl; have d6 := hF.cell (i := 6) (v := .int .i64 co) rfl; have d7 := hF.cell (i := 7) (v := .slice pl ls.length cl) rfl
    have z5 := (OwnInts.farO o5.out hbT hnp.out).but2 hB9 (by omega)
    have z6 := (OwnInts.farO o6.out hbT hnl.out).but2 hB9 (by omega)
    have hlow : Below w.heap.size w4 (setFam (((w4.setCell ⟨x, 2, none⟩ (.int .i64 ap)).setCell ⟨x, 3, none⟩ (.int .i64 ak)).setCell ⟨x, 4, none⟩ (.int .i64 aq)) w.heap.size (.string nm) (.int .i64 kd) (.int .i64 ap) (.int .i64 ak) (.int .i64 aq) (.slice ps ss.length cs) (.int .i64 co) (.slice pl ls.length cl)) := by
      unfold setFam
      exact ((((((((((((Below.refl _ _).setCell (p := ⟨x, 2, none⟩) hxw (.int .i64 ap)).setCell (p := ⟨x, 3, none⟩) hxw (.int .i64 ak)).setCell (p := ⟨x, 4, none⟩) hxw (.int .i64 aq)).setCell (p := ⟨w.heap.size, 0, none⟩) (Nat.le_refl _) _).setCell (p := ⟨w.heap.size, 1, none⟩) (Nat.le_refl _) _).setCell (p := ⟨w.heap.size, 2, none⟩) (Nat.le_refl _) _).setCell (p := ⟨w.heap.size, 3, none⟩) (Nat.le_refl _) _).setCell (p := ⟨w.heap.size, 4, none⟩) (Nat.le_refl _) _).setCell (p := ⟨w.heap.size, 5, none⟩) (Nat.le_refl _) _).setCell (p := ⟨w.heap.size, 6, none⟩) (Nat.le_refl _) _).setCell (p := ⟨w.heap.size, 7, none⟩) (Nat.le_refl _) _)
    unfold setFam at d0 d1 d2 d3 d4 d5 d6 d7 z5 z6 hlow
    exact bodyPost_ret (v := .agg #[.string nm, .int .i64 kd, .int .i64 ap, .int .i64 ak, .int .i64 aq, .slice ps ss.length cs, .int .i64 co, .slice pl ls.length cl]) (by simp [results, Tryz.results11, go_sem, d0, d1, d2, d3, d4, d5, d6, d7]) rfl ⟨⟨nm, kd, ap, ak, aq, ps, cs, ss, co, pl, cl, ls⟩, rfl, ⟨hnm, hsl, hll, z5.mono (by omega), z6.mono (by omega)⟩, hs4.out.low hlow hn0, hr4.out.below hlow (Nat.le_refl _)⟩
  · go_upto_region 17 with (go_at_call 30; (with_reducible refine (FieldOf_c 8 _ (by omega)).mono ?_); rintro e w4 ⟨ap, ak, aq, fc, rfl, -, hx4⟩)
    have hz4 := hx4.below.size
    have hbx4 := hbx3.ext hx4
    have hbr4 := hbr3.ext hx4
    have hr4 := Lib.hid (hr3.out.trans (But.of (hx4.trans ((((Ext.refl w4).alloc (.cells #[.int .i64 ap, .int .i64 ak, .int .i64 aq] 25)).alloc (.cells #[.int .i64 17, .int .i64 33, .int .i64 41] 2)).alloc (.cells #[.int .i64 30, .int .i64 80] 2)))))
    have hs4 := Lib.hid (hs3.out.ext (hx4.trans ((((Ext.refl w4).alloc (.cells #[.int .i64 ap, .int .i64 ak, .int .i64 aq] 25)).alloc (.cells #[.int .i64 17, .int .i64 33, .int .i64 41] 2)).alloc (.cells #[.int .i64 30, .int .i64 80] 2))))
    have o5 := (((ownMade (w4.alloc (.cells #[.int .i64 ap, .int .i64 ak, .int .i64 aq] 25)) [17, 33, 41]).ext ((Ext.refl _).alloc (.cells #[.int .i64 30, .int .i64 80] 2))).mono (B' := w.heap.size + 1) (by first | omega | (simp; omega)))
    have o6 := ((ownMade ((w4.alloc (.cells #[.int .i64 ap, .int .i64 ak, .int .i64 aq] 25)).alloc (.cells #[.int .i64 17, .int .i64 33, .int .i64 41] 2)) [30, 80]).mono (B' := w.heap.size + 1) (by first | omega | (simp; omega)))
    simp only [World.size_alloc] at o5 o6
    replace o5 := Lib.hid o5; replace o6 := Lib.hid o6
    clear hbx3 hbr3 hx4
    have x0 := hbx4.cell (i := 0) (v := .string nm) rfl; have x1 := hbx4.cell (i := 1) (v := .int .i64 kd) rfl; have x2 := hbx4.cell (i := 2) (v := .int .i64 p) rfl; have x3 := hbx4.cell (i := 3) (v := .int .i64 k) rfl; have x4 := hbx4.cell (i := 4) (v := .int .i64 q) rfl; have x5 := hbx4.cell (i := 5) (v := .slice ps ss.length cs) rfl; have x6 := hbx4.cell (i := 6) (v := .int .i64 co) rfl; have x7 := hbx4.cell (i := 7) (v := .slice pl ls.length cl) rfl; have xL := hbx4.lt; have xF := hbx4.free
    have r0 := hbr4.cell (i := 0) (v := .string ⟨#[]⟩) rfl; have r1 := hbr4.cell (i := 1) (v := .int .i64 0) rfl; have r2 := hbr4.cell (i := 2) (v := .int .i64 0) rfl; have r3 := hbr4.cell (i := 3) (v := .int .i64 0) rfl; have r4 := hbr4.cell (i := 4) (v := .int .i64 0) rfl; have r5 := hbr4.cell (i := 5) (v := .slice none 0 0) rfl; have r6 := hbr4.cell (i := 6) (v := .int .i64 0) rfl; have r7 := hbr4.cell (i := 7) (v := .slice none 0 0) rfl; have rL := hbr4.lt; have rF := hbr4.free
    have hbr5 := ((hbr4.alloc (.cells #[.int .i64 ap, .int .i64 ak, .int .i64 aq] 25)).alloc (.cells #[.int .i64 17, .int .i64 33, .int .i64 41] 2)).alloc (.cells #[.int .i64 30, .int .i64 80] 2)
    have hbx5 := ((hbx4.alloc (.cells #[.int .i64 ap, .int .i64 ak, .int .i64 aq] 25)).alloc (.cells #[.int .i64 17, .int .i64 33, .int .i64 41] 2)).alloc (.cells #[.int .i64 30, .int .i64 80] 2)
    have y0 := hbx5.cell (i := 0) (v := .string nm) rfl; have y1 := hbx5.cell (i := 1) (v := .int .i64 kd) rfl; have y2 := hbx5.cell (i := 2) (v := .int .i64 p) rfl; have y3 := hbx5.cell (i := 3) (v := .int .i64 k) rfl; have y4 := hbx5.cell (i := 4) (v := .int .i64 q) rfl; have y5 := hbx5.cell (i := 5) (v := .slice ps ss.length cs) rfl; have y6 := hbx5.cell (i := 6) (v := .int .i64 co) rfl; have y7 := hbx5.cell (i := 7) (v := .slice pl ls.length cl) rfl; have yL := hbx5.lt; have yF := hbx5.free
    have s0 := hbr5.cell (i := 0) (v := .string ⟨#[]⟩) rfl; have s1 := hbr5.cell (i := 1) (v := .int .i64 0) rfl; have s2 := hbr5.cell (i := 2) (v := .int .i64 0) rfl; have s3 := hbr5.cell (i := 3) (v := .int .i64 0) rfl; have s4 := hbr5.cell (i := 4) (v := .int .i64 0) rfl; have s5 := hbr5.cell (i := 5) (v := .slice none 0 0) rfl; have s6 := hbr5.cell (i := 6) (v := .int .i64 0) rfl; have s7 := hbr5.cell (i := 7) (v := .slice none 0 0) rfl; have sL := hbr5.lt; have sF := hbr5.free
    go_wp2_with fail
    have hxx : x < w4.heap.size := by omega
    have hbF : Blk (((((((((((w4.alloc (.cells #[.int .i64 ap, .int .i64 ak, .int .i64 aq] 25)).alloc (.cells #[.int .i64 17, .int .i64 33, .int .i64 41] 2)).alloc (.cells #[.int .i64 30, .int .i64 80] 2)).setCell ⟨x, 0, none⟩ (.string ⟨#[115, 109, 97, 108, 108]⟩)).setCell ⟨x, 1, none⟩ (.int .i64 1)).setCell ⟨x, 2, none⟩ (.int .i64 ap)).setCell ⟨x, 3, none⟩ (.int .i64 ak)).setCell ⟨x, 4, none⟩ (.int .i64 aq)).setCell ⟨x, 5, none⟩ (.slice (some ⟨w4.heap.size + 1, 0, none⟩) 3 3)).setCell ⟨x, 6, none⟩ (.int .i64 0)).setCell ⟨x, 7, none⟩ (.slice (some ⟨w4.heap.size + 1 + 1, 0, none⟩) 2 2)) w.heap.size fam0 28 := ((((((((hbr5.far hne2 (.string ⟨#[115, 109, 97, 108, 108]⟩) (i := 0)).far hne2 (.int .i64 1) (i := 1)).far hne2 (.int .i64 ap) (i := 2)).far hne2 (.int .i64 ak) (i := 3)).far hne2 (.int .i64 aq) (i := 4)).far hne2 (.slice (some ⟨w4.heap.size + 1, 0, none⟩) 3 3) (i := 5)).far hne2 (.int .i64 0) (i := 6)).far hne2 (.slice (some ⟨w4.heap.size + 1 + 1, 0, none⟩) 2 2) (i := 7))
    have hbT : But x (((w4.alloc (.cells #[.int .i64 ap, .int .i64 ak, .int .i64 aq] 25)).alloc (.cells #[.int .i64 17, .int .i64 33, .int .i64 41] 2)).alloc (.cells #[.int .i64 30, .int .i64 80] 2)) (((((((((((w4.alloc (.cells #[.int .i64 ap, .int .i64 ak, .int .i64 aq] 25)).alloc (.cells #[.int .i64 17, .int .i64 33, .int .i64 41] 2)).alloc (.cells #[.int .i64 30, .int .i64 80] 2)).setCell ⟨x, 0, none⟩ (.string ⟨#[115, 109, 97, 108, 108]⟩)).setCell ⟨x, 1, none⟩ (.int .i64 1)).setCell ⟨x, 2, none⟩ (.int .i64 ap)).setCell ⟨x, 3, none⟩ (.int .i64 ak)).setCell ⟨x, 4, none⟩ (.int .i64 aq)).setCell ⟨x, 5, none⟩ (.slice (some ⟨w4.heap.size + 1, 0, none⟩) 3 3)).setCell ⟨x, 6, none⟩ (.int .i64 0)).setCell ⟨x, 7, none⟩ (.slice (some ⟨w4.heap.size + 1 + 1, 0, none⟩) 2 2)) := ((((((((But.refl x (((w4.alloc (.cells #[.int .i64 ap, .int .i64 ak, .int .i64 aq] 25)).alloc (.cells #[.int .i64 17, .int .i64 33, .int .i64 41] 2)).alloc (.cells #[.int .i64 30, .int .i64 80] 2))).setG (.string ⟨#[115, 109, 97, 108, 108]⟩) (i := 0)).setG (.int .i64 1) (i := 1)).setG (.int .i64 ap) (i := 2)).setG (.int .i64 ak) (i := 3)).setG (.int .i64 aq) (i := 4)).setG (.slice (some ⟨w4.heap.size + 1, 0, none⟩) 3 3) (i := 5)).setG (.int .i64 0) (i := 6)).setG (.slice (some ⟨w4.heap.size + 1 + 1, 0, none⟩) 2 2) (i := 7)
    have hF := hbF.fam (.string ⟨#[115, 109, 97, 108, 108]⟩) (.int .i64 1) (.int .i64 ap) (.int .i64 ak) (.int .i64 aq) (.slice (some ⟨w4.heap.size + 1, 0, none⟩) 3 3) (.int .i64 0) (.slice (some ⟨w4.heap.size + 1 + 1, 0, none⟩) 2 2)
    have hB9 := But.fam (((((((((((w4.alloc (.cells #[.int .i64 ap, .int .i64 ak, .int .i64 aq] 25)).alloc (.cells #[.int .i64 17, .int .i64 33, .int .i64 41] 2)).alloc (.cells #[.int .i64 30, .int .i64 80] 2)).setCell ⟨x, 0, none⟩ (.string ⟨#[115, 109, 97, 108, 108]⟩)).setCell ⟨x, 1, none⟩ (.int .i64 1)).setCell ⟨x, 2, none⟩ (.int .i64 ap)).setCell ⟨x, 3, none⟩ (.int .i64 ak)).setCell ⟨x, 4, none⟩ (.int .i64 aq)).setCell ⟨x, 5, none⟩ (.slice (some ⟨w4.heap.size + 1, 0, none⟩) 3 3)).setCell ⟨x, 6, none⟩ (.int .i64 0)).setCell ⟨x, 7, none⟩ (.slice (some ⟨w4.heap.size + 1 + 1, 0, none⟩) 2 2)) w.heap.size (.string ⟨#[115, 109, 97, 108, 108]⟩) (.int .i64 1) (.int .i64 ap) (.int .i64 ak) (.int .i64 aq) (.slice (some ⟨w4.heap.size + 1, 0, none⟩) 3 3) (.int .i64 0) (.slice (some ⟨w4.heap.size + 1 + 1, 0, none⟩) 2 2)
    have d0 := hF.cell (i := 0) (v := .string ⟨#[115, 109, 97, 108, 108]⟩) rfl; have d1 := hF.cell (i := 1) (v := .int .i64 1) rfl; have d2 := hF.cell (i := 2) (v := .int .i64 ap) rfl; have d3 := hF.cell (i := 3) (v := .int .i64 ak) rfl; have d4 := hF.cell (i := 4) (v := .int .i64 aq) rfl; have d5 := hF.cell (i := 5) (v := .slice (some ⟨w4.heap.size + 1, 0, none⟩) 3 3) rfl; have d6 := hF.cell (i := 6) (v := .int .i64 0) rfl; have d7 := hF.cell (i := 7) (v := .slice (some ⟨w4.heap.size + 1 + 1, 0, none⟩) 2 2) rfl
    have z5 := (OwnInts.farO o5.out hbT (fun b o _ e => by simp at e; omega)).but2 hB9 (by omega)
    have z6 := (OwnInts.farO o6.out hbT (fun b o _ e => by simp at e; omega)).but2 hB9 (by omega)
    have hlow : Below w.heap.size (((w4.alloc (.cells #[.int .i64 ap, .int .i64 ak, .int .i64 aq] 25)).alloc (.cells #[.int .i64 17, .int .i64 33, .int .i64 41] 2)).alloc (.cells #[.int .i64 30, .int .i64 80] 2)) (setFam (((((((((((w4.alloc (.cells #[.int .i64 ap, .int .i64 ak, .int .i64 aq] 25)).alloc (.cells #[.int .i64 17, .int .i64 33, .int .i64 41] 2)).alloc (.cells #[.int .i64 30, .int .i64 80] 2)).setCell ⟨x, 0, none⟩ (.string ⟨#[115, 109, 97, 108, 108]⟩)).setCell ⟨x, 1, none⟩ (.int .i64 1)).setCell ⟨x, 2, none⟩ (.int .i64 ap)).setCell ⟨x, 3, none⟩ (.int .i64 ak)).setCell ⟨x, 4, none⟩ (.int .i64 aq)).setCell ⟨x, 5, none⟩ (.slice (some ⟨w4.heap.size + 1, 0, none⟩) 3 3)).setCell ⟨x, 6, none⟩ (.int .i64 0)).setCell ⟨x, 7, none⟩ (.slice (some ⟨w4.heap.size + 1 + 1, 0, none⟩) 2 2)) w.heap.size (.string ⟨#[115, 109, 97, 108, 108]⟩) (.int .i64 1) (.int .i64 ap) (.int .i64 ak) (.int .i64 aq) (.slice (some ⟨w4.heap.size + 1, 0, none⟩) 3 3) (.int .i64 0) (.slice (some ⟨w4.heap.size + 1 + 1, 0, none⟩) 2 2)) := by
      unfold setFam
      exact (((((((((((((((((Below.refl _ _).setCell (p := ⟨x, 0, none⟩) hxw (.string ⟨#[115, 109, 97, 108, 108]⟩)).setCell (p := ⟨x, 1, none⟩) hxw (.int .i64 1)).setCell (p := ⟨x, 2, none⟩) hxw (.int .i64 ap)).setCell (p := ⟨x, 3, none⟩) hxw (.int .i64 ak)).setCell (p := ⟨x, 4, none⟩) hxw (.int .i64 aq)).setCell (p := ⟨x, 5, none⟩) hxw (.slice (some ⟨w4.heap.size + 1, 0, none⟩) 3 3)).setCell (p := ⟨x, 6, none⟩) hxw (.int .i64 0)).setCell (p := ⟨x, 7, none⟩) hxw (.slice (some ⟨w4.heap.size + 1 + 1, 0, none⟩) 2 2)).setCell (p := ⟨w.heap.size, 0, none⟩) (Nat.le_refl _) _).setCell (p := ⟨w.heap.size, 1, none⟩) (Nat.le_refl _) _).setCell (p := ⟨w.heap.size, 2, none⟩) (Nat.le_refl _) _).setCell (p := ⟨w.heap.size, 3, none⟩) (Nat.le_refl _) _).setCell (p := ⟨w.heap.size, 4, none⟩) (Nat.le_refl _) _).setCell (p := ⟨w.heap.size, 5, none⟩) (Nat.le_refl _) _).setCell (p := ⟨w.heap.size, 6, none⟩) (Nat.le_refl _) _).setCell (p := ⟨w.heap.size, 7, none⟩) (Nat.le_refl _) _)
    unfold setFam at d0 d1 d2 d3 d4 d5 d6 d7 z5 z6 hlow
    exact bodyPost_ret (v := .agg #[.string ⟨#[115, 109, 97, 108, 108]⟩, .int .i64 1, .int .i64 ap, .int .i64 ak, .int .i64 aq, .slice (some ⟨w4.heap.size + 1, 0, none⟩) 3 3, .int .i64 0, .slice (some ⟨w4.heap.size + 1 + 1, 0, none⟩) 2 2]) (by simp [results, Tryz.results11, go_sem, d0, d1, d2, d3, d4, d5, d6, d7]) rfl ⟨⟨⟨#[115, 109, 97, 108, 108]⟩, 1, ap, ak, aq, some ⟨w4.heap.size + 1, 0, none⟩, 3, [17, 33, 41], 0, some ⟨w4.heap.size + 1 + 1, 0, none⟩, 2, [30, 80]⟩, rfl, ⟨of_decide_eq_true rfl, of_decide_eq_true rfl, of_decide_eq_true rfl, z5.mono (by omega), z6.mono (by omega)⟩, hs4.out.low hlow hn0, hr4.out.below hlow (Nat.le_refl _)⟩
  · have hd0 : (y == 0) = false := by simp; omega
    have hd1 : (y == 1) = false := by simp; omega
    have hd2 : (y == 2) = false := by simp; omega
    have hd3 : (y == 3) = false := by simp; omega
    have hd4 : (y == 4) = false := by simp; omega
    have hd5 : (y == 5) = false := by simp; omega
    have hd6 : (y == 6) = false := by simp; omega
    have x0 := hbx3.cell (i := 0) (v := .string nm) rfl; have x1 := hbx3.cell (i := 1) (v := .int .i64 kd) rfl; have x2 := hbx3.cell (i := 2) (v := .int .i64 p) rfl; have x3 := hbx3.cell (i := 3) (v := .int .i64 k) rfl; have x4 := hbx3.cell (i := 4) (v := .int .i64 q) rfl; have x5 := hbx3.cell (i := 5) (v := .slice ps ss.length cs) rfl; have x6 := hbx3.cell (i := 6) (v := .int .i64 co) rfl; have x7 := hbx3.cell (i := 7) (v := .slice pl ls.length cl) rfl; have xL := hbx3.lt; have xF := hbx3.free
    have r0 := hbr3.cell (i := 0) (v := .string ⟨#[]⟩) rfl; have r1 := hbr3.cell (i := 1) (v := .int .i64 0) rfl; have r2 := hbr3.cell (i := 2) (v := .int .i64 0) rfl; have r3 := hbr3.cell (i := 3) (v := .int .i64 0) rfl; have r4 := hbr3.cell (i := 4) (v := .int .i64 0) rfl; have r5 := hbr3.cell (i := 5) (v := .slice none 0 0) rfl; have r6 := hbr3.cell (i := 6) (v := .int .i64 0) rfl; have r7 := hbr3.cell (i := 7) (v := .slice none 0 0) rfl; have rL := hbr3.lt; have rF := hbr3.free
    go_wp2_with fail
    have hbF : Blk w3 w.heap.size fam0 28 := hbr3
    have hbT : But x w3 w3 := But.refl x w3
    have hF := hbF.fam (.string nm) (.int .i64 kd) (.int .i64 p) (.int .i64 k) (.int .i64 q) (.slice ps ss.length cs) (.int .i64 co) (.slice pl ls.length cl)
    have hB9 := But.fam w3 w.heap.size (.string nm) (.int .i64 kd) (.int .i64 p) (.int .i64 k) (.int .i64 q) (.slice ps ss.length cs) (.int .i64 co) (.slice pl ls.length cl)
    have d0 := hF.cell (i := 0) (v := .string nm) rfl; have d1 := hF.cell (i := 1) (v := .int .i64 kd) rfl; have d2 := hF.cell (i := 2) (v := .int .i64 p) rfl; have d3 := hF.cell (i := 3) (v := .int .i64 k) rfl; have d4 := hF.cell (i := 4) (v := .int .i64 q) rfl; have d5 := hF.cell (i := 5) (v := .slice ps ss.length cs) rfl; have d6 := hF.cell (i := 6) (v := .int .i64 co) rfl; have d7 := hF.cell (i := 7) (v := .slice pl ls.length cl) rfl
    have z5 := (OwnInts.farO k5.out hbT hnp.out).but2 hB9 (by omega)
    have z6 := (OwnInts.farO k6.out hbT hnl.out).but2 hB9 (by omega)
    have hlow : Below w.heap.size w3 (setFam w3 w.heap.size (.string nm) (.int .i64 kd) (.int .i64 p) (.int .i64 k) (.int .i64 q) (.slice ps ss.length cs) (.int .i64 co) (.slice pl ls.length cl)) := by
      unfold setFam
      exact (((((((((Below.refl _ _).setCell (p := ⟨w.heap.size, 0, none⟩) (Nat.le_refl _) _).setCell (p := ⟨w.heap.size, 1, none⟩) (Nat.le_refl _) _).setCell (p := ⟨w.heap.size, 2, none⟩) (Nat.le_refl _) _).setCell (p := ⟨w.heap.size, 3, none⟩) (Nat.le_refl _) _).setCell (p := ⟨w.heap.size, 4, none⟩) (Nat.le_refl _) _).setCell (p := ⟨w.heap.size, 5, none⟩) (Nat.le_refl _) _).setCell (p := ⟨w.heap.size, 6, none⟩) (Nat.le_refl _) _).setCell (p := ⟨w.heap.size, 7, none⟩) (Nat.le_refl _) _)
    unfold setFam at d0 d1 d2 d3 d4 d5 d6 d7 z5 z6 hlow
    exact bodyPost_ret (v := .agg #[.string nm, .int .i64 kd, .int .i64 p, .int .i64 k, .int .i64 q, .slice ps ss.length cs, .int .i64 co, .slice pl ls.length cl]) (by simp [results, Tryz.results11, go_sem, d0, d1, d2, d3, d4, d5, d6, d7]) rfl ⟨⟨nm, kd, p, k, q, ps, cs, ss, co, pl, cl, ls⟩, rfl, ⟨hnm, hsl, hll, z5.mono (by omega), z6.mono (by omega)⟩, hs3.out.low hlow hn0, hr3.out.below hlow (Nat.le_refl _)⟩
end Go.Proofs.YthokkmbdkjpbcaaGreat
