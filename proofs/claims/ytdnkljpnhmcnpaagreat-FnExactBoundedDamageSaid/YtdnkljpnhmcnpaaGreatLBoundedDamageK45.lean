/- Damages in the laws: conversions and compare. -/
import Derived.Test.YtdnkljpnhmcnpaaGreatLBoundedDamageK42
import Derived.Test.YtdnkljpnhmcnpaaGreatLBoundedDamageK35
import Derived.Test.YtdnkljpnhmcnpaaGreatLBoundedDamageK25
import Derived.Test.YtdnkljpnhmcnpaaGreatLBoundedDamageK18
set_option linter.unusedVariables false
set_option linter.unusedSimpArgs false
namespace Go.Proofs.YtdnkljpnhmcnpaaGreat
open Go.RowKit

theorem fD_len (d : Dam) : (fD d).length = 6 := rfl
set_option maxRecDepth 100000 in
theorem toDamage_c (k r c t v g : Int) (W : World) :
  Calls Tryz.prog 61 #[vDm k r c t v g] W fun e w' => e = .returned (vDm k r c t v g) ∧ Ext W w' := by
 go_enter Tryz.func61, Tryz.ntmps61
 go_wp2
 exact bodyPost_ret (v := vDm k r c t v g) (by simp [results, Tryz.results61, go_sem]) rfl ⟨rfl, eX⟩
set_option maxRecDepth 100000 in
theorem eqDamage_c (k r c t v g : Int) (W : World) :
  Calls Tryz.prog 71 #[vDm k r c t v g, vDm k r c t v g] W fun e w' => e = .returned (.bool true) ∧ Ext W w' := by
 go_enter Tryz.func71, Tryz.ntmps71
 go_wp2
 go_ret
 exact ⟨rfl, eX⟩
set_option maxHeartbeats 1600000 in
set_option maxRecDepth 100000 in
theorem toDamageS_c (p : Option Addr) (c : Nat) (xs : List Dam) (w : World) (hx : SAt fD 6 w p xs) (hl : xs.length ≤ 1048576) :
  Calls Tryz.prog 23 #[.slice p xs.length c] w fun e w' => (∃ q, e = .returned (.slice q xs.length xs.length) ∧ SOwn fD 6 w.heap.size w' q xs) ∧ Ext w w' := by
 have hI1 : Tryz.prog.underlying 59 = some (.slice 104) := by kernel_rfl
 have hI2 : (Tryz.prog.info? 104).map (fun i => (i.zero, i.size, i.bytes)) = some (some (.agg #[.int .i64 0, .int .i64 0, .int .i64 0, .int .i64 0, .int .i64 0, .int .i64 0]), 6, 48) := by kernel_rfl
 go_enter Tryz.func23, Tryz.ntmps23
 go_wp2_with (first | (at_make; go_loud (refine make_blk hI1 hI2 xs.length ?_ ?_ (by omega) (by omega) ?_; rfl; rfl)))
 have hb := Blk.new w (madeCells (Value.agg #[.int .i64 0, .int .i64 0, .int .i64 0, .int .i64 0, .int .i64 0, .int .i64 0]).cells (xs.length * 6)) 104
 clear hI1 hI2
 go_loopw [4] (fun i wr => ∃ (k : Nat) (cs : Array Value), k ≤ xs.length ∧ i = .int .i64 k ∧ Blk wr w.heap.size cs 104 ∧ Hid (TabS fD 6 xs cs k) ∧ Ext w wr) (fun i _ => xs.length - (intOf i).toNat)
 case atStart => exact ⟨0, _, Nat.zero_le _, rfl, hb, Lib.hid ⟨size_madeCells _ _, fun j _ h => by omega⟩, eX⟩
 case round =>
  clear hb
  obtain ⟨k, cs, hk, rfl, hb, hT, hext⟩ := hrel
  by_cases hlt : k < xs.length
  ·obtain ⟨b, o, rfl, hbl, y⟩ := (hx.ext hext) k hlt
   have hT2 := hT.out.step fD_len hlt
   have hn := hT.out.1
   clear hx
   generalize xs[k]'hlt = X at *
   obtain ⟨k1, r1, c1, t1, w1, g1⟩ := X
   have y0 : wr.cell? ⟨b, o + k * 6, none⟩ = some (.int .i64 k1) := y 0 _ rfl
   have y1 : wr.cell? ⟨b, o + k * 6 + 1, none⟩ = some (.int .i64 r1) := y 1 _ rfl
   have y2 : wr.cell? ⟨b, o + k * 6 + 2, none⟩ = some (.int .i64 c1) := y 2 _ rfl
   have y3 : wr.cell? ⟨b, o + k * 6 + 3, none⟩ = some (.int .i64 t1) := y 3 _ rfl
   have y4 : wr.cell? ⟨b, o + k * 6 + 4, none⟩ = some (.int .i64 w1) := y 4 _ rfl
   have y5 : wr.cell? ⟨b, o + k * 6 + 5, none⟩ = some (.int .i64 g1) := y 5 _ rfl
   clear y
   replace hT2 := Lib.hid hT2
   obtain ⟨z0, z0'⟩ : ∃ v, cs[k * 6]? = some v := ⟨_, Array.getElem?_eq_getElem (by omega)⟩
   obtain ⟨z1, z1'⟩ : ∃ v, cs[k * 6 + 1]? = some v := ⟨_, Array.getElem?_eq_getElem (by omega)⟩
   obtain ⟨z2, z2'⟩ : ∃ v, cs[k * 6 + 2]? = some v := ⟨_, Array.getElem?_eq_getElem (by omega)⟩
   obtain ⟨z3, z3'⟩ : ∃ v, cs[k * 6 + 3]? = some v := ⟨_, Array.getElem?_eq_getElem (by omega)⟩
   obtain ⟨z4, z4'⟩ : ∃ v, cs[k * 6 + 4]? = some v := ⟨_, Array.getElem?_eq_getElem (by omega)⟩
   obtain ⟨z5, z5'⟩ : ∃ v, cs[k * 6 + 5]? = some v := ⟨_, Array.getElem?_eq_getElem (by omega)⟩
   go_wp2_with (first
    | (go_at_call 61; refine (toDamage_c _ _ _ _ _ _ _).mono ?_; rintro e w7 ⟨rfl, hb1⟩; have hbb := hb.ext hb1; have q0 := hbb.cell z0'; have q1 := hbb.cell z1'; have q2 := hbb.cell z2'; have q3 := hbb.cell z3'; have q4 := hbb.cell z4'; have q5 := hbb.cell z5'; have q6 := hbb.lt; have q7 := hbb.free))
   go_roundw
   case rel => exact ⟨k + 1, _, hlt, by go_num, (((((hbb.set _ _).set _ _).set _ _).set _ _).set _ _).set _ _, hT2, ((((((hext.trans hb1).setCell (Nat.le_refl _) _).setCell (Nat.le_refl _) _).setCell (Nat.le_refl _) _).setCell (Nat.le_refl _) _).setCell (Nat.le_refl _) _).setCell (Nat.le_refl _) _⟩
   case measure => simp [intOf]; omega
  ·clear hx
   obtain rfl : k = xs.length := by omega
   go_wp2
   go_ret
   exact ⟨⟨_, rfl, hT.out.own fD_len hb (Nat.le_refl _)⟩, hext⟩
set_option maxHeartbeats 800000 in
set_option maxRecDepth 100000 in
theorem eqDamageS_c (p q : Option Addr) (c d : Nat) (xs : List Dam) (w : World) (hx : SAt fD 6 w p xs) (hy : SAt fD 6 w q xs) (hl : xs.length ≤ 1048576) :
  Calls Tryz.prog 26 #[.slice p xs.length c, .slice q xs.length d] w fun e w' => e = .returned (.bool true) ∧ Ext w w' := by
 have HX := Lib.hid hx; have HY := Lib.hid hy; clear hx hy
 go_enter Tryz.func26, Tryz.ntmps26
 go_wp2_with fail
 go_loopw [5] (fun i wr => ∃ k : Nat, k ≤ xs.length ∧ i = .int .i64 k ∧ Ext w wr) (fun i _ => xs.length - (intOf i).toNat)
 case atStart => exact ⟨0, Nat.zero_le _, rfl, eX⟩
 case round =>
  obtain ⟨k, hk, rfl, hext⟩ := hrel
  by_cases hlt : k < xs.length
  ·obtain ⟨b, o, rfl, hbl, y⟩ := (HX.out.ext hext) k hlt
   obtain ⟨b2, o2, rfl, hbl2, z⟩ := (HY.out.ext hext) k hlt
   generalize xs[k]'hlt = X at *
   obtain ⟨k1, r1, c1, t1, w1, g1⟩ := X
   have y0 : wr.cell? ⟨b, o + k * 6, none⟩ = some (.int .i64 k1) := y 0 _ rfl
   have y1 : wr.cell? ⟨b, o + k * 6 + 1, none⟩ = some (.int .i64 r1) := y 1 _ rfl
   have y2 : wr.cell? ⟨b, o + k * 6 + 2, none⟩ = some (.int .i64 c1) := y 2 _ rfl
   have y3 : wr.cell? ⟨b, o + k * 6 + 3, none⟩ = some (.int .i64 t1) := y 3 _ rfl
   have y4 : wr.cell? ⟨b, o + k * 6 + 4, none⟩ = some (.int .i64 w1) := y 4 _ rfl
   have y5 : wr.cell? ⟨b, o + k * 6 + 5, none⟩ = some (.int .i64 g1) := y 5 _ rfl
   have z0 : wr.cell? ⟨b2, o2 + k * 6, none⟩ = some (.int .i64 k1) := z 0 _ rfl
   have z1 : wr.cell? ⟨b2, o2 + k * 6 + 1, none⟩ = some (.int .i64 r1) := z 1 _ rfl
   have z2 : wr.cell? ⟨b2, o2 + k * 6 + 2, none⟩ = some (.int .i64 c1) := z 2 _ rfl
   have z3 : wr.cell? ⟨b2, o2 + k * 6 + 3, none⟩ = some (.int .i64 t1) := z 3 _ rfl
   have z4 : wr.cell? ⟨b2, o2 + k * 6 + 4, none⟩ = some (.int .i64 w1) := z 4 _ rfl
   have z5 : wr.cell? ⟨b2, o2 + k * 6 + 5, none⟩ = some (.int .i64 g1) := z 5 _ rfl
   clear y z
   have heq := Lib.hid (fun W => eqDamage_c k1 r1 c1 t1 w1 g1 W)
   go_upto_region 6 with (fail)
   refine wp_region_canon (fun w' => Ext wr w') [(0, true), (1, true), (2, true), (3, true), (4, true), (5, true), (6, true), (7, true), (8, false), (9, true)] (by kernel_rfl) (by kernel_rfl) (by decide) (by kernel_rfl) ?_ ?_
   ·exact eX
   refine canon_intro fun ops eo => ?_
   replace eo := canon_eo eo
   iterate 8 all_goals (refine cS eo rfl rfl evE ?_; simp only [ptN])
   all_goals first | (refine canon_ef (eo.out 8 rfl) rfl (fun K hK => ?_); go_simp; ((go_at_call 71; (with_reducible refine (heq.out _).mono ?_); rintro e w7 ⟨rfl, hb⟩)); all_goals (refine hK _ _ ⟨(by first | assumption | exact eX), ?_⟩; clear hK K; go_simp))
   all_goals (refine cS eo rfl rfl evE ?_; simp only [ptN])
   all_goals (clear eo; refine canon_done (NoPanic.normal ?_))
   all_goals go_wp2
   all_goals go_roundw
   case rel => exact ⟨k + 1, hlt, by go_num, eX⟩
   case measure => simp [intOf]; omega
  ·obtain rfl : k = xs.length := by omega
   go_wp2
   go_ret
   exact ⟨rfl, hext⟩
end Go.Proofs.YtdnkljpnhmcnpaaGreat
/- Finished grids, on both sides. -/
namespace Go.Proofs.YtdnkljpnhmcnpaaGreat
open Go.RowKit

end Go.Proofs.YtdnkljpnhmcnpaaGreat
/- Families and grids of the laws: own copies, marks. -/
namespace Go.Proofs.YtdnkljpnhmcnpaaGreat
open Go.RowKit

theorem OwnInts.farO {B g : Nat} {w w' : World} {q : Option Addr} {xs : List Int} (h : OwnInts B w q xs) (hb : But g w w') (hp : ∀ b o, 0 < xs.length → q = some ⟨b, o, none⟩ → b ≠ g) : OwnInts B w' q xs := fun i hi => by
 obtain ⟨b, o, h1, hB, h2, h3, h4⟩ := h i hi
 obtain ⟨hc, hf, hk, _⟩ := bucell hb
 have hn := hp b o (by omega) h1
 exact ⟨b, o, h1, hB, hk _ h2, by rw [hc _ _ h2 hn]; exact h3, by rw [hf _ _ h2 hn]; exact h4⟩
set_option maxHeartbeats 3200000 in
set_option maxRecDepth 100000 in
theorem toFamilyO_c (nm : ByteArray) (K p k q co : Int) (ps pl : Option Addr) (cs cl : Nat) (ss ls : List Int) (w : World) (h1 : IntsAt w ps ss) (h2 : IntsAt w pl ls) (hl1 : ss.length ≤ 1048576) (hl2 : ls.length ≤ 1048576) :
  Calls Tryz.prog 21 #[vFam nm K p k q ps ss.length cs co pl ls.length cl] w fun e w' => (∃ ps' pl', e = .returned (vFam nm K p k q ps' ss.length ss.length co pl' ls.length ls.length) ∧ OwnInts w.heap.size w' ps' ss ∧ OwnInts w.heap.size w' pl' ls ∧ (∀ b o b' o', ss ≠ [] → ls ≠ [] → ps' = some ⟨b, o, none⟩ → pl' = some ⟨b', o', none⟩ → b ≠ b')) ∧ Ext w w' := by
 have H1 := Lib.hid h1; have H2 := Lib.hid h2; clear h1 h2
 have t1 := Lib.hid (fun W (h : IntsAt W ps ss) => toInt64S_c ps cs ss W h hl1)
 have t2 := Lib.hid (fun W (h : IntsAt W pl ls) => toInt64S_c pl cl ls W h hl2)
 have hA := ((Blk.new w #[.string nm, .int .i64 K, .int .i64 p, .int .i64 k, .int .i64 q, .slice ps ss.length cs, .int .i64 co, .slice pl ls.length cl] 45).alloc (.cells #[.string ⟨#[]⟩, .int .i64 0, .int .i64 0, .int .i64 0, .int .i64 0, .slice none 0 0, .int .i64 0, .slice none 0 0] 55)).alloc (.cells #[.string nm, .int .i64 K, .int .i64 0, .int .i64 0, .int .i64 0, .slice none 0 0, .int .i64 0, .slice none 0 0] 55)
 have hR := (Blk.new (w.alloc (.cells #[.string nm, .int .i64 K, .int .i64 p, .int .i64 k, .int .i64 q, .slice ps ss.length cs, .int .i64 co, .slice pl ls.length cl] 45)) #[.string ⟨#[]⟩, .int .i64 0, .int .i64 0, .int .i64 0, .int .i64 0, .slice none 0 0, .int .i64 0, .slice none 0 0] 55).alloc (.cells #[.string nm, .int .i64 K, .int .i64 0, .int .i64 0, .int .i64 0, .slice none 0 0, .int .i64 0, .slice none 0 0] 55)
 have hO := Blk.new ((w.alloc (.cells #[.string nm, .int .i64 K, .int .i64 p, .int .i64 k, .int .i64 q, .slice ps ss.length cs, .int .i64 co, .slice pl ls.length cl] 45)).alloc (.cells #[.string ⟨#[]⟩, .int .i64 0, .int .i64 0, .int .i64 0, .int .i64 0, .slice none 0 0, .int .i64 0, .slice none 0 0] 55)) #[.string nm, .int .i64 K, .int .i64 0, .int .i64 0, .int .i64 0, .slice none 0 0, .int .i64 0, .slice none 0 0] 55
 have hx0 := (((Ext.refl w).alloc (.cells #[.string nm, .int .i64 K, .int .i64 p, .int .i64 k, .int .i64 q, .slice ps ss.length cs, .int .i64 co, .slice pl ls.length cl] 45)).alloc (.cells #[.string ⟨#[]⟩, .int .i64 0, .int .i64 0, .int .i64 0, .int .i64 0, .slice none 0 0, .int .i64 0, .slice none 0 0] 55)).alloc (.cells #[.string nm, .int .i64 K, .int .i64 0, .int .i64 0, .int .i64 0, .slice none 0 0, .int .i64 0, .slice none 0 0] 55)
 simp only [World.size_alloc] at hR hO
 go_enter Tryz.func21, Tryz.ntmps21
 go_upto_region 4 with (fail)
 generalize ((w.alloc (.cells #[.string nm, .int .i64 K, .int .i64 p, .int .i64 k, .int .i64 q, .slice ps ss.length cs, .int .i64 co, .slice pl ls.length cl] 45)).alloc (.cells #[.string ⟨#[]⟩, .int .i64 0, .int .i64 0, .int .i64 0, .int .i64 0, .slice none 0 0, .int .i64 0, .slice none 0 0] 55)).alloc (.cells #[.string nm, .int .i64 K, .int .i64 0, .int .i64 0, .int .i64 0, .slice none 0 0, .int .i64 0, .slice none 0 0] 55) = w0 at *
 have hz0 := hO.lt
 have nAO : w.heap.size ≠ w.heap.size + 1 + 1 := by omega
 have nRO : w.heap.size + 1 ≠ w.heap.size + 1 + 1 := by omega
 have bA : w.heap.size ≤ w.heap.size := by omega
 have bR : w.heap.size ≤ w.heap.size + 1 := by omega
 have bO : w.heap.size ≤ w.heap.size + 1 + 1 := by omega
 have a2 := hA.cell (i := 2) (v := .int .i64 p) rfl; have a3 := hA.cell (i := 3) (v := .int .i64 k) rfl; have a4 := hA.cell (i := 4) (v := .int .i64 q) rfl; have aL := hA.lt
 go_upto_region 5 with (go_at_call 60; (with_reducible refine (toFieldF_c _ _ _ _).mono ?_); rintro e w1 ⟨rfl, hx1⟩; have hO1 := hO.ext hx1; have o2 := hO1.cell (i := 2) (v := .int .i64 0) rfl; have o3 := hO1.cell (i := 3) (v := .int .i64 0) rfl; have o4 := hO1.cell (i := 4) (v := .int .i64 0) rfl; have ol := hO1.lt; have of := hO1.free)
 clear a2 a3 a4 aL
 have hB1 : But (w.heap.size + 1 + 1) w1 (((w1.setCell ⟨w.heap.size + 1 + 1, 2, none⟩ (.int .i64 p)).setCell ⟨w.heap.size + 1 + 1, 3, none⟩ (.int .i64 k)).setCell ⟨w.heap.size + 1 + 1, 4, none⟩ (.int .i64 q)) := ((But.set w1 (w.heap.size + 1 + 1) 2 _).setG _).setG _
 have hx2 := (((hx0.trans hx1).setCell (p := ⟨w.heap.size + 1 + 1, 2, none⟩) bO (.int .i64 p)).setCell (p := ⟨w.heap.size + 1 + 1, 3, none⟩) bO (.int .i64 k)).setCell (p := ⟨w.heap.size + 1 + 1, 4, none⟩) bO (.int .i64 q)
 have hO2 : Blk (((w1.setCell ⟨w.heap.size + 1 + 1, 2, none⟩ (.int .i64 p)).setCell ⟨w.heap.size + 1 + 1, 3, none⟩ (.int .i64 k)).setCell ⟨w.heap.size + 1 + 1, 4, none⟩ (.int .i64 q)) (w.heap.size + 1 + 1) #[.string nm, .int .i64 K, .int .i64 p, .int .i64 k, .int .i64 q, .slice none 0 0, .int .i64 0, .slice none 0 0] 55 := ((hO1.set 2 (.int .i64 p)).set 3 (.int .i64 k)).set 4 (.int .i64 q)
 have hA2 := (hA.ext hx1).but hB1 nAO
 have hR2 := (hR.ext hx1).but hB1 nRO
 clear hO hO1 hA hR o2 o3 o4 ol of hB1 hx0 hx1
 generalize ((w1.setCell ⟨w.heap.size + 1 + 1, 2, none⟩ (.int .i64 p)).setCell ⟨w.heap.size + 1 + 1, 3, none⟩ (.int .i64 k)).setCell ⟨w.heap.size + 1 + 1, 4, none⟩ (.int .i64 q) = w2 at *
 have a5 := hA2.cell (i := 5) (v := .slice ps ss.length cs) rfl; have aL := hA2.lt
 go_upto_region 6 with (go_at_call 33; (with_reducible refine (t1.out _ (H1.out.ext hx2)).mono ?_); rintro e w3 ⟨⟨qs, rfl, oqs⟩, hx3⟩; have hO3 := hO2.ext hx3; have o5 := hO3.cell (i := 5) (v := .slice none 0 0) rfl; have ol := hO3.lt; have of := hO3.free)
 clear a5 aL
 have hB3 : But (w.heap.size + 1 + 1) w3 (w3.setCell ⟨w.heap.size + 1 + 1, 5, none⟩ (.slice qs ss.length ss.length)) := But.set w3 (w.heap.size + 1 + 1) 5 _
 have hx4 := (hx2.trans hx3).setCell (p := ⟨w.heap.size + 1 + 1, 5, none⟩) bO (.slice qs ss.length ss.length)
 have hz2 := hO2.lt
 have hzw := hx2.below.size
 have hns : ∀ b o, 0 < ss.length → qs = some ⟨b, o, none⟩ → b ≠ w.heap.size + 1 ∧ b ≠ w.heap.size + 1 + 1 := fun b o hn e => by have := oqs.lt0 (fun h => by rw [h] at hn; exact absurd hn (by simp)) e; omega
 have oqs := Lib.hid ((oqs.setFar (g := w.heap.size + 1 + 1) (i := 5) (v := .slice qs ss.length ss.length) hz2).mono hzw)
 have hO4 : Blk _ (w.heap.size + 1 + 1) #[.string nm, .int .i64 K, .int .i64 p, .int .i64 k, .int .i64 q, .slice qs ss.length ss.length, .int .i64 0, .slice none 0 0] 55 := hO3.set 5 (.slice qs ss.length ss.length)
 have hA4 := (hA2.ext hx3).but hB3 nAO
 have hR4 := (hR2.ext hx3).but hB3 nRO
 clear hO2 hO3 hA2 hR2 o5 ol of hB3 hx2 hx3
 generalize w3.setCell ⟨w.heap.size + 1 + 1, 5, none⟩ (.slice qs ss.length ss.length) = w4 at *
 have a4 := hA4.cell (i := 6) (v := .int .i64 co) rfl; have aL := hA4.lt; have a7 := hA4.cell (i := 7) (v := .slice pl ls.length cl) rfl
 have o6 := hO4.cell (i := 6) (v := .int .i64 0) rfl; have ol := hO4.lt; have of := hO4.free
 go_upto_region 7 with (fail)
 have hB5 : But (w.heap.size + 1 + 1) w4 (w4.setCell ⟨w.heap.size + 1 + 1, 6, none⟩ (.int .i64 co)) := But.set w4 (w.heap.size + 1 + 1) 6 _
 have hx5 := hx4.setCell (p := ⟨w.heap.size + 1 + 1, 6, none⟩) bO (.int .i64 co)
 have hO5 : Blk _ (w.heap.size + 1 + 1) #[.string nm, .int .i64 K, .int .i64 p, .int .i64 k, .int .i64 q, .slice qs ss.length ss.length, .int .i64 co, .slice none 0 0] 55 := hO4.set 6 (.int .i64 co)
 have hA5 := hA4.but hB5 nAO
 have hR5 := hR4.but hB5 nRO
 have oqs := Lib.hid (oqs.out.farO hB5 (fun b o hn e => (hns b o hn e).2))
 clear hO4 hA4 hR4 a4 aL a7 o6 ol of hB5 hx4
 generalize w4.setCell ⟨w.heap.size + 1 + 1, 6, none⟩ (.int .i64 co) = w5 at *
 have hqb := Lib.hid (fun b o (hn : ss ≠ []) (e : qs = some ⟨b, o, none⟩) => (oqs.out.lt0 hn e).2)
 have a7 := hA5.cell (i := 7) (v := .slice pl ls.length cl) rfl; have aL := hA5.lt
 go_upto_region 8 with (go_at_call 33; (with_reducible refine (t2.out _ (H2.out.ext hx5)).mono ?_); rintro e w6 ⟨⟨ql, rfl, oql⟩, hx6⟩; have hO6 := hO5.ext hx6; have o7 := hO6.cell (i := 7) (v := .slice none 0 0) rfl; have ol := hO6.lt; have of := hO6.free)
 clear a7 aL
 have hB6 : But (w.heap.size + 1 + 1) w6 (w6.setCell ⟨w.heap.size + 1 + 1, 7, none⟩ (.slice ql ls.length ls.length)) := But.set w6 (w.heap.size + 1 + 1) 7 _
 have hx7 := (hx5.trans hx6).setCell (p := ⟨w.heap.size + 1 + 1, 7, none⟩) bO (.slice ql ls.length ls.length)
 have hz5 := hO5.lt
 have hz5w := hx5.below.size
 have hap : ∀ b o b' o', ss ≠ [] → ls ≠ [] → qs = some ⟨b, o, none⟩ → ql = some ⟨b', o', none⟩ → b ≠ b' := fun b o b' o' h1 h2 e1 e2 => by have := hqb.out b o h1 e1; have := (oql.lt0 h2 e2).1; omega
 replace hap := Lib.hid hap
 have oqs := Lib.hid ((oqs.out.ext hx6).farO hB6 (fun b o hn e => (hns b o hn e).2))
 have hnl : ∀ b o, 0 < ls.length → ql = some ⟨b, o, none⟩ → b ≠ w.heap.size + 1 ∧ b ≠ w.heap.size + 1 + 1 := fun b o hn e => by have := oql.lt0 (fun h => by rw [h] at hn; exact absurd hn (by simp)) e; omega
 have oql := Lib.hid ((oql.setFar (g := w.heap.size + 1 + 1) (i := 7) (v := .slice ql ls.length ls.length) hz5).mono hz5w)
 have hO7 : Blk _ (w.heap.size + 1 + 1) #[.string nm, .int .i64 K, .int .i64 p, .int .i64 k, .int .i64 q, .slice qs ss.length ss.length, .int .i64 co, .slice ql ls.length ls.length] 55 := hO6.set 7 (.slice ql ls.length ls.length)
 have hR7 := (hR5.ext hx6).but hB6 nRO
 clear hO5 hO6 hA5 hR5 o7 ol of hB6 hx5 hx6
 generalize w6.setCell ⟨w.heap.size + 1 + 1, 7, none⟩ (.slice ql ls.length ls.length) = w7 at *
 obtain ⟨o0, o1, o2, o3, o4, o5, o6, o7⟩ := hO7.c8; have ol := hO7.lt
 obtain ⟨r0, r1, r2, r3, r4, r5, r6, r7⟩ := hR7.c8; have rl := hR7.lt; have rf := hR7.free
 go_wp2_with fail
 have hF := hR7.fam (.string nm) (.int .i64 K) (.int .i64 p) (.int .i64 k) (.int .i64 q) (.slice qs ss.length ss.length) (.int .i64 co) (.slice ql ls.length ls.length)
 have hB9 := But.fam w7 (w.heap.size + 1) (.string nm) (.int .i64 K) (.int .i64 p) (.int .i64 k) (.int .i64 q) (.slice qs ss.length ss.length) (.int .i64 co) (.slice ql ls.length ls.length)
 have hx9 := hx7.fam bR (.string nm) (.int .i64 K) (.int .i64 p) (.int .i64 k) (.int .i64 q) (.slice qs ss.length ss.length) (.int .i64 co) (.slice ql ls.length ls.length)
 have oqs9 := oqs.out.farO hB9 (fun b o hn e => (hns b o hn e).1)
 have oql9 := oql.out.farO hB9 (fun b o hn e => (hnl b o hn e).1)
 obtain ⟨c0, c1, c2, c3, c4, c5, c6, c7⟩ := hF.c8
 unfold setFam at c0 c1 c2 c3 c4 c5 c6 c7 hx9 oqs9 oql9
 clear o0 o1 o2 o3 o4 o5 o6 o7 ol r0 r1 r2 r3 r4 r5 r6 r7 rl rf
 exact bodyPost_ret (v := vFam nm K p k q qs ss.length ss.length co ql ls.length ls.length) (by simp [results, Tryz.results21, go_sem, c0, c1, c2, c3, c4, c5, c6, c7]) rfl ⟨⟨qs, ql, rfl, oqs9, oql9, hap.out⟩, hx9⟩
end Go.Proofs.YtdnkljpnhmcnpaaGreat
