/- Valid families, on both sides. -/
import Derived.Test.YtdnkljpnhmcnpaaGreatLBoundedDamageK11
import Derived.Test.YtdnkljpnhmcnpaaGreatLBoundedDamageK19
set_option linter.unusedVariables false
set_option linter.unusedSimpArgs false
namespace Go.Proofs.YtdnkljpnhmcnpaaGreat
open Go.RowKit

abbrev vFam (nm : ByteArray) (K p k q : Int) (ps : Option Addr) (ns cs : Nat) (co : Int) (pl : Option Addr) (nl cl : Nat) : Value := .agg #[.string nm, .int .i64 K, .int .i64 p, .int .i64 k, .int .i64 q, .slice ps ns cs, .int .i64 co, .slice pl nl cl]
def famOK (nm : ByteArray) (K p k q : Int) (ss : List Int) (co : Int) (ls : List Int) : Prop :=
 nameOK nm ∧ (1 ≤ ss.length ∧ ss.length ≤ 8) ∧ (1 ≤ ls.length ∧ ls.length ≤ 4) ∧ risOK 1 80 ls ∧
  ((K = 1 ∧ p = 2 ∧ fldOK p k q ∧ co = 0 ∧ risOK 17 41 ss ∧ ∀ i, i < ss.length → sizOK (ss.getD i 0)) ∨ (K = 2 ∧ (p = 2 ∧ k = 5 ∧ q = 37) ∧ (1 ≤ co ∧ co ≤ 8) ∧ risOK 3 24 ss))
set_option maxHeartbeats 1600000 in
set_option maxRecDepth 100000 in
theorem iIsFamily_c (nm : ByteArray) (K p k q co : Int) (ps pl : Option Addr) (cs cl : Nat) (ss ls : List Int) (w : World) (hs : IntsAt w ps ss) (hlv : IntsAt w pl ls) (hn : nm.size ≤ 1048576) (hl1 : ss.length ≤ 1048576) (hl2 : ls.length ≤ 1048576) :
  Calls Tryz.prog 120 #[vFam nm K p k q ps ss.length cs co pl ls.length cl] w fun e w' => isB e (famOK nm K p k q ss co ls) ∧ Ext w w' := by
 have HS := Lib.hid hs; have HLV := Lib.hid hlv; clear hs hlv
 have hbx := Blk.new w #[.string nm, .int .i64 K, .int .i64 p, .int .i64 k, .int .i64 q, .slice ps ss.length cs, .int .i64 co, .slice pl ls.length cl] 55
 have hx0 : Ext w (w.alloc (.cells #[.string nm, .int .i64 K, .int .i64 p, .int .i64 k, .int .i64 q, .slice ps ss.length cs, .int .i64 co, .slice pl ls.length cl] 55)) := (Ext.refl w).alloc _
 have hv := Lib.hid (show famOK nm K p k q ss co ls ↔ nameOK nm ∧ (1 ≤ ss.length ∧ ss.length ≤ 8) ∧ (1 ≤ ls.length ∧ ls.length ≤ 4) ∧ risOK 1 80 ls ∧
  ((K = 1 ∧ p = 2 ∧ fldOK p k q ∧ co = 0 ∧ risOK 17 41 ss ∧ ∀ i, i < ss.length → sizOK (ss.getD i 0)) ∨ (K = 2 ∧ (p = 2 ∧ k = 5 ∧ q = 37) ∧ (1 ≤ co ∧ co ≤ 8) ∧ risOK 3 24 ss)) from Iff.rfl)
 have hnm := Lib.hid (fun W => iName_c nm W hn)
 have hr1 := Lib.hid (fun W (h : IntsAt W pl ls) => rises_c pl cl 1 80 ls W h hl2)
 have hr2 := Lib.hid (fun W (h : IntsAt W ps ss) => rises_c ps cs 17 41 ss W h hl1)
 have hr3 := Lib.hid (fun W (h : IntsAt W ps ss) => rises_c ps cs 3 24 ss W h hl1)
 have hif := Lib.hid (fun W => iIsField_c p k q W)
 have hsz := Lib.hid (fun n W => iSize_c n W)
 generalize famOK nm K p k q ss co ls = M at *
 generalize nameOK nm = NA at *
 generalize risOK 1 80 ls = LA at *
 generalize risOK 17 41 ss = SA at *
 generalize risOK 3 24 ss = SB at *
 generalize fldOK p k q = FA at *
 obtain ⟨c0, c1, c2, c3, c4, c5, c6, c7⟩ := hbx.c8; have cL := hbx.lt
 by_cases h4 : (NA ∧ (1 ≤ ss.length ∧ ss.length ≤ 8)) ∧ (1 ≤ ls.length ∧ ls.length ≤ 4) ∧ LA
 ·obtain ⟨⟨h1, h2⟩, h3, h4⟩ := h4
  replace h1 := Lib.hid h1; replace h4 := Lib.hid h4
  have hKc : K = 1 ∨ K = 2 ∨ (K ≠ 1 ∧ K ≠ 2) := by omega
  rcases hKc with rfl | rfl | ⟨k1, k2⟩
  ·go_enter Tryz.func120, Tryz.ntmps120
   go_upto_region 6 with (first
    | (go_at_call 171; (with_reducible refine (hnm.out _).mono ?_); rintro e w1 ⟨⟨hP, rfl⟩ | ⟨hP, rfl⟩, rfl⟩ <;> first | exact absurd h1.out hP | skip)
    | (go_at_call 35; (with_reducible refine (inRange_c _ _ _ _).mono ?_); rintro e w1' ⟨⟨hP', rfl⟩ | ⟨hP', rfl⟩, rfl⟩ <;> first | (exfalso; omega) | skip)
    | (go_at_call 129; (with_reducible refine (hr1.out _ (HLV.out.ext hx0)).mono ?_); rintro e w1'' ⟨⟨hQ, rfl⟩ | ⟨hQ, rfl⟩, rfl⟩ <;> first | exact absurd h4.out hQ | skip))
   generalize w.alloc (.cells #[.string nm, .int .i64 1, .int .i64 p, .int .i64 k, .int .i64 q, .slice ps ss.length cs, .int .i64 co, .slice pl ls.length cl] 55) = w0 at *
   go_loop [38] (fun i => ∃ j : Nat, j ≤ ss.length ∧ i = .int .i64 j ∧ Hid (∀ i, i < j → sizOK (ss.getD i 0))) (fun i => ss.length - (intOf i).toNat)
   case atStart => exact ⟨0, Nat.zero_le _, rfl, Lib.hid (fun i h => absurd h (Nat.not_lt_zero i))⟩
   case round =>
    obtain ⟨j, hj, rfl, hall⟩ := hrel
    by_cases hlt : j < ss.length
    ·obtain ⟨b, o, rfl, hbl, y1⟩ := (HS.out.ext hx0) j hlt
     have hst : sizOK (ss.getD j 0) → ∀ i, i < j + 1 → sizOK (ss.getD i 0) := fun h i hi => by
      by_cases e : i = j
      ·rw [e]; exact h
      ·exact hall.out i (by omega)
     have hno : M → sizOK (ss.getD j 0) := fun h => by
      rcases (hv.out.1 h).2.2.2.2 with ⟨_, _, _, _, _, h⟩ | ⟨h, _⟩
      ·exact h j hlt
      ·exact absurd h (by decide)
     replace hst := Lib.hid hst; replace hno := Lib.hid hno
     generalize ss.getD j 0 = x at *
     go_wp2_with (go_at_call 81; (with_reducible refine (hsz.out _ _).mono ?_); rintro e w3 ⟨⟨hS, rfl⟩ | ⟨hS, rfl⟩, rfl⟩)
     ·go_round
      case rel => exact ⟨j + 1, hlt, by go_num, Lib.hid (hst.out hS)⟩
      case measure => simp [intOf]; omega
     ·go_ret
      exact ⟨isB_f (fun h => hS (hno.out h)), hx0⟩
    ·obtain rfl : j = ss.length := by omega
     by_cases hp : p = 2
     ·subst hp
      by_cases hco : co = 0
      ·subst hco
       go_wp2_with (first
        | (go_at_call 172; (with_reducible refine (hif.out _).mono ?_); rintro e w4 ⟨⟨hF, rfl⟩ | ⟨hF, rfl⟩, hx4⟩; all_goals (have hb4 := hbx.ext hx4; have d5 := hb4.cell (i := 5) (v := .slice ps ss.length cs) rfl; have d6 := hb4.cell (i := 6) (v := .int .i64 0) rfl; have dL := hb4.lt))
        | (go_at_call 129; (with_reducible refine (hr2.out _ (HS.out.ext (hx0.trans hx4))).mono ?_); rintro e w5 ⟨⟨hR, rfl⟩ | ⟨hR, rfl⟩, rfl⟩))
       all_goals go_ret
       all_goals
        first
         | (have hM : M := hv.out.2 ⟨h1.out, h2, h3, h4.out, .inl ⟨(by first | rfl | trivial), (by first | rfl | trivial), hF, (by first | rfl | trivial), hR, hall.out⟩⟩; exact ⟨.inl ⟨hM, rfl⟩, hx0.trans hx4⟩)
         | exact ⟨isB_f (fun h => by rcases (hv.out.1 h).2.2.2.2 with ⟨_, _, _, _, h, _⟩ | ⟨h, _⟩; exact hR h; exact absurd h (by decide)), hx0.trans hx4⟩
         | exact ⟨isB_f (fun h => by rcases (hv.out.1 h).2.2.2.2 with ⟨_, _, h, _⟩ | ⟨h, _⟩; exact hF h; exact absurd h (by decide)), hx0.trans hx4⟩
      ·have hcb : (co == 0) = false := by simpa using hco
       replace hco := Lib.hid hco
       go_wp2_with (first
        | (go_at_call 172; (with_reducible refine (hif.out _).mono ?_); rintro e w4 ⟨⟨hF, rfl⟩ | ⟨hF, rfl⟩, hx4⟩; all_goals (have hb4 := hbx.ext hx4; have d5 := hb4.cell (i := 5) (v := .slice ps ss.length cs) rfl; have d6 := hb4.cell (i := 6) (v := .int .i64 co) rfl; have dL := hb4.lt)))
       all_goals
        go_ret
        exact ⟨isB_f (fun h => by rcases (hv.out.1 h).2.2.2.2 with ⟨_, _, _, h, _⟩ | ⟨h, _⟩; exact hco.out h; exact absurd h (by decide)), hx0.trans hx4⟩
     ·have hpb : (p == 2) = false := by simpa using hp
      replace hp := Lib.hid hp
      go_wp2
      go_ret
      exact ⟨isB_f (fun h => by rcases (hv.out.1 h).2.2.2.2 with ⟨_, h, _⟩ | ⟨h, _⟩; exact hp.out h; exact absurd h (by decide)), hx0⟩
  ·go_enter Tryz.func120, Tryz.ntmps120
   have hfo := Lib.hid (fun W => iField32_c W)
   have hfe : ∀ b : Bool, ((p == 2) && (k == 5) && (q == 37)) = b → (b = true ↔ (p = 2 ∧ k = 5 ∧ q = 37)) := fun b h => by subst h; simp [and_assoc]
   go_wp2_with (first
    | (go_at_call 171; (with_reducible refine (hnm.out _).mono ?_); rintro e w1 ⟨⟨hP, rfl⟩ | ⟨hP, rfl⟩, rfl⟩ <;> first | exact absurd h1.out hP | skip)
    | (go_at_call 35; (with_reducible refine (inRange_c _ _ _ _).mono ?_); rintro e w1' ⟨⟨hP', rfl⟩ | ⟨hP', rfl⟩, rfl⟩ <;> first | (exfalso; omega) | skip)
    | (go_at_call 173; (with_reducible refine (hfo.out _).mono ?_); rintro e w4 ⟨rfl, hx4⟩; have hb4 := hbx.ext hx4; have d2 := hb4.cell (i := 2) (v := .int .i64 p) rfl; have d3 := hb4.cell (i := 3) (v := .int .i64 k) rfl; have d4 := hb4.cell (i := 4) (v := .int .i64 q) rfl; have d5 := hb4.cell (i := 5) (v := .slice ps ss.length cs) rfl; have d6 := hb4.cell (i := 6) (v := .int .i64 co) rfl; have dL := hb4.lt)
    | (go_at_call 129; (with_reducible refine (hr1.out _ (HLV.out.ext hx0)).mono ?_); rintro e w1'' ⟨⟨hQ, rfl⟩ | ⟨hQ, rfl⟩, rfl⟩ <;> first | exact absurd h4.out hQ | skip)
    | (go_at_call 129; (with_reducible refine (hr3.out _ (HS.out.ext ((hx0.trans hx4).alloc _))).mono ?_); rintro e w9 ⟨⟨hR, rfl⟩ | ⟨hR, rfl⟩, rfl⟩))
   all_goals
    go_ret
    first
     | (have hM : M := hv.out.2 ⟨h1.out, h2, h3, h4.out, .inr ⟨by first | rfl | trivial, ⟨by first | rfl | trivial, by first | rfl | trivial, by first | rfl | trivial⟩, by assumption, hR⟩⟩; exact ⟨.inl ⟨hM, rfl⟩, (hx0.trans hx4).alloc _⟩)
     | exact ⟨isB_f (fun h => by rcases (hv.out.1 h).2.2.2.2 with ⟨e, _⟩ | ⟨_, ⟨e1, e2, e3⟩, hc, hr⟩; (first | exact absurd e (by decide) | exact e.elim); (first | contradiction | exact absurd hr hR | exact absurd hc ‹_› | omega)), (hx0.trans hx4).alloc _⟩
  ·have k1b : (K == 1) = false := by simpa using k1
   have k2b : (K == 2) = false := by simpa using k2
   replace k1 := Lib.hid k1; replace k2 := Lib.hid k2
   go_enter Tryz.func120, Tryz.ntmps120
   go_wp2_with (first
    | (go_at_call 171; (with_reducible refine (hnm.out _).mono ?_); rintro e w1 ⟨⟨hP, rfl⟩ | ⟨hP, rfl⟩, rfl⟩ <;> first | exact absurd h1.out hP | skip)
    | (go_at_call 35; (with_reducible refine (inRange_c _ _ _ _).mono ?_); rintro e w1' ⟨⟨hP', rfl⟩ | ⟨hP', rfl⟩, rfl⟩ <;> first | (exfalso; omega) | skip)
    | (go_at_call 129; (with_reducible refine (hr1.out _ (HLV.out.ext hx0)).mono ?_); rintro e w1'' ⟨⟨hQ, rfl⟩ | ⟨hQ, rfl⟩, rfl⟩ <;> first | exact absurd h4.out hQ | skip))
   go_ret
   exact ⟨isB_f (fun h => by rcases (hv.out.1 h).2.2.2.2 with ⟨e, _⟩ | ⟨e, _⟩; exact k1.out e; exact k2.out e), hx0⟩
 ·have h4' := Lib.hid h4
  clear h4
  go_enter Tryz.func120, Tryz.ntmps120
  go_wp2_with (first
   | (go_at_call 171; (with_reducible refine (hnm.out _).mono ?_); rintro e w1 ⟨⟨hP, rfl⟩ | ⟨hP, rfl⟩, rfl⟩)
   | (go_at_call 35; (with_reducible refine (inRange_c _ _ _ _).mono ?_); rintro e w1' ⟨⟨hP', rfl⟩ | ⟨hP', rfl⟩, rfl⟩)
   | (go_at_call 129; (with_reducible refine (hr1.out _ (HLV.out.ext hx0)).mono ?_); rintro e w1'' ⟨⟨hQ, rfl⟩ | ⟨hQ, rfl⟩, rfl⟩ <;> first | (exfalso; exact h4'.out ⟨⟨‹NA›, by omega⟩, by omega, ‹LA›⟩) | skip))
  all_goals
   go_ret
   exact ⟨isB_f (fun h => h4'.out ⟨⟨(hv.out.1 h).1, (hv.out.1 h).2.1⟩, (hv.out.1 h).2.2.1, (hv.out.1 h).2.2.2.1⟩), hx0⟩
set_option maxHeartbeats 1600000 in
set_option maxRecDepth 100000 in
theorem sIsFamily_c (nm : ByteArray) (K p k q co : Int) (ps pl : Option Addr) (cs cl : Nat) (ss ls : List Int) (w : World) (hs : IntsAt w ps ss) (hlv : IntsAt w pl ls) (hn : nm.size ≤ 1048576) (hl1 : ss.length ≤ 1048576) (hl2 : ls.length ≤ 1048576) :
  Calls Tryz.prog 53 #[vFam nm K p k q ps ss.length cs co pl ls.length cl] w fun e w' => isB e (famOK nm K p k q ss co ls) ∧ Ext w w' := by
 have HS := Lib.hid hs; have HLV := Lib.hid hlv; clear hs hlv
 have hbx := Blk.new w #[.string nm, .int .i64 K, .int .i64 p, .int .i64 k, .int .i64 q, .slice ps ss.length cs, .int .i64 co, .slice pl ls.length cl] 55
 have hx0 : Ext w (w.alloc (.cells #[.string nm, .int .i64 K, .int .i64 p, .int .i64 k, .int .i64 q, .slice ps ss.length cs, .int .i64 co, .slice pl ls.length cl] 55)) := (Ext.refl w).alloc _
 have hv := Lib.hid (show famOK nm K p k q ss co ls ↔ nameOK nm ∧ (1 ≤ ss.length ∧ ss.length ≤ 8) ∧ (1 ≤ ls.length ∧ ls.length ≤ 4) ∧ risOK 1 80 ls ∧
  ((K = 1 ∧ p = 2 ∧ fldOK p k q ∧ co = 0 ∧ risOK 17 41 ss ∧ ∀ i, i < ss.length → sizOK (ss.getD i 0)) ∨ (K = 2 ∧ (p = 2 ∧ k = 5 ∧ q = 37) ∧ (1 ≤ co ∧ co ≤ 8) ∧ risOK 3 24 ss)) from Iff.rfl)
 have h32 : (p = 2 ∧ k = 5 ∧ q = 37) → fldOK p k q := fun h => by obtain ⟨rfl, rfl, rfl⟩ := h; exact fld32_yes
 have h17 : risOK 17 41 ss → ∀ i, i < ss.length → (sizOK (ss.getD i 0) ↔ ss.getD i 0 % 4 = 1) ∧ (17 ≤ ss.getD i 0 ∧ ss.getD i 0 ≤ 41) := fun h i hi => by
  have h1 := (h i hi).1
  exact ⟨⟨fun h => h.2, fun h => ⟨h1, h⟩⟩, h1⟩
 have hnm := Lib.hid (fun W => sName_c nm W hn)
 have hr1 := fun W (h : IntsAt W pl ls) => sRises_c pl cl 4 1 80 ls W h hl2 (by omega)
 have hr2 := fun W (h : IntsAt W ps ss) => sRises_c ps cs 8 17 41 ss W h hl1 (by omega)
 have hr3 := fun W (h : IntsAt W ps ss) => sRises_c ps cs 8 3 24 ss W h hl1 (by omega)
 rw [show ((4 : Nat) : Int) = 4 from rfl] at hr1
 rw [show ((8 : Nat) : Int) = 8 from rfl] at hr2 hr3
 replace hr1 := Lib.hid hr1; replace hr2 := Lib.hid hr2; replace hr3 := Lib.hid hr3
 have hif := Lib.hid (fun W => sIsField_c p k q W)
 generalize famOK nm K p k q ss co ls = M at *
 generalize nameOK nm = NA at *
 generalize risOK 1 80 ls = LA at *
 generalize risOK 17 41 ss = SA at *
 generalize risOK 3 24 ss = SB at *
 generalize fldOK p k q = FA at *
 replace h32 := Lib.hid h32; replace h17 := Lib.hid h17
 obtain ⟨c0, c1, c2, c3, c4, c5, c6, c7⟩ := hbx.c8; have cL := hbx.lt
 by_cases hA : NA ∧ FA ∧ ((1 ≤ ls.length ∧ ls.length ≤ 4) ∧ LA)
 ·obtain ⟨h1, h2, h3⟩ := hA
  replace h1 := Lib.hid h1; replace h2 := Lib.hid h2; replace h3 := Lib.hid h3
  by_cases hK : K = 2
  ·subst hK
   have hfo := Lib.hid (fun W => sField32_c W)
   go_enter Tryz.func53, Tryz.ntmps53
   go_wp2_with (first
    | (go_at_call 103; (with_reducible refine (hnm.out _).mono ?_); rintro e w1 ⟨⟨hP, rfl⟩ | ⟨hP, rfl⟩, rfl⟩ <;> first | exact absurd h1.out hP | skip)
    | (go_at_call 104; (with_reducible refine (hif.out _).mono ?_); rintro e w2 ⟨⟨hF, rfl⟩ | ⟨hF, rfl⟩, hx2⟩ <;> (first | exact absurd h2.out hF | skip); have hb2 := hbx.ext hx2; have a1 := hb2.cell (i := 1) (v := .int .i64 2) rfl; have a7 := hb2.cell (i := 7) (v := .slice pl ls.length cl) rfl; have aL := hb2.lt)
    | (go_at_call 105; (with_reducible refine (hr1.out _ (HLV.out.ext (hx0.trans hx2))).mono ?_); rintro e w3 ⟨⟨hQ, rfl⟩ | ⟨hQ, rfl⟩, hx3⟩ <;> (first | exact absurd h3.out hQ | skip); have hb3 := hbx.ext (hx2.trans hx3); have b1 := hb3.cell (i := 1) (v := .int .i64 2) rfl; have bL := hb3.lt)
    | (go_at_call 106; (with_reducible refine (hfo.out _).mono ?_); rintro e w4 ⟨rfl, hx4⟩; have hb4 := hbx.ext ((hx2.trans hx3).trans hx4); have d2 := hb4.cell (i := 2) (v := .int .i64 p) rfl; have d3 := hb4.cell (i := 3) (v := .int .i64 k) rfl; have d4 := hb4.cell (i := 4) (v := .int .i64 q) rfl; have d5 := hb4.cell (i := 5) (v := .slice ps ss.length cs) rfl; have d6 := hb4.cell (i := 6) (v := .int .i64 co) rfl; have dL := hb4.lt)
    | (go_at_call 29; (with_reducible refine (l01In_c _ _ _ _).mono ?_); rintro e w1' ⟨⟨hP', rfl⟩ | ⟨hP', rfl⟩, rfl⟩)
    | (go_at_call 105; (with_reducible refine (hr3.out _ (HS.out.ext ((((hx0.trans hx2).trans hx3).trans hx4).alloc _))).mono ?_); rintro e w9 ⟨⟨hR, rfl⟩ | ⟨hR, rfl⟩, hx9⟩))
   all_goals
    go_ret
    first
     | (have hM : M := hv.out.2 ⟨h1.out, hR.1, h3.out.1, h3.out.2, .inr ⟨by first | rfl | trivial, ⟨by first | rfl | trivial, by first | rfl | trivial, by first | rfl | trivial⟩, by assumption, hR.2⟩⟩; exact ⟨.inl ⟨hM, rfl⟩, ((((hx0.trans hx2).trans hx3).trans hx4).alloc _).trans hx9⟩)
     | exact ⟨isB_f (fun h => by rcases (hv.out.1 h).2.2.2.2 with ⟨e, _⟩ | ⟨_, ⟨e1, e2, e3⟩, hc, hr⟩; (first | exact absurd e (by decide) | exact e.elim); (first | contradiction | exact absurd ⟨(hv.out.1 h).2.1, hr⟩ hR | exact absurd hc ‹_› | omega)), by first | exact ((((hx0.trans hx2).trans hx3).trans hx4).alloc _) | exact ((((hx0.trans hx2).trans hx3).trans hx4).alloc _).trans hx9⟩
  ·have hKb : (K == 2) = false := by simpa using hK
   replace hK := Lib.hid hK
   by_cases hK1 : K = 1
   ·subst hK1
    clear hKb
    by_cases hp : p = 2
    ·subst hp
     by_cases hco : co = 0
     ·subst hco
      go_enter Tryz.func53, Tryz.ntmps53
      go_upto_region 8 with (first
     | (go_at_call 103; (with_reducible refine (hnm.out _).mono ?_); rintro e w1 ⟨⟨hP, rfl⟩ | ⟨hP, rfl⟩, rfl⟩ <;> first | exact absurd h1.out hP | skip)
     | (go_at_call 104; (with_reducible refine (hif.out _).mono ?_); rintro e w2 ⟨⟨hF, rfl⟩ | ⟨hF, rfl⟩, hx2⟩ <;> (first | exact absurd h2.out hF | skip); have hb2 := hbx.ext hx2; have a1 := hb2.cell (i := 1) (v := .int .i64 1) rfl; have a7 := hb2.cell (i := 7) (v := .slice pl ls.length cl) rfl; have aL := hb2.lt)
     | (go_at_call 105; (with_reducible refine (hr1.out _ (HLV.out.ext (hx0.trans hx2))).mono ?_); rintro e w3 ⟨⟨hQ, rfl⟩ | ⟨hQ, rfl⟩, hx3⟩ <;> (first | exact absurd h3.out hQ | skip); have hb3 := hbx.ext (hx2.trans hx3); have b1 := hb3.cell (i := 1) (v := .int .i64 1) rfl; have b2 := hb3.cell (i := 2) (v := .int .i64 2) rfl; have b5 := hb3.cell (i := 5) (v := .slice ps ss.length cs) rfl; have b6 := hb3.cell (i := 6) (v := .int .i64 0) rfl; have bL := hb3.lt)
     | (go_at_call 105; (with_reducible refine (hr2.out _ (HS.out.ext ((hx0.trans hx2).trans hx3))).mono ?_); rintro e w9 ⟨⟨hR, rfl⟩ | ⟨hR, rfl⟩, hx9⟩))
      ·have hxw := ((hx0.trans hx2).trans hx3).trans hx9
       have hb9 := (hbx.ext (hx2.trans hx3)).ext hx9
       have e5 := hb9.cell (i := 5) (v := .slice ps ss.length cs) rfl; have eL := hb9.lt
       clear a1 a7 aL b1 b2 b5 b6 bL
       go_upto_region 9 with (fail)
       go_loop [5] (fun i => ∃ j : Nat, j ≤ ss.length ∧ i = .int .i64 j ∧ Hid (∀ i, i < j → sizOK (ss.getD i 0))) (fun i => ss.length - (intOf i).toNat)
       case atStart => exact ⟨0, Nat.zero_le _, rfl, Lib.hid (fun i h => absurd h (Nat.not_lt_zero i))⟩
       case round =>
        obtain ⟨j, hj, rfl, hall⟩ := hrel
        by_cases hlt : j < ss.length
        ·obtain ⟨b, o, rfl, hbl, y1⟩ := (HS.out.ext hxw) j hlt
         have h17j := h17.out hR.2 j hlt
         have hst : sizOK (ss.getD j 0) → ∀ i, i < j + 1 → sizOK (ss.getD i 0) := fun h i hi => by
          by_cases e : i = j
          ·rw [e]; exact h
          ·exact hall.out i (by omega)
         have hno : M → sizOK (ss.getD j 0) := fun h => by
          rcases (hv.out.1 h).2.2.2.2 with ⟨_, _, _, _, _, h⟩ | ⟨h, _⟩
          ·exact h j hlt
          ·exact absurd h (by decide)
         replace hst := Lib.hid hst; replace hno := Lib.hid hno
         generalize ss.getD j 0 = x at *
         obtain ⟨hS, hx1, hx2'⟩ := h17j
         by_cases h4 : x % 4 = 1
         ·have h4b : (x % 4 != 1) = false := by simpa using h4
          replace h4 := Lib.hid h4
          go_wp2
          go_round
          case rel => exact ⟨j + 1, hlt, by go_num, Lib.hid (hst.out (hS.2 h4.out))⟩
          case measure => simp [intOf]; omega
         ·have h4b : (x % 4 != 1) = true := by simpa using h4
          replace h4 := Lib.hid h4
          go_wp2
          go_ret
          exact ⟨isB_f (fun h => h4.out (hS.1 (hno.out h))), hxw⟩
        ·obtain rfl : j = ss.length := by omega
         go_wp2
         go_ret
         have hM : M := hv.out.2 ⟨h1.out, hR.1, h3.out.1, h3.out.2, .inl ⟨by first | rfl | trivial, by first | rfl | trivial, h2.out, by first | rfl | trivial, hR.2, hall.out⟩⟩
         exact ⟨.inl ⟨hM, rfl⟩, hxw⟩
      ·go_wp2
       go_ret
       exact ⟨isB_f (fun h => by rcases (hv.out.1 h).2.2.2.2 with ⟨e1, e2, _, e4, e5, _⟩ | ⟨e, _⟩; (first | contradiction | exact absurd e1 (by first | assumption | exact hK1.out) | exact absurd e2 hp.out | exact absurd e4 hco.out | exact absurd ⟨(hv.out.1 h).2.1, e5⟩ hR); (first | contradiction | exact absurd e hK.out | exact absurd e (by decide))), ((hx0.trans hx2).trans hx3).trans hx9⟩
     ·have hcb : (co != 0) = true := by simpa using hco
      replace hco := Lib.hid hco
      go_enter Tryz.func53, Tryz.ntmps53
      go_wp2_with (first
     | (go_at_call 103; (with_reducible refine (hnm.out _).mono ?_); rintro e w1 ⟨⟨hP, rfl⟩ | ⟨hP, rfl⟩, rfl⟩ <;> first | exact absurd h1.out hP | skip)
     | (go_at_call 104; (with_reducible refine (hif.out _).mono ?_); rintro e w2 ⟨⟨hF, rfl⟩ | ⟨hF, rfl⟩, hx2⟩ <;> (first | exact absurd h2.out hF | skip); have hb2 := hbx.ext hx2; have a1 := hb2.cell (i := 1) (v := .int .i64 1) rfl; have a7 := hb2.cell (i := 7) (v := .slice pl ls.length cl) rfl; have aL := hb2.lt)
     | (go_at_call 105; (with_reducible refine (hr1.out _ (HLV.out.ext (hx0.trans hx2))).mono ?_); rintro e w3 ⟨⟨hQ, rfl⟩ | ⟨hQ, rfl⟩, hx3⟩ <;> (first | exact absurd h3.out hQ | skip); have hb3 := hbx.ext (hx2.trans hx3); have b1 := hb3.cell (i := 1) (v := .int .i64 1) rfl; have b2 := hb3.cell (i := 2) (v := .int .i64 2) rfl; have b5 := hb3.cell (i := 5) (v := .slice ps ss.length cs) rfl; have b6 := hb3.cell (i := 6) (v := .int .i64 co) rfl; have bL := hb3.lt))
      go_ret
      exact ⟨isB_f (fun h => by rcases (hv.out.1 h).2.2.2.2 with ⟨e1, e2, _, e4, e5, _⟩ | ⟨e, _⟩; (first | contradiction | exact absurd e1 (by first | assumption | exact hK1.out) | exact absurd e2 hp.out | exact absurd e4 hco.out | exact absurd ⟨(hv.out.1 h).2.1, e5⟩ hR); (first | contradiction | exact absurd e hK.out | exact absurd e (by decide))), ((hx0.trans hx2).trans hx3)⟩
    ·have hpb : (p != 2) = true := by simpa using hp
     replace hp := Lib.hid hp
     go_enter Tryz.func53, Tryz.ntmps53
     go_wp2_with (first
     | (go_at_call 103; (with_reducible refine (hnm.out _).mono ?_); rintro e w1 ⟨⟨hP, rfl⟩ | ⟨hP, rfl⟩, rfl⟩ <;> first | exact absurd h1.out hP | skip)
     | (go_at_call 104; (with_reducible refine (hif.out _).mono ?_); rintro e w2 ⟨⟨hF, rfl⟩ | ⟨hF, rfl⟩, hx2⟩ <;> (first | exact absurd h2.out hF | skip); have hb2 := hbx.ext hx2; have a1 := hb2.cell (i := 1) (v := .int .i64 1) rfl; have a7 := hb2.cell (i := 7) (v := .slice pl ls.length cl) rfl; have aL := hb2.lt)
     | (go_at_call 105; (with_reducible refine (hr1.out _ (HLV.out.ext (hx0.trans hx2))).mono ?_); rintro e w3 ⟨⟨hQ, rfl⟩ | ⟨hQ, rfl⟩, hx3⟩ <;> (first | exact absurd h3.out hQ | skip); have hb3 := hbx.ext (hx2.trans hx3); have b1 := hb3.cell (i := 1) (v := .int .i64 1) rfl; have b2 := hb3.cell (i := 2) (v := .int .i64 p) rfl; have b5 := hb3.cell (i := 5) (v := .slice ps ss.length cs) rfl; have b6 := hb3.cell (i := 6) (v := .int .i64 co) rfl; have bL := hb3.lt))
     go_ret
     exact ⟨isB_f (fun h => by rcases (hv.out.1 h).2.2.2.2 with ⟨e1, e2, _, e4, e5, _⟩ | ⟨e, _⟩; (first | contradiction | exact absurd e1 (by first | assumption | exact hK1.out) | exact absurd e2 hp.out | exact absurd e4 hco.out | exact absurd ⟨(hv.out.1 h).2.1, e5⟩ hR); (first | contradiction | exact absurd e hK.out | exact absurd e (by decide))), ((hx0.trans hx2).trans hx3)⟩
   ·have hK1b : (K != 1) = true := by simpa using hK1
    replace hK1 := Lib.hid hK1
    go_enter Tryz.func53, Tryz.ntmps53
    go_wp2_with (first
     | (go_at_call 103; (with_reducible refine (hnm.out _).mono ?_); rintro e w1 ⟨⟨hP, rfl⟩ | ⟨hP, rfl⟩, rfl⟩ <;> first | exact absurd h1.out hP | skip)
     | (go_at_call 104; (with_reducible refine (hif.out _).mono ?_); rintro e w2 ⟨⟨hF, rfl⟩ | ⟨hF, rfl⟩, hx2⟩ <;> (first | exact absurd h2.out hF | skip); have hb2 := hbx.ext hx2; have a1 := hb2.cell (i := 1) (v := .int .i64 K) rfl; have a7 := hb2.cell (i := 7) (v := .slice pl ls.length cl) rfl; have aL := hb2.lt)
     | (go_at_call 105; (with_reducible refine (hr1.out _ (HLV.out.ext (hx0.trans hx2))).mono ?_); rintro e w3 ⟨⟨hQ, rfl⟩ | ⟨hQ, rfl⟩, hx3⟩ <;> (first | exact absurd h3.out hQ | skip); have hb3 := hbx.ext (hx2.trans hx3); have b1 := hb3.cell (i := 1) (v := .int .i64 K) rfl; have b2 := hb3.cell (i := 2) (v := .int .i64 p) rfl; have b5 := hb3.cell (i := 5) (v := .slice ps ss.length cs) rfl; have b6 := hb3.cell (i := 6) (v := .int .i64 co) rfl; have bL := hb3.lt))
    go_ret
    exact ⟨isB_f (fun h => by rcases (hv.out.1 h).2.2.2.2 with ⟨e1, e2, _, e4, e5, _⟩ | ⟨e, _⟩; (first | contradiction | exact absurd e1 (by first | assumption | exact hK1.out) | exact absurd e2 hp.out | exact absurd e4 hco.out | exact absurd ⟨(hv.out.1 h).2.1, e5⟩ hR); (first | contradiction | exact absurd e hK.out | exact absurd e (by decide))), ((hx0.trans hx2).trans hx3)⟩
 ·have hA' := Lib.hid hA
  clear hA
  go_enter Tryz.func53, Tryz.ntmps53
  go_wp2_with (first
   | (go_at_call 103; (with_reducible refine (hnm.out _).mono ?_); rintro e w1 ⟨⟨hP, rfl⟩ | ⟨hP, rfl⟩, rfl⟩)
   | (go_at_call 104; (with_reducible refine (hif.out _).mono ?_); rintro e w2 ⟨⟨hF, rfl⟩ | ⟨hF, rfl⟩, hx2⟩; all_goals (have hb2 := hbx.ext hx2; have a7 := hb2.cell (i := 7) (v := .slice pl ls.length cl) rfl; have aL := hb2.lt))
   | (go_at_call 105; (with_reducible refine (hr1.out _ (HLV.out.ext (hx0.trans hx2))).mono ?_); rintro e w3 ⟨⟨hQ, rfl⟩ | ⟨hQ, rfl⟩, hx3⟩ <;> first | (exfalso; exact hA'.out ⟨hP, hF, hQ⟩) | skip))
  all_goals
   go_ret
   exact ⟨isB_f (fun h => hA'.out ⟨(hv.out.1 h).1, by rcases (hv.out.1 h).2.2.2.2 with ⟨_, _, e, _⟩ | ⟨_, e, _⟩; exact e; exact h32.out e, (hv.out.1 h).2.2.1, (hv.out.1 h).2.2.2.1⟩), by first | exact hx0 | exact hx0.trans hx2 | exact (hx0.trans hx2).trans hx3⟩
end Go.Proofs.YtdnkljpnhmcnpaaGreat
