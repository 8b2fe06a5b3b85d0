/- Elements of a matrix symbol: plain laws. -/
import Derived.Test.YtojdediohjghnaaGreatDoorLSurvivesDamageK25
import Derived.Test.YtojdediohjghnaaGreatDoorLSurvivesDamageK17
set_option linter.unusedVariables false
set_option linter.unusedSimpArgs false
namespace Go.Proofs.YtojdediohjghnaaGreatDoor
open Go.RowKit

def stepE (x b : Int) : Int := if b < 0 ∨ x < 0 then -1 else 2 * x + b
theorem stepE_no {x b : Int} (h : b < 0 ∨ x < 0) : stepE x b = -1 := if_pos h
theorem stepE_yes {x b : Int} (h : ¬ (b < 0 ∨ x < 0)) : stepE x b = 2 * x + b := if_neg h
def elTo (ds : List Int) (a : Nat) : Nat → Int
 | 0 => 0
 | k + 1 => stepE (elTo ds a k) (ds.getD (a + k) 0)
theorem elTo_s (ds : List Int) (a k : Nat) : elTo ds a (k + 1) = stepE (elTo ds a k) (ds.getD (a + k) 0) := rfl
theorem at_bd {ds : List Int} (hb : ∀ x ∈ ds, -1 ≤ x ∧ x ≤ 1) (i : Nat) : -1 ≤ ds.getD i 0 ∧ ds.getD i 0 ≤ 1 := by
 rw [List.getD_eq_getElem?_getD]
 rcases Nat.lt_or_ge i ds.length with h | h
 ·rw [List.getElem?_eq_getElem h]
  exact hb _ (List.getElem_mem h)
 ·rw [List.getElem?_eq_none h]
  decide
theorem elTo_bd {ds : List Int} (hb : ∀ x ∈ ds, -1 ≤ x ∧ x ≤ 1) (a : Nat) : ∀ k, -1 ≤ elTo ds a k ∧ elTo ds a k < (2 ^ k : Nat)
 | 0 => by simp [elTo]
 | k + 1 => by
  have ih := elTo_bd hb a k
  have h1 := at_bd hb (a + k)
  rw [elTo_s]
  by_cases h : ds.getD (a + k) 0 < 0 ∨ elTo ds a k < 0
  ·rw [stepE_no h]
   have : 0 < 2 ^ (k + 1) := Nat.two_pow_pos _
   omega
  ·rw [stepE_yes h, Nat.pow_succ]
   omega
def elemsV (w : Nat) (ds : List Int) (m : Nat) : List Int := (List.range m).map fun j => elTo ds (j * w) w
theorem elemsV_len (w : Nat) (ds : List Int) (m : Nat) : (elemsV w ds m).length = m := by simp [elemsV]
theorem elemsV_succ (w : Nat) (ds : List Int) (m : Nat) : elemsV w ds (m + 1) = elemsV w ds m ++ [elTo ds (m * w) w] := by simp [elemsV, List.range_succ]
theorem more_iff {w n j : Nat} (hw : 0 < w) : j < n / w ↔ j * w + w ≤ n := by
 rw [Nat.lt_iff_add_one_le, Nat.le_div_iff_mul_le hw, Nat.add_mul, Nat.one_mul]
end Go.Proofs.YtojdediohjghnaaGreatDoor
/- Grids with a mask, on both sides. -/
namespace Go.Proofs.YtojdediohjghnaaGreatDoor
open Go.RowKit

theorem OwnInts.self {B b o : Nat} {w : World} {xs : List Int} (h : OwnInts B w (some ⟨b, o, none⟩) xs) : OwnInts b w (some ⟨b, o, none⟩) xs := fun i hi => by
 obtain ⟨b', o', h1, h2, h3⟩ := h i hi
 simp only [Option.some.injEq, Addr.mk.injEq, and_true] at h1
 obtain ⟨rfl, rfl⟩ := h1
 exact ⟨b, o, rfl, Nat.le_refl _, h3⟩
theorem mask_pl {n : Nat} (hn : 17 ≤ n ∧ n ≤ 41) (h4 : n % 4 = 1) {j : Nat} (hj : j < (dpL n).length) : ∃ (r c : Int) (q : Nat), (dpL n).getD j (0, 0) = (r, c) ∧ (0 ≤ r ∧ r ≤ 40) ∧ (0 ≤ c ∧ c ≤ 40) ∧ r * (n : Int) + c = (q : Int) ∧ q < n * n ∧ 0 ≤ r * (n : Int) ∧ plIx n (r, c) = q := by
 have hb := dpL_bd hn h4 _ (getD_mem (d := (0, 0)) hj)
 have hx := plIx_eq hb.1 hb.2
 generalize (dpL n).getD j (0, 0) = p at *
 obtain ⟨r, c⟩ := p
 simp only at hb hx
 exact ⟨r, c, _, rfl, by omega, by omega, hx.1, hx.2.1, hx.2.2, rfl⟩
theorem msk_step {m n j q : Nat} {xs : List Int} {r c : Int} (hp : (dpL n).getD j (0, 0) = (r, c)) (hq : plIx n (r, c) = q) :
  mskTo m n (dpL n) xs (j + 1) = if (decide (0 ≤ (mskTo m n (dpL n) xs j).getD q 0) && turnB m r c) = true then (mskTo m n (dpL n) xs j).set q (1 - (mskTo m n (dpL n) xs j).getD q 0) else mskTo m n (dpL n) xs j := by
 rw [mskTo_s, hp, hq]
 simp only [Bool.and_eq_true, decide_eq_true_eq]
set_option maxHeartbeats 1600000 in
set_option maxRecDepth 100000 in
theorem masked_c (m n k : Nat) (hm : m < 8) (p : Option Addr) (xs : List Int) (w : World) (hn : 17 ≤ n ∧ n ≤ 41) (h4 : n % 4 = 1) (hx : IntsAt w p xs) (hlen : xs.length = n * n) (hbd : ∀ x ∈ xs, -1 ≤ x ∧ x ≤ 1) :
  Calls Tryz.prog 79 #[vGrid n n p xs.length k, .int .i64 m] w fun e w' => GrdR n n (mskL m n xs) w.heap.size e w' ∧ Ext w w' := by
 have HX := Lib.hid hx; clear hx
 have hN : n * n ≤ 1681 := Nat.mul_le_mul hn.2 hn.2
 have hN1 : 0 < n * n := Nat.mul_pos (by omega) (by omega)
 have hb := (Blk.new w #[.int .i64 n, .int .i64 n, .slice p xs.length k] 37).alloc (.cells #[.int .i64 0, .int .i64 0, .slice none 0 0] 37)
 have h0 := Blk.new (w.alloc (.cells #[.int .i64 n, .int .i64 n, .slice p xs.length k] 37)) #[.int .i64 0, .int .i64 0, .slice none 0 0] 37
 have hx0 : Ext w ((w.alloc (.cells #[.int .i64 n, .int .i64 n, .slice p xs.length k] 37)).alloc (.cells #[.int .i64 0, .int .i64 0, .slice none 0 0] 37)) := ((Ext.refl w).alloc _).alloc _
 simp only [World.size_alloc] at h0
 have hcp := Lib.hid (fun W (h : IntsAt W p xs) => copy_c n n p k xs W h (by omega))
 have hcd := Lib.hid (fun W => conditions_c W)
 have hpl := Lib.hid (fun W => iPlaces_c n W hn h4)
 have hz : ∀ w, (zeroValue 180).run Tryz.prog w = .ok .nilFunc w := fun w => by kernel_rfl
 replace hz := Lib.hid hz
 have hkm := Lib.hid (intKey (x := (m : Int)) (by omega))
 have hcm : (condF (m : Int)).getD .nilFunc = .func (.func (turnF m)) #[] #[] := by unfold condF; rw [if_pos (by omega), Int.toNat_natCast]; rfl
 replace hcm := Lib.hid hcm
 replace hlen := Lib.hid hlen
 obtain ⟨f0, f1, f2⟩ := hb.c3; have fl := hb.lt
 go_enter Tryz.func79, Tryz.ntmps79
 go_upto_region 4 with (first
  | (go_at_call 122; (with_reducible refine (hcp.out _ (HX.out.ext hx0)).mono ?_); rintro e w1 ⟨⟨q, kq, rfl, oq, hkq⟩, hx1⟩)
  | (go_at_call 123; (with_reducible refine (hcd.out _).mono ?_); rintro e w2 ⟨⟨bm, nm, rfl, hmm⟩, hx2⟩)
  | (refine wp_look (y := (m : Int)) hmm intKeyed Tryz.underlying181 (hz.out _) hkm.out ?_ rfl rfl; rw [hcm.out]; have hb2 := ((hb.ext hx1).alloc (.cells #[.int .i64 n, .int .i64 n, .slice q xs.length kq] 37)).ext hx2; have y0 := hb2.cell (i := 0) (v := .int .i64 n) rfl; have yl := hb2.lt)
  | (go_at_call 121; (with_reducible refine (hpl.out _).mono ?_); rintro e w3 ⟨⟨v3, rfl, hr3⟩, hx3⟩; obtain ⟨pp, cp, hv3, hA3, hf3⟩ := hr3.nfree plF_len; subst hv3))
 obtain ⟨b, o, rfl, hbB, hbl, -⟩ := oq 0 (by rw [hlen.out]; exact hN1)
 have hz1 := hx1.below.size; have hz2 := hx2.below.size; have hz3 := hx3.below.size
 have hbw : w.heap.size + 2 ≤ b := by
  have := (oq.lt0 (fun e => by have := hlen.out; rw [e] at this; simp at this; omega) rfl).1
  simp only [World.size_alloc] at this; omega
 have hx13 : Ext w1 w3 := (((Ext.refl w1).alloc (.cells #[.int .i64 n, .int .i64 n, .slice (some ⟨b, o, none⟩) xs.length kq] 37)).trans hx2).trans hx3
 have hG3 := ((Blk.new w1 #[.int .i64 n, .int .i64 n, .slice (some ⟨b, o, none⟩) xs.length kq] 37).ext hx2).ext hx3
 have hR3 := (h0.ext hx1).ext hx13
 have ow3 := oq.ext hx13
 have hxw := (hx0.trans hx1).trans hx13
 simp only [World.size_alloc] at hz2
 have hpb : ∀ b' o', pp = some ⟨b', o', none⟩ → b' ≠ b := fun b' o' e => by have := (hf3 b' o' e).1; omega
 replace hpb := Lib.hid hpb
 have hwb : w.heap.size ≤ b := by omega
 have hg5 : w1.heap.size ≠ b := by omega
 have hr5 : w.heap.size + 1 ≠ b := by omega
 obtain ⟨Nn, hNn⟩ : ∃ Nn, xs.length = Nn := ⟨_, rfl⟩
 have hlenN : Nn = n * n := by rw [← hNn]; exact hlen.out
 rw [hNn] at hG3 hkq ⊢
 have hm0 : mskTo m n (dpL n) xs 0 = xs := rfl
 rw [← hm0] at ow3
 have hml := fun j => mskTo_len m n (dpL n) xs j
 have hdl := dpL_len (n := n) hn.2
 have hms := fun j q r c hp hq => msk_step (m := m) (n := n) (j := j) (q := q) (xs := xs) (r := r) (c := c) hp hq
 have hmb := fun j => mskTo_bd (m := m) (n := n) (ps := dpL n) hbd j
 have hmp := fun j hj => mask_pl hn h4 (j := j) hj
 have hfin : mskL m n xs = mskTo m n (dpL n) xs (dpL n).length := rfl
 have hpl2 : ∀ W j, j < (dpL n).length → PlAt W pp (dpL n) → ∃ b o, pp = some ⟨b, o, none⟩ ∧ b < W.heap.size ∧ W.cell? ⟨b, o + j * 2, none⟩ = some (.int .i64 ((dpL n).getD j (0, 0)).1) ∧ W.cell? ⟨b, o + j * 2 + 1, none⟩ = some (.int .i64 ((dpL n).getD j (0, 0)).2) := fun W j hj h => SAt.pl2 h hj
 generalize hD : dpL n = ps at *
 generalize hM : mskTo m n ps xs = MT at *
 obtain ⟨P, hP⟩ : ∃ P, ps.length = P := ⟨_, rfl⟩
 rw [hP] at hdl hmp hpl2 hfin ⊢
 replace hD := Lib.hid hD; replace hM := Lib.hid hM; replace hP := Lib.hid hP; replace hNn := Lib.hid hNn; replace hms := Lib.hid hms; replace hml := Lib.hid hml; replace hmb := Lib.hid hmb; replace hmp := Lib.hid hmp; replace hfin := Lib.hid hfin; replace hpl2 := Lib.hid hpl2; replace hlenN := Lib.hid hlenN
 clear hm0 oq hb2 y0 yl f0 f1 f2 fl h0 hb hx0 hx1 hx2 hx3 hx13 hr3 hmm hcd hcp hpl hf3 hbB hbl
 generalize w1.heap.size = g5 at *
 go_loopw [19] (fun i wr => ∃ j : Nat, j ≤ P ∧ i = .int .i64 j ∧ OwnInts b wr (some ⟨b, o, none⟩) (MT j) ∧ Blk wr g5 #[.int .i64 n, .int .i64 n, .slice (some ⟨b, o, none⟩) Nn kq] 37 ∧ Blk wr (w.heap.size + 1) #[.int .i64 0, .int .i64 0, .slice none 0 0] 37 ∧ PlAt wr pp ps ∧ Ext w wr) (fun i _ => P - (intOf i).toNat)
 case atStart => exact ⟨0, Nat.zero_le _, rfl, ow3.self, hG3, hR3, hA3, hxw⟩
 case round =>
  clear ow3 hG3 hR3 hA3 hxw
  obtain ⟨j, hj, rfl, ow, hG, hR, hA, hxt⟩ := hrel
  by_cases hlt : j < P
  ·have hji : (j : Int) < P := by omega
   obtain ⟨bp, op, rfl, hbp, u0, u1⟩ := hpl2.out wr j hlt hA
   obtain ⟨r, c, qi, hpe, hr, hc, hq1, hq2, hq3, hq4⟩ := hmp.out j hlt
   have hst := hms.out j qi r c hpe hq4
   rw [hpe] at u0 u1
   simp only at u0 u1
   have hlq : qi < (MT j).length := by rw [hml.out, hNn.out, hlenN.out]; exact hq2
   have hatc := Lib.hid (fun W (h : IntsAt W (some ⟨b, o, none⟩) (MT j)) => gat_c2 n n (some ⟨b, o, none⟩) kq (MT j) r c qi Nn W (by rw [hml.out, hNn.out]) h hq1 hlq ⟨hq3, hc.1⟩ (by rw [hml.out, hNn.out, hlenN.out]; omega))
   have hstc := Lib.hid (fun W x (h : OwnInts b W (some ⟨b, o, none⟩) (MT j)) => gset_c2 b n n b o kq (MT j) r c x qi Nn W (by rw [hml.out, hNn.out]) h hq1 hlq ⟨hq3, hc.1⟩ (by rw [hml.out, hNn.out, hlenN.out]; omega))
   have hxb := hmb.out j _ (getD_mem (d := 0) hlq)
   generalize (MT j).getD qi 0 = x at *
   obtain ⟨q0, q1, q2⟩ := hG.c3; have ql := hG.lt
   have hxp : Ext wr (wr.alloc (.cells #[.int .i64 r, .int .i64 c] 166)) := (Ext.refl wr).alloc _
   have hPb := Blk.new wr #[.int .i64 r, .int .i64 c] 166
   replace hst := Lib.hid hst
   go_upto_region 7 with (go_at_call 124; (with_reducible refine (hatc.out _ (ow.ints.ext hxp)).mono ?_); rintro e w5 ⟨rfl, hx5⟩)
   have hxr := hxp.trans hx5
   replace ow := ow.ext hxr; replace hG := hG.ext hxr; replace hR := hR.ext hxr; replace hA := SAt.ext hA hxr; replace hxt := hxt.trans hxr
   replace hPb := hPb.ext hx5
   clear q0 q1 q2 ql u0 u1 hxp hx5 hxr
   generalize wr.heap.size = gp at *
   have p0 := hPb.cell (i := 0) (v := .int .i64 r) rfl; have p1 := hPb.cell (i := 1) (v := .int .i64 c) rfl; have pl := hPb.lt
   go_cut [35] (fun s35 wx => s35 = .bool (decide (0 ≤ x) && turnB m r c) ∧ Ext w5 wx)
   case first =>
    have hr50 : 0 ≤ r ∧ r ≤ 50 := by omega
    have hc50 : 0 ≤ c ∧ c ≤ 50 := by omega
    by_cases hx : 0 ≤ x
    ·have hd := decide_eq_true hx
     replace hd := Lib.hid hd
     rcases cases88 hm with rfl | rfl | rfl | rfl | rfl | rfl | rfl | rfl
     ·have ht := Lib.hid (fun W => turn0_c r c W hr50 hc50)
      generalize turnB 0 r c = tb at *
      rw [show turnF 0 = 171 from rfl]
      go_wp2_with (go_at_call 171; (with_reducible refine (ht.out _).mono ?_); rintro e w6 ⟨⟨hP, rfl⟩ | ⟨hP, rfl⟩, rfl⟩)
      all_goals
       go_meet
       first | exact ⟨by rw [hd.out, hP]; rfl, Ext.refl _⟩ | exact ⟨by rw [hd.out, Bool.eq_false_iff.2 hP]; rfl, Ext.refl _⟩
     ·have ht := Lib.hid (fun W => turn1_c r c W hr50 hc50)
      generalize turnB 1 r c = tb at *
      rw [show turnF 1 = 172 from rfl]
      go_wp2_with (go_at_call 172; (with_reducible refine (ht.out _).mono ?_); rintro e w6 ⟨⟨hP, rfl⟩ | ⟨hP, rfl⟩, rfl⟩)
      all_goals
       go_meet
       first | exact ⟨by rw [hd.out, hP]; rfl, Ext.refl _⟩ | exact ⟨by rw [hd.out, Bool.eq_false_iff.2 hP]; rfl, Ext.refl _⟩
     ·have ht := Lib.hid (fun W => turn2_c r c W hr50 hc50)
      generalize turnB 2 r c = tb at *
      rw [show turnF 2 = 173 from rfl]
      go_wp2_with (go_at_call 173; (with_reducible refine (ht.out _).mono ?_); rintro e w6 ⟨⟨hP, rfl⟩ | ⟨hP, rfl⟩, rfl⟩)
      all_goals
       go_meet
       first | exact ⟨by rw [hd.out, hP]; rfl, Ext.refl _⟩ | exact ⟨by rw [hd.out, Bool.eq_false_iff.2 hP]; rfl, Ext.refl _⟩
     ·have ht := Lib.hid (fun W => turn3_c r c W hr50 hc50)
      generalize turnB 3 r c = tb at *
      rw [show turnF 3 = 174 from rfl]
      go_wp2_with (go_at_call 174; (with_reducible refine (ht.out _).mono ?_); rintro e w6 ⟨⟨hP, rfl⟩ | ⟨hP, rfl⟩, rfl⟩)
      all_goals
       go_meet
       first | exact ⟨by rw [hd.out, hP]; rfl, Ext.refl _⟩ | exact ⟨by rw [hd.out, Bool.eq_false_iff.2 hP]; rfl, Ext.refl _⟩
     ·have ht := Lib.hid (fun W => turn4_c r c W hr50 hc50)
      generalize turnB 4 r c = tb at *
      rw [show turnF 4 = 175 from rfl]
      go_wp2_with (go_at_call 175; (with_reducible refine (ht.out _).mono ?_); rintro e w6 ⟨⟨hP, rfl⟩ | ⟨hP, rfl⟩, rfl⟩)
      all_goals
       go_meet
       first | exact ⟨by rw [hd.out, hP]; rfl, Ext.refl _⟩ | exact ⟨by rw [hd.out, Bool.eq_false_iff.2 hP]; rfl, Ext.refl _⟩
     ·have ht := Lib.hid (fun W => turn5_c r c W hr50 hc50)
      generalize turnB 5 r c = tb at *
      rw [show turnF 5 = 176 from rfl]
      go_wp2_with (go_at_call 176; (with_reducible refine (ht.out _).mono ?_); rintro e w6 ⟨⟨hP, rfl⟩ | ⟨hP, rfl⟩, rfl⟩)
      all_goals
       go_meet
       first | exact ⟨by rw [hd.out, hP]; rfl, Ext.refl _⟩ | exact ⟨by rw [hd.out, Bool.eq_false_iff.2 hP]; rfl, Ext.refl _⟩
     ·have ht := Lib.hid (fun W => turn6_c r c W hr50 hc50)
      generalize turnB 6 r c = tb at *
      rw [show turnF 6 = 177 from rfl]
      go_wp2_with (go_at_call 177; (with_reducible refine (ht.out _).mono ?_); rintro e w6 ⟨⟨hP, rfl⟩ | ⟨hP, rfl⟩, rfl⟩)
      all_goals
       go_meet
       first | exact ⟨by rw [hd.out, hP]; rfl, Ext.refl _⟩ | exact ⟨by rw [hd.out, Bool.eq_false_iff.2 hP]; rfl, Ext.refl _⟩
     ·have ht := Lib.hid (fun W => turn7_c r c W hr50 hc50)
      generalize turnB 7 r c = tb at *
      rw [show turnF 7 = 178 from rfl]
      go_wp2_with (go_at_call 178; (with_reducible refine (ht.out _).mono ?_); rintro e w6 ⟨⟨hP, rfl⟩ | ⟨hP, rfl⟩, rfl⟩)
      all_goals
       go_meet
       first | exact ⟨by rw [hd.out, hP]; rfl, Ext.refl _⟩ | exact ⟨by rw [hd.out, Bool.eq_false_iff.2 hP]; rfl, Ext.refl _⟩
    ·have hd := decide_eq_false hx
     replace hd := Lib.hid hd
     go_wp2_with fail
     go_meet
     exact ⟨by rw [hd.out]; rfl, Ext.refl _⟩
   case rest =>
    obtain ⟨rfl, hx6⟩ := hcut
    generalize (decide (0 ≤ x) && turnB m r c) = tb at *
    replace ow := ow.ext hx6; replace hG := hG.ext hx6; replace hR := hR.ext hx6; replace hA := SAt.ext hA hx6; replace hxt := hxt.trans hx6
    replace hPb := hPb.ext hx6
    have hst2 := hst.out
    clear hst hx6 p0 p1 pl hatc
    cases tb with
    | true =>
     rw [if_pos rfl] at hst2
     replace hst2 := Lib.hid hst2
     have p0 := hPb.cell (i := 0) (v := .int .i64 r) rfl; have p1 := hPb.cell (i := 1) (v := .int .i64 c) rfl; have pl := hPb.lt
     obtain ⟨q0, q1, q2⟩ := hG.c3; have ql := hG.lt
     go_wp2_with (go_at_call 125; (with_reducible refine (hstc.out _ _ ow).mono ?_); rintro e w7 ⟨rfl, ow7, hb7⟩)
     go_roundw
     case rel => exact ⟨j + 1, hlt, by go_num, by rw [hst2.out]; exact ow7, hG.but hb7 hg5, hR.but hb7 hr5, SAt.butF hA hb7 hpb.out, hxt.but hb7 hwb⟩
     case measure => simp [intOf]; omega
    | false =>
     rw [if_neg (by simp)] at hst2
     replace hst2 := Lib.hid hst2
     go_wp2
     go_roundw
     case rel => exact ⟨j + 1, hlt, by go_num, by rw [hst2.out]; exact ow, hG, hR, hA, hxt⟩
     case measure => simp [intOf]; omega
  ·obtain rfl : j = P := by omega
   rw [← hfin.out] at ow
   have hmlF : (mskL m n xs).length = Nn := by rw [hfin.out, hml.out, hNn.out]
   obtain ⟨g0, g1, g2⟩ := hG.c3; have gl := hG.lt
   obtain ⟨z0, z1, z2⟩ := hR.c3; have zl := hR.lt; have zf := hR.free
   have hFB := ((hR.set 0 (.int .i64 n)).set 1 (.int .i64 n)).set 2 (.slice (some ⟨b, o, none⟩) Nn kq)
   have C0 := Lib.hid (hFB.cell (i := 0) (v := .int .i64 n) rfl); have C1 := Lib.hid (hFB.cell (i := 1) (v := .int .i64 n) rfl); have C2 := Lib.hid (hFB.cell (i := 2) (v := .slice (some ⟨b, o, none⟩) Nn kq) rfl)
   have hx9 := Lib.hid (((hxt.setCell (p := ⟨w.heap.size + 1, 0, none⟩) (Nat.le_succ _) (.int .i64 n)).setCell (p := ⟨w.heap.size + 1, 1, none⟩) (Nat.le_succ _) (.int .i64 n)).setCell (p := ⟨w.heap.size + 1, 2, none⟩) (Nat.le_succ _) (.slice (some ⟨b, o, none⟩) Nn kq))
   have ow9 := Lib.hid (((ow.setFarN (g := w.heap.size + 1) (i := 0) (v := .int .i64 n) (by omega)).setFarN (g := w.heap.size + 1) (i := 1) (v := .int .i64 n) (by omega)).setFarN (g := w.heap.size + 1) (i := 2) (v := .slice (some ⟨b, o, none⟩) Nn kq) (by omega))
   replace hmlF := Lib.hid hmlF
   clear hFB hG hR ow hA hxt
   go_wp2_with fail
   have c0 := C0.out; have c1 := C1.out; have c2 := C2.out
   exact bodyPost_ret (v := vGrid n n (some ⟨b, o, none⟩) Nn kq) (by simp [results, Tryz.results79, go_sem, c0, c1, c2]) rfl ⟨⟨some ⟨b, o, none⟩, kq, by rw [hmlF.out], ow9.out.mono hwb, by rw [hmlF.out]; exact hkq⟩, hx9.out⟩
end Go.Proofs.YtojdediohjghnaaGreatDoor
