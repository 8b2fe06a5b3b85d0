/- The bounds of damages of a matrix symbol, the program's side. -/
import Derived.Test.YtdnkljpnhmcnpaaGreatLBoundedDamageK28
import Derived.Test.YtdnkljpnhmcnpaaGreatLBoundedDamageK26
import Derived.Deep.DeepCutAuto
set_option linter.unusedVariables false
set_option linter.unusedSimpArgs false
namespace Go.Proofs.YtdnkljpnhmcnpaaGreat
open Go.RowKit

theorem fW_mat {k q : Int} (h : fldOK 2 k q) : 1 ≤ fW (fldSize 2 k) ∧ fW (fldSize 2 k) ≤ 8 := by
 rcases h with h | ⟨h1, -, h2, -⟩
 ·omega
 ·have : k = 3 ∨ k = 4 ∨ k = 5 ∨ k = 6 ∨ k = 7 ∨ k = 8 := by omega
  rcases this with rfl | rfl | rfl | rfl | rfl | rfl <;> decide
def okM (L : List (Int × Int)) (n : Nat) : Prop := fmN L aPl 15 ≤ 3 ∧ fmN L (bPl n) 15 ≤ 3
theorem mem_takeS {L : List (Int × Int)} {m : Nat} (hm : m < L.length) (x : Int × Int) : x ∈ L.take (m + 1) ↔ x ∈ L.take m ∨ x = L.getD m (0, 0) := by
 rw [List.take_add_one, List.getElem?_eq_getElem hm, List.getD_eq_getElem?_getD, List.getElem?_eq_getElem hm]
 show x ∈ L.take m ++ [L[m]'hm] ↔ x ∈ L.take m ∨ x = L[m]'hm
 rw [List.mem_append, List.mem_singleton]
theorem MF.atM {f : Int × Int → Option Value} {P : Int × Int → Prop} (h : MF f P) (x : Int × Int) : ∃ T : Bool, (f x).getD (.bool false) = .bool T ∧ (T = true ↔ P x) := by
 by_cases hp : P x
 ·exact ⟨true, by rw [(h x).1 hp]; rfl, by simp [hp]⟩
 ·exact ⟨false, by rw [(h x).2 hp]; rfl, by simp [hp]⟩
theorem cell_butM {g b o : Nat} {a c : World} {v : Option Value} (h : But g a c) (hb : b < a.heap.size) (hne : b ≠ g) (hv : a.cell? ⟨b, o, none⟩ = v) : c.cell? ⟨b, o, none⟩ = v := (World.cell?_of_block (a := ⟨b, o, none⟩) (h.block b hb hne)).trans hv
set_option maxHeartbeats 3200000 in
set_option maxRecDepth 100000 in
theorem boundedMatrix_c (nm : ByteArray) (K k q co : Int) (n : Nat) (ps pl : Option Addr) (ns cs nl cl : Nat) (pt : Option Addr) (ct : Nat) (L : List (Int × Int)) (tot : Int) (w : World) (hn : 17 ≤ n ∧ n ≤ 41) (h4 : n % 4 = 1) (hf : fldOK 2 k q) (hx : PlAt w pt L) (hl : L.length ≤ 40000) (hbl : ∀ z ∈ L, (-1000 ≤ z.1 ∧ z.1 ≤ 1000) ∧ (-1000 ≤ z.2 ∧ z.2 ≤ 1000)) (ht : (((dpL n).length / fW (fldSize 2 k) : Nat) : Int) ≤ tot) :
  Calls Tryz.prog 67 #[vFam nm K 2 k q ps ns cs co pl nl cl, .int .i64 n, .slice pt L.length ct, .int .i64 tot] w fun e w' => ((okM L n ∧ ∃ v, e = .returned (.tuple #[v, .bool true]) ∧ RowI w.heap.size w' v (teE L (dpL n) (fW (fldSize 2 k)) ((dpL n).length / fW (fldSize 2 k)))) ∨ (¬ okM L n ∧ e = .returned (.tuple #[.slice none 0 0, .bool false]))) ∧ Ext w w' := by
 have HX := Lib.hid hx; clear hx
 have hV := fW_mat hf
 have hfw := Lib.hid (fun W => iFieldWidth_c 2 k q hf W)
 have hte := Lib.hid (fun W (h : PlAt W pt L) => iTouchedEl_c n (fW (fldSize 2 k)) pt ct L W hn h4 hV h hl hbl)
 have hfo := Lib.hid (fun W => iFormats_c n W (by omega))
 have hTb := fun z (hz : z ∈ teE L (dpL n) (fW (fldSize 2 k)) ((dpL n).length / fW (fldSize 2 k))) => sel_bd _ z hz
 have hTl := sel_len (teHit L (dpL n) (fW (fldSize 2 k))) ((dpL n).length / fW (fldSize 2 k))
 replace hTl : (teE L (dpL n) (fW (fldSize 2 k)) ((dpL n).length / fW (fldSize 2 k))).length ≤ (dpL n).length / fW (fldSize 2 k) := hTl
 have hln := dpL_len (n := n) hn.2
 have hNd : (dpL n).length / fW (fldSize 2 k) ≤ (dpL n).length := Nat.div_le_self _ _
 generalize teE L (dpL n) (fW (fldSize 2 k)) ((dpL n).length / fW (fldSize 2 k)) = TE at *
 generalize (dpL n).length / fW (fldSize 2 k) = N at *
 generalize fW (fldSize 2 k) = V at *
 clear hf
 have hTt : ∀ i, i < TE.length → TE.getD i 0 < tot := fun i hi => by
  have := hTb (TE.getD i 0) (by rw [List.getD_eq_getElem?_getD, List.getElem?_eq_getElem hi]; exact List.getElem_mem hi)
  omega
 replace hTt := Lib.hid hTt
 clear hTb
 have hok := Lib.hid (show okM L n ↔ fmN L aPl 15 ≤ 3 ∧ fmN L (bPl n) 15 ≤ 3 from Iff.rfl)
 have hfs := Lib.hid (fun (Q : List (Int × Int)) m => (⟨cnt_yes (P := fun i => Q.getD i (0, 0) ∈ L), cnt_no (P := fun i => Q.getD i (0, 0) ∈ L), cnt_le (fun i => Q.getD i (0, 0) ∈ L) m⟩ : (Q.getD m (0, 0) ∈ L → fmN L Q (m + 1) = fmN L Q m + 1) ∧ (¬ Q.getD m (0, 0) ∈ L → fmN L Q (m + 1) = fmN L Q m) ∧ fmN L Q m ≤ m))
 have hf0 := Lib.hid (fun Q : List (Int × Int) => show fmN L Q 0 = 0 from rfl)
 generalize okM L n = OK at *
 generalize fmN L = FM at *
 have hbx := (Blk.new w #[.string nm, .int .i64 K, .int .i64 2, .int .i64 k, .int .i64 q, .slice ps ns cs, .int .i64 co, .slice pl nl cl] 55).alloc (.map #[] 0)
 have hm0 := MapA.made (k := 121) (E := ePl) (w.alloc (.cells #[.string nm, .int .i64 K, .int .i64 2, .int .i64 k, .int .i64 q, .slice ps ns cs, .int .i64 co, .slice pl nl cl] 55))
 have hx0 : Ext w ((w.alloc (.cells #[.string nm, .int .i64 K, .int .i64 2, .int .i64 k, .int .i64 q, .slice ps ns cs, .int .i64 co, .slice pl nl cl] 55)).alloc (.map #[] 0)) := ((Ext.refl w).alloc _).alloc _
 have hmm := @run_makeMap Tryz.prog
 have hzv : ∀ w, (zeroValue 4).run Tryz.prog w = .ok (.bool false) w := fun w => by kernel_rfl
 replace hzv := Lib.hid hzv
 replace hbl := Lib.hid hbl
 go_enter Tryz.func67, Tryz.ntmps67
 go_upto_region 3 with (fail)
 clear hmm
 simp only [World.size_alloc] at hm0
 obtain ⟨g, hg⟩ : ∃ g, w.heap.size + 1 = g := ⟨_, rfl⟩
 have hgF : w.heap.size ≠ g := by omega
 have hgw : w.heap.size ≤ g := by omega
 rw [hg] at hm0 ⊢
 replace hg := Lib.hid hg
 have hF2 := hbx.cell (i := 2) (v := .int .i64 2) rfl; have hF3 := hbx.cell (i := 3) (v := .int .i64 k) rfl; have hF4 := hbx.cell (i := 4) (v := .int .i64 q) rfl; have hFl := hbx.lt
 generalize (w.alloc (.cells #[.string nm, .int .i64 K, .int .i64 2, .int .i64 k, .int .i64 q, .slice ps ns cs, .int .i64 co, .slice pl nl cl] 55)).alloc (.map #[] 0) = w1 at *
 obtain ⟨gF, hgFE⟩ : ∃ z, w.heap.size = z := ⟨_, rfl⟩
 rw [hgFE] at hgF hF2 hF3 hF4 hFl ⊢
 replace hgFE := Lib.hid hgFE
 clear hbx
 go_loopw [28] (fun i wr => ∃ (m : Nat) (f : Int × Int → Option Value), m ≤ L.length ∧ i = .int .i64 m ∧ MapA 121 ePl wr g m f ∧ Hid (MF f (fun x => x ∈ L.take m)) ∧ But g w1 wr) (fun i _ => L.length - (intOf i).toNat)
 case atStart => exact ⟨0, _, Nat.zero_le _, rfl, hm0, Lib.hid (fun x => ⟨fun h => by simp at h, fun _ => rfl⟩), But.refl _ _⟩
 case round =>
  clear hm0
  obtain ⟨m, f, hm, rfl, hma, hf, hB⟩ := hrel
  by_cases hlt : m < L.length
  ·have hlti : (m : Int) < L.length := by omega
   obtain ⟨b, o, rfl, hb, y0, y1⟩ := HX.out.pl2 hlt
   have hbne : b ≠ g := by have := hgFE.out; have := hg.out; omega
   obtain ⟨hcx, -, hkx, -⟩ := ecell hx0
   rw [← hcx _ _ hb] at y0 y1
   have z0 := cell_butM hB (hkx _ hb) hbne y0
   have z1 := cell_butM hB (hkx _ hb) hbne y1
   have hbl2 := Nat.lt_of_lt_of_le (hkx _ hb) hB.size
   clear hcx hkx y0 y1
   have hst := fun x => mem_takeS (L := L) hlt x
   have hbd := hbl.out (L.getD m (0, 0)) (mem_getD.2 ⟨m, hlt, rfl⟩)
   generalize L.getD m (0, 0) = qq at *
   obtain ⟨qr, qc⟩ := qq
   simp only at z0 z1 hbd
   obtain ⟨kl, hkl⟩ := plKey (x := (qr, qc)) (by simp only; omega) (by simp only; omega)
   replace hkl := Lib.hid hkl; replace hst := Lib.hid hst
   have hxp : Ext wr (wr.alloc (.cells #[.int .i64 qr, .int .i64 qc] 121)) := (Ext.refl wr).alloc _
   have hB2 := hB.trans (But.of hxp)
   go_wp2_with (first
    | (refine wp_put (y := (qr, qc)) (u := .bool true) ePl_inj (hma.ext hxp) plKeyed Tryz.underlying172 (by unfold maxLen; omega) hkl.out ?_ rfl rfl rfl; intro w8 hm8 hg8))
   go_roundw
   case rel => exact ⟨m + 1, _, hlt, by go_num, hm8, Lib.hid (hf.out.put _ hst.out), hB2.grown hg8⟩
   case measure => simp [intOf]; omega
  ·obtain rfl : m = L.length := by omega
   have hff : Hid (MF f (fun x => x ∈ L)) := Lib.hid (by have := hf.out; rw [List.take_length] at this; exact this)
   have zF2 := cell_butM hB hFl hgF hF2; have zF3 := cell_butM hB hFl hgF hF3; have zF4 := cell_butM hB hFl hgF hF4
   have zFl := Nat.lt_of_lt_of_le hFl hB.size
   have hxb : Ext w wr := hx0.but hB (by have := hgFE.out; omega)
   obtain ⟨wb, rfl⟩ : ∃ wb : World, wb = wr := ⟨_, rfl⟩
   replace hma := Lib.hid hma
   clear hB hf hF2 hF3 hF4 hFl hx0
   go_upto_region 8 with (go_at_call 49; go_loud ((with_reducible refine (hfo.out _).mono ?_); rintro e w5 ⟨⟨va, vb, rfl, hra, hrb, hab⟩, hx5⟩))
   obtain ⟨pa, ca, hva, haA, -⟩ := hra.nfree plF_len
   obtain ⟨pb, cb, hvb, haB, -⟩ := hrb.nfree plF_len
   rw [show aPl.length = 15 from rfl] at hva
   rw [show (bPl (n : Int)).length = 15 from rfl] at hvb
   subst hva
   subst hvb
   have i0 : ∀ w, (Instr.index 173 (.agg #[.slice pa 15 ca, .slice pb 15 cb]) (.int .i64 0)).run Tryz.prog w = .ok (.slice pa 15 ca) w := fun _ => by kernel_rfl
   have i1 : ∀ w, (Instr.index 173 (.agg #[.slice pa 15 ca, .slice pb 15 cb]) (.int .i64 1)).run Tryz.prog w = .ok (.slice pb 15 cb) w := fun _ => by kernel_rfl
   replace haA := Lib.hid haA; replace haB := Lib.hid haB
   clear hra hrb hab hfo
   have hxA := hxb.trans hx5
   have hbA := aPl_in hn.1
   have hbB := bPl_bd hn.1
   replace hbA := Lib.hid hbA; replace hbB := Lib.hid hbB
   have hsel : ∀ j : Nat, j < 2 → ∃ (Q : List (Int × Int)) (pq : Option Addr) (cq : Nat), Hid (PlAt w5 pq Q) ∧ Q.length = 15 ∧ (∀ w, (Instr.index 173 (.agg #[.slice pa 15 ca, .slice pb 15 cb]) (.int .i64 j)).run Tryz.prog w = .ok (.slice pq 15 cq) w) ∧ Hid (∀ z ∈ Q, (0 ≤ z.1 ∧ z.1 < n) ∧ (0 ≤ z.2 ∧ z.2 < n)) ∧ Hid ((j = 0 → Q = aPl) ∧ (j = 1 → Q = bPl n)) := fun j hj => by
    have : j = 0 ∨ j = 1 := by omega
    rcases this with rfl | rfl
    ·exact ⟨aPl, pa, ca, haA, rfl, i0, hbA, Lib.hid ⟨fun _ => rfl, fun h => by omega⟩⟩
    ·exact ⟨bPl n, pb, cb, haB, rfl, i1, hbB, Lib.hid ⟨fun h => by omega, fun _ => rfl⟩⟩
   replace hsel := Lib.hid hsel
   have zF2' := ((ecell hx5).1 _ 2 zFl).trans zF2; have zF3' := ((ecell hx5).1 _ 3 zFl).trans zF3; have zF4' := ((ecell hx5).1 _ 4 zFl).trans zF4
   have zFl' := (ecell hx5).2.2.1 _ zFl
   have hma5 := Lib.hid (hma.out.ext hx5)
   clear zF2 zF3 zF4 zFl hma i0 i1 haA haB hbA hbB
   go_upto_region 9 with (fail)
   go_loopw [43] (fun i wr => ∃ j : Nat, j ≤ 2 ∧ i = .int .i64 j ∧ Hid ((0 < j → FM aPl 15 ≤ 3) ∧ (1 < j → FM (bPl n) 15 ≤ 3)) ∧ Ext w5 wr) (fun i _ => 2 - (intOf i).toNat)
   case atStart => exact ⟨0, Nat.zero_le _, rfl, Lib.hid ⟨fun h => by omega, fun h => by omega⟩, Ext.refl _⟩
   case round =>
    obtain ⟨j, hj, rfl, hJ, hext⟩ := hrel
    by_cases hlj : j < 2
    ·have hji : (j : Int) < 2 := by omega
     obtain ⟨Q, pq, cq, hQ, hQl, hix, hQb, hQe⟩ := hsel.out j hlj
     have hF0 := Lib.hid (hf0.out Q)
     have hFs := Lib.hid (fun m => hfs.out Q m)
     have hend : (FM Q 15 ≤ 3 → Hid ((0 < j + 1 → FM aPl 15 ≤ 3) ∧ (1 < j + 1 → FM (bPl n) 15 ≤ 3))) ∧ (¬ FM Q 15 ≤ 3 → ¬ OK) := by
      refine ⟨fun h => Lib.hid ⟨fun _ => ?_, fun h1 => ?_⟩, fun h h2 => ?_⟩
      ·by_cases e : j = 0
       ·rw [← hQe.out.1 e]; exact h
       ·exact hJ.out.1 (by omega)
      ·by_cases e : j = 1
       ·rw [← hQe.out.2 e]; exact h
       ·omega
      ·have h3 := hok.out.1 h2
       by_cases e : j = 0
       ·rw [hQe.out.1 e] at h; exact h h3.1
       ·rw [hQe.out.2 (by omega)] at h; exact h h3.2
     replace hend := Lib.hid hend
     clear hQe hJ
     obtain ⟨wo, rfl⟩ : ∃ wo : World, wo = wr := ⟨_, rfl⟩
     go_upto_region 13 with (fail)
     go_loopw [17, 48] (fun z i wr => ∃ m : Nat, m ≤ 15 ∧ i = .int .i64 m ∧ z = .int .i64 (FM Q m) ∧ Ext w5 wr) (fun _ i _ => 15 - (intOf i).toNat)
     case atStart => exact ⟨0, Nat.zero_le _, rfl, by rw [hF0.out]; rfl, hext⟩
     case round =>
      clear hext
      obtain ⟨m, hm, rfl, rfl, hext⟩ := hrel
      by_cases hlm : m < 15
      ·have hmi : (m : Int) < 15 := by omega
       obtain ⟨b, o, rfl, hb, y0, y1⟩ := (hQ.out.ext hext).pl2 (k := m) (by omega)
       have hqb := hQb.out (Q.getD m (0, 0)) (mem_getD.2 ⟨m, by omega, rfl⟩)
       have hs1 := hFs.out m
       generalize hFm : FM Q m = fm at *
       replace hFm := Lib.hid hFm
       generalize Q.getD m (0, 0) = qq at *
       obtain ⟨qr, qc⟩ := qq
       simp only at y0 y1 hqb
       obtain ⟨kl, hkl⟩ := plKey (x := (qr, qc)) (by simp only; omega) (by simp only; omega)
       replace hkl := Lib.hid hkl
       obtain ⟨T, hT1, hT2⟩ := hff.out.atM (qr, qc)
       obtain ⟨hsA, hsB, hsC⟩ := hs1
       generalize ((qr, qc) ∈ L) = MM at *
       replace hT1 := Lib.hid hT1
       have hxp : Ext wr (wr.alloc (.cells #[.int .i64 qr, .int .i64 qc] 121)) := (Ext.refl wr).alloc _
       cases T with
       | true =>
        have h3 := hsA (hT2.1 rfl)
        replace h3 := Lib.hid h3
        clear hsA hsB hT2
        go_wp2_with (first
         | (refine wp_look (y := (qr, qc)) (hma5.out.ext (hext.trans hxp)) plKeyed Tryz.underlying172 (z := .bool false) (hzv.out _) hkl.out ?_ rfl rfl; rw [hT1.out]))
        go_roundw
        case rel => exact ⟨m + 1, hlm, by go_num, by rw [h3.out]; go_num, hext.trans hxp⟩
        case measure => simp [intOf]; omega
       | false =>
        have h3 := hsB (fun h => by have := hT2.2 h; cases this)
        replace h3 := Lib.hid h3
        clear hsA hsB hT2
        go_wp2_with (first
         | (refine wp_look (y := (qr, qc)) (hma5.out.ext (hext.trans hxp)) plKeyed Tryz.underlying172 (z := .bool false) (hzv.out _) hkl.out ?_ rfl rfl; rw [hT1.out]))
        go_roundw
        case rel => exact ⟨m + 1, hlm, by go_num, by rw [h3.out], hext.trans hxp⟩
        case measure => simp [intOf]; omega
      ·obtain rfl : m = 15 := by omega
       by_cases hF3 : FM Q 15 ≤ 3
       ·have h3 := hend.out.1 hF3
        generalize FM Q 15 = fq at *
        have hqi : ¬ (3 : Int) < fq := by omega
        go_wp2
        go_roundw
        case rel => exact ⟨j + 1, hlj, by go_num, h3, hext⟩
        case measure => simp [intOf]; omega
       ·have h3 := hend.out.2 hF3
        have hF15 := (hFs.out 15).2.2
        generalize FM Q 15 = fq at *
        have hqi : (3 : Int) < fq := by omega
        replace h3 := Lib.hid h3
        go_wp2
        go_ret2
        exact ⟨.inr ⟨h3.out, rfl⟩, hxA.trans hext⟩
    ·obtain rfl : j = 2 := by omega
     have hOK : OK := hok.out.2 ⟨hJ.out.1 (by omega), hJ.out.2 (by omega)⟩
     replace hOK := Lib.hid hOK
     have y2 := ((ecell hext).1 _ 2 zFl').trans zF2'; have y3 := ((ecell hext).1 _ 3 zFl').trans zF3'; have y4 := ((ecell hext).1 _ 4 zFl').trans zF4'
     have yl := (ecell hext).2.2.1 _ zFl'
     have hxB := hxA.trans hext
     clear hsel hfs hf0 hok hJ
     go_upto_region 22 with (first
      | (go_at_call 128; (with_reducible refine (hfw.out _).mono ?_); rintro e w6 ⟨rfl, hx6⟩)
      | (go_at_call 127; (with_reducible refine (hte.out _ (HX.out.ext (hxB.trans hx6))).mono ?_); rintro e w7 ⟨⟨v7, rfl, hr7⟩, hx7⟩))
     obtain ⟨p7, c7, rfl, hoo7, -⟩ := hr7.ownC
     have hxC := (hxB.trans hx6).trans hx7
     have hi7 := Lib.hid hoo7.ints
     clear hr7 hoo7
     have hrO := RowI.made (B := w7.heap.size) (w := w7) (Nat.le_refl _)
     have hxO : Ext w7 (w7.alloc (.cells #[] 2)) := (Ext.refl w7).alloc _
     go_upto_region 24 with (fail)
     generalize w7.alloc (.cells #[] 2) = w8 at *
     generalize Value.slice (some ⟨w7.heap.size, 0, none⟩) 0 0 = v8 at *
     obtain ⟨B2, hB2E⟩ : ∃ z, w7.heap.size = z := ⟨_, rfl⟩
     have hszB : w.heap.size ≤ B2 := by have := hxC.below.size; omega
     rw [hB2E] at hrO
     replace hB2E := Lib.hid hB2E; replace hszB := Lib.hid hszB
     go_loopw [22, 73] (fun o i wr => ∃ m : Nat, m ≤ TE.length ∧ i = .int .i64 m ∧ RowI B2 wr o (TE.take m) ∧ Ext w7 wr) (fun _ i _ => TE.length - (intOf i).toNat)
     case atStart => exact ⟨0, Nat.zero_le _, rfl, hrO, hxO⟩
     case round =>
      clear hrO hxO
      obtain ⟨m, hm, rfl, hrow, hext7⟩ := hrel
      by_cases hlm : m < TE.length
      ·have hmi : (m : Int) < TE.length := by omega
       obtain ⟨b, o, rfl, hb, z0⟩ := (hi7.out.ext hext7) m hlm
       have hlt := hTt.out m hlm
       have htk : TE.take (m + 1) = TE.take m ++ [TE.getD m 0] := by
        rw [List.take_add_one, List.getElem?_eq_getElem hlm, List.getD_eq_getElem?_getD, List.getElem?_eq_getElem hlm]; rfl
       have htl : (TE.take m).length ≤ 1681 := by rw [List.length_take]; omega
       generalize TE.getD m 0 = x at *
       replace htk := Lib.hid htk
       generalize TE.take m = TK at *
       have hzB := hext7.below.size
       go_wp2_with (at_builtin; go_loud (refine append1IG hrow (by omega) (by have := hB2E.out; omega) ?_ rfl rfl); intro v9 w9 hr9 hg9)
       go_roundw
       case rel => exact ⟨m + 1, hlm, by go_num, by rw [htk.out]; exact hr9, hg9.toExt hext7 (fun j hj => by rw [hB2E.out]; exact (hrow.lt j hj).1)⟩
       case measure => simp [intOf]; omega
      ·obtain rfl : m = TE.length := by omega
       rw [List.take_length] at hrow
       go_wp2
       go_ret2
       exact ⟨.inl ⟨hOK.out, _, rfl, hrow.mono hszB.out⟩, hxC.trans hext7⟩
end Go.Proofs.YtdnkljpnhmcnpaaGreat
