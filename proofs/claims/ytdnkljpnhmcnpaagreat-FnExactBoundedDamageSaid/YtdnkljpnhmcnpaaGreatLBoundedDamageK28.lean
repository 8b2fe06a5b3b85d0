/- The touched elements of a matrix symbol, the program's side. -/
import Derived.Test.YtdnkljpnhmcnpaaGreatLBoundedDamageK27
import Derived.Test.YtdnkljpnhmcnpaaGreatLBoundedDamageK19
import Derived.Test.YtdnkljpnhmcnpaaGreatLBoundedDamageK23
import Derived.Deep.DeepCutAuto
set_option linter.unusedVariables false
set_option linter.unusedSimpArgs false
namespace Go.Proofs.YtdnkljpnhmcnpaaGreat
open Go.RowKit Go.MapKept Go.ChangeMaps Go.Maps

section
variable {α : Type} {k e t : TypeId} {E : α → Value} {w : World} {b N s : Nat} {f : α → Option Value}
variable {ops : Array Oper} {Q : Exit → Act → World → Prop} {rest : List Oper} {a : Act} {dst : Option Tmp} {m x v : Operand} {ty : TypeId} {pos : String} {after : Array Edge}
set_option maxRecDepth 100000 in
theorem wp_putZ [DecidableEq α] (hE : ∀ x y, E x = E y → x = y) (h : MapZ k E w b N s f) (K : Keyed Tryz.prog k) (ht : Tryz.prog.underlying t = some (.map k e)) (hn : N < 1000000) {y : α} {u : Value} {kl : Lit} (hk : keyOf Tryz.prog k (E y) = some kl) (hf : f y = none)
  (hw : ∀ w', MapZ k E w' b (N + 1) (s + 1) (fun z => if z = y then some u else f z) → w.grownBy w' (some b) → wpList Tryz.prog ops Q rest (a.put dst undef) w') (hm : a.eval m = .map (some b)) (hx : a.eval x = E y) (hv : a.eval v = u) :
  wpList Tryz.prog ops Q (⟨dst, .mapUpdate t m x v, ty, pos, after, none⟩ :: rest) a w :=
 wpList_plain rfl fun K' hK' => op_putZ hE h K ht hn hk hf (fun w' h1 h2 => hK' _ _ (hw w' h1 h2)) hm hx hv
end
set_option maxHeartbeats 1600000 in
set_option maxRecDepth 100000 in
theorem placeIndices_c (n : Nat) (w : World) (hn : 17 ≤ n ∧ n ≤ 41) (h4 : n % 4 = 1) :
  Calls Tryz.prog 184 #[.int .i64 n] w fun e w' => (∃ g f, e = .returned (.map (some g)) ∧ MapZ 121 ePl w' g (dpL n).length (dpL n).length f ∧ PIx (dpL n) (dpL n).length f) ∧ Ext w w' := by
 have hm0 := MapZ.made (k := 121) (E := ePl) w
 have hx0 : Ext w (w.alloc (.map #[] 0)) := (Ext.refl w).alloc _
 have hmm := @run_makeMap Tryz.prog
 have hdp := Lib.hid (fun W => iPlaces_c n W hn h4)
 have hnd := dpL_nodup n
 have hln := dpL_len (n := n) hn.2
 have hbd := dpL_bd hn h4
 generalize hD : dpL n = D at *
 replace hD := Lib.hid hD
 go_enter Tryz.func184, Tryz.ntmps184
 go_upto_region 3 with (first
  | (go_at_call 156; (with_reducible refine (hdp.out _).mono ?_); rintro e w1 ⟨⟨vd, rfl, hrd⟩, hx1⟩; rw [hD.out] at hrd; obtain ⟨pd, cd, hvd, hpd, hfd⟩ := hrd.nfree plF_len; subst hvd))
 clear hmm
 have hm1 := hm0.ext hx1
 have hx01 := hx0.trans hx1
 have hbl : w.heap.size < (w.alloc (.map #[] 0)).heap.size := by simp
 have hne : ∀ b o, pd = some ⟨b, o, none⟩ → b ≠ w.heap.size := fun b o e => by have := (hfd b o e).1; omega
 replace hne := Lib.hid hne
 replace hpd := Lib.hid hpd
 obtain ⟨g, hg⟩ : ∃ g, w.heap.size = g := ⟨_, rfl⟩
 have hgw : w.heap.size ≤ g := by omega
 rw [hg] at hm1 hne
 rw [hg]
 replace hg := Lib.hid hg
 replace hbd := Lib.hid hbd
 clear hm0 hx0 hrd hfd hx1 hdp
 go_loopw [10] (fun i wr => ∃ (k : Nat) (f : Int × Int → Option Value), k ≤ D.length ∧ i = .int .i64 k ∧ MapZ 121 ePl wr g k k f ∧ PIx D k f ∧ But g w1 wr) (fun i _ => D.length - (intOf i).toNat)
 case atStart => exact ⟨0, _, Nat.zero_le _, rfl, hm1, PIx.zero D, But.refl _ _⟩
 case round =>
  clear hm1
  obtain ⟨k, f, hk, rfl, hm, hf, hB⟩ := hrel
  by_cases hlt : k < D.length
  ·have hlti : (k : Int) < D.length := by omega
   obtain ⟨b2, o2, rfl, hb2, y0, y1⟩ := (SAt.butF hpd.out hB hne.out).pl2 hlt
   have hfn := hf.new hnd hlt
   have hst := Lib.hid (hf.step hnd hlt)
   have hb := hbd.out (D.getD k (0, 0)) (by rw [List.getD_eq_getElem?_getD, List.getElem?_eq_getElem hlt]; exact List.getElem_mem hlt)
   generalize D.getD k (0, 0) = q at *
   obtain ⟨qr, qc⟩ := q
   simp only at y0 y1 hb
   obtain ⟨kl, hkl⟩ := plKey (x := (qr, qc)) (by simp only; omega) (by simp only; omega)
   replace hkl := Lib.hid hkl; replace hfn := Lib.hid hfn
   have hB2 := hB.trans (But.of ((Ext.refl wr).alloc (.cells #[.int .i64 qr, .int .i64 qc] 121)))
   clear hf
   go_wp2_with (refine wp_putZ (y := (qr, qc)) (u := .int .i64 k) ePl_inj (hm.ext ((Ext.refl wr).alloc (.cells #[.int .i64 qr, .int .i64 qc] 121))) plKeyed Tryz.underlying213 (by omega) hkl.out hfn.out ?_ rfl rfl rfl; intro w8 hm8 hg8)
   go_roundw
   case rel => exact ⟨k + 1, _, hlt, by go_num, hm8, hst.out, hB2.grown hg8⟩
   case measure => simp [intOf]; omega
  ·obtain rfl : k = D.length := by omega
   go_wp2
   go_ret
   exact ⟨⟨g, f, rfl, hm, hf⟩, hx01.but hB hgw⟩
def bl (bs : List Bool) : List Value := bs.map Value.bool
theorem bl_len (bs : List Bool) : (bl bs).length = bs.length := by simp [bl]
theorem OwnCells.bl_at {B : Nat} {w : World} {p : Option Addr} {bs : List Bool} (h : OwnCells B w p (bl bs)) {i : Nat} (hi : i < bs.length) : ∃ b o, p = some ⟨b, o, none⟩ ∧ B ≤ b ∧ b < w.heap.size ∧ w.cell? ⟨b, o + i, none⟩ = some (.bool (bs.getD i false)) ∧ w.frozen? ⟨b, o + i, none⟩ = false := by
 obtain ⟨b, o, h1, h2, h3, h4, h5⟩ := h i (by rw [bl_len]; exact hi)
 refine ⟨b, o, h1, h2, h3, ?_, h5⟩
 rw [h4, List.getD_eq_getElem?_getD, List.getElem?_eq_getElem hi]
 simp [bl]
theorem OwnCells.bl_set {B : Nat} {w : World} {p : Option Addr} {bs : List Bool} (h : OwnCells B w p (bl bs)) {k b o : Nat} (hp : p = some ⟨b, o, none⟩) (hk : k < bs.length) : OwnCells B (w.setCell ⟨b, o + k, none⟩ (.bool true)) p (bl (bs.set k true)) := by
 have := OwnCells.set h hp (by rw [bl_len]; exact hk) (.bool true)
 rw [show bl (bs.set k true) = (bl bs).set k (.bool true) by simp [bl, List.map_set]]
 exact this
theorem bl_made {B N : Nat} (w : World) (t : TypeId) (hB : B ≤ w.heap.size) : OwnCells B (w.alloc (.cells (madeCells #[.bool false] N) t)) (some ⟨w.heap.size, 0, none⟩) (bl (List.replicate N false)) := fun i hi => by
 rw [bl_len, List.length_replicate] at hi
 have hb := Blk.new w (madeCells #[.bool false] N) t
 refine ⟨w.heap.size, 0, rfl, hB, hb.lt, ?_, hb.free _⟩
 rw [Nat.zero_add, hb.cell (made_get hi)]
 have e : i % (#[Value.bool false]).size = 0 := by show i % 1 = 0; omega
 rw [e]
 simp [bl]
theorem w_div {i V : Nat} (hV : 1 ≤ V) (hi : (i : Int) ≤ 2000) : ((i : Int) / (V : Int)) = ((i / V : Nat) : Int) ∧ IntKind.i64.wrap ((i : Int) / (V : Int)) = ((i / V : Nat) : Int) := by
 have h1 : ((i : Int) / (V : Int)) = ((i / V : Nat) : Int) := (Int.natCast_ediv i V).symm
 have h2 : i / V ≤ i := Nat.div_le_self _ _
 generalize i / V = x at *
 exact ⟨h1, by rw [h1]; exact IntWalk.i64_in _ (by omega)⟩
set_option maxHeartbeats 3200000 in
set_option maxRecDepth 100000 in
theorem iTouchedEl_c (n V : Nat) (pl : Option Addr) (cl : Nat) (L : List (Int × Int)) (w : World) (hn : 17 ≤ n ∧ n ≤ 41) (h4 : n % 4 = 1) (hV : 1 ≤ V ∧ V ≤ 8) (hx : PlAt w pl L) (hl : L.length ≤ 40000) (hbl : ∀ z ∈ L, (-1000 ≤ z.1 ∧ z.1 ≤ 1000) ∧ (-1000 ≤ z.2 ∧ z.2 ≤ 1000)) :
  Calls Tryz.prog 127 #[.int .i64 n, .int .i64 V, .slice pl L.length cl] w fun e w' => (∃ v, e = .returned (.tuple #[v, .int .i64 0]) ∧ RowI w.heap.size w' v (teE L (dpL n) V ((dpL n).length / V))) ∧ Ext w w' := by
 have HX := Lib.hid hx; clear hx
 have hsz := Lib.hid (fun W => iSize_c n W)
 have hok : sizOK n := ⟨⟨by omega, by omega⟩, by omega⟩
 replace hok := Lib.hid hok
 have hpi := Lib.hid (fun W => placeIndices_c n W hn h4)
 have hnd := Lib.hid (dpL_nodup n)
 have hln := dpL_len (n := n) hn.2
 replace hbl := Lib.hid hbl
 unfold teE
 generalize dpL n = D at *
 have hll : ¬ (40000 : Int) < L.length := by omega
 have hv1 : (1 : Int) ≤ (V : Int) := by omega
 have hv8 : (V : Int) ≤ 8 := by omega
 have hv0 : ¬ V = 0 := by omega
 have hq := w_div (i := D.length) hV.1 (by omega)
 have hNd : D.length / V ≤ D.length := Nat.div_le_self _ _
 generalize hNN : D.length / V = N at *
 obtain ⟨hq1, hq2⟩ := hq
 replace hNN := Lib.hid hNN
 have hallT := Lib.hid (fun (bs : List Bool) (hb : bs.length = N) (h : TeM L D V L.length bs) k (hk : k < N) => h.all (k := k) (by rw [hb]; exact hk))
 have hs := Lib.hid (show ∀ k, (teHit L D V k → selTo (teHit L D V) (k + 1) = selTo (teHit L D V) k ++ [(k : Int)]) ∧ (¬ teHit L D V k → selTo (teHit L D V) (k + 1) = selTo (teHit L D V) k) from fun k => ⟨sel_yes, sel_no⟩)
 have hsl := Lib.hid (fun k => sel_len (teHit L D V) k)
 have hs0 : selTo (teHit L D V) 0 = [] := rfl
 generalize selTo (teHit L D V) = SE at *
 generalize teHit L D V = TH at *
 replace hs0 := Lib.hid hs0
 have hI1 : Tryz.prog.underlying 158 = some (.slice 4) := by kernel_rfl
 have hI2 : (Tryz.prog.info? 4).map (fun i => (i.zero, i.size, i.bytes)) = some (some (.bool false), 1, 1) := by kernel_rfl
 have hzv : ∀ w, (zeroValue 2).run Tryz.prog w = .ok (.int .i64 0) w := fun w => by kernel_rfl
 replace hzv := Lib.hid hzv
 go_enter Tryz.func127, Tryz.ntmps127
 go_upto_region 6 with (first
  | (go_at_call 81; (with_reducible refine (hsz.out _).mono ?_); rintro e w3 ⟨⟨hS, rfl⟩ | ⟨hS, rfl⟩, rfl⟩ <;> (first | exact absurd hok.out hS | skip))
  | (go_at_call 35; (with_reducible refine (inRange_c _ _ _ _).mono ?_); rintro e w3 ⟨⟨hP, rfl⟩ | ⟨hP, rfl⟩, rfl⟩ <;> first | (exfalso; omega) | skip)
  | (go_at_call 184; (with_reducible refine (hpi.out _).mono ?_); rintro e w1 ⟨⟨g, f, rfl, hm, hf⟩, hx1⟩))
 have hma := Lib.hid hm.toA
 replace hf := Lib.hid hf
 go_upto_region 8 with (first
  | (refine wp_lenZ hm Tryz.underlying213 ?_ rfl)
  | (at_make; go_loud (refine make_blk hI1 hI2 N ?_ ?_ (by omega) (by omega) ?_; (first | rfl | (simp only [hq1, hq2]; rfl)); (first | rfl | (simp only [hq1, hq2]; rfl)))))
 have hr2 := bl_made (B := w1.heap.size) (N := N) w1 4 (Nat.le_refl _)
 have hx12 : Ext w1 (w1.alloc (.cells (madeCells #[.bool false] N) 4)) := (Ext.refl w1).alloc _
 generalize w1.alloc (.cells (madeCells #[.bool false] N) 4) = w2 at *
 obtain ⟨g2, hg2⟩ : ∃ g, w1.heap.size = g := ⟨_, rfl⟩
 rw [hg2] at hr2 ⊢
 replace hg2 := Lib.hid hg2
 clear hm hq1 hq2
 go_loopw [37] (fun i wr => ∃ (m : Nat) (bs : List Bool), m ≤ L.length ∧ i = .int .i64 m ∧ bs.length = N ∧ Hid (TeM L D V m bs) ∧ OwnCells g2 wr (some ⟨g2, 0, none⟩) (bl bs) ∧ Ext w1 wr) (fun i _ => L.length - (intOf i).toNat)
 case atStart => exact ⟨0, _, Nat.zero_le _, rfl, List.length_replicate, Lib.hid (TeM.zero L D V N), hr2, hx12⟩
 case round =>
  clear hr2 hx12
  obtain ⟨m, bs, hm, rfl, hbsl, hM, hown, hext⟩ := hrel
  by_cases hlt : m < L.length
  ·have hlti : (m : Int) < L.length := by omega
   obtain ⟨b2, o2, rfl, hb2, y0, y1⟩ := (HX.out.ext (hx1.trans hext)).pl2 hlt
   have hb := hbl.out (L.getD m (0, 0)) (by rw [List.getD_eq_getElem?_getD, List.getElem?_eq_getElem hlt]; exact List.getElem_mem hlt)
   have hlook := hf.out.look (L.getD m (0, 0))
   have hMno : (∀ j, j < D.length → L.getD m (0, 0) = D.getD j (0, 0) → ¬ j / V < N) → Hid (TeM L D V (m + 1) bs) := fun h => Lib.hid (hM.out.no (by rw [hbsl]; exact h))
   have hMset : ∀ j, j < D.length → D.getD j (0, 0) = L.getD m (0, 0) → Hid (TeM L D V (m + 1) (bs.set (j / V) true)) := fun j hj e => Lib.hid (hM.out.set hnd.out hj e.symm)
   have hinj : ∀ i j, i < D.length → j < D.length → D.getD i (0, 0) = D.getD j (0, 0) → i = j := fun i j hi hj e => nodupP_at hnd.out hi hj e
   have hmem : ∀ j, j < D.length → D.getD j (0, 0) ∈ D := fun j hj => mem_getD.2 ⟨j, hj, rfl⟩
   generalize L.getD m (0, 0) = q at *
   obtain ⟨qr, qc⟩ := q
   simp only at y0 y1 hb
   obtain ⟨kl, hkl⟩ := plKey (x := (qr, qc)) (by simp only; omega) (by simp only; omega)
   replace hkl := Lib.hid hkl; replace hMno := Lib.hid hMno; replace hMset := Lib.hid hMset
   have hxp : Ext wr (wr.alloc (.cells #[.int .i64 qr, .int .i64 qc] 121)) := (Ext.refl wr).alloc _
   rcases hlook with ⟨i, hi, he, hfe⟩ | ⟨hnot, hfe⟩
   ·have hqi := w_div (i := i) hV.1 (by omega)
    have hii : (i : Int) ≤ 2000 := by omega
    obtain ⟨hqi1, hqi2⟩ := hqi
    have hset := hMset.out i hi he
    have hno2 : ¬ i / V < N → Hid (TeM L D V (m + 1) bs) := fun h => hMno.out fun j hj e => by
     have := hinj i j hi hj (he.trans e)
     subst this
     exact h
    replace hno2 := Lib.hid hno2
    have hKb : i / V ≤ i := Nat.div_le_self _ _
    replace he := Lib.hid he
    clear hinj hmem
    replace hfe := Lib.hid hfe
    by_cases hKN : i / V < N
    ·obtain ⟨bb, ob, hbb, -, hbl2, z0, z1⟩ := hown.bl_at (i := i / V) (by rw [hbsl]; exact hKN)
     injection hbb with hbb
     injection hbb with e1 e2 e3
     subst e1
     subst e2
     rw [Nat.zero_add] at z0 z1
     have hown2 := hown.ext hxp
     have z2 := (hown2.bl_at (i := i / V) (by rw [hbsl]; exact hKN))
     have hown3 := (hown.bl_set (k := i / V) rfl (by rw [hbsl]; exact hKN)).ext ((Ext.refl _).alloc (.cells #[.int .i64 qr, .int .i64 qc] 121))
     rw [Nat.zero_add] at hown3
     have hsl : (bs.set (i / V) true).length = N := by rw [List.length_set]; exact hbsl
     generalize bs.set (i / V) true = bs2 at *
     generalize i / V = K at *
     have hKi : (K : Int) < N := by omega
     have hx3 : Ext w1 ((wr.setCell ⟨g2, K, none⟩ (.bool true)).alloc (.cells #[.int .i64 qr, .int .i64 qc] 121)) := (hext.setCell (p := ⟨g2, K, none⟩) (by have := hg2.out; simp only; omega) _).alloc _
     obtain ⟨_, _, hbb, -, -, z3, z4⟩ := z2
     injection hbb with hbb
     injection hbb with e1 e2 e3
     subst e1
     subst e2
     rw [Nat.zero_add] at z3 z4
     go_wp2_with (first
      | (refine wp_lookok (y := (qr, qc)) (hma.out.ext (hext.trans hxp)) plKeyed Tryz.underlying213 (z := .int .i64 0) (hzv.out _) hkl.out ?_ rfl rfl; rw [hfe.out]; simp only [Option.getD_some, Option.isSome_some]))
     go_roundw
     case rel => exact ⟨m + 1, bs2, hlt, by go_num, hsl, hset, hown3, hx3⟩
     case measure => simp [intOf]; omega
    ·have hnn := hno2.out hKN
     generalize i / V = K at *
     have hKi : ¬ (K : Int) < N := by omega
     have hKi2 : (N : Int) ≤ K := by omega
     go_wp2_with (first
      | (refine wp_lookok (y := (qr, qc)) (hma.out.ext (hext.trans hxp)) plKeyed Tryz.underlying213 (z := .int .i64 0) (hzv.out _) hkl.out ?_ rfl rfl; rw [hfe.out]; simp only [Option.getD_some, Option.isSome_some]))
     go_roundw
     case rel => exact ⟨m + 1, bs, hlt, by go_num, hbsl, hnn, hown.ext hxp, hext.trans hxp⟩
     case measure => simp [intOf]; omega
   ·have hnn := hMno.out fun j hj e => absurd (by rw [e]; exact hmem j hj) hnot
    clear hinj hmem
    replace hfe := Lib.hid hfe; replace hnot := Lib.hid hnot
    go_wp2_with (first
     | (refine wp_lookok (y := (qr, qc)) (hma.out.ext (hext.trans hxp)) plKeyed Tryz.underlying213 (z := .int .i64 0) (hzv.out _) hkl.out ?_ rfl rfl; rw [hfe.out]; simp only [Option.getD_none, Option.isSome_none]))
    go_roundw
    case rel => exact ⟨m + 1, bs, hlt, by go_num, hbsl, hnn, hown.ext hxp, hext.trans hxp⟩
    case measure => simp [intOf]; omega
  ·obtain rfl : m = L.length := by omega
   have hall := Lib.hid (hallT.out bs hbsl hM.out)
   obtain ⟨wb, rfl⟩ : ∃ wb : World, wb = wr := ⟨_, rfl⟩
   clear hM
   go_upto_region 16 with (fail)
   have hrO := RowI.made (B := wb.heap.size) (w := wb) (Nat.le_refl _)
   have hxO : Ext wb (wb.alloc (.cells #[] 2)) := (Ext.refl wb).alloc _
   generalize wb.alloc (.cells #[] 2) = w4 at *
   generalize Value.slice (some ⟨wb.heap.size, 0, none⟩) 0 0 = v1 at *
   obtain ⟨B2, hB2E⟩ : ∃ g, wb.heap.size = g := ⟨_, rfl⟩
   rw [hB2E] at hrO
   have hszB : w.heap.size ≤ B2 := by have := (hx1.trans hext).below.size; omega
   replace hB2E := Lib.hid hB2E; replace hszB := Lib.hid hszB
   go_loopw [14, 65] (fun o i wr => ∃ k : Nat, k ≤ N ∧ i = .int .i64 k ∧ RowI B2 wr o (SE k) ∧ Ext wb wr) (fun _ i _ => N - (intOf i).toNat)
   case atStart => exact ⟨0, Nat.zero_le _, rfl, by rw [hs0.out]; exact hrO, hxO⟩
   case round =>
    clear hrO hxO
    obtain ⟨k, hk, rfl, hrow, hext2⟩ := hrel
    by_cases hlk : k < N
    ·have hki : (k : Int) < N := by omega
     obtain ⟨bb, ob, hbb, -, hbl2, z0, -⟩ := (hown.ext hext2).bl_at (i := k) (by rw [hbsl]; exact hlk)
     injection hbb with hbb
     injection hbb with e1 e2 e3
     subst e1
     subst e2
     rw [Nat.zero_add] at z0
     have ha := hall.out k hlk
     have h1 := hs.out k
     have h2 := hsl.out k
     generalize bs.getD k false = bv at *
     generalize hSk : SE k = SK at *
     replace hSk := Lib.hid hSk
     have hzB : B2 ≤ wr.heap.size := by have := hB2E.out; have := hext2.below.size; omega
     cases bv with
     | true =>
      have h3 := h1.1 (ha.1 rfl)
      replace h3 := Lib.hid h3
      clear h1 ha
      go_wp2_with (at_builtin; go_loud (refine append1IG hrow (by omega) (by omega) ?_ rfl rfl); intro v5 w5 hr5 hg5)
      go_roundw
      case rel => exact ⟨k + 1, hlk, by go_num, by rw [h3.out]; exact hr5, hg5.toExt hext2 (fun j hj => by rw [hB2E.out]; exact (hrow.lt j hj).1)⟩
      case measure => simp [intOf]; omega
     | false =>
      have h3 := h1.2 (fun h => by have := ha.2 h; cases this)
      replace h3 := Lib.hid h3
      clear h1 ha
      go_wp2
      go_roundw
      case rel => exact ⟨k + 1, hlk, by go_num, by rw [h3.out]; exact hrow, hext2⟩
      case measure => simp [intOf]; omega
    ·obtain rfl : k = N := by omega
     go_wp2
     go_ret2
     exact ⟨⟨_, rfl, hrow.mono hszB.out⟩, (hx1.trans hext).trans hext2⟩
end Go.Proofs.YtdnkljpnhmcnpaaGreat
