/- The touched elements of a matrix symbol, the reference's side. -/
import Derived.Test.YtdnkljpnhmcnpaaGreatLBoundedDamageK27
import Derived.Test.YtdnkljpnhmcnpaaGreatLBoundedDamageK19
import Derived.Test.YtdnkljpnhmcnpaaGreatLBoundedDamageK22
import Derived.Deep.DeepCutAuto
set_option linter.unusedVariables false
set_option linter.unusedSimpArgs false
namespace Go.Proofs.YtdnkljpnhmcnpaaGreat
open Go.RowKit

theorem sel_congr {P Q : Nat → Prop} : ∀ n, (∀ i, i < n → (P i ↔ Q i)) → selTo P n = selTo Q n
 | 0, _ => rfl
 | n + 1, h => by
  have ih := sel_congr n fun i hi => h i (by omega)
  by_cases hp : P n
  ·rw [sel_yes hp, sel_yes ((h n (by omega)).1 hp), ih]
  ·rw [sel_no hp, sel_no (fun hq => hp ((h n (by omega)).2 hq)), ih]
theorem w_divS {i V : Nat} (hV : 1 ≤ V) (hi : (i : Int) ≤ 2000) : ((i : Int) / (V : Int)) = ((i / V : Nat) : Int) ∧ IntKind.i64.wrap ((i : Int) / (V : Int)) = ((i / V : Nat) : Int) := by
 have h1 : ((i : Int) / (V : Int)) = ((i / V : Nat) : Int) := (Int.natCast_ediv i V).symm
 have h2 : i / V ≤ i := Nat.div_le_self _ _
 generalize i / V = x at *
 exact ⟨h1, by rw [h1]; exact IntWalk.i64_in _ (by omega)⟩
set_option maxRecDepth 100000 in
theorem l14Is_c (p : Option Addr) (c : Nat) (L : List (Int × Int)) (row col : Int) (w : World) (hx : PlAt w p L) (hl : L.length ≤ 1048576) :
  Calls Tryz.prog 169 #[.slice p L.length c, .int .i64 row, .int .i64 col] w fun e w' => isB e ((row, col) ∈ L) ∧ w = w' := by
 have HX := Lib.hid hx; clear hx
 obtain ⟨PP, hPP⟩ : ∃ PP : Prop, ((row, col) ∈ L) = PP := ⟨_, rfl⟩
 have hP : PP ↔ ∃ i, i < L.length ∧ L.getD i (0, 0) = (row, col) := by rw [← hPP]; exact mem_getD
 rw [hPP]
 clear hPP
 replace hP := Lib.hid hP
 go_enter Tryz.func169, Tryz.ntmps169
 go_wp2_with fail
 go_loop [7] (fun i => ∃ j : Nat, j ≤ L.length ∧ i = .int .i64 j ∧ Hid (∀ i, i < j → L.getD i (0, 0) ≠ (row, col))) (fun i => L.length - (intOf i).toNat)
 case atStart => exact ⟨0, Nat.zero_le _, rfl, Lib.hid (fun i h => absurd h (Nat.not_lt_zero i))⟩
 case round =>
  obtain ⟨j, hj, rfl, hT⟩ := hrel
  by_cases hlt : j < L.length
  ·have hji : (j : Int) < L.length := by omega
   obtain ⟨b, o, rfl, hb, y0, y1⟩ := HX.out.pl2 hlt
   have hyes : L.getD j (0, 0) = (row, col) → PP := fun h => hP.out.2 ⟨j, hlt, h⟩
   have hno : L.getD j (0, 0) ≠ (row, col) → Hid (∀ i, i < j + 1 → L.getD i (0, 0) ≠ (row, col)) := fun h => Lib.hid fun i hi => by
    by_cases e : i = j
    ·subst e; exact h
    ·exact hT.out i (by omega)
   generalize L.getD j (0, 0) = q at *
   obtain ⟨qr, qc⟩ := q
   simp only at y0 y1
   replace hyes := Lib.hid hyes; replace hno := Lib.hid hno
   by_cases h1 : qr = row
   ·subst h1
    by_cases h2 : qc = col
    ·subst h2
     go_wp2
     go_ret
     exact ⟨isB_t (hyes.out (by simp)), rfl⟩
    ·have hd : (qc == col) = false := by simpa using h2
     have hn := hno.out (fun h => h2 (by simpa using h))
     replace h2 := Lib.hid h2
     go_wp2
     go_round
     case rel => exact ⟨j + 1, hlt, by go_num, hn⟩
     case measure => simp [intOf]; omega
   ·have hd : (qr == row) = false := by simpa using h1
    have hn := hno.out (fun h => h1 (by simp only [Prod.mk.injEq] at h; exact h.1))
    replace h1 := Lib.hid h1
    go_wp2
    go_round
    case rel => exact ⟨j + 1, hlt, by go_num, hn⟩
    case measure => simp [intOf]; omega
  ·obtain rfl : j = L.length := by omega
   go_wp2
   go_ret
   exact ⟨isB_f (fun h => by obtain ⟨i, hi, e⟩ := hP.out.1 h; exact hT.out i hi e), rfl⟩
set_option maxHeartbeats 800000 in
set_option maxRecDepth 100000 in
theorem l28Count_c (p pt : Option Addr) (c ct : Nat) (ps L : List (Int × Int)) (w : World) (hx : PlAt w p ps) (hl : ps.length ≤ 1048576) (hy : PlAt w pt L) (hl2 : L.length ≤ 1048576) :
  Calls Tryz.prog 116 #[.slice p ps.length c, .slice pt L.length ct] w fun e w' => e = .returned (.int .i64 (fmN L ps ps.length)) ∧ Ext w w' := by
 have HX := Lib.hid hx; clear hx
 have HY := Lib.hid hy; clear hy
 have his := Lib.hid (fun row col W (h : PlAt W pt L) => l14Is_c pt ct L row col W h hl2)
 have hs : ∀ k, (ps.getD k (0, 0) ∈ L → fmN L ps (k + 1) = fmN L ps k + 1) ∧ (¬ ps.getD k (0, 0) ∈ L → fmN L ps (k + 1) = fmN L ps k) := fun k => ⟨cnt_yes (P := fun i => ps.getD i (0, 0) ∈ L), cnt_no (P := fun i => ps.getD i (0, 0) ∈ L)⟩
 have hsl := Lib.hid (fun k => cnt_le (fun i => ps.getD i (0, 0) ∈ L) k)
 have hs0 : fmN L ps 0 = 0 := rfl
 replace hsl := Lib.hid (show ∀ k, fmN L ps k ≤ k from hsl.out)
 replace hs := Lib.hid hs
 generalize fmN L ps = F at *
 replace hs0 := Lib.hid hs0
 go_enter Tryz.func116, Tryz.ntmps116
 go_wp2_with fail
 go_loopw [5, 6] (fun z i wr => ∃ k : Nat, k ≤ ps.length ∧ i = .int .i64 k ∧ z = .int .i64 (F k) ∧ Ext w wr) (fun _ i _ => ps.length - (intOf i).toNat)
 case atStart => exact ⟨0, Nat.zero_le _, rfl, by rw [hs0.out]; rfl, Ext.refl _⟩
 case round =>
  obtain ⟨k, hk, rfl, rfl, hext⟩ := hrel
  by_cases hlt : k < ps.length
  ·have hki : (k : Int) < ps.length := by omega
   obtain ⟨b, o, rfl, hb, y0, y1⟩ := (HX.out.ext hext).pl2 hlt
   have h1 := hs.out k
   have h2 := hsl.out k
   generalize ps.getD k (0, 0) = q at *
   obtain ⟨qr, qc⟩ := q
   simp only at y0 y1
   generalize hFk : F k = c1 at *
   replace hFk := Lib.hid hFk
   have hisk := Lib.hid (fun W (h : PlAt W pt L) => his.out qr qc W h)
   generalize ((qr, qc) ∈ L) = MM at *
   replace h1 := Lib.hid h1
   go_upto_region 5 with (fail)
   refine wp_region_canon (fun w' => Ext wr w') [(0, true), (1, true), (2, true), (3, true), (4, true), (5, true), (6, true), (7, true), (8, true), (9, true), (10, true), (11, false)] (by kernel_rfl) (by kernel_rfl) (by decide) (by kernel_rfl) ?_ ?_
   ·exact eX
   refine canon_intro fun ops eo => ?_
   replace eo := canon_eo eo
   iterate 11 all_goals (refine cS eo rfl rfl evE ?_; simp only [ptN])
   all_goals first | (refine canon_ef (eo.out 11 rfl) rfl (fun K hK => ?_); go_simp; ((go_at_call 169; (with_reducible refine (hisk.out _ (HY.out.ext (hext.trans eX))).mono ?_); rintro e w5 ⟨⟨hP, rfl⟩ | ⟨hP, rfl⟩, rfl⟩)); all_goals (refine hK _ _ ⟨eX, ?_⟩; clear hK K; go_simp))
   all_goals (clear eo; refine canon_done (NoPanic.normal ?_))
   ·go_wp2
    go_roundw
    case rel => exact ⟨k + 1, hlt, by go_num, by rw [h1.out.1 hP]; go_num, eX⟩
    case measure => simp [intOf]; omega
   ·go_wp2
    go_roundw
    case rel => exact ⟨k + 1, hlt, by go_num, by rw [h1.out.2 hP], eX⟩
    case measure => simp [intOf]; omega
  ·obtain rfl : k = ps.length := by omega
   go_wp2
   go_ret
   exact ⟨rfl, hext⟩
set_option maxRecDepth 100000 in
theorem l07Indices_c (p : Option Addr) (c : Nat) (xs : List Int) (w : World) (hx : IntsAt w p xs) (hl : xs.length ≤ 1048576) :
  Calls Tryz.prog 115 #[.slice p xs.length c] w fun e w' => (∃ v, e = .returned v ∧ RowI w.heap.size w' v (selTo (fun i => xs.getD i 0 ≠ 0) xs.length)) ∧ Ext w w' := by
 have HX := Lib.hid hx; clear hx
 have hs := Lib.hid (show ∀ k, (xs.getD k 0 ≠ 0 → selTo (fun i => xs.getD i 0 ≠ 0) (k + 1) = selTo (fun i => xs.getD i 0 ≠ 0) k ++ [(k : Int)]) ∧ (¬ xs.getD k 0 ≠ 0 → selTo (fun i => xs.getD i 0 ≠ 0) (k + 1) = selTo (fun i => xs.getD i 0 ≠ 0) k) from fun k => ⟨sel_yes (P := fun i => xs.getD i 0 ≠ 0), sel_no (P := fun i => xs.getD i 0 ≠ 0)⟩)
 have hsl := Lib.hid (fun k => sel_len (fun i => xs.getD i 0 ≠ 0) k)
 have hs0 : selTo (fun i => xs.getD i 0 ≠ 0) 0 = [] := rfl
 generalize selTo (fun i => xs.getD i 0 ≠ 0) = SE at *
 replace hs0 := Lib.hid hs0
 have hrO := RowI.made (B := w.heap.size) (w := w) (Nat.le_refl _)
 have hxO : Ext w (w.alloc (.cells #[] 2)) := (Ext.refl w).alloc _
 go_enter Tryz.func115, Tryz.ntmps115
 go_upto_region 3 with (fail)
 generalize w.alloc (.cells #[] 2) = w4 at *
 generalize Value.slice (some ⟨w.heap.size, 0, none⟩) 0 0 = v1 at *
 go_loopw [3, 4] (fun o i wr => ∃ k : Nat, k ≤ xs.length ∧ i = .int .i64 k ∧ RowI w.heap.size wr o (SE k) ∧ Ext w wr) (fun _ i _ => xs.length - (intOf i).toNat)
 case atStart => exact ⟨0, Nat.zero_le _, rfl, by rw [hs0.out]; exact hrO, hxO⟩
 case round =>
  clear hrO hxO
  obtain ⟨k, hk, rfl, hrow, hext2⟩ := hrel
  by_cases hlk : k < xs.length
  ·have hki : (k : Int) < xs.length := by omega
   obtain ⟨b, o, rfl, hbl, z0⟩ := (HX.out.ext hext2) k hlk
   have h1 := hs.out k
   have h2 := hsl.out k
   generalize xs.getD k 0 = x at *
   generalize hSk : SE k = SK at *
   replace hSk := Lib.hid hSk
   have hzB := hext2.below.size
   by_cases hx0 : x = 0
   ·subst hx0
    have h3 := h1.2 (by simp)
    replace h3 := Lib.hid h3
    clear h1
    go_wp2
    go_roundw
    case rel => exact ⟨k + 1, hlk, by go_num, by rw [h3.out]; exact hrow, hext2⟩
    case measure => simp [intOf]; omega
   ·have h3 := h1.1 hx0
    replace h3 := Lib.hid h3
    clear h1
    have hd : (x == 0) = false := by simpa using hx0
    replace hx0 := Lib.hid hx0
    go_wp2_with (at_builtin; go_loud (refine append1IG hrow (by omega) (by omega) ?_ rfl rfl); intro v5 w5 hr5 hg5)
    go_roundw
    case rel => exact ⟨k + 1, hlk, by go_num, by rw [h3.out]; exact hr5, hg5.toExt hext2 (fun j hj => (hrow.lt j hj).1)⟩
    case measure => simp [intOf]; omega
  ·obtain rfl : k = xs.length := by omega
   go_wp2
   go_ret
   exact ⟨⟨_, rfl, hrow⟩, hext2⟩
theorem l15Width_c (n : Int) (w : World) : Calls Tryz.prog 170 #[.int .i64 n] w fun e w' => isB e (1 ≤ n ∧ n ≤ 8) ∧ w = w' := by
 go_enter Tryz.func170, Tryz.ntmps170
 go_wp2_with (go_at_call 29; (with_reducible refine (l01In_c _ _ _ _).mono ?_); rintro e w1 ⟨⟨hP, rfl⟩ | ⟨hP, rfl⟩, rfl⟩)
 ·go_ret
  exact ⟨isB_t hP, rfl⟩
 ·go_ret
  exact ⟨isB_f hP, rfl⟩
def MkM (L D : List (Int × Int)) (V m : Nat) (xs : List Int) : Prop := ∀ k, k < xs.length → (xs.getD k 0 ≠ 0 ↔ ∃ i, i < m ∧ i / V = k ∧ D.getD i (0, 0) ∈ L)
theorem MkM.zero (L D : List (Int × Int)) (V N : Nat) : MkM L D V 0 (List.replicate N 0) := fun k hk => by
 rw [List.length_replicate] at hk
 rw [List.getD_eq_getElem?_getD, List.getElem?_eq_getElem (by simpa using hk)]
 simp
theorem MkM.no {L D : List (Int × Int)} {V m : Nat} {xs : List Int} (h : MkM L D V m xs) (hm : ¬ D.getD m (0, 0) ∈ L) : MkM L D V (m + 1) xs := fun k hk => by
 rw [h k hk]
 constructor
 ·rintro ⟨i, hi, hr⟩; exact ⟨i, by omega, hr⟩
 ·rintro ⟨i, hi, e, hr⟩
  by_cases e2 : i = m
  ·subst e2; exact absurd hr hm
  ·exact ⟨i, by omega, e, hr⟩
theorem MkM.set {L D : List (Int × Int)} {V m : Nat} {xs : List Int} (h : MkM L D V m xs) (hm : D.getD m (0, 0) ∈ L) : MkM L D V (m + 1) (xs.set (m / V) 1) := fun k hk => by
 rw [List.length_set] at hk
 by_cases ek : m / V = k
 ·subst ek
  rw [List.getD_eq_getElem?_getD, List.getElem?_set_self hk]
  simp only [Option.getD_some, ne_eq]
  exact ⟨fun _ => ⟨m, by omega, rfl, hm⟩, fun _ => by decide⟩
 ·rw [List.getD_eq_getElem?_getD, List.getElem?_set_ne ek, ← List.getD_eq_getElem?_getD, h k hk]
  constructor
  ·rintro ⟨i, hi, hr⟩; exact ⟨i, by omega, hr⟩
  ·rintro ⟨i, hi, e, hr⟩
   by_cases e2 : i = m
   ·subst e2; exact absurd e ek
   ·exact ⟨i, by omega, e, hr⟩
theorem MkM.all {L D : List (Int × Int)} {V N : Nat} {xs : List Int} (h : MkM L D V D.length xs) (hN : N ≤ xs.length) : selTo (fun i => (xs.take N).getD i 0 ≠ 0) N = selTo (teHit L D V) N :=
 sel_congr N fun i hi => by
  have e : (xs.take N).getD i 0 = xs.getD i 0 := by
   rw [List.getD_eq_getElem?_getD, List.getD_eq_getElem?_getD, List.getElem?_take_of_lt hi]
  rw [e, h i (by omega)]
  unfold teHit
  exact Iff.rfl
set_option maxHeartbeats 3200000 in
set_option maxRecDepth 100000 in
theorem sTouchedEl_c (n V : Nat) (pl : Option Addr) (cl : Nat) (L : List (Int × Int)) (w : World) (hn : 17 ≤ n ∧ n ≤ 41) (h4 : n % 4 = 1) (hV : 1 ≤ V ∧ V ≤ 8) (hx : PlAt w pl L) (hl : L.length ≤ 40000) :
  Calls Tryz.prog 117 #[.int .i64 n, .int .i64 V, .slice pl L.length cl] w fun e w' => (∃ v, e = .returned (.tuple #[v, .int .i64 0]) ∧ RowI w.heap.size w' v (teE L (dpL n) V ((dpL n).length / V))) ∧ Ext w w' := by
 have HX := Lib.hid hx; clear hx
 have hsz := Lib.hid (fun W => sSize_c n W)
 have hok : sizOK n := ⟨⟨by omega, by omega⟩, by omega⟩
 replace hok := Lib.hid hok
 have hwd := Lib.hid (fun W => l15Width_c V W)
 have hdp := Lib.hid (fun W => sPlaces_c n W hn h4)
 have hln := dpL_len (n := n) hn.2
 have his := Lib.hid (fun row col W (h : PlAt W pl L) => l14Is_c pl cl L row col W h (by omega))
 unfold teE
 generalize hD : dpL n = D at *
 replace hD := Lib.hid hD
 have hll : ¬ (40000 : Int) < L.length := by omega
 have hv1 : (1 : Int) ≤ (V : Int) := by omega
 have hv8 : (V : Int) ≤ 8 := by omega
 have hv0 : ¬ V = 0 := by omega
 have hq := w_divS (i := D.length) hV.1 (by omega)
 have hNd : D.length / V ≤ D.length := Nat.div_le_self _ _
 generalize hNN : D.length / V = N at *
 obtain ⟨hq1, hq2⟩ := hq
 replace hNN := Lib.hid hNN
 have hallT := Lib.hid (fun (xs : List Int) (hb : xs.length = D.length) (h : MkM L D V D.length xs) => h.all (N := N) (by rw [hb]; exact hNd))
 generalize selTo (teHit L D V) N = TE at *
 go_enter Tryz.func117, Tryz.ntmps117
 go_upto_region 6 with (first
  | (go_at_call 73; (with_reducible refine (hsz.out _).mono ?_); rintro e w3 ⟨⟨hS, rfl⟩ | ⟨hS, rfl⟩, rfl⟩ <;> (first | exact absurd hok.out hS | skip))
  | (go_at_call 170; (with_reducible refine (hwd.out _).mono ?_); rintro e w3 ⟨⟨hP, rfl⟩ | ⟨hP, rfl⟩, rfl⟩ <;> first | (exfalso; omega) | skip)
  | (go_at_call 91; (with_reducible refine (hdp.out _).mono ?_); rintro e w1 ⟨⟨vd, rfl, hrd⟩, hx1⟩; rw [hD.out] at hrd; obtain ⟨pd, cd, hvd, hpd, hfd⟩ := hrd.nfree plF_len; subst hvd))
 replace hpd := Lib.hid hpd
 go_upto_region 8 with (refine make_blk Tryz.underlying22 infoInt D.length rfl rfl (by omega) (by omega) ?_)
 have hr2 := OwnInts.made (B := w1.heap.size) (N := D.length) w1 2 (Nat.le_refl _)
 have hx12 : Ext w1 (w1.alloc (.cells (madeCells #[.int .i64 0] D.length) 2)) := (Ext.refl w1).alloc _
 generalize w1.alloc (.cells (madeCells #[.int .i64 0] D.length) 2) = w2 at *
 obtain ⟨g2, hg2⟩ : ∃ g, w1.heap.size = g := ⟨_, rfl⟩
 rw [hg2] at hr2 ⊢
 replace hg2 := Lib.hid hg2
 clear hrd hfd
 go_loopw [10] (fun i wr => ∃ (m : Nat) (xs : List Int), m ≤ D.length ∧ i = .int .i64 m ∧ xs.length = D.length ∧ Hid (MkM L D V m xs) ∧ OwnInts g2 wr (some ⟨g2, 0, none⟩) xs ∧ Ext w1 wr) (fun i _ => D.length - (intOf i).toNat)
 case atStart => exact ⟨0, _, Nat.zero_le _, rfl, List.length_replicate, Lib.hid (MkM.zero L D V _), hr2, hx12⟩
 case round =>
  clear hr2 hx12
  obtain ⟨m, xs, hm, rfl, hxl, hM, hown, hext⟩ := hrel
  by_cases hlt : m < D.length
  ·have hlti : (m : Int) < D.length := by omega
   have hLL := HX.out.ext (hx1.trans hext)
   replace hLL := Lib.hid hLL
   obtain ⟨b2, o2, rfl, hb2, y0, y1⟩ := (hpd.out.ext hext).pl2 hlt
   have hno := fun h => hM.out.no (m := m) h
   have hset := fun h => hM.out.set (m := m) h
   generalize D.getD m (0, 0) = q at *
   obtain ⟨qr, qc⟩ := q
   simp only at y0 y1
   have hqi := w_divS (i := m) hV.1 (by omega)
   obtain ⟨hqi1, hqi2⟩ := hqi
   have hKb : m / V ≤ m := Nat.div_le_self _ _
   have hsl : (xs.set (m / V) 1).length = D.length := by rw [List.length_set]; exact hxl
   have hset2 := fun W (h : OwnInts g2 W (some ⟨g2, 0, none⟩) xs) => h.set rfl (k := m / V) (by omega) 1
   obtain ⟨bb, ob, hbb, -, hbl2, z0, z1⟩ := (hown.ext (Ext.refl wr).drew) (m / V) (by omega)
   injection hbb with hbb
   injection hbb with e1 e2 e3
   subst e1
   subst e2
   rw [Nat.zero_add] at z0 z1
   generalize xs.set (m / V) 1 = xs2 at *
   generalize m / V = K at *
   generalize xs.getD K 0 = z at *
   replace hno := Lib.hid hno; replace hset := Lib.hid hset; replace hset2 := Lib.hid hset2
   have hKl : (K : Int) < D.length := by omega
   have hisk := Lib.hid (fun W (h : PlAt W pl L) => his.out qr qc W h)
   generalize ((qr, qc) ∈ L) = MM at *
   go_upto_region 10 with (fail)
   refine wp_region_canon (fun w' => Ext wr w') [(0, true), (1, true), (2, true), (3, true), (4, true), (5, true), (6, true), (7, true), (8, true), (9, true), (10, true), (11, false)] (by kernel_rfl) (by kernel_rfl) (by decide) (by kernel_rfl) ?_ ?_
   ·exact eX
   refine canon_intro fun ops eo => ?_
   replace eo := canon_eo eo
   iterate 11 all_goals (refine cS eo rfl rfl evE ?_; simp only [ptN])
   all_goals first | (refine canon_ef (eo.out 11 rfl) rfl (fun K hK => ?_); go_simp; ((go_at_call 169; (with_reducible refine (hisk.out _ (hLL.out.ext eX)).mono ?_); rintro e w5 ⟨⟨hP, rfl⟩ | ⟨hP, rfl⟩, rfl⟩)); all_goals (refine hK _ _ ⟨eX, ?_⟩; clear hK K; go_simp))
   all_goals (clear eo; refine canon_done (NoPanic.normal ?_))
   ·have hmk := hset.out hP
    have hown2 := hset2.out _ (hown.ext (show Ext wr wr.drew from eX))
    replace hown2 := Lib.hid hown2
    have hx3 : Ext w1 (wr.drew.setCell ⟨g2, 0 + K, none⟩ (.int .i64 1)) := (hext.drew).setCell (p := ⟨g2, 0 + K, none⟩) (by have := hg2.out; simp only; omega) _
    rw [Nat.zero_add] at hx3
    go_wp2
    go_roundw
    case rel => exact ⟨m + 1, xs2, hlt, by go_num, hsl, hmk, by have := hown2.out; rw [Nat.zero_add] at this; exact this, hx3⟩
    case measure => simp [intOf]; omega
   ·have hmk := hno.out hP
    go_wp2
    go_roundw
    case rel => exact ⟨m + 1, xs, hlt, by go_num, hxl, hmk, hown.ext (show Ext wr wr.drew from eX), hext.drew⟩
    case measure => simp [intOf]; omega
  ·obtain rfl : m = D.length := by omega
   have hte := hallT.out xs hxl hM.out
   have htl : (xs.take N).length = N := by rw [List.length_take]; omega
   have hia : IntsAt wr (some ⟨g2, 0, none⟩) (xs.take N) := fun i hi => by
    rw [htl] at hi
    obtain ⟨b, o, e, h1, h2⟩ := hown.ints i (by omega)
    exact ⟨b, o, e, h1, by rw [h2, List.getD_eq_getElem?_getD, List.getD_eq_getElem?_getD, List.getElem?_take_of_lt hi]⟩
   have hid := Lib.hid (show ∀ W, IntsAt W (some ⟨g2, 0, none⟩) (xs.take N) → Calls Tryz.prog 115 #[.slice (some ⟨g2, 0, none⟩) N D.length] W fun e w' => (∃ v, e = .returned v ∧ RowI W.heap.size w' v TE) ∧ Ext W w' from fun W h => by
    have := l07Indices_c (some ⟨g2, 0, none⟩) D.length (xs.take N) W h (by omega)
    rw [htl, hte] at this
    exact this)
   replace hia := Lib.hid hia
   have hxf := hx1.trans hext
   clear hM hown hte htl hallT
   go_wp2_with (go_at_call 115; (with_reducible refine (hid.out _ hia.out).mono ?_); rintro e w9 ⟨⟨v9, rfl, hr9⟩, hx9⟩)
   go_ret2
   exact ⟨⟨_, rfl, hr9.mono hxf.below.size⟩, hxf.trans hx9⟩
end Go.Proofs.YtdnkljpnhmcnpaaGreat
