/- How many data cells a matrix size has. -/
import Derived.Test.YtdnkljpnhmcnpaaGreatLBoundedDamageK22
import Derived.Deep.DeepCutAuto
set_option linter.unusedVariables false
set_option linter.unusedSimpArgs false
namespace Go.Proofs.YtdnkljpnhmcnpaaGreat
open Go.RowKit

def testE (n : Nat) (p : Int × Int) : Bool := decide (fixV n p.1 p.2 < 0) && !(decide (p ∈ aPl)) && !(decide (p ∈ bPl n))
theorem testE_iff {n : Nat} (hn : 17 ≤ n ∧ n ≤ 41) (h4 : n % 4 = 1) {p : Int × Int} (h1 : 0 ≤ p.1 ∧ p.1 < n) (h2 : 0 ≤ p.2 ∧ p.2 < n) : testE n p = true ↔ (fixF n).getD (plIx n p) 0 < 0 := by
 have hnd := ND_iff hn h4 h1 h2
 have h3 : (∃ i, i < n * n ∧ p = (((i / n : Nat) : Int), ((i % n : Nat) : Int)) ∧ 0 ≤ (fixL n).getD i 0) ↔ 0 ≤ fixV n p.1 p.2 := by
  constructor
  ·rintro ⟨i, hi, rfl, hv⟩
   have hq : i / n < n := (Nat.div_lt_iff_lt_mul (by omega)).2 hi
   have hr : i % n < n := Nat.mod_lt _ (by omega)
   rw [← fixL_at hq hr]
   have e : i / n * n + i % n = i := by rw [Nat.mul_comm]; exact Nat.div_add_mod i n
   rw [e]; exact hv
  ·intro hv
   obtain ⟨a, b, rfl, ha, hb, e1⟩ := pl_nat h1 h2
   have hn0 : 0 < n := by omega
   refine ⟨a * n + b, ?_, ?_, by rw [fixL_at ha hb]; exact hv⟩
   ·have := Nat.mul_le_mul_right n (show a + 1 ≤ n from ha)
    rw [Nat.add_mul, Nat.one_mul] at this; omega
   ·have d1 : (a * n + b) / n = a := by rw [Nat.mul_comm, Nat.mul_add_div hn0, Nat.div_eq_of_lt hb]; rfl
    have m1 : (a * n + b) % n = b := by rw [Nat.mul_comm, Nat.mul_add_mod, Nat.mod_eq_of_lt hb]
    rw [d1, m1]
 have h5 : NDp n p ↔ 0 ≤ fixV n p.1 p.2 ∨ p ∈ aPl ∨ p ∈ bPl n := by unfold NDp; rw [h3]
 rw [h5] at hnd
 unfold testE
 simp only [Bool.and_eq_true, decide_eq_true_eq, Bool.not_eq_true', decide_eq_false_iff_not]
 constructor
 ·rintro ⟨⟨ha, hb⟩, hc⟩
  have : ¬ 0 ≤ (fixF n).getD (plIx n p) 0 := fun h => by
   rcases hnd.2 h with h | h | h
   ·omega
   ·exact hb h
   ·exact hc h
  omega
 ·intro h
  have h6 : ¬ (0 ≤ fixV n p.1 p.2 ∨ p ∈ aPl ∨ p ∈ bPl n) := fun h' => by have := hnd.1 h'; omega
  exact ⟨⟨by have : ¬ 0 ≤ fixV n p.1 p.2 := fun h' => h6 (.inl h'); omega, fun h' => h6 (.inr (.inl h'))⟩, fun h' => h6 (.inr (.inr h'))⟩
def lenC (n : Nat) (right : Int) (up : Bool) : Nat → Nat
 | 0 => 0
 | k + 1 => lenC n right up k + if testE n (plA n right up k) = true then 1 else 0
theorem colTo_lenE {n : Nat} (hn : 17 ≤ n ∧ n ≤ 41) (h4 : n % 4 = 1) {right : Int} {up : Bool} (hr : 1 ≤ right ∧ right ≤ (n : Int) - 1) : ∀ k, k ≤ 2 * n → (colTo n right up k).length = lenC n right up k
 | 0, _ => rfl
 | k + 1, hk => by
  have ih := colTo_lenE hn h4 (up := up) hr k (by omega)
  have hb := plA_bd (up := up) hr (show k < 2 * n by omega)
  have ht := testE_iff hn h4 hb.1 hb.2
  show (colTo n right up (k + 1)).length = lenC n right up k + _
  rw [colTo_s, List.length_append, ih]
  by_cases h : testE n (plA n right up k) = true
  ·rw [if_pos h, if_pos (ht.1 h)]; rfl
  ·rw [if_neg h, if_neg (fun h' => h (ht.2 h'))]; rfl
def lenD (n : Nat) : Nat → Nat
 | 0 => 0
 | j + 1 => lenD n j + lenC n (rg n j) (upB j) (2 * n)
theorem dpTo_lenE {n : Nat} (hn : 17 ≤ n ∧ n ≤ 41) (h4 : n % 4 = 1) : ∀ j, j ≤ cnt n → (dpTo n j).length = lenD n j
 | 0, _ => rfl
 | j + 1, hj => by
  have ih := dpTo_lenE hn h4 j (by omega)
  show (dpTo n (j + 1)).length = lenD n j + _
  rw [dpTo_s, List.length_append, ih, colTo_lenE hn h4 (rgt_ok hn h4 (by omega)).2 _ (Nat.le_refl _)]
def cntN (n : Nat) : Nat → Nat
 | 0 => 0
 | i + 1 => cntN n i + if fixV n ((i / n : Nat) : Int) ((i % n : Nat) : Int) < 0 then 1 else 0
theorem cnt_17 : lenD 17 (cnt 17) + 30 = cntN 17 (17 * 17) := by decide +kernel
theorem cnt_21 : lenD 21 (cnt 21) + 30 = cntN 21 (21 * 21) := by decide +kernel
theorem cnt_25 : lenD 25 (cnt 25) + 30 = cntN 25 (25 * 25) := by decide +kernel
theorem cnt_29 : lenD 29 (cnt 29) + 30 = cntN 29 (29 * 29) := by decide +kernel
theorem cnt_33 : lenD 33 (cnt 33) + 30 = cntN 33 (33 * 33) := by decide +kernel
theorem cnt_37 : lenD 37 (cnt 37) + 30 = cntN 37 (37 * 37) := by decide +kernel
theorem cnt_41 : lenD 41 (cnt 41) + 30 = cntN 41 (41 * 41) := by decide +kernel
theorem dpL_count {n : Nat} (hn : 17 ≤ n ∧ n ≤ 41) (h4 : n % 4 = 1) : (dpL n).length + 30 = cntN n (n * n) := by
 unfold dpL
 rw [dpTo_lenE hn h4 _ (Nat.le_refl _)]
 have h : n = 17 ∨ n = 21 ∨ n = 25 ∨ n = 29 ∨ n = 33 ∨ n = 37 ∨ n = 41 := by omega
 rcases h with rfl | rfl | rfl | rfl | rfl | rfl | rfl
 ·exact cnt_17
 ·exact cnt_21
 ·exact cnt_25
 ·exact cnt_29
 ·exact cnt_33
 ·exact cnt_37
 ·exact cnt_41
theorem cntN_s {n i : Nat} (hi : i < n * n) (hn : 0 < n) : cntN n (i + 1) = cntN n i + if (fixL n).getD i 0 < 0 then 1 else 0 := by
 have hq : i / n < n := (Nat.div_lt_iff_lt_mul hn).2 hi
 have hr : i % n < n := Nat.mod_lt _ hn
 have e : i / n * n + i % n = i := by rw [Nat.mul_comm]; exact Nat.div_add_mod i n
 have h := fixL_at hq hr
 rw [e] at h
 rw [h]; rfl
theorem cntN_le (n : Nat) : ∀ i, cntN n i ≤ i
 | 0 => Nat.le_refl 0
 | i + 1 => by
  have ih := cntN_le n i
  show cntN n i + _ ≤ i + 1
  split <;> omega
open Go.RowKit

section
variable {α : Type} {f : α → List Value} {k : Nat} {e t : TypeId} {w : World} {xs ys : List α}
theorem SAt.news {ad : Addr} (hf : ∀ x, (f x).length = k) (hk : 0 < k) (h : SAt f k w (some ad) xs) : ∀ j u, (xs.flatMap f)[j]? = some u → w.cell? (ad.add j) = some u := fun j u hu => by
 have hj : j < xs.length * k := by have := (List.getElem?_eq_some_iff.1 hu).1; rw [flat_len hf] at this; exact this
 have hi : j / k < xs.length := (Nat.div_lt_iff_lt_mul hk).2 hj
 have hm : j % k < k := Nat.mod_lt _ hk
 have e2 : j / k * k + j % k = j := by rw [Nat.mul_comm]; exact Nat.div_add_mod j k
 have h2 := flat_get hf xs (j / k) hi (j % k) hm
 rw [e2] at h2
 rw [h2] at hu
 obtain ⟨b, o, e3, _, h3⟩ := h (j / k) hi
 obtain rfl := Option.some.inj e3
 rw [addr_add]
 have h4 := h3 (j % k) u hu
 have e4 : o + j / k * k + j % k = o + j := by omega
 rw [e4] at h4
 exact h4
variable {ops : Array Oper} {Q : Exit → Act → World → Prop} {rest : List Oper} {a : Act} {dst : Option Tmp} {s x : Operand} {ty : TypeId} {pos : String} {after : Array Edge} {B : Nat} {w0 : World} {v : Value}
theorem appendSL {z : Value} {bytes c : Nat} {ad : Addr} (ht : Tryz.prog.underlying t = some (.slice e)) (hinfo : (Tryz.prog.info? e).map (fun i => (i.zero, i.size, i.bytes)) = some (some z, k, bytes)) (hz : z.cells.size = k) (hk : 0 < k) (hbytes : bytes ≤ 128)
  (hf : ∀ x, (f x).length = k) (h1 : ∀ x, ∀ u ∈ f x, u.oneCell' = true) (m : Nat) (hm : m = ys.length)
  (hown : RowS e f k B w0 v xs) (hy : SAt f k w0 (some ad) ys) (hlen : xs.length + m < 1099511627775) (hB : B ≤ w0.heap.size)
  (h : ∀ v' w', RowS e f k B w' v' (xs ++ ys) → Grew v w0 w' v' → wpList Tryz.prog ops Q rest (a.put dst v') w') (hs : a.eval s = v) (hx : a.eval x = .slice (some ad) m c) :
  wpList Tryz.prog ops Q (⟨dst, .call { callee := .builtin .append, args := #[s, x], argTypes := #[t, t] }, ty, pos, after, none⟩ :: rest) a w0 := by
 subst hm
 obtain ⟨i0, hi, hz0, hz1, hz2⟩ := info_parts hinfo
 refine wpList_append_own2 rfl s x t rfl B e i0 z k bytes ht hi hz0 hz1 hz2 hz hk v xs.length (xs.flatMap f) hs hown ad ys.length c (ys.flatMap f) hx (by rw [flat_len hf]) (hy.news hf hk) (fun u hu => ?_) ?_ ?_ hB ?_
 ·obtain ⟨y, _, hy⟩ := List.mem_flatMap.1 hu
  exact h1 y u hy
 ·unfold maxLen; omega
 ·have := Nat.mul_le_mul (show xs.length + ys.length ≤ 1099511627776 from by omega) hbytes
  omega
 ·intro v' w' h1 h2
  refine h v' w' ?_ h2
  unfold RowS
  rw [List.length_append, List.flatMap_append]
  exact h1
end
section
open Go.MapKept Go.ChangeMaps Go.Maps
variable {α : Type} {k e t : TypeId} {E : α → Value} {w : World} {b n : Nat} {f : α → Option Value}
variable {Q : Exit → Act → World → Prop} {K' : Act → World → Prop} {a : Act} {dst : Option Tmp} {m x v : Operand} {ty : TypeId} {pos : String} {after : Array Edge}
set_option maxRecDepth 100000 in
theorem put_op [DecidableEq α] (hE : ∀ x y, E x = E y → x = y) (h : MapA k E w b n f) (K : Keyed Tryz.prog k) (ht : Tryz.prog.underlying t = some (.map k e)) (hn : n < maxLen) {y : α} {u : Value} {kl : Lit} (hk : keyOf Tryz.prog k (E y) = some kl)
  (hw : ∀ w', MapA k E w' b (n + 1) (fun z => if z = y then some u else f z) → w.grownBy w' (some b) → K' (a.put dst undef) w') (hm : a.eval m = .map (some b)) (hx : a.eval x = E y) (hv : a.eval v = u) :
  Oper.wp Tryz.prog ⟨dst, .mapUpdate t m x v, ty, pos, after, none⟩ a w K' Q := by
 obtain ⟨w', hr, h1, h2⟩ := h.put hE K ht hn hk u
 unfold Oper.wp
 simp [execOp, hm, hx, hv, hr, Result.andThen]
 exact hw w' h1 h2
end
theorem But.grown {m : Nat} {a b c : World} (h : But m a b) (hg : b.grownBy c (some m)) : But m a c :=
 h.trans ⟨hg.os, hg.tape, hg.output, hg.size, fun i hi hne => hg.block i hi (fun e => hne (Option.some.inj e))⟩
def MF (f : Int × Int → Option Value) (P : Int × Int → Prop) : Prop := ∀ p, (P p → f p = some (.bool true)) ∧ (¬ P p → f p = none)
theorem MF.put {f : Int × Int → Option Value} {P P' : Int × Int → Prop} (h : MF f P) (q : Int × Int) (e : ∀ p, P' p ↔ P p ∨ p = q) : MF (fun p => if p = q then some (.bool true) else f p) P' := fun p => by
 by_cases hq : p = q
 ·refine ⟨fun _ => if_pos hq, fun hn => absurd ((e p).2 (.inr hq)) hn⟩
 ·refine ⟨fun hp => ?_, fun hn => ?_⟩
  ·simp only [if_neg hq]
   exact (h p).1 (((e p).1 hp).resolve_right hq)
  ·simp only [if_neg hq]
   exact (h p).2 (fun hp => hn ((e p).2 (.inl hp)))
theorem MF.congr {f : Int × Int → Option Value} {P P' : Int × Int → Prop} (h : MF f P) (e : ∀ p, P' p ↔ P p) : MF f P' := fun p => ⟨fun hp => (h p).1 ((e p).1 hp), fun hn => (h p).2 (fun hp => hn ((e p).2 hp))⟩
def ND1 (n k : Nat) (p : Int × Int) : Prop := ∃ i, i < k ∧ p = (((i / n : Nat) : Int), ((i % n : Nat) : Int)) ∧ 0 ≤ (fixL n).getD i 0
theorem ND1_yes {n k : Nat} (h : 0 ≤ (fixL n).getD k 0) (p : Int × Int) : ND1 n (k + 1) p ↔ ND1 n k p ∨ p = (((k / n : Nat) : Int), ((k % n : Nat) : Int)) := by
 constructor
 ·rintro ⟨i, hi, hp, hx⟩
  by_cases e : i = k
  ·subst e; exact .inr hp
  ·exact .inl ⟨i, by omega, hp, hx⟩
 ·rintro (⟨i, hi, hp, hx⟩ | hp)
  ·exact ⟨i, by omega, hp, hx⟩
  ·exact ⟨k, by omega, hp, h⟩
theorem ND1_no {n k : Nat} (h : ¬ 0 ≤ (fixL n).getD k 0) (p : Int × Int) : ND1 n (k + 1) p ↔ ND1 n k p := by
 constructor
 ·rintro ⟨i, hi, hp, hx⟩
  by_cases e : i = k
  ·subst e; exact absurd hx h
  ·exact ⟨i, by omega, hp, hx⟩
 ·rintro ⟨i, hi, hp, hx⟩
  exact ⟨i, by omega, hp, hx⟩
def ND2 (n k : Nat) (p : Int × Int) : Prop := ND1 n (n * n) p ∨ p ∈ (aPl ++ bPl n).take k
theorem ND2_s (n : Nat) {k : Nat} (hk : k < 30) (p : Int × Int) : ND2 n (k + 1) p ↔ ND2 n k p ∨ p = (aPl ++ bPl n).getD k (0, 0) := by
 have hl : k < (aPl ++ bPl n).length := hk
 unfold ND2
 rw [List.take_succ_eq_append_getElem hl, List.mem_append, List.getD_eq_getElem?_getD, List.getElem?_eq_getElem hl]
 simp only [List.mem_cons, List.not_mem_nil, or_false, Option.getD_some]
 exact or_assoc.symm
theorem ND2_all (n : Nat) (p : Int × Int) : NDp n p ↔ ND2 n 30 p := by
 unfold NDp ND2 ND1
 rw [List.take_of_length_le (show (aPl ++ bPl n).length ≤ 30 from Nat.le_refl 30), List.mem_append]
set_option maxHeartbeats 1600000 in
set_option maxRecDepth 100000 in
theorem noData_c (n : Nat) (w : World) (hn : 17 ≤ n ∧ n ≤ 41) : Calls Tryz.prog 204 #[.int .i64 n] w fun e w' => (∃ b N f, e = .returned (.map (some b)) ∧ MapA 121 ePl w' b N f ∧ MF f (NDp n)) ∧ Ext w w' := by
 have hm0 := MapA.made (k := 121) (E := ePl) w
 have hx0 : Ext w (w.alloc (.map #[] 0)) := (Ext.refl w).alloc _
 have hmm := @run_makeMap Tryz.prog
 have hfx := Lib.hid (fun W => iFixed_c n W hn)
 have hfo := Lib.hid (fun W => iFormats_c n W (by omega))
 have hfl := Lib.hid (fixL_len n)
 have hNN : n * n ≤ 1681 := Nat.mul_le_mul hn.2 hn.2
 have hfld : ∀ p k w, (Instr.field 28 (vGrid n n p (fixL n).length k) 2).run Tryz.prog w = .ok (.slice p (fixL n).length k) w := fun p k w => by kernel_rfl
 go_enter Tryz.func204, Tryz.ntmps204
 go_upto_region 3 with (first
  | (go_at_call 219; (with_reducible refine (hfx.out _).mono ?_); rintro e w1 ⟨⟨p1, k1, rfl, ow1, hk1⟩, hx1⟩))
 clear hmm hfld
 have hbl : w.heap.size < (w.alloc (.map #[] 0)).heap.size := by simp
 have hm1 := hm0.ext hx1
 have hx01 := hx0.trans hx1
 have hne : ∀ b o, p1 = some ⟨b, o, none⟩ → b ≠ w.heap.size := fun b o e => by
  have h0 : 0 < (fixL n).length := by rw [hfl.out]; exact Nat.mul_pos (by omega) (by omega)
  have := ow1.lt0 (fun e2 => by rw [e2] at h0; exact absurd h0 (by simp)) e
  omega
 replace hne := Lib.hid hne
 have hi1 := Lib.hid ow1.ints
 have hgx := hx01.below.size
 have hgl : w.heap.size ≤ w.heap.size := Nat.le_refl _
 obtain ⟨g, hg⟩ : ∃ g, w.heap.size = g := ⟨_, rfl⟩
 rw [hg] at hm1 hne hbl
 have hgw : w.heap.size ≤ g := by omega
 rw [hg]
 replace hg := Lib.hid hg
 clear hm0 hx0 hx1 ow1 hgl hfx
 go_loopw [15] (fun i wr => ∃ (k : Nat) (f : Int × Int → Option Value), k ≤ n * n ∧ i = .int .i64 k ∧ MapA 121 ePl wr g k f ∧ MF f (ND1 n k) ∧ But g w1 wr) (fun i _ => n * n - (intOf i).toNat)
 case atStart => exact ⟨0, _, Nat.zero_le _, rfl, hm1, fun p => ⟨fun ⟨i, hi, _⟩ => absurd hi (Nat.not_lt_zero i), fun _ => rfl⟩, But.refl _ _⟩
 case round =>
  clear hm1
  obtain ⟨k, f, hk, rfl, hm, hf, hB⟩ := hrel
  by_cases hlt : k < n * n
  ·obtain ⟨bp, op, rfl, hbp, yc⟩ := (IntsAt.butF hi1.out hB hne.out) k (by rw [hfl.out]; exact hlt)
   have hki : (k : Int) < (fixL n).length := by rw [hfl.out]; omega
   have hyes := fun h => ND1_yes (n := n) (k := k) h
   have hno := fun h => ND1_no (n := n) (k := k) h
   have hdn : k / n < n := (Nat.div_lt_iff_lt_mul (by omega)).2 hlt
   have hmn : k % n < n := Nat.mod_lt _ (by omega)
   generalize (fixL n).getD k 0 = x at *
   replace hyes := Lib.hid hyes; replace hno := Lib.hid hno
   by_cases hx : 0 ≤ x
   ·have q1 : (k : Int) / (n : Int) = ((k / n : Nat) : Int) := (Int.natCast_ediv k n).symm
    have q2 : (k : Int) % (n : Int) = ((k % n : Nat) : Int) := (Int.natCast_emod k n).symm
    have q3 : (k : Int).tmod (n : Int) = ((k % n : Nat) : Int) := by rw [Int.tmod_eq_emod_of_nonneg (by omega)]; exact q2
    generalize k / n = A at *
    generalize k % n = D at *
    obtain ⟨kl, hkl⟩ := plKey (x := ((A : Int), (D : Int))) (by simp only; omega) (by simp only; omega)
    replace hkl := Lib.hid hkl
    have e1 : IntKind.i64.wrap ((k : Int) / (n : Int)) = (A : Int) := by rw [q1]; exact IntWalk.i64_in _ (by omega)
    have e2 : IntKind.i64.wrap ((k : Int).tmod (n : Int)) = (D : Int) := by rw [q3]; exact IntWalk.i64_in _ (by omega)
    have e3 : IntKind.i64.wrap ((k : Int) % (n : Int)) = (D : Int) := by rw [q2]; exact IntWalk.i64_in _ (by omega)
    have hn0 : ¬ n = 0 := by omega
    clear q1 q2
    go_wp2_with fail
    refine wp_region_canon (fun w' => True) [(0, true), (1, true), (2, true), (3, true), (4, true), (5, true), (6, true), (7, true), (8, false)] (by kernel_rfl) (by kernel_rfl) (by decide) (by kernel_rfl) ?_ ?_
    ·exact trivial
    refine canon_intro fun ops eo => ?_
    replace eo := canon_eo eo
    all_goals (apply canon_st (eo.out 0 rfl) rfl; (intro w2 hS; first | (go_simp; first | done | rfl) | rfl | (skip; go_simp; first | done | rfl)); simp only [ptN])
    all_goals (apply canon_st (eo.out 1 rfl) rfl; (intro w2 hS; first | (go_simp; first | done | rfl) | rfl | (skip; go_simp; first | done | rfl)); simp only [ptN])
    all_goals (apply canon_st (eo.out 2 rfl) rfl; (intro w2 hS; first | (go_simp; first | done | rfl) | rfl | (skip; go_simp; first | done | rfl)); simp only [ptN])
    all_goals (apply canon_st (eo.out 3 rfl) rfl; (intro w2 hS; first | (go_simp; first | done | rfl) | rfl | (skip; go_simp; first | done | rfl)); simp only [ptN])
    all_goals (apply canon_st (eo.out 4 rfl) rfl; (intro w2 hS; first | (go_simp; first | done | rfl) | rfl | (skip; go_simp; first | done | rfl)); simp only [ptN])
    all_goals (apply canon_st (eo.out 5 rfl) rfl; (intro w2 hS; first | (go_simp; first | done | rfl) | rfl | (skip; go_simp; first | done | rfl)); simp only [ptN])
    all_goals (apply canon_st (eo.out 6 rfl) rfl; (intro w2 hS; first | (go_simp; first | done | rfl) | rfl | (skip; go_simp; first | done | rfl)); simp only [ptN])
    all_goals (apply canon_st (eo.out 7 rfl) rfl; (intro w2 hS; first | (go_simp; first | done | rfl) | rfl | (skip; go_simp; first | done | rfl)); simp only [ptN])
    all_goals first | (refine canon_ef (eo.out 8 rfl) rfl (fun K hK => ?_); (refine put_op (y := ((A : Int), (D : Int))) (u := .bool true) ePl_inj (hm.ext (Ext.refl wr).drew) plKeyed Tryz.underlying172 (by unfold maxLen; omega) hkl.out ?_ rfl rfl rfl; intro w4 hm4 hg4); all_goals (refine hK _ _ ⟨trivial, ?_⟩; clear hK K; go_simp))
    all_goals (clear eo; refine canon_done (NoPanic.normal ?_))
    have hB2 := hB.trans ((But.refl g wr).drew.grown hg4)
    clear e1 e2 e3 q3
    go_wp2_with fail
    go_roundw
    case rel => exact ⟨k + 1, _, hlt, by go_num, hm4, hf.put _ (hyes.out hx), hB2⟩
    case measure => simp [intOf]; omega
   ·go_wp2
    go_roundw
    case rel => exact ⟨k + 1, f, hlt, by go_num, hm.mono (by omega), hf.congr (hno.out hx), hB⟩
    case measure => simp [intOf]; omega
  ·have hkn : k = n * n := by omega
   rw [hkn] at hf
   have hki : ¬ (k : Int) < (fixL n).length := by rw [hfl.out]; omega
   have hf0 : MF f (ND2 n 0) := hf.congr fun p => by unfold ND2; simp
   have hgl : g < wr.heap.size := hm.lt
   have hxr : Ext w wr := hx01.but hB hgw
   have hkN : k ≤ 1681 := by omega
   replace hkn := Lib.hid hkn
   clear hf hB hi1 hbl hk hx01 hlt
   go_upto_region 10 with (first
    | (go_at_call 49; (with_reducible refine (hfo.out _).mono ?_); rintro e w5 ⟨⟨va, vb, rfl, hra, hrb, hab⟩, hx5⟩; obtain ⟨pb, cb, hvb, haB, hfb⟩ := hrb.nfree plF_len; rw [show (bPl (n : Int)).length = 15 from rfl] at hvb; obtain ⟨bb, ob, hpb, -⟩ := haB 0 (by show 0 < 15; omega); subst hpb; subst hvb)
    | (at_builtin; refine appendSL Tryz.underlying84 infoPl rfl (by omega) (by omega) plF_len plF_one 15 rfl hra haB (by show 15 + 15 < _; omega) hx5.below.size ?_ rfl rfl; intro v6 w6 hr6 hg6; obtain ⟨p6, c6, hv6, hA6, hf6⟩ := hr6.nfree plF_len; rw [show (aPl ++ bPl (n : Int)).length = 30 from rfl] at hv6; subst hv6))
   have hm6 : MapA 121 ePl w6 g k f := (hm.ext hx5).block (hg6.by_.block g (Nat.lt_of_lt_of_le hgl hx5.below.size) (fun e => by have := (hra.lt g e.symm).1; omega))
   have hx6 : Ext w w6 := hg6.toExt (hxr.trans hx5) (fun j hj => by have := (hra.lt j hj).1; have := hxr.below.size; omega)
   have hz6 := hg6.by_.size
   have hne6 : ∀ b o, p6 = some ⟨b, o, none⟩ → b ≠ g := fun b o e => by have := (hf6 b o e).1; omega
   replace hne6 := Lib.hid hne6
   have hin6 : ∀ q ∈ aPl ++ bPl n, (0 ≤ q.1 ∧ q.1 < n) ∧ (0 ≤ q.2 ∧ q.2 < n) := fun q hq => by
    rcases List.mem_append.1 hq with h | h
    ·exact aPl_in hn.1 q h
    ·exact bPl_bd hn.1 q h
   replace hin6 := Lib.hid hin6
   replace hA6 := Lib.hid hA6
   clear hr6 hg6 hab hra hrb haB hfb hx5 hm hf6 hfo hne
   go_loopw [40] (fun i wr => ∃ (j : Nat) (f : Int × Int → Option Value), j ≤ 30 ∧ i = .int .i64 j ∧ MapA 121 ePl wr g (k + j) f ∧ MF f (ND2 n j) ∧ But g w6 wr) (fun i _ => 30 - (intOf i).toNat)
   case atStart => exact ⟨0, f, Nat.zero_le _, rfl, hm6, hf0, But.refl _ _⟩
   case round =>
    clear hm6 hf0 hgl hxr hz6
    obtain ⟨j, f, hj, rfl, hm, hf, hB⟩ := hrel
    by_cases hlt : j < 30
    ·obtain ⟨b6, o6, rfl, hb6, y0, y1⟩ := (SAt.butF hA6.out hB hne6.out).pl2 (k := j) hlt
     have hs2 := Lib.hid (ND2_s n hlt)
     have hin := hin6.out ((aPl ++ bPl n).getD j (0, 0)) (getD_mem hlt)
     generalize (aPl ++ bPl n).getD j (0, 0) = q at *
     obtain ⟨qr, qc⟩ := q
     simp only at y0 y1 hin
     obtain ⟨kl, hkl⟩ := plKey (x := (qr, qc)) (by simp only; omega) (by simp only; omega)
     replace hkl := Lib.hid hkl
     have hB2 := hB.trans (But.of ((Ext.refl wr).alloc (.cells #[.int .i64 qr, .int .i64 qc] 121)))
     go_wp2_with (refine wp_put (y := (qr, qc)) (u := .bool true) ePl_inj (hm.ext ((Ext.refl wr).alloc (.cells #[.int .i64 qr, .int .i64 qc] 121))) plKeyed Tryz.underlying172 (by unfold maxLen; omega) hkl.out ?_ rfl rfl rfl; intro w8 hm8 hg8)
     go_roundw
     case rel => exact ⟨j + 1, _, hlt, by go_num, hm8, hf.put _ hs2.out, hB2.grown hg8⟩
     case measure => simp [intOf]; omega
    ·obtain rfl : j = 30 := by omega
     go_wp2
     go_ret
     exact ⟨⟨g, _, f, rfl, hm, hf.congr (ND2_all n)⟩, hx6.but hB hgw⟩
open Go.RowKit

theorem plA_k (n : Nat) (R : Int) (U : Bool) (k : Nat) : plA n R U k = ((if U = true then (n : Int) - 1 - ((k / 2 : Nat) : Int) else ((k / 2 : Nat) : Int)), R - ((k % 2 : Nat) : Int)) := rfl
set_option maxHeartbeats 1600000 in
set_option maxRecDepth 100000 in
theorem iPlaces_c (n : Nat) (w : World) (hn : 17 ≤ n ∧ n ≤ 41) (h4 : n % 4 = 1) : Calls Tryz.prog 156 #[.int .i64 n] w fun e w' => PlcR n w.heap.size e w' ∧ Ext w w' := by
 have hnd := Lib.hid (fun W => noData_c n W hn)
 have hNN : n * n ≤ 1681 := Nat.mul_le_mul hn.2 hn.2
 go_enter Tryz.func156, Tryz.ntmps156
 go_upto_region 5 with (first
  | (go_at_call 204; (with_reducible refine (hnd.out _).mono ?_); rintro e w3 ⟨⟨gm, N, f, rfl, hm, hf⟩, hx3⟩))
 have hr4 := RowS.made (f := plF) (k := 2) 121 (B := w3.heap.size) (w := w3) (Nat.le_refl _)
 have hx4 : Ext w3 (w3.alloc (.cells #[] 121)) := (Ext.refl w3).alloc _
 generalize w3.alloc (.cells #[] 121) = w4 at *
 generalize Value.slice (some ⟨w3.heap.size, 0, none⟩) 0 0 = v0 at *
 have hxw := hx3.below.size
 replace hm := Lib.hid hm; replace hf := Lib.hid hf
 have hzv : ∀ w, (zeroValue 4).run Tryz.prog w = .ok (.bool false) w := fun w => by kernel_rfl
 replace hzv := Lib.hid hzv
 clear hnd
 go_loopw [4, 5, 6] (fun v u i wr => ∃ j : Nat, j ≤ cnt n ∧ u = .bool (upB j) ∧ i = .int .i64 (rgt n j) ∧ RowP w3.heap.size wr v (dpTo n j) ∧ Ext w3 wr) (fun _ _ i _ => (intOf i + 1).toNat)
 case atStart => exact ⟨0, Nat.zero_le _, rfl, rfl, hr4, hx4⟩
 case round =>
  clear hr4 hx4
  obtain ⟨j, hj, rfl, rfl, hrow, hext⟩ := hrel
  by_cases hlt : j < cnt n
  ·obtain ⟨hR0, hR⟩ := rgt_ok hn h4 hlt
   have hlen := dpTo_len n j
   have hlm := cnt_mul hn.2 (show j + 1 ≤ cnt n from hlt)
   rw [Nat.add_mul, Nat.one_mul] at hlm
   have hst := Lib.hid (dpTo_s n j)
   have hrs := Lib.hid (rgt_s n j)
   have hus := Lib.hid (upB_s j)
   have hrc := rg_cases n j
   generalize dpTo n j = A at *
   generalize rgt n j = R0 at *
   generalize rg n j = R at *
   generalize upB j = U at *
   obtain ⟨hR01, hR02⟩ := hR0
   generalize j * (2 * n) = Z at *
   go_upto_if 19 with (fail)
   go_step3
   go_upto_if 19 with (fail)
   go_cut [6] (fun s6 wx => s6 = .int .i64 R ∧ wx = wr)
   case first =>
    rcases hrc with ⟨h6, h5⟩ | ⟨hne, h5⟩
    ·have he : (R0 == 6) = true := by simpa using h6
     obtain rfl : R0 = R + 1 := by omega
     replace h6 := Lib.hid h6; replace h5 := Lib.hid h5
     simp only [he]; clear he
     have e1 : IntKind.i64.wrap (R + 1 - 1) = R := by rw [Int.add_sub_cancel]; exact IntWalk.i64_in _ (by omega)
     go_wp2_with fail
     go_meet
     exact ⟨by simp, rfl⟩
    ·have he : (R0 == 6) = false := by simpa using hne
     replace hne := Lib.hid hne; replace h5 := Lib.hid h5
     simp only [he]; clear he
     go_wp2_with fail
     go_meet
     exact ⟨by rw [h5.out], rfl⟩
   case rest =>
    obtain ⟨rfl, rfl⟩ := hcut
    go_wp2_with fail
    go_step3
    go_wp2_with fail
    go_loopw [4, 7] (fun v i wr => ∃ k : Nat, k ≤ 2 * n ∧ i = .int .i64 k ∧ RowP w3.heap.size wr v (A ++ colTo n R U k) ∧ Ext w3 wr) (fun _ i _ => 2 * n - (intOf i).toNat)
    case atStart => exact ⟨0, Nat.zero_le _, rfl, by simpa [colTo] using hrow, hext⟩
    case round =>
     clear hrow hext
     obtain ⟨k, hk, rfl, hrow, hext⟩ := hrel
     by_cases hlk : k < 2 * n
     ·have hlki : (k : Int) < 2 * n := by omega
      have hpb := plA_bd (n := n) (right := R) (up := U) (k := k) hR hlk
      have hco := colTo_s n R U k
      have hla := colTo_len n R U k
      have hpk := plA_k n R U k
      have hnd := ND_iff hn h4 hpb.1 hpb.2
      have hq1 : (k : Int) / 2 = ((k / 2 : Nat) : Int) := by omega
      have hq2 : (k : Int) % 2 = ((k % 2 : Nat) : Int) := by omega
      obtain ⟨row, col, hrc2⟩ : ∃ row col : Int, plA n R U k = (row, col) := ⟨_, _, rfl⟩
      rw [hrc2] at hpb hco hpk hnd
      simp only at hpb
      simp only [Prod.mk.injEq] at hpk
      obtain ⟨hrw, hcw⟩ := hpk
      obtain ⟨kl, hkl⟩ := plKey (x := (row, col)) (by simp only; omega) (by simp only; omega)
      replace hkl := Lib.hid hkl
      have hkn : k / 2 < n := by omega
      have hk2 : k % 2 < 2 := by omega
      have hRc : R - ((k % 2 : Nat) : Int) = col := hcw.symm
      generalize plIx n (row, col) = q at *
      generalize k / 2 = kd at *
      generalize k % 2 = km at *
      replace hrc2 := Lib.hid hrc2
      generalize (fixF n).getD q 0 = x at *
      replace hrw := Lib.hid hrw; replace hcw := Lib.hid hcw; replace hnd := Lib.hid hnd
      have hmx := hm.out
      have hnx : ∀ v : Bool, f (row, col) = (if v = true then some (.bool true) else none) → (f (row, col)).getD (.bool false) = .bool v := fun v h => by rw [h]; cases v <;> rfl
      have hcv : ∃ v : Bool, f (row, col) = (if v = true then some (.bool true) else none) ∧ (v = true ↔ ¬ x < 0) := by
       by_cases h : NDp n (row, col)
       ·exact ⟨true, (hf.out (row, col)).1 h, by have := hnd.out.1 h; simp; omega⟩
       ·refine ⟨false, (hf.out (row, col)).2 h, ?_⟩
        have : ¬ 0 ≤ x := fun h2 => h (hnd.out.2 h2)
        simp; omega
      obtain ⟨tk, htk1, htk2⟩ := hcv
      have htk := Lib.hid (hnx tk htk1)
      clear htk1 hnx hmx
      have hgb := Blk.new wr #[.int .i64 kd, .int .i64 col] 121
      have hxg : Ext wr (wr.alloc (.cells #[.int .i64 kd, .int .i64 col] 121)) := (Ext.refl wr).alloc _
      have e1 : IntKind.i64.wrap (R - (km : Int)) = col := by rw [hRc]; exact IntWalk.i64_in _ (by omega)
      go_upto_if 35 with (fail)
      go_cut [] (fun wx => Blk wx wr.heap.size #[.int .i64 row, .int .i64 col] 121 ∧ Ext wr wx)
      case first =>
       have h1 := hrw.out
       cases U
       ·rw [if_neg (by simp)] at h1
        replace h1 := Lib.hid h1
        go_wp2_with fail
        go_meet
        exact ⟨by rw [h1.out]; exact hgb, hxg⟩
       ·rw [if_pos rfl] at h1
        have c0 := hgb.cell (i := 0) (v := .int .i64 kd) rfl; have cf := hgb.free; have cl := hgb.lt
        have e2 : IntKind.i64.wrap ((n : Int) - 1 - (kd : Int)) = row := by rw [← h1]; exact IntWalk.i64_in _ (by omega)
        have hgs := hgb.set 0 (.int .i64 row)
        have hxs := hxg.setCell (p := ⟨wr.heap.size, 0, none⟩) (Nat.le_refl _) (.int .i64 row)
        replace hgs := Lib.hid hgs; replace hxs := Lib.hid hxs
        clear hgb hxg
        have h2 := Lib.hid h1
        replace h1 : (n : Int) - 1 - (kd : Int) = row := h1.symm
        go_wp2_with fail
        go_meet
        exact ⟨Blk.new _ _ _, (Ext.refl wr).alloc _⟩
      case rest =>
       obtain ⟨hgb2, hxg2⟩ := hcut
       clear hgb hxg e1 hq1 hq2 hRc
       have c0 := hgb2.cell (i := 0) (v := .int .i64 row) rfl; have c1 := hgb2.cell (i := 1) (v := .int .i64 col) rfl; have cl := hgb2.lt
       have hrow2 := hrow.ext hxg2
       have hext2 := hext.trans hxg2
       have hz := hext2.below.size
       have hlA : (A ++ colTo n R U k).length ≤ 2000 := by rw [List.length_append]; omega
       cases tk with
       | true =>
        have hx : ¬ x < 0 := htk2.1 rfl
        rw [if_neg hx, List.append_nil] at hco
        replace hco := Lib.hid hco
        go_wp2_with (refine wp_look (y := (row, col)) (hm.out.ext hext2) plKeyed Tryz.underlying172 (z := .bool false) (hzv.out _) hkl.out ?_ rfl rfl; rw [htk.out])
        go_roundw
        case rel => exact ⟨k + 1, hlk, by go_num, by rw [hco.out]; exact hrow2, hext2⟩
        case measure => simp [intOf]; omega
       | false =>
        have hx : x < 0 := by
         by_cases h : x < 0
         ·exact h
         ·exact absurd (htk2.2 h) (by simp)
        rw [if_pos hx] at hco
        have hco3 : A ++ colTo n R U (k + 1) = (A ++ colTo n R U k) ++ [(row, col)] := by rw [hco, List.append_assoc]
        replace hco3 := Lib.hid hco3
        clear hco
        generalize A ++ colTo n R U k = L at *
        go_wp2_with (first
         | (refine wp_look (y := (row, col)) (hm.out.ext hext2) plKeyed Tryz.underlying172 (z := .bool false) (hzv.out _) hkl.out ?_ rfl rfl; rw [htk.out])
         | (at_builtin; refine appendSG (ns := [(row, col)]) Tryz.underlying84 infoPl rfl (by omega) (by omega) plF_len plF_one 1 rfl hrow2 (by omega) hz rfl ?_ rfl rfl; intro v1 w1 hr1 hg1))
        go_roundw
        case rel => exact ⟨k + 1, hlk, by go_num, by rw [hco3.out]; exact hr1, hg1.toExt hext2 (fun k hk => (hrow2.lt k hk).1)⟩
        case measure => simp [intOf]; omega
     ·obtain rfl : k = 2 * n := by omega
      have hcl := colTo_len n R U (2 * n)
      rw [← hst.out] at hrow
      have hus2 := hus.out
      go_wp2
      rw [Exit.noGoto_normal]
      go_wp2
      go_roundw
      case rel => exact ⟨j + 1, hlt, by rw [hus2], by rw [hrs.out], hrow, hext⟩
      case measure => simp [intOf]; omega
  ·obtain rfl : j = cnt n := by omega
   rw [rgt_end hn h4]
   go_wp2
   go_ret
   exact ⟨⟨_, rfl, hrow.mono (by omega)⟩, hx3.trans hext⟩
end Go.Proofs.YtdnkljpnhmcnpaaGreat
