/- Plain facts: the data places of a matrix size, and what a mask does to a grid. -/
import Derived.Test.YtdnkljpnhmcnpaaGreatLBoundedDamageK21
set_option linter.unusedVariables false
set_option linter.unusedSimpArgs false
namespace Go.Proofs.YtdnkljpnhmcnpaaGreat
open Go.RowKit

def fixF (n : Nat) : List Int := pFmt n (fmtW 0) (fixL n) 15
def rgt (n : Nat) : Nat → Int
 | 0 => (n : Int) - 1
 | j + 1 => (if rgt n j = 6 then 5 else rgt n j) - 2
def rg (n j : Nat) : Int := if rgt n j = 6 then 5 else rgt n j
theorem rgt_s (n j : Nat) : rgt n (j + 1) = rg n j - 2 := rfl
def cnt (n : Nat) : Nat := (n - 1) / 2
theorem rgt_ok7 : ∀ m : Nat, m < 7 → ∀ j : Nat, j < cnt (17 + 4 * m) → (0 < rgt (17 + 4 * m) j ∧ rgt (17 + 4 * m) j ≤ ((16 + 4 * m : Nat) : Int)) ∧ 1 ≤ rg (17 + 4 * m) j := by decide +kernel
theorem rgt_end7 : ∀ m : Nat, m < 7 → rgt (17 + 4 * m) (cnt (17 + 4 * m)) = -1 := by decide +kernel
theorem rgt_ok {n : Nat} (h : 17 ≤ n ∧ n ≤ 41) (h4 : n % 4 = 1) {j : Nat} (hj : j < cnt n) : (0 < rgt n j ∧ rgt n j ≤ (n : Int) - 1) ∧ 1 ≤ rg n j ∧ rg n j ≤ (n : Int) - 1 := by
 obtain ⟨m, rfl⟩ : ∃ m, n = 17 + 4 * m := ⟨(n - 17) / 4, by omega⟩
 have h1 := rgt_ok7 m (by omega) j hj
 refine ⟨by omega, h1.2, ?_⟩
 unfold rg
 split <;> omega
theorem rgt_end {n : Nat} (h : 17 ≤ n ∧ n ≤ 41) (h4 : n % 4 = 1) : rgt n (cnt n) = -1 := by
 obtain ⟨m, rfl⟩ : ∃ m, n = 17 + 4 * m := ⟨(n - 17) / 4, by omega⟩
 exact rgt_end7 m (by omega)
def plA (n : Nat) (right : Int) (up : Bool) (k : Nat) : Int × Int := (if up = true then (n : Int) - 1 - ((k / 2 : Nat) : Int) else ((k / 2 : Nat) : Int), right - ((k % 2 : Nat) : Int))
theorem plA_bd {n : Nat} {right : Int} {up : Bool} {k : Nat} (h1 : 1 ≤ right ∧ right ≤ (n : Int) - 1) (hk : k < 2 * n) : (0 ≤ (plA n right up k).1 ∧ (plA n right up k).1 < n) ∧ (0 ≤ (plA n right up k).2 ∧ (plA n right up k).2 < n) := by
 unfold plA
 cases up
 ·simp only [Bool.false_eq_true, if_false]; omega
 ·simp only [if_true]; omega
def colTo (n : Nat) (right : Int) (up : Bool) : Nat → List (Int × Int)
 | 0 => []
 | k + 1 => colTo n right up k ++ if (fixF n).getD (plIx n (plA n right up k)) 0 < 0 then [plA n right up k] else []
theorem colTo_s (n : Nat) (right : Int) (up : Bool) (k : Nat) : colTo n right up (k + 1) = colTo n right up k ++ if (fixF n).getD (plIx n (plA n right up k)) 0 < 0 then [plA n right up k] else [] := rfl
theorem colTo_len (n : Nat) (right : Int) (up : Bool) : ∀ k, (colTo n right up k).length ≤ k
 | 0 => Nat.le_refl 0
 | k + 1 => by
  have ih := colTo_len n right up k
  rw [colTo_s, List.length_append]
  split <;> simp <;> omega
theorem colTo_bd {n : Nat} {right : Int} {up : Bool} (h1 : 1 ≤ right ∧ right ≤ (n : Int) - 1) : ∀ k, k ≤ 2 * n → ∀ p ∈ colTo n right up k, (0 ≤ p.1 ∧ p.1 < n) ∧ (0 ≤ p.2 ∧ p.2 < n)
 | 0, _, p, hp => absurd hp (by simp [colTo])
 | k + 1, hk, p, hp => by
  rw [colTo_s, List.mem_append] at hp
  rcases hp with hp | hp
  ·exact colTo_bd h1 k (by omega) p hp
  ·split at hp
   ·simp only [List.mem_cons, List.not_mem_nil, or_false] at hp
    subst hp
    exact plA_bd h1 (by omega)
   ·exact absurd hp (by simp)
def upB (j : Nat) : Bool := j % 2 == 0
theorem upB_s (j : Nat) : upB (j + 1) = !upB j := by
 unfold upB
 rcases Nat.mod_two_eq_zero_or_one j with h | h
 ·rw [h, show (j + 1) % 2 = 1 by omega]; rfl
 ·rw [h, show (j + 1) % 2 = 0 by omega]; rfl
def dpTo (n : Nat) : Nat → List (Int × Int)
 | 0 => []
 | j + 1 => dpTo n j ++ colTo n (rg n j) (upB j) (2 * n)
theorem dpTo_s (n j : Nat) : dpTo n (j + 1) = dpTo n j ++ colTo n (rg n j) (upB j) (2 * n) := rfl
theorem dpTo_len (n : Nat) : ∀ j, (dpTo n j).length ≤ j * (2 * n)
 | 0 => Nat.zero_le _
 | j + 1 => by
  have ih := dpTo_len n j
  have := colTo_len n (rg n j) (upB j) (2 * n)
  rw [dpTo_s, List.length_append, Nat.add_mul, Nat.one_mul]; omega
theorem dpTo_bd {n : Nat} (h : 17 ≤ n ∧ n ≤ 41) (h4 : n % 4 = 1) : ∀ j, j ≤ cnt n → ∀ p ∈ dpTo n j, (0 ≤ p.1 ∧ p.1 < n) ∧ (0 ≤ p.2 ∧ p.2 < n)
 | 0, _, p, hp => absurd hp (by simp [dpTo])
 | j + 1, hj, p, hp => by
  rw [dpTo_s, List.mem_append] at hp
  rcases hp with hp | hp
  ·exact dpTo_bd h h4 j (by omega) p hp
  ·exact colTo_bd (rgt_ok h h4 (by omega)).2 _ (Nat.le_refl _) p hp
def dpL (n : Nat) : List (Int × Int) := dpTo n (cnt n)
theorem dpL_bd {n : Nat} (h : 17 ≤ n ∧ n ≤ 41) (h4 : n % 4 = 1) : ∀ p ∈ dpL n, (0 ≤ p.1 ∧ p.1 < n) ∧ (0 ≤ p.2 ∧ p.2 < n) := dpTo_bd h h4 _ (Nat.le_refl _)
theorem cnt_mul {n j : Nat} (h : n ≤ 41) (hj : j ≤ cnt n) : j * (2 * n) ≤ 1681 := by
 have h1 : j ≤ 20 := by unfold cnt at hj; omega
 have := Nat.mul_le_mul h1 (show 2 * n ≤ 82 by omega)
 omega
theorem dpL_len {n : Nat} (h : n ≤ 41) : (dpL n).length ≤ 1681 := Nat.le_trans (dpTo_len n _) (cnt_mul h (Nat.le_refl _))
def NDp (n : Nat) (p : Int × Int) : Prop := (∃ i, i < n * n ∧ p = (((i / n : Nat) : Int), ((i % n : Nat) : Int)) ∧ 0 ≤ (fixL n).getD i 0) ∨ p ∈ aPl ∨ p ∈ bPl n
theorem pl_nat {n : Nat} {p : Int × Int} (h1 : 0 ≤ p.1 ∧ p.1 < n) (h2 : 0 ≤ p.2 ∧ p.2 < n) : ∃ r c : Nat, p = ((r : Int), (c : Int)) ∧ r < n ∧ c < n ∧ plIx n p = r * n + c := by
 obtain ⟨a, b⟩ := p
 obtain ⟨r, rfl⟩ := Int.eq_ofNat_of_zero_le h1.1
 obtain ⟨c, rfl⟩ := Int.eq_ofNat_of_zero_le h2.1
 refine ⟨r, c, rfl, by simpa using h1.2, by simpa using h2.2, ?_⟩
 show ((r : Int) * (n : Int) + (c : Int)).toNat = _
 rw [← Int.natCast_mul, ← Int.natCast_add, Int.toNat_natCast]
theorem pl_inj {n : Nat} {p q : Int × Int} (h1 : 0 ≤ p.1 ∧ p.1 < n) (h2 : 0 ≤ p.2 ∧ p.2 < n) (h3 : 0 ≤ q.1 ∧ q.1 < n) (h4 : 0 ≤ q.2 ∧ q.2 < n) (e : plIx n p = plIx n q) : p = q := by
 obtain ⟨a, b, rfl, ha, hb, e1⟩ := pl_nat h1 h2
 obtain ⟨c, d, rfl, hc, hd, e2⟩ := pl_nat h3 h4
 rw [e1, e2] at e
 have hn : 0 < n := by omega
 have d1 : (a * n + b) / n = a := by rw [Nat.mul_comm, Nat.mul_add_div hn, Nat.div_eq_of_lt hb]; rfl
 have d2 : (c * n + d) / n = c := by rw [Nat.mul_comm, Nat.mul_add_div hn, Nat.div_eq_of_lt hd]; rfl
 have m1 : (a * n + b) % n = b := by rw [Nat.mul_comm, Nat.mul_add_mod, Nat.mod_eq_of_lt hb]
 have m2 : (c * n + d) % n = d := by rw [Nat.mul_comm, Nat.mul_add_mod, Nat.mod_eq_of_lt hd]
 rw [e] at d1 m1
 rw [d1] at d2
 rw [m1] at m2
 rw [d2, m2]
theorem pFmt_far {n : Nat} {ws xs : List Int} {i : Nat} : ∀ k, k ≤ 15 → (∀ j, j < k → (ixA n).getD j 0 ≠ i) → (∀ j, j < k → (ixB n).getD j 0 ≠ i) → (pFmt n ws xs k).getD i 0 = xs.getD i 0
 | 0, _, _, _ => rfl
 | k + 1, hk, h1, h2 => by
  have ih := pFmt_far (ws := ws) (xs := xs) k (by omega) (fun j hj => h1 j (by omega)) (fun j hj => h2 j (by omega))
  have e1 := h1 k (by omega)
  have e2 := h2 k (by omega)
  rw [ixA_at n k (by omega)] at e1
  rw [ixB_at n k (by omega)] at e2
  show (((pFmt n ws xs k).set _ _).set _ _).getD i 0 = _
  rw [List.getD_eq_getElem?_getD, List.getElem?_set_ne e2, List.getElem?_set_ne e1, ← List.getD_eq_getElem?_getD]
  exact ih
theorem mem_at {ps : List (Int × Int)} {p : Int × Int} (h : p ∈ ps) : ∃ j, j < ps.length ∧ ps.getD j (0, 0) = p := by
 obtain ⟨j, hj, e⟩ := List.getElem_of_mem h
 exact ⟨j, hj, by rw [List.getD_eq_getElem?_getD, List.getElem?_eq_getElem hj]; exact e⟩
theorem ND_iff {n : Nat} (hn : 17 ≤ n ∧ n ≤ 41) (h4 : n % 4 = 1) {p : Int × Int} (h1 : 0 ≤ p.1 ∧ p.1 < n) (h2 : 0 ≤ p.2 ∧ p.2 < n) : NDp n p ↔ 0 ≤ (fixF n).getD (plIx n p) 0 := by
 have hat := pFmt_at (ws := fmtW 0) hn h4 (fixL_len n) 15 (Nat.le_refl _)
 have hw := fun k => fmtW_at (v := 0) (by omega) k
 have hA : ∀ j, j < 15 → 0 ≤ (fixF n).getD ((ixA n).getD j 0) 0 := fun j hj => by unfold fixF; rw [(hat j hj).1]; exact hw j
 have hB : ∀ j, j < 15 → 0 ≤ (fixF n).getD ((ixB n).getD j 0) 0 := fun j hj => by unfold fixF; rw [(hat j hj).2]; exact hw j
 constructor
 ·rintro (⟨i, hi, rfl, hv⟩ | hp | hp)
  ·have hn0 : 0 < n := by omega
   have ei : plIx n (((i / n : Nat) : Int), ((i % n : Nat) : Int)) = i := by
    show ((((i / n : Nat) : Int)) * (n : Int) + ((i % n : Nat) : Int)).toNat = i
    rw [← Int.natCast_mul, ← Int.natCast_add, Int.toNat_natCast, Nat.mul_comm]
    exact Nat.div_add_mod i n
   rw [ei]
   by_cases ha : ∃ j, j < 15 ∧ (ixA n).getD j 0 = i
   ·obtain ⟨j, hj, rfl⟩ := ha; exact hA j hj
   ·by_cases hb : ∃ j, j < 15 ∧ (ixB n).getD j 0 = i
    ·obtain ⟨j, hj, rfl⟩ := hb; exact hB j hj
    ·unfold fixF
     rw [pFmt_far 15 (Nat.le_refl _) (fun j hj e => ha ⟨j, hj, e⟩) (fun j hj e => hb ⟨j, hj, e⟩)]
     exact hv
  ·obtain ⟨j, hj, rfl⟩ := mem_at hp
   rw [← ixA_at n j hj]; exact hA j hj
  ·obtain ⟨j, hj, rfl⟩ := mem_at hp
   rw [← ixB_at n j hj]; exact hB j hj
 ·intro hv
  by_cases ha : ∃ j, j < 15 ∧ (ixA n).getD j 0 = plIx n p
  ·obtain ⟨j, hj, e⟩ := ha
   rw [ixA_at n j hj] at e
   have hm := getD_mem (d := (0, 0)) (show j < aPl.length from hj)
   have := aPl_in hn.1 _ hm
   have e2 := pl_inj this.1 this.2 h1 h2 e
   rw [← e2]; exact .inr (.inl hm)
  ·by_cases hb : ∃ j, j < 15 ∧ (ixB n).getD j 0 = plIx n p
   ·obtain ⟨j, hj, e⟩ := hb
    rw [ixB_at n j hj] at e
    have hm := getD_mem (d := (0, 0)) (show j < (bPl n).length from hj)
    have := bPl_bd hn.1 _ hm
    have e2 := pl_inj this.1 this.2 h1 h2 e
    rw [← e2]; exact .inr (.inr hm)
   ·unfold fixF at hv
    rw [pFmt_far 15 (Nat.le_refl _) (fun j hj e => ha ⟨j, hj, e⟩) (fun j hj e => hb ⟨j, hj, e⟩)] at hv
    obtain ⟨a, b, rfl, ha', hb', e1⟩ := pl_nat h1 h2
    have hn0 : 0 < n := by omega
    refine .inl ⟨a * n + b, ?_, ?_, by rw [← e1]; exact hv⟩
    ·have := Nat.mul_le_mul_right n (show a + 1 ≤ n from ha')
     rw [Nat.add_mul, Nat.one_mul] at this; omega
    ·have d1 : (a * n + b) / n = a := by rw [Nat.mul_comm, Nat.mul_add_div hn0, Nat.div_eq_of_lt hb']; rfl
     have m1 : (a * n + b) % n = b := by rw [Nat.mul_comm, Nat.mul_add_mod, Nat.mod_eq_of_lt hb']
     rw [d1, m1]
open Go.RowKit

def PlcR (n : Nat) (B : Nat) (e : Ending) (w' : World) : Prop := ∃ v, e = .returned v ∧ RowP B w' v (dpL n)
theorem plA_at (n : Nat) (R : Int) (U : Bool) (k : Nat) {d : Nat} (hd : d < 2) : plA n R U (2 * k + d) = ((if U = true then (n : Int) - 1 - (k : Int) else (k : Int)), R - (d : Int)) := by
 unfold plA
 rw [show (2 * k + d) / 2 = k by omega, show (2 * k + d) % 2 = d by omega]
theorem upRow (n : Nat) (U : Bool) {k : Nat} (hk : k < n) : ∃ row : Int, (if U = true then (n : Int) - 1 - (k : Int) else (k : Int)) = row ∧ 0 ≤ row ∧ row < n := by
 refine ⟨_, rfl, ?_⟩
 split <;> omega
theorem rg_cases (n j : Nat) : (rgt n j = 6 ∧ rg n j = 5) ∨ (rgt n j ≠ 6 ∧ rg n j = rgt n j) := by
 unfold rg
 by_cases h : rgt n j = 6
 ·exact .inl ⟨h, if_pos h⟩
 ·exact .inr ⟨h, if_neg h⟩
set_option maxHeartbeats 1600000 in
set_option maxRecDepth 100000 in
theorem sPlaces_c (n : Nat) (w : World) (hn : 17 ≤ n ∧ n ≤ 41) (h4 : n % 4 = 1) : Calls Tryz.prog 91 #[.int .i64 n] w fun e w' => PlcR n w.heap.size e w' ∧ Ext w w' := by
 have hsg := Lib.hid (fun W => sGrid_c n W hn)
 have hsp := (fun W p k (h : IntsAt W p (fixL n)) => sPut_c n 0 k p (fixL n) W (by omega) hn h (fixL_len n))
 rw [show ((0 : Nat) : Int) = 0 from rfl] at hsp
 replace hsp := Lib.hid hsp
 have hfl : (fixF n).length = n * n := by unfold fixF; rw [pFmt_len]; exact fixL_len n
 have hNN : n * n ≤ 1681 := Nat.mul_le_mul hn.2 hn.2
 go_enter Tryz.func91, Tryz.ntmps91
 go_upto_region 5 with (first
  | (go_at_call 90; (with_reducible refine (hsg.out _).mono ?_); rintro e w1 ⟨⟨p1, k1, rfl, ow1, hk1⟩, hx1⟩)
  | (go_at_call 31; (with_reducible refine (hsp.out _ _ _ ow1.ints).mono ?_); rintro e w2 ⟨⟨p2, k2, rfl, ow2, hk2⟩, hx2⟩))
 rw [show pFmt n (fmtW 0) (fixL n) 15 = fixF n from rfl] at *
 have hb3 := Blk.new w2 #[.int .i64 n, .int .i64 n, .slice p2 (fixF n).length k2] 28
 have hx3 := (hx1.trans hx2).alloc (.cells #[.int .i64 n, .int .i64 n, .slice p2 (fixF n).length k2] 28)
 have hi3 := ow2.ints.ext ((Ext.refl w2).alloc (.cells #[.int .i64 n, .int .i64 n, .slice p2 (fixF n).length k2] 28))
 have hsz3 : (w2.alloc (.cells #[.int .i64 n, .int .i64 n, .slice p2 (fixF n).length k2] 28)).heap.size = w2.heap.size + 1 := World.size_alloc _ _
 generalize w2.alloc (.cells #[.int .i64 n, .int .i64 n, .slice p2 (fixF n).length k2] 28) = w3 at *
 generalize w2.heap.size = g3 at *
 have hr4 : RowP w3.heap.size (w3.alloc (.cells #[] 121)) (.slice (some ⟨g3 + 1, 0, none⟩) 0 0) [] := by
  have h := RowS.made (f := plF) (k := 2) 121 (B := w3.heap.size) (w := w3) (Nat.le_refl _)
  rw [hsz3] at h ⊢
  exact h
 have hx4 : Ext w3 (w3.alloc (.cells #[] 121)) := (Ext.refl w3).alloc _
 generalize w3.alloc (.cells #[] 121) = w4 at *
 generalize Value.slice (some ⟨g3 + 1, 0, none⟩) 0 0 = v0 at *
 replace hsz3 := Lib.hid hsz3
 replace hfl := Lib.hid hfl; replace hi3 := Lib.hid hi3; replace hb3 := Lib.hid hb3
 clear ow1 ow2 hx1 hx2 hsg hsp
 have hxw := hx3.below.size
 go_loopw [4, 5, 6] (fun v u i wr => ∃ j : Nat, j ≤ cnt n ∧ u = .bool (upB j) ∧ i = .int .i64 (rgt n j) ∧ RowP w3.heap.size wr v (dpTo n j) ∧ Ext w3 wr) (fun _ _ i _ => (intOf i + 1).toNat)
 case atStart => exact ⟨0, Nat.zero_le _, rfl, rfl, hr4, hx4⟩
 case round =>
  clear hr4 hx4
  obtain ⟨j, hj, rfl, rfl, hrow, hext⟩ := hrel
  by_cases hlt : j < cnt n
  ·obtain ⟨hR0, hR⟩ := rgt_ok hn h4 hlt
   have hlen := dpTo_len n j
   have hlm := cnt_mul hn.2 (show j + 1 ≤ cnt n from hlt)
   rw [Nat.add_mul, Nat.one_mul] at hlm
   have hst := Lib.hid (dpTo_s n j)
   have hrs := Lib.hid (rgt_s n j)
   have hus := Lib.hid (upB_s j)
   have hrc := rg_cases n j
   generalize dpTo n j = A at *
   generalize rgt n j = R0 at *
   generalize rg n j = R at *
   generalize upB j = U at *
   obtain ⟨hR01, hR02⟩ := hR0
   generalize j * (2 * n) = Z at *
   go_upto_if 21 with (fail)
   go_cut [6] (fun s6 wx => s6 = .int .i64 R ∧ wx = wr)
   case first =>
    rcases hrc with ⟨h6, h5⟩ | ⟨hne, h5⟩
    ·have he : (R0 == 6) = true := by simpa using h6
     replace h6 := Lib.hid h6; replace h5 := Lib.hid h5
     simp only [he]; clear he
     go_wp2_with fail
     go_meet
     exact ⟨by rw [h5.out], rfl⟩
    ·have he : (R0 == 6) = false := by simpa using hne
     replace hne := Lib.hid hne; replace h5 := Lib.hid h5
     simp only [he]; clear he
     go_wp2_with fail
     go_meet
     exact ⟨by rw [h5.out], rfl⟩
   case rest =>
    obtain ⟨rfl, rfl⟩ := hcut
    go_wp2_with fail
    go_loopw [4, 7] (fun v i wr => ∃ k : Nat, k ≤ n ∧ i = .int .i64 k ∧ RowP w3.heap.size wr v (A ++ colTo n R U (2 * k)) ∧ Ext w3 wr) (fun _ i _ => n - (intOf i).toNat)
    case atStart => exact ⟨0, Nat.zero_le _, rfl, by simpa [colTo] using hrow, hext⟩
    case round =>
     clear hrow hext
     obtain ⟨k, hk, rfl, hrow, hext⟩ := hrel
     by_cases hlk : k < n
     ·have hlki : (k : Int) < n := by omega
      obtain ⟨row, hrw, hrb1, hrb2⟩ := upRow n U hlk
      have hpa := fun d hd => plA_at n R U k (d := d) hd
      rw [hrw] at hpa
      replace hpa := Lib.hid hpa
      replace hrw := Lib.hid hrw
      have hcl := fun d => colTo_len n R U (2 * k + d)
      replace hcl := Lib.hid hcl
      have hcs := fun d => colTo_s n R U (2 * k + d)
      replace hcs := Lib.hid hcs
      go_upto_if 28 with (fail)
      go_cut [8] (fun s8 wx => s8 = .int .i64 row ∧ wx = wr)
      case first =>
       have h1 := hrw.out
       cases U
       ·rw [if_neg (by simp)] at h1
        replace h1 := Lib.hid h1
        go_wp2_with fail
        go_meet
        exact ⟨by rw [← h1.out], rfl⟩
       ·rw [if_pos rfl] at h1
        replace h1 := Lib.hid h1
        go_wp2_with fail
        go_meet
        exact ⟨by rw [← h1.out], rfl⟩
      case rest =>
       obtain ⟨rfl, rfl⟩ := hcut
       have hro := hcl.out 0
       simp only [Nat.add_zero] at hro
       go_wp2_with fail
       go_loopw [4, 9] (fun v i wr => ∃ (d : Nat) (col : Int), d ≤ 2 ∧ Hid (R - (d : Int) = col) ∧ i = .int .i64 col ∧ RowP w3.heap.size wr v (A ++ colTo n R U (2 * k + d)) ∧ Ext w3 wr) (fun _ i _ => (intOf i - R + 2).toNat)
       case atStart => exact ⟨0, R, by omega, Lib.hid (by simp), rfl, hrow, hext⟩
       case round =>
        clear hrow hext
        obtain ⟨d, col, hd, hcol, rfl, hrow, hext⟩ := hrel
        by_cases hld : d < 2
        ·have hpb := plA_bd (n := n) (right := R) (up := U) (k := 2 * k + d) hR (by omega)
         have hpx := plIx_eq hpb.1 hpb.2
         have hco := hcs.out d
         have hla := hcl.out d
         rw [hpa.out d hld, hcol.out] at hpx hco hpb
         simp only at hpx hpb
         obtain ⟨hpx1, hpx2, hpx3⟩ := hpx
         generalize plIx n (row, col) = q at *
         obtain ⟨M, hM⟩ : ∃ M : Int, row * (n : Int) = M := ⟨_, rfl⟩
         rw [hM] at hpx1 hpx3
         obtain ⟨bg, og, rfl, hbg, yc⟩ := (hi3.out.ext hext) q (by rw [hfl.out]; exact hpx2)
         have hqx : (q : Int) < (fixF n).length := by rw [hfl.out]; omega
         have hb5 := hb3.out.ext hext
         generalize (fixF n).getD q 0 = x at *
         have hz := hext.below.size
         have f2 := hb5.cell (i := 2) (v := .slice (some ⟨bg, og, none⟩) (fixF n).length k2) rfl
         have fl := hb5.lt
         have e1 := IntWalk.i64_in M (by omega)
         have e2 := IntWalk.i64_in (q : Int) (by omega)
         have hlA : (A ++ colTo n R U (2 * k + d)).length ≤ 2000 := by rw [List.length_append]; omega
         have hco2 : colTo n R U (2 * k + d + 1) = colTo n R U (2 * k + d) ++ if x < 0 then [(row, col)] else [] := hco
         clear hco
         have hcl1 : R - 1 ≤ col := by have := hcol.out; omega
         have hcl2 : R ≤ col + 1 := by omega
         by_cases hx : x < 0
         ·rw [if_pos hx] at hco2
          have hco3 : A ++ colTo n R U (2 * k + (d + 1)) = (A ++ colTo n R U (2 * k + d)) ++ [(row, col)] := by rw [← Nat.add_assoc, hco2, List.append_assoc]
          replace hco3 := Lib.hid hco3
          clear hco2
          generalize A ++ colTo n R U (2 * k + d) = L at *
          go_wp2_with (at_builtin; refine appendSG (ns := [(row, col)]) Tryz.underlying84 infoPl rfl (by omega) (by omega) plF_len plF_one 1 rfl hrow (by omega) hz rfl ?_ rfl rfl; intro v1 w1 hr1 hg1)
          go_roundw
          case rel => exact ⟨d + 1, col - 1, hld, Lib.hid (by have := hcol.out; omega), by go_num, by rw [hco3.out]; exact hr1, hg1.toExt hext (fun k hk => (hrow.lt k hk).1)⟩
          case measure => simp [intOf]; omega
         ·rw [if_neg hx, List.append_nil] at hco2
          replace hco2 := Lib.hid hco2
          go_wp2
          go_roundw
          case rel => exact ⟨d + 1, col - 1, hld, Lib.hid (by have := hcol.out; omega), by go_num, by rw [← Nat.add_assoc, hco2.out]; exact hrow, hext⟩
          case measure => simp [intOf]; omega
        ·obtain rfl : d = 2 := by omega
         have e3 : 2 * k + 2 = 2 * (k + 1) := by omega
         rw [e3] at hrow
         replace e3 := Lib.hid e3
         have hcl1 : ¬ R - 1 ≤ col := by have := hcol.out; omega
         have hcl2 : col < R - 1 := by omega
         have hcl3 : ¬ R ≤ col + 1 := by omega
         go_wp2
         go_roundw
         case rel => exact ⟨k + 1, hlk, by go_num, hrow, hext⟩
         case measure => simp [intOf]; omega
     ·obtain rfl : k = n := by omega
      have hcl := colTo_len k R U (2 * k)
      rw [← hst.out] at hrow
      have hus2 := hus.out
      go_wp2
      go_roundw
      case rel => exact ⟨j + 1, hlt, by rw [hus2], by rw [hrs.out], hrow, hext⟩
      case measure => simp [intOf]; omega
  ·obtain rfl : j = cnt n := by omega
   rw [rgt_end hn h4]
   go_wp2
   go_ret
   exact ⟨⟨_, rfl, hrow.mono (by omega)⟩, hx3.trans hext⟩
open Go.RowKit

section
open Go.MapKept Go.ChangeMaps Go.Maps
variable {α : Type} {k e t : TypeId} {E : α → Value} {w : World} {b n : Nat} {f : α → Option Value}
variable {ops : Array Oper} {Q : Exit → Act → World → Prop} {rest : List Oper} {a : Act} {dst : Option Tmp} {m x v : Operand} {ty : TypeId} {pos : String} {after : Array Edge}
end
theorem MapA.congr {α : Type} {k : TypeId} {E : α → Value} {w : World} {b n : Nat} {f g : α → Option Value} (h : MapA k E w b n f) (e : ∀ x, f x = g x) : MapA k E w b n g := by
 rw [← funext e]; exact h
end Go.Proofs.YtdnkljpnhmcnpaaGreat
