/- Plain facts: the data places of a matrix size, and what a mask does to a grid. -/
import Derived.Test.YtojdediohjghnaaGreatDoorLSurvivesDamageK15
import Derived.Test.YtojdediohjghnaaGreatDoorLSurvivesDamageK07
set_option linter.unusedVariables false
set_option linter.unusedSimpArgs false
namespace Go.Proofs.YtojdediohjghnaaGreatDoor
open Go.RowKit

def fixF (n : Nat) : List Int := pFmt n (fmtW 0) (fixL n) 15
def rgt (n : Nat) : Nat → Int
 | 0 => (n : Int) - 1
 | j + 1 => (if rgt n j = 6 then 5 else rgt n j) - 2
def rg (n j : Nat) : Int := if rgt n j = 6 then 5 else rgt n j
theorem rgt_s (n j : Nat) : rgt n (j + 1) = rg n j - 2 := rfl
def cnt (n : Nat) : Nat := (n - 1) / 2
theorem rgt_ok7 : ∀ m : Nat, m < 7 → ∀ j : Nat, j < cnt (17 + 4 * m) → (0 < rgt (17 + 4 * m) j ∧ rgt (17 + 4 * m) j ≤ ((16 + 4 * m : Nat) : Int)) ∧ 1 ≤ rg (17 + 4 * m) j := by decide +kernel
theorem rgt_end7 : ∀ m : Nat, m < 7 → rgt (17 + 4 * m) (cnt (17 + 4 * m)) = -1 := by decide +kernel
theorem rgt_ok {n : Nat} (h : 17 ≤ n ∧ n ≤ 41) (h4 : n % 4 = 1) {j : Nat} (hj : j < cnt n) : (0 < rgt n j ∧ rgt n j ≤ (n : Int) - 1) ∧ 1 ≤ rg n j ∧ rg n j ≤ (n : Int) - 1 := by
 obtain ⟨m, rfl⟩ : ∃ m, n = 17 + 4 * m := ⟨(n - 17) / 4, by omega⟩
 have h1 := rgt_ok7 m (by omega) j hj
 refine ⟨by omega, h1.2, ?_⟩
 unfold rg
 split <;> omega
theorem rgt_end {n : Nat} (h : 17 ≤ n ∧ n ≤ 41) (h4 : n % 4 = 1) : rgt n (cnt n) = -1 := by
 obtain ⟨m, rfl⟩ : ∃ m, n = 17 + 4 * m := ⟨(n - 17) / 4, by omega⟩
 exact rgt_end7 m (by omega)
def plA (n : Nat) (right : Int) (up : Bool) (k : Nat) : Int × Int := (if up = true then (n : Int) - 1 - ((k / 2 : Nat) : Int) else ((k / 2 : Nat) : Int), right - ((k % 2 : Nat) : Int))
theorem plA_bd {n : Nat} {right : Int} {up : Bool} {k : Nat} (h1 : 1 ≤ right ∧ right ≤ (n : Int) - 1) (hk : k < 2 * n) : (0 ≤ (plA n right up k).1 ∧ (plA n right up k).1 < n) ∧ (0 ≤ (plA n right up k).2 ∧ (plA n right up k).2 < n) := by
 unfold plA
 cases up
 ·simp only [Bool.false_eq_true, if_false]; omega
 ·simp only [if_true]; omega
def colTo (n : Nat) (right : Int) (up : Bool) : Nat → List (Int × Int)
 | 0 => []
 | k + 1 => colTo n right up k ++ if (fixF n).getD (plIx n (plA n right up k)) 0 < 0 then [plA n right up k] else []
theorem colTo_s (n : Nat) (right : Int) (up : Bool) (k : Nat) : colTo n right up (k + 1) = colTo n right up k ++ if (fixF n).getD (plIx n (plA n right up k)) 0 < 0 then [plA n right up k] else [] := rfl
theorem colTo_len (n : Nat) (right : Int) (up : Bool) : ∀ k, (colTo n right up k).length ≤ k
 | 0 => Nat.le_refl 0
 | k + 1 => by
  have ih := colTo_len n right up k
  rw [colTo_s, List.length_append]
  split <;> simp <;> omega
theorem colTo_bd {n : Nat} {right : Int} {up : Bool} (h1 : 1 ≤ right ∧ right ≤ (n : Int) - 1) : ∀ k, k ≤ 2 * n → ∀ p ∈ colTo n right up k, (0 ≤ p.1 ∧ p.1 < n) ∧ (0 ≤ p.2 ∧ p.2 < n)
 | 0, _, p, hp => absurd hp (by simp [colTo])
 | k + 1, hk, p, hp => by
  rw [colTo_s, List.mem_append] at hp
  rcases hp with hp | hp
  ·exact colTo_bd h1 k (by omega) p hp
  ·split at hp
   ·simp only [List.mem_cons, List.not_mem_nil, or_false] at hp
    subst hp
    exact plA_bd h1 (by omega)
   ·exact absurd hp (by simp)
def upB (j : Nat) : Bool := j % 2 == 0
theorem upB_s (j : Nat) : upB (j + 1) = !upB j := by
 unfold upB
 rcases Nat.mod_two_eq_zero_or_one j with h | h
 ·rw [h, show (j + 1) % 2 = 1 by omega]; rfl
 ·rw [h, show (j + 1) % 2 = 0 by omega]; rfl
def dpTo (n : Nat) : Nat → List (Int × Int)
 | 0 => []
 | j + 1 => dpTo n j ++ colTo n (rg n j) (upB j) (2 * n)
theorem dpTo_s (n j : Nat) : dpTo n (j + 1) = dpTo n j ++ colTo n (rg n j) (upB j) (2 * n) := rfl
theorem dpTo_len (n : Nat) : ∀ j, (dpTo n j).length ≤ j * (2 * n)
 | 0 => Nat.zero_le _
 | j + 1 => by
  have ih := dpTo_len n j
  have := colTo_len n (rg n j) (upB j) (2 * n)
  rw [dpTo_s, List.length_append, Nat.add_mul, Nat.one_mul]; omega
theorem dpTo_bd {n : Nat} (h : 17 ≤ n ∧ n ≤ 41) (h4 : n % 4 = 1) : ∀ j, j ≤ cnt n → ∀ p ∈ dpTo n j, (0 ≤ p.1 ∧ p.1 < n) ∧ (0 ≤ p.2 ∧ p.2 < n)
 | 0, _, p, hp => absurd hp (by simp [dpTo])
 | j + 1, hj, p, hp => by
  rw [dpTo_s, List.mem_append] at hp
  rcases hp with hp | hp
  ·exact dpTo_bd h h4 j (by omega) p hp
  ·exact colTo_bd (rgt_ok h h4 (by omega)).2 _ (Nat.le_refl _) p hp
def dpL (n : Nat) : List (Int × Int) := dpTo n (cnt n)
theorem dpL_bd {n : Nat} (h : 17 ≤ n ∧ n ≤ 41) (h4 : n % 4 = 1) : ∀ p ∈ dpL n, (0 ≤ p.1 ∧ p.1 < n) ∧ (0 ≤ p.2 ∧ p.2 < n) := dpTo_bd h h4 _ (Nat.le_refl _)
theorem cnt_mul {n j : Nat} (h : n ≤ 41) (hj : j ≤ cnt n) : j * (2 * n) ≤ 1681 := by
 have h1 : j ≤ 20 := by unfold cnt at hj; omega
 have := Nat.mul_le_mul h1 (show 2 * n ≤ 82 by omega)
 omega
theorem dpL_len {n : Nat} (h : n ≤ 41) : (dpL n).length ≤ 1681 := Nat.le_trans (dpTo_len n _) (cnt_mul h (Nat.le_refl _))
def NDp (n : Nat) (p : Int × Int) : Prop := (∃ i, i < n * n ∧ p = (((i / n : Nat) : Int), ((i % n : Nat) : Int)) ∧ 0 ≤ (fixL n).getD i 0) ∨ p ∈ aPl ∨ p ∈ bPl n
theorem pl_nat {n : Nat} {p : Int × Int} (h1 : 0 ≤ p.1 ∧ p.1 < n) (h2 : 0 ≤ p.2 ∧ p.2 < n) : ∃ r c : Nat, p = ((r : Int), (c : Int)) ∧ r < n ∧ c < n ∧ plIx n p = r * n + c := by
 obtain ⟨a, b⟩ := p
 obtain ⟨r, rfl⟩ := Int.eq_ofNat_of_zero_le h1.1
 obtain ⟨c, rfl⟩ := Int.eq_ofNat_of_zero_le h2.1
 refine ⟨r, c, rfl, by simpa using h1.2, by simpa using h2.2, ?_⟩
 show ((r : Int) * (n : Int) + (c : Int)).toNat = _
 rw [← Int.natCast_mul, ← Int.natCast_add, Int.toNat_natCast]
theorem pl_inj {n : Nat} {p q : Int × Int} (h1 : 0 ≤ p.1 ∧ p.1 < n) (h2 : 0 ≤ p.2 ∧ p.2 < n) (h3 : 0 ≤ q.1 ∧ q.1 < n) (h4 : 0 ≤ q.2 ∧ q.2 < n) (e : plIx n p = plIx n q) : p = q := by
 obtain ⟨a, b, rfl, ha, hb, e1⟩ := pl_nat h1 h2
 obtain ⟨c, d, rfl, hc, hd, e2⟩ := pl_nat h3 h4
 rw [e1, e2] at e
 have hn : 0 < n := by omega
 have d1 : (a * n + b) / n = a := by rw [Nat.mul_comm, Nat.mul_add_div hn, Nat.div_eq_of_lt hb]; rfl
 have d2 : (c * n + d) / n = c := by rw [Nat.mul_comm, Nat.mul_add_div hn, Nat.div_eq_of_lt hd]; rfl
 have m1 : (a * n + b) % n = b := by rw [Nat.mul_comm, Nat.mul_add_mod, Nat.mod_eq_of_lt hb]
 have m2 : (c * n + d) % n = d := by rw [Nat.mul_comm, Nat.mul_add_mod, Nat.mod_eq_of_lt hd]
 rw [e] at d1 m1
 rw [d1] at d2
 rw [m1] at m2
 rw [d2, m2]
theorem pFmt_far {n : Nat} {ws xs : List Int} {i : Nat} : ∀ k, k ≤ 15 → (∀ j, j < k → (ixA n).getD j 0 ≠ i) → (∀ j, j < k → (ixB n).getD j 0 ≠ i) → (pFmt n ws xs k).getD i 0 = xs.getD i 0
 | 0, _, _, _ => rfl
 | k + 1, hk, h1, h2 => by
  have ih := pFmt_far (ws := ws) (xs := xs) k (by omega) (fun j hj => h1 j (by omega)) (fun j hj => h2 j (by omega))
  have e1 := h1 k (by omega)
  have e2 := h2 k (by omega)
  rw [ixA_at n k (by omega)] at e1
  rw [ixB_at n k (by omega)] at e2
  show (((pFmt n ws xs k).set _ _).set _ _).getD i 0 = _
  rw [List.getD_eq_getElem?_getD, List.getElem?_set_ne e2, List.getElem?_set_ne e1, ← List.getD_eq_getElem?_getD]
  exact ih
theorem mem_at {ps : List (Int × Int)} {p : Int × Int} (h : p ∈ ps) : ∃ j, j < ps.length ∧ ps.getD j (0, 0) = p := by
 obtain ⟨j, hj, e⟩ := List.getElem_of_mem h
 exact ⟨j, hj, by rw [List.getD_eq_getElem?_getD, List.getElem?_eq_getElem hj]; exact e⟩
theorem ND_iff {n : Nat} (hn : 17 ≤ n ∧ n ≤ 41) (h4 : n % 4 = 1) {p : Int × Int} (h1 : 0 ≤ p.1 ∧ p.1 < n) (h2 : 0 ≤ p.2 ∧ p.2 < n) : NDp n p ↔ 0 ≤ (fixF n).getD (plIx n p) 0 := by
 have hat := pFmt_at (ws := fmtW 0) hn h4 (fixL_len n) 15 (Nat.le_refl _)
 have hw := fun k => fmtW_at (v := 0) (by omega) k
 have hA : ∀ j, j < 15 → 0 ≤ (fixF n).getD ((ixA n).getD j 0) 0 := fun j hj => by unfold fixF; rw [(hat j hj).1]; exact hw j
 have hB : ∀ j, j < 15 → 0 ≤ (fixF n).getD ((ixB n).getD j 0) 0 := fun j hj => by unfold fixF; rw [(hat j hj).2]; exact hw j
 constructor
 ·rintro (⟨i, hi, rfl, hv⟩ | hp | hp)
  ·have hn0 : 0 < n := by omega
   have ei : plIx n (((i / n : Nat) : Int), ((i % n : Nat) : Int)) = i := by
    show ((((i / n : Nat) : Int)) * (n : Int) + ((i % n : Nat) : Int)).toNat = i
    rw [← Int.natCast_mul, ← Int.natCast_add, Int.toNat_natCast, Nat.mul_comm]
    exact Nat.div_add_mod i n
   rw [ei]
   by_cases ha : ∃ j, j < 15 ∧ (ixA n).getD j 0 = i
   ·obtain ⟨j, hj, rfl⟩ := ha; exact hA j hj
   ·by_cases hb : ∃ j, j < 15 ∧ (ixB n).getD j 0 = i
    ·obtain ⟨j, hj, rfl⟩ := hb; exact hB j hj
    ·unfold fixF
     rw [pFmt_far 15 (Nat.le_refl _) (fun j hj e => ha ⟨j, hj, e⟩) (fun j hj e => hb ⟨j, hj, e⟩)]
     exact hv
  ·obtain ⟨j, hj, rfl⟩ := mem_at hp
   rw [← ixA_at n j hj]; exact hA j hj
  ·obtain ⟨j, hj, rfl⟩ := mem_at hp
   rw [← ixB_at n j hj]; exact hB j hj
 ·intro hv
  by_cases ha : ∃ j, j < 15 ∧ (ixA n).getD j 0 = plIx n p
  ·obtain ⟨j, hj, e⟩ := ha
   rw [ixA_at n j hj] at e
   have hm := getD_mem (d := (0, 0)) (show j < aPl.length from hj)
   have := aPl_in hn.1 _ hm
   have e2 := pl_inj this.1 this.2 h1 h2 e
   rw [← e2]; exact .inr (.inl hm)
  ·by_cases hb : ∃ j, j < 15 ∧ (ixB n).getD j 0 = plIx n p
   ·obtain ⟨j, hj, e⟩ := hb
    rw [ixB_at n j hj] at e
    have hm := getD_mem (d := (0, 0)) (show j < (bPl n).length from hj)
    have := bPl_bd hn.1 _ hm
    have e2 := pl_inj this.1 this.2 h1 h2 e
    rw [← e2]; exact .inr (.inr hm)
   ·unfold fixF at hv
    rw [pFmt_far 15 (Nat.le_refl _) (fun j hj e => ha ⟨j, hj, e⟩) (fun j hj e => hb ⟨j, hj, e⟩)] at hv
    obtain ⟨a, b, rfl, ha', hb', e1⟩ := pl_nat h1 h2
    have hn0 : 0 < n := by omega
    refine .inl ⟨a * n + b, ?_, ?_, by rw [← e1]; exact hv⟩
    ·have := Nat.mul_le_mul_right n (show a + 1 ≤ n from ha')
     rw [Nat.add_mul, Nat.one_mul] at this; omega
    ·have d1 : (a * n + b) / n = a := by rw [Nat.mul_comm, Nat.mul_add_div hn0, Nat.div_eq_of_lt hb']; rfl
     have m1 : (a * n + b) % n = b := by rw [Nat.mul_comm, Nat.mul_add_mod, Nat.mod_eq_of_lt hb']
     rw [d1, m1]
def turnB : Nat → Int → Int → Bool
 | 0, r, c => (r + c) % 2 == 0
 | 1, r, _ => r % 2 == 0
 | 2, _, c => c % 3 == 0
 | 3, r, c => (r + c) % 3 == 0
 | 4, r, c => (r / 2 + c / 3) % 2 == 0
 | 5, r, c => r * c % 3 == 0
 | 6, r, c => decide ((r + 2 * c) % 5 < 2)
 | _, r, c => (r * r + c) % 4 == 0
def mskTo (m n : Nat) (ps : List (Int × Int)) (xs : List Int) : Nat → List Int
 | 0 => xs
 | k + 1 => if 0 ≤ (mskTo m n ps xs k).getD (plIx n (ps.getD k (0, 0))) 0 ∧ turnB m (ps.getD k (0, 0)).1 (ps.getD k (0, 0)).2 = true then (mskTo m n ps xs k).set (plIx n (ps.getD k (0, 0))) (1 - (mskTo m n ps xs k).getD (plIx n (ps.getD k (0, 0))) 0) else mskTo m n ps xs k
theorem mskTo_s (m n : Nat) (ps : List (Int × Int)) (xs : List Int) (k : Nat) : mskTo m n ps xs (k + 1) = if 0 ≤ (mskTo m n ps xs k).getD (plIx n (ps.getD k (0, 0))) 0 ∧ turnB m (ps.getD k (0, 0)).1 (ps.getD k (0, 0)).2 = true then (mskTo m n ps xs k).set (plIx n (ps.getD k (0, 0))) (1 - (mskTo m n ps xs k).getD (plIx n (ps.getD k (0, 0))) 0) else mskTo m n ps xs k := rfl
theorem mskTo_len (m n : Nat) (ps : List (Int × Int)) (xs : List Int) : ∀ k, (mskTo m n ps xs k).length = xs.length
 | 0 => rfl
 | k + 1 => by
  rw [mskTo_s]
  split
  ·rw [List.length_set]; exact mskTo_len m n ps xs k
  ·exact mskTo_len m n ps xs k
theorem mskTo_bd {m n : Nat} {ps : List (Int × Int)} {xs : List Int} (h : ∀ x ∈ xs, -1 ≤ x ∧ x ≤ 1) : ∀ k, ∀ x ∈ mskTo m n ps xs k, -1 ≤ x ∧ x ≤ 1
 | 0 => h
 | k + 1 => fun x hx => by
  have ih := mskTo_bd (m := m) (n := n) (ps := ps) h k
  rw [mskTo_s] at hx
  split at hx
  ·rename_i h0
   rcases List.mem_or_eq_of_mem_set hx with hx | rfl
   ·exact ih x hx
   ·have : (mskTo m n ps xs k).getD (plIx n (ps.getD k (0, 0))) 0 ≤ 1 := by
     by_cases hl : plIx n (ps.getD k (0, 0)) < (mskTo m n ps xs k).length
     ·exact (ih _ (getD_mem hl)).2
     ·rw [List.getD_eq_getElem?_getD, List.getElem?_eq_none (by omega)]; simp
    omega
  ·exact ih x hx
def mskL (m n : Nat) (xs : List Int) : List Int := mskTo m n (dpL n) xs (dpL n).length
open Go.RowKit

def PlcR (n : Nat) (B : Nat) (e : Ending) (w' : World) : Prop := ∃ v, e = .returned v ∧ RowP B w' v (dpL n)
theorem plA_at (n : Nat) (R : Int) (U : Bool) (k : Nat) {d : Nat} (hd : d < 2) : plA n R U (2 * k + d) = ((if U = true then (n : Int) - 1 - (k : Int) else (k : Int)), R - (d : Int)) := by
 unfold plA
 rw [show (2 * k + d) / 2 = k by omega, show (2 * k + d) % 2 = d by omega]
theorem upRow (n : Nat) (U : Bool) {k : Nat} (hk : k < n) : ∃ row : Int, (if U = true then (n : Int) - 1 - (k : Int) else (k : Int)) = row ∧ 0 ≤ row ∧ row < n := by
 refine ⟨_, rfl, ?_⟩
 split <;> omega
theorem rg_cases (n j : Nat) : (rgt n j = 6 ∧ rg n j = 5) ∨ (rgt n j ≠ 6 ∧ rg n j = rgt n j) := by
 unfold rg
 by_cases h : rgt n j = 6
 ·exact .inl ⟨h, if_pos h⟩
 ·exact .inr ⟨h, if_neg h⟩
set_option maxHeartbeats 1600000 in
set_option maxRecDepth 100000 in
theorem sPlaces_c (n : Nat) (w : World) (hn : 17 ≤ n ∧ n ≤ 41) (h4 : n % 4 = 1) : Calls Tryz.prog 150 #[.int .i64 n] w fun e w' => PlcR n w.heap.size e w' ∧ Ext w w' := by
 have hsg := Lib.hid (fun W => sGrid_c n W hn)
 have hsp := (fun W p k (h : IntsAt W p (fixL n)) => sPut_c n 0 k p (fixL n) W (by omega) hn h (fixL_len n))
 rw [show ((0 : Nat) : Int) = 0 from rfl] at hsp
 replace hsp := Lib.hid hsp
 have hfl : (fixF n).length = n * n := by unfold fixF; rw [pFmt_len]; exact fixL_len n
 have hNN : n * n ≤ 1681 := Nat.mul_le_mul hn.2 hn.2
 go_enter Tryz.func150, Tryz.ntmps150
 go_upto_region 5 with (first
  | (go_at_call 112; (with_reducible refine (hsg.out _).mono ?_); rintro e w1 ⟨⟨p1, k1, rfl, ow1, hk1⟩, hx1⟩)
  | (go_at_call 185; (with_reducible refine (hsp.out _ _ _ ow1.ints).mono ?_); rintro e w2 ⟨⟨p2, k2, rfl, ow2, hk2⟩, hx2⟩))
 rw [show pFmt n (fmtW 0) (fixL n) 15 = fixF n from rfl] at *
 have hb3 := Blk.new w2 #[.int .i64 n, .int .i64 n, .slice p2 (fixF n).length k2] 37
 have hx3 := (hx1.trans hx2).alloc (.cells #[.int .i64 n, .int .i64 n, .slice p2 (fixF n).length k2] 37)
 have hi3 := ow2.ints.ext ((Ext.refl w2).alloc (.cells #[.int .i64 n, .int .i64 n, .slice p2 (fixF n).length k2] 37))
 have hsz3 : (w2.alloc (.cells #[.int .i64 n, .int .i64 n, .slice p2 (fixF n).length k2] 37)).heap.size = w2.heap.size + 1 := World.size_alloc _ _
 generalize w2.alloc (.cells #[.int .i64 n, .int .i64 n, .slice p2 (fixF n).length k2] 37) = w3 at *
 generalize w2.heap.size = g3 at *
 have hr4 : RowP w3.heap.size (w3.alloc (.cells #[] 166)) (.slice (some ⟨g3 + 1, 0, none⟩) 0 0) [] := by
  have h := RowS.made (f := plF) (k := 2) 166 (B := w3.heap.size) (w := w3) (Nat.le_refl _)
  rw [hsz3] at h ⊢
  exact h
 have hx4 : Ext w3 (w3.alloc (.cells #[] 166)) := (Ext.refl w3).alloc _
 generalize w3.alloc (.cells #[] 166) = w4 at *
 generalize Value.slice (some ⟨g3 + 1, 0, none⟩) 0 0 = v0 at *
 replace hsz3 := Lib.hid hsz3
 replace hfl := Lib.hid hfl; replace hi3 := Lib.hid hi3; replace hb3 := Lib.hid hb3
 clear ow1 ow2 hx1 hx2 hsg hsp
 have hxw := hx3.below.size
 go_loopw [4, 5, 6] (fun v u i wr => ∃ j : Nat, j ≤ cnt n ∧ u = .bool (upB j) ∧ i = .int .i64 (rgt n j) ∧ RowP w3.heap.size wr v (dpTo n j) ∧ Ext w3 wr) (fun _ _ i _ => (intOf i + 1).toNat)
 case atStart => exact ⟨0, Nat.zero_le _, rfl, rfl, hr4, hx4⟩
 case round =>
  clear hr4 hx4
  obtain ⟨j, hj, rfl, rfl, hrow, hext⟩ := hrel
  by_cases hlt : j < cnt n
  ·obtain ⟨hR0, hR⟩ := rgt_ok hn h4 hlt
   have hlen := dpTo_len n j
   have hlm := cnt_mul hn.2 (show j + 1 ≤ cnt n from hlt)
   rw [Nat.add_mul, Nat.one_mul] at hlm
   have hst := Lib.hid (dpTo_s n j)
   have hrs := Lib.hid (rgt_s n j)
   have hus := Lib.hid (upB_s j)
   have hrc := rg_cases n j
   generalize dpTo n j = A at *
   generalize rgt n j = R0 at *
   generalize rg n j = R at *
   generalize upB j = U at *
   obtain ⟨hR01, hR02⟩ := hR0
   generalize j * (2 * n) = Z at *
   go_upto_if 21 with (fail)
   go_cut [6] (fun s6 wx => s6 = .int .i64 R ∧ wx = wr)
   case first =>
    rcases hrc with ⟨h6, h5⟩ | ⟨hne, h5⟩
    ·have he : (R0 == 6) = true := by simpa using h6
     replace h6 := Lib.hid h6; replace h5 := Lib.hid h5
     simp only [he]; clear he
     go_wp2_with fail
     go_meet
     exact ⟨by rw [h5.out], rfl⟩
    ·have he : (R0 == 6) = false := by simpa using hne
     replace hne := Lib.hid hne; replace h5 := Lib.hid h5
     simp only [he]; clear he
     go_wp2_with fail
     go_meet
     exact ⟨by rw [h5.out], rfl⟩
   case rest =>
    obtain ⟨rfl, rfl⟩ := hcut
    go_wp2_with fail
    go_loopw [4, 7] (fun v i wr => ∃ k : Nat, k ≤ n ∧ i = .int .i64 k ∧ RowP w3.heap.size wr v (A ++ colTo n R U (2 * k)) ∧ Ext w3 wr) (fun _ i _ => n - (intOf i).toNat)
    case atStart => exact ⟨0, Nat.zero_le _, rfl, by simpa [colTo] using hrow, hext⟩
    case round =>
     clear hrow hext
     obtain ⟨k, hk, rfl, hrow, hext⟩ := hrel
     by_cases hlk : k < n
     ·have hlki : (k : Int) < n := by omega
      obtain ⟨row, hrw, hrb1, hrb2⟩ := upRow n U hlk
      have hpa := fun d hd => plA_at n R U k (d := d) hd
      rw [hrw] at hpa
      replace hpa := Lib.hid hpa
      replace hrw := Lib.hid hrw
      have hcl := fun d => colTo_len n R U (2 * k + d)
      replace hcl := Lib.hid hcl
      have hcs := fun d => colTo_s n R U (2 * k + d)
      replace hcs := Lib.hid hcs
      go_upto_if 28 with (fail)
      go_cut [8] (fun s8 wx => s8 = .int .i64 row ∧ wx = wr)
      case first =>
       have h1 := hrw.out
       cases U
       ·rw [if_neg (by simp)] at h1
        replace h1 := Lib.hid h1
        go_wp2_with fail
        go_meet
        exact ⟨by rw [← h1.out], rfl⟩
       ·rw [if_pos rfl] at h1
        replace h1 := Lib.hid h1
        go_wp2_with fail
        go_meet
        exact ⟨by rw [← h1.out], rfl⟩
      case rest =>
       obtain ⟨rfl, rfl⟩ := hcut
       have hro := hcl.out 0
       simp only [Nat.add_zero] at hro
       go_wp2_with fail
       go_loopw [4, 9] (fun v i wr => ∃ (d : Nat) (col : Int), d ≤ 2 ∧ Hid (R - (d : Int) = col) ∧ i = .int .i64 col ∧ RowP w3.heap.size wr v (A ++ colTo n R U (2 * k + d)) ∧ Ext w3 wr) (fun _ i _ => (intOf i - R + 2).toNat)
       case atStart => exact ⟨0, R, by omega, Lib.hid (by simp), rfl, hrow, hext⟩
       case round =>
        clear hrow hext
        obtain ⟨d, col, hd, hcol, rfl, hrow, hext⟩ := hrel
        by_cases hld : d < 2
        ·have hpb := plA_bd (n := n) (right := R) (up := U) (k := 2 * k + d) hR (by omega)
         have hpx := plIx_eq hpb.1 hpb.2
         have hco := hcs.out d
         have hla := hcl.out d
         rw [hpa.out d hld, hcol.out] at hpx hco hpb
         simp only at hpx hpb
         obtain ⟨hpx1, hpx2, hpx3⟩ := hpx
         generalize plIx n (row, col) = q at *
         obtain ⟨M, hM⟩ : ∃ M : Int, row * (n : Int) = M := ⟨_, rfl⟩
         rw [hM] at hpx1 hpx3
         obtain ⟨bg, og, rfl, hbg, yc⟩ := (hi3.out.ext hext) q (by rw [hfl.out]; exact hpx2)
         have hqx : (q : Int) < (fixF n).length := by rw [hfl.out]; omega
         have hb5 := hb3.out.ext hext
         generalize (fixF n).getD q 0 = x at *
         have hz := hext.below.size
         have f2 := hb5.cell (i := 2) (v := .slice (some ⟨bg, og, none⟩) (fixF n).length k2) rfl
         have fl := hb5.lt
         have e1 := IntWalk.i64_in M (by omega)
         have e2 := IntWalk.i64_in (q : Int) (by omega)
         have hlA : (A ++ colTo n R U (2 * k + d)).length ≤ 2000 := by rw [List.length_append]; omega
         have hco2 : colTo n R U (2 * k + d + 1) = colTo n R U (2 * k + d) ++ if x < 0 then [(row, col)] else [] := hco
         clear hco
         have hcl1 : R - 1 ≤ col := by have := hcol.out; omega
         have hcl2 : R ≤ col + 1 := by omega
         by_cases hx : x < 0
         ·rw [if_pos hx] at hco2
          have hco3 : A ++ colTo n R U (2 * k + (d + 1)) = (A ++ colTo n R U (2 * k + d)) ++ [(row, col)] := by rw [← Nat.add_assoc, hco2, List.append_assoc]
          replace hco3 := Lib.hid hco3
          clear hco2
          generalize A ++ colTo n R U (2 * k + d) = L at *
          go_wp2_with (at_builtin; refine appendSG (ns := [(row, col)]) Tryz.underlying106 infoPl rfl (by omega) (by omega) plF_len plF_one 1 rfl hrow (by omega) hz rfl ?_ rfl rfl; intro v1 w1 hr1 hg1)
          go_roundw
          case rel => exact ⟨d + 1, col - 1, hld, Lib.hid (by have := hcol.out; omega), by go_num, by rw [hco3.out]; exact hr1, hg1.toExt hext (fun k hk => (hrow.lt k hk).1)⟩
          case measure => simp [intOf]; omega
         ·rw [if_neg hx, List.append_nil] at hco2
          replace hco2 := Lib.hid hco2
          go_wp2
          go_roundw
          case rel => exact ⟨d + 1, col - 1, hld, Lib.hid (by have := hcol.out; omega), by go_num, by rw [← Nat.add_assoc, hco2.out]; exact hrow, hext⟩
          case measure => simp [intOf]; omega
        ·obtain rfl : d = 2 := by omega
         have e3 : 2 * k + 2 = 2 * (k + 1) := by omega
         rw [e3] at hrow
         replace e3 := Lib.hid e3
         have hcl1 : ¬ R - 1 ≤ col := by have := hcol.out; omega
         have hcl2 : col < R - 1 := by omega
         have hcl3 : ¬ R ≤ col + 1 := by omega
         go_wp2
         go_roundw
         case rel => exact ⟨k + 1, hlk, by go_num, hrow, hext⟩
         case measure => simp [intOf]; omega
     ·obtain rfl : k = n := by omega
      have hcl := colTo_len k R U (2 * k)
      rw [← hst.out] at hrow
      have hus2 := hus.out
      go_wp2
      go_roundw
      case rel => exact ⟨j + 1, hlt, by rw [hus2], by rw [hrs.out], hrow, hext⟩
      case measure => simp [intOf]; omega
  ·obtain rfl : j = cnt n := by omega
   rw [rgt_end hn h4]
   go_wp2
   go_ret
   exact ⟨⟨_, rfl, hrow.mono (by omega)⟩, hx3.trans hext⟩
open Go.RowKit

theorem mul_bd {r c : Int} (hr : 0 ≤ r ∧ r ≤ 50) (hc : 0 ≤ c ∧ c ≤ 50) : 0 ≤ r * c ∧ r * c ≤ 2500 :=
 ⟨Int.mul_nonneg hr.1 hc.1, by have := Int.mul_le_mul hr.2 hc.2 hc.1 (by omega); omega⟩
theorem isB_b {b c : Bool} (h : b = c) : isB (.returned (.bool b)) (c = true) := by
 subst h
 cases b
 ·exact .inr ⟨by simp, rfl⟩
 ·exact .inl ⟨rfl, rfl⟩
theorem turn0_c (r c : Int) (w : World) (hr : 0 ≤ r ∧ r ≤ 50) (hc : 0 ≤ c ∧ c ≤ 50) : Calls Tryz.prog 171 #[.int .i64 r, .int .i64 c] w fun e w' => isB e (turnB 0 r c = true) ∧ w = w' := by
 have h1 := mul_bd hr hc
 have h2 := mul_bd hr hr
 go_enter Tryz.func171, Tryz.ntmps171
 go_wp2
 go_ret
 exact ⟨isB_b rfl, rfl⟩
theorem turn1_c (r c : Int) (w : World) (hr : 0 ≤ r ∧ r ≤ 50) (hc : 0 ≤ c ∧ c ≤ 50) : Calls Tryz.prog 172 #[.int .i64 r, .int .i64 c] w fun e w' => isB e (turnB 1 r c = true) ∧ w = w' := by
 have h1 := mul_bd hr hc
 have h2 := mul_bd hr hr
 go_enter Tryz.func172, Tryz.ntmps172
 go_wp2
 go_ret
 exact ⟨isB_b rfl, rfl⟩
theorem turn2_c (r c : Int) (w : World) (hr : 0 ≤ r ∧ r ≤ 50) (hc : 0 ≤ c ∧ c ≤ 50) : Calls Tryz.prog 173 #[.int .i64 r, .int .i64 c] w fun e w' => isB e (turnB 2 r c = true) ∧ w = w' := by
 have h1 := mul_bd hr hc
 have h2 := mul_bd hr hr
 go_enter Tryz.func173, Tryz.ntmps173
 go_wp2
 go_ret
 exact ⟨isB_b rfl, rfl⟩
theorem turn3_c (r c : Int) (w : World) (hr : 0 ≤ r ∧ r ≤ 50) (hc : 0 ≤ c ∧ c ≤ 50) : Calls Tryz.prog 174 #[.int .i64 r, .int .i64 c] w fun e w' => isB e (turnB 3 r c = true) ∧ w = w' := by
 have h1 := mul_bd hr hc
 have h2 := mul_bd hr hr
 go_enter Tryz.func174, Tryz.ntmps174
 go_wp2
 go_ret
 exact ⟨isB_b rfl, rfl⟩
theorem turn4_c (r c : Int) (w : World) (hr : 0 ≤ r ∧ r ≤ 50) (hc : 0 ≤ c ∧ c ≤ 50) : Calls Tryz.prog 175 #[.int .i64 r, .int .i64 c] w fun e w' => isB e (turnB 4 r c = true) ∧ w = w' := by
 have h1 := mul_bd hr hc
 have h2 := mul_bd hr hr
 go_enter Tryz.func175, Tryz.ntmps175
 go_wp2
 go_ret
 exact ⟨isB_b rfl, rfl⟩
theorem turn5_c (r c : Int) (w : World) (hr : 0 ≤ r ∧ r ≤ 50) (hc : 0 ≤ c ∧ c ≤ 50) : Calls Tryz.prog 176 #[.int .i64 r, .int .i64 c] w fun e w' => isB e (turnB 5 r c = true) ∧ w = w' := by
 have h1 := mul_bd hr hc
 have h2 := mul_bd hr hr
 go_enter Tryz.func176, Tryz.ntmps176
 go_wp2
 go_ret
 exact ⟨isB_b rfl, rfl⟩
theorem turn6_c (r c : Int) (w : World) (hr : 0 ≤ r ∧ r ≤ 50) (hc : 0 ≤ c ∧ c ≤ 50) : Calls Tryz.prog 177 #[.int .i64 r, .int .i64 c] w fun e w' => isB e (turnB 6 r c = true) ∧ w = w' := by
 have h1 := mul_bd hr hc
 have h2 := mul_bd hr hr
 go_enter Tryz.func177, Tryz.ntmps177
 go_wp2
 go_ret
 exact ⟨isB_b rfl, rfl⟩
theorem turn7_c (r c : Int) (w : World) (hr : 0 ≤ r ∧ r ≤ 50) (hc : 0 ≤ c ∧ c ≤ 50) : Calls Tryz.prog 178 #[.int .i64 r, .int .i64 c] w fun e w' => isB e (turnB 7 r c = true) ∧ w = w' := by
 have h1 := mul_bd hr hc
 have h2 := mul_bd hr hr
 go_enter Tryz.func178, Tryz.ntmps178
 go_wp2
 go_ret
 exact ⟨isB_b rfl, rfl⟩
theorem sTurn0_c (r c : Int) (w : World) (hr : 0 ≤ r ∧ r ≤ 50) (hc : 0 ≤ c ∧ c ≤ 50) : Calls Tryz.prog 151 #[.int .i64 0, .int .i64 r, .int .i64 c] w fun e w' => isB e (turnB 0 r c = true) ∧ w = w' := by
 have h1 := mul_bd hr hc
 have h2 := mul_bd hr hr
 go_enter Tryz.func151, Tryz.ntmps151
 go_wp2
 go_ret
 exact ⟨isB_b rfl, rfl⟩
theorem sTurn1_c (r c : Int) (w : World) (hr : 0 ≤ r ∧ r ≤ 50) (hc : 0 ≤ c ∧ c ≤ 50) : Calls Tryz.prog 151 #[.int .i64 1, .int .i64 r, .int .i64 c] w fun e w' => isB e (turnB 1 r c = true) ∧ w = w' := by
 have h1 := mul_bd hr hc
 have h2 := mul_bd hr hr
 go_enter Tryz.func151, Tryz.ntmps151
 go_wp2
 go_ret
 exact ⟨isB_b rfl, rfl⟩
theorem sTurn2_c (r c : Int) (w : World) (hr : 0 ≤ r ∧ r ≤ 50) (hc : 0 ≤ c ∧ c ≤ 50) : Calls Tryz.prog 151 #[.int .i64 2, .int .i64 r, .int .i64 c] w fun e w' => isB e (turnB 2 r c = true) ∧ w = w' := by
 have h1 := mul_bd hr hc
 have h2 := mul_bd hr hr
 go_enter Tryz.func151, Tryz.ntmps151
 go_wp2
 go_ret
 exact ⟨isB_b rfl, rfl⟩
theorem sTurn3_c (r c : Int) (w : World) (hr : 0 ≤ r ∧ r ≤ 50) (hc : 0 ≤ c ∧ c ≤ 50) : Calls Tryz.prog 151 #[.int .i64 3, .int .i64 r, .int .i64 c] w fun e w' => isB e (turnB 3 r c = true) ∧ w = w' := by
 have h1 := mul_bd hr hc
 have h2 := mul_bd hr hr
 go_enter Tryz.func151, Tryz.ntmps151
 go_wp2
 go_ret
 exact ⟨isB_b rfl, rfl⟩
theorem sTurn4_c (r c : Int) (w : World) (hr : 0 ≤ r ∧ r ≤ 50) (hc : 0 ≤ c ∧ c ≤ 50) : Calls Tryz.prog 151 #[.int .i64 4, .int .i64 r, .int .i64 c] w fun e w' => isB e (turnB 4 r c = true) ∧ w = w' := by
 have h1 := mul_bd hr hc
 have h2 := mul_bd hr hr
 go_enter Tryz.func151, Tryz.ntmps151
 go_wp2
 go_ret
 exact ⟨isB_b rfl, rfl⟩
theorem sTurn5_c (r c : Int) (w : World) (hr : 0 ≤ r ∧ r ≤ 50) (hc : 0 ≤ c ∧ c ≤ 50) : Calls Tryz.prog 151 #[.int .i64 5, .int .i64 r, .int .i64 c] w fun e w' => isB e (turnB 5 r c = true) ∧ w = w' := by
 have h1 := mul_bd hr hc
 have h2 := mul_bd hr hr
 go_enter Tryz.func151, Tryz.ntmps151
 go_wp2
 go_ret
 exact ⟨isB_b rfl, rfl⟩
theorem sTurn6_c (r c : Int) (w : World) (hr : 0 ≤ r ∧ r ≤ 50) (hc : 0 ≤ c ∧ c ≤ 50) : Calls Tryz.prog 151 #[.int .i64 6, .int .i64 r, .int .i64 c] w fun e w' => isB e (turnB 6 r c = true) ∧ w = w' := by
 have h1 := mul_bd hr hc
 have h2 := mul_bd hr hr
 go_enter Tryz.func151, Tryz.ntmps151
 go_wp2
 go_ret
 exact ⟨isB_b rfl, rfl⟩
theorem sTurn7_c (r c : Int) (w : World) (hr : 0 ≤ r ∧ r ≤ 50) (hc : 0 ≤ c ∧ c ≤ 50) : Calls Tryz.prog 151 #[.int .i64 7, .int .i64 r, .int .i64 c] w fun e w' => isB e (turnB 7 r c = true) ∧ w = w' := by
 have h1 := mul_bd hr hc
 have h2 := mul_bd hr hr
 go_enter Tryz.func151, Tryz.ntmps151
 go_wp2
 go_ret
 exact ⟨isB_b rfl, rfl⟩
theorem cases88 {m : Nat} (h : m < 8) : m = 0 ∨ m = 1 ∨ m = 2 ∨ m = 3 ∨ m = 4 ∨ m = 5 ∨ m = 6 ∨ m = 7 := by omega
theorem sTurns_c (m : Nat) (hm : m < 8) (r c : Int) (w : World) (hr : 0 ≤ r ∧ r ≤ 50) (hc : 0 ≤ c ∧ c ≤ 50) : Calls Tryz.prog 151 #[.int .i64 m, .int .i64 r, .int .i64 c] w fun e w' => isB e (turnB m r c = true) ∧ w = w' := by
 rcases cases88 hm with rfl | rfl | rfl | rfl | rfl | rfl | rfl | rfl
 ·exact sTurn0_c r c w hr hc
 ·exact sTurn1_c r c w hr hc
 ·exact sTurn2_c r c w hr hc
 ·exact sTurn3_c r c w hr hc
 ·exact sTurn4_c r c w hr hc
 ·exact sTurn5_c r c w hr hc
 ·exact sTurn6_c r c w hr hc
 ·exact sTurn7_c r c w hr hc
def turnF : Nat → Nat
 | 0 => 171
 | 1 => 172
 | 2 => 173
 | 3 => 174
 | 4 => 175
 | 5 => 176
 | 6 => 177
 | _ => 178
section
open Go.MapKept Go.ChangeMaps Go.Maps
variable {α : Type} {k e t : TypeId} {E : α → Value} {w : World} {b n : Nat} {f : α → Option Value}
variable {ops : Array Oper} {Q : Exit → Act → World → Prop} {rest : List Oper} {a : Act} {dst : Option Tmp} {m x v : Operand} {ty : TypeId} {pos : String} {after : Array Edge}
set_option maxRecDepth 100000 in
theorem wp_ins [DecidableEq α] (hE : ∀ x y, E x = E y → x = y) (h : MapA k E w b n f) (K : Keyed Tryz.prog k) (ht : Tryz.prog.underlying t = some (.map k e)) (hn : n < maxLen) {y : α} {u : Value} {kl : Lit} (hk : keyOf Tryz.prog k (E y) = some kl)
  (hw : ∀ w', MapA k E w' b (n + 1) (fun z => if z = y then some u else f z) → w.grownBy w' (some b) → wpList Tryz.prog ops Q rest (a.put dst undef) w') (hm : a.eval m = .map (some b)) (hx : a.eval x = E y) (hv : a.eval v = u) :
  wpList Tryz.prog ops Q (⟨dst, .insert t m x v, ty, pos, after, none⟩ :: rest) a w := by
 refine wpList_plain rfl fun K' hK' => ?_
 obtain ⟨w', hr, h1, h2⟩ := h.put hE K ht hn hk u
 unfold Oper.wp
 simp [execOp, hm, hx, hv, hr, Result.andThen]
 exact hK' _ _ (hw w' h1 h2)
end
theorem MapA.congr {α : Type} {k : TypeId} {E : α → Value} {w : World} {b n : Nat} {f g : α → Option Value} (h : MapA k E w b n f) (e : ∀ x, f x = g x) : MapA k E w b n g := by
 rw [← funext e]; exact h
def condF (x : Int) : Option Value := if 0 ≤ x ∧ x < 8 then some (.func (.func (turnF x.toNat)) #[] #[]) else none
set_option maxHeartbeats 800000 in
set_option maxRecDepth 100000 in
theorem conditions_c (w : World) : Calls Tryz.prog 123 #[] w fun e w' => (∃ b n, e = .returned (.map (some b)) ∧ MapA 2 eInt w' b n condF) ∧ Ext w w' := by
 have hm0 := MapA.made (k := 2) (E := eInt) w
 have hx0 : Ext w (w.alloc (.map #[] 0)) := (Ext.refl w).alloc _
 have hmm := @run_makeMap Tryz.prog
 go_enter Tryz.func123, Tryz.ntmps123
 go_wp2_with (first
  | (refine wp_ins (y := (0 : Int)) (u := .func (.func 171) #[] #[]) eInt_inj hm0 intKeyed Tryz.underlying181 (by unfold maxLen; omega) (intKey (by omega)) ?_ rfl rfl rfl; intro w1 hm1 hg1)
  | (refine wp_ins (y := (1 : Int)) (u := .func (.func 172) #[] #[]) eInt_inj hm1 intKeyed Tryz.underlying181 (by unfold maxLen; omega) (intKey (by omega)) ?_ rfl rfl rfl; intro w2 hm2 hg2)
  | (refine wp_ins (y := (2 : Int)) (u := .func (.func 173) #[] #[]) eInt_inj hm2 intKeyed Tryz.underlying181 (by unfold maxLen; omega) (intKey (by omega)) ?_ rfl rfl rfl; intro w3 hm3 hg3)
  | (refine wp_ins (y := (3 : Int)) (u := .func (.func 174) #[] #[]) eInt_inj hm3 intKeyed Tryz.underlying181 (by unfold maxLen; omega) (intKey (by omega)) ?_ rfl rfl rfl; intro w4 hm4 hg4)
  | (refine wp_ins (y := (4 : Int)) (u := .func (.func 175) #[] #[]) eInt_inj hm4 intKeyed Tryz.underlying181 (by unfold maxLen; omega) (intKey (by omega)) ?_ rfl rfl rfl; intro w5 hm5 hg5)
  | (refine wp_ins (y := (5 : Int)) (u := .func (.func 176) #[] #[]) eInt_inj hm5 intKeyed Tryz.underlying181 (by unfold maxLen; omega) (intKey (by omega)) ?_ rfl rfl rfl; intro w6 hm6 hg6)
  | (refine wp_ins (y := (6 : Int)) (u := .func (.func 177) #[] #[]) eInt_inj hm6 intKeyed Tryz.underlying181 (by unfold maxLen; omega) (intKey (by omega)) ?_ rfl rfl rfl; intro w7 hm7 hg7)
  | (refine wp_ins (y := (7 : Int)) (u := .func (.func 178) #[] #[]) eInt_inj hm7 intKeyed Tryz.underlying181 (by unfold maxLen; omega) (intKey (by omega)) ?_ rfl rfl rfl; intro w8 hm8 hg8))
 go_ret
 have hx8 : Ext w w8 := (((((((hx0.grownM hg1 (Nat.le_refl _)).grownM hg2 (Nat.le_refl _)).grownM hg3 (Nat.le_refl _)).grownM hg4 (Nat.le_refl _)).grownM hg5 (Nat.le_refl _)).grownM hg6 (Nat.le_refl _)).grownM hg7 (Nat.le_refl _)).grownM hg8 (Nat.le_refl _)
 refine ⟨⟨_, _, rfl, hm8.congr fun z => ?_⟩, hx8⟩
 unfold condF
 by_cases hz : 0 ≤ z ∧ z < 8
 ·rw [if_pos hz]
  have h8 : z = 0 ∨ z = 1 ∨ z = 2 ∨ z = 3 ∨ z = 4 ∨ z = 5 ∨ z = 6 ∨ z = 7 := by omega
  rcases h8 with rfl | rfl | rfl | rfl | rfl | rfl | rfl | rfl <;> rfl
 ·rw [if_neg hz, if_neg (by omega), if_neg (by omega), if_neg (by omega), if_neg (by omega), if_neg (by omega), if_neg (by omega), if_neg (by omega), if_neg (by omega)]
end Go.Proofs.YtojdediohjghnaaGreatDoor
/- Stacked symbols, the program's side: the patterns' indices as a map. -/
namespace Go.Proofs.YtojdediohjghnaaGreatDoor
open Go.RowKit Go.MapKept Go.ChangeMaps Go.Maps

abbrev L8 := {l : List Int // l.length = 8}
abbrev eW8 (x : L8) : Value := .agg (w8F x.1).toArray
theorem eW8_inj (x y : L8) (h : eW8 x = eW8 y) : x = y := by
 obtain ⟨a, ha⟩ := x; obtain ⟨b, hb⟩ := y
 obtain ⟨a0, a1, a2, a3, a4, a5, a6, a7, rfl⟩ := eight_of ha
 obtain ⟨b0, b1, b2, b3, b4, b5, b6, b7, rfl⟩ := eight_of hb
 have h2 : (Value.agg #[.int .i64 a0, .int .i64 a1, .int .i64 a2, .int .i64 a3, .int .i64 a4, .int .i64 a5, .int .i64 a6, .int .i64 a7]) = (Value.agg #[.int .i64 b0, .int .i64 b1, .int .i64 b2, .int .i64 b3, .int .i64 b4, .int .i64 b5, .int .i64 b6, .int .i64 b7]) := h
 simp at h2
 obtain ⟨rfl, rfl, rfl, rfl, rfl, rfl, rfl, rfl⟩ := h2
 rfl
theorem w8Keyed : Keyed Tryz.prog 254 := Keyed.of_law (deep_law_gate lawLaid (of_decide_eq_true (by kernel_rfl)) (of_decide_eq_true (by kernel_rfl)) (by kernel_rfl) (by kernel_rfl))
theorem cells8 : Tryz.prog.cellsOf 254 = 8 := by kernel_rfl
theorem lits_w8 {a0 a1 a2 a3 a4 a5 a6 a7 : Int} (h0 : (Lit.int .i64 a0).wf = true) (h1 : (Lit.int .i64 a1).wf = true) (h2 : (Lit.int .i64 a2).wf = true) (h3 : (Lit.int .i64 a3).wf = true) (h4 : (Lit.int .i64 a4).wf = true) (h5 : (Lit.int .i64 a5).wf = true) (h6 : (Lit.int .i64 a6).wf = true) (h7 : (Lit.int .i64 a7).wf = true) : ∀ d, 2 ≤ d →
  ∃ kl, Tryz.prog.keyLits d 254 [.int .i64 a0, .int .i64 a1, .int .i64 a2, .int .i64 a3, .int .i64 a4, .int .i64 a5, .int .i64 a6, .int .i64 a7] = some kl
 | 0, hd => by omega
 | d + 1, hd => by
  unfold Program.keyLits
  rw [Tryz.underlying254]
  simp only [cells8, cells1]
  have hr : List.range 8 = [0, 1, 2, 3, 4, 5, 6, 7] := rfl
  refine ⟨[.int .i64 a0, .int .i64 a1, .int .i64 a2, .int .i64 a3, .int .i64 a4, .int .i64 a5, .int .i64 a6, .int .i64 a7], ?_⟩
  simp [hr, lits_int h0 d (by omega), lits_int h1 d (by omega), lits_int h2 d (by omega), lits_int h3 d (by omega), lits_int h4 d (by omega), lits_int h5 d (by omega), lits_int h6 d (by omega), lits_int h7 d (by omega)]
theorem w8Key {x : L8} (h : ∀ v ∈ x.1, -9223372036854775808 ≤ v ∧ v ≤ 9223372036854775807) : ∃ kl, keyOf Tryz.prog 254 (eW8 x) = some kl := by
 obtain ⟨l, hl⟩ := x
 obtain ⟨a0, a1, a2, a3, a4, a5, a6, a7, rfl⟩ := eight_of hl
 have hs : 0 < Tryz.prog.types.size := of_decide_eq_true (by kernel_rfl)
 have hs2 : 2 ≤ Tryz.prog.types.size + 1 := two_le hs
 obtain ⟨kl, hkl⟩ := lits_w8 (WalkArith.wf_i64 (h a0 (by simp))) (WalkArith.wf_i64 (h a1 (by simp))) (WalkArith.wf_i64 (h a2 (by simp))) (WalkArith.wf_i64 (h a3 (by simp))) (WalkArith.wf_i64 (h a4 (by simp))) (WalkArith.wf_i64 (h a5 (by simp))) (WalkArith.wf_i64 (h a6 (by simp))) (WalkArith.wf_i64 (h a7 (by simp))) (Tryz.prog.types.size + 1) hs2
 have hkt : Tryz.prog.keyType 254 = true := by kernel_rfl
 have hf : (Value.agg #[.int .i64 a0, .int .i64 a1, .int .i64 a2, .int .i64 a3, .int .i64 a4, .int .i64 a5, .int .i64 a6, .int .i64 a7]).formed Tryz.prog 254 = true := by kernel_rfl
 refine ⟨.string (keyBytes kl), ?_⟩
 unfold keyOf
 rw [Tryz.underlying254]
 show (if (Tryz.prog.keyType 254 && (Value.agg #[.int .i64 a0, .int .i64 a1, .int .i64 a2, .int .i64 a3, .int .i64 a4, .int .i64 a5, .int .i64 a6, .int .i64 a7]).formed Tryz.prog 254) = true then (Tryz.prog.keyLits (Tryz.prog.types.size + 1) 254 [.int .i64 a0, .int .i64 a1, .int .i64 a2, .int .i64 a3, .int .i64 a4, .int .i64 a5, .int .i64 a6, .int .i64 a7]).map fun ls => Lit.string (keyBytes ls) else none) = _
 rw [hkt, hf, hkl]
 rfl
def idxF (n : Nat) (x : L8) : Option Value := match idxP x.1 with
 | some i => if i < n then some (.int .i64 i) else none
 | none => none
theorem idxF_zero (x : L8) : idxF 0 x = none := by
 unfold idxF
 split <;> rfl
theorem idxF_succ {n : Nat} (hn : n < 120) (y x : L8) (hy : y.1 = PAT.getD n []) : idxF (n + 1) x = if x = y then some (.int .i64 n) else idxF n x := by
 have hi := idxP_at n hn
 by_cases h : x = y
 ·subst h
  rw [if_pos rfl]
  unfold idxF
  rw [hy, hi]
  exact if_pos (Nat.lt_succ_self n)
 ·rw [if_neg h]
  unfold idxF
  cases hx : idxP x.1 with
  | none => rfl
  | some i =>
   have hne : i ≠ n := fun e => h (Subtype.ext (by rw [hy, ← (idxP_some hx).2, e]))
   have : (i < n + 1) = (i < n) := by simp; omega
   simp only [this]
theorem PAT_in : ∀ p ∈ PAT, ∀ v ∈ p, 1 ≤ v ∧ v ≤ 11 := by decide +kernel
end Go.Proofs.YtojdediohjghnaaGreatDoor
