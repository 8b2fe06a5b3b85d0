/- The standard format: its words, distances, what is nearest; plain. -/
import Derived.Test.YtojdediohjghnaaGreatDoorLSurvivesDamageK03
import Derived.Test.YtojdediohjghnaaGreatDoorLSurvivesDamageK04
import Derived.Test.YtojdediohjghnaaGreatDoorLSurvivesDamageK05
import Derived.Deep.DeepCutAuto
set_option linter.unusedVariables false
set_option linter.unusedSimpArgs false
namespace Go.Proofs.YtojdediohjghnaaGreatDoor
open Go.RowKit

def fmtStep (at_ r : Nat) : Nat := if (r >>> at_) &&& 1 = 1 then r ^^^ (1335 <<< (at_ - 10)) else r
def fmtTo (v : Nat) : Nat → Nat
 | 0 => v <<< 10
 | j + 1 => fmtStep (14 - j) (fmtTo v j)
def fmtNum (v : Nat) : Nat := (v <<< 10) ||| fmtTo v 5
theorem fmtTo_bd : ∀ v, v < 32 → ∀ j, j < 6 → fmtTo v j < 32768 := by decide +kernel
theorem fmtTo_low : ∀ v, v < 32 → fmtTo v 5 < 1024 := by decide +kernel
theorem fmtNum_bd : ∀ v, v < 32 → fmtNum v < 32768 := by decide +kernel
def fmtW (v : Nat) : List Int := bitsOf (fmtNum v : Int) 15
theorem fmtW_len (v : Nat) : (fmtW v).length = 15 := by simp [fmtW, bitsOf]
theorem fmtW_split : ∀ v : Nat, v < 32 → bitsOf (v : Int) 5 ++ bitsOf (fmtTo v 5 : Int) 10 = fmtW v := by decide +kernel
theorem fmtW_bd : ∀ v, v < 32 → ∀ x ∈ fmtW v, 0 ≤ x ∧ x ≤ 1 := by
 intro v _ x hx
 simp only [fmtW, bitsOf, List.mem_map] at hx
 obtain ⟨j, _, rfl⟩ := hx
 omega

def pop : Nat → Nat → Nat
 | 0, _ => 0
 | k + 1, x => x % 2 + pop k (x / 2)
theorem pop_le : ∀ k x, pop k x ≤ k := by
 intro k
 induction k with
 | zero => intro x; simp [pop]
 | succ k ih => intro x; have := ih (x / 2); simp only [pop]; omega

def difTo (w l : List Int) : Nat → Nat
 | 0 => 0
 | k + 1 => difTo w l k + if l.getD k 0 < 0 then 0 else if l.getD k 0 = w.getD k 0 then 0 else 1
def unkTo (l : List Int) : Nat → Nat
 | 0 => 0
 | k + 1 => unkTo l k + if l.getD k 0 < 0 then 1 else 0
theorem difTo_le (w l : List Int) : ∀ k, difTo w l k ≤ k
 | 0 => Nat.le_refl _
 | k + 1 => by
  have := difTo_le w l k
  unfold difTo
  split
  ·omega
  ·split <;> omega
theorem unkTo_le (l : List Int) : ∀ k, unkTo l k ≤ k
 | 0 => Nat.le_refl _
 | k + 1 => by
  have := unkTo_le l k
  unfold unkTo
  split <;> omega
def knwTo (l : List Int) : Nat → Nat
 | 0 => 0
 | k + 1 => if l.getD k 0 < 0 then knwTo l k <<< 1 else (knwTo l k <<< 1) ||| 1
def wrdTo (l : List Int) : Nat → Nat
 | 0 => 0
 | k + 1 => if l.getD k 0 < 0 then wrdTo l k <<< 1 else (wrdTo l k <<< 1) ||| (l.getD k 0).toNat
theorem shl1_or {a b : Nat} (hb : b ≤ 1) : (a <<< 1) ||| b = 2 * a + b := by
 rw [Nat.shiftLeft_eq]
 have : b = 0 ∨ b = 1 := by omega
 rcases this with rfl | rfl
 ·simp; omega
 ·rw [show a * 2 ^ 1 = 2 * a by omega]
  have := Nat.two_pow_add_eq_or_of_lt (i := 1) (b := 1) (by omega) a
  simpa using this.symm
def fmL (l : List Int) : Prop := ∀ x ∈ l, -1 ≤ x ∧ x ≤ 1
theorem fmL_at {l : List Int} (h : fmL l) (k : Nat) : -1 ≤ l.getD k 0 ∧ l.getD k 0 ≤ 1 := by
 by_cases hk : k < l.length
 ·rw [List.getD_eq_getElem?_getD, List.getElem?_eq_getElem hk]; exact h _ (List.getElem_mem _)
 ·rw [List.getD_eq_getElem?_getD, List.getElem?_eq_none (by omega)]; simp
theorem kw_bd {l : List Int} (h : fmL l) : ∀ k, knwTo l k < 2 ^ k ∧ wrdTo l k < 2 ^ k
 | 0 => by simp [knwTo, wrdTo]
 | k + 1 => by
  have h1 := kw_bd h k
  have h2 := fmL_at h k
  unfold knwTo wrdTo
  rw [Nat.pow_succ]
  split
  ·simp only [Nat.shiftLeft_eq]; omega
  ·rw [shl1_or (Nat.le_refl 1), shl1_or (by omega)]; omega
theorem getD_bits (n : Nat) (wd k : Nat) (h : k < wd) : (bitsOf (n : Int) wd).getD k 0 = ((n / 2 ^ (wd - 1 - k) % 2 : Nat) : Int) := by
 rw [List.getD_eq_getElem?_getD, List.getElem?_eq_getElem (by rw [bitsOf_len]; omega)]
 simp [bitsOf]
theorem pop_dif {l : List Int} (h : fmL l) (N : Nat) : ∀ k, k ≤ 15 → pop k (((N >>> (15 - k)) ^^^ wrdTo l k) &&& knwTo l k) = difTo (bitsOf (N : Int) 15) l k
 | 0, _ => by simp [pop, difTo]
 | k + 1, hk => by
  have ih := pop_dif h N k (by omega)
  have h2 := fmL_at h k
  have hg : (bitsOf (N : Int) 15).getD k 0 = ((N / 2 ^ (15 - 1 - k) % 2 : Nat) : Int) := getD_bits N 15 k (by omega)
  have hs : (N >>> (15 - (k + 1))) / 2 = N >>> (15 - k) := by
   rw [Nat.shiftRight_eq_div_pow, Nat.shiftRight_eq_div_pow, Nat.div_div_eq_div_mul, show 15 - k = (15 - (k + 1)) + 1 by omega, Nat.pow_succ]
  have hm : (N >>> (15 - (k + 1))) % 2 = N / 2 ^ (15 - 1 - k) % 2 := by rw [Nat.shiftRight_eq_div_pow, show 15 - (k + 1) = 15 - 1 - k by omega]
  unfold pop difTo
  rw [Nat.and_div_two, Nat.xor_div_two, hs, ← ih]
  have hmod : (((N >>> (15 - (k + 1))) ^^^ wrdTo l (k + 1)) &&& knwTo l (k + 1)) % 2 = (((N / 2 ^ (15 - 1 - k) % 2) ^^^ (wrdTo l (k + 1) % 2)) &&& (knwTo l (k + 1) % 2)) := by
   have := Nat.and_mod_two_pow (a := (N >>> (15 - (k + 1))) ^^^ wrdTo l (k + 1)) (b := knwTo l (k + 1)) (n := 1)
   simp only [Nat.pow_one] at this
   rw [this]
   have h3 := Nat.xor_mod_two_pow (a := N >>> (15 - (k + 1))) (b := wrdTo l (k + 1)) (n := 1)
   simp only [Nat.pow_one] at h3
   rw [h3, hm]
  rw [hmod]
  rw [hg]
  have ek : knwTo l (k + 1) = if l.getD k 0 < 0 then knwTo l k <<< 1 else (knwTo l k <<< 1) ||| 1 := rfl
  have ew : wrdTo l (k + 1) = if l.getD k 0 < 0 then wrdTo l k <<< 1 else (wrdTo l k <<< 1) ||| (l.getD k 0).toNat := rfl
  rw [ek, ew]
  clear ek ew hmod ih
  generalize l.getD k 0 = x at *
  have hb : N / 2 ^ (15 - 1 - k) % 2 = 0 ∨ N / 2 ^ (15 - 1 - k) % 2 = 1 := by omega
  by_cases hx : x < 0
  ·simp only [hx, if_true]
   rw [Nat.shiftLeft_eq, Nat.shiftLeft_eq, show wrdTo l k * 2 ^ 1 / 2 = wrdTo l k by omega, show knwTo l k * 2 ^ 1 / 2 = knwTo l k by omega, show knwTo l k * 2 ^ 1 % 2 = 0 by omega]
   simp
  ·simp only [hx, if_false]
   rw [shl1_or (Nat.le_refl 1), shl1_or (show x.toNat ≤ 1 by omega)]
   rw [show (2 * wrdTo l k + x.toNat) / 2 = wrdTo l k by omega, show (2 * knwTo l k + 1) / 2 = knwTo l k by omega, show (2 * knwTo l k + 1) % 2 = 1 by omega, show (2 * wrdTo l k + x.toNat) % 2 = x.toNat by omega]
   have hx2 : x = 0 ∨ x = 1 := by omega
   rcases hx2 with rfl | rfl <;> rcases hb with hb | hb <;> rw [hb] <;> simp <;> omega

def bestTo (D : Nat → Nat) : Nat → Nat × Nat
 | 0 => (0, 16)
 | v + 1 => if D v < (bestTo D v).2 then (v, D v) else bestTo D v
theorem bestTo_bd {D : Nat → Nat} (h : ∀ v, D v ≤ 15) : ∀ v, (bestTo D v).1 ≤ v ∧ (bestTo D v).2 ≤ 16 ∧ (0 < v → (bestTo D v).1 < v ∧ (bestTo D v).2 ≤ 15)
 | 0 => by simp [bestTo]
 | v + 1 => by
  have h1 := bestTo_bd h v
  have h2 := h v
  unfold bestTo
  split
  ·simp; omega
  ·rename_i h3
   refine ⟨by omega, h1.2.1, fun _ => ?_⟩
   by_cases h0 : v = 0
   ·subst h0; simp [bestTo] at h3; omega
   ·have := h1.2.2 (by omega); omega
theorem bestTo_is {D : Nat → Nat} {v0 : Nat} (h16 : D v0 < 16) (hmin : ∀ v, v < 32 → v ≠ v0 → D v0 < D v) : ∀ n, n ≤ 32 → v0 < n → bestTo D n = (v0, D v0) := by
 have hpre : ∀ n, n ≤ v0 → n ≤ 32 → D v0 < (bestTo D n).2 := by
  intro n
  induction n with
  | zero => intro _ _; exact h16
  | succ n ih =>
   intro h1 h2
   unfold bestTo
   split
   ·exact hmin n (by omega) (by omega)
   ·exact ih (by omega) (by omega)
 intro n
 induction n with
 | zero => intro _ h; omega
 | succ n ih =>
  intro h1 h2
  unfold bestTo
  by_cases e : n = v0
  ·subst e
   rw [if_pos (hpre n (Nat.le_refl _) (by omega))]
  ·have := ih (by omega) (by omega)
   rw [this]
   have := hmin n (by omega) e
   rw [if_neg (by simp; omega)]
def nearV (l : List Int) : Nat × Nat := bestTo (fun v => difTo (fmtW v) l 15) 32
theorem nearV_bd (l : List Int) : (nearV l).1 < 32 ∧ (nearV l).2 ≤ 15 := (bestTo_bd (fun v => difTo_le _ _ 15) 32).2.2 (by omega)
def costV (l : List Int) : Nat := 2 * (nearV l).2 + unkTo l 15
def shareV (a b : List Int) : Int × Int :=
 if 7 ≤ costV a ∧ 7 ≤ costV b then (0, 7) else if 7 ≤ costV a ∨ (costV b < 7 ∧ costV b < costV a) then (((nearV b).1 : Nat), 0) else (((nearV a).1 : Nat), 0)

theorem fmt_far : ∀ v, v < 32 → ∀ u, u < 32 → u ≠ v → 7 ≤ difTo (fmtW u) (fmtW v) 15 := by decide +kernel
theorem difTo_succ {w l : List Int} {k : Nat} (h : 0 ≤ l.getD k 0) : difTo w l (k + 1) = difTo w l k + if l.getD k 0 = w.getD k 0 then 0 else 1 := by
 show difTo w l k + (if l.getD k 0 < 0 then 0 else if l.getD k 0 = w.getD k 0 then 0 else 1) = _
 rw [if_neg (by omega)]
theorem dif_tri (u v l : List Int) (hl : ∀ k, 0 ≤ l.getD k 0) (hv : ∀ k, 0 ≤ v.getD k 0) : ∀ k, difTo u v k ≤ difTo u l k + difTo v l k
 | 0 => by simp [difTo]
 | k + 1 => by
  have ih := dif_tri u v l hl hv k
  rw [difTo_succ (hv k), difTo_succ (hl k), difTo_succ (hl k)]
  generalize u.getD k 0 = x at *
  generalize v.getD k 0 = y at *
  generalize l.getD k 0 = z at *
  by_cases e1 : y = x
  ·rw [if_pos e1]; omega
  ·rw [if_neg e1]
   by_cases e2 : z = x
   ·have e3 : ¬ z = y := fun h => e1 (by rw [← h, e2])
    rw [if_pos e2, if_neg e3]; omega
   ·rw [if_neg e2]; omega
theorem unk_none {l : List Int} (hl : ∀ k, 0 ≤ l.getD k 0) : ∀ k, unkTo l k = 0
 | 0 => rfl
 | k + 1 => by
  have := hl k
  unfold unkTo
  rw [unk_none hl k, if_neg (by omega)]
theorem fmtW_at {v : Nat} (hv : v < 32) (k : Nat) : 0 ≤ (fmtW v).getD k 0 := by
 by_cases hk : k < (fmtW v).length
 ·rw [List.getD_eq_getElem?_getD, List.getElem?_eq_getElem hk]; exact (fmtW_bd v hv _ (List.getElem_mem _)).1
 ·rw [List.getD_eq_getElem?_getD, List.getElem?_eq_none (by omega)]; simp
theorem near_is {v : Nat} (hv : v < 32) {l : List Int} (hl : ∀ k, 0 ≤ l.getD k 0) (h3 : difTo (fmtW v) l 15 ≤ 3) : nearV l = (v, difTo (fmtW v) l 15) ∧ costV l ≤ 6 := by
 have h1 : nearV l = (v, difTo (fmtW v) l 15) := bestTo_is (D := fun v => difTo (fmtW v) l 15) (by show difTo (fmtW v) l 15 < 16; omega) (fun u hu hne => by
  have a1 := fmt_far v hv u hu hne
  have a2 := dif_tri (fmtW u) (fmtW v) l hl (fmtW_at hv) 15
  show difTo (fmtW v) l 15 < difTo (fmtW u) l 15
  omega) 32 (Nat.le_refl _) hv
 refine ⟨h1, ?_⟩
 unfold costV
 rw [h1, unk_none hl]
 show 2 * difTo (fmtW v) l 15 + 0 ≤ 6
 omega
theorem share_is {v : Nat} (hv : v < 32) {a b : List Int} (ha : ∀ k, 0 ≤ a.getD k 0) (hb : ∀ k, 0 ≤ b.getD k 0) (ha3 : difTo (fmtW v) a 15 ≤ 3) (hb3 : difTo (fmtW v) b 15 ≤ 3) : shareV a b = ((v : Int), 0) := by
 obtain ⟨a1, a2⟩ := near_is hv ha ha3
 obtain ⟨b1, b2⟩ := near_is hv hb hb3
 unfold shareV
 rw [if_neg (by omega), a1, b1]
 split <;> rfl
open Go.RowKit

abbrev vStd : Value := .agg #[.int .i64 5, .int .i64 15, .int .i64 1335]
theorem iStdFmt_c (w : World) : Calls Tryz.prog 166 #[] w fun e w' => e = .returned vStd ∧ Ext w w' := by
 go_enter Tryz.func166, Tryz.ntmps166
 go_wp2
 exact bodyPost_ret (v := vStd) (by simp [results, Tryz.results166, go_sem]) rfl ⟨rfl, eX⟩
theorem fmtTo_succ (v j : Nat) : fmtTo v (j + 1) = fmtStep (14 - j) (fmtTo v j) := rfl
set_option maxRecDepth 100000 in
theorem number_c (v : Nat) (w : World) (hv : v < 32) : Calls Tryz.prog 214 #[vStd, .int .i64 v] w fun e w' => e = .returned (.int .i64 (fmtNum v)) ∧ Ext w w' := by
 have e0 : fmtTo v 0 = v * 1024 := by show v <<< 10 = _; rw [Nat.shiftLeft_eq]
 have hfin : bits .or .i64 ((v : Int) * 1024) (fmtTo v 5) = (fmtNum v : Int) := by
  have := bits_or_nat (v * 1024) (fmtTo v 5) (by omega) (by have := fmtTo_bd v hv 5 (by omega); omega)
  rw [Int.natCast_mul] at this
  rw [show ((v : Int) * 1024) = (v : Int) * ((1024 : Nat) : Int) from rfl, this]
  show _ = (((v <<< 10) ||| fmtTo v 5 : Nat) : Int)
  rw [Nat.shiftLeft_eq]
 replace e0 := Lib.hid e0
 have hy : fmtNum v < 32768 := fmtNum_bd v hv
 generalize fmtNum v = y at *
 go_enter Tryz.func214, Tryz.ntmps214
 go_wp2
 go_loop [6, 7] (fun r a => ∃ j : Nat, j ≤ 5 ∧ a = .int .i64 (14 - j) ∧ r = .int .i64 (fmtTo v j)) (fun _ a => (intOf a - 9).toNat)
 case atStart => exact ⟨0, by omega, by go_num, by rw [e0.out]; go_num⟩
 case round =>
  obtain ⟨j, hj, rfl, rfl⟩ := hrel
  by_cases hlt : j < 5
  ·have hst := fmtTo_succ v j
   have hbd := fmtTo_bd v hv j (by omega)
   have hj4 : j = 0 ∨ j = 1 ∨ j = 2 ∨ j = 3 ∨ j = 4 := by omega
   have hand : bits .and .i64 ((fmtTo v j : Int) / 2 ^ (14 - j)) 1 = ((fmtTo v j >>> (14 - j) &&& 1 : Nat) : Int) := by
    have := bits_and_nat (fmtTo v j >>> (14 - j)) 1 (by have := Nat.shiftRight_le (fmtTo v j) (14 - j); omega) (by omega)
    rw [← this, Nat.shiftRight_eq_div_pow]
    simp
   have hxor : bits .xor .i64 (fmtTo v j : Int) (wrap64 (1335 * 2 ^ (14 - j - 10))) = ((fmtTo v j ^^^ 1335 <<< (14 - j - 10) : Nat) : Int) := by
    have : wrap64 (1335 * 2 ^ (14 - j - 10)) = ((1335 <<< (14 - j - 10) : Nat) : Int) := by
     rcases hj4 with rfl | rfl | rfl | rfl | rfl <;> simp [wrap64]
    rw [this]
    exact bits_xor_nat _ _ (by omega) (by rcases hj4 with rfl | rfl | rfl | rfl | rfl <;> decide)
   rw [fmtStep] at hst
   obtain ⟨r', hr'⟩ : ∃ r', fmtTo v (j + 1) = r' := ⟨_, rfl⟩
   rw [hr'] at hst
   replace hr' := Lib.hid hr'
   generalize fmtTo v j = r at *
   clear hj4
   by_cases hb : r >>> (14 - j) &&& 1 = 1
   ·rw [if_pos hb] at hst
    rw [hb] at hand
    rw [← hst] at hxor
    replace hst := Lib.hid hst; replace hb := Lib.hid hb
    go_wp2
    go_round
    case rel => exact ⟨j + 1, hlt, by go_num, by rw [hr'.out]⟩
    case measure => simp [intOf]; omega
   ·have h0 : r >>> (14 - j) &&& 1 = 0 := by rw [Nat.and_one_is_mod] at *; omega
    rw [if_neg hb] at hst
    rw [h0] at hand
    replace hst := Lib.hid hst; clear hb h0
    go_wp2
    go_round
    case rel => exact ⟨j + 1, hlt, by go_num, by rw [hr'.out, hst.out]⟩
    case measure => simp [intOf]; omega
  ·obtain rfl : j = 5 := by omega
   go_wp2
   go_ret
   exact ⟨rfl, eX⟩

def o1 (x : Nat) : Nat := ((x / 2) &&& 6148914691236517205) + (x &&& 6148914691236517205)
def o2 (x : Nat) : Nat := ((x / 4) &&& 3689348814741910323) + (x &&& 3689348814741910323)
def o3 (x : Nat) : Nat := (x / 16 + x) &&& 1085102592571150095
def o4 (x : Nat) : Nat := x + x / 256
def o5 (x : Nat) : Nat := x + x / 65536
def o6 (x : Nat) : Nat := x + x / 4294967296
def p15 (x : Nat) : Nat := x % 2 + (x / 2 % 2 + (x / 4 % 2 + (x / 8 % 2 + (x / 16 % 2 + (x / 32 % 2 + (x / 64 % 2 + (x / 128 % 2 + (x / 256 % 2 + (x / 512 % 2 + (x / 1024 % 2 + (x / 2048 % 2 + (x / 4096 % 2 + (x / 8192 % 2 + x / 16384 % 2)))))))))))))
theorem p15_eq (x : Nat) : pop 15 x = p15 x := by
 simp only [pop, p15, Nat.div_div_eq_div_mul, Nat.reduceMul, Nat.add_zero]
def onesB (x : Nat) : Bool := Nat.beq (o6 (o5 (o4 (o3 (o2 (o1 x))))) &&& 127) (p15 x)
def rgB (p : Nat → Bool) (lo n : Nat) : Bool := Nat.rec true (fun k b => cond (p (lo + k)) b false) n
theorem rgB_of {p : Nat → Bool} {lo : Nat} : ∀ n, rgB p lo n = true → ∀ k, k < n → p (lo + k) = true
 | 0, _, k, h => by omega
 | n + 1, h, k, hk => by
  have e : rgB p lo (n + 1) = cond (p (lo + n)) (rgB p lo n) false := rfl
  rw [e] at h
  cases hp : p (lo + n) with
  | false => rw [hp] at h; cases h
  | true =>
   rw [hp] at h
   by_cases e : k = n
   ·rw [e]; exact hp
   ·exact rgB_of n h k (by omega)
theorem onesB_all : rgB (fun a => rgB onesB (256 * a) 256) 0 128 = true := by decide +kernel
theorem ones_ok (x : Nat) (h : x < 32768) : o6 (o5 (o4 (o3 (o2 (o1 x))))) &&& 127 = pop 15 x := by
 have h1 := rgB_of 128 onesB_all (x / 256) (by omega)
 have h2 := rgB_of 256 h1 (x % 256) (by omega)
 rw [Nat.zero_add, Nat.div_add_mod] at h2
 rw [p15_eq]
 exact Nat.eq_of_beq_eq_true h2
theorem bits_and_u (a b : Nat) (ha : a < 18446744073709551616) (hb : b < 18446744073709551616) : bits .and .u64 (a : Int) (b : Int) = ((a &&& b : Nat) : Int) := by
 have hx : a &&& b < 2 ^ 64 := Nat.and_lt_two_pow _ (by omega)
 show IntKind.u64.wrap ((BitVec.ofInt 64 (a : Int) &&& BitVec.ofInt 64 (b : Int)).toNat : Int) = _
 rw [BitVec.toNat_and, ofInt_nat a (by omega), ofInt_nat b (by omega)]
 show (((a &&& b : Nat) : Int)) % 18446744073709551616 = _
 omega
theorem wrap_u (a : Nat) (ha : a < 18446744073709551616) : IntKind.u64.wrap (a : Int) = (a : Int) := by
 show (a : Int) % 18446744073709551616 = _
 omega
set_option maxRecDepth 100000 in
theorem ones_c (x : Nat) (w : World) (hx : x < 32768) : Calls Tryz.prog 213 #[.int .u64 x] w fun e w' => e = .returned (.int .i64 (pop 15 x)) ∧ w = w' := by
 have hp := ones_ok x hx
 have b1 : o1 x < 65536 := by
  have := Nat.and_le_left (n := x / 2) (m := 6148914691236517205)
  have := Nat.and_le_left (n := x) (m := 6148914691236517205)
  unfold o1; omega
 have e1 : IntKind.u64.wrap (bits .and .u64 ((x : Int) / 2) 6148914691236517205 + bits .and .u64 (x : Int) 6148914691236517205) = (o1 x : Int) := by
  have a1 := bits_and_u (x / 2) 6148914691236517205 (by omega) (by omega)
  have a2 := bits_and_u x 6148914691236517205 (by omega) (by omega)
  rw [Int.natCast_ediv] at a1
  have := wrap_u (o1 x) (by omega)
  unfold o1 at *
  rw [Int.natCast_add] at *
  rwa [← a1, ← a2] at *
 generalize o1 x = y1 at *
 have b2 : o2 y1 < 131072 := by
  have := Nat.and_le_left (n := y1 / 4) (m := 3689348814741910323)
  have := Nat.and_le_left (n := y1) (m := 3689348814741910323)
  unfold o2; omega
 have e2 : IntKind.u64.wrap (bits .and .u64 ((y1 : Int) / 4) 3689348814741910323 + bits .and .u64 (y1 : Int) 3689348814741910323) = (o2 y1 : Int) := by
  have a1 := bits_and_u (y1 / 4) 3689348814741910323 (by omega) (by omega)
  have a2 := bits_and_u y1 3689348814741910323 (by omega) (by omega)
  rw [Int.natCast_ediv] at a1
  have := wrap_u (o2 y1) (by omega)
  unfold o2 at *
  rw [Int.natCast_add] at *
  rwa [← a1, ← a2] at *
 generalize o2 y1 = y2 at *
 have b3 : o3 y2 < 262144 := by
  have := Nat.and_le_left (n := y2 / 16 + y2) (m := 1085102592571150095)
  unfold o3; omega
 have e3 : bits .and .u64 ((y2 : Int) / 16 + (y2 : Int)) 1085102592571150095 = (o3 y2 : Int) := by
  have a1 := bits_and_u (y2 / 16 + y2) 1085102592571150095 (by omega) (by omega)
  rw [Int.natCast_add, Int.natCast_ediv] at a1
  exact a1
 generalize o3 y2 = y3 at *
 have b4 : o4 y3 < 524288 := by unfold o4; omega
 have e4 : IntKind.u64.wrap ((y3 : Int) + (y3 : Int) / 256) = (o4 y3 : Int) := by
  have := wrap_u (y3 + y3 / 256) (by omega)
  simpa [o4] using this
 generalize o4 y3 = y4 at *
 have b5 : o5 y4 < 1048576 := by unfold o5; omega
 have e5 : IntKind.u64.wrap ((y4 : Int) + (y4 : Int) / 65536) = (o5 y4 : Int) := by
  have := wrap_u (y4 + y4 / 65536) (by omega)
  simpa [o5] using this
 generalize o5 y4 = y5 at *
 have e6 : IntKind.u64.wrap ((y5 : Int) + (y5 : Int) / 4294967296) = (o6 y5 : Int) := by
  have := wrap_u (y5 + y5 / 4294967296) (by omega)
  simpa [o6] using this
 have hb6 : o6 y5 < 9223372036854775807 := by unfold o6; omega
 generalize o6 y5 = y6 at *
 have e7 : bits .and .i64 (IntKind.i64.wrap (y6 : Int)) 127 = ((pop 15 x : Nat) : Int) := by
  rw [IntWalk.i64_in _ (by omega), ← hp]
  exact bits_and_nat y6 127 (by omega) (by omega)
 have e8 : bits .and .i64 (y6 : Int) 127 = ((pop 15 x : Nat) : Int) := by
  rw [← hp]
  exact bits_and_nat y6 127 (by omega) (by omega)
 clear hp
 generalize pop 15 x = z at *
 clear b1 b3 b4 b5
 go_enter Tryz.func213, Tryz.ntmps213
 go_wp2
 go_ret
 exact ⟨rfl, rfl⟩
def minW : Nat → Nat
 | 0 => 15
 | k + 1 => min (minW k) (pop 15 (fmtNum (k + 1)))
theorem minW_bd : ∀ k, minW k ≤ 15
 | 0 => Nat.le_refl _
 | k + 1 => Nat.le_trans (Nat.min_le_left _ _) (minW_bd k)
theorem minW_all : minW 31 = 7 := by decide +kernel
set_option maxRecDepth 100000 in
theorem fmtDist_c (w : World) : Calls Tryz.prog 215 #[vStd] w fun e w' => e = .returned (.int .i64 7) ∧ Ext w w' := by
 have hb := Blk.new w #[.int .i64 5, .int .i64 15, .int .i64 1335] 111
 have hx0 : Ext w (w.alloc (.cells #[.int .i64 5, .int .i64 15, .int .i64 1335] 111)) := (Ext.refl w).alloc _
 go_enter Tryz.func215, Tryz.ntmps215
 go_wp2
 generalize w.alloc (.cells #[.int .i64 5, .int .i64 15, .int .i64 1335] 111) = w0 at *
 go_loopw [3, 4] (fun b v wr => ∃ k : Nat, k ≤ 31 ∧ v = .int .i64 ((k + 1 : Nat) : Int) ∧ b = .int .i64 (minW k) ∧ Ext w0 wr) (fun _ v _ => (32 - intOf v).toNat)
 case atStart => exact ⟨0, by omega, rfl, rfl, eX⟩
 case round =>
  obtain ⟨k, hk, rfl, rfl, hext⟩ := hrel
  have hbr := hb.ext hext
  have f0 := hbr.cell (i := 0) (v := .int .i64 5) rfl
  have f1 := hbr.cell (i := 1) (v := .int .i64 15) rfl
  have f2 := hbr.cell (i := 2) (v := .int .i64 1335) rfl
  have fl := hbr.lt
  by_cases hlt : k < 31
  ·have hN := fmtNum_bd (k + 1) (by omega)
   have hm := minW_bd k
   have hst : minW (k + 1) = min (minW k) (pop 15 (fmtNum (k + 1))) := rfl
   have hp := pop_le 15 (fmtNum (k + 1))
   have hnc := Lib.hid (fun W => number_c (k + 1) W (by omega))
   obtain ⟨q, hq⟩ : ∃ q, k + 1 = q := ⟨_, rfl⟩
   rw [hq] at hN hst hp hnc
   generalize fmtNum q = N at *
   have hoc := Lib.hid (fun W => ones_c N W hN)
   generalize pop 15 N = z at *
   obtain ⟨m', hm'⟩ : ∃ m', minW q = m' := ⟨_, rfl⟩
   rw [hm'] at hst
   generalize minW k = m at *
   rw [hq]
   have hq32 : q < 32 := by omega
   replace hst := Lib.hid hst; replace hq := Lib.hid hq; replace hm' := Lib.hid hm'
   go_wp2_with (first | (go_at_call 214; (with_reducible refine (hnc.out _).mono ?_); rintro e w1 ⟨rfl, hx1⟩) | (go_at_call 213; (with_reducible refine (hoc.out _).mono ?_); rintro e w' ⟨rfl, rfl⟩))
   go_roundw
   case rel => exact ⟨q, by omega, by go_num, by rw [hm'.out, hst.out]; congr 1; first | omega | (split <;> omega), hext.trans hx1⟩
   case measure => simp [intOf]; omega
  ·obtain rfl : k = 31 := by omega
   have h7 : minW 31 = 7 := minW_all
   go_wp2
   go_ret
   exact ⟨rfl, hx0.trans hext⟩
open Go.RowKit

def dV (l : List Int) (v : Nat) : Nat := difTo (fmtW v) l 15
abbrev vNear (v d u c : Int) : Value := .agg #[.int .i64 v, .int .i64 d, .int .i64 u, .int .i64 c]
def nearR (l : List Int) : Value := vNear (nearV l).1 (nearV l).2 (unkTo l 15) (if 7 ≤ costV l then 7 else 0)
theorem cost_c (v d u c : Int) (w : World) (hd : 0 ≤ d ∧ d ≤ 1000) (hu : 0 ≤ u ∧ u ≤ 1000) : Calls Tryz.prog 199 #[vNear v d u c] w fun e w' => e = .returned (.int .i64 (2 * d + u)) ∧ Ext w w' := by
 go_enter Tryz.func199, Tryz.ntmps199
 go_wp2
 go_ret
 exact ⟨rfl, eX⟩
set_option maxHeartbeats 3200000 in
set_option maxRecDepth 100000 in
theorem nearest_c (p : Option Addr) (c : Nat) (l : List Int) (w : World) (hx : IntsAt w p l) (hlen : l.length = 15) (hf : fmL l) :
  Calls Tryz.prog 198 #[vStd, .slice p 15 c] w fun e w' => e = .returned (nearR l) ∧ Ext w w' := by
 have HX := Lib.hid hx; clear hx
 have HL := Lib.hid hlen; clear hlen
 have hb0 := ((Blk.new w #[.int .i64 5, .int .i64 15, .int .i64 1335] 111).alloc (.cells #[.int .i64 0, .int .i64 0, .int .i64 0, .int .i64 0] 249)).alloc (.cells #[.int .i64 0, .int .i64 0, .int .i64 0, .int .i64 0] 249)
 have hb1 := (Blk.new (w.alloc (.cells #[.int .i64 5, .int .i64 15, .int .i64 1335] 111)) #[.int .i64 0, .int .i64 0, .int .i64 0, .int .i64 0] 249).alloc (.cells #[.int .i64 0, .int .i64 0, .int .i64 0, .int .i64 0] 249)
 have hb2 := Blk.new ((w.alloc (.cells #[.int .i64 5, .int .i64 15, .int .i64 1335] 111)).alloc (.cells #[.int .i64 0, .int .i64 0, .int .i64 0, .int .i64 0] 249)) #[.int .i64 0, .int .i64 0, .int .i64 0, .int .i64 0] 249
 have hx0 : Ext w (((w.alloc (.cells #[.int .i64 5, .int .i64 15, .int .i64 1335] 111)).alloc (.cells #[.int .i64 0, .int .i64 0, .int .i64 0, .int .i64 0] 249)).alloc (.cells #[.int .i64 0, .int .i64 0, .int .i64 0, .int .i64 0] 249)) := (((Ext.refl w).alloc _).alloc _).alloc _
 simp only [World.size_alloc] at hb1 hb2
 have hbd := Lib.hid (fun v => fmtNum_bd v)
 have HF := Lib.hid hf; clear hf
 go_enter Tryz.func198, Tryz.ntmps198
 go_wp2
 generalize ((w.alloc (.cells #[.int .i64 5, .int .i64 15, .int .i64 1335] 111)).alloc (.cells #[.int .i64 0, .int .i64 0, .int .i64 0, .int .i64 0] 249)).alloc (.cells #[.int .i64 0, .int .i64 0, .int .i64 0, .int .i64 0] 249) = w0 at *
 go_loopw [6, 7, 22] (fun a b i wr => ∃ j : Nat, j ≤ 15 ∧ i = .int .i64 j ∧ a = .int .i64 (knwTo l j) ∧ b = .int .i64 (wrdTo l j) ∧ Blk wr w.heap.size #[.int .i64 5, .int .i64 15, .int .i64 1335] 111 ∧ Blk wr (w.heap.size + 1) #[.int .i64 0, .int .i64 0, .int .i64 0, .int .i64 0] 249 ∧ Blk wr (w.heap.size + 1 + 1) #[.int .i64 0, .int .i64 0, .int .i64 (unkTo l j), .int .i64 0] 249 ∧ Ext w wr) (fun _ _ i _ => 15 - (intOf i).toNat)
 case atStart => exact ⟨0, by omega, rfl, rfl, rfl, hb0, hb1, hb2, hx0⟩
 case round =>
  clear hb0 hb1 hb2 hx0
  obtain ⟨j, hj, rfl, rfl, rfl, hb0, hb1, hb2, hext⟩ := hrel
  by_cases hlt : j < 15
  ·obtain ⟨b, o, rfl, hbl, z1⟩ := (HX.out.ext hext) j (by rw [HL.out]; exact hlt)
   have hxb := fmL_at HF.out j
   have hkw := kw_bd HF.out j
   have hun := unkTo_le l j
   have eu : unkTo l (j + 1) = unkTo l j + if l.getD j 0 < 0 then 1 else 0 := rfl
   have ek : knwTo l (j + 1) = if l.getD j 0 < 0 then knwTo l j <<< 1 else (knwTo l j <<< 1) ||| 1 := rfl
   have ew : wrdTo l (j + 1) = if l.getD j 0 < 0 then wrdTo l j <<< 1 else (wrdTo l j <<< 1) ||| (l.getD j 0).toNat := rfl
   have hp2 : 2 ^ j ≤ 16384 := Nat.le_trans (Nat.pow_le_pow_right (by omega) (show j ≤ 14 by omega)) (by decide)
   have f2 := hb2.cell (i := 2) (v := .int .i64 (unkTo l j)) rfl
   have fl := hb2.lt
   have ff := hb2.free
   generalize l.getD j 0 = x at *
   generalize knwTo l j = K at *
   generalize wrdTo l j = W at *
   generalize unkTo l j = U at *
   obtain ⟨K1, hK1⟩ : ∃ z, knwTo l (j + 1) = z := ⟨_, rfl⟩
   obtain ⟨W1, hW1⟩ : ∃ z, wrdTo l (j + 1) = z := ⟨_, rfl⟩
   obtain ⟨U1, hU1⟩ : ∃ z, unkTo l (j + 1) = z := ⟨_, rfl⟩
   rw [hK1] at ek; rw [hW1] at ew; rw [hU1] at eu
   replace hK1 := Lib.hid hK1; replace hW1 := Lib.hid hW1; replace hU1 := Lib.hid hU1
   by_cases h0 : x < 0
   ·rw [if_pos h0] at ek ew eu
    rw [Nat.shiftLeft_eq] at ek ew
    replace ek := Lib.hid ek; replace ew := Lib.hid ew; replace eu := Lib.hid eu
    go_wp2_with (go_at_call 85; (with_reducible refine (inRange_c _ _ _ _).mono ?_); rintro e w1 ⟨⟨hP, rfl⟩ | ⟨hP, rfl⟩, rfl⟩ <;> first | (exfalso; omega) | skip)
    go_roundw
    case rel => exact ⟨j + 1, hlt, by go_num, by rw [hK1.out, ek.out]; go_num, by rw [hW1.out, ew.out]; go_num, hb0.far (by omega) _, hb1.far (by omega) _, by rw [hU1.out, eu.out]; exact hb2.set 2 _, hext.setCell (Nat.le_trans (Nat.le_succ _) (Nat.le_succ _)) _⟩
    case measure => simp [intOf]; omega
   ·rw [if_neg h0] at ek ew eu
    rw [shl1_or (Nat.le_refl 1)] at ek
    rw [shl1_or (show x.toNat ≤ 1 by omega)] at ew
    have ho1 : bits .or .i64 ((K : Int) * 2) 1 = (K1 : Int) := by
     have := bits_or_nat (2 * K) 1 (by omega) (by omega)
     rw [show (2 * K) ||| 1 = K1 by rw [ek, ← shl1_or (Nat.le_refl 1), Nat.shiftLeft_eq]; congr 1; omega] at this
     rw [← this]; congr 1; omega
    have ho2 : bits .or .i64 ((W : Int) * 2) x = (W1 : Int) := by
     have := bits_or_nat (2 * W) x.toNat (by omega) (by omega)
     rw [show (2 * W) ||| x.toNat = W1 by rw [ew, ← shl1_or (show x.toNat ≤ 1 by omega), Nat.shiftLeft_eq]; congr 1; omega] at this
     rw [← this]; congr 1 <;> omega
    replace ek := Lib.hid ek; replace ew := Lib.hid ew; replace eu := Lib.hid eu
    go_wp2_with (go_at_call 85; (with_reducible refine (inRange_c _ _ _ _).mono ?_); rintro e w1 ⟨⟨hP, rfl⟩ | ⟨hP, rfl⟩, rfl⟩ <;> first | (exfalso; omega) | skip)
    go_roundw
    case rel => exact ⟨j + 1, hlt, by go_num, by rw [hK1.out], by rw [hW1.out], hb0, hb1, by rw [hU1.out, eu.out]; exact hb2, hext⟩
    case measure => simp [intOf]; omega
  ·obtain rfl : j = 15 := by omega
   rw [show ((15 : Nat) : Int) = (15 : Int) from rfl]
   have hKb := kw_bd HF.out 15
   have hUb := unkTo_le l 15
   have hD : ∀ v, pop 15 ((fmtNum v ^^^ wrdTo l 15) &&& knwTo l 15) = dV l v := fun v => by
    have := pop_dif HF.out (fmtNum v) 15 (Nat.le_refl _)
    rwa [Nat.sub_self, Nat.shiftRight_zero] at this
   have hnv : nearV l = bestTo (dV l) 32 := rfl
   have hcv : costV l = 2 * (nearV l).2 + unkTo l 15 := rfl
   have hDb : ∀ v, dV l v ≤ 15 := fun v => difTo_le _ _ _
   have hR : nearR l = vNear (nearV l).1 (nearV l).2 (unkTo l 15) (if 7 ≤ costV l then 7 else 0) := rfl
   obtain ⟨R, hRe⟩ : ∃ R, nearR l = R := ⟨_, rfl⟩
   rw [hRe] at hR
   replace hRe := Lib.hid hRe
   generalize nearV l = nv at *
   generalize costV l = cv at *
   generalize dV l = D at *
   generalize knwTo l 15 = K at *
   generalize wrdTo l 15 = W at *
   generalize unkTo l 15 = U at *
   replace hR := Lib.hid hR
   replace hnv := Lib.hid hnv
   replace hcv := Lib.hid hcv
   replace hD := Lib.hid hD
   replace hDb := Lib.hid hDb
   have hbt := Lib.hid (bestTo_bd hDb.out)
   have f1 := hb0.cell (i := 1) (v := .int .i64 15) rfl
   have f2 := hb2.cell (i := 1) (v := .int .i64 0) rfl
   have fl := hb2.lt
   have ff := hb2.free
   have hmm := @run_makeMap Tryz.prog
   have f0l := hb0.lt
   go_wp2
   clear hmm f1 f2 ff f0l
   have hz2 := hb2.lt
   have hm := MapA.made (k := 2) (E := eInt) (wr.setCell ⟨w.heap.size + 1 + 1, 1, none⟩ (.int .i64 16))
   rw [show (wr.setCell ⟨w.heap.size + 1 + 1, 1, none⟩ (.int .i64 16)).heap.size = wr.heap.size by simp [World.setCell]] at hm
   have hb0' := (hb0.far (g' := w.heap.size + 1 + 1) (i := 1) (by omega) (.int .i64 16)).alloc (.map #[] 0)
   have hb1' := (hb1.far (g' := w.heap.size + 1 + 1) (i := 1) (by omega) (.int .i64 16)).alloc (.map #[] 0)
   have hb2' := (hb2.set 1 (.int .i64 16)).alloc (.map #[] 0)
   have hext' : Ext w ((wr.setCell ⟨w.heap.size + 1 + 1, 1, none⟩ (.int .i64 16)).alloc (.map #[] 0)) := (hext.setCell (Nat.le_trans (Nat.le_succ _) (Nat.le_succ _)) _).alloc _
   have hgm : w.heap.size + 1 + 1 < wr.heap.size := hz2
   clear hb0 hb1 hb2 hext
   generalize wr.heap.size = gm at *
   generalize (wr.setCell ⟨w.heap.size + 1 + 1, 1, none⟩ (.int .i64 16)).alloc (.map #[] 0) = w1 at *
   go_loopw [11] (fun i wr => ∃ v : Nat, v ≤ 32 ∧ i = .int .i64 v ∧ Blk wr w.heap.size #[.int .i64 5, .int .i64 15, .int .i64 1335] 111 ∧ Blk wr (w.heap.size + 1) #[.int .i64 0, .int .i64 0, .int .i64 0, .int .i64 0] 249 ∧ Blk wr (w.heap.size + 1 + 1) #[.int .i64 0, .int .i64 (bestTo D v).2, .int .i64 U, .int .i64 0] 249 ∧ MapA 2 eInt wr gm 1 (fun y => if 0 < v ∧ y = ((bestTo D v).2 : Int) then some (.int .i64 (bestTo D v).1) else none) ∧ Ext w wr) (fun i _ => 32 - (intOf i).toNat)
   case atStart => exact ⟨0, by omega, rfl, hb0', hb1', hb2', by simpa using hm.mono (Nat.zero_le 1), hext'⟩
   case round =>
    clear hb0' hb1' hb2' hext' hm
    obtain ⟨v, hv, rfl, hb0, hb1, hb2, hm, hext⟩ := hrel
    have f0 := hb0.cell (i := 0) (v := .int .i64 5) rfl
    have f1 := hb0.cell (i := 1) (v := .int .i64 15) rfl
    have f2 := hb0.cell (i := 2) (v := .int .i64 1335) rfl
    have fl := hb0.lt
    by_cases hlt : v < 32
    ·have hN := hbd.out v hlt
     have hDv := hD.out v
     have hDv2 := hDb.out v
     have hbe := hbt.out v
     have hst : bestTo D (v + 1) = if D v < (bestTo D v).2 then (v, D v) else bestTo D v := rfl
     have hnc := Lib.hid (fun W => number_c v W hlt)
     generalize fmtNum v = N at *
     have hX : N ^^^ W < 2 ^ 15 := Nat.xor_lt_two_pow hN hKb.2
     have hA : (N ^^^ W) &&& K < 2 ^ 15 := Nat.and_lt_two_pow _ hKb.1
     have e1 := bits_xor_nat N W (by omega) (by omega)
     have e2 := bits_and_nat (N ^^^ W) K (by omega) (by omega)
     have hoc := Lib.hid (fun W' => ones_c ((N ^^^ W) &&& K) W' hA)
     rw [hDv] at hoc
     clear hDv
     generalize (N ^^^ W) &&& K = A at *
     generalize N ^^^ W = X at *
     generalize D v = d at *
     obtain ⟨B', hB'⟩ : ∃ z, bestTo D (v + 1) = z := ⟨_, rfl⟩
     rw [hB'] at hst
     obtain ⟨L, hL⟩ : ∃ z, (bestTo D v).2 = z := ⟨_, rfl⟩
     obtain ⟨Z, hZ⟩ : ∃ z, (bestTo D v).1 = z := ⟨_, rfl⟩
     rw [hL] at hst hb2 hm hbe
     rw [hZ] at hm hbe
     have g1 := hb2.cell (i := 1) (v := .int .i64 L) rfl
     have gl := hb2.lt
     have gf := hb2.free
     have hd : d ≤ 15 := hDv2
     have hLb : L ≤ 16 := hbe.2.1
     clear hbe
     replace hB' := Lib.hid hB'; replace hL := Lib.hid hL; replace hZ := Lib.hid hZ
     by_cases hdl : d < L
     ·rw [if_pos hdl] at hst
      replace hst := Lib.hid hst
      go_wp2_with (first
       | (go_at_call 214; (with_reducible refine (hnc.out _).mono ?_); rintro e w2 ⟨rfl, hx2⟩)
       | (go_at_call 213; (with_reducible refine (hoc.out _).mono ?_); rintro e w' ⟨rfl, rfl⟩; have hb2n := hb2.ext hx2; have n1 := hb2n.cell (i := 1) (v := .int .i64 L) rfl; have nl := hb2n.lt)
       | (refine wp_clear (hm.ext hx2) Tryz.underlying266 ?_ rfl; intro w3 hm3 hg3; have hb23 := hb2n.grown hg3 (by omega); have m1 := hb23.cell (i := 1) (v := .int .i64 L) rfl; have ml := hb23.lt; have mf := hb23.free)
       | (refine wp_put (y := (d : Int)) (u := .int .i64 v) eInt_inj (hm3.set (a := ⟨w.heap.size + 1 + 1, 1, none⟩) (by show _ ≠ _; simp only; omega) (.int .i64 d)) intKeyed Tryz.underlying266 (by unfold maxLen; omega) (intKey (by omega)) ?_ rfl rfl rfl; intro w4 hm4 hg4))
      go_roundw
      case rel =>
       have k0 := ((((hb0.ext hx2).grown hg3 (by omega)).far (g' := w.heap.size + 1 + 1) (i := 1) (by omega) (.int .i64 d))).grown hg4 (by omega)
       have k1 := ((((hb1.ext hx2).grown hg3 (by omega)).far (g' := w.heap.size + 1 + 1) (i := 1) (by omega) (.int .i64 d))).grown hg4 (by omega)
       have k2 := (hb23.set 1 (.int .i64 d)).grown hg4 (by omega)
       have kx := (((hext.trans hx2).grownM hg3 (by omega)).setCell (p := ⟨w.heap.size + 1 + 1, 1, none⟩) (Nat.le_trans (Nat.le_succ _) (Nat.le_succ _)) (.int .i64 d)).grownM hg4 (by omega)
       refine ⟨v + 1, hlt, by go_num, k0, k1, by rw [hB'.out, hst.out]; exact k2, ?_, kx⟩
       rw [hB'.out, hst.out]
       have e : (fun y : Int => if 0 < v + 1 ∧ y = (((v, d) : Nat × Nat).2 : Int) then some (Value.int .i64 (((v, d) : Nat × Nat).1 : Int)) else none) = fun y => if y = (d : Int) then some (.int .i64 v) else none := by
        funext y; simp
       rw [e]
       exact hm4
      case measure => simp [intOf]; omega
     ·rw [if_neg hdl] at hst
      replace hst := Lib.hid hst
      have hv0 : 0 < v := by
       rcases Nat.eq_zero_or_pos v with rfl | h
       ·have : L = 16 := hL.out.symm
        omega
       ·exact h
      go_wp2_with (first
       | (go_at_call 214; (with_reducible refine (hnc.out _).mono ?_); rintro e w2 ⟨rfl, hx2⟩)
       | (go_at_call 213; (with_reducible refine (hoc.out _).mono ?_); rintro e w' ⟨rfl, rfl⟩; have hb2n := hb2.ext hx2; have n1 := hb2n.cell (i := 1) (v := .int .i64 L) rfl; have nl := hb2n.lt))
      go_roundw
      case rel =>
       refine ⟨v + 1, hlt, by go_num, hb0.ext hx2, hb1.ext hx2, by rw [hB'.out, hst.out, hL.out]; exact hb2n, ?_, hext.trans hx2⟩
       rw [hB'.out, hst.out, hL.out, hZ.out]
       have e : (fun y : Int => if 0 < v + 1 ∧ y = (L : Int) then some (Value.int .i64 (Z : Int)) else none) = fun y => if 0 < v ∧ y = (L : Int) then some (.int .i64 Z) else none := by
        funext y; simp [hv0]
       rw [e]
       exact hm.ext hx2
      case measure => simp [intOf]; omega
    ·obtain rfl : v = 32 := by omega
     have hbe := hbt.out 32
     rw [← hnv.out] at hb2 hm hbe
     obtain ⟨Z, L⟩ := nv
     have hZL := hbe.2.2 (by omega)
     simp only at hb2 hm hZL
     have e : (fun y : Int => if 0 < 32 ∧ y = (L : Int) then some (Value.int .i64 (Z : Int)) else none) = fun y => if y = (L : Int) then some (.int .i64 Z) else none := by
      funext y; simp
     rw [e] at hm
     clear hbe e
     have g1 := hb2.cell (i := 1) (v := .int .i64 L) rfl
     have gl := hb2.lt
     have gf := hb2.free
     have hzero : ∀ w, (zeroValue 2).run Tryz.prog w = .ok (.int .i64 0) w := fun w => by kernel_rfl
     have hlook := hm.look (x := (L : Int)) intKeyed Tryz.underlying266 (hzero _) false (intKey (by omega))
     simp only [if_true, if_false, Option.getD_some, eInt, Bool.false_eq_true] at hlook
     clear hzero hm
     have go0 := hb2.cell (i := 0) (v := .int .i64 0) rfl
     go_wp2_with fail
     have k0 := hb0.far (g' := w.heap.size + 1 + 1) (i := 0) (by omega) (.int .i64 Z)
     have k1 := hb1.far (g' := w.heap.size + 1 + 1) (i := 0) (by omega) (.int .i64 Z)
     have k2 : Blk (wr.setCell ⟨w.heap.size + 1 + 1, 0, none⟩ (.int .i64 Z)) (w.heap.size + 1 + 1) #[.int .i64 Z, .int .i64 L, .int .i64 U, .int .i64 0] 249 := hb2.set 0 (.int .i64 Z)
     have kx := hext.setCell (p := ⟨w.heap.size + 1 + 1, 0, none⟩) (Nat.le_trans (Nat.le_succ _) (Nat.le_succ _)) (.int .i64 Z)
     clear f0 f1 f2 g1 gl gf hb0 hb1 hb2 hext hlook go0
     generalize wr.setCell ⟨w.heap.size + 1 + 1, 0, none⟩ (.int .i64 Z) = wz at *
     have f0 := k0.cell (i := 0) (v := .int .i64 5) rfl
     have f1 := k0.cell (i := 1) (v := .int .i64 15) rfl
     have f2 := k0.cell (i := 2) (v := .int .i64 1335) rfl
     have g0 := k2.cell (i := 0) (v := .int .i64 Z) rfl
     have g1 := k2.cell (i := 1) (v := .int .i64 L) rfl
     have g2 := k2.cell (i := 2) (v := .int .i64 U) rfl
     have g3 := k2.cell (i := 3) (v := .int .i64 0) rfl
     have f0l := k0.lt
     have gl := k2.lt
     have gf := k2.free
     refine wp_region_canon (fun w' => Ext wz w') [(0, true), (2, true), (1, false), (3, false), (4, true)] (by kernel_rfl) (by kernel_rfl) (by decide) (by kernel_rfl) ?_ ?_
     ·exact eX
     refine canon_intro fun ops eo => ?_
     replace eo := canon_eo eo
     iterate 2 all_goals (refine cS eo rfl rfl evE ?_; simp only [ptN])
     all_goals first | (refine canon_ef (eo.out 1 rfl) rfl (fun K hK => ?_); go_simp; ((go_at_call 199; (with_reducible refine (cost_c _ _ _ _ _ (by omega) (by omega)).mono ?_); rintro e w3 ⟨rfl, hx3⟩)); all_goals (refine hK _ _ ⟨eX, ?_⟩; clear hK K; go_simp)) | (refine canon_ef (eo.out 1 rfl) rfl (fun K hK => ?_); go_simp; ((go_at_call 215; (with_reducible refine (fmtDist_c _).mono ?_); rintro e w4 ⟨rfl, hx4⟩)); all_goals (refine hK _ _ ⟨eX, ?_⟩; clear hK K; go_simp))
     all_goals first | (refine canon_ef (eo.out 3 rfl) rfl (fun K hK => ?_); go_simp; ((go_at_call 199; (with_reducible refine (cost_c _ _ _ _ _ (by omega) (by omega)).mono ?_); rintro e w3 ⟨rfl, hx3⟩)); all_goals (refine hK _ _ ⟨eX, ?_⟩; clear hK K; go_simp)) | (refine canon_ef (eo.out 3 rfl) rfl (fun K hK => ?_); go_simp; ((go_at_call 215; (with_reducible refine (fmtDist_c _).mono ?_); rintro e w4 ⟨rfl, hx4⟩)); all_goals (refine hK _ _ ⟨eX, ?_⟩; clear hK K; go_simp))
     all_goals (refine cS eo rfl rfl evE ?_; simp only [ptN])
     all_goals (clear eo; refine canon_done (NoPanic.normal ?_))
     have hxz : Ext wz w4 := ((Ext.refl wz).drew.trans hx3).trans hx4
     replace k1 := k1.ext hxz
     replace k2 := k2.ext hxz
     replace kx := kx.trans hxz
     clear f0 f1 f2 g0 g1 g2 g3 f0l gl gf k0 hx3 hx4 hxz
     have hcvi := hcv.out
     by_cases h7 : 7 ≤ cv
     ·have h7d : 7 ≤ 2 * (L : Int) + (U : Int) := by omega
      clear hcvi
      have g3 := k2.cell (i := 3) (v := .int .i64 0) rfl
      have gl := k2.lt
      have gf := k2.free
      have m0 := k2.cell (i := 0) (v := .int .i64 Z) rfl
      have m1 := k2.cell (i := 1) (v := .int .i64 L) rfl
      have m2 := k2.cell (i := 2) (v := .int .i64 U) rfl
      have r0 := k1.cell (i := 0) (v := .int .i64 0) rfl
      have r1 := k1.cell (i := 1) (v := .int .i64 0) rfl
      have r2 := k1.cell (i := 2) (v := .int .i64 0) rfl
      have r3 := k1.cell (i := 3) (v := .int .i64 0) rfl
      have rl := k1.lt
      have rf := k1.free
      replace h7 := Lib.hid h7
      clear HX HL hbd HF hKb hUb hD hDb hbt hnv hcv hj hlt hv hZL hgm hz2 fl
      go_wp2
      have hF := ((((k1.far (g' := w.heap.size + 1 + 1) (i := 3) (by omega) (.int .i64 7)).set 0 (.int .i64 Z)).set 1 (.int .i64 L)).set 2 (.int .i64 U)).set 3 (.int .i64 7)
      obtain ⟨c0, c1, c2, c3⟩ := hF.c4
      clear g3 gl gf m0 m1 m2 r0 r1 r2 r3 rl rf
      exact bodyPost_ret (v := vNear Z L U 7) (by simp [results, Tryz.results198, go_sem, c0, c1, c2, c3]) rfl ⟨by rw [hRe.out, hR.out, if_pos h7.out], eY⟩
     ·have h7d : ¬ 7 ≤ 2 * (L : Int) + (U : Int) := by omega
      clear hcvi
      have gl := k2.lt
      have m0 := k2.cell (i := 0) (v := .int .i64 Z) rfl
      have m1 := k2.cell (i := 1) (v := .int .i64 L) rfl
      have m2 := k2.cell (i := 2) (v := .int .i64 U) rfl
      have m3 := k2.cell (i := 3) (v := .int .i64 0) rfl
      have r0 := k1.cell (i := 0) (v := .int .i64 0) rfl
      have r1 := k1.cell (i := 1) (v := .int .i64 0) rfl
      have r2 := k1.cell (i := 2) (v := .int .i64 0) rfl
      have r3 := k1.cell (i := 3) (v := .int .i64 0) rfl
      have rl := k1.lt
      have rf := k1.free
      replace h7 := Lib.hid h7
      clear HX HL hbd HF hKb hUb hD hDb hbt hnv hcv hj hlt hv hZL hgm hz2 fl
      go_wp2
      have hF := (((k1.set 0 (.int .i64 Z)).set 1 (.int .i64 L)).set 2 (.int .i64 U)).set 3 (.int .i64 0)
      obtain ⟨c0, c1, c2, c3⟩ := hF.c4
      clear gl m0 m1 m2 m3 r0 r1 r2 r3 rl rf
      exact bodyPost_ret (v := vNear Z L U 0) (by simp [results, Tryz.results198, go_sem, c0, c1, c2, c3]) rfl ⟨by rw [hRe.out, hR.out, if_neg h7.out], eY⟩
open Go.RowKit

theorem sStdFmt_c (w : World) : Calls Tryz.prog 69 #[] w fun e w' => e = .returned vStd ∧ Ext w w' := by
 go_enter Tryz.func69, Tryz.ntmps69
 go_wp2
 exact bodyPost_ret (v := vStd) (by simp [results, Tryz.results69, go_sem]) rfl ⟨rfl, eX⟩
set_option maxRecDepth 100000 in
theorem sIsStd_c (w : World) : Calls Tryz.prog 108 #[vStd] w fun e w' => e = .returned (.bool true) ∧ Ext w w' := by
 go_enter Tryz.func108, Tryz.ntmps108
 go_wp2_with (go_at_call 37; (with_reducible refine (l01In_c _ _ _ _).mono ?_); rintro e w1 ⟨⟨hP, rfl⟩ | ⟨hP, rfl⟩, rfl⟩ <;> first | (exfalso; omega) | skip)
 go_ret
 exact ⟨rfl, eX⟩
theorem sAppend_c' (p : Option Addr) (c : Nat) (xs : List Int) (n wd : Int) (l : Nat) (w : World) (hl0 : l = xs.length) (hx : IntsAt w p xs) (hl : xs.length ≤ 1000000) (hn : 0 ≤ n ∧ n < 9223372036854775808) (hwd : 0 ≤ wd ∧ wd ≤ 62) :
  Calls Tryz.prog 193 #[.slice p l c, .int .i64 n, .int .i64 wd] w fun e w' => (∃ v, e = .returned v ∧ RowI w.heap.size w' v (xs ++ bitsOf n wd)) ∧ Ext w w' := by
 rw [hl0]
 exact sAppend_c p c xs n wd w hx hl hn hwd
def WordR (v : Nat) (w : World) (e : Ending) (w' : World) : Prop := ∃ p c, e = .returned (.slice p 15 c) ∧ OwnInts w.heap.size w' p (fmtW v)
set_option maxRecDepth 100000 in
theorem sWord_c (v : Nat) (w : World) (hv : v < 32) : Calls Tryz.prog 155 #[vStd, .int .i64 v] w fun e w' => WordR v w e w' ∧ Ext w w' := by
 have e0 : fmtTo v 0 = v * 1024 := by show v <<< 10 = _; rw [Nat.shiftLeft_eq]
 replace e0 := Lib.hid e0
 have hb := Blk.new w #[.int .i64 5, .int .i64 15, .int .i64 1335] 111
 have hx0 : Ext w (w.alloc (.cells #[.int .i64 5, .int .i64 15, .int .i64 1335] 111)) := (Ext.refl w).alloc _
 go_enter Tryz.func155, Tryz.ntmps155
 go_wp2
 go_loop [6, 7] (fun r a => ∃ j : Nat, j ≤ 5 ∧ a = .int .i64 (14 - j) ∧ r = .int .i64 (fmtTo v j)) (fun _ a => (intOf a - 9).toNat)
 case atStart => exact ⟨0, by omega, by go_num, by rw [e0.out]; go_num⟩
 case round =>
  obtain ⟨j, hj, rfl, rfl⟩ := hrel
  by_cases hlt : j < 5
  ·have hst := fmtTo_succ v j
   have hbd := fmtTo_bd v hv j (by omega)
   have hj4 : j = 0 ∨ j = 1 ∨ j = 2 ∨ j = 3 ∨ j = 4 := by omega
   have hand : bits .and .i64 ((fmtTo v j : Int) / 2 ^ (14 - j)) 1 = ((fmtTo v j >>> (14 - j) &&& 1 : Nat) : Int) := by
    have := bits_and_nat (fmtTo v j >>> (14 - j)) 1 (by have := Nat.shiftRight_le (fmtTo v j) (14 - j); omega) (by omega)
    rw [← this, Nat.shiftRight_eq_div_pow]
    simp
   have hxor : bits .xor .i64 (fmtTo v j : Int) (wrap64 (1335 * 2 ^ (14 - j - 10))) = ((fmtTo v j ^^^ 1335 <<< (14 - j - 10) : Nat) : Int) := by
    have : wrap64 (1335 * 2 ^ (14 - j - 10)) = ((1335 <<< (14 - j - 10) : Nat) : Int) := by
     rcases hj4 with rfl | rfl | rfl | rfl | rfl <;> simp [wrap64]
    rw [this]
    exact bits_xor_nat _ _ (by omega) (by rcases hj4 with rfl | rfl | rfl | rfl | rfl <;> decide)
   rw [fmtStep] at hst
   obtain ⟨r', hr'⟩ : ∃ r', fmtTo v (j + 1) = r' := ⟨_, rfl⟩
   rw [hr'] at hst
   replace hr' := Lib.hid hr'
   generalize fmtTo v j = r at *
   clear hj4
   by_cases hb : r >>> (14 - j) &&& 1 = 1
   ·rw [if_pos hb] at hst
    rw [hb] at hand
    rw [← hst] at hxor
    replace hst := Lib.hid hst; replace hb := Lib.hid hb
    go_wp2
    go_round
    case rel => exact ⟨j + 1, hlt, by go_num, by rw [hr'.out]⟩
    case measure => simp [intOf]; omega
   ·have h0 : r >>> (14 - j) &&& 1 = 0 := by rw [Nat.and_one_is_mod] at *; omega
    rw [if_neg hb] at hst
    rw [h0] at hand
    replace hst := Lib.hid hst; clear hb h0
    go_wp2
    go_round
    case rel => exact ⟨j + 1, hlt, by go_num, by rw [hr'.out, hst.out]⟩
    case measure => simp [intOf]; omega
  ·obtain rfl : j = 5 := by omega
   have hlow := fmtTo_low v hv
   have hsp := Lib.hid (fmtW_split v hv)
   generalize fmtTo v 5 = r at *
   have hA := Lib.hid (fun W => sAppend_c' none 0 [] (v : Int) 5 0 W rfl (IntsAt_nil _ _) (by simp) (by omega) (by omega))
   have hlen5 : Hid ((bitsOf (v : Int) 5).length = 5) := Lib.hid (by simp [bitsOf])
   go_wp2_with (first
    | (go_at_call 193; (with_reducible refine (hA.out _).mono ?_); rintro e w1 ⟨⟨v1, rfl, hrow⟩, hx1⟩; rw [List.nil_append] at hrow; obtain ⟨p1, c1, rfl, ho1⟩ := hrow.own; rw [hlen5.out])
    | (go_at_call 193; (with_reducible refine (sAppend_c' p1 c1 (bitsOf (v : Int) 5) (r : Int) 10 5 _ hlen5.out.symm (ho1.ints.ext eX) (by rw [hlen5.out]; omega) (by omega) (by omega)).mono ?_); rintro e w2 ⟨⟨v2, rfl, hrow2⟩, hx2⟩))
   rw [hsp.out] at hrow2
   obtain ⟨p2, c2, rfl, ho2⟩ := hrow2.own
   rw [fmtW_len]
   go_ret
   exact ⟨⟨p2, c2, rfl, ho2.mono (Ext.below (hx0.trans hx1)).size⟩, (hx0.trans hx1).trans hx2⟩
set_option maxRecDepth 100000 in
theorem sAway_c (p q : Option Addr) (c d : Nat) (ws l : List Int) (w : World) (hw : IntsAt w p ws) (hx : IntsAt w q l) (hwl : ws.length = 15) (hll : l.length = 15) :
  Calls Tryz.prog 154 #[.slice p 15 c, .slice q 15 d] w fun e w' => e = .returned (.tuple #[.int .i64 (difTo ws l 15), .int .i64 (unkTo l 15)]) ∧ Ext w w' := by
 have HW := Lib.hid hw; clear hw
 have HX := Lib.hid hx; clear hx
 replace hwl := Lib.hid hwl
 replace hll := Lib.hid hll
 go_enter Tryz.func154, Tryz.ntmps154
 go_wp2
 go_loopw [6, 7, 8] (fun a b i wr => ∃ k : Nat, k ≤ 15 ∧ i = .int .i64 k ∧ a = .int .i64 (difTo ws l k) ∧ b = .int .i64 (unkTo l k) ∧ Ext w wr) (fun _ _ i _ => 15 - (intOf i).toNat)
 case atStart => exact ⟨0, by omega, rfl, rfl, rfl, Ext.refl _⟩
 case round =>
  obtain ⟨k, hk, rfl, rfl, rfl, hext⟩ := hrel
  by_cases hlt : k < 15
  ·obtain ⟨b, o, rfl, hbl, z1⟩ := (HX.out.ext hext) k (by rw [hll.out]; exact hlt)
   obtain ⟨b2, o2, rfl, hbl2, z2⟩ := (HW.out.ext hext) k (by rw [hwl.out]; exact hlt)
   have e1 : difTo ws l (k + 1) = difTo ws l k + if l.getD k 0 < 0 then 0 else if l.getD k 0 = ws.getD k 0 then 0 else 1 := rfl
   have e2 : unkTo l (k + 1) = unkTo l k + if l.getD k 0 < 0 then 1 else 0 := rfl
   have b1 := difTo_le ws l k
   have b2' := unkTo_le l k
   obtain ⟨D1, hD1⟩ : ∃ z, difTo ws l (k + 1) = z := ⟨_, rfl⟩
   obtain ⟨U1, hU1⟩ : ∃ z, unkTo l (k + 1) = z := ⟨_, rfl⟩
   rw [hD1] at e1; rw [hU1] at e2
   replace hD1 := Lib.hid hD1; replace hU1 := Lib.hid hU1
   generalize difTo ws l k = D at *
   generalize unkTo l k = U at *
   generalize l.getD k 0 = x at *
   generalize ws.getD k 0 = y at *
   by_cases h0 : x < 0
   ·rw [if_pos h0] at e1 e2
    replace e1 := Lib.hid e1; replace e2 := Lib.hid e2
    go_wp2
    go_roundw
    case rel => exact ⟨k + 1, hlt, by go_num, by rw [hD1.out, e1.out]; rfl, by rw [hU1.out, e2.out]; go_num, hext⟩
    case measure => simp [intOf]; omega
   ·rw [if_neg h0] at e1 e2
    by_cases hxy : x = y
    ·rw [if_pos hxy] at e1
     have hd : (x != y) = false := by simp [hxy]
     replace e1 := Lib.hid e1; replace e2 := Lib.hid e2; replace hxy := Lib.hid hxy
     go_wp2
     go_quiet (fail)
     go_wp2
     go_roundw
     case rel => exact ⟨k + 1, hlt, by go_num, by rw [hD1.out, e1.out]; rfl, by rw [hU1.out, e2.out]; rfl, hext.drewN _⟩
     case measure => simp [intOf]; omega
    ·rw [if_neg hxy] at e1
     have hd : (x != y) = true := by simp [hxy]
     replace e1 := Lib.hid e1; replace e2 := Lib.hid e2; replace hxy := Lib.hid hxy
     go_wp2
     go_quiet (fail)
     go_wp2
     go_roundw
     case rel => exact ⟨k + 1, hlt, by go_num, by rw [hD1.out, e1.out]; go_num, by rw [hU1.out, e2.out]; rfl, hext.drewN _⟩
     case measure => simp [intOf]; omega
  ·obtain rfl : k = 15 := by omega
   go_wp2
   go_ret2
   exact ⟨rfl, hext⟩
set_option maxRecDepth 100000 in
theorem sDiffer_c (p q : Option Addr) (c d : Nat) (ws l : List Int) (w : World) (hw : IntsAt w p l) (hx : IntsAt w q ws) (hwl : ws.length = 15) (hll : l.length = 15) (h0 : ∀ k, 0 ≤ l.getD k 0) :
  Calls Tryz.prog 194 #[.slice p 15 c, .slice q 15 d] w fun e w' => e = .returned (.int .i64 (difTo ws l 15)) ∧ Ext w w' := by
 have HW := Lib.hid hx; clear hx
 have HX := Lib.hid hw; clear hw
 replace hwl := Lib.hid hwl
 replace hll := Lib.hid hll
 replace h0 := Lib.hid h0
 go_enter Tryz.func194, Tryz.ntmps194
 go_wp2
 go_loopw [5, 6] (fun a i wr => ∃ k : Nat, k ≤ 15 ∧ i = .int .i64 k ∧ a = .int .i64 (difTo ws l k) ∧ Ext w wr) (fun _ i _ => 15 - (intOf i).toNat)
 case atStart => exact ⟨0, by omega, rfl, rfl, Ext.refl _⟩
 case round =>
  obtain ⟨k, hk, rfl, rfl, hext⟩ := hrel
  by_cases hlt : k < 15
  ·obtain ⟨b, o, rfl, hbl, z1⟩ := (HX.out.ext hext) k (by rw [hll.out]; exact hlt)
   obtain ⟨b2, o2, rfl, hbl2, z2⟩ := (HW.out.ext hext) k (by rw [hwl.out]; exact hlt)
   have e1 := difTo_succ (w := ws) (h0.out k)
   have b1 := difTo_le ws l k
   obtain ⟨D1, hD1⟩ : ∃ z, difTo ws l (k + 1) = z := ⟨_, rfl⟩
   rw [hD1] at e1
   replace hD1 := Lib.hid hD1
   generalize difTo ws l k = D at *
   generalize l.getD k 0 = x at *
   generalize ws.getD k 0 = y at *
   by_cases hxy : x = y
   ·rw [if_pos hxy] at e1
    have hd : (x != y) = false := by simp [hxy]
    replace e1 := Lib.hid e1; replace hxy := Lib.hid hxy
    go_wp2
    go_quiet (fail)
    go_wp2
    go_roundw
    case rel => exact ⟨k + 1, hlt, by go_num, by rw [hD1.out, e1.out]; rfl, hext.drewN _⟩
    case measure => simp [intOf]; omega
   ·rw [if_neg hxy] at e1
    have hd : (x != y) = true := by simp [hxy]
    replace e1 := Lib.hid e1; replace hxy := Lib.hid hxy
    go_wp2
    go_quiet (fail)
    go_wp2
    go_roundw
    case rel => exact ⟨k + 1, hlt, by go_num, by rw [hD1.out, e1.out]; go_num, hext.drewN _⟩
    case measure => simp [intOf]; omega
  ·obtain rfl : k = 15 := by omega
   go_wp2
   go_ret
   exact ⟨rfl, hext⟩
def minD : Nat → Nat
 | 0 => 15
 | k + 1 => min (minD k) (difTo (fmtW 0) (fmtW (k + 1)) 15)
theorem minD_bd : ∀ k, minD k ≤ 15
 | 0 => Nat.le_refl _
 | k + 1 => Nat.le_trans (Nat.min_le_left _ _) (minD_bd k)
theorem minD_all : minD 31 = 7 := by decide +kernel
set_option maxRecDepth 100000 in
theorem sMinimum_c (w : World) : Calls Tryz.prog 156 #[vStd] w fun e w' => e = .returned (.int .i64 7) ∧ Ext w w' := by
 have hb := Blk.new w #[.int .i64 5, .int .i64 15, .int .i64 1335] 111
 have hx0 : Ext w (w.alloc (.cells #[.int .i64 5, .int .i64 15, .int .i64 1335] 111)) := (Ext.refl w).alloc _
 have h0 : Hid (∀ W, Calls Tryz.prog 155 #[vStd, .int .i64 0] W fun e w' => WordR 0 W e w' ∧ Ext W w') := Lib.hid (fun W => sWord_c 0 W (by omega))
 go_enter Tryz.func156, Tryz.ntmps156
 go_wp2_with (go_at_call 155; (with_reducible refine (h0.out _).mono ?_); rintro e w1 ⟨⟨p0, c0, rfl, ho0⟩, hx1⟩)
 replace hb := hb.ext hx1
 replace hx0 := hx0.trans hx1
 go_loopw [3, 5] (fun b v wr => ∃ k : Nat, k ≤ 31 ∧ v = .int .i64 ((k + 1 : Nat) : Int) ∧ b = .int .i64 (minD k) ∧ Ext w1 wr) (fun _ v _ => (32 - intOf v).toNat)
 case atStart => exact ⟨0, by omega, rfl, rfl, eX⟩
 case round =>
  obtain ⟨k, hk, rfl, rfl, hext⟩ := hrel
  have hbr := hb.ext hext
  have f0 := hbr.cell (i := 0) (v := .int .i64 5) rfl
  have f1 := hbr.cell (i := 1) (v := .int .i64 15) rfl
  have f2 := hbr.cell (i := 2) (v := .int .i64 1335) rfl
  have fl := hbr.lt
  by_cases hlt : k < 31
  ·have hm := minD_bd k
   have hst : minD (k + 1) = min (minD k) (difTo (fmtW 0) (fmtW (k + 1)) 15) := rfl
   have hp := difTo_le (fmtW 0) (fmtW (k + 1)) 15
   have hwc := Lib.hid (fun W => sWord_c (k + 1) W (by omega))
   have hdf := Lib.hid (fun p q c d W (h1 : IntsAt W p (fmtW (k + 1))) (h2 : IntsAt W q (fmtW 0)) => sDiffer_c p q c d (fmtW 0) (fmtW (k + 1)) W h1 h2 (fmtW_len _) (fmtW_len _) (fmtW_at (by omega)))
   obtain ⟨q, hq⟩ : ∃ q, k + 1 = q := ⟨_, rfl⟩
   rw [hq] at hst hp hwc hdf
   generalize difTo (fmtW 0) (fmtW q) 15 = z at *
   obtain ⟨m', hm'⟩ : ∃ m', minD q = m' := ⟨_, rfl⟩
   rw [hm'] at hst
   generalize minD k = m at *
   rw [hq]
   have hq32 : q < 32 := by omega
   replace hst := Lib.hid hst; replace hq := Lib.hid hq; replace hm' := Lib.hid hm'
   go_wp2_with (first | (go_at_call 155; (with_reducible refine (hwc.out _).mono ?_); rintro e w2 ⟨⟨p2, c2, rfl, ho2⟩, hx2⟩) | (go_at_call 194; (with_reducible refine (hdf.out _ _ _ _ _ ho2.ints (ho0.ints.ext (hext.trans hx2))).mono ?_); rintro e w3 ⟨rfl, hx3⟩))
   go_roundw
   case rel => exact ⟨q, by omega, by go_num, by rw [hm'.out, hst.out]; congr 1; first | omega | (split <;> omega), (hext.trans hx2).trans hx3⟩
   case measure => simp [intOf]; omega
  ·obtain rfl : k = 31 := by omega
   have h7 : minD 31 = 7 := minD_all
   go_wp2
   go_ret
   exact ⟨rfl, hx0.trans hext⟩
set_option maxRecDepth 100000 in
theorem sList_c (p : Option Addr) (c : Nat) (l : List Int) (w : World) (hx : IntsAt w p l) (hll : l.length = 15) (hf : fmL l) :
  Calls Tryz.prog 109 #[vStd, .slice p 15 c] w fun e w' => e = .returned (.bool true) ∧ Ext w w' := by
 have HX := Lib.hid hx; clear hx
 replace hll := Lib.hid hll
 replace hf := Lib.hid hf
 have hb := Blk.new w #[.int .i64 5, .int .i64 15, .int .i64 1335] 111
 have hx0 : Ext w (w.alloc (.cells #[.int .i64 5, .int .i64 15, .int .i64 1335] 111)) := (Ext.refl w).alloc _
 go_enter Tryz.func109, Tryz.ntmps109
 go_wp2
 generalize (w.alloc (.cells #[.int .i64 5, .int .i64 15, .int .i64 1335] 111)) = w0 at *
 go_loopw [5] (fun i wr => ∃ k : Nat, k ≤ 15 ∧ i = .int .i64 k ∧ Ext w0 wr) (fun i _ => 15 - (intOf i).toNat)
 case atStart => exact ⟨0, by omega, rfl, Ext.refl _⟩
 case round =>
  obtain ⟨k, hk, rfl, hext⟩ := hrel
  have f1 := (hb.ext hext).cell (i := 1) (v := .int .i64 15) rfl
  have fl := (hb.ext hext).lt
  by_cases hlt : k < 15
  ·obtain ⟨b, o, rfl, hbl, z1⟩ := (HX.out.ext (hx0.trans hext)) k (by rw [hll.out]; exact hlt)
   have hxb := fmL_at hf.out k
   generalize l.getD k 0 = x at *
   go_wp2_with (go_at_call 37; (with_reducible refine (l01In_c _ _ _ _).mono ?_); rintro e w1 ⟨⟨hP, rfl⟩ | ⟨hP, rfl⟩, rfl⟩ <;> first | (exfalso; omega) | skip)
   go_roundw
   case rel => exact ⟨k + 1, hlt, by go_num, hext⟩
   case measure => simp [intOf]; omega
  ·obtain rfl : k = 15 := by omega
   go_wp2
   go_ret
   exact ⟨rfl, hx0.trans hext⟩
def nearS (l : List Int) : Value := .tuple #[.int .i64 (nearV l).1, .int .i64 (nearV l).2, .int .i64 (unkTo l 15), .bool (decide (costV l < 7))]
set_option maxRecDepth 100000 in
theorem sNearest_c (p : Option Addr) (c : Nat) (l : List Int) (w : World) (hx : IntsAt w p l) (hll : l.length = 15) :
  Calls Tryz.prog 110 #[vStd, .slice p 15 c] w fun e w' => e = .returned (nearS l) ∧ Ext w w' := by
 have HX := Lib.hid hx; clear hx
 replace hll := Lib.hid hll
 have hb := Blk.new w #[.int .i64 5, .int .i64 15, .int .i64 1335] 111
 have hx0 : Ext w (w.alloc (.cells #[.int .i64 5, .int .i64 15, .int .i64 1335] 111)) := (Ext.refl w).alloc _
 have f0 := hb.cell (i := 0) (v := .int .i64 5) rfl
 have f1 := hb.cell (i := 1) (v := .int .i64 15) rfl
 have fl := hb.lt
 go_enter Tryz.func110, Tryz.ntmps110
 go_wp2
 go_quiet (fail)
 clear f0 f1 fl
 replace hb := hb.drewN nq
 replace hx0 := hx0.drewN nq
 generalize ((w.alloc (.cells #[.int .i64 5, .int .i64 15, .int .i64 1335] 111)).drewN nq) = w0 at *
 go_wp2
 go_loopw [8, 9, 10, 11] (fun a b u i wr => ∃ v : Nat, v ≤ 32 ∧ i = .int .i64 v ∧ a = .int .i64 (bestTo (dV l) v).1 ∧ b = .int .i64 (bestTo (dV l) v).2 ∧ u = .int .i64 (if v = 0 then 0 else unkTo l 15) ∧ Ext w0 wr) (fun _ _ _ i _ => 32 - (intOf i).toNat)
 case atStart => exact ⟨0, by omega, rfl, rfl, rfl, rfl, Ext.refl _⟩
 case round =>
  obtain ⟨v, hv, rfl, rfl, rfl, rfl, hext⟩ := hrel
  have hbr := hb.ext hext
  have f0 := hbr.cell (i := 0) (v := .int .i64 5) rfl
  have f1 := hbr.cell (i := 1) (v := .int .i64 15) rfl
  have f2 := hbr.cell (i := 2) (v := .int .i64 1335) rfl
  have fl := hbr.lt
  by_cases hlt : v < 32
  ·have hwc := Lib.hid (fun W => sWord_c v W hlt)
   have hac := Lib.hid (fun p' q' c' d' W (h1 : IntsAt W p' (fmtW v)) (h2 : IntsAt W q' l) => sAway_c p' q' c' d' (fmtW v) l W h1 h2 (fmtW_len _) hll.out)
   have hst : bestTo (dV l) (v + 1) = if dV l v < (bestTo (dV l) v).2 then (v, dV l v) else bestTo (dV l) v := rfl
   have hd : dV l v ≤ 15 := difTo_le _ _ _
   have hbb := (bestTo_bd (D := dV l) (fun v => difTo_le _ _ _) v).2.1
   have hub := unkTo_le l 15
   have hdd : difTo (fmtW v) l 15 = dV l v := rfl
   rw [hdd] at hac
   clear hdd
   obtain ⟨B', hB'⟩ : ∃ z, bestTo (dV l) (v + 1) = z := ⟨_, rfl⟩
   rw [hB'] at hst
   replace hB' := Lib.hid hB'
   generalize bestTo (dV l) v = B at *
   generalize dV l v = d at *
   generalize unkTo l 15 = U at *
   by_cases hlt2 : d < B.2
   ·rw [if_pos hlt2] at hst
    replace hst := Lib.hid hst
    go_wp2_with (first | (go_at_call 155; (with_reducible refine (hwc.out _).mono ?_); rintro e w2 ⟨⟨p2, c2, rfl, ho2⟩, hx2⟩) | (go_at_call 154; (with_reducible refine (hac.out _ _ _ _ _ ho2.ints (HX.out.ext ((hx0.trans hext).trans hx2))).mono ?_); rintro e w3 ⟨rfl, hx3⟩))
    go_roundw
    case rel => exact ⟨v + 1, hlt, by go_num, by rw [hB'.out, hst.out], by rw [hB'.out, hst.out], by rw [if_neg (by omega)], (hext.trans hx2).trans hx3⟩
    case measure => simp [intOf]; omega
   ·rw [if_neg hlt2] at hst
    replace hst := Lib.hid hst
    go_wp2_with (first | (go_at_call 155; (with_reducible refine (hwc.out _).mono ?_); rintro e w2 ⟨⟨p2, c2, rfl, ho2⟩, hx2⟩) | (go_at_call 154; (with_reducible refine (hac.out _ _ _ _ _ ho2.ints (HX.out.ext ((hx0.trans hext).trans hx2))).mono ?_); rintro e w3 ⟨rfl, hx3⟩))
    go_roundw
    case rel => exact ⟨v + 1, hlt, by go_num, by rw [hB'.out, hst.out], by rw [hB'.out, hst.out], by rw [if_neg (by omega)], (hext.trans hx2).trans hx3⟩
    case measure => simp [intOf]; omega
  ·obtain rfl : v = 32 := by omega
   rw [if_neg (by omega)]
   have hR : nearS l = .tuple #[.int .i64 (nearV l).1, .int .i64 (nearV l).2, .int .i64 (unkTo l 15), .bool (decide (costV l < 7))] := rfl
   have hcv : costV l = 2 * (nearV l).2 + unkTo l 15 := rfl
   have hnv : nearV l = bestTo (dV l) 32 := rfl
   rw [← hnv]
   have hbb := (nearV_bd l)
   have hub := unkTo_le l 15
   obtain ⟨R, hRe⟩ : ∃ R, nearS l = R := ⟨_, rfl⟩
   rw [hRe] at hR
   clear hnv
   have hdec : decide (costV l < 7) = decide (2 * ((nearV l).2 : Int) + (unkTo l 15 : Int) < 7) := by
    rw [decide_eq_decide]; omega
   rw [hdec] at hR
   clear hdec hcv
   generalize nearV l = nv at *
   generalize unkTo l 15 = U at *
   replace hR := Lib.hid hR
   replace hRe := Lib.hid hRe
   go_wp2_with (go_at_call 156; (with_reducible refine (sMinimum_c _).mono ?_); rintro e w3 ⟨rfl, hx3⟩)
   exact bodyPost_ret (v := .tuple #[.int .i64 nv.1, .int .i64 nv.2, .int .i64 U, .bool (decide (2 * (nv.2 : Int) + (U : Int) < 7))]) (by simp [results, Tryz.results110, go_sem]) rfl ⟨by rw [hRe.out, hR.out], (hx0.trans hext).trans hx3⟩
set_option maxHeartbeats 800000 in
set_option maxRecDepth 100000 in
theorem sShare_w (p q : Option Addr) (c d : Nat) (Za La Ua Zb Lb Ub V T : Int) (x y : Bool) (w : World)
  (hla : Hid (∀ W, Ext w W → Calls Tryz.prog 109 #[vStd, .slice p 15 c] W fun e w' => e = .returned (.bool true) ∧ Ext W w'))
  (hlb : Hid (∀ W, Ext w W → Calls Tryz.prog 109 #[vStd, .slice q 15 d] W fun e w' => e = .returned (.bool true) ∧ Ext W w'))
  (hna : Hid (∀ W, Ext w W → Calls Tryz.prog 110 #[vStd, .slice p 15 c] W fun e w' => e = .returned (.tuple #[.int .i64 Za, .int .i64 La, .int .i64 Ua, .bool x]) ∧ Ext W w'))
  (hnb : Hid (∀ W, Ext w W → Calls Tryz.prog 110 #[vStd, .slice q 15 d] W fun e w' => e = .returned (.tuple #[.int .i64 Zb, .int .i64 Lb, .int .i64 Ub, .bool y]) ∧ Ext W w'))
  (hba : (0 ≤ La ∧ La ≤ 1000) ∧ (0 ≤ Ua ∧ Ua ≤ 1000) ∧ (0 ≤ Lb ∧ Lb ≤ 1000) ∧ (0 ≤ Ub ∧ Ub ≤ 1000))
  (hV : Hid ((V, T) = if x = false ∧ y = false then (0, 7) else if x = false ∨ (y = true ∧ 2 * Lb + Ub < 2 * La + Ua) then (Zb, 0) else (Za, 0))) :
  Calls Tryz.prog 68 #[vStd, .slice p 15 c, .slice q 15 d] w fun e w' => e = .returned (.tuple #[.int .i64 V, .int .i64 T]) ∧ Ext w w' := by
 have hb := Blk.new w #[.int .i64 5, .int .i64 15, .int .i64 1335] 111
 have hx0 : Ext w (w.alloc (.cells #[.int .i64 5, .int .i64 15, .int .i64 1335] 111)) := (Ext.refl w).alloc _
 obtain ⟨hLa, hUa, hLb, hUb⟩ := hba
 cases x <;> cases y
 all_goals (have hv := hV.out)
 ·rw [if_pos ⟨rfl, rfl⟩] at hv
  obtain ⟨rfl, rfl⟩ := Prod.mk.inj hv
  clear hv hV
  go_enter Tryz.func68, Tryz.ntmps68
  go_wp2_with (first
   | (go_at_call 108; (with_reducible refine (sIsStd_c _).mono ?_); rintro e w1 ⟨rfl, hx1⟩; have k1 := hb.ext hx1; obtain ⟨f0, f1, f2⟩ := k1.c3; have fl := k1.lt; replace hx0 := hx0.trans hx1)
   | (go_at_call 109; first | ((with_reducible refine (hla.out _ hx0).mono ?_); rintro e w2 ⟨rfl, hx2⟩; replace hx0 := hx0.trans hx2; obtain ⟨hc2, -, -, -⟩ := ecell hx2; have fl2 := hx2.below.size; have fl3 := Nat.lt_of_lt_of_le fl hx2.below.size; have k2 := k1.ext hx2) | ((with_reducible refine (hlb.out _ hx0).mono ?_); rintro e w3 ⟨rfl, hx3⟩; replace hx0 := hx0.trans hx3; obtain ⟨hc3, -, -, -⟩ := ecell hx3; have fl4 := Nat.lt_of_lt_of_le fl3 hx3.below.size))
   | (go_at_call 110; first | ((with_reducible refine (hna.out _ hx0).mono ?_); rintro e w4 ⟨rfl, hx4⟩; replace hx0 := hx0.trans hx4; obtain ⟨hc4, -, -, -⟩ := ecell hx4; have fl5 := Nat.lt_of_lt_of_le fl4 hx4.below.size) | ((with_reducible refine (hnb.out _ hx0).mono ?_); rintro e w5 ⟨rfl, hx5⟩; replace hx0 := hx0.trans hx5)))
  go_ret2
  exact ⟨rfl, hx0⟩
 ·rw [if_neg (by simp), if_pos (.inl rfl)] at hv
  obtain ⟨rfl, rfl⟩ := Prod.mk.inj hv
  clear hv hV
  go_enter Tryz.func68, Tryz.ntmps68
  go_wp2_with (first
   | (go_at_call 108; (with_reducible refine (sIsStd_c _).mono ?_); rintro e w1 ⟨rfl, hx1⟩; have k1 := hb.ext hx1; obtain ⟨f0, f1, f2⟩ := k1.c3; have fl := k1.lt; replace hx0 := hx0.trans hx1)
   | (go_at_call 109; first | ((with_reducible refine (hla.out _ hx0).mono ?_); rintro e w2 ⟨rfl, hx2⟩; replace hx0 := hx0.trans hx2; obtain ⟨hc2, -, -, -⟩ := ecell hx2; have fl2 := hx2.below.size; have fl3 := Nat.lt_of_lt_of_le fl hx2.below.size; have k2 := k1.ext hx2) | ((with_reducible refine (hlb.out _ hx0).mono ?_); rintro e w3 ⟨rfl, hx3⟩; replace hx0 := hx0.trans hx3; obtain ⟨hc3, -, -, -⟩ := ecell hx3; have fl4 := Nat.lt_of_lt_of_le fl3 hx3.below.size))
   | (go_at_call 110; first | ((with_reducible refine (hna.out _ hx0).mono ?_); rintro e w4 ⟨rfl, hx4⟩; replace hx0 := hx0.trans hx4; obtain ⟨hc4, -, -, -⟩ := ecell hx4; have fl5 := Nat.lt_of_lt_of_le fl4 hx4.below.size) | ((with_reducible refine (hnb.out _ hx0).mono ?_); rintro e w5 ⟨rfl, hx5⟩; replace hx0 := hx0.trans hx5)))
  go_ret2
  exact ⟨rfl, hx0⟩
 ·rw [if_neg (by simp), if_neg (by simp)] at hv
  obtain ⟨rfl, rfl⟩ := Prod.mk.inj hv
  clear hv hV
  go_enter Tryz.func68, Tryz.ntmps68
  go_wp2_with (first
   | (go_at_call 108; (with_reducible refine (sIsStd_c _).mono ?_); rintro e w1 ⟨rfl, hx1⟩; have k1 := hb.ext hx1; obtain ⟨f0, f1, f2⟩ := k1.c3; have fl := k1.lt; replace hx0 := hx0.trans hx1)
   | (go_at_call 109; first | ((with_reducible refine (hla.out _ hx0).mono ?_); rintro e w2 ⟨rfl, hx2⟩; replace hx0 := hx0.trans hx2; obtain ⟨hc2, -, -, -⟩ := ecell hx2; have fl2 := hx2.below.size; have fl3 := Nat.lt_of_lt_of_le fl hx2.below.size; have k2 := k1.ext hx2) | ((with_reducible refine (hlb.out _ hx0).mono ?_); rintro e w3 ⟨rfl, hx3⟩; replace hx0 := hx0.trans hx3; obtain ⟨hc3, -, -, -⟩ := ecell hx3; have fl4 := Nat.lt_of_lt_of_le fl3 hx3.below.size))
   | (go_at_call 110; first | ((with_reducible refine (hna.out _ hx0).mono ?_); rintro e w4 ⟨rfl, hx4⟩; replace hx0 := hx0.trans hx4; obtain ⟨hc4, -, -, -⟩ := ecell hx4; have fl5 := Nat.lt_of_lt_of_le fl4 hx4.below.size) | ((with_reducible refine (hnb.out _ hx0).mono ?_); rintro e w5 ⟨rfl, hx5⟩; replace hx0 := hx0.trans hx5)))
  go_ret2
  exact ⟨rfl, hx0⟩
 ·by_cases hlt : 2 * Lb + Ub < 2 * La + Ua
  ·rw [if_neg (by simp), if_pos (.inr ⟨rfl, hlt⟩)] at hv
   obtain ⟨rfl, rfl⟩ := Prod.mk.inj hv
   clear hv hV
   go_enter Tryz.func68, Tryz.ntmps68
   go_wp2_with (first
    | (go_at_call 108; (with_reducible refine (sIsStd_c _).mono ?_); rintro e w1 ⟨rfl, hx1⟩; have k1 := hb.ext hx1; obtain ⟨f0, f1, f2⟩ := k1.c3; have fl := k1.lt; replace hx0 := hx0.trans hx1)
    | (go_at_call 109; first | ((with_reducible refine (hla.out _ hx0).mono ?_); rintro e w2 ⟨rfl, hx2⟩; replace hx0 := hx0.trans hx2; obtain ⟨hc2, -, -, -⟩ := ecell hx2; have fl2 := hx2.below.size; have fl3 := Nat.lt_of_lt_of_le fl hx2.below.size; have k2 := k1.ext hx2) | ((with_reducible refine (hlb.out _ hx0).mono ?_); rintro e w3 ⟨rfl, hx3⟩; replace hx0 := hx0.trans hx3; obtain ⟨hc3, -, -, -⟩ := ecell hx3; have fl4 := Nat.lt_of_lt_of_le fl3 hx3.below.size))
    | (go_at_call 110; first | ((with_reducible refine (hna.out _ hx0).mono ?_); rintro e w4 ⟨rfl, hx4⟩; replace hx0 := hx0.trans hx4; obtain ⟨hc4, -, -, -⟩ := ecell hx4; have fl5 := Nat.lt_of_lt_of_le fl4 hx4.below.size) | ((with_reducible refine (hnb.out _ hx0).mono ?_); rintro e w5 ⟨rfl, hx5⟩; replace hx0 := hx0.trans hx5)))
   go_ret2
   exact ⟨rfl, hx0⟩
  ·rw [if_neg (by simp), if_neg (by simp; omega)] at hv
   obtain ⟨rfl, rfl⟩ := Prod.mk.inj hv
   clear hv hV
   go_enter Tryz.func68, Tryz.ntmps68
   go_wp2_with (first
    | (go_at_call 108; (with_reducible refine (sIsStd_c _).mono ?_); rintro e w1 ⟨rfl, hx1⟩; have k1 := hb.ext hx1; obtain ⟨f0, f1, f2⟩ := k1.c3; have fl := k1.lt; replace hx0 := hx0.trans hx1)
    | (go_at_call 109; first | ((with_reducible refine (hla.out _ hx0).mono ?_); rintro e w2 ⟨rfl, hx2⟩; replace hx0 := hx0.trans hx2; obtain ⟨hc2, -, -, -⟩ := ecell hx2; have fl2 := hx2.below.size; have fl3 := Nat.lt_of_lt_of_le fl hx2.below.size; have k2 := k1.ext hx2) | ((with_reducible refine (hlb.out _ hx0).mono ?_); rintro e w3 ⟨rfl, hx3⟩; replace hx0 := hx0.trans hx3; obtain ⟨hc3, -, -, -⟩ := ecell hx3; have fl4 := Nat.lt_of_lt_of_le fl3 hx3.below.size))
    | (go_at_call 110; first | ((with_reducible refine (hna.out _ hx0).mono ?_); rintro e w4 ⟨rfl, hx4⟩; replace hx0 := hx0.trans hx4; obtain ⟨hc4, -, -, -⟩ := ecell hx4; have fl5 := Nat.lt_of_lt_of_le fl4 hx4.below.size) | ((with_reducible refine (hnb.out _ hx0).mono ?_); rintro e w5 ⟨rfl, hx5⟩; replace hx0 := hx0.trans hx5)))
   go_ret2
   exact ⟨rfl, hx0⟩
theorem sShare_c (p q : Option Addr) (c d : Nat) (a b : List Int) (w : World) (ha : IntsAt w p a) (hb : IntsAt w q b) (hal : a.length = 15) (hbl : b.length = 15) (haf : fmL a) (hbf : fmL b) :
  Calls Tryz.prog 68 #[vStd, .slice p 15 c, .slice q 15 d] w fun e w' => e = .returned (.tuple #[.int .i64 (shareV a b).1, .int .i64 (shareV a b).2]) ∧ Ext w w' := by
 have h1 := nearV_bd a
 have h2 := nearV_bd b
 have h3 := unkTo_le a 15
 have h4 := unkTo_le b 15
 have c1 : costV a = 2 * (nearV a).2 + unkTo a 15 := rfl
 have c2 : costV b = 2 * (nearV b).2 + unkTo b 15 := rfl
 refine sShare_w p q c d (nearV a).1 (nearV a).2 (unkTo a 15) (nearV b).1 (nearV b).2 (unkTo b 15) _ _ (decide (costV a < 7)) (decide (costV b < 7)) w
  (Lib.hid fun W hx => sList_c p c a W (ha.ext hx) hal haf) (Lib.hid fun W hx => sList_c q d b W (hb.ext hx) hbl hbf)
  (Lib.hid fun W hx => sNearest_c p c a W (ha.ext hx) hal) (Lib.hid fun W hx => sNearest_c q d b W (hb.ext hx) hbl) ⟨by omega, by omega, by omega, by omega⟩ (Lib.hid ?_)
 unfold shareV
 by_cases x1 : costV a < 7 <;> by_cases x2 : costV b < 7
 ·have e : (2 * ((nearV b).2 : Int) + (unkTo b 15 : Int) < 2 * ((nearV a).2 : Int) + (unkTo a 15 : Int)) ↔ costV b < costV a := by omega
  have y1 : ¬ 7 ≤ costV a := by omega
  have y2 : ¬ 7 ≤ costV b := by omega
  simp only [x1, x2, y1, y2, e, decide_true, Bool.true_eq_false, false_and, if_false, true_and, false_or]
  try (split <;> rfl)
 ·have y1 : ¬ 7 ≤ costV a := by omega
  have y2 : 7 ≤ costV b := by omega
  simp [x1, x2, y1, y2]
 ·have y1 : 7 ≤ costV a := by omega
  have y2 : ¬ 7 ≤ costV b := by omega
  simp [x1, x2, y1, y2]
 ·have y1 : 7 ≤ costV a := by omega
  have y2 : 7 ≤ costV b := by omega
  simp [x1, x2, y1, y2]
open Go.RowKit

section
variable {w : World} {g g' : Nat} {a b c d : Value} {t : TypeId} {cs : Array Value}
theorem four_set (h : Blk w g #[a, b, c, d] t) (A B C D : Value) : Blk ((((w.setCell ⟨g, 0, none⟩ A).setCell ⟨g, 1, none⟩ B).setCell ⟨g, 2, none⟩ C).setCell ⟨g, 3, none⟩ D) g #[A, B, C, D] t := (((h.set 0 A).set 1 B).set 2 C).set 3 D
theorem four_far (h : Blk w g cs t) (hne : g ≠ g') (A B C D : Value) : Blk ((((w.setCell ⟨g', 0, none⟩ A).setCell ⟨g', 1, none⟩ B).setCell ⟨g', 2, none⟩ C).setCell ⟨g', 3, none⟩ D) g cs t := (((h.far hne A).far hne B).far hne C).far hne D
theorem Blk.new1 (w : World) (o : Obj) (cs : Array Value) (t : TypeId) : Blk ((w.alloc o).alloc (.cells cs t)) (w.heap.size + 1) cs t := by simpa using Blk.new (w.alloc o) cs t
theorem Blk.newAt {w : World} {cs : Array Value} {t : TypeId} {g : Nat} (h : w.heap.size = g) : Blk (w.alloc (.cells cs t)) g cs t := by rw [← h]; exact Blk.new w cs t
theorem four_ext {w0 : World} (h : Ext w0 w) (hg : w0.heap.size ≤ g) (A B C D : Value) : Ext w0 ((((w.setCell ⟨g, 0, none⟩ A).setCell ⟨g, 1, none⟩ B).setCell ⟨g, 2, none⟩ C).setCell ⟨g, 3, none⟩ D) := (((h.setCell hg A).setCell hg B).setCell hg C).setCell hg D
end
set_option maxRecDepth 100000 in
theorem isStd_c (w : World) : Calls Tryz.prog 197 #[vStd] w fun e w' => e = .returned (.bool true) ∧ Ext w w' := by
 go_enter Tryz.func197, Tryz.ntmps197
 go_wp2_with (go_at_call 85; (with_reducible refine (inRange_c _ _ _ _).mono ?_); rintro e w1 ⟨⟨hP, rfl⟩ | ⟨hP, rfl⟩, rfl⟩ <;> first | (exfalso; omega) | skip)
 go_ret
 exact ⟨rfl, eX⟩
set_option maxHeartbeats 1600000 in
set_option maxRecDepth 100000 in
theorem share_w (p q : Option Addr) (c d : Nat) (Za La Ua Ka Zb Lb Ub Kb V T : Int) (w : World)
  (hna : Hid (∀ W, Ext w W → Calls Tryz.prog 198 #[vStd, .slice p 15 c] W fun e w' => e = .returned (vNear Za La Ua Ka) ∧ Ext W w'))
  (hba : (0 ≤ La ∧ La ≤ 1000) ∧ (0 ≤ Ua ∧ Ua ≤ 1000) ∧ (0 ≤ Lb ∧ Lb ≤ 1000) ∧ (0 ≤ Ub ∧ Ub ≤ 1000)) (hka : Ka = 7 ∨ Ka = 0) (hkb : Kb = 7 ∨ Kb = 0)
  (hV : Hid ((V, T) = if Ka = 7 ∧ Kb = 7 then (0, 7) else if Ka = 7 ∨ (Kb = 0 ∧ 2 * Lb + Ub < 2 * La + Ua) then (Zb, 0) else (Za, 0)))
  (hnb : Hid (∀ W, Ext w W → Calls Tryz.prog 198 #[vStd, .slice q 15 d] W fun e w' => e = .returned (vNear Zb Lb Ub Kb) ∧ Ext W w')) :
  Calls Tryz.prog 165 #[vStd, .slice p 15 c, .slice q 15 d] w fun e w' => e = .returned (.tuple #[.int .i64 V, .int .i64 T]) ∧ Ext w w' := by
 have hb0 := Blk.new w #[.int .i64 5, .int .i64 15, .int .i64 1335] 111
 have hx0 : Ext w (w.alloc (.cells #[.int .i64 5, .int .i64 15, .int .i64 1335] 111)) := (Ext.refl w).alloc _
 go_enter Tryz.func165, Tryz.ntmps165
 go_wp2_with (go_at_call 197; (with_reducible refine (isStd_c _).mono ?_); rintro e w1 ⟨rfl, hx1⟩)
 have hbq := hb0.ext hx1
 replace hx1 := hx0.trans hx1
 generalize (w.alloc (.cells #[.int .i64 5, .int .i64 15, .int .i64 1335] 111)) = wq at *
 clear hb0 hx0
 have f0 := hbq.cell (i := 0) (v := .int .i64 5) rfl
 have f1 := hbq.cell (i := 1) (v := .int .i64 15) rfl
 have f2 := hbq.cell (i := 2) (v := .int .i64 1335) rfl
 have fl := hbq.lt
 go_cut [8, 9] (fun s8 s9 wx => ∃ g h : Nat, s8 = .pointer (some ⟨g, 0, none⟩) ∧ s9 = .pointer (some ⟨h, 0, none⟩) ∧ Blk wx g #[.int .i64 Za, .int .i64 La, .int .i64 Ua, .int .i64 Ka] 249 ∧ Blk wx h #[.int .i64 Zb, .int .i64 Lb, .int .i64 Ub, .int .i64 Kb] 249 ∧ Ext w1 wx)
 case first =>
  rename_i J1 K1 hJ1 hK1
  refine wp_region_c3 (fun w' => Ext w1 w') (.st 0 (.st 1 (.st 3 (.st 4 (.three 2 (.three 5 (.two 6 (.one 7 (.one 8 (.one 9 .done))) 7 (.one 6 (.one 8 (.one 9 .done)))) 6 (.two 5 (.one 7 (.one 8 (.one 9 .done))) 7 (.one 5 (.one 8 (.one 9 .done)))) 7 (.two 5 (.one 6 (.one 8 (.one 9 .done))) 6 (.one 5 (.one 8 (.one 9 .done))))) 6 (.two 2 (.two 5 (.one 7 (.one 8 (.one 9 .done))) 7 (.one 5 (.one 8 (.one 9 .done)))) 7 (.one 2 (.one 5 (.one 8 (.one 9 .done))))) 7 (.two 2 (.two 5 (.one 6 (.one 8 (.one 9 .done))) 6 (.one 5 (.one 8 (.one 9 .done)))) 6 (.one 2 (.one 5 (.one 8 (.one 9 .done)))))))))) (by kernel_rfl) (by kernel_rfl) (by decide) (by kernel_rfl) ?_ ?_
  ·exact eY
  refine c3_intro fun ops eo => ?_
  replace eo := canon_eo eo
  all_goals (apply c3_st (eo.out 0 rfl) rfl; exact evE; simp only [ptN])
  all_goals (apply c3_st (eo.out 1 rfl) rfl; exact evE; simp only [ptN])
  all_goals (apply c3_st (eo.out 3 rfl) rfl; exact evE; simp only [ptN])
  all_goals (apply c3_st (eo.out 4 rfl) rfl; exact evE; simp only [ptN])
  all_goals
   refine c3_three ?_ ?_ ?_
   rotate_right 1
   focus
    all_goals first | (refine c3_op (eo.out 7 rfl) rfl (fun K hK => ?_); go_simp; (skip); all_goals ((with_reducible refine hK _ _ ?_); refine ⟨eY, ?_⟩; clear hK K; go_simp))
    all_goals
     refine c3_two ?_ ?_
     rotate_right 1
     focus
      all_goals first | (refine c3_op (eo.out 6 rfl) rfl (fun K hK => ?_); go_simp; (skip); all_goals ((with_reducible refine hK _ _ ?_); refine ⟨eY, ?_⟩; clear hK K; go_simp))
      all_goals refine c3_one ?_
      all_goals first | (refine c3_op (eo.out 2 rfl) rfl (fun K hK => ?_); go_simp; ((go_at_call 198; (with_reducible refine (hna.out _ (hx1.trans eY)).mono ?_); rintro e wa ⟨rfl, hxa⟩; obtain ⟨hca, hfa, hka, hza⟩ := ecell hxa; (try simp at hza); (try have hza1 : w1.heap.size < wa.heap.size := (by omega)))); all_goals ((with_reducible refine hK _ _ ?_); refine ⟨eY, ?_⟩; clear hK K; go_simp))
      all_goals refine c3_one ?_
      all_goals first | (refine c3_op (eo.out 5 rfl) rfl (fun K hK => ?_); go_simp; ((go_at_call 198; (with_reducible refine (hnb.out _ (hx1.trans eY)).mono ?_); rintro e wb ⟨rfl, hxb⟩; obtain ⟨hcb, hfb, hkb, hzb⟩ := ecell hxb; (try simp at hzb); (try have hzb1 : w1.heap.size < wb.heap.size := (by omega)))); all_goals ((with_reducible refine hK _ _ ?_); refine ⟨eY, ?_⟩; clear hK K; go_simp))
      all_goals refine c3_one ?_
      all_goals first | (refine c3_op (eo.out 8 rfl) rfl (fun K hK => ?_); go_simp; (skip); all_goals ((with_reducible refine hK _ _ ?_); refine ⟨eY, ?_⟩; clear hK K; go_simp))
      all_goals refine c3_one ?_
      all_goals first | (refine c3_op (eo.out 9 rfl) rfl (fun K hK => ?_); go_simp; (skip); all_goals ((with_reducible refine hK _ _ ?_); refine ⟨eY, ?_⟩; clear hK K; go_simp))
      all_goals (clear eo; refine c3_done (NoPanic.normal ?_))
     rotate_right 1
     focus
      all_goals first | (refine c3_op (eo.out 2 rfl) rfl (fun K hK => ?_); go_simp; ((go_at_call 198; (with_reducible refine (hna.out _ (hx1.trans eY)).mono ?_); rintro e wa ⟨rfl, hxa⟩; obtain ⟨hca, hfa, hka, hza⟩ := ecell hxa; (try simp at hza); (try have hza1 : w1.heap.size < wa.heap.size := (by omega)))); all_goals ((with_reducible refine hK _ _ ?_); refine ⟨eY, ?_⟩; clear hK K; go_simp))
      all_goals
       refine c3_two ?_ ?_
       rotate_right 1
       focus
        all_goals first | (refine c3_op (eo.out 6 rfl) rfl (fun K hK => ?_); go_simp; (skip); all_goals ((with_reducible refine hK _ _ ?_); refine ⟨eY, ?_⟩; clear hK K; go_simp))
        all_goals refine c3_one ?_
        all_goals first | (refine c3_op (eo.out 5 rfl) rfl (fun K hK => ?_); go_simp; ((go_at_call 198; (with_reducible refine (hnb.out _ (hx1.trans eY)).mono ?_); rintro e wb ⟨rfl, hxb⟩; obtain ⟨hcb, hfb, hkb, hzb⟩ := ecell hxb; (try simp at hzb); (try have hzb1 : w1.heap.size < wb.heap.size := (by omega)))); all_goals ((with_reducible refine hK _ _ ?_); refine ⟨eY, ?_⟩; clear hK K; go_simp))
        all_goals refine c3_one ?_
        all_goals first | (refine c3_op (eo.out 8 rfl) rfl (fun K hK => ?_); go_simp; (skip); all_goals ((with_reducible refine hK _ _ ?_); refine ⟨eY, ?_⟩; clear hK K; go_simp))
        all_goals refine c3_one ?_
        all_goals first | (refine c3_op (eo.out 9 rfl) rfl (fun K hK => ?_); go_simp; (skip); all_goals ((with_reducible refine hK _ _ ?_); refine ⟨eY, ?_⟩; clear hK K; go_simp))
        all_goals (clear eo; refine c3_done (NoPanic.normal ?_))
       rotate_right 1
       focus
        all_goals first | (refine c3_op (eo.out 5 rfl) rfl (fun K hK => ?_); go_simp; ((go_at_call 198; (with_reducible refine (hnb.out _ (hx1.trans eY)).mono ?_); rintro e wb ⟨rfl, hxb⟩; obtain ⟨hcb, hfb, hkb, hzb⟩ := ecell hxb; (try simp at hzb); (try have hzb1 : w1.heap.size < wb.heap.size := (by omega)))); all_goals ((with_reducible refine hK _ _ ?_); refine ⟨eY, ?_⟩; clear hK K; go_simp))
        all_goals refine c3_one ?_
        all_goals first | (refine c3_op (eo.out 6 rfl) rfl (fun K hK => ?_); go_simp; (skip); all_goals ((with_reducible refine hK _ _ ?_); refine ⟨eY, ?_⟩; clear hK K; go_simp))
        all_goals refine c3_one ?_
        all_goals first | (refine c3_op (eo.out 8 rfl) rfl (fun K hK => ?_); go_simp; (skip); all_goals ((with_reducible refine hK _ _ ?_); refine ⟨eY, ?_⟩; clear hK K; go_simp))
        all_goals refine c3_one ?_
        all_goals first | (refine c3_op (eo.out 9 rfl) rfl (fun K hK => ?_); go_simp; (skip); all_goals ((with_reducible refine hK _ _ ?_); refine ⟨eY, ?_⟩; clear hK K; go_simp))
        all_goals (clear eo; refine c3_done (NoPanic.normal ?_))
   rotate_right 1
   focus
    all_goals first | (refine c3_op (eo.out 6 rfl) rfl (fun K hK => ?_); go_simp; (skip); all_goals ((with_reducible refine hK _ _ ?_); refine ⟨eY, ?_⟩; clear hK K; go_simp))
    all_goals
     refine c3_two ?_ ?_
     rotate_right 1
     focus
      all_goals first | (refine c3_op (eo.out 7 rfl) rfl (fun K hK => ?_); go_simp; (skip); all_goals ((with_reducible refine hK _ _ ?_); refine ⟨eY, ?_⟩; clear hK K; go_simp))
      all_goals refine c3_one ?_
      all_goals first | (refine c3_op (eo.out 2 rfl) rfl (fun K hK => ?_); go_simp; ((go_at_call 198; (with_reducible refine (hna.out _ (hx1.trans eY)).mono ?_); rintro e wa ⟨rfl, hxa⟩; obtain ⟨hca, hfa, hka, hza⟩ := ecell hxa; (try simp at hza); (try have hza1 : w1.heap.size < wa.heap.size := (by omega)))); all_goals ((with_reducible refine hK _ _ ?_); refine ⟨eY, ?_⟩; clear hK K; go_simp))
      all_goals refine c3_one ?_
      all_goals first | (refine c3_op (eo.out 5 rfl) rfl (fun K hK => ?_); go_simp; ((go_at_call 198; (with_reducible refine (hnb.out _ (hx1.trans eY)).mono ?_); rintro e wb ⟨rfl, hxb⟩; obtain ⟨hcb, hfb, hkb, hzb⟩ := ecell hxb; (try simp at hzb); (try have hzb1 : w1.heap.size < wb.heap.size := (by omega)))); all_goals ((with_reducible refine hK _ _ ?_); refine ⟨eY, ?_⟩; clear hK K; go_simp))
      all_goals refine c3_one ?_
      all_goals first | (refine c3_op (eo.out 8 rfl) rfl (fun K hK => ?_); go_simp; (skip); all_goals ((with_reducible refine hK _ _ ?_); refine ⟨eY, ?_⟩; clear hK K; go_simp))
      all_goals refine c3_one ?_
      all_goals first | (refine c3_op (eo.out 9 rfl) rfl (fun K hK => ?_); go_simp; (skip); all_goals ((with_reducible refine hK _ _ ?_); refine ⟨eY, ?_⟩; clear hK K; go_simp))
      all_goals (clear eo; refine c3_done (NoPanic.normal ?_))
     rotate_right 1
     focus
      all_goals first | (refine c3_op (eo.out 2 rfl) rfl (fun K hK => ?_); go_simp; ((go_at_call 198; (with_reducible refine (hna.out _ (hx1.trans eY)).mono ?_); rintro e wa ⟨rfl, hxa⟩; obtain ⟨hca, hfa, hka, hza⟩ := ecell hxa; (try simp at hza); (try have hza1 : w1.heap.size < wa.heap.size := (by omega)))); all_goals ((with_reducible refine hK _ _ ?_); refine ⟨eY, ?_⟩; clear hK K; go_simp))
      all_goals
       refine c3_two ?_ ?_
       rotate_right 1
       focus
        all_goals first | (refine c3_op (eo.out 7 rfl) rfl (fun K hK => ?_); go_simp; (skip); all_goals ((with_reducible refine hK _ _ ?_); refine ⟨eY, ?_⟩; clear hK K; go_simp))
        all_goals refine c3_one ?_
        all_goals first | (refine c3_op (eo.out 5 rfl) rfl (fun K hK => ?_); go_simp; ((go_at_call 198; (with_reducible refine (hnb.out _ (hx1.trans eY)).mono ?_); rintro e wb ⟨rfl, hxb⟩; obtain ⟨hcb, hfb, hkb, hzb⟩ := ecell hxb; (try simp at hzb); (try have hzb1 : w1.heap.size < wb.heap.size := (by omega)))); all_goals ((with_reducible refine hK _ _ ?_); refine ⟨eY, ?_⟩; clear hK K; go_simp))
        all_goals refine c3_one ?_
        all_goals first | (refine c3_op (eo.out 8 rfl) rfl (fun K hK => ?_); go_simp; (skip); all_goals ((with_reducible refine hK _ _ ?_); refine ⟨eY, ?_⟩; clear hK K; go_simp))
        all_goals refine c3_one ?_
        all_goals first | (refine c3_op (eo.out 9 rfl) rfl (fun K hK => ?_); go_simp; (skip); all_goals ((with_reducible refine hK _ _ ?_); refine ⟨eY, ?_⟩; clear hK K; go_simp))
        all_goals (clear eo; refine c3_done (NoPanic.normal ?_))
       rotate_right 1
       focus
        all_goals first | (refine c3_op (eo.out 5 rfl) rfl (fun K hK => ?_); go_simp; ((go_at_call 198; (with_reducible refine (hnb.out _ (hx1.trans eY)).mono ?_); rintro e wb ⟨rfl, hxb⟩; obtain ⟨hcb, hfb, hkb, hzb⟩ := ecell hxb; (try simp at hzb); (try have hzb1 : w1.heap.size < wb.heap.size := (by omega)))); all_goals ((with_reducible refine hK _ _ ?_); refine ⟨eY, ?_⟩; clear hK K; go_simp))
        all_goals refine c3_one ?_
        all_goals first | (refine c3_op (eo.out 7 rfl) rfl (fun K hK => ?_); go_simp; (skip); all_goals ((with_reducible refine hK _ _ ?_); refine ⟨eY, ?_⟩; clear hK K; go_simp))
        all_goals refine c3_one ?_
        all_goals first | (refine c3_op (eo.out 8 rfl) rfl (fun K hK => ?_); go_simp; (skip); all_goals ((with_reducible refine hK _ _ ?_); refine ⟨eY, ?_⟩; clear hK K; go_simp))
        all_goals refine c3_one ?_
        all_goals first | (refine c3_op (eo.out 9 rfl) rfl (fun K hK => ?_); go_simp; (skip); all_goals ((with_reducible refine hK _ _ ?_); refine ⟨eY, ?_⟩; clear hK K; go_simp))
        all_goals (clear eo; refine c3_done (NoPanic.normal ?_))
   rotate_right 1
   focus
    all_goals first | (refine c3_op (eo.out 2 rfl) rfl (fun K hK => ?_); go_simp; ((go_at_call 198; (with_reducible refine (hna.out _ (hx1.trans eY)).mono ?_); rintro e wa ⟨rfl, hxa⟩; obtain ⟨hca, hfa, hka, hza⟩ := ecell hxa; (try simp at hza); (try have hza1 : w1.heap.size < wa.heap.size := (by omega)))); all_goals ((with_reducible refine hK _ _ ?_); refine ⟨eY, ?_⟩; clear hK K; go_simp))
    all_goals
     refine c3_three ?_ ?_ ?_
     rotate_right 1
     focus
      all_goals first | (refine c3_op (eo.out 7 rfl) rfl (fun K hK => ?_); go_simp; (skip); all_goals ((with_reducible refine hK _ _ ?_); refine ⟨eY, ?_⟩; clear hK K; go_simp))
      all_goals
       refine c3_two ?_ ?_
       rotate_right 1
       focus
        all_goals first | (refine c3_op (eo.out 6 rfl) rfl (fun K hK => ?_); go_simp; (skip); all_goals ((with_reducible refine hK _ _ ?_); refine ⟨eY, ?_⟩; clear hK K; go_simp))
        all_goals refine c3_one ?_
        all_goals first | (refine c3_op (eo.out 5 rfl) rfl (fun K hK => ?_); go_simp; ((go_at_call 198; (with_reducible refine (hnb.out _ (hx1.trans eY)).mono ?_); rintro e wb ⟨rfl, hxb⟩; obtain ⟨hcb, hfb, hkb, hzb⟩ := ecell hxb; (try simp at hzb); (try have hzb1 : w1.heap.size < wb.heap.size := (by omega)))); all_goals ((with_reducible refine hK _ _ ?_); refine ⟨eY, ?_⟩; clear hK K; go_simp))
        all_goals refine c3_one ?_
        all_goals first | (refine c3_op (eo.out 8 rfl) rfl (fun K hK => ?_); go_simp; (skip); all_goals ((with_reducible refine hK _ _ ?_); refine ⟨eY, ?_⟩; clear hK K; go_simp))
        all_goals refine c3_one ?_
        all_goals first | (refine c3_op (eo.out 9 rfl) rfl (fun K hK => ?_); go_simp; (skip); all_goals ((with_reducible refine hK _ _ ?_); refine ⟨eY, ?_⟩; clear hK K; go_simp))
        all_goals (clear eo; refine c3_done (NoPanic.normal ?_))
       rotate_right 1
       focus
        all_goals first | (refine c3_op (eo.out 5 rfl) rfl (fun K hK => ?_); go_simp; ((go_at_call 198; (with_reducible refine (hnb.out _ (hx1.trans eY)).mono ?_); rintro e wb ⟨rfl, hxb⟩; obtain ⟨hcb, hfb, hkb, hzb⟩ := ecell hxb; (try simp at hzb); (try have hzb1 : w1.heap.size < wb.heap.size := (by omega)))); all_goals ((with_reducible refine hK _ _ ?_); refine ⟨eY, ?_⟩; clear hK K; go_simp))
        all_goals refine c3_one ?_
        all_goals first | (refine c3_op (eo.out 6 rfl) rfl (fun K hK => ?_); go_simp; (skip); all_goals ((with_reducible refine hK _ _ ?_); refine ⟨eY, ?_⟩; clear hK K; go_simp))
        all_goals refine c3_one ?_
        all_goals first | (refine c3_op (eo.out 8 rfl) rfl (fun K hK => ?_); go_simp; (skip); all_goals ((with_reducible refine hK _ _ ?_); refine ⟨eY, ?_⟩; clear hK K; go_simp))
        all_goals refine c3_one ?_
        all_goals first | (refine c3_op (eo.out 9 rfl) rfl (fun K hK => ?_); go_simp; (skip); all_goals ((with_reducible refine hK _ _ ?_); refine ⟨eY, ?_⟩; clear hK K; go_simp))
        all_goals (clear eo; refine c3_done (NoPanic.normal ?_))
     rotate_right 1
     focus
      all_goals first | (refine c3_op (eo.out 6 rfl) rfl (fun K hK => ?_); go_simp; (skip); all_goals ((with_reducible refine hK _ _ ?_); refine ⟨eY, ?_⟩; clear hK K; go_simp))
      all_goals
       refine c3_two ?_ ?_
       rotate_right 1
       focus
        all_goals first | (refine c3_op (eo.out 7 rfl) rfl (fun K hK => ?_); go_simp; (skip); all_goals ((with_reducible refine hK _ _ ?_); refine ⟨eY, ?_⟩; clear hK K; go_simp))
        all_goals refine c3_one ?_
        all_goals first | (refine c3_op (eo.out 5 rfl) rfl (fun K hK => ?_); go_simp; ((go_at_call 198; (with_reducible refine (hnb.out _ (hx1.trans eY)).mono ?_); rintro e wb ⟨rfl, hxb⟩; obtain ⟨hcb, hfb, hkb, hzb⟩ := ecell hxb; (try simp at hzb); (try have hzb1 : w1.heap.size < wb.heap.size := (by omega)))); all_goals ((with_reducible refine hK _ _ ?_); refine ⟨eY, ?_⟩; clear hK K; go_simp))
        all_goals refine c3_one ?_
        all_goals first | (refine c3_op (eo.out 8 rfl) rfl (fun K hK => ?_); go_simp; (skip); all_goals ((with_reducible refine hK _ _ ?_); refine ⟨eY, ?_⟩; clear hK K; go_simp))
        all_goals refine c3_one ?_
        all_goals first | (refine c3_op (eo.out 9 rfl) rfl (fun K hK => ?_); go_simp; (skip); all_goals ((with_reducible refine hK _ _ ?_); refine ⟨eY, ?_⟩; clear hK K; go_simp))
        all_goals (clear eo; refine c3_done (NoPanic.normal ?_))
       rotate_right 1
       focus
        all_goals first | (refine c3_op (eo.out 5 rfl) rfl (fun K hK => ?_); go_simp; ((go_at_call 198; (with_reducible refine (hnb.out _ (hx1.trans eY)).mono ?_); rintro e wb ⟨rfl, hxb⟩; obtain ⟨hcb, hfb, hkb, hzb⟩ := ecell hxb; (try simp at hzb); (try have hzb1 : w1.heap.size < wb.heap.size := (by omega)))); all_goals ((with_reducible refine hK _ _ ?_); refine ⟨eY, ?_⟩; clear hK K; go_simp))
        all_goals refine c3_one ?_
        all_goals first | (refine c3_op (eo.out 7 rfl) rfl (fun K hK => ?_); go_simp; (skip); all_goals ((with_reducible refine hK _ _ ?_); refine ⟨eY, ?_⟩; clear hK K; go_simp))
        all_goals refine c3_one ?_
        all_goals first | (refine c3_op (eo.out 8 rfl) rfl (fun K hK => ?_); go_simp; (skip); all_goals ((with_reducible refine hK _ _ ?_); refine ⟨eY, ?_⟩; clear hK K; go_simp))
        all_goals refine c3_one ?_
        all_goals first | (refine c3_op (eo.out 9 rfl) rfl (fun K hK => ?_); go_simp; (skip); all_goals ((with_reducible refine hK _ _ ?_); refine ⟨eY, ?_⟩; clear hK K; go_simp))
        all_goals (clear eo; refine c3_done (NoPanic.normal ?_))
     rotate_right 1
     focus
      all_goals first | (refine c3_op (eo.out 5 rfl) rfl (fun K hK => ?_); go_simp; ((go_at_call 198; (with_reducible refine (hnb.out _ (hx1.trans eY)).mono ?_); rintro e wb ⟨rfl, hxb⟩; obtain ⟨hcb, hfb, hkb, hzb⟩ := ecell hxb; (try simp at hzb); (try have hzb1 : w1.heap.size < wb.heap.size := (by omega)))); all_goals ((with_reducible refine hK _ _ ?_); refine ⟨eY, ?_⟩; clear hK K; go_simp))
      all_goals
       refine c3_two ?_ ?_
       rotate_right 1
       focus
        all_goals first | (refine c3_op (eo.out 7 rfl) rfl (fun K hK => ?_); go_simp; (skip); all_goals ((with_reducible refine hK _ _ ?_); refine ⟨eY, ?_⟩; clear hK K; go_simp))
        all_goals refine c3_one ?_
        all_goals first | (refine c3_op (eo.out 6 rfl) rfl (fun K hK => ?_); go_simp; (skip); all_goals ((with_reducible refine hK _ _ ?_); refine ⟨eY, ?_⟩; clear hK K; go_simp))
        all_goals refine c3_one ?_
        all_goals first | (refine c3_op (eo.out 8 rfl) rfl (fun K hK => ?_); go_simp; (skip); all_goals ((with_reducible refine hK _ _ ?_); refine ⟨eY, ?_⟩; clear hK K; go_simp))
        all_goals refine c3_one ?_
        all_goals first | (refine c3_op (eo.out 9 rfl) rfl (fun K hK => ?_); go_simp; (skip); all_goals ((with_reducible refine hK _ _ ?_); refine ⟨eY, ?_⟩; clear hK K; go_simp))
        all_goals (clear eo; refine c3_done (NoPanic.normal ?_))
       rotate_right 1
       focus
        all_goals first | (refine c3_op (eo.out 6 rfl) rfl (fun K hK => ?_); go_simp; (skip); all_goals ((with_reducible refine hK _ _ ?_); refine ⟨eY, ?_⟩; clear hK K; go_simp))
        all_goals refine c3_one ?_
        all_goals first | (refine c3_op (eo.out 7 rfl) rfl (fun K hK => ?_); go_simp; (skip); all_goals ((with_reducible refine hK _ _ ?_); refine ⟨eY, ?_⟩; clear hK K; go_simp))
        all_goals refine c3_one ?_
        all_goals first | (refine c3_op (eo.out 8 rfl) rfl (fun K hK => ?_); go_simp; (skip); all_goals ((with_reducible refine hK _ _ ?_); refine ⟨eY, ?_⟩; clear hK K; go_simp))
        all_goals refine c3_one ?_
        all_goals first | (refine c3_op (eo.out 9 rfl) rfl (fun K hK => ?_); go_simp; (skip); all_goals ((with_reducible refine hK _ _ ?_); refine ⟨eY, ?_⟩; clear hK K; go_simp))
        all_goals (clear eo; refine c3_done (NoPanic.normal ?_))
  all_goals (refine hK1 _ _ (hJ1 _ _ ?_); (repeat apply Exists.intro); refine ⟨?_, rfl⟩)
  all_goals (refine ⟨_, _, rfl, rfl, ?_, ?_, ?_⟩)
  all_goals (repeat (first | with_reducible assumption | with_reducible exact Ext.refl _ | with_reducible exact Blk.new _ _ _ | with_reducible exact Blk.new1 _ _ _ _ | (with_reducible refine Blk.newAt ?_; focus (simp [World.setCell]; done)) | (with_reducible refine four_set (a := .int .i64 0) (b := .int .i64 0) (c := .int .i64 0) (d := .int .i64 0) ?_ _ _ _ _) | (with_reducible refine four_far ?_ ?_ _ _ _ _; rotate_left 1; focus (omega)) | (with_reducible refine four_ext ?_ ?_ _ _ _ _; rotate_left 1; focus (omega)) | with_reducible refine Ext.drew ?_ | with_reducible refine Ext.alloc ?_ _ | with_reducible refine Ext.trans2 hxb ?_ | with_reducible refine Ext.trans2 hxa ?_ | with_reducible refine Blk.alloc ?_ _ | with_reducible refine Blk.drew ?_ | with_reducible refine Blk.ext ?_ hxb | with_reducible refine Blk.ext ?_ hxa))
 case rest =>
  obtain ⟨g, h, rfl, rfl, hX, hY, hxc⟩ := hcut
  replace hxc := hx1.trans hxc
  clear hna hnb hbq f0 f1 f2 fl
  obtain ⟨hLa, hUa, hLb, hUb⟩ := hba
  have hca := Lib.hid (fun W => cost_c Za La Ua Ka W hLa hUa)
  have hcb := Lib.hid (fun W => cost_c Zb Lb Ub Kb W hLb hUb)
  rcases hka with rfl | rfl <;> rcases hkb with rfl | rfl
  ·have hv := hV.out
   rw [if_pos ⟨rfl, rfl⟩] at hv
   obtain ⟨rfl, rfl⟩ := Prod.mk.inj hv
   clear hv
   have x3 := hX.cell (i := 3) (v := .int .i64 7) rfl
   have xl := hX.lt
   have y3 := hY.cell (i := 3) (v := .int .i64 7) rfl
   have yl := hY.lt
   go_wp2_with fail
   go_ret2
   exact ⟨rfl, hxc⟩
  ·have hv := hV.out
   rw [if_neg (by omega), if_pos (.inl rfl)] at hv
   obtain ⟨rfl, rfl⟩ := Prod.mk.inj hv
   clear hv
   have x3 := hX.cell (i := 3) (v := .int .i64 7) rfl
   have xl := hX.lt
   have y0 := hY.cell (i := 0) (v := .int .i64 V) rfl
   have y3 := hY.cell (i := 3) (v := .int .i64 0) rfl
   have yl := hY.lt
   go_wp2_with fail
   refine wp_region_canon (fun w' => Ext wc w') [(0, true), (1, true), (2, true), (3, true), (4, true), (5, true), (6, true), (7, true), (8, true), (10, true), (9, false), (11, false), (12, true), (13, true), (14, true), (15, true)] (by kernel_rfl) (by kernel_rfl) (by decide) (by kernel_rfl) ?_ ?_
   ·exact eX
   refine canon_intro fun ops eo => ?_
   replace eo := canon_eo eo
   iterate 4 all_goals (refine cS eo rfl rfl evE ?_; simp only [ptN])
   iterate 6 all_goals ((first | refine cU eo rfl rfl rfl rfl rfl ?_ | refine cX eo rfl rfl rfl rfl rfl ?_ | refine cW eo rfl rfl rfl rfl rfl evE ?_); simp only [ptN])
   all_goals first | (refine canon_efu (eo.out 9 rfl) rfl (eo.out _ rfl) rfl rfl (by first | assumption | exact eX) ?_; simp only [ptN]) | (refine canon_efx (eo.out 9 rfl) rfl (eo.out _ rfl) rfl rfl (by first | assumption | exact eX) ?_; simp only [ptN]) | (refine canon_efw (eo.out 9 rfl) rfl (eo.out _ rfl) rfl rfl (fun K hK => ?_); go_simp; (skip); all_goals (refine hK _ _ ⟨eX, ?_⟩; clear hK K; go_simp))
   all_goals first | (refine canon_efu (eo.out 11 rfl) rfl (eo.out _ rfl) rfl rfl (by first | assumption | exact eX) ?_; simp only [ptN]) | (refine canon_efx (eo.out 11 rfl) rfl (eo.out _ rfl) rfl rfl (by first | assumption | exact eX) ?_; simp only [ptN]) | (refine canon_efw (eo.out 11 rfl) rfl (eo.out _ rfl) rfl rfl (fun K hK => ?_); go_simp; (skip); all_goals (refine hK _ _ ⟨eX, ?_⟩; clear hK K; go_simp))
   iterate 2 all_goals ((first | refine cU eo rfl rfl rfl rfl rfl ?_ | refine cX eo rfl rfl rfl rfl rfl ?_ | refine cW eo rfl rfl rfl rfl rfl evE ?_); simp only [ptN])
   iterate 2 all_goals (refine cS eo rfl rfl evE ?_; simp only [ptN])
   all_goals (clear eo; refine canon_done (NoPanic.normal ?_))
   have hxd := hxc.drew
   go_wp2_with fail
   go_ret2
   exact ⟨rfl, eX⟩
  ·have hv := hV.out
   rw [if_neg (by omega), if_neg (by omega)] at hv
   obtain ⟨rfl, rfl⟩ := Prod.mk.inj hv
   clear hv
   have x0 := hX.cell (i := 0) (v := .int .i64 V) rfl
   have x3 := hX.cell (i := 3) (v := .int .i64 0) rfl
   have xl := hX.lt
   have y3 := hY.cell (i := 3) (v := .int .i64 7) rfl
   have yl := hY.lt
   go_wp2_with fail
   refine wp_region_canon (fun w' => Ext wc w') [(0, true), (1, true), (2, true), (3, true), (4, true), (5, true), (6, true), (7, true), (8, true), (10, true), (9, false), (11, false), (12, true), (13, true), (14, true), (15, true)] (by kernel_rfl) (by kernel_rfl) (by decide) (by kernel_rfl) ?_ ?_
   ·exact eX
   refine canon_intro fun ops eo => ?_
   replace eo := canon_eo eo
   iterate 4 all_goals (refine cS eo rfl rfl evE ?_; simp only [ptN])
   iterate 6 all_goals ((first | refine cU eo rfl rfl rfl rfl rfl ?_ | refine cX eo rfl rfl rfl rfl rfl ?_ | refine cW eo rfl rfl rfl rfl rfl evE ?_); simp only [ptN])
   all_goals first | (refine canon_efu (eo.out 9 rfl) rfl (eo.out _ rfl) rfl rfl (by first | assumption | exact eX) ?_; simp only [ptN]) | (refine canon_efx (eo.out 9 rfl) rfl (eo.out _ rfl) rfl rfl (by first | assumption | exact eX) ?_; simp only [ptN]) | (refine canon_efw (eo.out 9 rfl) rfl (eo.out _ rfl) rfl rfl (fun K hK => ?_); go_simp; (skip); all_goals (refine hK _ _ ⟨eX, ?_⟩; clear hK K; go_simp))
   all_goals first | (refine canon_efu (eo.out 11 rfl) rfl (eo.out _ rfl) rfl rfl (by first | assumption | exact eX) ?_; simp only [ptN]) | (refine canon_efx (eo.out 11 rfl) rfl (eo.out _ rfl) rfl rfl (by first | assumption | exact eX) ?_; simp only [ptN]) | (refine canon_efw (eo.out 11 rfl) rfl (eo.out _ rfl) rfl rfl (fun K hK => ?_); go_simp; (skip); all_goals (refine hK _ _ ⟨eX, ?_⟩; clear hK K; go_simp))
   iterate 2 all_goals ((first | refine cU eo rfl rfl rfl rfl rfl ?_ | refine cX eo rfl rfl rfl rfl rfl ?_ | refine cW eo rfl rfl rfl rfl rfl evE ?_); simp only [ptN])
   iterate 2 all_goals (refine cS eo rfl rfl evE ?_; simp only [ptN])
   all_goals (clear eo; refine canon_done (NoPanic.normal ?_))
   have hxd := hxc.drew
   go_wp2_with fail
   go_ret2
   exact ⟨rfl, eX⟩
  ·have x0 := hX.cell (i := 0) (v := .int .i64 Za) rfl
   have x1 := hX.cell (i := 1) (v := .int .i64 La) rfl
   have x2 := hX.cell (i := 2) (v := .int .i64 Ua) rfl
   have x3 := hX.cell (i := 3) (v := .int .i64 0) rfl
   have xl := hX.lt
   have y0 := hY.cell (i := 0) (v := .int .i64 Zb) rfl
   have y1 := hY.cell (i := 1) (v := .int .i64 Lb) rfl
   have y2 := hY.cell (i := 2) (v := .int .i64 Ub) rfl
   have y3 := hY.cell (i := 3) (v := .int .i64 0) rfl
   have yl := hY.lt
   by_cases hlt : 2 * Lb + Ub < 2 * La + Ua
   ·have hv := hV.out
    rw [if_neg (by omega), if_pos (.inr ⟨rfl, hlt⟩)] at hv
    obtain ⟨rfl, rfl⟩ := Prod.mk.inj hv
    clear hv hV
    go_wp2_with fail
    refine wp_region_canon (fun w' => Ext wc w') [(0, true), (1, true), (2, true), (3, true), (4, true), (5, true), (6, true), (7, true), (8, true), (10, true), (9, false), (11, false), (12, true), (13, true), (14, true), (15, true)] (by kernel_rfl) (by kernel_rfl) (by decide) (by kernel_rfl) ?_ ?_
    ·exact eX
    refine canon_intro fun ops eo => ?_
    replace eo := canon_eo eo
    iterate 4 all_goals (refine cS eo rfl rfl evE ?_; simp only [ptN])
    iterate 6 all_goals ((first | refine cU eo rfl rfl rfl rfl rfl ?_ | refine cX eo rfl rfl rfl rfl rfl ?_ | refine cW eo rfl rfl rfl rfl rfl evE ?_); simp only [ptN])
    all_goals first | (refine canon_efu (eo.out 9 rfl) rfl (eo.out _ rfl) rfl rfl (by first | assumption | exact eX) ?_; simp only [ptN]) | (refine canon_efx (eo.out 9 rfl) rfl (eo.out _ rfl) rfl rfl (by first | assumption | exact eX) ?_; simp only [ptN]) | (refine canon_efw (eo.out 9 rfl) rfl (eo.out _ rfl) rfl rfl (fun K hK => ?_); go_simp; ((go_at_call 199; (with_reducible refine (hcb.out _).mono ?_); rintro e wb ⟨rfl, hxb⟩)); all_goals (refine hK _ _ ⟨eX, ?_⟩; clear hK K; go_simp)) | (refine canon_efw (eo.out 9 rfl) rfl (eo.out _ rfl) rfl rfl (fun K hK => ?_); go_simp; ((go_at_call 199; (with_reducible refine (hca.out _).mono ?_); rintro e wa ⟨rfl, hxa⟩)); all_goals (refine hK _ _ ⟨eX, ?_⟩; clear hK K; go_simp))
    all_goals first | (refine canon_efu (eo.out 11 rfl) rfl (eo.out _ rfl) rfl rfl (by first | assumption | exact eX) ?_; simp only [ptN]) | (refine canon_efx (eo.out 11 rfl) rfl (eo.out _ rfl) rfl rfl (by first | assumption | exact eX) ?_; simp only [ptN]) | (refine canon_efw (eo.out 11 rfl) rfl (eo.out _ rfl) rfl rfl (fun K hK => ?_); go_simp; ((go_at_call 199; (with_reducible refine (hcb.out _).mono ?_); rintro e wb ⟨rfl, hxb⟩)); all_goals (refine hK _ _ ⟨eX, ?_⟩; clear hK K; go_simp)) | (refine canon_efw (eo.out 11 rfl) rfl (eo.out _ rfl) rfl rfl (fun K hK => ?_); go_simp; ((go_at_call 199; (with_reducible refine (hca.out _).mono ?_); rintro e wa ⟨rfl, hxa⟩)); all_goals (refine hK _ _ ⟨eX, ?_⟩; clear hK K; go_simp))
    iterate 2 all_goals ((first | refine cU eo rfl rfl rfl rfl rfl ?_ | refine cX eo rfl rfl rfl rfl rfl ?_ | refine cW eo rfl rfl rfl rfl rfl evE ?_); simp only [ptN])
    iterate 2 all_goals (refine cS eo rfl rfl evE ?_; simp only [ptN])
    all_goals (clear eo; refine canon_done (NoPanic.normal ?_))
    have hxd : Ext wc wa := eX
    replace hY := hY.ext hxd
    have y0 := hY.cell (i := 0) (v := .int .i64 V) rfl
    go_wp2_with fail
    go_ret2
    exact ⟨rfl, hxc.trans hxd⟩
   ·have hv := hV.out
    rw [if_neg (by omega), if_neg (by omega)] at hv
    obtain ⟨rfl, rfl⟩ := Prod.mk.inj hv
    clear hv hV
    go_wp2_with fail
    refine wp_region_canon (fun w' => Ext wc w') [(0, true), (1, true), (2, true), (3, true), (4, true), (5, true), (6, true), (7, true), (8, true), (10, true), (9, false), (11, false), (12, true), (13, true), (14, true), (15, true)] (by kernel_rfl) (by kernel_rfl) (by decide) (by kernel_rfl) ?_ ?_
    ·exact eX
    refine canon_intro fun ops eo => ?_
    replace eo := canon_eo eo
    iterate 4 all_goals (refine cS eo rfl rfl evE ?_; simp only [ptN])
    iterate 6 all_goals ((first | refine cU eo rfl rfl rfl rfl rfl ?_ | refine cX eo rfl rfl rfl rfl rfl ?_ | refine cW eo rfl rfl rfl rfl rfl evE ?_); simp only [ptN])
    all_goals first | (refine canon_efu (eo.out 9 rfl) rfl (eo.out _ rfl) rfl rfl (by first | assumption | exact eX) ?_; simp only [ptN]) | (refine canon_efx (eo.out 9 rfl) rfl (eo.out _ rfl) rfl rfl (by first | assumption | exact eX) ?_; simp only [ptN]) | (refine canon_efw (eo.out 9 rfl) rfl (eo.out _ rfl) rfl rfl (fun K hK => ?_); go_simp; ((go_at_call 199; (with_reducible refine (hcb.out _).mono ?_); rintro e wb ⟨rfl, hxb⟩)); all_goals (refine hK _ _ ⟨eX, ?_⟩; clear hK K; go_simp)) | (refine canon_efw (eo.out 9 rfl) rfl (eo.out _ rfl) rfl rfl (fun K hK => ?_); go_simp; ((go_at_call 199; (with_reducible refine (hca.out _).mono ?_); rintro e wa ⟨rfl, hxa⟩)); all_goals (refine hK _ _ ⟨eX, ?_⟩; clear hK K; go_simp))
    all_goals first | (refine canon_efu (eo.out 11 rfl) rfl (eo.out _ rfl) rfl rfl (by first | assumption | exact eX) ?_; simp only [ptN]) | (refine canon_efx (eo.out 11 rfl) rfl (eo.out _ rfl) rfl rfl (by first | assumption | exact eX) ?_; simp only [ptN]) | (refine canon_efw (eo.out 11 rfl) rfl (eo.out _ rfl) rfl rfl (fun K hK => ?_); go_simp; ((go_at_call 199; (with_reducible refine (hcb.out _).mono ?_); rintro e wb ⟨rfl, hxb⟩)); all_goals (refine hK _ _ ⟨eX, ?_⟩; clear hK K; go_simp)) | (refine canon_efw (eo.out 11 rfl) rfl (eo.out _ rfl) rfl rfl (fun K hK => ?_); go_simp; ((go_at_call 199; (with_reducible refine (hca.out _).mono ?_); rintro e wa ⟨rfl, hxa⟩)); all_goals (refine hK _ _ ⟨eX, ?_⟩; clear hK K; go_simp))
    iterate 2 all_goals ((first | refine cU eo rfl rfl rfl rfl rfl ?_ | refine cX eo rfl rfl rfl rfl rfl ?_ | refine cW eo rfl rfl rfl rfl rfl evE ?_); simp only [ptN])
    iterate 2 all_goals (refine cS eo rfl rfl evE ?_; simp only [ptN])
    all_goals (clear eo; refine canon_done (NoPanic.normal ?_))
    have hxd : Ext wc wa := eX
    replace hX := hX.ext hxd
    have x0 := hX.cell (i := 0) (v := .int .i64 V) rfl
    go_wp2_with fail
    go_ret2
    exact ⟨rfl, hxc.trans hxd⟩
theorem iShare_c (p q : Option Addr) (c d : Nat) (a b : List Int) (w : World) (ha : IntsAt w p a) (hb : IntsAt w q b) (hal : a.length = 15) (hbl : b.length = 15) (haf : fmL a) (hbf : fmL b) :
  Calls Tryz.prog 165 #[vStd, .slice p 15 c, .slice q 15 d] w fun e w' => e = .returned (.tuple #[.int .i64 (shareV a b).1, .int .i64 (shareV a b).2]) ∧ Ext w w' := by
 have h1 := nearV_bd a
 have h2 := nearV_bd b
 have h3 := unkTo_le a 15
 have h4 := unkTo_le b 15
 have c1 : costV a = 2 * (nearV a).2 + unkTo a 15 := rfl
 have c2 : costV b = 2 * (nearV b).2 + unkTo b 15 := rfl
 refine share_w p q c d (nearV a).1 (nearV a).2 (unkTo a 15) (if 7 ≤ costV a then 7 else 0) (nearV b).1 (nearV b).2 (unkTo b 15) (if 7 ≤ costV b then 7 else 0) _ _ w (Lib.hid fun W hx => nearest_c p c a W (ha.ext hx) hal haf) ⟨by omega, by omega, by omega, by omega⟩ (by split <;> simp) (by split <;> simp) (Lib.hid ?_) (Lib.hid fun W hx => nearest_c q d b W (hb.ext hx) hbl hbf)
 unfold shareV
 by_cases x1 : 7 ≤ costV a <;> by_cases x2 : 7 ≤ costV b
 ·simp [x1, x2]
 ·simp [x1, x2]
 ·have : ¬ costV b < 7 := by omega
  simp [x1, x2, this]
 ·have : costV b < 7 := by omega
  have e : (2 * ((nearV b).2 : Int) + (unkTo b 15 : Int) < 2 * ((nearV a).2 : Int) + (unkTo a 15 : Int)) ↔ costV b < costV a := by omega
  simp only [x1, x2, this, if_false, e, true_and, false_or, and_self, false_and, if_false]
  split <;> simp_all <;> omega
end Go.Proofs.YtojdediohjghnaaGreatDoor
