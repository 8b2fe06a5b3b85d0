
/- The standard format: its words, distances, what is nearest; plain. -/
import Derived.Test.YtdjknkmifaomgaaGreatBits
import Derived.Test.YtdjknkmifaomgaaGreatBands
import Derived.Test.YtdjknkmifaomgaaGreatFixed
import Derived.Deep.DeepCutAuto
/-! The standard format: its words, distances, what is nearest; plain. -/
/-! The standard format: its words, distances, what is nearest; plain. -/
namespace Go.Proofs.YtdjknkmifaomgaaGreat
set_option linter.unusedVariables false
set_option linter.unusedSimpArgs false
open Go.RowKit

def fmtStep (at_ r : Nat) : Nat := if (r >>> at_) &&& 1 = 1 then r ^^^ (1335 <<< (at_ - 10)) else r
/-- The rest after j steps. -/
def fmtTo (v : Nat) : Nat → Nat
  | 0 => v <<< 10
  | j + 1 => fmtStep (14 - j) (fmtTo v j)
def fmtNum (v : Nat) : Nat := (v <<< 10) ||| fmtTo v 5
theorem fmtTo_bd : ∀ v, v < 32 → ∀ j, j < 6 → fmtTo v j < 32768 := by decide +kernel
theorem fmtTo_low : ∀ v, v < 32 → fmtTo v 5 < 1024 := by decide +kernel
theorem fmtNum_bd : ∀ v, v < 32 → fmtNum v < 32768 := by decide +kernel
/-- The format word of a number. -/
def fmtW (v : Nat) : List Int := bitsOf (fmtNum v : Int) 15
theorem fmtW_len (v : Nat) : (fmtW v).length = 15 := by simp [fmtW, bitsOf]
theorem fmtW_split : ∀ v : Nat, v < 32 → bitsOf (v : Int) 5 ++ bitsOf (fmtTo v 5 : Int) 10 = fmtW v := by decide +kernel
theorem fmtW_bd : ∀ v, v < 32 → ∀ x ∈ fmtW v, 0 ≤ x ∧ x ≤ 1 := by
  intro v _ x hx
  simp only [fmtW, bitsOf, List.mem_map] at hx
  obtain ⟨j, _, rfl⟩ := hx
  omega

/-- The number of ones among the lowest k bits. -/
def pop : Nat → Nat → Nat
  | 0, _ => 0
  | k + 1, x => x % 2 + pop k (x / 2)
theorem pop_le : ∀ k x, pop k x ≤ k := by
  intro k
  induction k with
  | zero => intro x; simp [pop]
  | succ k ih => intro x; have := ih (x / 2); simp only [pop]; omega

/-- At how many of the first k places a list is known and differs from a word. -/
def difTo (w l : List Int) : Nat → Nat
  | 0 => 0
  | k + 1 => difTo w l k + if l.getD k 0 < 0 then 0 else if l.getD k 0 = w.getD k 0 then 0 else 1
/-- How many of the first k are unknown. -/
def unkTo (l : List Int) : Nat → Nat
  | 0 => 0
  | k + 1 => unkTo l k + if l.getD k 0 < 0 then 1 else 0
theorem difTo_le (w l : List Int) : ∀ k, difTo w l k ≤ k
  | 0 => Nat.le_refl _
  | k + 1 => by
    have := difTo_le w l k
    unfold difTo
    split
    · omega
    · split <;> omega
theorem unkTo_le (l : List Int) : ∀ k, unkTo l k ≤ k
  | 0 => Nat.le_refl _
  | k + 1 => by
    have := unkTo_le l k
    unfold unkTo
    split <;> omega
/-- Which of the first k bits are known, as a number. -/
def knwTo (l : List Int) : Nat → Nat
  | 0 => 0
  | k + 1 => if l.getD k 0 < 0 then knwTo l k <<< 1 else (knwTo l k <<< 1) ||| 1
/-- The known bits as a number. -/
def wrdTo (l : List Int) : Nat → Nat
  | 0 => 0
  | k + 1 => if l.getD k 0 < 0 then wrdTo l k <<< 1 else (wrdTo l k <<< 1) ||| (l.getD k 0).toNat
theorem shl1_or {a b : Nat} (hb : b ≤ 1) : (a <<< 1) ||| b = 2 * a + b := by
  rw [Nat.shiftLeft_eq]
  have : b = 0 ∨ b = 1 := by omega
  rcases this with rfl | rfl
  · simp; omega
  · rw [show a * 2 ^ 1 = 2 * a by omega]
    have := Nat.two_pow_add_eq_or_of_lt (i := 1) (b := 1) (by omega) a
    simpa using this.symm
def fmL (l : List Int) : Prop := ∀ x ∈ l, -1 ≤ x ∧ x ≤ 1
theorem fmL_at {l : List Int} (h : fmL l) (k : Nat) : -1 ≤ l.getD k 0 ∧ l.getD k 0 ≤ 1 := by
  by_cases hk : k < l.length
  · rw [List.getD_eq_getElem?_getD, List.getElem?_eq_getElem hk]; exact h _ (List.getElem_mem _)
  · rw [List.getD_eq_getElem?_getD, List.getElem?_eq_none (by omega)]; simp
theorem kw_bd {l : List Int} (h : fmL l) : ∀ k, knwTo l k < 2 ^ k ∧ wrdTo l k < 2 ^ k
  | 0 => by simp [knwTo, wrdTo]
  | k + 1 => by
    have h1 := kw_bd h k
    have h2 := fmL_at h k
    unfold knwTo wrdTo
    rw [Nat.pow_succ]
    split
    · simp only [Nat.shiftLeft_eq]; omega
    · rw [shl1_or (Nat.le_refl 1), shl1_or (by omega)]; omega
theorem getD_bits (n : Nat) (wd k : Nat) (h : k < wd) : (bitsOf (n : Int) wd).getD k 0 = ((n / 2 ^ (wd - 1 - k) % 2 : Nat) : Int) := by
  rw [List.getD_eq_getElem?_getD, List.getElem?_eq_getElem (by rw [bitsOf_len]; omega)]
  simp [bitsOf]
theorem pop_dif {l : List Int} (h : fmL l) (N : Nat) : ∀ k, k ≤ 15 → pop k (((N >>> (15 - k)) ^^^ wrdTo l k) &&& knwTo l k) = difTo (bitsOf (N : Int) 15) l k
  | 0, _ => by simp [pop, difTo]
  | k + 1, hk => by
    have ih := pop_dif h N k (by omega)
    have h2 := fmL_at h k
    have hg : (bitsOf (N : Int) 15).getD k 0 = ((N / 2 ^ (15 - 1 - k) % 2 : Nat) : Int) := getD_bits N 15 k (by omega)
    have hs : (N >>> (15 - (k + 1))) / 2 = N >>> (15 - k) := by
      rw [Nat.shiftRight_eq_div_pow, Nat.shiftRight_eq_div_pow, Nat.div_div_eq_div_mul, show 15 - k = (15 - (k + 1)) + 1 by omega, Nat.pow_succ]
    have hm : (N >>> (15 - (k + 1))) % 2 = N / 2 ^ (15 - 1 - k) % 2 := by rw [Nat.shiftRight_eq_div_pow, show 15 - (k + 1) = 15 - 1 - k by omega]
    unfold pop difTo
    rw [Nat.and_div_two, Nat.xor_div_two, hs, ← ih]
    have hmod : (((N >>> (15 - (k + 1))) ^^^ wrdTo l (k + 1)) &&& knwTo l (k + 1)) % 2 = (((N / 2 ^ (15 - 1 - k) % 2) ^^^ (wrdTo l (k + 1) % 2)) &&& (knwTo l (k + 1) % 2)) := by
      have := Nat.and_mod_two_pow (a := (N >>> (15 - (k + 1))) ^^^ wrdTo l (k + 1)) (b := knwTo l (k + 1)) (n := 1)
      simp only [Nat.pow_one] at this
      rw [this]
      have h3 := Nat.xor_mod_two_pow (a := N >>> (15 - (k + 1))) (b := wrdTo l (k + 1)) (n := 1)
      simp only [Nat.pow_one] at h3
      rw [h3, hm]
    rw [hmod]
    rw [hg]
    have ek : knwTo l (k + 1) = if l.getD k 0 < 0 then knwTo l k <<< 1 else (knwTo l k <<< 1) ||| 1 := rfl
    have ew : wrdTo l (k + 1) = if l.getD k 0 < 0 then wrdTo l k <<< 1 else (wrdTo l k <<< 1) ||| (l.getD k 0).toNat := rfl
    rw [ek, ew]
    clear ek ew hmod ih
    generalize l.getD k 0 = x at *
    have hb : N / 2 ^ (15 - 1 - k) % 2 = 0 ∨ N / 2 ^ (15 - 1 - k) % 2 = 1 := by omega
    by_cases hx : x < 0
    · simp only [hx, if_true]
      rw [Nat.shiftLeft_eq, Nat.shiftLeft_eq, show wrdTo l k * 2 ^ 1 / 2 = wrdTo l k by omega, show knwTo l k * 2 ^ 1 / 2 = knwTo l k by omega, show knwTo l k * 2 ^ 1 % 2 = 0 by omega]
      simp
    · simp only [hx, if_false]
      rw [shl1_or (Nat.le_refl 1), shl1_or (show x.toNat ≤ 1 by omega)]
      rw [show (2 * wrdTo l k + x.toNat) / 2 = wrdTo l k by omega, show (2 * knwTo l k + 1) / 2 = knwTo l k by omega, show (2 * knwTo l k + 1) % 2 = 1 by omega, show (2 * wrdTo l k + x.toNat) % 2 = x.toNat by omega]
      have hx2 : x = 0 ∨ x = 1 := by omega
      rcases hx2 with rfl | rfl <;> rcases hb with hb | hb <;> rw [hb] <;> simp <;> omega

/-- The nearest number among the first v, and its distance. -/
def bestTo (D : Nat → Nat) : Nat → Nat × Nat
  | 0 => (0, 16)
  | v + 1 => if D v < (bestTo D v).2 then (v, D v) else bestTo D v
theorem bestTo_bd {D : Nat → Nat} (h : ∀ v, D v ≤ 15) : ∀ v, (bestTo D v).1 ≤ v ∧ (bestTo D v).2 ≤ 16 ∧ (0 < v → (bestTo D v).1 < v ∧ (bestTo D v).2 ≤ 15)
  | 0 => by simp [bestTo]
  | v + 1 => by
    have h1 := bestTo_bd h v
    have h2 := h v
    unfold bestTo
    split
    · simp; omega
    · rename_i h3
      refine ⟨by omega, h1.2.1, fun _ => ?_⟩
      by_cases h0 : v = 0
      · subst h0; simp [bestTo] at h3; omega
      · have := h1.2.2 (by omega); omega
theorem bestTo_is {D : Nat → Nat} {v0 : Nat} (h16 : D v0 < 16) (hmin : ∀ v, v < 32 → v ≠ v0 → D v0 < D v) : ∀ n, n ≤ 32 → v0 < n → bestTo D n = (v0, D v0) := by
  have hpre : ∀ n, n ≤ v0 → n ≤ 32 → D v0 < (bestTo D n).2 := by
    intro n
    induction n with
    | zero => intro _ _; exact h16
    | succ n ih =>
      intro h1 h2
      unfold bestTo
      split
      · exact hmin n (by omega) (by omega)
      · exact ih (by omega) (by omega)
  intro n
  induction n with
  | zero => intro _ h; omega
  | succ n ih =>
    intro h1 h2
    unfold bestTo
    by_cases e : n = v0
    · subst e
      rw [if_pos (hpre n (Nat.le_refl _) (by omega))]
    · have := ih (by omega) (by omega)
      rw [this]
      have := hmin n (by omega) e
      rw [if_neg (by simp; omega)]
def nearV (l : List Int) : Nat × Nat := bestTo (fun v => difTo (fmtW v) l 15) 32
theorem nearV_bd (l : List Int) : (nearV l).1 < 32 ∧ (nearV l).2 ≤ 15 := (bestTo_bd (fun v => difTo_le _ _ 15) 32).2.2 (by omega)
def costV (l : List Int) : Nat := 2 * (nearV l).2 + unkTo l 15
theorem costV_bd (l : List Int) : costV l ≤ 45 := by
  have := (nearV_bd l).2
  have := unkTo_le l 15
  unfold costV; omega
/-- What two copies share, and the code. -/
def shareV (a b : List Int) : Int × Int :=
  if 7 ≤ costV a ∧ 7 ≤ costV b then (0, 7) else if 7 ≤ costV a ∨ (costV b < 7 ∧ costV b < costV a) then (((nearV b).1 : Nat), 0) else (((nearV a).1 : Nat), 0)

theorem fmt_far : ∀ v, v < 32 → ∀ u, u < 32 → u ≠ v → 7 ≤ difTo (fmtW u) (fmtW v) 15 := by decide +kernel
theorem difTo_succ {w l : List Int} {k : Nat} (h : 0 ≤ l.getD k 0) : difTo w l (k + 1) = difTo w l k + if l.getD k 0 = w.getD k 0 then 0 else 1 := by
  show difTo w l k + (if l.getD k 0 < 0 then 0 else if l.getD k 0 = w.getD k 0 then 0 else 1) = _
  rw [if_neg (by omega)]
theorem dif_tri (u v l : List Int) (hl : ∀ k, 0 ≤ l.getD k 0) (hv : ∀ k, 0 ≤ v.getD k 0) : ∀ k, difTo u v k ≤ difTo u l k + difTo v l k
  | 0 => by simp [difTo]
  | k + 1 => by
    have ih := dif_tri u v l hl hv k
    rw [difTo_succ (hv k), difTo_succ (hl k), difTo_succ (hl k)]
    generalize u.getD k 0 = x at *
    generalize v.getD k 0 = y at *
    generalize l.getD k 0 = z at *
    by_cases e1 : y = x
    · rw [if_pos e1]; omega
    · rw [if_neg e1]
      by_cases e2 : z = x
      · have e3 : ¬ z = y := fun h => e1 (by rw [← h, e2])
        rw [if_pos e2, if_neg e3]; omega
      · rw [if_neg e2]; omega
theorem unk_none {l : List Int} (hl : ∀ k, 0 ≤ l.getD k 0) : ∀ k, unkTo l k = 0
  | 0 => rfl
  | k + 1 => by
    have := hl k
    unfold unkTo
    rw [unk_none hl k, if_neg (by omega)]
theorem fmtW_at {v : Nat} (hv : v < 32) (k : Nat) : 0 ≤ (fmtW v).getD k 0 := by
  by_cases hk : k < (fmtW v).length
  · rw [List.getD_eq_getElem?_getD, List.getElem?_eq_getElem hk]; exact (fmtW_bd v hv _ (List.getElem_mem _)).1
  · rw [List.getD_eq_getElem?_getD, List.getElem?_eq_none (by omega)]; simp
/-- Up to three wrong bits are borne. -/
theorem near_is {v : Nat} (hv : v < 32) {l : List Int} (hl : ∀ k, 0 ≤ l.getD k 0) (h3 : difTo (fmtW v) l 15 ≤ 3) : nearV l = (v, difTo (fmtW v) l 15) ∧ costV l ≤ 6 := by
  have h1 : nearV l = (v, difTo (fmtW v) l 15) := bestTo_is (D := fun v => difTo (fmtW v) l 15) (by show difTo (fmtW v) l 15 < 16; omega) (fun u hu hne => by
    have a1 := fmt_far v hv u hu hne
    have a2 := dif_tri (fmtW u) (fmtW v) l hl (fmtW_at hv) 15
    show difTo (fmtW v) l 15 < difTo (fmtW u) l 15
    omega) 32 (Nat.le_refl _) hv
  refine ⟨h1, ?_⟩
  unfold costV
  rw [h1, unk_none hl]
  show 2 * difTo (fmtW v) l 15 + 0 ≤ 6
  omega
theorem share_is {v : Nat} (hv : v < 32) {a b : List Int} (ha : ∀ k, 0 ≤ a.getD k 0) (hb : ∀ k, 0 ≤ b.getD k 0) (ha3 : difTo (fmtW v) a 15 ≤ 3) (hb3 : difTo (fmtW v) b 15 ≤ 3) : shareV a b = ((v : Int), 0) := by
  obtain ⟨a1, a2⟩ := near_is hv ha ha3
  obtain ⟨b1, b2⟩ := near_is hv hb hb3
  unfold shareV
  rw [if_neg (by omega), a1, b1]
  split <;> rfl
end Go.Proofs.YtdjknkmifaomgaaGreat

/-! The standard format, walked on the program's side: words, distances. -/
namespace Go.Proofs.YtdjknkmifaomgaaGreat
set_option linter.unusedVariables false
set_option linter.unusedSimpArgs false
open Go.RowKit

abbrev vStd : Value := .agg #[.int .i64 5, .int .i64 15, .int .i64 1335]
theorem fmtTo_succ (v j : Nat) : fmtTo v (j + 1) = fmtStep (14 - j) (fmtTo v j) := rfl
def o1 (x : Nat) : Nat := ((x / 2) &&& 6148914691236517205) + (x &&& 6148914691236517205)
def o2 (x : Nat) : Nat := ((x / 4) &&& 3689348814741910323) + (x &&& 3689348814741910323)
def o3 (x : Nat) : Nat := (x / 16 + x) &&& 1085102592571150095
def o4 (x : Nat) : Nat := x + x / 256
def o5 (x : Nat) : Nat := x + x / 65536
def o6 (x : Nat) : Nat := x + x / 4294967296
def p15 (x : Nat) : Nat := x % 2 + (x / 2 % 2 + (x / 4 % 2 + (x / 8 % 2 + (x / 16 % 2 + (x / 32 % 2 + (x / 64 % 2 + (x / 128 % 2 + (x / 256 % 2 + (x / 512 % 2 + (x / 1024 % 2 + (x / 2048 % 2 + (x / 4096 % 2 + (x / 8192 % 2 + x / 16384 % 2)))))))))))))
theorem p15_eq (x : Nat) : pop 15 x = p15 x := by
  simp only [pop, p15, Nat.div_div_eq_div_mul, Nat.reduceMul, Nat.add_zero]
def onesB (x : Nat) : Bool := Nat.beq (o6 (o5 (o4 (o3 (o2 (o1 x))))) &&& 127) (p15 x)
def rgB (p : Nat → Bool) (lo n : Nat) : Bool := Nat.rec true (fun k b => cond (p (lo + k)) b false) n
theorem rgB_of {p : Nat → Bool} {lo : Nat} : ∀ n, rgB p lo n = true → ∀ k, k < n → p (lo + k) = true
  | 0, _, k, h => by omega
  | n + 1, h, k, hk => by
    have e : rgB p lo (n + 1) = cond (p (lo + n)) (rgB p lo n) false := rfl
    rw [e] at h
    cases hp : p (lo + n) with
    | false => rw [hp] at h; cases h
    | true =>
      rw [hp] at h
      by_cases e : k = n
      · rw [e]; exact hp
      · exact rgB_of n h k (by omega)
theorem onesB_all : rgB (fun a => rgB onesB (256 * a) 256) 0 128 = true := by decide +kernel
theorem ones_ok (x : Nat) (h : x < 32768) : o6 (o5 (o4 (o3 (o2 (o1 x))))) &&& 127 = pop 15 x := by
  have h1 := rgB_of 128 onesB_all (x / 256) (by omega)
  have h2 := rgB_of 256 h1 (x % 256) (by omega)
  rw [Nat.zero_add, Nat.div_add_mod] at h2
  rw [p15_eq]
  exact Nat.eq_of_beq_eq_true h2
theorem bits_and_u (a b : Nat) (ha : a < 18446744073709551616) (hb : b < 18446744073709551616) : bits .and .u64 (a : Int) (b : Int) = ((a &&& b : Nat) : Int) := by
  have hx : a &&& b < 2 ^ 64 := Nat.and_lt_two_pow _ (by omega)
  show IntKind.u64.wrap ((BitVec.ofInt 64 (a : Int) &&& BitVec.ofInt 64 (b : Int)).toNat : Int) = _
  rw [BitVec.toNat_and, ofInt_nat a (by omega), ofInt_nat b (by omega)]
  show (((a &&& b : Nat) : Int)) % 18446744073709551616 = _
  omega
theorem wrap_u (a : Nat) (ha : a < 18446744073709551616) : IntKind.u64.wrap (a : Int) = (a : Int) := by
  show (a : Int) % 18446744073709551616 = _
  omega
/-- The least weight among the words of 1 .. k. -/
def minW : Nat → Nat
  | 0 => 15
  | k + 1 => min (minW k) (pop 15 (fmtNum (k + 1)))
theorem minW_bd : ∀ k, minW k ≤ 15
  | 0 => Nat.le_refl _
  | k + 1 => Nat.le_trans (Nat.min_le_left _ _) (minW_bd k)
theorem minW_all : minW 31 = 7 := by decide +kernel
end Go.Proofs.YtdjknkmifaomgaaGreat

/-! The standard format, walked on the program's side: what is nearest, what two copies share. -/
namespace Go.Proofs.YtdjknkmifaomgaaGreat
set_option linter.unusedVariables false
set_option linter.unusedSimpArgs false
open Go.RowKit

def dV (l : List Int) (v : Nat) : Nat := difTo (fmtW v) l 15
abbrev vNear (v d u c : Int) : Value := .agg #[.int .i64 v, .int .i64 d, .int .i64 u, .int .i64 c]
/-- What is found for a list. -/
def nearR (l : List Int) : Value := vNear (nearV l).1 (nearV l).2 (unkTo l 15) (if 7 ≤ costV l then 7 else 0)
end Go.Proofs.YtdjknkmifaomgaaGreat

/-! The standard format, walked on the reference's side. -/
namespace Go.Proofs.YtdjknkmifaomgaaGreat
set_option linter.unusedVariables false
set_option linter.unusedSimpArgs false
open Go.RowKit

/-- A word given back. -/
def WordR (v : Nat) (w : World) (e : Ending) (w' : World) : Prop := ∃ p c, e = .returned (.slice p 15 c) ∧ OwnInts w.heap.size w' p (fmtW v)
def minD : Nat → Nat
  | 0 => 15
  | k + 1 => min (minD k) (difTo (fmtW 0) (fmtW (k + 1)) 15)
theorem minD_bd : ∀ k, minD k ≤ 15
  | 0 => Nat.le_refl _
  | k + 1 => Nat.le_trans (Nat.min_le_left _ _) (minD_bd k)
theorem minD_all : minD 31 = 7 := by decide +kernel
/-- What the reference finds. -/
def nearS (l : List Int) : Value := .tuple #[.int .i64 (nearV l).1, .int .i64 (nearV l).2, .int .i64 (unkTo l 15), .bool (decide (costV l < 7))]
end Go.Proofs.YtdjknkmifaomgaaGreat

/-! The standard format, walked on the program's side: what two copies share. -/
namespace Go.Proofs.YtdjknkmifaomgaaGreat
set_option linter.unusedVariables false
set_option linter.unusedSimpArgs false
open Go.RowKit

section
variable {w : World} {g g' : Nat} {a b c d : Value} {t : TypeId} {cs : Array Value}
theorem four_set (h : Blk w g #[a, b, c, d] t) (A B C D : Value) : Blk ((((w.setCell ⟨g, 0, none⟩ A).setCell ⟨g, 1, none⟩ B).setCell ⟨g, 2, none⟩ C).setCell ⟨g, 3, none⟩ D) g #[A, B, C, D] t := (((h.set 0 A).set 1 B).set 2 C).set 3 D
theorem four_far (h : Blk w g cs t) (hne : g ≠ g') (A B C D : Value) : Blk ((((w.setCell ⟨g', 0, none⟩ A).setCell ⟨g', 1, none⟩ B).setCell ⟨g', 2, none⟩ C).setCell ⟨g', 3, none⟩ D) g cs t := (((h.far hne A).far hne B).far hne C).far hne D
theorem Blk.new1 (w : World) (o : Obj) (cs : Array Value) (t : TypeId) : Blk ((w.alloc o).alloc (.cells cs t)) (w.heap.size + 1) cs t := by simpa using Blk.new (w.alloc o) cs t
theorem Blk.newAt {w : World} {cs : Array Value} {t : TypeId} {g : Nat} (h : w.heap.size = g) : Blk (w.alloc (.cells cs t)) g cs t := by rw [← h]; exact Blk.new w cs t
theorem four_ext {w0 : World} (h : Ext w0 w) (hg : w0.heap.size ≤ g) (A B C D : Value) : Ext w0 ((((w.setCell ⟨g, 0, none⟩ A).setCell ⟨g, 1, none⟩ B).setCell ⟨g, 2, none⟩ C).setCell ⟨g, 3, none⟩ D) := (((h.setCell hg A).setCell hg B).setCell hg C).setCell hg D
end
end Go.Proofs.YtdjknkmifaomgaaGreat
