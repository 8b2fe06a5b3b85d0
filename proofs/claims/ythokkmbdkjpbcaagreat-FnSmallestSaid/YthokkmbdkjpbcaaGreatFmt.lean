
/- The standard format: its words, distances, what is nearest; plain. -/
import Derived.Test.YthokkmbdkjpbcaaGreatBits
import Derived.Test.YthokkmbdkjpbcaaGreatBands
import Derived.Test.YthokkmbdkjpbcaaGreatFixed
import Derived.Deep.DeepCutAuto
/-! The standard format: its words, distances, what is nearest; plain. -/
/-! The standard format: its words, distances, what is nearest; plain. -/
namespace Go.Proofs.YthokkmbdkjpbcaaGreat
set_option linter.unusedVariables false
set_option linter.unusedSimpArgs false
open Go.RowKit

def fmtStep (at_ r : Nat) : Nat := if (r >>> at_) &&& 1 = 1 then r ^^^ (1335 <<< (at_ - 10)) else r
/-- The rest after j steps. -/
def fmtTo (v : Nat) : Nat → Nat
  | 0 => v <<< 10
  | j + 1 => fmtStep (14 - j) (fmtTo v j)
def fmtNum (v : Nat) : Nat := (v <<< 10) ||| fmtTo v 5
/-- The format word of a number. -/
def fmtW (v : Nat) : List Int := bitsOf (fmtNum v : Int) 15
theorem fmtW_bd : ∀ v, v < 32 → ∀ x ∈ fmtW v, 0 ≤ x ∧ x ≤ 1 := by
  intro v _ x hx
  simp only [fmtW, bitsOf, List.mem_map] at hx
  obtain ⟨j, _, rfl⟩ := hx
  omega

/-- At how many of the first k places a list is known and differs from a word. -/
def difTo (w l : List Int) : Nat → Nat
  | 0 => 0
  | k + 1 => difTo w l k + if l.getD k 0 < 0 then 0 else if l.getD k 0 = w.getD k 0 then 0 else 1
/-- How many of the first k are unknown. -/
def unkTo (l : List Int) : Nat → Nat
  | 0 => 0
  | k + 1 => unkTo l k + if l.getD k 0 < 0 then 1 else 0
/-- The nearest number among the first v, and its distance. -/
def bestTo (D : Nat → Nat) : Nat → Nat × Nat
  | 0 => (0, 16)
  | v + 1 => if D v < (bestTo D v).2 then (v, D v) else bestTo D v
theorem bestTo_is {D : Nat → Nat} {v0 : Nat} (h16 : D v0 < 16) (hmin : ∀ v, v < 32 → v ≠ v0 → D v0 < D v) : ∀ n, n ≤ 32 → v0 < n → bestTo D n = (v0, D v0) := by
  have hpre : ∀ n, n ≤ v0 → n ≤ 32 → D v0 < (bestTo D n).2 := by
    intro n
    induction n with
    | zero => intro _ _; exact h16
    | succ n ih =>
      intro h1 h2
      unfold bestTo
      split
      · exact hmin n (by omega) (by omega)
      · exact ih (by omega) (by omega)
  intro n
  induction n with
  | zero => intro _ h; omega
  | succ n ih =>
    intro h1 h2
    unfold bestTo
    by_cases e : n = v0
    · subst e
      rw [if_pos (hpre n (Nat.le_refl _) (by omega))]
    · have := ih (by omega) (by omega)
      rw [this]
      have := hmin n (by omega) e
      rw [if_neg (by simp; omega)]
def nearV (l : List Int) : Nat × Nat := bestTo (fun v => difTo (fmtW v) l 15) 32
def costV (l : List Int) : Nat := 2 * (nearV l).2 + unkTo l 15
/-- What two copies share, and the code. -/
def shareV (a b : List Int) : Int × Int :=
  if 7 ≤ costV a ∧ 7 ≤ costV b then (0, 7) else if 7 ≤ costV a ∨ (costV b < 7 ∧ costV b < costV a) then (((nearV b).1 : Nat), 0) else (((nearV a).1 : Nat), 0)

theorem fmt_far : ∀ v, v < 32 → ∀ u, u < 32 → u ≠ v → 7 ≤ difTo (fmtW u) (fmtW v) 15 := by decide +kernel
theorem difTo_succ {w l : List Int} {k : Nat} (h : 0 ≤ l.getD k 0) : difTo w l (k + 1) = difTo w l k + if l.getD k 0 = w.getD k 0 then 0 else 1 := by
  show difTo w l k + (if l.getD k 0 < 0 then 0 else if l.getD k 0 = w.getD k 0 then 0 else 1) = _
  rw [if_neg (by omega)]
theorem dif_tri (u v l : List Int) (hl : ∀ k, 0 ≤ l.getD k 0) (hv : ∀ k, 0 ≤ v.getD k 0) : ∀ k, difTo u v k ≤ difTo u l k + difTo v l k
  | 0 => by simp [difTo]
  | k + 1 => by
    have ih := dif_tri u v l hl hv k
    rw [difTo_succ (hv k), difTo_succ (hl k), difTo_succ (hl k)]
    generalize u.getD k 0 = x at *
    generalize v.getD k 0 = y at *
    generalize l.getD k 0 = z at *
    by_cases e1 : y = x
    · rw [if_pos e1]; omega
    · rw [if_neg e1]
      by_cases e2 : z = x
      · have e3 : ¬ z = y := fun h => e1 (by rw [← h, e2])
        rw [if_pos e2, if_neg e3]; omega
      · rw [if_neg e2]; omega
theorem unk_none {l : List Int} (hl : ∀ k, 0 ≤ l.getD k 0) : ∀ k, unkTo l k = 0
  | 0 => rfl
  | k + 1 => by
    have := hl k
    unfold unkTo
    rw [unk_none hl k, if_neg (by omega)]
theorem fmtW_at {v : Nat} (hv : v < 32) (k : Nat) : 0 ≤ (fmtW v).getD k 0 := by
  by_cases hk : k < (fmtW v).length
  · rw [List.getD_eq_getElem?_getD, List.getElem?_eq_getElem hk]; exact (fmtW_bd v hv _ (List.getElem_mem _)).1
  · rw [List.getD_eq_getElem?_getD, List.getElem?_eq_none (by omega)]; simp
/-- Up to three wrong bits are borne. -/
theorem near_is {v : Nat} (hv : v < 32) {l : List Int} (hl : ∀ k, 0 ≤ l.getD k 0) (h3 : difTo (fmtW v) l 15 ≤ 3) : nearV l = (v, difTo (fmtW v) l 15) ∧ costV l ≤ 6 := by
  have h1 : nearV l = (v, difTo (fmtW v) l 15) := bestTo_is (D := fun v => difTo (fmtW v) l 15) (by show difTo (fmtW v) l 15 < 16; omega) (fun u hu hne => by
    have a1 := fmt_far v hv u hu hne
    have a2 := dif_tri (fmtW u) (fmtW v) l hl (fmtW_at hv) 15
    show difTo (fmtW v) l 15 < difTo (fmtW u) l 15
    omega) 32 (Nat.le_refl _) hv
  refine ⟨h1, ?_⟩
  unfold costV
  rw [h1, unk_none hl]
  show 2 * difTo (fmtW v) l 15 + 0 ≤ 6
  omega
theorem share_is {v : Nat} (hv : v < 32) {a b : List Int} (ha : ∀ k, 0 ≤ a.getD k 0) (hb : ∀ k, 0 ≤ b.getD k 0) (ha3 : difTo (fmtW v) a 15 ≤ 3) (hb3 : difTo (fmtW v) b 15 ≤ 3) : shareV a b = ((v : Int), 0) := by
  obtain ⟨a1, a2⟩ := near_is hv ha ha3
  obtain ⟨b1, b2⟩ := near_is hv hb hb3
  unfold shareV
  rw [if_neg (by omega), a1, b1]
  split <;> rfl
end Go.Proofs.YthokkmbdkjpbcaaGreat

/-! The standard format, walked on the program's side: words, distances. -/
namespace Go.Proofs.YthokkmbdkjpbcaaGreat
set_option linter.unusedVariables false
set_option linter.unusedSimpArgs false
open Go.RowKit

abbrev vStd : Value := .agg #[.int .i64 5, .int .i64 15, .int .i64 1335]
def o5 (x : Nat) : Nat := x + x / 65536
def o6 (x : Nat) : Nat := x + x / 4294967296
end Go.Proofs.YthokkmbdkjpbcaaGreat

/-! The standard format, walked on the program's side: what is nearest, what two copies share. -/
namespace Go.Proofs.YthokkmbdkjpbcaaGreat
set_option linter.unusedVariables false
set_option linter.unusedSimpArgs false
open Go.RowKit

abbrev vNear (v d u c : Int) : Value := .agg #[.int .i64 v, .int .i64 d, .int .i64 u, .int .i64 c]
end Go.Proofs.YthokkmbdkjpbcaaGreat

/-! The standard format, walked on the reference's side. -/
namespace Go.Proofs.YthokkmbdkjpbcaaGreat
set_option linter.unusedVariables false
set_option linter.unusedSimpArgs false
open Go.RowKit

end Go.Proofs.YthokkmbdkjpbcaaGreat

/-! The standard format, walked on the program's side: what two copies share. -/
namespace Go.Proofs.YthokkmbdkjpbcaaGreat
set_option linter.unusedVariables false
set_option linter.unusedSimpArgs false
open Go.RowKit

section
variable {w : World} {g g' : Nat} {a b c d : Value} {t : TypeId} {cs : Array Value}
end
end Go.Proofs.YthokkmbdkjpbcaaGreat
