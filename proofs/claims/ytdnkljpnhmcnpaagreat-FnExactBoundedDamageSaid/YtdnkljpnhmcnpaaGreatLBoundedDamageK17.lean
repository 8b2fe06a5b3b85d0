/- The standard format: its words, distances, what is nearest; plain. -/
import Derived.Test.YtdnkljpnhmcnpaaGreatLBoundedDamageK06
import Derived.Test.YtdnkljpnhmcnpaaGreatLBoundedDamageK12
import Derived.Test.YtdnkljpnhmcnpaaGreatLBoundedDamageK14
import Derived.Deep.DeepCutAuto
set_option linter.unusedVariables false
set_option linter.unusedSimpArgs false
namespace Go.Proofs.YtdnkljpnhmcnpaaGreat
open Go.RowKit

def fmtStep (at_ r : Nat) : Nat := if (r >>> at_) &&& 1 = 1 then r ^^^ (1335 <<< (at_ - 10)) else r
def fmtTo (v : Nat) : Nat → Nat
 | 0 => v <<< 10
 | j + 1 => fmtStep (14 - j) (fmtTo v j)
def fmtNum (v : Nat) : Nat := (v <<< 10) ||| fmtTo v 5
theorem fmtTo_bd : ∀ v, v < 32 → ∀ j, j < 6 → fmtTo v j < 32768 := by decide +kernel
theorem fmtTo_low : ∀ v, v < 32 → fmtTo v 5 < 1024 := by decide +kernel
def fmtW (v : Nat) : List Int := bitsOf (fmtNum v : Int) 15
theorem fmtW_len (v : Nat) : (fmtW v).length = 15 := by simp [fmtW, bitsOf]
theorem fmtW_split : ∀ v : Nat, v < 32 → bitsOf (v : Int) 5 ++ bitsOf (fmtTo v 5 : Int) 10 = fmtW v := by decide +kernel
theorem fmtW_bd : ∀ v, v < 32 → ∀ x ∈ fmtW v, 0 ≤ x ∧ x ≤ 1 := by
 intro v _ x hx
 simp only [fmtW, bitsOf, List.mem_map] at hx
 obtain ⟨j, _, rfl⟩ := hx
 omega

def difTo (w l : List Int) : Nat → Nat
 | 0 => 0
 | k + 1 => difTo w l k + if l.getD k 0 < 0 then 0 else if l.getD k 0 = w.getD k 0 then 0 else 1
def unkTo (l : List Int) : Nat → Nat
 | 0 => 0
 | k + 1 => unkTo l k + if l.getD k 0 < 0 then 1 else 0
def bestTo (D : Nat → Nat) : Nat → Nat × Nat
 | 0 => (0, 16)
 | v + 1 => if D v < (bestTo D v).2 then (v, D v) else bestTo D v
theorem bestTo_is {D : Nat → Nat} {v0 : Nat} (h16 : D v0 < 16) (hmin : ∀ v, v < 32 → v ≠ v0 → D v0 < D v) : ∀ n, n ≤ 32 → v0 < n → bestTo D n = (v0, D v0) := by
 have hpre : ∀ n, n ≤ v0 → n ≤ 32 → D v0 < (bestTo D n).2 := by
  intro n
  induction n with
  | zero => intro _ _; exact h16
  | succ n ih =>
   intro h1 h2
   unfold bestTo
   split
   ·exact hmin n (by omega) (by omega)
   ·exact ih (by omega) (by omega)
 intro n
 induction n with
 | zero => intro _ h; omega
 | succ n ih =>
  intro h1 h2
  unfold bestTo
  by_cases e : n = v0
  ·subst e
   rw [if_pos (hpre n (Nat.le_refl _) (by omega))]
  ·have := ih (by omega) (by omega)
   rw [this]
   have := hmin n (by omega) e
   rw [if_neg (by simp; omega)]
def nearV (l : List Int) : Nat × Nat := bestTo (fun v => difTo (fmtW v) l 15) 32
def costV (l : List Int) : Nat := 2 * (nearV l).2 + unkTo l 15
def shareV (a b : List Int) : Int × Int :=
 if 7 ≤ costV a ∧ 7 ≤ costV b then (0, 7) else if 7 ≤ costV a ∨ (costV b < 7 ∧ costV b < costV a) then (((nearV b).1 : Nat), 0) else (((nearV a).1 : Nat), 0)

theorem fmt_far : ∀ v, v < 32 → ∀ u, u < 32 → u ≠ v → 7 ≤ difTo (fmtW u) (fmtW v) 15 := by decide +kernel
theorem difTo_succ {w l : List Int} {k : Nat} (h : 0 ≤ l.getD k 0) : difTo w l (k + 1) = difTo w l k + if l.getD k 0 = w.getD k 0 then 0 else 1 := by
 show difTo w l k + (if l.getD k 0 < 0 then 0 else if l.getD k 0 = w.getD k 0 then 0 else 1) = _
 rw [if_neg (by omega)]
theorem dif_tri (u v l : List Int) (hl : ∀ k, 0 ≤ l.getD k 0) (hv : ∀ k, 0 ≤ v.getD k 0) : ∀ k, difTo u v k ≤ difTo u l k + difTo v l k
 | 0 => by simp [difTo]
 | k + 1 => by
  have ih := dif_tri u v l hl hv k
  rw [difTo_succ (hv k), difTo_succ (hl k), difTo_succ (hl k)]
  generalize u.getD k 0 = x at *
  generalize v.getD k 0 = y at *
  generalize l.getD k 0 = z at *
  by_cases e1 : y = x
  ·rw [if_pos e1]; omega
  ·rw [if_neg e1]
   by_cases e2 : z = x
   ·have e3 : ¬ z = y := fun h => e1 (by rw [← h, e2])
    rw [if_pos e2, if_neg e3]; omega
   ·rw [if_neg e2]; omega
theorem unk_none {l : List Int} (hl : ∀ k, 0 ≤ l.getD k 0) : ∀ k, unkTo l k = 0
 | 0 => rfl
 | k + 1 => by
  have := hl k
  unfold unkTo
  rw [unk_none hl k, if_neg (by omega)]
theorem fmtW_at {v : Nat} (hv : v < 32) (k : Nat) : 0 ≤ (fmtW v).getD k 0 := by
 by_cases hk : k < (fmtW v).length
 ·rw [List.getD_eq_getElem?_getD, List.getElem?_eq_getElem hk]; exact (fmtW_bd v hv _ (List.getElem_mem _)).1
 ·rw [List.getD_eq_getElem?_getD, List.getElem?_eq_none (by omega)]; simp
theorem near_is {v : Nat} (hv : v < 32) {l : List Int} (hl : ∀ k, 0 ≤ l.getD k 0) (h3 : difTo (fmtW v) l 15 ≤ 3) : nearV l = (v, difTo (fmtW v) l 15) ∧ costV l ≤ 6 := by
 have h1 : nearV l = (v, difTo (fmtW v) l 15) := bestTo_is (D := fun v => difTo (fmtW v) l 15) (by show difTo (fmtW v) l 15 < 16; omega) (fun u hu hne => by
  have a1 := fmt_far v hv u hu hne
  have a2 := dif_tri (fmtW u) (fmtW v) l hl (fmtW_at hv) 15
  show difTo (fmtW v) l 15 < difTo (fmtW u) l 15
  omega) 32 (Nat.le_refl _) hv
 refine ⟨h1, ?_⟩
 unfold costV
 rw [h1, unk_none hl]
 show 2 * difTo (fmtW v) l 15 + 0 ≤ 6
 omega
theorem share_is {v : Nat} (hv : v < 32) {a b : List Int} (ha : ∀ k, 0 ≤ a.getD k 0) (hb : ∀ k, 0 ≤ b.getD k 0) (ha3 : difTo (fmtW v) a 15 ≤ 3) (hb3 : difTo (fmtW v) b 15 ≤ 3) : shareV a b = ((v : Int), 0) := by
 obtain ⟨a1, a2⟩ := near_is hv ha ha3
 obtain ⟨b1, b2⟩ := near_is hv hb hb3
 unfold shareV
 rw [if_neg (by omega), a1, b1]
 split <;> rfl
open Go.RowKit

abbrev vStd : Value := .agg #[.int .i64 5, .int .i64 15, .int .i64 1335]
theorem fmtTo_succ (v j : Nat) : fmtTo v (j + 1) = fmtStep (14 - j) (fmtTo v j) := rfl
def o1 (x : Nat) : Nat := ((x / 2) &&& 6148914691236517205) + (x &&& 6148914691236517205)
def o2 (x : Nat) : Nat := ((x / 4) &&& 3689348814741910323) + (x &&& 3689348814741910323)
def o3 (x : Nat) : Nat := (x / 16 + x) &&& 1085102592571150095
def o4 (x : Nat) : Nat := x + x / 256
def o5 (x : Nat) : Nat := x + x / 65536
def o6 (x : Nat) : Nat := x + x / 4294967296
open Go.RowKit

abbrev vNear (v d u c : Int) : Value := .agg #[.int .i64 v, .int .i64 d, .int .i64 u, .int .i64 c]
open Go.RowKit

theorem sStdFmt_c (w : World) : Calls Tryz.prog 77 #[] w fun e w' => e = .returned vStd ∧ Ext w w' := by
 go_enter Tryz.func77, Tryz.ntmps77
 go_wp2
 exact bodyPost_ret (v := vStd) (by simp [results, Tryz.results77, go_sem]) rfl ⟨rfl, eX⟩
theorem sAppend_c' (p : Option Addr) (c : Nat) (xs : List Int) (n wd : Int) (l : Nat) (w : World) (hl0 : l = xs.length) (hx : IntsAt w p xs) (hl : xs.length ≤ 1000000) (hn : 0 ≤ n ∧ n < 9223372036854775808) (hwd : 0 ≤ wd ∧ wd ≤ 62) :
  Calls Tryz.prog 131 #[.slice p l c, .int .i64 n, .int .i64 wd] w fun e w' => (∃ v, e = .returned v ∧ RowI w.heap.size w' v (xs ++ bitsOf n wd)) ∧ Ext w w' := by
 rw [hl0]
 exact sAppend_c p c xs n wd w hx hl hn hwd
def WordR (v : Nat) (w : World) (e : Ending) (w' : World) : Prop := ∃ p c, e = .returned (.slice p 15 c) ∧ OwnInts w.heap.size w' p (fmtW v)
set_option maxRecDepth 100000 in
theorem sWord_c (v : Nat) (w : World) (hv : v < 32) : Calls Tryz.prog 76 #[vStd, .int .i64 v] w fun e w' => WordR v w e w' ∧ Ext w w' := by
 have e0 : fmtTo v 0 = v * 1024 := by show v <<< 10 = _; rw [Nat.shiftLeft_eq]
 replace e0 := Lib.hid e0
 have hb := Blk.new w #[.int .i64 5, .int .i64 15, .int .i64 1335] 89
 have hx0 : Ext w (w.alloc (.cells #[.int .i64 5, .int .i64 15, .int .i64 1335] 89)) := (Ext.refl w).alloc _
 go_enter Tryz.func76, Tryz.ntmps76
 go_wp2
 go_loop [6, 7] (fun r a => ∃ j : Nat, j ≤ 5 ∧ a = .int .i64 (14 - j) ∧ r = .int .i64 (fmtTo v j)) (fun _ a => (intOf a - 9).toNat)
 case atStart => exact ⟨0, by omega, by go_num, by rw [e0.out]; go_num⟩
 case round =>
  obtain ⟨j, hj, rfl, rfl⟩ := hrel
  by_cases hlt : j < 5
  ·have hst := fmtTo_succ v j
   have hbd := fmtTo_bd v hv j (by omega)
   have hj4 : j = 0 ∨ j = 1 ∨ j = 2 ∨ j = 3 ∨ j = 4 := by omega
   have hand : bits .and .i64 ((fmtTo v j : Int) / 2 ^ (14 - j)) 1 = ((fmtTo v j >>> (14 - j) &&& 1 : Nat) : Int) := by
    have := bits_and_nat (fmtTo v j >>> (14 - j)) 1 (by have := Nat.shiftRight_le (fmtTo v j) (14 - j); omega) (by omega)
    rw [← this, Nat.shiftRight_eq_div_pow]
    simp
   have hxor : bits .xor .i64 (fmtTo v j : Int) (wrap64 (1335 * 2 ^ (14 - j - 10))) = ((fmtTo v j ^^^ 1335 <<< (14 - j - 10) : Nat) : Int) := by
    have : wrap64 (1335 * 2 ^ (14 - j - 10)) = ((1335 <<< (14 - j - 10) : Nat) : Int) := by
     rcases hj4 with rfl | rfl | rfl | rfl | rfl <;> simp [wrap64]
    rw [this]
    exact bits_xor_nat _ _ (by omega) (by rcases hj4 with rfl | rfl | rfl | rfl | rfl <;> decide)
   rw [fmtStep] at hst
   obtain ⟨r', hr'⟩ : ∃ r', fmtTo v (j + 1) = r' := ⟨_, rfl⟩
   rw [hr'] at hst
   replace hr' := Lib.hid hr'
   generalize fmtTo v j = r at *
   clear hj4
   by_cases hb : r >>> (14 - j) &&& 1 = 1
   ·rw [if_pos hb] at hst
    rw [hb] at hand
    rw [← hst] at hxor
    replace hst := Lib.hid hst; replace hb := Lib.hid hb
    go_wp2
    go_round
    case rel => exact ⟨j + 1, hlt, by go_num, by rw [hr'.out]⟩
    case measure => simp [intOf]; omega
   ·have h0 : r >>> (14 - j) &&& 1 = 0 := by rw [Nat.and_one_is_mod] at *; omega
    rw [if_neg hb] at hst
    rw [h0] at hand
    replace hst := Lib.hid hst; clear hb h0
    go_wp2
    go_round
    case rel => exact ⟨j + 1, hlt, by go_num, by rw [hr'.out, hst.out]⟩
    case measure => simp [intOf]; omega
  ·obtain rfl : j = 5 := by omega
   have hlow := fmtTo_low v hv
   have hsp := Lib.hid (fmtW_split v hv)
   generalize fmtTo v 5 = r at *
   have hA := Lib.hid (fun W => sAppend_c' none 0 [] (v : Int) 5 0 W rfl (IntsAt_nil _ _) (by simp) (by omega) (by omega))
   have hlen5 : Hid ((bitsOf (v : Int) 5).length = 5) := Lib.hid (by simp [bitsOf])
   go_wp2_with (first
    | (go_at_call 131; (with_reducible refine (hA.out _).mono ?_); rintro e w1 ⟨⟨v1, rfl, hrow⟩, hx1⟩; rw [List.nil_append] at hrow; obtain ⟨p1, c1, rfl, ho1⟩ := hrow.own; rw [hlen5.out])
    | (go_at_call 131; (with_reducible refine (sAppend_c' p1 c1 (bitsOf (v : Int) 5) (r : Int) 10 5 _ hlen5.out.symm (ho1.ints.ext eX) (by rw [hlen5.out]; omega) (by omega) (by omega)).mono ?_); rintro e w2 ⟨⟨v2, rfl, hrow2⟩, hx2⟩))
   rw [hsp.out] at hrow2
   obtain ⟨p2, c2, rfl, ho2⟩ := hrow2.own
   rw [fmtW_len]
   go_ret
   exact ⟨⟨p2, c2, rfl, ho2.mono (Ext.below (hx0.trans hx1)).size⟩, (hx0.trans hx1).trans hx2⟩
open Go.RowKit

section
variable {w : World} {g g' : Nat} {a b c d : Value} {t : TypeId} {cs : Array Value}
end
end Go.Proofs.YtdnkljpnhmcnpaaGreat
