/- What all texts of this seat share: imports, small lemmas on plain values. -/
import Derived.Test.YtdnkljpnhmcnpaaGreatRows
import Derived.WalkKit
import Derived.Deep.QuietTactic
import Derived.BigQuiet
import Derived.Lib.Hide
import Derived.ProofKit
import Derived.OpenShut
import Derived.WalkSmall
import Derived.Deep.RegionWith
import Derived.Deep.RegionHeld3
import Derived.StillTailTactics
set_option linter.unusedVariables false
set_option linter.unusedSimpArgs false
namespace Go.Proofs.YtdnkljpnhmcnpaaGreat
open Go.RowKit

def Ext (w w' : World) : Prop := Below w.heap.size w w'
theorem Ext.below {w w' : World} (h : Ext w w') : Below w.heap.size w w' := h
theorem Ext.refl (w : World) : Ext w w := Below.refl _ _
theorem Ext.trans {a b c : World} (h : Ext a b) (k : Ext b c) : Ext a c := Below.trans h (Below.mono k h.size)
theorem Ext.trans2 {a b c : World} (k : Ext b c) (h : Ext a b) : Ext a c := h.trans k
theorem Ext.drew {a w : World} (h : Ext a w) : Ext a w.drew := Below.drew h
theorem Ext.drewN {a w : World} (h : Ext a w) (n : Nat) : Ext a (w.drewN n) := below_drewN h n
theorem Ext.alloc {a w : World} (h : Ext a w) (o : Obj) : Ext a (w.alloc o) := Below.alloc h h.size o
theorem Ext.low {B : Nat} {a b c : World} (h : Ext a b) (k : Below B b c) (hB : a.heap.size ≤ B) : Ext a c := Below.trans h (k.mono hB)
theorem Ext.trans3 {a b c : World} (h : Ext a b) (k : Below a.heap.size b c) : Ext a c := Below.trans h k
theorem Ext.iter {a w : World} (h : Ext a w) (s : ByteArray) (p : Nat) : Ext a (w.iter s p) := Ext.alloc h _
theorem Ext.setCell {a w : World} (h : Ext a w) {p : Addr} (hp : a.heap.size ≤ p.block) (v : Value) : Ext a (w.setCell p v) := Below.setCell h hp v
theorem eX {a b : World} (h : Ext a b := by repeat (first | exact Ext.refl _ | assumption | refine Ext.drew ?_ | refine Ext.drewN ?_ _ | refine Ext.iter ?_ _ _ | refine Ext.alloc ?_ _ | refine Ext.setCell ?_ (by first | exact Nat.le_refl _ | (simp <;> omega)) _ | refine Ext.trans2 (by assumption) ?_)) : Ext a b := h
theorem ecell {W w1 : World} (hb : Ext W w1) : (∀ b o, b < W.heap.size → w1.cell? ⟨b, o, none⟩ = W.cell? ⟨b, o, none⟩) ∧ (∀ b o, b < W.heap.size → w1.frozen? ⟨b, o, none⟩ = W.frozen? ⟨b, o, none⟩) ∧ (∀ k, k < W.heap.size → k < w1.heap.size) ∧ W.heap.size ≤ w1.heap.size :=
 ⟨fun b o h => hb.below.cell (p := ⟨b, o, none⟩) h, fun b o h => hb.below.frozen (p := ⟨b, o, none⟩) h, fun _ h => Nat.lt_of_lt_of_le h hb.below.size, hb.below.size⟩
theorem evE {S : World → Prop} {P : Program} {o : Oper} {a : Act} {v : Value} (h : ∀ w', S w' → (execOp a.eval o).run P w' = .ok (.value v) w' := by (intro w2 hS; first | (go_simp; first | done | rfl) | rfl | (obtain ⟨hc, hf, hk, hz⟩ := ecell hS; go_simp; first | done | rfl))) : ∀ w', S w' → (execOp a.eval o).run P w' = .ok (.value v) w' := h

theorem ret_int {k : IntKind} {a b : Int} (h : a = b) : Ending.returned (.int k a) = .returned (.int k b) := by rw [h]
def isB (e : Ending) (P : Prop) : Prop := (P ∧ e = .returned (.bool true)) ∨ (¬P ∧ e = .returned (.bool false))
theorem isB_t {P : Prop} (h : P) : isB (.returned (.bool true)) P := .inl ⟨h, rfl⟩
theorem isB_f {P : Prop} (h : ¬P) : isB (.returned (.bool false)) P := .inr ⟨h, rfl⟩
theorem isB_m {P : Prop} {b : Bool} (h : b = true ↔ P) : isB (.returned (.bool b)) P := by
 cases b
 ·exact isB_f (by rw [← h]; simp)
 ·exact isB_t (h.1 rfl)

def byteAt (s : ByteArray) (i : Nat) : Int := ((s.data.toList.getD i 0).toNat : Int)
theorem byteAt_eq {s : ByteArray} {i : Nat} (h : i < s.size) : byteAt s i = ((s[i]'h).toNat : Int) := by
 unfold byteAt
 rw [List.getD_eq_getElem?_getD, List.getElem?_eq_getElem (by simpa using h)]
 cases s; rfl
theorem byteAt_bd (s : ByteArray) (i : Nat) : 0 ≤ byteAt s i ∧ byteAt s i ≤ 255 := by
 unfold byteAt
 have := UInt8.toNat_lt (s.data.toList.getD i 0)
 omega

theorem addr_add (b o i : Nat) : (⟨b, o, none⟩ : Addr).add i = ⟨b, o + i, none⟩ := by
 unfold Addr.add
 split
 ·rename_i h; rw [h]; rfl
 ·rfl

def IntsAt (w : World) (p : Option Addr) (xs : List Int) : Prop :=
 ∀ i, i < xs.length → ∃ b o, p = some ⟨b, o, none⟩ ∧ b < w.heap.size ∧ w.cell? ⟨b, o + i, none⟩ = some (.int .i64 (xs.getD i 0))
theorem IntsAt.ext {w w' : World} {p : Option Addr} {xs : List Int} (h : IntsAt w p xs) (hb : Ext w w') : IntsAt w' p xs := by
 intro i hi
 obtain ⟨b, o, hp, hlt, hc⟩ := h i hi
 exact ⟨b, o, hp, Nat.lt_of_lt_of_le hlt hb.below.size, by rw [(ecell hb).1 _ _ hlt]; exact hc⟩
theorem IntsAt_alloc (w : World) (xs : List Int) (t : TypeId) : IntsAt (w.alloc (.cells (xs.map (Value.int .i64)).toArray t)) (some ⟨w.heap.size, 0, none⟩) xs := by
 intro i hi
 refine ⟨_, _, rfl, by simp, ?_⟩
 have : (w.alloc (.cells (xs.map (Value.int .i64)).toArray t)).heap[w.heap.size]? = some (.cells (xs.map (Value.int .i64)).toArray t) := (MapKept.heap_alloc w _).1
 simp only [World.cell?, this]
 simp [hi]
theorem IntsAt_nil (w : World) (p : Option Addr) : IntsAt w p [] := fun i hi => absurd hi (Nat.not_lt_zero i)

open Go.RowKit

theorem inRange_c (n lo hi : Int) (w : World) :
  Calls Tryz.prog 35 #[.int .i64 n, .int .i64 lo, .int .i64 hi] w fun e w' => isB e (lo ≤ n ∧ n ≤ hi) ∧ w = w' := by
 go_enter Tryz.func35, Tryz.ntmps35
 go_wp2
 all_goals (go_ret; exact ⟨(by first | exact isB_t (by skip; omega) | exact isB_f (by skip; omega) | exact isB_m (by simp only [decide_eq_true_eq, decide_eq_false_iff_not, Bool.and_eq_true, Bool.or_eq_true]; omega) | exact isB_t (by assumption) | exact isB_f (by assumption) | exact isB_t (by simp [*]; done) | exact isB_f (by simp [*]; done)), rfl⟩)

theorem l01In_c (n lo hi : Int) (w : World) :
  Calls Tryz.prog 29 #[.int .i64 n, .int .i64 lo, .int .i64 hi] w fun e w' => isB e (lo ≤ n ∧ n ≤ hi) ∧ w = w' := by
 go_enter Tryz.func29, Tryz.ntmps29
 go_wp2
 all_goals (go_ret; exact ⟨(by first | exact isB_t (by skip; omega) | exact isB_f (by skip; omega) | exact isB_m (by simp only [decide_eq_true_eq, decide_eq_false_iff_not, Bool.and_eq_true, Bool.or_eq_true]; omega) | exact isB_t (by assumption) | exact isB_f (by assumption) | exact isB_t (by simp [*]; done) | exact isB_f (by simp [*]; done)), rfl⟩)

open Go.RowKit

abbrev vPrint (p t q b d l : Int) : Value := .agg #[.int .i64 p, .int .i64 t, .int .i64 q, .int .i64 b, .int .i64 d, .int .i64 l]
def IsPrint (p t q b d l : Int) : Prop := (1 ≤ p ∧ p ≤ 12) ∧ (1 ≤ t ∧ t ≤ 12) ∧ (0 ≤ q ∧ q ≤ 16) ∧ (1 - p ≤ b ∧ b ≤ p - 1) ∧ (0 ≤ d ∧ d < l ∧ l ≤ 255)

theorem iIsPrint_c (p t q b d l : Int) (w : World) :
  Calls Tryz.prog 62 #[vPrint p t q b d l] w fun e w' => isB e (IsPrint p t q b d l) ∧ Ext w w' := by
 go_enter Tryz.func62, Tryz.ntmps62
 go_wp2_with (first | (go_at_call 35; (with_reducible refine (inRange_c _ _ _ _).mono ?_); rintro e w' ⟨⟨hP, rfl⟩ | ⟨hP, rfl⟩, rfl⟩ <;> go_prune))
 all_goals (go_ret; exact ⟨(by first | exact isB_t (by (try simp only [IsPrint]); omega) | exact isB_f (by (try simp only [IsPrint]); omega) | exact isB_m (by simp only [IsPrint, decide_eq_true_eq, decide_eq_false_iff_not, Bool.and_eq_true, Bool.or_eq_true]; omega) | exact isB_t (by assumption) | exact isB_f (by assumption) | exact isB_t (by simp [IsPrint, *]; done) | exact isB_f (by simp [IsPrint, *]; done)), eX⟩)

theorem sGrey_c (n : Int) (w : World) :
  Calls Tryz.prog 107 #[.int .i64 n] w fun e w' => isB e (0 ≤ n ∧ n ≤ 255) ∧ w = w' := by
 go_enter Tryz.func107, Tryz.ntmps107
 go_wp2_with (first | (go_at_call 29; (with_reducible refine (l01In_c _ _ _ _).mono ?_); rintro e w' ⟨⟨hP, rfl⟩ | ⟨hP, rfl⟩, rfl⟩ <;> go_prune))
 all_goals (go_ret; exact ⟨(by first | exact isB_t (by skip; omega) | exact isB_f (by skip; omega) | exact isB_m (by simp only [decide_eq_true_eq, decide_eq_false_iff_not, Bool.and_eq_true, Bool.or_eq_true]; omega) | exact isB_t (by assumption) | exact isB_f (by assumption) | exact isB_t (by simp [*]; done) | exact isB_f (by simp [*]; done)), rfl⟩)

theorem sIsPrint_c (p t q b d l : Int) (w : World) :
  Calls Tryz.prog 54 #[vPrint p t q b d l] w fun e w' => isB e (IsPrint p t q b d l) ∧ Ext w w' := by
 go_enter Tryz.func54, Tryz.ntmps54
 go_wp2_with (first | (go_at_call 29; (with_reducible refine (l01In_c _ _ _ _).mono ?_); rintro e w' ⟨⟨hP, rfl⟩ | ⟨hP, rfl⟩, rfl⟩ <;> go_prune) | (go_at_call 107; (with_reducible refine (sGrey_c _ _).mono ?_); rintro e w' ⟨⟨hP, rfl⟩ | ⟨hP, rfl⟩, rfl⟩ <;> go_prune))
 all_goals (go_ret; exact ⟨(by first | exact isB_t (by (try simp only [IsPrint]); omega) | exact isB_f (by (try simp only [IsPrint]); omega) | exact isB_m (by simp only [IsPrint, decide_eq_true_eq, decide_eq_false_iff_not, Bool.and_eq_true, Bool.or_eq_true]; omega) | exact isB_t (by assumption) | exact isB_f (by assumption) | exact isB_t (by simp [IsPrint, *]; done) | exact isB_f (by simp [IsPrint, *]; done)), eX⟩)

theorem toPrint_c (p t q b d l : Int) (w : World) :
  Calls Tryz.prog 22 #[vPrint p t q b d l] w fun e w' => e = .returned (vPrint p t q b d l) ∧ Ext w w' := by
 go_enter Tryz.func22, Tryz.ntmps22
 go_wp2
 exact bodyPost_ret (v := vPrint p t q b d l) (by simp [results, Tryz.results22, go_sem]) rfl ⟨rfl, eX⟩

end Go.Proofs.YtdnkljpnhmcnpaaGreat
