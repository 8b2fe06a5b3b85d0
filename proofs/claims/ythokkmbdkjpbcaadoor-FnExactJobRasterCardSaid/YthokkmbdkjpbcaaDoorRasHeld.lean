
/- Rasters marked and held by the laws, with what they hold. -/
import Derived.Test.YthokkmbdkjpbcaaDoorBands
import Derived.Test.YthokkmbdkjpbcaaDoorInts
namespace Go.Proofs.YthokkmbdkjpbcaaDoor
set_option linter.unusedVariables false
set_option linter.unusedSimpArgs false
open Go.RowKit

theorem eqRaster_c3 (r c : Int) (p q : Option Addr) (k l : Nat) (xs : List Int) (w : World) (hx : IntsAt w p xs) (hy : IntsAt w q xs) (hl : xs.length ≤ 1048576) :
    Calls Tryd.prog 32 #[vGrid r c p xs.length k, vGrid r c q xs.length l] w fun e w' => e = .returned (.bool true) ∧ Ext w w' := by
  have HX := Lib.hid hx; have HY := Lib.hid hy; clear hx hy
  have heq : Hid (∀ W, IntsAt W p xs → IntsAt W q xs → Calls Tryd.prog 60 #[.slice p xs.length k, .slice q xs.length l] W fun e w' => e = .returned (.bool true) ∧ ∃ n, w' = W.drewN n) := Lib.hid fun W h1 h2 => (eqInt64S_c p q k l xs xs W h1 h2 (by omega) (by omega)).mono fun e w' h => by
    rcases h with ⟨⟨_, h⟩ | ⟨h, _⟩, n, hn⟩
    · exact ⟨h, n, hn⟩
    · exact absurd rfl h
  go_enter Tryd.func32, Tryd.ntmps32
  go_wp2_with (go_at_call 60; (with_reducible refine (heq.out _ (HX.out.ext (by repeat (first | exact Ext.refl _ | assumption | refine Ext.drew ?_ | refine Ext.drewN ?_ _ | refine Ext.iter ?_ _ _ | refine Ext.alloc ?_ _ | refine Ext.setCell ?_ (by first | exact Nat.le_refl _ | (simp <;> omega)) _ | refine Ext.trans2 (by assumption) ?_))) (HY.out.ext (by repeat (first | exact Ext.refl _ | assumption | refine Ext.drew ?_ | refine Ext.drewN ?_ _ | refine Ext.iter ?_ _ _ | refine Ext.alloc ?_ _ | refine Ext.setCell ?_ (by first | exact Nat.le_refl _ | (simp <;> omega)) _ | refine Ext.trans2 (by assumption) ?_)))).mono ?_); rintro e w1 ⟨rfl, n1, rfl⟩)
  go_ret
  exact ⟨rfl, (by repeat (first | exact Ext.refl _ | assumption | refine Ext.drew ?_ | refine Ext.drewN ?_ _ | refine Ext.iter ?_ _ _ | refine Ext.alloc ?_ _ | refine Ext.setCell ?_ (by first | exact Nat.le_refl _ | (simp <;> omega)) _ | refine Ext.trans2 (by assumption) ?_))⟩
theorem markRaster_c3 (B : Nat) (r c : Int) (p : Option Addr) (k : Nat) (xs : List Int) (w : World) (hx : OwnInts B w p xs) (hl : xs.length ≤ 1048576) (hB : B ≤ w.heap.size) :
    Calls Tryd.prog 33 #[vGrid r c p xs.length k, .int .i64 1] w fun e w' => e = .returned (.int .i64 (1 + xs.length)) ∧ OwnInts B w' p (marksL 1 xs.length) ∧ Below B w w' ∧ ∀ k, k < w.heap.size → (∀ b o, xs ≠ [] → p = some ⟨b, o, none⟩ → b ≠ k) → w'.heap[k]? = w.heap[k]? := by
  have hx0 : Ext w (w.alloc (.cells #[.int .i64 r, .int .i64 c, .slice p xs.length k] 47)) := (Ext.refl w).alloc _
  have hmk := Lib.hid (mark_c B p k 1 xs (w.alloc (.cells #[.int .i64 r, .int .i64 c, .slice p xs.length k] 47)) (hx.ext hx0) (by omega) (by omega))
  go_enter Tryd.func33, Tryd.ntmps33
  go_wp2_with fail
  refine hmk.out.mono ?_
  rintro e w1 ⟨rfl, oq1, hb1, hk1⟩
  go_wp2_with fail
  go_ret
  exact ⟨rfl, oq1, (hx0.below.mono hB).trans hb1, fun j hj hd => (hk1 j (by simp; omega) hd).trans (hx0.below.block j hj)⟩
theorem heldRaster_c3 (r c : Int) (p : Option Addr) (k n : Nat) (w : World) (hx : IntsAt w p (marksL 1 n)) (hl : n ≤ 1048576) :
    Calls Tryd.prog 34 #[vGrid r c p n k, .int .i64 1] w fun e w' => e = .returned (.int .i64 (1 + n)) ∧ Ext w w' := by
  have hx0 : Ext w (w.alloc (.cells #[.int .i64 r, .int .i64 c, .slice p n k] 47)) := (Ext.refl w).alloc _
  have hh := Lib.hid (heldInt64S_c p k 1 n (w.alloc (.cells #[.int .i64 r, .int .i64 c, .slice p n k] 47)) (hx.ext hx0) (by omega) (by omega))
  have hn : ¬ (1 : Int) + n < 0 := by omega
  go_enter Tryd.func34, Tryd.ntmps34
  go_wp2_with (go_at_call 74; (with_reducible refine hh.out.mono ?_); rintro e w1 ⟨rfl, rfl⟩)
  go_ret
  exact ⟨rfl, hx0⟩
end Go.Proofs.YthokkmbdkjpbcaaDoor
