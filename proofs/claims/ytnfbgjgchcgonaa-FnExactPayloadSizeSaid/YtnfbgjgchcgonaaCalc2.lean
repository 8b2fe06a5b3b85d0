
/- The arithmetic of a field of prime size. -/
import Derived.Test.YtnfbgjgchcgonaaCalc
namespace Go.Proofs.Ytnfbgjgchcgonaa
set_option linter.unusedVariables false
set_option linter.unusedSimpArgs false
open Go.RowKit

def gpS (g p x : Int) : Int := x * g % p
theorem gpS_bd {g p : Int} (hp : 3 ≤ p) : ∀ x, 0 ≤ x ∧ x < p → 0 ≤ gpS g p x ∧ gpS g p x < p := fun x _ => ⟨Int.emod_nonneg _ (by omega), Int.emod_lt_of_pos _ (by omega)⟩
def isZeroI : Value → Bool
  | .int .i64 0 => true
  | _ => false
theorem isZeroI_eq {v : Value} (h : isZeroI v = true) : v = .int .i64 0 := by
  unfold isZeroI at h
  split at h
  · rfl
  · simp at h
theorem zc_all : (Try.zeroCells190.toList.drop 2).all isZeroI = true := by decide +kernel
theorem zc_size : Try.zeroCells190.size = 2044 := Try.zeroCells190_size
theorem zc_at {i : Nat} (h1 : 2 ≤ i) (h2 : i < 2044) : Try.zeroCells190[i]? = some (.int .i64 0) := by
  have hs := zc_size
  rw [Array.getElem?_eq_getElem (by omega)]
  congr 1
  refine isZeroI_eq (List.all_eq_true.1 zc_all _ ?_)
  rw [List.mem_iff_getElem]
  refine ⟨i - 2, by simp; omega, ?_⟩
  simp [show 2 + (i - 2) = i by omega]
theorem zc_0 : Try.zeroCells190[0]? = some (.bool false) := by kernel_rfl
theorem calcZero (n : Int) : CalcS (Try.zeroCells190.setIfInBounds 1 (.int .i64 n)) false n := by
  have hs := zc_size
  refine ⟨by simp, by rw [Array.getElem?_setIfInBounds_ne (by omega)]; exact zc_0, by rw [Array.getElem?_setIfInBounds_self_of_lt (by omega)], fun i h1 h2 => ⟨0, ?_⟩⟩
  rw [Array.getElem?_setIfInBounds_ne (by omega)]
  exact zc_at h1 h2
theorem calcZero2 (n : Int) : CalcS ((Try.zeroCells190.setIfInBounds 0 (.bool true)).setIfInBounds 1 (.int .i64 n)) true n := by
  have hs := zc_size
  refine ⟨by simp, by rw [Array.getElem?_setIfInBounds_ne (by omega), Array.getElem?_setIfInBounds_self_of_lt (by omega)], by rw [Array.getElem?_setIfInBounds_self_of_lt (by rw [Array.size_setIfInBounds]; omega)], fun i h1 h2 => ⟨0, ?_⟩⟩
  rw [Array.getElem?_setIfInBounds_ne (by omega), Array.getElem?_setIfInBounds_ne (by omega)]
  exact zc_at h1 h2

/-- The answer of primePowers. -/
def PpR (t : Int → Int) (N : Nat) (bin : Bool) (size : Int) (e : Ending) (w' : World) : Prop := ∃ (g : Nat) (b : Bool), e = .returned (.tuple #[.pointer (some ⟨g, 0, none⟩), .bool b]) ∧ (b = true ↔ Runs t N) ∧ CalcB w' g bin size
set_option maxRecDepth 100000 in
theorem primePowers_c (g p : Int) (N : Nat) (w : World) (hN : p = N + 1) (hp : 3 ≤ p ∧ p ≤ 1021) (hg : 0 ≤ g ∧ g < 100000) :
    Calls Try.prog 161 #[.int .i64 p, .int .i64 g] w fun e w' => PpR (gpS g p) N false p e w' ∧ Ext w w' := by
  have hz := calcZero p
  have hb1 := (Blk.new w #[.int .i64 p] 2).alloc (.cells #[.int .i64 g] 2)
  have hb2 := Blk.new (w.alloc (.cells #[.int .i64 p] 2)) #[.int .i64 g] 2
  have hb3 := Blk.new ((w.alloc (.cells #[.int .i64 p] 2)).alloc (.cells #[.int .i64 g] 2)) (Try.zeroCells190.setIfInBounds 1 (.int .i64 p)) 190
  simp only [World.size_alloc] at hb2 hb3
  have hcb : CalcB _ _ false p := ⟨_, hb3, hz⟩
  have hq1 := (hb2.alloc (.cells (Try.zeroCells190.setIfInBounds 1 (.int .i64 p)) 190)).cell (i := 0) (v := .int .i64 g) rfl
  have hq2 := (hb1.alloc (.cells (Try.zeroCells190.setIfInBounds 1 (.int .i64 p)) 190)).cell (i := 0) (v := .int .i64 p) rfl
  have HC := Lib.hid hcb; have HQ1 := Lib.hid hq1; have HQ2 := Lib.hid hq2
  clear hz hb1 hb2 hb3 hcb hq1 hq2
  have HN := Lib.hid hN; clear hN
  go_enter Try.func161, Try.ntmps161
  go_wp2_with fail
  refine (fill1_c (gpS g p) p p g N _ _ _ false _ HN.out hp (gpS_bd hp.1) HC.out HQ1.out HQ2.out (by simp) (by simp; omega) hg (by omega) (fun _ => rfl)).mono ?_
  rintro e w1 ⟨⟨hR, rfl⟩ | ⟨hR, rfl⟩, hcb, hbut⟩
  all_goals
    have hE : Ext w w1 := ((((Ext.refl w).alloc _).alloc _).alloc _).but hbut (by omega)
    clear hbut
    go_wp2
    go_ret2
  · exact ⟨⟨_, true, rfl, ⟨fun _ => hR, fun _ => rfl⟩, hcb⟩, hE⟩
  · exact ⟨⟨_, false, rfl, ⟨fun h => (by simp at h), fun h => absurd h hR⟩, hcb⟩, hE⟩
end Go.Proofs.Ytnfbgjgchcgonaa
