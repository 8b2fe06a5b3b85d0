/- WriteSegment. -/
import Derived.Test.YtojdediohjghnaaGreatDoorLSurvivesDamageK06
import Derived.Test.YtojdediohjghnaaGreatDoorLSurvivesDamageK04
import Derived.Test.YtojdediohjghnaaGreatDoorLSurvivesDamageK01
set_option linter.unusedVariables false
set_option linter.unusedSimpArgs false
namespace Go.Proofs.YtojdediohjghnaaGreatDoor
open Go.RowKit

def intF (x : Int) : List Value := [.int .i64 x]
theorem intF_len (x : Int) : (intF x).length = 1 := rfl
theorem SOwn.ints {B : Nat} {w : World} {p : Option Addr} {xs : List Int} (h : SOwn intF 1 B w p xs) : OwnInts B w p xs := fun i hi => by
 obtain ⟨b, o, h1, hB, h2, h3, h4⟩ := h i hi
 refine ⟨b, o, h1, hB, h2, ?_, h4 _⟩
 have := h3 0 (.int .i64 (xs[i]'hi)) rfl
 rw [Nat.mul_one, Nat.add_zero] at this
 rw [this, List.getD_eq_getElem?_getD, List.getElem?_eq_getElem hi]
 rfl
theorem toInt64S_c (p : Option Addr) (c : Nat) (xs : List Int) (w : World) (hx : IntsAt w p xs) (hl : xs.length ≤ 1048576) :
  Calls Tryz.prog 24 #[.slice p xs.length c] w fun e w' => (∃ q, e = .returned (.slice q xs.length xs.length) ∧ OwnInts w.heap.size w' q xs) ∧ Ext w w' := by
 have hI1 : Tryz.prog.underlying 24 = some (.slice 2) := by kernel_rfl
 have hI2 := infoInt
 go_enter Tryz.func24, Tryz.ntmps24
 go_wp2_with (first | (at_make; go_loud (refine make_blk hI1 hI2 xs.length ?_ ?_ (by omega) (by omega) ?_; rfl; rfl)))
 have hb := Blk.new w (madeCells #[.int .i64 0] xs.length) 2
 clear hI1 hI2
 go_loopw [4] (fun i wr => ∃ (k : Nat) (cs : Array Value), k ≤ xs.length ∧ i = .int .i64 k ∧ Blk wr w.heap.size cs 2 ∧ Hid (TabS intF 1 xs cs k) ∧ Ext w wr) (fun i _ => xs.length - (intOf i).toNat)
 case atStart => exact ⟨0, _, Nat.zero_le _, rfl, hb, Lib.hid ⟨(size_madeCells _ _).trans (Nat.mul_one _).symm, fun j _ h => by omega⟩, eX⟩
 case round =>
  clear hb
  obtain ⟨k, cs, hk, rfl, hb, hT, hext⟩ := hrel
  by_cases hlt : k < xs.length
  ·obtain ⟨b, o, rfl, hbl, h0⟩ := (hx.ext hext) k hlt
   have hT2 := Lib.hid (hT.out.step intF_len hlt)
   have hn := hT.out.1
   clear hx
   obtain ⟨z0, z0'⟩ : ∃ v, cs[k]? = some v := ⟨_, Array.getElem?_eq_getElem (by omega)⟩
   have q0 := hb.cell z0'
   have q2 := hb.lt
   have q3 := hb.free
   go_wp2
   go_roundw
   case rel =>
    refine ⟨k + 1, _, hlt, by go_num, hb.set _ _, ?_, hext.setCell (Nat.le_refl _) _⟩
    have := hT2.out
    simp only [intF, putL, Nat.mul_one] at this
    exact Lib.hid this
   case measure => simp [intOf]; omega
  ·clear hx
   obtain rfl : k = xs.length := by omega
   go_wp2
   go_ret
   exact ⟨⟨_, rfl, (hT.out.own intF_len hb (Nat.le_refl _)).ints⟩, hext⟩

def LC (B : Nat) (L : List Int) (code : Int) (e : Ending) (w' : World) : Prop := ∃ p c, e = .returned (.tuple #[.slice p L.length c, .int .i64 code]) ∧ OwnInts B w' p L ∧ L.length ≤ c
theorem LC.of {B : Nat} {L : List Int} {code : Int} {w : World} {v : Value} (h : RowI B w v L) : LC B L code (.returned (.tuple #[v, .int .i64 code])) w := by
 obtain ⟨p, c, rfl, ho, hc⟩ := h.ownC
 exact ⟨p, c, rfl, ho, hc⟩
theorem LC.nil {B : Nat} {code : Int} {w : World} : LC B [] code (.returned (.tuple #[.slice none 0 0, .int .i64 code])) w := ⟨none, 0, rfl, OwnInts.nil _ _ _, Nat.le_refl _⟩

end Go.Proofs.YtojdediohjghnaaGreatDoor
/- How the laws copy, compare and mark grids. -/
namespace Go.Proofs.YtojdediohjghnaaGreatDoor
open Go.RowKit

theorem OwnInts.setFar {B g i : Nat} {w : World} {q : Option Addr} {xs : List Int} {v : Value} (h : OwnInts B w q xs) (hg : g < B) : OwnInts B (w.setCell ⟨g, i, none⟩ v) q xs := by
 refine h.keep (by simp [World.setCell]) fun b o hn hq _ => ?_
 have := h.lt0 hn hq
 exact Below.heap_setCell w ⟨g, i, none⟩ v b (by show b ≠ g; omega)
set_option maxHeartbeats 400000 in
set_option maxRecDepth 100000 in
theorem toGrid_c (r c : Int) (p : Option Addr) (k : Nat) (xs : List Int) (w : World) (hx : IntsAt w p xs) (hl : xs.length ≤ 1048576) :
  Calls Tryz.prog 9 #[vGrid r c p xs.length k] w fun e w' => (∃ q, e = .returned (vGrid r c q xs.length xs.length) ∧ OwnInts w.heap.size w' q xs) ∧ Ext w w' := by
 have HX := Lib.hid hx; clear hx
 have hti := Lib.hid (fun W (h : IntsAt W p xs) => toInt64S_c p k xs W h hl)
 have hb2 := (Blk.new (w.alloc (.cells #[.int .i64 r, .int .i64 c, .slice p xs.length k] 28)) #[.int .i64 0, .int .i64 0, .slice none 0 0] 37).alloc (.cells #[.int .i64 r, .int .i64 c, .slice none 0 0] 37)
 have hb3 := Blk.new ((w.alloc (.cells #[.int .i64 r, .int .i64 c, .slice p xs.length k] 28)).alloc (.cells #[.int .i64 0, .int .i64 0, .slice none 0 0] 37)) #[.int .i64 r, .int .i64 c, .slice none 0 0] 37
 simp only [World.size_alloc] at hb2 hb3
 have hx0 : Ext w (((w.alloc (.cells #[.int .i64 r, .int .i64 c, .slice p xs.length k] 28)).alloc (.cells #[.int .i64 0, .int .i64 0, .slice none 0 0] 37)).alloc (.cells #[.int .i64 r, .int .i64 c, .slice none 0 0] 37)) := (((Ext.refl w).alloc _).alloc _).alloc _
 go_enter Tryz.func9, Tryz.ntmps9
 go_wp2_with fail
 generalize (((w.alloc (.cells #[.int .i64 r, .int .i64 c, .slice p xs.length k] 28)).alloc (.cells #[.int .i64 0, .int .i64 0, .slice none 0 0] 37)).alloc (.cells #[.int .i64 r, .int .i64 c, .slice none 0 0] 37)) = w0 at *
 refine (hti.out _ (HX.out.ext hx0)).mono ?_
 rintro e w1 ⟨⟨q, rfl, oq⟩, hx1⟩
 have hz0 := hx0.below.size
 have hz3 := hb3.lt
 have oq1 := Lib.hid (((((oq.setFar (g := w.heap.size + 1 + 1) (i := 2) (v := .slice q xs.length xs.length) (by omega)).setFar (g := w.heap.size + 1) (i := 0) (v := .int .i64 r) (by omega)).setFar (g := w.heap.size + 1) (i := 1) (v := .int .i64 c) (by omega)).setFar (g := w.heap.size + 1) (i := 2) (v := .slice q xs.length xs.length) (by omega)).mono hz0)
 have hr1 := hb2.ext hx1
 have hg1 := hb3.ext hx1
 obtain ⟨r0, r1, r2⟩ := hr1.c3; have rl := hr1.lt; have rf := hr1.free
 obtain ⟨g0, g1, g2⟩ := hg1.c3; have gl := hg1.lt; have gf := hg1.free
 clear hb2 hb3 oq
 go_wp2_with fail
 have hF := (((hr1.far (g' := w.heap.size + 1 + 1) (i := 2) (by omega) (.slice q xs.length xs.length)).set 0 (.int .i64 r)).set 1 (.int .i64 c)).set 2 (.slice q xs.length xs.length)
 obtain ⟨c0, c1, c2⟩ := hF.c3
 have hfin : Ext w ((((w1.setCell ⟨w.heap.size + 1 + 1, 2, none⟩ (.slice q xs.length xs.length)).setCell ⟨w.heap.size + 1, 0, none⟩ (.int .i64 r)).setCell ⟨w.heap.size + 1, 1, none⟩ (.int .i64 c)).setCell ⟨w.heap.size + 1, 2, none⟩ (.slice q xs.length xs.length)) :=
  ((((hx0.trans hx1).setCell (p := ⟨w.heap.size + 1 + 1, 2, none⟩) (by show _ ≤ _; simp only; omega) _).setCell (p := ⟨w.heap.size + 1, 0, none⟩) (Nat.le_succ _) _).setCell (p := ⟨w.heap.size + 1, 1, none⟩) (Nat.le_succ _) _).setCell (p := ⟨w.heap.size + 1, 2, none⟩) (Nat.le_succ _) _
 clear r0 r1 r2 rl rf g0 g1 g2 gl gf
 exact bodyPost_ret (v := vGrid r c q xs.length xs.length) (by simp [results, Tryz.results9, go_sem, c0, c1, c2]) rfl ⟨⟨q, rfl, oq1.out⟩, hfin⟩
theorem eqGrid_c (r c : Int) (p q : Option Addr) (k l : Nat) (xs : List Int) (w : World) (hx : IntsAt w p xs) (hy : IntsAt w q xs) (hl : xs.length ≤ 1048576) :
  Calls Tryz.prog 12 #[vGrid r c p xs.length k, vGrid r c q xs.length l] w fun e w' => e = .returned (.bool true) ∧ Ext w w' := by
 have HX := Lib.hid hx; have HY := Lib.hid hy; clear hx hy
 have heq : Hid (∀ W, IntsAt W p xs → IntsAt W q xs → Calls Tryz.prog 30 #[.slice p xs.length k, .slice q xs.length l] W fun e w' => e = .returned (.bool true) ∧ ∃ n, w' = W.drewN n) := Lib.hid fun W h1 h2 => (eqInt64S_c p q k l xs xs W h1 h2 (by omega) (by omega)).mono fun e w' h => by
  rcases h with ⟨⟨_, h⟩ | ⟨h, _⟩, n, hn⟩
  ·exact ⟨h, n, hn⟩
  ·exact absurd rfl h
 go_enter Tryz.func12, Tryz.ntmps12
 go_wp2_with (go_at_call 30; (with_reducible refine (heq.out _ (HX.out.ext eX) (HY.out.ext eX)).mono ?_); rintro e w1 ⟨rfl, n1, rfl⟩)
 go_ret
 exact ⟨rfl, eX⟩
end Go.Proofs.YtojdediohjghnaaGreatDoor
