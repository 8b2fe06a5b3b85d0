
/- InkOf, on both sides. -/
import Derived.Test.YthokkmbdkjpbcaaDoorRjV
namespace Go.Proofs.YthokkmbdkjpbcaaDoor
set_option linter.unusedVariables false
set_option linter.unusedSimpArgs false
open Go.RowKit

/-- How many of the first k cells are dark. -/
def dkTo (xs : List Int) : Nat → Nat
  | 0 => 0
  | k + 1 => if xs.getD k 0 = 1 then dkTo xs k + 1 else dkTo xs k
theorem dkTo_le (xs : List Int) : ∀ k, dkTo xs k ≤ k
  | 0 => Nat.le_refl _
  | k + 1 => by
    have := dkTo_le xs k
    unfold dkTo
    split <;> omega
theorem dkTo_yes {xs : List Int} {k : Nat} (h : xs.getD k 0 = 1) : dkTo xs (k + 1) = dkTo xs k + 1 := if_pos h
theorem dkTo_no {xs : List Int} {k : Nat} (h : ¬ xs.getD k 0 = 1) : dkTo xs (k + 1) = dkTo xs k := if_neg h
set_option maxHeartbeats 800000 in
set_option maxRecDepth 100000 in
theorem iDarkCount_c (r c : Int) (p : Option Addr) (k : Nat) (xs : List Int) (w : World) (hx : IntsAt w p xs) (hl : xs.length ≤ 1048576) :
    Calls Tryd.prog 62 #[vGrid r c p xs.length k] w fun e w' => e = .returned (.int .i64 (dkTo xs xs.length)) ∧ Ext w w' := by
  have HX := Lib.hid hx; clear hx
  have hb := Blk.new w #[.int .i64 r, .int .i64 c, .slice p xs.length k] 28
  have hx0 : Ext w (w.alloc (.cells #[.int .i64 r, .int .i64 c, .slice p xs.length k] 28)) := (Ext.refl w).alloc _
  go_enter Tryd.func62, Tryd.ntmps62
  go_upto_region 3 with (fail)
  have HX1 := Lib.hid (HX.out.ext hx0)
  clear hb
  generalize w.alloc (.cells #[.int .i64 r, .int .i64 c, .slice p xs.length k] 28) = w1 at *
  go_loop [3, 9] (fun n i => ∃ j : Nat, j ≤ xs.length ∧ i = .int .i64 j ∧ n = .int .i64 (dkTo xs j)) (fun _ i => xs.length - (intOf i).toNat)
  case atStart => exact ⟨0, Nat.zero_le _, rfl, rfl⟩
  case round =>
    obtain ⟨j, hj, rfl, rfl⟩ := hrel
    have hdj := dkTo_le xs j
    by_cases hlt : j < xs.length
    · have hji : (j : Int) < xs.length := by omega
      obtain ⟨b, o, rfl, hbl, y⟩ := HX1.out j hlt
      by_cases h1 : xs.getD j 0 = 1
      · have hn := Lib.hid (dkTo_yes h1)
        rw [h1] at y
        clear h1
        generalize dkTo xs j = N at *
        go_wp2
        go_round
        case rel => exact ⟨j + 1, hlt, by go_num, by rw [hn.out]; go_num⟩
        case measure => simp [intOf]; omega
      · have hn := Lib.hid (dkTo_no h1)
        have h1b : (xs.getD j 0 == 1) = false := by simpa using h1
        clear h1
        generalize xs.getD j 0 = x at *
        generalize dkTo xs j = N at *
        go_wp2
        go_round
        case rel => exact ⟨j + 1, hlt, by go_num, by rw [hn.out]⟩
        case measure => simp [intOf]; omega
    · obtain rfl : j = xs.length := by omega
      go_wp2
      go_ret
      exact ⟨rfl, hx0⟩
set_option maxHeartbeats 800000 in
set_option maxRecDepth 100000 in
theorem sDarkCount_c (r c : Int) (p : Option Addr) (k : Nat) (xs : List Int) (w : World) (hx : IntsAt w p xs) (hl : xs.length ≤ 1048576) (hg : gridOK r c xs) :
    Calls Tryd.prog 61 #[vGrid r c p xs.length k] w fun e w' => e = .returned (.tuple #[.int .i64 (dkTo xs xs.length), .int .i64 0]) ∧ Ext w w' := by
  have HX := Lib.hid hx; clear hx
  have HG := Lib.hid hg; clear hg
  have hb := Blk.new w #[.int .i64 r, .int .i64 c, .slice p xs.length k] 28
  have hx0 : Ext w (w.alloc (.cells #[.int .i64 r, .int .i64 c, .slice p xs.length k] 28)) := (Ext.refl w).alloc _
  have hig := Lib.hid (fun W (h : IntsAt W p xs) => sIsGrid_c r c p k xs W h hl)
  go_enter Tryd.func61, Tryd.ntmps61
  go_upto_region 5 with (go_at_call 67; (with_reducible refine (hig.out _ (HX.out.ext hx0)).mono ?_); rintro e w1 ⟨⟨hP, rfl⟩ | ⟨hP, rfl⟩, hx1⟩ <;> first | (exact absurd HG.out hP) | skip)
  have hb1 := hb.ext hx1
  have hx01 := hx0.trans hx1
  have HX1 := Lib.hid (HX.out.ext hx01)
  have q0 := hb1.cell (i := 0) (v := .int .i64 r) rfl; have q1 := hb1.cell (i := 1) (v := .int .i64 c) rfl; have q2 := hb1.cell (i := 2) (v := .slice p xs.length k) rfl; have ql := hb1.lt
  replace hP := Lib.hid hP
  clear hb hig
  go_loop [4, 5] (fun n i => ∃ j : Nat, j ≤ xs.length ∧ i = .int .i64 j ∧ n = .int .i64 (dkTo xs j)) (fun _ i => xs.length - (intOf i).toNat)
  case atStart => exact ⟨0, Nat.zero_le _, rfl, rfl⟩
  case round =>
    obtain ⟨j, hj, rfl, rfl⟩ := hrel
    have hdj := dkTo_le xs j
    by_cases hlt : j < xs.length
    · have hji : (j : Int) < xs.length := by omega
      obtain ⟨b, o, rfl, hbl, y⟩ := HX1.out j hlt
      by_cases h1 : xs.getD j 0 = 1
      · have hn := Lib.hid (dkTo_yes h1)
        rw [h1] at y
        clear h1
        generalize dkTo xs j = N at *
        go_wp2
        go_round
        case rel => exact ⟨j + 1, hlt, by go_num, by rw [hn.out]; go_num⟩
        case measure => simp [intOf]; omega
      · have hn := Lib.hid (dkTo_no h1)
        have h1b : (xs.getD j 0 == 1) = false := by simpa using h1
        clear h1
        generalize xs.getD j 0 = x at *
        generalize dkTo xs j = N at *
        go_wp2
        go_round
        case rel => exact ⟨j + 1, hlt, by go_num, by rw [hn.out]⟩
        case measure => simp [intOf]; omega
    · obtain rfl : j = xs.length := by omega
      go_wp2
      go_ret2
      exact ⟨rfl, hx01⟩
/-- What InkOf tells. -/
noncomputable def ikV (s : ByteArray) : Int × Int := if (rjV s).2.2.2 = true then ((dkTo (rjV s).2.2.1 (rjV s).2.2.1.length : Nat), 0) else (0, 6)
theorem rjV_grid {s : ByteArray} (h : (rjV s).2.2.2 = true) : gridOK (rjV s).1 (rjV s).2.1 (rjV s).2.2.1 := by
  rcases rjV_cases s with ⟨R, C, xs, hj, e⟩ | e
  · rw [e]; exact okJ_grid hj.1
  · rw [e] at h; cases h
set_option maxRecDepth 100000 in
theorem iInkOf_c (s : ByteArray) (w : World) (hs : s.size ≤ 1048576) (hT : Tab10 w) (hM : MaxC w) (hE : ErrC w) :
    Calls Tryd.prog 18 #[.string s] w fun e w' => e = .returned (.tuple #[.int .i64 (ikV s).1, .int .i64 (ikV s).2]) ∧ Ext w w' := by
  have hrj := Lib.hid ((iReadJob_c s w hs hT hM hE).mono (fun e w' (h : RjE _ _ _ _ ∧ _) => (And.intro h.1.form h.2)))
  have hlen := rjV_len s
  unfold ikV
  generalize rjV s = V at *
  obtain ⟨R, C, xs, ok⟩ := V
  simp only at hrj hlen ⊢
  have hdc := Lib.hid (fun p k W (h : IntsAt W p xs) => iDarkCount_c R C p k xs W h (by omega))
  cases ok
  · rw [if_neg (by decide)]
    go_enter Tryd.func18, Tryd.ntmps18
    go_wp2_with (go_at_call 20; (with_reducible refine hrj.out.mono ?_); rintro e w1 ⟨⟨p, k, rfl, ho⟩, hx1⟩)
    go_ret2
    exact ⟨rfl, hx1.alloc _⟩
  · rw [if_pos rfl]
    go_enter Tryd.func18, Tryd.ntmps18
    go_upto_region 2 with (go_at_call 20; (with_reducible refine hrj.out.mono ?_); rintro e w1 ⟨⟨p, k, rfl, ho⟩, hx1⟩)
    have hb := Blk.new w1 #[.int .i64 R, .int .i64 C, .slice p xs.length k] 28
    have hxa : Ext w1 (w1.alloc (.cells #[.int .i64 R, .int .i64 C, .slice p xs.length k] 28)) := (Ext.refl w1).alloc _
    have hin := Lib.hid (ho.ints.ext hxa)
    generalize w1.alloc (.cells #[.int .i64 R, .int .i64 C, .slice p xs.length k] 28) = w2 at *
    generalize w1.heap.size = g at *
    have q0 := hb.cell (i := 0) (v := .int .i64 R) rfl; have q1 := hb.cell (i := 1) (v := .int .i64 C) rfl; have q2 := hb.cell (i := 2) (v := .slice p xs.length k) rfl; have ql := hb.lt
    clear ho
    go_wp2_with (go_at_call 62; (with_reducible refine (hdc.out _ _ _ hin.out).mono ?_); rintro e w3 ⟨rfl, hx3⟩)
    go_ret2
    exact ⟨rfl, (hx1.trans hxa).trans hx3⟩
set_option maxRecDepth 100000 in
theorem sInkOf_c (s : ByteArray) (w : World) (hs : s.size ≤ 1048576) :
    Calls Tryd.prog 17 #[.string s] w fun e w' => e = .returned (.tuple #[.int .i64 (ikV s).1, .int .i64 (ikV s).2]) ∧ Ext w w' := by
  have hrj := Lib.hid ((sReadJob_c s w hs).mono (fun e w' (h : RjE _ _ _ _ ∧ _) => (And.intro h.1.form h.2)))
  have hlen := rjV_len s
  have hgr := Lib.hid (rjV_grid (s := s))
  unfold ikV
  generalize rjV s = V at *
  obtain ⟨R, C, xs, ok⟩ := V
  simp only at hrj hlen hgr ⊢
  cases ok
  · rw [if_neg (by decide)]
    go_enter Tryd.func17, Tryd.ntmps17
    go_wp2_with (go_at_call 19; (with_reducible refine hrj.out.mono ?_); rintro e w1 ⟨⟨p, k, rfl, ho⟩, hx1⟩)
    go_ret2
    exact ⟨rfl, hx1.alloc _⟩
  · rw [if_pos rfl]
    have hdc := Lib.hid (fun p k W (h : IntsAt W p xs) => sDarkCount_c R C p k xs W h (by omega) (hgr.out rfl))
    go_enter Tryd.func17, Tryd.ntmps17
    go_upto_region 2 with (go_at_call 19; (with_reducible refine hrj.out.mono ?_); rintro e w1 ⟨⟨p, k, rfl, ho⟩, hx1⟩)
    have hb := Blk.new w1 #[.int .i64 R, .int .i64 C, .slice p xs.length k] 28
    have hxa : Ext w1 (w1.alloc (.cells #[.int .i64 R, .int .i64 C, .slice p xs.length k] 28)) := (Ext.refl w1).alloc _
    have hin := Lib.hid (ho.ints.ext hxa)
    generalize w1.alloc (.cells #[.int .i64 R, .int .i64 C, .slice p xs.length k] 28) = w2 at *
    generalize w1.heap.size = g at *
    have q0 := hb.cell (i := 0) (v := .int .i64 R) rfl; have q1 := hb.cell (i := 1) (v := .int .i64 C) rfl; have q2 := hb.cell (i := 2) (v := .slice p xs.length k) rfl; have ql := hb.lt
    clear ho
    go_wp2_with (go_at_call 61; (with_reducible refine (hdc.out _ _ _ hin.out).mono ?_); rintro e w3 ⟨rfl, hx3⟩)
    go_ret2
    exact ⟨rfl, (hx1.trans hxa).trans hx3⟩
end Go.Proofs.YthokkmbdkjpbcaaDoor
