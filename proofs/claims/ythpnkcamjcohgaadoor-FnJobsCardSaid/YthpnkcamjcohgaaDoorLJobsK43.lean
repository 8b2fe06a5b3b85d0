/- ReadJob, the reference's side. -/
import Derived.Test.YthpnkcamjcohgaaDoorLJobsK41
import Derived.Test.YthpnkcamjcohgaaDoorLJobsK42
namespace Go.Proofs.YthpnkcamjcohgaaDoor
set_option linter.unusedVariables false
set_option linter.unusedSimpArgs false
open Go.RowKit

theorem okJ_grid {R C : Nat} {xs : List Int} (h : okJ R C xs) : gridOK R C xs := by
  have h1 := h.rle; have h2 := h.cle; have h3 := h.r1; have h4 := h.c1; have h5 := h.le; have h6 := h.len
  have h7 : ((R * C : Nat) : Int) = (R : Int) * C := Int.natCast_mul R C
  refine ⟨⟨by omega, by omega⟩, ⟨by omega, by omega⟩, by omega, ?_, fun x hx => ?_⟩
  · rw [h6]; exact h7
  · rcases h.known x hx with h | h <;> omega
end Go.Proofs.YthpnkcamjcohgaaDoor
/- What ReadJob tells, as one value. -/
namespace Go.Proofs.YthpnkcamjcohgaaDoor
set_option linter.unusedVariables false
set_option linter.unusedSimpArgs false
open Go.RowKit

open Classical in
/-- The grid of a job and whether there is one. -/
noncomputable def rjV (s : ByteArray) : Int × Int × List Int × Bool := if h : ∃ t : Nat × Nat × List Int, jobOK s t.1 t.2.1 t.2.2 then (((Classical.choose h).1 : Int), ((Classical.choose h).2.1 : Int), (Classical.choose h).2.2, true) else (0, 0, [], false)
theorem rjV_yes {s : ByteArray} {R C : Nat} {xs : List Int} (h : jobOK s R C xs) : rjV s = ((R : Int), (C : Int), xs, true) := by
  have he : ∃ t : Nat × Nat × List Int, jobOK s t.1 t.2.1 t.2.2 := ⟨(R, C, xs), h⟩
  unfold rjV
  rw [dif_pos he]
  obtain ⟨h1, h2, h3⟩ := (Classical.choose_spec he).one h
  rw [h1, h2, h3]
theorem rjV_no {s : ByteArray} (h : ∀ R C xs, ¬ jobOK s R C xs) : rjV s = (0, 0, [], false) := by
  unfold rjV
  rw [dif_neg (fun ⟨t, ht⟩ => h _ _ _ ht)]
theorem rjV_cases (s : ByteArray) : (∃ R C xs, jobOK s R C xs ∧ rjV s = ((R : Int), (C : Int), xs, true)) ∨ rjV s = (0, 0, [], false) := by
  by_cases h : ∃ R C xs, jobOK s R C xs
  · obtain ⟨R, C, xs, h⟩ := h
    exact .inl ⟨R, C, xs, h, rjV_yes h⟩
  · exact .inr (rjV_no (fun R C xs hh => h ⟨R, C, xs, hh⟩))
theorem rjV_len (s : ByteArray) : (rjV s).2.2.1.length ≤ 40000 := by
  rcases rjV_cases s with ⟨R, C, xs, h, e⟩ | e
  · rw [e]
    have h1 := h.1.len; have h2 := h.1.le
    simp only
    omega
  · rw [e]; simp
theorem RjE.form {B : Nat} {s : ByteArray} {e : Ending} {w' : World} (h : RjE B s e w') : ∃ p k, e = .returned (.tuple #[vGrid (rjV s).1 (rjV s).2.1 p (rjV s).2.2.1.length k, .bool (rjV s).2.2.2]) ∧ OwnInts B w' p (rjV s).2.2.1 := by
  rcases h with ⟨R, C, xs, p, c, rfl, h, _, ho⟩ | ⟨rfl, h⟩
  · rw [rjV_yes h]
    exact ⟨p, c, rfl, ho⟩
  · rw [rjV_no h]
    exact ⟨none, 0, rfl, OwnInts.nil _ _ _⟩
end Go.Proofs.YthpnkcamjcohgaaDoor
/- InkOf, on both sides. -/
namespace Go.Proofs.YthpnkcamjcohgaaDoor
set_option linter.unusedVariables false
set_option linter.unusedSimpArgs false
open Go.RowKit

/-- How many of the first k cells are dark. -/
def dkTo (xs : List Int) : Nat → Nat
  | 0 => 0
  | k + 1 => if xs.getD k 0 = 1 then dkTo xs k + 1 else dkTo xs k
theorem dkTo_le (xs : List Int) : ∀ k, dkTo xs k ≤ k
  | 0 => Nat.le_refl _
  | k + 1 => by
    have := dkTo_le xs k
    unfold dkTo
    split <;> omega
theorem dkTo_yes {xs : List Int} {k : Nat} (h : xs.getD k 0 = 1) : dkTo xs (k + 1) = dkTo xs k + 1 := if_pos h
theorem dkTo_no {xs : List Int} {k : Nat} (h : ¬ xs.getD k 0 = 1) : dkTo xs (k + 1) = dkTo xs k := if_neg h
set_option maxHeartbeats 800000 in
set_option maxRecDepth 100000 in
theorem iDarkCount_c (r c : Int) (p : Option Addr) (k : Nat) (xs : List Int) (w : World) (hx : IntsAt w p xs) (hl : xs.length ≤ 1048576) :
    Calls Tryd.prog 82 #[vGrid r c p xs.length k] w fun e w' => e = .returned (.int .i64 (dkTo xs xs.length)) ∧ Ext w w' := by
  have HX := Lib.hid hx; clear hx
  have hb := Blk.new w #[.int .i64 r, .int .i64 c, .slice p xs.length k] 58
  have hx0 : Ext w (w.alloc (.cells #[.int .i64 r, .int .i64 c, .slice p xs.length k] 58)) := (Ext.refl w).alloc _
  go_enter Tryd.func82, Tryd.ntmps82
  go_upto_region 3 with (fail)
  have HX1 := Lib.hid (HX.out.ext hx0)
  clear hb
  generalize w.alloc (.cells #[.int .i64 r, .int .i64 c, .slice p xs.length k] 58) = w1 at *
  go_loop [3, 9] (fun n i => ∃ j : Nat, j ≤ xs.length ∧ i = .int .i64 j ∧ n = .int .i64 (dkTo xs j)) (fun _ i => xs.length - (intOf i).toNat)
  case atStart => exact ⟨0, Nat.zero_le _, rfl, rfl⟩
  case round =>
    obtain ⟨j, hj, rfl, rfl⟩ := hrel
    have hdj := dkTo_le xs j
    by_cases hlt : j < xs.length
    · have hji : (j : Int) < xs.length := by omega
      obtain ⟨b, o, rfl, hbl, y⟩ := HX1.out j hlt
      by_cases h1 : xs.getD j 0 = 1
      · have hn := Lib.hid (dkTo_yes h1)
        rw [h1] at y
        clear h1
        generalize dkTo xs j = N at *
        go_wp2
        go_round
        case rel => exact ⟨j + 1, hlt, by go_num, by rw [hn.out]; go_num⟩
        case measure => simp [intOf]; omega
      · have hn := Lib.hid (dkTo_no h1)
        have h1b : (xs.getD j 0 == 1) = false := by simpa using h1
        clear h1
        generalize xs.getD j 0 = x at *
        generalize dkTo xs j = N at *
        go_wp2
        go_round
        case rel => exact ⟨j + 1, hlt, by go_num, by rw [hn.out]⟩
        case measure => simp [intOf]; omega
    · obtain rfl : j = xs.length := by omega
      go_wp2
      go_ret
      exact ⟨rfl, hx0⟩
/-- What InkOf tells. -/
noncomputable def ikV (s : ByteArray) : Int × Int := if (rjV s).2.2.2 = true then ((dkTo (rjV s).2.2.1 (rjV s).2.2.1.length : Nat), 0) else (0, 6)
set_option maxRecDepth 100000 in
theorem iInkOf_c (s : ByteArray) (w : World) (hs : s.size ≤ 1048576) (hT : Tab10 w) (hM : MaxC w) (hE : ErrC w) :
    Calls Tryd.prog 31 #[.string s] w fun e w' => e = .returned (.tuple #[.int .i64 (ikV s).1, .int .i64 (ikV s).2]) ∧ Ext w w' := by
  have hrj := Lib.hid ((iReadJob_c s w hs hT hM hE).mono (fun e w' (h : RjE _ _ _ _ ∧ _) => (And.intro h.1.form h.2)))
  have hlen := rjV_len s
  unfold ikV
  generalize rjV s = V at *
  obtain ⟨R, C, xs, ok⟩ := V
  simp only at hrj hlen ⊢
  have hdc := Lib.hid (fun p k W (h : IntsAt W p xs) => iDarkCount_c R C p k xs W h (by omega))
  cases ok
  · rw [if_neg (by decide)]
    go_enter Tryd.func31, Tryd.ntmps31
    go_wp2_with (go_at_call 30; (with_reducible refine hrj.out.mono ?_); rintro e w1 ⟨⟨p, k, rfl, ho⟩, hx1⟩)
    go_ret2
    exact ⟨rfl, hx1.alloc _⟩
  · rw [if_pos rfl]
    go_enter Tryd.func31, Tryd.ntmps31
    go_upto_region 2 with (go_at_call 30; (with_reducible refine hrj.out.mono ?_); rintro e w1 ⟨⟨p, k, rfl, ho⟩, hx1⟩)
    have hb := Blk.new w1 #[.int .i64 R, .int .i64 C, .slice p xs.length k] 58
    have hxa : Ext w1 (w1.alloc (.cells #[.int .i64 R, .int .i64 C, .slice p xs.length k] 58)) := (Ext.refl w1).alloc _
    have hin := Lib.hid (ho.ints.ext hxa)
    generalize w1.alloc (.cells #[.int .i64 R, .int .i64 C, .slice p xs.length k] 58) = w2 at *
    generalize w1.heap.size = g at *
    have q0 := hb.cell (i := 0) (v := .int .i64 R) rfl; have q1 := hb.cell (i := 1) (v := .int .i64 C) rfl; have q2 := hb.cell (i := 2) (v := .slice p xs.length k) rfl; have ql := hb.lt
    clear ho
    go_wp2_with (go_at_call 82; (with_reducible refine (hdc.out _ _ _ hin.out).mono ?_); rintro e w3 ⟨rfl, hx3⟩)
    go_ret2
    exact ⟨rfl, (hx1.trans hxa).trans hx3⟩
end Go.Proofs.YthpnkcamjcohgaaDoor
