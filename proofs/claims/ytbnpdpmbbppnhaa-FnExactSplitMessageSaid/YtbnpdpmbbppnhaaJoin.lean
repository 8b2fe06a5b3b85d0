
/- The joined text of segments; segmentations. -/
import Derived.Test.YtbnpdpmbbppnhaaSegs
namespace Go.Proofs.Ytbnpdpmbbppnhaa
set_option linter.unusedVariables false
set_option linter.unusedSimpArgs false
open Go.RowKit

def joined (xs : List Sg) : ByteArray := xs.foldl (fun a x => a ++ x.2) ByteArray.empty
theorem joined_snoc (xs : List Sg) (x : Sg) : joined (xs ++ [x]) = joined xs ++ x.2 := by simp [joined]
theorem joined_take {xs : List Sg} {k : Nat} (hlt : k < xs.length) : joined (xs.take (k + 1)) = joined (xs.take k) ++ (xs[k]'hlt).2 := by
  rw [List.take_succ_eq_append_getElem hlt, joined_snoc]
theorem joined_size (xs : List Sg) (h : segsOK xs) : ∀ k, k ≤ xs.length → (joined (xs.take k)).size ≤ 255 * k := by
  intro k
  induction k with
  | zero => intro _; simp [joined]
  | succ k ih =>
    intro hk
    have := ih (by omega)
    have h2 := (h _ (List.getElem_mem (show k < xs.length by omega))).2.1.2
    rw [joined_take (by omega), ByteArray.size_append]
    omega

/-- The answer of JoinSegments. -/
def jnR (xs : List Sg) (e : Ending) : Prop :=
  ((xs.length ≤ 400 ∧ segsOK xs ∧ (joined xs).size ≤ 400) ∧ e = .returned (.tuple #[.string (joined xs), .int .i64 0])) ∨
  ((¬ xs.length ≤ 400 ∨ (segsOK xs ∧ ¬ (joined xs).size ≤ 400)) ∧ e = .returned (.tuple #[.string ⟨#[]⟩, .int .i64 3])) ∨
  ((xs.length ≤ 400 ∧ ¬ segsOK xs) ∧ e = .returned (.tuple #[.string ⟨#[]⟩, .int .i64 1]))

set_option maxRecDepth 100000 in
theorem iJoinSegments_c (p : Option Addr) (c : Nat) (xs : List Sg) (w : World) (hx : SAt segF 2 w p xs) (hs : ∀ x ∈ xs, x.2.size ≤ 1048576) (hl : xs.length ≤ 1048576) :
    Calls Try.prog 17 #[.slice p xs.length c] w fun e w' => jnR xs e ∧ Ext w w' := by
  have HS := Lib.hid hs; clear hs
  have HX := Lib.hid hx; clear hx
  go_enter Try.func17, Try.ntmps17
  go_wp2_with (first
    | (go_at_call 80; refine (iSegmentsLength_c _ _ _ _ HX.out HS.out hl).mono ?_; rintro e w1 ⟨⟨hP, rfl⟩ | ⟨hP, rfl⟩ | ⟨hP, rfl⟩, hb⟩))
  · obtain ⟨h4, hO⟩ := hP
    have hO := Lib.hid hO
    go_loopw [6, 20] (fun o i wr => ∃ (k : Nat), k ≤ xs.length ∧ i = .int .i64 k ∧ RowB w.heap.size wr o (joined (xs.take k)) ∧ Ext w wr) (fun _ i _ => xs.length - (intOf i).toNat)
    case atStart => exact ⟨0, Nat.zero_le _, rfl, (RowB.made (Nat.le_refl _)).mono hb.below.size, (by repeat (first | exact Ext.refl _ | assumption | refine Ext.drew ?_ | refine Ext.drewN ?_ _ | refine Ext.iter ?_ _ _ | refine Ext.alloc ?_ _ | refine Ext.setCell ?_ (by first | exact Nat.le_refl _ | (simp <;> omega)) _ | refine Ext.trans2 (by assumption) ?_))⟩
    case round =>
      obtain ⟨k, hk, rfl, hown, hext⟩ := hrel
      have hbd := joined_size _ hO.out k hk
      by_cases hlt : k < xs.length
      · obtain ⟨b, o, rfl, hbl, h0, h1⟩ := (HX.out.ext hext).two hlt (u := .int .i64 (xs[k]'hlt).1) (v := .string (xs[k]'hlt).2) rfl
        have hsz := (hO.out _ (List.getElem_mem hlt)).2.1.2
        go_wp2_with (at_builtin; go_loud (refine appendSB (t := (xs[k]'hlt).2) (hown.alloc _) (by omega) (by have := hext.below.size; simp; omega) ?_ rfl rfl); intro v1 w1 hown1 hb1)
        go_roundw
        case rel => exact ⟨k + 1, hlt, by go_num, by rw [joined_take hlt]; exact hown1, (hext.alloc _).trans3 hb1⟩
        case measure => simp [intOf]; omega
      · obtain rfl : k = xs.length := by omega
        rw [List.take_length] at *
        have hcv := hown.conv
        obtain ⟨p2, c2, rfl⟩ := hown.slice
        by_cases h5 : (joined xs).size ≤ 400
        · have h6 : ((joined xs).size : Int) ≤ 400 := by omega
          go_wp2
          go_ret2
          exact ⟨.inl ⟨⟨h4, hO.out, h5⟩, rfl⟩, (by repeat (first | exact Ext.refl _ | assumption | refine Ext.drew ?_ | refine Ext.drewN ?_ _ | refine Ext.iter ?_ _ _ | refine Ext.alloc ?_ _ | refine Ext.setCell ?_ (by first | exact Nat.le_refl _ | (simp <;> omega)) _ | refine Ext.trans2 (by assumption) ?_))⟩
        · have h6 : 400 < ((joined xs).size : Int) := by omega
          go_wp2
          go_ret2
          exact ⟨.inr (.inl ⟨.inr ⟨hO.out, h5⟩, rfl⟩), (by repeat (first | exact Ext.refl _ | assumption | refine Ext.drew ?_ | refine Ext.drewN ?_ _ | refine Ext.iter ?_ _ _ | refine Ext.alloc ?_ _ | refine Ext.setCell ?_ (by first | exact Nat.le_refl _ | (simp <;> omega)) _ | refine Ext.trans2 (by assumption) ?_))⟩
  · go_ret2
    exact ⟨.inr (.inl ⟨.inl hP, rfl⟩), (by repeat (first | exact Ext.refl _ | assumption | refine Ext.drew ?_ | refine Ext.drewN ?_ _ | refine Ext.iter ?_ _ _ | refine Ext.alloc ?_ _ | refine Ext.setCell ?_ (by first | exact Nat.le_refl _ | (simp <;> omega)) _ | refine Ext.trans2 (by assumption) ?_))⟩
  · go_ret2
    exact ⟨.inr (.inr ⟨hP, rfl⟩), (by repeat (first | exact Ext.refl _ | assumption | refine Ext.drew ?_ | refine Ext.drewN ?_ _ | refine Ext.iter ?_ _ _ | refine Ext.alloc ?_ _ | refine Ext.setCell ?_ (by first | exact Nat.le_refl _ | (simp <;> omega)) _ | refine Ext.trans2 (by assumption) ?_))⟩

/-- xs is a segmentation of s. -/
def isSegm (s : ByteArray) (xs : List Sg) : Prop := (xs.length ≤ 400 ∧ segsOK xs ∧ (joined xs).size ≤ 400) ∧ joined xs = s
end Go.Proofs.Ytbnpdpmbbppnhaa
