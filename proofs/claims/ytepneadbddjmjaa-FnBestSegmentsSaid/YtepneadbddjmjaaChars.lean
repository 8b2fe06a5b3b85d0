/- Drawn texts; names of modes. -/
import Derived.Test.YtepneadbddjmjaaDice
import Derived.Test.YtepneadbddjmjaaCanon2
import Derived.Test.YtepneadbddjmjaaBytes
import Derived.Test.YtepneadbddjmjaaModes3
namespace Go.Proofs.Ytepneadbddjmjaa
set_option linter.unusedVariables false
set_option linter.unusedSimpArgs false
open Go.RowKit

theorem RowB.but {g B : Nat} {a b : World} {v : Value} {s : ByteArray} (h : RowB B a v s) (k : But g a b) (hg : g < B) : RowB B b v s := by
  refine ⟨h.1, ?_⟩
  rcases h.2 with h2 | ⟨g', cap, cur, hv, hg', hh, r⟩
  · exact .inl h2
  · exact .inr ⟨g', cap, cur, hv, hg', by rw [k.block g' (Array.getElem?_eq_some_iff.1 hh).1 (by omega)]; exact hh, r⟩

/-- A text of at most most bytes has been drawn. -/
def TextR (n0 g : Nat) (most : Int) (w : World) (e : Ending) (w' : World) : Prop := ∃ t : ByteArray, e = .returned (.string t) ∧ (t.size : Int) ≤ most ∧ Src n0 w' g ∧ But g w w'
set_option maxRecDepth 100000 in
theorem DrawText_c (n0 g : Nat) (m most : Int) (w : World) (h : Src n0 w g) (hn0 : n0 ≤ w.heap.size) (hm : 1 ≤ m ∧ m ≤ 4) (hmost : 0 ≤ most ∧ most ≤ 100000) :
    Calls Try.prog 84 #[.pointer (some ⟨g, 0, none⟩), .int .i64 m, .int .i64 most] w fun e w' => TextR n0 g most w e w' := by
  have HS := Lib.hid h
  have hg : g < n0 := h.1
  clear h
  go_enter Try.func84, Try.ntmps84
  go_wp2_with (go_at_call 80; (with_reducible refine (Next_c n0 g _ _ (HS.out.ext (by repeat (first | exact Ext.refl _ | assumption | refine Ext.drew ?_ | refine Ext.drewN ?_ _ | refine Ext.iter ?_ _ _ | refine Ext.alloc ?_ _ | refine Ext.setCell ?_ (by first | exact Nat.le_refl _ | (simp <;> omega)) _ | refine Ext.trans2 (by assumption) ?_))) (by omega)).mono ?_); rintro e w1 ⟨x, rfl, hx0, hx1, hx2, hs1, hb1⟩)
  have hx1 : x ≤ most := by
    by_cases h1 : 1 < most + 1
    · have := hx1 h1; omega
    · have := hx2 (by omega); omega
  clear hx2
  have hrow := (RowB.made (w := w) (Nat.le_refl _)).but hb1 (by omega)
  have hbut := (But.of (g := g) ((Ext.refl w).alloc (.cells #[] 5))).trans hb1
  clear hb1
  go_loopw [7, 8] (fun o i wr => ∃ (k : Nat) (t : ByteArray), i = .int .i64 k ∧ (t.size : Int) + k ≤ most ∧ RowB w.heap.size wr o t ∧ Src n0 wr g ∧ But g w wr) (fun _ i _ => (intOf i).toNat)
  case atStart => exact ⟨x.toNat, ByteArray.empty, by rw [Int.toNat_of_nonneg hx0], by show (0 : Int) + _ ≤ _; omega, hrow, hs1, hbut⟩
  case round =>
    clear hrow hs1 hbut hx1 hx0
    obtain ⟨k, t, rfl, hk, hown, hs, hbut⟩ := hrel
    have hsz := hbut.size
    by_cases hlt : 0 < k
    · have hd : 0 < (k : Int) := by omega
      have HS2 := Lib.hid hs; clear hs
      by_cases h4 : m = 4
      · have hd4 : (m == 4) = true := by simp [h4]
        have HM := Lib.hid h4; clear h4
        go_wp2_with (first
          | (go_at_call 80; (with_reducible refine (Next_c n0 g _ _ HS2.out (by omega)).mono ?_); rintro e w2 ⟨y, rfl, hy0, hy1, -, hs2, hb2⟩; have hy1 := hy1 (by omega); have hs2 := Lib.hid hs2; have hown2 := hown.but hb2 (by omega); have hbut2 := Lib.hid (hbut.trans hb2); have hsz2 := hb2.size)
          | (at_builtin; go_loud (refine append1B (n := UInt8.ofNat y.toNat) hown2 (by omega) (by omega) (by rw [UInt8.toNat_ofNat_of_lt' (show y.toNat < 256 by omega), Int.toNat_of_nonneg hy0]) ?_ rfl rfl); intro v1 w3 hown3 hb3))
        go_roundw
        case rel => exact ⟨k - 1, t.push (UInt8.ofNat y.toNat), by go_num, by rw [ByteArray.size_push]; omega, hown3, hs2.out.low hb3 hn0, hbut2.out.below hb3 (Nat.le_refl _)⟩
        case measure => simp [intOf]; omega
      · have hd4 : (m == 4) = false := by simp [h4]
        have hms := modeSet_size m
        have hms0 : 0 < (modeSet m).size := by
          have : m = 1 ∨ m = 2 ∨ m = 3 := by omega
          rcases this with rfl | rfl | rfl <;> decide
        go_wp2_with (first
          | (go_at_call 83; (with_reducible refine (set_c _ _).mono ?_); rintro e w' ⟨rfl, rfl⟩)
          | (go_at_call 80; (with_reducible refine (Next_c n0 g _ _ HS2.out (by omega)).mono ?_); rintro e w2 ⟨y, rfl, hy0, hy1, hy2, hs2, hb2⟩; obtain ⟨yn, rfl⟩ : ∃ yn : Nat, y = yn := ⟨y.toNat, by omega⟩; have hyb : yn < (modeSet m).size := (by by_cases h1 : (1 : Int) < (modeSet m).size; (have := hy1 h1; omega); (have := hy2 (by omega); omega)); clear hy1 hy2; have hs2 := Lib.hid hs2; have hown2 := hown.but hb2 (by omega); have hbut2 := Lib.hid (hbut.trans hb2); have hsz2 := hb2.size)
          | (at_builtin; go_loud (refine append1B (n := (modeSet m)[yn]'hyb) hown2 (by omega) (by omega) rfl ?_ rfl rfl); intro v1 w3 hown3 hb3))
        go_roundw
        case rel => exact ⟨k - 1, t.push ((modeSet m)[yn]'hyb), by go_num, by rw [ByteArray.size_push]; omega, hown3, hs2.out.low hb3 hn0, hbut2.out.below hb3 (Nat.le_refl _)⟩
        case measure => simp [intOf]; omega
    · have hd : ¬ 0 < (k : Int) := by omega
      have HS2 := Lib.hid hs; clear hs
      have hcv := hown.conv
      go_wp2
      go_ret
      exact ⟨t, rfl, by omega, HS2.out, hbut⟩

/-- Two numbers have been drawn: a mode and a byte, nearly. -/
def TwoR (w : World) (e : Ending) (w' : World) : Prop := ∃ a b : Int, e = .returned (.tuple #[.int .i64 a, .int .i64 b]) ∧ -1 ≤ a ∧ a ≤ 6 ∧ -1 ≤ b ∧ b ≤ 256 ∧ Ext w w'
set_option maxHeartbeats 2000000 in
set_option maxRecDepth 100000 in
theorem DrawCharacterValue_c (p : Option Addr) (c : Nat) (code : List Int) (w : World) (hx : U8At w p code) (hl : code.length ≤ 4096) :
    Calls Try.prog 43 #[.slice p code.length c] w fun e w' => TwoR w e w' := by
  go_enter Try.func43, Try.ntmps43
  go_wp2_with (first
    | (go_at_call 79; (with_reducible refine (From_c p c code _ hx hl).mono ?_); rintro e w1 ⟨⟨g, rfl, rfl, hs1⟩, hb1⟩)
    | (go_at_call 80; go_loud (with_reducible refine (Next_c _ _ _ _ (by assumption) (by omega)).mono ?_); rintro e w2 ⟨y, rfl, hy0, hy1, hy2, hs2, hb2⟩; replace hy1 := hy1 (by omega); clear hy2))
  · have hg1 := hs1.lt
    have hg2 := hs2.lt
    have hne2 : w2.heap.size ≠ w.heap.size := by omega
    have hW2 : Ext w w2 := hb1.but hb2 (Nat.le_refl _)
    refine wp_region_ct (fun w' => True) (.st 0 (.st 4 (.two 1 (.st 2 (.two 3 (.one 5 (.st 6 (.st 8 (.one 7 (.st 9 .done))))) 5 (.st 8 (.one 3 (.st 6 (.one 7 (.st 9 .done))))))) 3 (.one 1 (.st 2 (.one 5 (.st 6 (.st 8 (.one 7 (.st 9 .done)))))))))) (by kernel_rfl) (by kernel_rfl) (by decide) (by kernel_rfl) ?_ ?_
    · exact trivial
    refine ct_intro fun ops eo => ?_
    have ho0 := canon_at eo 0 rfl
    have ho1 := canon_at eo 1 rfl
    have ho2 := canon_at eo 2 rfl
    have ho3 := canon_at eo 3 rfl
    have ho4 := canon_at eo 4 rfl
    have ho5 := canon_at eo 5 rfl
    have ho6 := canon_at eo 6 rfl
    have ho7 := canon_at eo 7 rfl
    have ho8 := canon_at eo 8 rfl
    have ho9 := canon_at eo 9 rfl
    clear eo
    all_goals (apply ct_st ho0 rfl; (intro w2 hS; first | (go_simp; first | done | rfl) | rfl | (skip; go_simp; first | done | rfl)); simp only [Act.put, List.setIfInBounds_toArray, List.set_cons_zero, List.set_cons_succ])
    all_goals clear ho0
    all_goals (apply ct_st ho4 rfl; (intro w2 hS; first | (go_simp; first | done | rfl) | rfl | (skip; go_simp; first | done | rfl)); simp only [Act.put, List.setIfInBounds_toArray, List.set_cons_zero, List.set_cons_succ])
    all_goals clear ho4
    all_goals
      refine ct_two ?_ ?_
      focus
        all_goals first | (refine ct_op ho1 rfl (fun K hK => ?_); go_simp; ((go_at_call 80; (with_reducible refine (Next_c _ _ 7 _ (by first | assumption | exact Src.ext (by assumption) (by repeat (first | exact Ext.refl _ | assumption | refine Ext.drew ?_ | refine Ext.drewN ?_ _ | refine Ext.iter ?_ _ _ | refine Ext.alloc ?_ _ | refine Ext.setCell ?_ (by first | exact Nat.le_refl _ | (simp <;> omega)) _ | refine Ext.trans2 (by assumption) ?_))) (by omega)).mono ?_); rintro e w3 ⟨y7, rfl, hy70, hy71, -, hs3, hb3⟩; replace hy71 := hy71 (by omega); have ey := IntWalk.i64_in (y7 - 1) (by omega); obtain ⟨bc3, bf3, bk3, bz3⟩ := bucell hb3; (try simp at bz3); have hne3 : w3.heap.size ≠ w.heap.size := (by omega))); all_goals (refine hK _ _ ⟨trivial, ?_⟩; clear hK K; go_simp)) | (refine ct_op ho1 rfl (fun K hK => ?_); go_simp; ((go_at_call 80; (with_reducible refine (Next_c _ _ 4 _ (by first | assumption | exact Src.ext (by assumption) (by repeat (first | exact Ext.refl _ | assumption | refine Ext.drew ?_ | refine Ext.drewN ?_ _ | refine Ext.iter ?_ _ _ | refine Ext.alloc ?_ _ | refine Ext.setCell ?_ (by first | exact Nat.le_refl _ | (simp <;> omega)) _ | refine Ext.trans2 (by assumption) ?_))) (by omega)).mono ?_); rintro e w4 ⟨z, rfl, hz0, hz1, -, hs4, hb4⟩; replace hz1 := hz1 (by omega); have hz4 := Lib.hid (show z = 0 ∨ z = 1 ∨ z = 2 ∨ z = 3 by omega); obtain ⟨bc4, bf4, bk4, bz4⟩ := bucell hb4; (try simp at bz4); have hne4 : w4.heap.size ≠ w.heap.size := (by omega))); all_goals (refine hK _ _ ⟨trivial, ?_⟩; clear hK K; go_simp)) | (refine ct_op ho1 rfl (fun K hK => ?_); go_simp; ((at_builtin; fail)); all_goals (refine hK _ _ ⟨trivial, ?_⟩; clear hK K; go_simp)) | (refine ct_op ho1 rfl (fun K hK => ?_); ((rcases hz4.out with rfl | rfl | rfl | rfl) <;> go_simp); all_goals (refine hK _ _ ⟨trivial, ?_⟩; clear hK K; go_simp)) | (refine ct_op ho1 rfl (fun K hK => ?_); go_simp; (skip); all_goals (refine hK _ _ ⟨trivial, ?_⟩; clear hK K; go_simp))
        all_goals clear ho1
        all_goals (apply ct_st ho2 rfl; (intro w2 hS; first | (go_simp; first | done | rfl) | rfl | (skip; go_simp; first | done | rfl)); simp only [Act.put, List.setIfInBounds_toArray, List.set_cons_zero, List.set_cons_succ])
        all_goals clear ho2
        all_goals
          refine ct_two ?_ ?_
          focus
            all_goals first | (refine ct_op ho3 rfl (fun K hK => ?_); go_simp; ((go_at_call 80; (with_reducible refine (Next_c _ _ 7 _ (by first | assumption | exact Src.ext (by assumption) (by repeat (first | exact Ext.refl _ | assumption | refine Ext.drew ?_ | refine Ext.drewN ?_ _ | refine Ext.iter ?_ _ _ | refine Ext.alloc ?_ _ | refine Ext.setCell ?_ (by first | exact Nat.le_refl _ | (simp <;> omega)) _ | refine Ext.trans2 (by assumption) ?_))) (by omega)).mono ?_); rintro e w3 ⟨y7, rfl, hy70, hy71, -, hs3, hb3⟩; replace hy71 := hy71 (by omega); have ey := IntWalk.i64_in (y7 - 1) (by omega); obtain ⟨bc3, bf3, bk3, bz3⟩ := bucell hb3; (try simp at bz3); have hne3 : w3.heap.size ≠ w.heap.size := (by omega))); all_goals (refine hK _ _ ⟨trivial, ?_⟩; clear hK K; go_simp)) | (refine ct_op ho3 rfl (fun K hK => ?_); go_simp; ((go_at_call 80; (with_reducible refine (Next_c _ _ 4 _ (by first | assumption | exact Src.ext (by assumption) (by repeat (first | exact Ext.refl _ | assumption | refine Ext.drew ?_ | refine Ext.drewN ?_ _ | refine Ext.iter ?_ _ _ | refine Ext.alloc ?_ _ | refine Ext.setCell ?_ (by first | exact Nat.le_refl _ | (simp <;> omega)) _ | refine Ext.trans2 (by assumption) ?_))) (by omega)).mono ?_); rintro e w4 ⟨z, rfl, hz0, hz1, -, hs4, hb4⟩; replace hz1 := hz1 (by omega); have hz4 := Lib.hid (show z = 0 ∨ z = 1 ∨ z = 2 ∨ z = 3 by omega); obtain ⟨bc4, bf4, bk4, bz4⟩ := bucell hb4; (try simp at bz4); have hne4 : w4.heap.size ≠ w.heap.size := (by omega))); all_goals (refine hK _ _ ⟨trivial, ?_⟩; clear hK K; go_simp)) | (refine ct_op ho3 rfl (fun K hK => ?_); go_simp; ((at_builtin; fail)); all_goals (refine hK _ _ ⟨trivial, ?_⟩; clear hK K; go_simp)) | (refine ct_op ho3 rfl (fun K hK => ?_); ((rcases hz4.out with rfl | rfl | rfl | rfl) <;> go_simp); all_goals (refine hK _ _ ⟨trivial, ?_⟩; clear hK K; go_simp)) | (refine ct_op ho3 rfl (fun K hK => ?_); go_simp; (skip); all_goals (refine hK _ _ ⟨trivial, ?_⟩; clear hK K; go_simp))
            all_goals clear ho3
            all_goals refine ct_one ?_
            all_goals first | (refine ct_op ho5 rfl (fun K hK => ?_); go_simp; ((go_at_call 80; (with_reducible refine (Next_c _ _ 7 _ (by first | assumption | exact Src.ext (by assumption) (by repeat (first | exact Ext.refl _ | assumption | refine Ext.drew ?_ | refine Ext.drewN ?_ _ | refine Ext.iter ?_ _ _ | refine Ext.alloc ?_ _ | refine Ext.setCell ?_ (by first | exact Nat.le_refl _ | (simp <;> omega)) _ | refine Ext.trans2 (by assumption) ?_))) (by omega)).mono ?_); rintro e w3 ⟨y7, rfl, hy70, hy71, -, hs3, hb3⟩; replace hy71 := hy71 (by omega); have ey := IntWalk.i64_in (y7 - 1) (by omega); obtain ⟨bc3, bf3, bk3, bz3⟩ := bucell hb3; (try simp at bz3); have hne3 : w3.heap.size ≠ w.heap.size := (by omega))); all_goals (refine hK _ _ ⟨trivial, ?_⟩; clear hK K; go_simp)) | (refine ct_op ho5 rfl (fun K hK => ?_); go_simp; ((go_at_call 80; (with_reducible refine (Next_c _ _ 4 _ (by first | assumption | exact Src.ext (by assumption) (by repeat (first | exact Ext.refl _ | assumption | refine Ext.drew ?_ | refine Ext.drewN ?_ _ | refine Ext.iter ?_ _ _ | refine Ext.alloc ?_ _ | refine Ext.setCell ?_ (by first | exact Nat.le_refl _ | (simp <;> omega)) _ | refine Ext.trans2 (by assumption) ?_))) (by omega)).mono ?_); rintro e w4 ⟨z, rfl, hz0, hz1, -, hs4, hb4⟩; replace hz1 := hz1 (by omega); have hz4 := Lib.hid (show z = 0 ∨ z = 1 ∨ z = 2 ∨ z = 3 by omega); obtain ⟨bc4, bf4, bk4, bz4⟩ := bucell hb4; (try simp at bz4); have hne4 : w4.heap.size ≠ w.heap.size := (by omega))); all_goals (refine hK _ _ ⟨trivial, ?_⟩; clear hK K; go_simp)) | (refine ct_op ho5 rfl (fun K hK => ?_); go_simp; ((at_builtin; fail)); all_goals (refine hK _ _ ⟨trivial, ?_⟩; clear hK K; go_simp)) | (refine ct_op ho5 rfl (fun K hK => ?_); ((rcases hz4.out with rfl | rfl | rfl | rfl) <;> go_simp); all_goals (refine hK _ _ ⟨trivial, ?_⟩; clear hK K; go_simp)) | (refine ct_op ho5 rfl (fun K hK => ?_); go_simp; (skip); all_goals (refine hK _ _ ⟨trivial, ?_⟩; clear hK K; go_simp))
            all_goals clear ho5
            all_goals (apply ct_st ho6 rfl; (intro w2 hS; first | (go_simp; first | done | rfl) | rfl | (skip; go_simp; first | done | rfl)); simp only [Act.put, List.setIfInBounds_toArray, List.set_cons_zero, List.set_cons_succ])
            all_goals clear ho6
            all_goals (apply ct_st ho8 rfl; (intro w2 hS; first | (go_simp; first | done | rfl) | rfl | (skip; go_simp; first | done | rfl)); simp only [Act.put, List.setIfInBounds_toArray, List.set_cons_zero, List.set_cons_succ])
            all_goals clear ho8
            all_goals refine ct_one ?_
            all_goals first | (refine ct_op ho7 rfl (fun K hK => ?_); go_simp; ((go_at_call 80; (with_reducible refine (Next_c _ _ 7 _ (by first | assumption | exact Src.ext (by assumption) (by repeat (first | exact Ext.refl _ | assumption | refine Ext.drew ?_ | refine Ext.drewN ?_ _ | refine Ext.iter ?_ _ _ | refine Ext.alloc ?_ _ | refine Ext.setCell ?_ (by first | exact Nat.le_refl _ | (simp <;> omega)) _ | refine Ext.trans2 (by assumption) ?_))) (by omega)).mono ?_); rintro e w3 ⟨y7, rfl, hy70, hy71, -, hs3, hb3⟩; replace hy71 := hy71 (by omega); have ey := IntWalk.i64_in (y7 - 1) (by omega); obtain ⟨bc3, bf3, bk3, bz3⟩ := bucell hb3; (try simp at bz3); have hne3 : w3.heap.size ≠ w.heap.size := (by omega))); all_goals (refine hK _ _ ⟨trivial, ?_⟩; clear hK K; go_simp)) | (refine ct_op ho7 rfl (fun K hK => ?_); go_simp; ((go_at_call 80; (with_reducible refine (Next_c _ _ 4 _ (by first | assumption | exact Src.ext (by assumption) (by repeat (first | exact Ext.refl _ | assumption | refine Ext.drew ?_ | refine Ext.drewN ?_ _ | refine Ext.iter ?_ _ _ | refine Ext.alloc ?_ _ | refine Ext.setCell ?_ (by first | exact Nat.le_refl _ | (simp <;> omega)) _ | refine Ext.trans2 (by assumption) ?_))) (by omega)).mono ?_); rintro e w4 ⟨z, rfl, hz0, hz1, -, hs4, hb4⟩; replace hz1 := hz1 (by omega); have hz4 := Lib.hid (show z = 0 ∨ z = 1 ∨ z = 2 ∨ z = 3 by omega); obtain ⟨bc4, bf4, bk4, bz4⟩ := bucell hb4; (try simp at bz4); have hne4 : w4.heap.size ≠ w.heap.size := (by omega))); all_goals (refine hK _ _ ⟨trivial, ?_⟩; clear hK K; go_simp)) | (refine ct_op ho7 rfl (fun K hK => ?_); go_simp; ((at_builtin; fail)); all_goals (refine hK _ _ ⟨trivial, ?_⟩; clear hK K; go_simp)) | (refine ct_op ho7 rfl (fun K hK => ?_); ((rcases hz4.out with rfl | rfl | rfl | rfl) <;> go_simp); all_goals (refine hK _ _ ⟨trivial, ?_⟩; clear hK K; go_simp)) | (refine ct_op ho7 rfl (fun K hK => ?_); go_simp; (skip); all_goals (refine hK _ _ ⟨trivial, ?_⟩; clear hK K; go_simp))
            all_goals clear ho7
            all_goals (apply ct_st ho9 rfl; (intro w2 hS; first | (go_simp; first | done | rfl) | rfl | (skip; go_simp; first | done | rfl)); simp only [Act.put, List.setIfInBounds_toArray, List.set_cons_zero, List.set_cons_succ])
            all_goals clear ho9
            all_goals refine ct_done (NoPanic.normal ?_)
          rotate_right 1
          focus
            all_goals first | (refine ct_op ho5 rfl (fun K hK => ?_); go_simp; ((go_at_call 80; (with_reducible refine (Next_c _ _ 7 _ (by first | assumption | exact Src.ext (by assumption) (by repeat (first | exact Ext.refl _ | assumption | refine Ext.drew ?_ | refine Ext.drewN ?_ _ | refine Ext.iter ?_ _ _ | refine Ext.alloc ?_ _ | refine Ext.setCell ?_ (by first | exact Nat.le_refl _ | (simp <;> omega)) _ | refine Ext.trans2 (by assumption) ?_))) (by omega)).mono ?_); rintro e w3 ⟨y7, rfl, hy70, hy71, -, hs3, hb3⟩; replace hy71 := hy71 (by omega); have ey := IntWalk.i64_in (y7 - 1) (by omega); obtain ⟨bc3, bf3, bk3, bz3⟩ := bucell hb3; (try simp at bz3); have hne3 : w3.heap.size ≠ w.heap.size := (by omega))); all_goals (refine hK _ _ ⟨trivial, ?_⟩; clear hK K; go_simp)) | (refine ct_op ho5 rfl (fun K hK => ?_); go_simp; ((go_at_call 80; (with_reducible refine (Next_c _ _ 4 _ (by first | assumption | exact Src.ext (by assumption) (by repeat (first | exact Ext.refl _ | assumption | refine Ext.drew ?_ | refine Ext.drewN ?_ _ | refine Ext.iter ?_ _ _ | refine Ext.alloc ?_ _ | refine Ext.setCell ?_ (by first | exact Nat.le_refl _ | (simp <;> omega)) _ | refine Ext.trans2 (by assumption) ?_))) (by omega)).mono ?_); rintro e w4 ⟨z, rfl, hz0, hz1, -, hs4, hb4⟩; replace hz1 := hz1 (by omega); have hz4 := Lib.hid (show z = 0 ∨ z = 1 ∨ z = 2 ∨ z = 3 by omega); obtain ⟨bc4, bf4, bk4, bz4⟩ := bucell hb4; (try simp at bz4); have hne4 : w4.heap.size ≠ w.heap.size := (by omega))); all_goals (refine hK _ _ ⟨trivial, ?_⟩; clear hK K; go_simp)) | (refine ct_op ho5 rfl (fun K hK => ?_); go_simp; ((at_builtin; fail)); all_goals (refine hK _ _ ⟨trivial, ?_⟩; clear hK K; go_simp)) | (refine ct_op ho5 rfl (fun K hK => ?_); ((rcases hz4.out with rfl | rfl | rfl | rfl) <;> go_simp); all_goals (refine hK _ _ ⟨trivial, ?_⟩; clear hK K; go_simp)) | (refine ct_op ho5 rfl (fun K hK => ?_); go_simp; (skip); all_goals (refine hK _ _ ⟨trivial, ?_⟩; clear hK K; go_simp))
            all_goals clear ho5
            all_goals (apply ct_st ho8 rfl; (intro w2 hS; first | (go_simp; first | done | rfl) | rfl | (skip; go_simp; first | done | rfl)); simp only [Act.put, List.setIfInBounds_toArray, List.set_cons_zero, List.set_cons_succ])
            all_goals clear ho8
            all_goals refine ct_one ?_
            all_goals first | (refine ct_op ho3 rfl (fun K hK => ?_); go_simp; ((go_at_call 80; (with_reducible refine (Next_c _ _ 7 _ (by first | assumption | exact Src.ext (by assumption) (by repeat (first | exact Ext.refl _ | assumption | refine Ext.drew ?_ | refine Ext.drewN ?_ _ | refine Ext.iter ?_ _ _ | refine Ext.alloc ?_ _ | refine Ext.setCell ?_ (by first | exact Nat.le_refl _ | (simp <;> omega)) _ | refine Ext.trans2 (by assumption) ?_))) (by omega)).mono ?_); rintro e w3 ⟨y7, rfl, hy70, hy71, -, hs3, hb3⟩; replace hy71 := hy71 (by omega); have ey := IntWalk.i64_in (y7 - 1) (by omega); obtain ⟨bc3, bf3, bk3, bz3⟩ := bucell hb3; (try simp at bz3); have hne3 : w3.heap.size ≠ w.heap.size := (by omega))); all_goals (refine hK _ _ ⟨trivial, ?_⟩; clear hK K; go_simp)) | (refine ct_op ho3 rfl (fun K hK => ?_); go_simp; ((go_at_call 80; (with_reducible refine (Next_c _ _ 4 _ (by first | assumption | exact Src.ext (by assumption) (by repeat (first | exact Ext.refl _ | assumption | refine Ext.drew ?_ | refine Ext.drewN ?_ _ | refine Ext.iter ?_ _ _ | refine Ext.alloc ?_ _ | refine Ext.setCell ?_ (by first | exact Nat.le_refl _ | (simp <;> omega)) _ | refine Ext.trans2 (by assumption) ?_))) (by omega)).mono ?_); rintro e w4 ⟨z, rfl, hz0, hz1, -, hs4, hb4⟩; replace hz1 := hz1 (by omega); have hz4 := Lib.hid (show z = 0 ∨ z = 1 ∨ z = 2 ∨ z = 3 by omega); obtain ⟨bc4, bf4, bk4, bz4⟩ := bucell hb4; (try simp at bz4); have hne4 : w4.heap.size ≠ w.heap.size := (by omega))); all_goals (refine hK _ _ ⟨trivial, ?_⟩; clear hK K; go_simp)) | (refine ct_op ho3 rfl (fun K hK => ?_); go_simp; ((at_builtin; fail)); all_goals (refine hK _ _ ⟨trivial, ?_⟩; clear hK K; go_simp)) | (refine ct_op ho3 rfl (fun K hK => ?_); ((rcases hz4.out with rfl | rfl | rfl | rfl) <;> go_simp); all_goals (refine hK _ _ ⟨trivial, ?_⟩; clear hK K; go_simp)) | (refine ct_op ho3 rfl (fun K hK => ?_); go_simp; (skip); all_goals (refine hK _ _ ⟨trivial, ?_⟩; clear hK K; go_simp))
            all_goals clear ho3
            all_goals (apply ct_st ho6 rfl; (intro w2 hS; first | (go_simp; first | done | rfl) | rfl | (skip; go_simp; first | done | rfl)); simp only [Act.put, List.setIfInBounds_toArray, List.set_cons_zero, List.set_cons_succ])
            all_goals clear ho6
            all_goals refine ct_one ?_
            all_goals first | (refine ct_op ho7 rfl (fun K hK => ?_); go_simp; ((go_at_call 80; (with_reducible refine (Next_c _ _ 7 _ (by first | assumption | exact Src.ext (by assumption) (by repeat (first | exact Ext.refl _ | assumption | refine Ext.drew ?_ | refine Ext.drewN ?_ _ | refine Ext.iter ?_ _ _ | refine Ext.alloc ?_ _ | refine Ext.setCell ?_ (by first | exact Nat.le_refl _ | (simp <;> omega)) _ | refine Ext.trans2 (by assumption) ?_))) (by omega)).mono ?_); rintro e w3 ⟨y7, rfl, hy70, hy71, -, hs3, hb3⟩; replace hy71 := hy71 (by omega); have ey := IntWalk.i64_in (y7 - 1) (by omega); obtain ⟨bc3, bf3, bk3, bz3⟩ := bucell hb3; (try simp at bz3); have hne3 : w3.heap.size ≠ w.heap.size := (by omega))); all_goals (refine hK _ _ ⟨trivial, ?_⟩; clear hK K; go_simp)) | (refine ct_op ho7 rfl (fun K hK => ?_); go_simp; ((go_at_call 80; (with_reducible refine (Next_c _ _ 4 _ (by first | assumption | exact Src.ext (by assumption) (by repeat (first | exact Ext.refl _ | assumption | refine Ext.drew ?_ | refine Ext.drewN ?_ _ | refine Ext.iter ?_ _ _ | refine Ext.alloc ?_ _ | refine Ext.setCell ?_ (by first | exact Nat.le_refl _ | (simp <;> omega)) _ | refine Ext.trans2 (by assumption) ?_))) (by omega)).mono ?_); rintro e w4 ⟨z, rfl, hz0, hz1, -, hs4, hb4⟩; replace hz1 := hz1 (by omega); have hz4 := Lib.hid (show z = 0 ∨ z = 1 ∨ z = 2 ∨ z = 3 by omega); obtain ⟨bc4, bf4, bk4, bz4⟩ := bucell hb4; (try simp at bz4); have hne4 : w4.heap.size ≠ w.heap.size := (by omega))); all_goals (refine hK _ _ ⟨trivial, ?_⟩; clear hK K; go_simp)) | (refine ct_op ho7 rfl (fun K hK => ?_); go_simp; ((at_builtin; fail)); all_goals (refine hK _ _ ⟨trivial, ?_⟩; clear hK K; go_simp)) | (refine ct_op ho7 rfl (fun K hK => ?_); ((rcases hz4.out with rfl | rfl | rfl | rfl) <;> go_simp); all_goals (refine hK _ _ ⟨trivial, ?_⟩; clear hK K; go_simp)) | (refine ct_op ho7 rfl (fun K hK => ?_); go_simp; (skip); all_goals (refine hK _ _ ⟨trivial, ?_⟩; clear hK K; go_simp))
            all_goals clear ho7
            all_goals (apply ct_st ho9 rfl; (intro w2 hS; first | (go_simp; first | done | rfl) | rfl | (skip; go_simp; first | done | rfl)); simp only [Act.put, List.setIfInBounds_toArray, List.set_cons_zero, List.set_cons_succ])
            all_goals clear ho9
            all_goals refine ct_done (NoPanic.normal ?_)
      rotate_right 1
      focus
        all_goals first | (refine ct_op ho3 rfl (fun K hK => ?_); go_simp; ((go_at_call 80; (with_reducible refine (Next_c _ _ 7 _ (by first | assumption | exact Src.ext (by assumption) (by repeat (first | exact Ext.refl _ | assumption | refine Ext.drew ?_ | refine Ext.drewN ?_ _ | refine Ext.iter ?_ _ _ | refine Ext.alloc ?_ _ | refine Ext.setCell ?_ (by first | exact Nat.le_refl _ | (simp <;> omega)) _ | refine Ext.trans2 (by assumption) ?_))) (by omega)).mono ?_); rintro e w3 ⟨y7, rfl, hy70, hy71, -, hs3, hb3⟩; replace hy71 := hy71 (by omega); have ey := IntWalk.i64_in (y7 - 1) (by omega); obtain ⟨bc3, bf3, bk3, bz3⟩ := bucell hb3; (try simp at bz3); have hne3 : w3.heap.size ≠ w.heap.size := (by omega))); all_goals (refine hK _ _ ⟨trivial, ?_⟩; clear hK K; go_simp)) | (refine ct_op ho3 rfl (fun K hK => ?_); go_simp; ((go_at_call 80; (with_reducible refine (Next_c _ _ 4 _ (by first | assumption | exact Src.ext (by assumption) (by repeat (first | exact Ext.refl _ | assumption | refine Ext.drew ?_ | refine Ext.drewN ?_ _ | refine Ext.iter ?_ _ _ | refine Ext.alloc ?_ _ | refine Ext.setCell ?_ (by first | exact Nat.le_refl _ | (simp <;> omega)) _ | refine Ext.trans2 (by assumption) ?_))) (by omega)).mono ?_); rintro e w4 ⟨z, rfl, hz0, hz1, -, hs4, hb4⟩; replace hz1 := hz1 (by omega); have hz4 := Lib.hid (show z = 0 ∨ z = 1 ∨ z = 2 ∨ z = 3 by omega); obtain ⟨bc4, bf4, bk4, bz4⟩ := bucell hb4; (try simp at bz4); have hne4 : w4.heap.size ≠ w.heap.size := (by omega))); all_goals (refine hK _ _ ⟨trivial, ?_⟩; clear hK K; go_simp)) | (refine ct_op ho3 rfl (fun K hK => ?_); go_simp; ((at_builtin; fail)); all_goals (refine hK _ _ ⟨trivial, ?_⟩; clear hK K; go_simp)) | (refine ct_op ho3 rfl (fun K hK => ?_); ((rcases hz4.out with rfl | rfl | rfl | rfl) <;> go_simp); all_goals (refine hK _ _ ⟨trivial, ?_⟩; clear hK K; go_simp)) | (refine ct_op ho3 rfl (fun K hK => ?_); go_simp; (skip); all_goals (refine hK _ _ ⟨trivial, ?_⟩; clear hK K; go_simp))
        all_goals clear ho3
        all_goals refine ct_one ?_
        all_goals first | (refine ct_op ho1 rfl (fun K hK => ?_); go_simp; ((go_at_call 80; (with_reducible refine (Next_c _ _ 7 _ (by first | assumption | exact Src.ext (by assumption) (by repeat (first | exact Ext.refl _ | assumption | refine Ext.drew ?_ | refine Ext.drewN ?_ _ | refine Ext.iter ?_ _ _ | refine Ext.alloc ?_ _ | refine Ext.setCell ?_ (by first | exact Nat.le_refl _ | (simp <;> omega)) _ | refine Ext.trans2 (by assumption) ?_))) (by omega)).mono ?_); rintro e w3 ⟨y7, rfl, hy70, hy71, -, hs3, hb3⟩; replace hy71 := hy71 (by omega); have ey := IntWalk.i64_in (y7 - 1) (by omega); obtain ⟨bc3, bf3, bk3, bz3⟩ := bucell hb3; (try simp at bz3); have hne3 : w3.heap.size ≠ w.heap.size := (by omega))); all_goals (refine hK _ _ ⟨trivial, ?_⟩; clear hK K; go_simp)) | (refine ct_op ho1 rfl (fun K hK => ?_); go_simp; ((go_at_call 80; (with_reducible refine (Next_c _ _ 4 _ (by first | assumption | exact Src.ext (by assumption) (by repeat (first | exact Ext.refl _ | assumption | refine Ext.drew ?_ | refine Ext.drewN ?_ _ | refine Ext.iter ?_ _ _ | refine Ext.alloc ?_ _ | refine Ext.setCell ?_ (by first | exact Nat.le_refl _ | (simp <;> omega)) _ | refine Ext.trans2 (by assumption) ?_))) (by omega)).mono ?_); rintro e w4 ⟨z, rfl, hz0, hz1, -, hs4, hb4⟩; replace hz1 := hz1 (by omega); have hz4 := Lib.hid (show z = 0 ∨ z = 1 ∨ z = 2 ∨ z = 3 by omega); obtain ⟨bc4, bf4, bk4, bz4⟩ := bucell hb4; (try simp at bz4); have hne4 : w4.heap.size ≠ w.heap.size := (by omega))); all_goals (refine hK _ _ ⟨trivial, ?_⟩; clear hK K; go_simp)) | (refine ct_op ho1 rfl (fun K hK => ?_); go_simp; ((at_builtin; fail)); all_goals (refine hK _ _ ⟨trivial, ?_⟩; clear hK K; go_simp)) | (refine ct_op ho1 rfl (fun K hK => ?_); ((rcases hz4.out with rfl | rfl | rfl | rfl) <;> go_simp); all_goals (refine hK _ _ ⟨trivial, ?_⟩; clear hK K; go_simp)) | (refine ct_op ho1 rfl (fun K hK => ?_); go_simp; (skip); all_goals (refine hK _ _ ⟨trivial, ?_⟩; clear hK K; go_simp))
        all_goals clear ho1
        all_goals (apply ct_st ho2 rfl; (intro w2 hS; first | (go_simp; first | done | rfl) | rfl | (skip; go_simp; first | done | rfl)); simp only [Act.put, List.setIfInBounds_toArray, List.set_cons_zero, List.set_cons_succ])
        all_goals clear ho2
        all_goals refine ct_one ?_
        all_goals first | (refine ct_op ho5 rfl (fun K hK => ?_); go_simp; ((go_at_call 80; (with_reducible refine (Next_c _ _ 7 _ (by first | assumption | exact Src.ext (by assumption) (by repeat (first | exact Ext.refl _ | assumption | refine Ext.drew ?_ | refine Ext.drewN ?_ _ | refine Ext.iter ?_ _ _ | refine Ext.alloc ?_ _ | refine Ext.setCell ?_ (by first | exact Nat.le_refl _ | (simp <;> omega)) _ | refine Ext.trans2 (by assumption) ?_))) (by omega)).mono ?_); rintro e w3 ⟨y7, rfl, hy70, hy71, -, hs3, hb3⟩; replace hy71 := hy71 (by omega); have ey := IntWalk.i64_in (y7 - 1) (by omega); obtain ⟨bc3, bf3, bk3, bz3⟩ := bucell hb3; (try simp at bz3); have hne3 : w3.heap.size ≠ w.heap.size := (by omega))); all_goals (refine hK _ _ ⟨trivial, ?_⟩; clear hK K; go_simp)) | (refine ct_op ho5 rfl (fun K hK => ?_); go_simp; ((go_at_call 80; (with_reducible refine (Next_c _ _ 4 _ (by first | assumption | exact Src.ext (by assumption) (by repeat (first | exact Ext.refl _ | assumption | refine Ext.drew ?_ | refine Ext.drewN ?_ _ | refine Ext.iter ?_ _ _ | refine Ext.alloc ?_ _ | refine Ext.setCell ?_ (by first | exact Nat.le_refl _ | (simp <;> omega)) _ | refine Ext.trans2 (by assumption) ?_))) (by omega)).mono ?_); rintro e w4 ⟨z, rfl, hz0, hz1, -, hs4, hb4⟩; replace hz1 := hz1 (by omega); have hz4 := Lib.hid (show z = 0 ∨ z = 1 ∨ z = 2 ∨ z = 3 by omega); obtain ⟨bc4, bf4, bk4, bz4⟩ := bucell hb4; (try simp at bz4); have hne4 : w4.heap.size ≠ w.heap.size := (by omega))); all_goals (refine hK _ _ ⟨trivial, ?_⟩; clear hK K; go_simp)) | (refine ct_op ho5 rfl (fun K hK => ?_); go_simp; ((at_builtin; fail)); all_goals (refine hK _ _ ⟨trivial, ?_⟩; clear hK K; go_simp)) | (refine ct_op ho5 rfl (fun K hK => ?_); ((rcases hz4.out with rfl | rfl | rfl | rfl) <;> go_simp); all_goals (refine hK _ _ ⟨trivial, ?_⟩; clear hK K; go_simp)) | (refine ct_op ho5 rfl (fun K hK => ?_); go_simp; (skip); all_goals (refine hK _ _ ⟨trivial, ?_⟩; clear hK K; go_simp))
        all_goals clear ho5
        all_goals (apply ct_st ho6 rfl; (intro w2 hS; first | (go_simp; first | done | rfl) | rfl | (skip; go_simp; first | done | rfl)); simp only [Act.put, List.setIfInBounds_toArray, List.set_cons_zero, List.set_cons_succ])
        all_goals clear ho6
        all_goals (apply ct_st ho8 rfl; (intro w2 hS; first | (go_simp; first | done | rfl) | rfl | (skip; go_simp; first | done | rfl)); simp only [Act.put, List.setIfInBounds_toArray, List.set_cons_zero, List.set_cons_succ])
        all_goals clear ho8
        all_goals refine ct_one ?_
        all_goals first | (refine ct_op ho7 rfl (fun K hK => ?_); go_simp; ((go_at_call 80; (with_reducible refine (Next_c _ _ 7 _ (by first | assumption | exact Src.ext (by assumption) (by repeat (first | exact Ext.refl _ | assumption | refine Ext.drew ?_ | refine Ext.drewN ?_ _ | refine Ext.iter ?_ _ _ | refine Ext.alloc ?_ _ | refine Ext.setCell ?_ (by first | exact Nat.le_refl _ | (simp <;> omega)) _ | refine Ext.trans2 (by assumption) ?_))) (by omega)).mono ?_); rintro e w3 ⟨y7, rfl, hy70, hy71, -, hs3, hb3⟩; replace hy71 := hy71 (by omega); have ey := IntWalk.i64_in (y7 - 1) (by omega); obtain ⟨bc3, bf3, bk3, bz3⟩ := bucell hb3; (try simp at bz3); have hne3 : w3.heap.size ≠ w.heap.size := (by omega))); all_goals (refine hK _ _ ⟨trivial, ?_⟩; clear hK K; go_simp)) | (refine ct_op ho7 rfl (fun K hK => ?_); go_simp; ((go_at_call 80; (with_reducible refine (Next_c _ _ 4 _ (by first | assumption | exact Src.ext (by assumption) (by repeat (first | exact Ext.refl _ | assumption | refine Ext.drew ?_ | refine Ext.drewN ?_ _ | refine Ext.iter ?_ _ _ | refine Ext.alloc ?_ _ | refine Ext.setCell ?_ (by first | exact Nat.le_refl _ | (simp <;> omega)) _ | refine Ext.trans2 (by assumption) ?_))) (by omega)).mono ?_); rintro e w4 ⟨z, rfl, hz0, hz1, -, hs4, hb4⟩; replace hz1 := hz1 (by omega); have hz4 := Lib.hid (show z = 0 ∨ z = 1 ∨ z = 2 ∨ z = 3 by omega); obtain ⟨bc4, bf4, bk4, bz4⟩ := bucell hb4; (try simp at bz4); have hne4 : w4.heap.size ≠ w.heap.size := (by omega))); all_goals (refine hK _ _ ⟨trivial, ?_⟩; clear hK K; go_simp)) | (refine ct_op ho7 rfl (fun K hK => ?_); go_simp; ((at_builtin; fail)); all_goals (refine hK _ _ ⟨trivial, ?_⟩; clear hK K; go_simp)) | (refine ct_op ho7 rfl (fun K hK => ?_); ((rcases hz4.out with rfl | rfl | rfl | rfl) <;> go_simp); all_goals (refine hK _ _ ⟨trivial, ?_⟩; clear hK K; go_simp)) | (refine ct_op ho7 rfl (fun K hK => ?_); go_simp; (skip); all_goals (refine hK _ _ ⟨trivial, ?_⟩; clear hK K; go_simp))
        all_goals clear ho7
        all_goals (apply ct_st ho9 rfl; (intro w2 hS; first | (go_simp; first | done | rfl) | rfl | (skip; go_simp; first | done | rfl)); simp only [Act.put, List.setIfInBounds_toArray, List.set_cons_zero, List.set_cons_succ])
        all_goals clear ho9
        all_goals refine ct_done (NoPanic.normal ?_)
    all_goals go_wp2
    all_goals go_ret2
    all_goals exact ⟨_, _, rfl, by omega, by omega, by omega, by omega, by repeat (first | exact hW2 | exact hW2.drew | refine Ext.alloc ?_ _ | refine Ext.drew ?_ | refine Ext.but ?_ (by assumption) (Nat.le_refl _))⟩
  · go_ret2
    exact ⟨_, _, rfl, by omega, by omega, by omega, by omega, by repeat (first | exact hb1 | refine Ext.but ?_ (by assumption) (Nat.le_refl _))⟩

/-- A short text has been drawn. -/
def ShortR (w : World) (e : Ending) (w' : World) : Prop := ∃ t : ByteArray, e = .returned (.string t) ∧ t.size ≤ 6 ∧ Ext w w'
set_option maxRecDepth 100000 in
theorem DrawNarrowestMode_c (p : Option Addr) (c : Nat) (code : List Int) (w : World) (hx : U8At w p code) (hl : code.length ≤ 4096) :
    Calls Try.prog 50 #[.slice p code.length c] w fun e w' => ShortR w e w' := by
  go_enter Try.func50, Try.ntmps50
  go_wp2_with (first
    | (go_at_call 79; (with_reducible refine (From_c p c code _ hx hl).mono ?_); rintro e w1 ⟨⟨g, rfl, rfl, hs1⟩, hb1⟩; have hn1 : w.heap.size + 1 ≤ w1.heap.size := (hs1.lt))
    | (go_at_call 80; (with_reducible refine (Next_c _ _ _ _ (by assumption) (by omega)).mono ?_); rintro e w2 ⟨y, rfl, hy0, hy1, -, hs2, hb2⟩; replace hy1 := hy1 (by omega); have hn2 := hb2.size)
    | (go_at_call 84; (with_reducible refine (DrawText_c _ _ _ _ _ (by assumption) (by omega) (by omega) (by omega)).mono ?_); rintro e w3 ⟨t, rfl, ht, hs3, hb3⟩; have hn3 := hb3.size))
  go_ret
  exact ⟨_, rfl, by rw [ByteArray.size_append]; omega, by repeat (first | exact hb1 | refine Ext.but ?_ (by assumption) (Nat.le_refl _))⟩

def modeName (m : Int) : ByteArray := if m = 0 then ⟨#[101, 110, 100]⟩ else if m = 1 then ⟨#[100, 105, 103, 105, 116, 115]⟩ else if m = 2 then ⟨#[108, 101, 116, 116, 101, 114, 115]⟩ else if m = 3 then ⟨#[108, 111, 119, 101, 114]⟩ else if m = 4 then ⟨#[98, 121, 116, 101, 115]⟩ else if m = 5 then ⟨#[97, 112, 112, 101, 110, 100]⟩ else ⟨#[]⟩
theorem modeName_none (m : Int) (h : ¬ (0 ≤ m ∧ m ≤ 5)) : modeName m = ⟨#[]⟩ := by
  unfold modeName
  rw [if_neg (by omega), if_neg (by omega), if_neg (by omega), if_neg (by omega), if_neg (by omega), if_neg (by omega)]
theorem iModeName_c (m : Int) (w : World) : Calls Try.prog 46 #[.int .i64 m] w fun e w' => e = .returned (.string (modeName m)) ∧ Ext w w' := by
  by_cases h : 0 ≤ m ∧ m ≤ 5
  · have : m = 0 ∨ m = 1 ∨ m = 2 ∨ m = 3 ∨ m = 4 ∨ m = 5 := by omega
    clear h
    rcases this with rfl | rfl | rfl | rfl | rfl | rfl
    all_goals
      go_enter Try.func46, Try.ntmps46
      go_wp2_with (first | (go_at_call 81; (with_reducible refine (inRange_c _ _ _ _).mono ?_); rintro e w' ⟨⟨hP, rfl⟩ | ⟨hP, rfl⟩, rfl⟩ <;> go_prune))
      go_ret
      exact ⟨rfl, (by repeat (first | exact Ext.refl _ | assumption | refine Ext.drew ?_ | refine Ext.drewN ?_ _ | refine Ext.iter ?_ _ _ | refine Ext.alloc ?_ _ | refine Ext.setCell ?_ (by first | exact Nat.le_refl _ | (simp <;> omega)) _ | refine Ext.trans2 (by assumption) ?_))⟩
  · rw [modeName_none m h]
    go_enter Try.func46, Try.ntmps46
    go_wp2_with (first | (go_at_call 81; (with_reducible refine (inRange_c _ _ _ _).mono ?_); rintro e w' ⟨⟨hP, rfl⟩ | ⟨hP, rfl⟩, rfl⟩ <;> go_prune))
    go_ret
    exact ⟨rfl, (by repeat (first | exact Ext.refl _ | assumption | refine Ext.drew ?_ | refine Ext.drewN ?_ _ | refine Ext.iter ?_ _ _ | refine Ext.alloc ?_ _ | refine Ext.setCell ?_ (by first | exact Nat.le_refl _ | (simp <;> omega)) _ | refine Ext.trans2 (by assumption) ?_))⟩
theorem sModeName_c (m : Int) (w : World) : Calls Try.prog 47 #[.int .i64 m] w fun e w' => e = .returned (.string (modeName m)) ∧ Ext w w' := by
  by_cases h : 0 ≤ m ∧ m ≤ 5
  · have : m = 0 ∨ m = 1 ∨ m = 2 ∨ m = 3 ∨ m = 4 ∨ m = 5 := by omega
    clear h
    rcases this with rfl | rfl | rfl | rfl | rfl | rfl
    all_goals
      go_enter Try.func47, Try.ntmps47
      go_wp2_with (first | (go_at_call 82; (with_reducible refine (l01In_c _ _ _ _).mono ?_); rintro e w' ⟨⟨hP, rfl⟩ | ⟨hP, rfl⟩, rfl⟩ <;> go_prune))
      go_ret
      exact ⟨rfl, (by repeat (first | exact Ext.refl _ | assumption | refine Ext.drew ?_ | refine Ext.drewN ?_ _ | refine Ext.iter ?_ _ _ | refine Ext.alloc ?_ _ | refine Ext.setCell ?_ (by first | exact Nat.le_refl _ | (simp <;> omega)) _ | refine Ext.trans2 (by assumption) ?_))⟩
  · rw [modeName_none m h]
    go_enter Try.func47, Try.ntmps47
    go_wp2_with (first | (go_at_call 82; (with_reducible refine (l01In_c _ _ _ _).mono ?_); rintro e w' ⟨⟨hP, rfl⟩ | ⟨hP, rfl⟩, rfl⟩ <;> go_prune))
    go_ret
    exact ⟨rfl, (by repeat (first | exact Ext.refl _ | assumption | refine Ext.drew ?_ | refine Ext.drewN ?_ _ | refine Ext.iter ?_ _ _ | refine Ext.alloc ?_ _ | refine Ext.setCell ?_ (by first | exact Nat.le_refl _ | (simp <;> omega)) _ | refine Ext.trans2 (by assumption) ?_))⟩
end Go.Proofs.Ytepneadbddjmjaa
