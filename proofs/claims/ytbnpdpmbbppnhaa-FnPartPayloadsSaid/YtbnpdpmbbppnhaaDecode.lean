
/- The bits of elements. -/
import Derived.Test.YtbnpdpmbbppnhaaEncode
import Derived.Test.YtbnpdpmbbppnhaaReadSeg2
import Derived.Test.YtbnpdpmbbppnhaaReadMath
import Derived.Test.YtbnpdpmbbppnhaaSRead
import Derived.Test.YtbnpdpmbbppnhaaBest
import Derived.Test.YtbnpdpmbbppnhaaJoin
import Derived.Test.YtbnpdpmbbppnhaaDrawPay
/-! The bits of elements. -/
namespace Go.Proofs.Ytbnpdpmbbppnhaa
set_option linter.unusedVariables false
set_option linter.unusedSimpArgs false
open Go.RowKit

theorem RowI.room {B : Nat} {w : World} (hB : B ≤ w.heap.size) (z : Array Value) (n : Nat) (hz : z.size = 1) (hn : n ≤ maxLen) : RowI B (w.alloc (.cells (madeCells z n) 2)) (.slice (some ⟨w.heap.size, 0, none⟩) 0 n) [] :=
  World.ownsRow_made w _ n hB hn (by simp [size_madeCells, hz])
theorem CalcB.lt {w : World} {g : Nat} {bin : Bool} {size : Int} (h : CalcB w g bin size) : g < w.heap.size := by
  obtain ⟨cs, h, _⟩ := h
  exact h.lt
theorem all_take {P : Int → Prop} {xs : List Int} {k : Nat} (hlt : k < xs.length) (h : ∀ x ∈ xs.take k, P x) (hx : P (xs.getD k 0)) : ∀ x ∈ xs.take (k + 1), P x := fun x hm => by
  rw [List.take_add_one, List.mem_append] at hm
  rcases hm with hm | hm
  · exact h x hm
  · rw [List.getElem?_eq_getElem hlt] at hm
    simp at hm
    subst hm
    rw [List.getD_eq_getElem?_getD, List.getElem?_eq_getElem hlt] at hx
    exact hx
theorem all_at {P : Int → Prop} {xs : List Int} {k : Nat} (hlt : k < xs.length) (h : ∀ x ∈ xs, P x) : P (xs.getD k 0) := by
  rw [List.getD_eq_getElem?_getD, List.getElem?_eq_getElem hlt]
  exact h _ (List.getElem_mem _)

theorem has_c (g : Nat) (size x : Int) (w : World) (hq : w.cell? ⟨g, 1, none⟩ = some (.int .i64 size)) (hs : 3 ≤ size ∧ size ≤ 1021) :
    Calls Try.prog 205 #[.pointer (some ⟨g, 0, none⟩), .int .i64 x] w fun e w' => isB e (0 ≤ x ∧ x ≤ size - 1) ∧ Ext w w' := by
  have ey := IntWalk.i64_in (size - 1) (by omega)
  go_enter Try.func205, Try.ntmps205
  go_wp2_with (go_at_call 85; (with_reducible refine (inRange_c _ _ _ _).mono ?_); rintro e w1 ⟨⟨hP, rfl⟩ | ⟨hP, rfl⟩, rfl⟩)
  · go_ret
    exact ⟨isB_t hP, (by repeat (first | exact Ext.refl _ | assumption | refine Ext.drew ?_ | refine Ext.drewN ?_ _ | refine Ext.iter ?_ _ _ | refine Ext.alloc ?_ _ | refine Ext.setCell ?_ (by first | exact Nat.le_refl _ | (simp <;> omega)) _ | refine Ext.trans2 (by assumption) ?_))⟩
  · go_ret
    exact ⟨isB_f hP, (by repeat (first | exact Ext.refl _ | assumption | refine Ext.drew ?_ | refine Ext.drewN ?_ _ | refine Ext.iter ?_ _ _ | refine Ext.alloc ?_ _ | refine Ext.setCell ?_ (by first | exact Nat.le_refl _ | (simp <;> omega)) _ | refine Ext.trans2 (by assumption) ?_))⟩
def elOK (size : Int) (xs : List Int) : Prop := ∀ x ∈ xs, 0 ≤ x ∧ x ≤ size - 1
set_option maxRecDepth 100000 in
theorem hasAll_c (g : Nat) (size : Int) (p : Option Addr) (c : Nat) (xs : List Int) (w : World) (hq : w.cell? ⟨g, 1, none⟩ = some (.int .i64 size)) (hgl : g < w.heap.size) (hs : 3 ≤ size ∧ size ≤ 1021) (hx : IntsAt w p xs) (hl : xs.length ≤ 1048576) :
    Calls Try.prog 156 #[.pointer (some ⟨g, 0, none⟩), .slice p xs.length c] w fun e w' => isB e (elOK size xs) ∧ Ext w w' := by
  have HX := Lib.hid hx; clear hx
  go_enter Try.func156, Try.ntmps156
  go_wp2
  go_loopw [9] (fun i wr => ∃ k : Nat, k ≤ xs.length ∧ i = .int .i64 k ∧ Hid (∀ x ∈ xs.take k, 0 ≤ x ∧ x ≤ size - 1) ∧ Ext w wr) (fun i _ => xs.length - (intOf i).toNat)
  case atStart => exact ⟨0, Nat.zero_le _, rfl, Lib.hid (by simp), (by repeat (first | exact Ext.refl _ | assumption | refine Ext.drew ?_ | refine Ext.drewN ?_ _ | refine Ext.iter ?_ _ _ | refine Ext.alloc ?_ _ | refine Ext.setCell ?_ (by first | exact Nat.le_refl _ | (simp <;> omega)) _ | refine Ext.trans2 (by assumption) ?_))⟩
  case round =>
    obtain ⟨k, hk, rfl, hT, hext⟩ := hrel
    have hqr : wr.cell? ⟨g, 1, none⟩ = some (.int .i64 size) := ((ecell hext).1 g 1 hgl).trans hq
    by_cases hlt : k < xs.length
    · obtain ⟨b, o, rfl, hb, h1⟩ := (HX.out.ext hext) k hlt
      have hst := fun h2 => all_take hlt hT.out h2
      have hat := fun (h : elOK size xs) => all_at hlt h
      generalize xs.getD k 0 = x at *
      have hst := Lib.hid hst
      have hat := Lib.hid hat
      go_wp2_with (go_at_call 205; (with_reducible refine (has_c g size _ _ hqr hs).mono ?_); rintro e w1 ⟨⟨hP, rfl⟩ | ⟨hP, rfl⟩, hx1⟩)
      · go_roundw
        case rel => exact ⟨k + 1, hlt, by go_num, Lib.hid (hst.out hP), hext.trans hx1⟩
        case measure => simp [intOf]; omega
      · go_ret
        exact ⟨isB_f (fun h => hP (hat.out h)), hext.trans hx1⟩
    · obtain rfl : k = xs.length := by omega
      go_wp2
      go_ret
      exact ⟨isB_t (fun x hm => hT.out x (by rwa [List.take_length])), hext⟩
set_option maxRecDepth 100000 in
theorem l02Is_c (p k q : Int) (pt : Option Addr) (c : Nat) (xs : List Int) (w : World) (hs : (3 ≤ fldSize p k ∧ fldSize p k ≤ 1021) ∧ 0 ≤ k ∧ k ≤ 40) (hx : IntsAt w pt xs) (hl : xs.length ≤ 1048576) :
    Calls Try.prog 243 #[vFld p k q, .slice pt xs.length c] w fun e w' => isB e (elOK (fldSize p k) xs) ∧ Ext w w' := by
  have HX := Lib.hid hx; clear hx
  have hf := Blk.new w #[.int .i64 p, .int .i64 k, .int .i64 q] 25
  have hx0 : Ext w (w.alloc (.cells #[.int .i64 p, .int .i64 k, .int .i64 q] 25)) := (Ext.refl w).alloc _
  have hsc := Lib.hid (fun W => l02Size_c p k q W hs.2)
  obtain ⟨size, hsz⟩ : ∃ size, fldSize p k = size := ⟨_, rfl⟩
  rw [hsz] at hsc hs ⊢
  clear hsz
  have ey := IntWalk.i64_in (size - 1) (by omega)
  go_enter Try.func243, Try.ntmps243
  go_wp2
  generalize w.alloc (.cells #[.int .i64 p, .int .i64 k, .int .i64 q] 25) = w0 at *
  go_loopw [5] (fun i wr => ∃ k : Nat, k ≤ xs.length ∧ i = .int .i64 k ∧ Hid (∀ x ∈ xs.take k, 0 ≤ x ∧ x ≤ size - 1) ∧ Ext w0 wr) (fun i _ => xs.length - (intOf i).toNat)
  case atStart => exact ⟨0, Nat.zero_le _, rfl, Lib.hid (by simp), (by repeat (first | exact Ext.refl _ | assumption | refine Ext.drew ?_ | refine Ext.drewN ?_ _ | refine Ext.iter ?_ _ _ | refine Ext.alloc ?_ _ | refine Ext.setCell ?_ (by first | exact Nat.le_refl _ | (simp <;> omega)) _ | refine Ext.trans2 (by assumption) ?_))⟩
  case round =>
    obtain ⟨j, hk, rfl, hT, hext⟩ := hrel
    have hfr := hf.ext hext
    have f0 := hfr.cell (i := 0) (v := .int .i64 p) rfl
    have f1 := hfr.cell (i := 1) (v := .int .i64 k) rfl
    have f2 := hfr.cell (i := 2) (v := .int .i64 q) rfl
    have f3 := hfr.lt
    by_cases hlt : j < xs.length
    · obtain ⟨b, o, rfl, hb, h1⟩ := (HX.out.ext (hx0.trans hext)) j hlt
      have hst := fun h2 => all_take hlt hT.out h2
      have hat := fun (h : elOK size xs) => all_at hlt h
      generalize xs.getD j 0 = x at *
      have hst := Lib.hid hst
      have hat := Lib.hid hat
      go_wp2
      refine wp_region_canon (fun w' => Ext wr w') [(0, true), (1, true), (2, true), (3, true), (4, true), (5, false), (6, true), (7, false), (8, true)] (by kernel_rfl) (by kernel_rfl) (by decide) (by kernel_rfl) ?_ ?_
      · exact (by repeat (first | exact Ext.refl _ | assumption | refine Ext.drew ?_ | refine Ext.drewN ?_ _ | refine Ext.iter ?_ _ _ | refine Ext.alloc ?_ _ | refine Ext.setCell ?_ (by first | exact Nat.le_refl _ | (simp <;> omega)) _ | refine Ext.trans2 (by assumption) ?_))
      refine canon_intro fun ops eo => ?_
      have ho0 := canon_at eo 0 rfl
      have ho1 := canon_at eo 1 rfl
      have ho2 := canon_at eo 2 rfl
      have ho3 := canon_at eo 3 rfl
      have ho4 := canon_at eo 4 rfl
      have ho5 := canon_at eo 5 rfl
      have ho6 := canon_at eo 6 rfl
      have ho7 := canon_at eo 7 rfl
      have ho8 := canon_at eo 8 rfl
      clear eo
      all_goals (apply canon_st ho0 rfl; (intro w2 hS; first | (go_simp; first | done | rfl) | rfl | (obtain ⟨hc, hf, hk, hz⟩ := ecell hS; go_simp; first | done | rfl)); simp only [Act.put, List.setIfInBounds_toArray, List.set_cons_zero, List.set_cons_succ])
      all_goals clear ho0
      all_goals (apply canon_st ho1 rfl; (intro w2 hS; first | (go_simp; first | done | rfl) | rfl | (obtain ⟨hc, hf, hk, hz⟩ := ecell hS; go_simp; first | done | rfl)); simp only [Act.put, List.setIfInBounds_toArray, List.set_cons_zero, List.set_cons_succ])
      all_goals clear ho1
      all_goals (apply canon_st ho2 rfl; (intro w2 hS; first | (go_simp; first | done | rfl) | rfl | (obtain ⟨hc, hf, hk, hz⟩ := ecell hS; go_simp; first | done | rfl)); simp only [Act.put, List.setIfInBounds_toArray, List.set_cons_zero, List.set_cons_succ])
      all_goals clear ho2
      all_goals (apply canon_st ho3 rfl; (intro w2 hS; first | (go_simp; first | done | rfl) | rfl | (obtain ⟨hc, hf, hk, hz⟩ := ecell hS; go_simp; first | done | rfl)); simp only [Act.put, List.setIfInBounds_toArray, List.set_cons_zero, List.set_cons_succ])
      all_goals clear ho3
      all_goals (apply canon_st ho4 rfl; (intro w2 hS; first | (go_simp; first | done | rfl) | rfl | (obtain ⟨hc, hf, hk, hz⟩ := ecell hS; go_simp; first | done | rfl)); simp only [Act.put, List.setIfInBounds_toArray, List.set_cons_zero, List.set_cons_succ])
      all_goals clear ho4
      all_goals first | (refine canon_ef ho5 rfl (fun K hK => ?_); go_simp; ((go_at_call 153; (with_reducible refine (hsc.out _).mono ?_); rintro e w1 ⟨rfl, hx1⟩)); all_goals (refine hK _ _ ⟨(by repeat (first | exact Ext.refl _ | assumption | refine Ext.drew ?_ | refine Ext.drewN ?_ _ | refine Ext.iter ?_ _ _ | refine Ext.alloc ?_ _ | refine Ext.setCell ?_ (by first | exact Nat.le_refl _ | (simp <;> omega)) _ | refine Ext.trans2 (by assumption) ?_)), ?_⟩; clear hK K; go_simp)) | (refine canon_ef ho5 rfl (fun K hK => ?_); go_simp; ((go_at_call 99; (with_reducible refine (l01In_c _ _ _ _).mono ?_); rintro e w2 ⟨⟨hP, rfl⟩ | ⟨hP, rfl⟩, rfl⟩)); all_goals (refine hK _ _ ⟨(by repeat (first | exact Ext.refl _ | assumption | refine Ext.drew ?_ | refine Ext.drewN ?_ _ | refine Ext.iter ?_ _ _ | refine Ext.alloc ?_ _ | refine Ext.setCell ?_ (by first | exact Nat.le_refl _ | (simp <;> omega)) _ | refine Ext.trans2 (by assumption) ?_)), ?_⟩; clear hK K; go_simp))
      all_goals clear ho5
      all_goals (apply canon_st ho6 rfl; (intro w2 hS; first | (go_simp; first | done | rfl) | rfl | (obtain ⟨hc, hf, hk, hz⟩ := ecell hS; go_simp; first | done | rfl)); simp only [Act.put, List.setIfInBounds_toArray, List.set_cons_zero, List.set_cons_succ])
      all_goals clear ho6
      all_goals first | (refine canon_ef ho7 rfl (fun K hK => ?_); go_simp; ((go_at_call 153; (with_reducible refine (hsc.out _).mono ?_); rintro e w1 ⟨rfl, hx1⟩)); all_goals (refine hK _ _ ⟨(by repeat (first | exact Ext.refl _ | assumption | refine Ext.drew ?_ | refine Ext.drewN ?_ _ | refine Ext.iter ?_ _ _ | refine Ext.alloc ?_ _ | refine Ext.setCell ?_ (by first | exact Nat.le_refl _ | (simp <;> omega)) _ | refine Ext.trans2 (by assumption) ?_)), ?_⟩; clear hK K; go_simp)) | (refine canon_ef ho7 rfl (fun K hK => ?_); go_simp; ((go_at_call 99; (with_reducible refine (l01In_c _ _ _ _).mono ?_); rintro e w2 ⟨⟨hP, rfl⟩ | ⟨hP, rfl⟩, rfl⟩)); all_goals (refine hK _ _ ⟨(by repeat (first | exact Ext.refl _ | assumption | refine Ext.drew ?_ | refine Ext.drewN ?_ _ | refine Ext.iter ?_ _ _ | refine Ext.alloc ?_ _ | refine Ext.setCell ?_ (by first | exact Nat.le_refl _ | (simp <;> omega)) _ | refine Ext.trans2 (by assumption) ?_)), ?_⟩; clear hK K; go_simp))
      all_goals clear ho7
      all_goals (apply canon_st ho8 rfl; (intro w2 hS; first | (go_simp; first | done | rfl) | rfl | (obtain ⟨hc, hf, hk, hz⟩ := ecell hS; go_simp; first | done | rfl)); simp only [Act.put, List.setIfInBounds_toArray, List.set_cons_zero, List.set_cons_succ])
      all_goals clear ho8
      all_goals refine canon_done (NoPanic.normal ?_)
      · go_wp2
        go_roundw
        case rel => exact ⟨j + 1, hlt, by go_num, Lib.hid (hst.out hP), hext.drew.trans hx1⟩
        case measure => simp [intOf]; omega
      · go_wp2
        go_ret
        exact ⟨isB_f (fun h => hP (hat.out h)), hx0.trans (hext.drew.trans hx1)⟩
    · obtain rfl : j = xs.length := by omega
      go_wp2
      go_ret
      exact ⟨isB_t (fun x hm => hT.out x (by rwa [List.take_length])), hx0.trans hext⟩
open Classical in
/-- The code of a field and elements, and their bits. -/
noncomputable def ebC (p k q : Int) (xs : List Int) : Int :=
  if ¬ fldOK p k q then 1 else if ¬ ((1 ≤ xs.length ∧ xs.length ≤ 1500) ∧ elOK (fldSize p k) xs) then 2 else if 8192 < xs.length * fW (fldSize p k) then 3 else if ¬ ∀ x ∈ xs, x < 2 ^ fW (fldSize p k) then 6 else 0
def bitsL (W : Nat) (xs : List Int) : List Int := xs.flatMap fun x => bitsOf x W
noncomputable def ebL (p k q : Int) (xs : List Int) : List Int := if ebC p k q xs = 0 then bitsL (fW (fldSize p k)) xs else []
theorem bitsL_snoc (W : Nat) {xs : List Int} {k : Nat} (hlt : k < xs.length) : bitsL W (xs.take (k + 1)) = bitsL W (xs.take k) ++ bitsOf (xs.getD k 0) W := by
  rw [List.take_add_one, List.getElem?_eq_getElem hlt, List.getD_eq_getElem?_getD, List.getElem?_eq_getElem hlt]
  unfold bitsL
  rw [List.flatMap_append]
  simp only [Option.toList_some, List.flatMap_cons, List.flatMap_nil, List.append_nil, Option.getD_some]
theorem bitsL_len (W : Nat) (xs : List Int) : (bitsL W xs).length = xs.length * W := by
  induction xs with
  | nil => simp [bitsL]
  | cons x xs ih =>
    have : bitsL W (x :: xs) = bitsOf x W ++ bitsL W xs := rfl
    rw [this, List.length_append, ih, bitsOf_len, List.length_cons, Nat.add_mul]
    simp
    omega
theorem bitsL_app (W : Nat) (xs ys : List Int) : bitsL W (xs ++ ys) = bitsL W xs ++ bitsL W ys := List.flatMap_append ..
theorem eb_1 {p k q : Int} {xs : List Int} (h1 : ¬ fldOK p k q) : ebC p k q xs = 1 ∧ ebL p k q xs = [] := by
  have : ebC p k q xs = 1 := by unfold ebC; rw [if_pos h1]
  exact ⟨this, by unfold ebL; rw [this]; rfl⟩
theorem eb_2 {p k q : Int} {xs : List Int} (h1 : fldOK p k q) (h2 : ¬ ((1 ≤ xs.length ∧ xs.length ≤ 1500) ∧ elOK (fldSize p k) xs)) : ebC p k q xs = 2 ∧ ebL p k q xs = [] := by
  have : ebC p k q xs = 2 := by unfold ebC; rw [if_neg (not_not_intro h1), if_pos h2]
  exact ⟨this, by unfold ebL; rw [this]; rfl⟩
theorem eb_3 {p k q : Int} {xs : List Int} (h1 : fldOK p k q) (h2 : (1 ≤ xs.length ∧ xs.length ≤ 1500) ∧ elOK (fldSize p k) xs) (h3 : 8192 < xs.length * fW (fldSize p k)) : ebC p k q xs = 3 ∧ ebL p k q xs = [] := by
  have : ebC p k q xs = 3 := by unfold ebC; rw [if_neg (not_not_intro h1), if_neg (not_not_intro h2), if_pos h3]
  exact ⟨this, by unfold ebL; rw [this]; rfl⟩
theorem eb_6 {p k q : Int} {xs : List Int} (h1 : fldOK p k q) (h2 : (1 ≤ xs.length ∧ xs.length ≤ 1500) ∧ elOK (fldSize p k) xs) (h3 : ¬ 8192 < xs.length * fW (fldSize p k)) (h4 : ¬ ∀ x ∈ xs, x < 2 ^ fW (fldSize p k)) : ebC p k q xs = 6 ∧ ebL p k q xs = [] := by
  have : ebC p k q xs = 6 := by unfold ebC; rw [if_neg (not_not_intro h1), if_neg (not_not_intro h2), if_neg h3, if_pos h4]
  exact ⟨this, by unfold ebL; rw [this]; rfl⟩
theorem eb_0 {p k q : Int} {xs : List Int} (h1 : fldOK p k q) (h2 : (1 ≤ xs.length ∧ xs.length ≤ 1500) ∧ elOK (fldSize p k) xs) (h3 : ¬ 8192 < xs.length * fW (fldSize p k)) (h4 : ∀ x ∈ xs, x < 2 ^ fW (fldSize p k)) : ebC p k q xs = 0 ∧ ebL p k q xs = bitsL (fW (fldSize p k)) xs := by
  have : ebC p k q xs = 0 := by unfold ebC; rw [if_neg (not_not_intro h1), if_neg (not_not_intro h2), if_neg h3, if_neg (not_not_intro h4)]
  exact ⟨this, by unfold ebL; rw [this]; rfl⟩
set_option maxHeartbeats 800000 in
set_option maxRecDepth 100000 in
theorem iElemBits_c (p k q : Int) (pt : Option Addr) (c : Nat) (xs : List Int) (w : World) (hx : IntsAt w pt xs) (hl : xs.length ≤ 1048576) :
    Calls Try.prog 78 #[vFld p k q, .slice pt xs.length c] w fun e w' => LC w.heap.size (ebL p k q xs) (ebC p k q xs) e w' ∧ Ext w w' := by
  have HX := Lib.hid hx; clear hx
  by_cases h1 : fldOK p k q
  · obtain ⟨hs, hk⟩ := fldSize_bd h1
    have hbd := fW_bd hs
    have hcalc := Lib.hid (fun W => calcOK_c p k q _ h1 rfl W)
    have hwd := Lib.hid (fun g W hq => width_c g (fldSize p k) W hq hs)
    by_cases h2 : (1 ≤ xs.length ∧ xs.length ≤ 1500) ∧ elOK (fldSize p k) xs
    · have hlen := h2.1
      have hel := h2.2
      have hal := Lib.hid (fun g p0 W hq hg (hX : IntsAt W p0 xs) => hasAll_c g (fldSize p k) p0 c xs W hq hg hs hX hl)
      have hW : 1 ≤ fW (fldSize p k) ∧ fW (fldSize p k) ≤ 9 := by omega
      by_cases h3 : 8192 < xs.length * fW (fldSize p k)
      · obtain ⟨c1, c2⟩ := eb_3 h1 h2 h3
        rw [c1, c2]
        clear c1 c2
        have h3' : (8192 : Int) < (xs.length : Int) * (fW (fldSize p k) : Int) := by exact_mod_cast h3
        have hm1 : (xs.length : Int) * (fW (fldSize p k) : Int) ≤ 13500 := by
          have : xs.length * fW (fldSize p k) ≤ 1500 * 9 := Nat.mul_le_mul (by omega) (by omega)
          exact_mod_cast this
        replace hel := Lib.hid hel
        clear h2 h3
        generalize fldSize p k = size at *
        generalize fW size = W at *
        obtain ⟨R, hR⟩ : ∃ R : Int, (xs.length : Int) * (W : Int) = R := ⟨_, rfl⟩
        rw [hR] at h3' hm1
        go_enter Try.func78, Try.ntmps78
        go_wp2_with (first
          | (go_at_call 84; (with_reducible refine (hcalc.out _).mono ?_); rintro e w1 ⟨⟨g, b, rfl, hcb⟩, hx1⟩; have qz := hcb.sizeCell; have ql := hcb.lt)
          | (go_at_call 85; (with_reducible refine (inRange_c _ _ _ _).mono ?_); rintro e w2 ⟨⟨hP, rfl⟩ | ⟨hP, rfl⟩, rfl⟩ <;> first | (exfalso; omega) | skip)
          | (go_at_call 156; (with_reducible refine (hal.out _ _ _ qz ql (HX.out.ext (by repeat (first | exact Ext.refl _ | assumption | refine Ext.drew ?_ | refine Ext.drewN ?_ _ | refine Ext.iter ?_ _ _ | refine Ext.alloc ?_ _ | refine Ext.setCell ?_ (by first | exact Nat.le_refl _ | (simp <;> omega)) _ | refine Ext.trans2 (by assumption) ?_)))).mono ?_); rintro e w3 ⟨⟨hP3, rfl⟩ | ⟨hP3, rfl⟩, hx3⟩ <;> (first | (exact absurd hP3 hel.out) | (exact absurd hel.out hP3) | skip); have qz3 := (hcb.ext hx3).sizeCell)
          | (go_at_call 86; (with_reducible refine (hwd.out _ _ qz3).mono ?_); rintro e w4 ⟨rfl, hx4⟩))
        go_ret2
        exact ⟨LC.nil, (by repeat (first | exact Ext.refl _ | assumption | refine Ext.drew ?_ | refine Ext.drewN ?_ _ | refine Ext.iter ?_ _ _ | refine Ext.alloc ?_ _ | refine Ext.setCell ?_ (by first | exact Nat.le_refl _ | (simp <;> omega)) _ | refine Ext.trans2 (by assumption) ?_))⟩
      · have h3' : (xs.length : Int) * (fW (fldSize p k) : Int) ≤ 8192 := by
          have : xs.length * fW (fldSize p k) ≤ 8192 := by omega
          exact_mod_cast this
        have e6 := Lib.hid (@eb_6 p k q xs h1 h2 h3)
        have e0 := Lib.hid (@eb_0 p k q xs h1 h2 h3)
        have hel0 := Lib.hid hel
        replace hel := Lib.hid hel
        generalize ebC p k q xs = C at *
        generalize ebL p k q xs = L at *
        clear h2
        generalize fldSize p k = size at *
        generalize fW size = W at *
        obtain ⟨R, hR⟩ : ∃ R : Nat, (xs.length : Int) * (W : Int) = (R : Int) := ⟨xs.length * W, by simp⟩
        have hRn : xs.length * W = R := by exact_mod_cast hR
        rw [hR] at h3'
        rw [hRn] at h3
        replace hRn := Lib.hid hRn
        have hI1 : Try.prog.underlying 26 = some (.slice 2) := by kernel_rfl
        have hI2 := infoInt
        have hR64 : (R : Int) ≤ 8192 := h3'
        go_enter Try.func78, Try.ntmps78
        go_wp2_with (first
          | (at_make; go_loud (refine make_cap hI1 hI2 R rfl rfl (by omega) (by omega) ?_))
          | (go_at_call 84; (with_reducible refine (hcalc.out _).mono ?_); rintro e w1 ⟨⟨g, b, rfl, hcb⟩, hx1⟩; have qz := hcb.sizeCell; have ql := hcb.lt)
          | (go_at_call 85; (with_reducible refine (inRange_c _ _ _ _).mono ?_); rintro e w2 ⟨⟨hP, rfl⟩ | ⟨hP, rfl⟩, rfl⟩ <;> first | (exfalso; omega) | skip)
          | (go_at_call 156; (with_reducible refine (hal.out _ _ _ qz ql (HX.out.ext (by repeat (first | exact Ext.refl _ | assumption | refine Ext.drew ?_ | refine Ext.drewN ?_ _ | refine Ext.iter ?_ _ _ | refine Ext.alloc ?_ _ | refine Ext.setCell ?_ (by first | exact Nat.le_refl _ | (simp <;> omega)) _ | refine Ext.trans2 (by assumption) ?_)))).mono ?_); rintro e w3 ⟨⟨hP3, rfl⟩ | ⟨hP3, rfl⟩, hx3⟩ <;> (first | (exact absurd hP3 hel.out) | (exact absurd hel.out hP3) | skip); have qz3 := (hcb.ext hx3).sizeCell)
          | (go_at_call 86; (with_reducible refine (hwd.out _ _ qz3).mono ?_); rintro e w4 ⟨rfl, hx4⟩))
        have hrow := RowI.room (B := w.heap.size) (w := w4) (by have := hx1.below.size; have := hx3.below.size; have := hx4.below.size; simp at *; omega) #[.int .i64 0] R rfl (by unfold maxLen; omega)
        have hx5 : Ext w (w4.alloc (.cells (madeCells #[.int .i64 0] R) 2)) := (by repeat (first | exact Ext.refl _ | assumption | refine Ext.drew ?_ | refine Ext.drewN ?_ _ | refine Ext.iter ?_ _ _ | refine Ext.alloc ?_ _ | refine Ext.setCell ?_ (by first | exact Nat.le_refl _ | (simp <;> omega)) _ | refine Ext.trans2 (by assumption) ?_))
        generalize w4.alloc (.cells (madeCells #[.int .i64 0] R) 2) = w5 at *
        clear hcb qz ql qz3 hx1 hx3 hx4 hI1 hI2 hcalc hwd hal
        go_loopw [9, 43] (fun o i wr => ∃ d : Nat, d ≤ xs.length ∧ i = .int .i64 d ∧ RowI w.heap.size wr o (bitsL W (xs.take d)) ∧ Hid (∀ x ∈ xs.take d, x < (2 : Int) ^ W) ∧ Ext w wr) (fun _ i _ => xs.length - (intOf i).toNat)
        case atStart => exact ⟨0, Nat.zero_le _, rfl, by simpa [bitsL] using hrow, Lib.hid (by simp), hx5⟩
        case round =>
          clear hrow hx5
          obtain ⟨d, hd, rfl, hown, hT, hext⟩ := hrel
          by_cases hlt : d < xs.length
          · obtain ⟨b2, o2, rfl, hb2, h12⟩ := (HX.out.ext hext) d hlt
            have hxb := all_at hlt hel.out
            have hsn := Lib.hid (bitsL_snoc W hlt)
            have hlt1 := Lib.hid (fun h2 => all_take (P := fun x => x < (2 : Int) ^ W) hlt hT.out h2)
            have hbl : (bitsL W (xs.take d)).length ≤ 8192 := by
              rw [bitsL_len, List.length_take, Nat.min_eq_left hd]
              have := Nat.mul_le_mul_right W hd
              have := hRn.out
              omega
            have hat := Lib.hid (fun (h : ∀ x ∈ xs, x < (2 : Int) ^ W) => all_at hlt h)
            generalize xs.getD d 0 = x at *
            generalize hBL : bitsL W (xs.take d) = BL at *
            replace hBL := Lib.hid hBL
            have hsz := hext.below.size
            have hvl := Lib.hid (fun k hk => (hown.lt k hk).1)
            have hpow : (0 : Int) < 2 ^ W := Int.pow_pos (by omega)
            by_cases hx2 : x < 2 ^ W
            · have hq0 : (x / 2 ^ W != 0) = false := by
                rw [Int.ediv_eq_zero_of_lt hxb.1 hx2]
                rfl
              clear hpow
              go_wp2_with (go_at_call 88; (with_reducible refine (iAppendNumber_c w.heap.size _ BL x (W : Int) _ hown hsz (by omega) (by omega) (by omega)).mono ?_); rintro e w6 ⟨v6, rfl, hown6, hG6⟩)
              go_roundw
              case rel => exact ⟨d + 1, hlt, by go_num, by rw [hsn.out]; exact hown6, Lib.hid (hlt1.out hx2), hG6.toExt hext hvl.out⟩
              case measure => simp [intOf]; omega
            · obtain ⟨c1, c2⟩ := e6.out (fun h => hx2 (hat.out h))
              subst c1 c2
              have hq0 : (x / 2 ^ W != 0) = true := by
                have : 1 ≤ x / 2 ^ W := by
                  rw [Int.le_ediv_iff_mul_le hpow]
                  omega
                simp
                omega
              clear hpow
              go_wp2
              go_ret2
              exact ⟨LC.nil, hext⟩
          · obtain rfl : d = xs.length := by omega
            rw [List.take_length] at hown
            obtain ⟨c1, c2⟩ := e0.out (by have := hT.out; rwa [List.take_length] at this)
            subst c1 c2
            go_wp2
            go_ret2
            exact ⟨LC.of hown, hext⟩
    · have hal2 := Lib.hid (fun g p0 W hq hg (hX : IntsAt W p0 xs) => hasAll_c g (fldSize p k) p0 c xs W hq hg hs hX hl)
      obtain ⟨c1, c2⟩ := eb_2 h1 h2
      rw [c1, c2]
      clear c1 c2 hwd hbd
      generalize fldSize p k = size at *
      by_cases h4 : 1 ≤ xs.length ∧ xs.length ≤ 1500
      · have h5 : ¬ elOK size xs := fun h => h2 ⟨h4, h⟩
        replace h5 := Lib.hid h5
        clear h2
        have h4' : 1 ≤ (xs.length : Int) ∧ (xs.length : Int) ≤ 1500 := by omega
        go_enter Try.func78, Try.ntmps78
        go_wp2_with (first
          | (go_at_call 84; (with_reducible refine (hcalc.out _).mono ?_); rintro e w1 ⟨⟨g, b, rfl, hcb⟩, hx1⟩; have qz := hcb.sizeCell; have ql := hcb.lt)
          | (go_at_call 85; (with_reducible refine (inRange_c _ _ _ _).mono ?_); rintro e w2 ⟨⟨hP, rfl⟩ | ⟨hP, rfl⟩, rfl⟩ <;> first | (exfalso; omega) | skip)
          | (go_at_call 156; (with_reducible refine (hal2.out _ _ _ qz ql (HX.out.ext (by repeat (first | exact Ext.refl _ | assumption | refine Ext.drew ?_ | refine Ext.drewN ?_ _ | refine Ext.iter ?_ _ _ | refine Ext.alloc ?_ _ | refine Ext.setCell ?_ (by first | exact Nat.le_refl _ | (simp <;> omega)) _ | refine Ext.trans2 (by assumption) ?_)))).mono ?_); rintro e w3 ⟨⟨hP3, rfl⟩ | ⟨hP3, rfl⟩, hx3⟩ <;> (first | (exact absurd hP3 h5.out) | skip)))
        go_ret2
        exact ⟨LC.nil, (by repeat (first | exact Ext.refl _ | assumption | refine Ext.drew ?_ | refine Ext.drewN ?_ _ | refine Ext.iter ?_ _ _ | refine Ext.alloc ?_ _ | refine Ext.setCell ?_ (by first | exact Nat.le_refl _ | (simp <;> omega)) _ | refine Ext.trans2 (by assumption) ?_))⟩
      · have h4' : ¬ (1 ≤ (xs.length : Int) ∧ (xs.length : Int) ≤ 1500) := by omega
        clear h2
        go_enter Try.func78, Try.ntmps78
        go_wp2_with (first
          | (go_at_call 84; (with_reducible refine (hcalc.out _).mono ?_); rintro e w1 ⟨⟨g, b, rfl, hcb⟩, hx1⟩; have qz := hcb.sizeCell; have ql := hcb.lt)
          | (go_at_call 85; (with_reducible refine (inRange_c _ _ _ _).mono ?_); rintro e w2 ⟨⟨hP, rfl⟩ | ⟨hP, rfl⟩, rfl⟩ <;> first | (exfalso; omega) | skip))
        go_ret2
        exact ⟨LC.nil, (by repeat (first | exact Ext.refl _ | assumption | refine Ext.drew ?_ | refine Ext.drewN ?_ _ | refine Ext.iter ?_ _ _ | refine Ext.alloc ?_ _ | refine Ext.setCell ?_ (by first | exact Nat.le_refl _ | (simp <;> omega)) _ | refine Ext.trans2 (by assumption) ?_))⟩
  · obtain ⟨c1, c2⟩ := eb_1 (xs := xs) h1
    rw [c1, c2]
    have hcn := Lib.hid (fun W => calcNo_c p k q h1 W)
    go_enter Try.func78, Try.ntmps78
    go_wp2_with (go_at_call 84; (with_reducible refine (hcn.out _).mono ?_); rintro e w1 ⟨⟨v, rfl⟩, hx1⟩)
    go_ret2
    exact ⟨LC.nil, (by repeat (first | exact Ext.refl _ | assumption | refine Ext.drew ?_ | refine Ext.drewN ?_ _ | refine Ext.iter ?_ _ _ | refine Ext.alloc ?_ _ | refine Ext.setCell ?_ (by first | exact Nat.le_refl _ | (simp <;> omega)) _ | refine Ext.trans2 (by assumption) ?_))⟩
theorem iElementBits_c (p k q : Int) (pt : Option Addr) (c : Nat) (xs : List Int) (w : World) (hx : IntsAt w pt xs) (hl : xs.length ≤ 1048576) :
    Calls Try.prog 30 #[vFld p k q, .slice pt xs.length c] w fun e w' => LC w.heap.size (ebL p k q xs) (ebC p k q xs) e w' ∧ Ext w w' := by
  have HX := Lib.hid hx; clear hx
  have hc := Lib.hid (fun W (h : IntsAt W pt xs) => iElemBits_c p k q pt c xs W h hl)
  generalize ebC p k q xs = C at *
  generalize ebL p k q xs = L at *
  go_enter Try.func30, Try.ntmps30
  go_wp2_with (go_at_call 78; (with_reducible refine (hc.out _ (HX.out.ext (by repeat (first | exact Ext.refl _ | assumption | refine Ext.drew ?_ | refine Ext.drewN ?_ _ | refine Ext.iter ?_ _ _ | refine Ext.alloc ?_ _ | refine Ext.setCell ?_ (by first | exact Nat.le_refl _ | (simp <;> omega)) _ | refine Ext.trans2 (by assumption) ?_)))).mono ?_); rintro e w1 ⟨⟨p1, c1, rfl, ho, hlc⟩, hx1⟩)
  go_ret2
  exact ⟨⟨p1, c1, rfl, ho.mono (by simp), hlc⟩, (by repeat (first | exact Ext.refl _ | assumption | refine Ext.drew ?_ | refine Ext.drewN ?_ _ | refine Ext.iter ?_ _ _ | refine Ext.alloc ?_ _ | refine Ext.setCell ?_ (by first | exact Nat.le_refl _ | (simp <;> omega)) _ | refine Ext.trans2 (by assumption) ?_))⟩

open Classical in
noncomputable def elC (p k q : Int) (xs : List Int) : Int := if ¬ fldOK p k q then 1 else if ¬ ((1 ≤ xs.length ∧ xs.length ≤ 1500) ∧ elOK (fldSize p k) xs) then 2 else 0
set_option maxRecDepth 100000 in
theorem l11Code_c (p k q : Int) (pt : Option Addr) (c : Nat) (xs : List Int) (w : World) (hx : IntsAt w pt xs) (hl : xs.length ≤ 1048576) :
    Calls Try.prog 203 #[vFld p k q, .slice pt xs.length c] w fun e w' => e = .returned (.int .i64 (elC p k q xs)) ∧ Ext w w' := by
  have HX := Lib.hid hx; clear hx
  have hf := Blk.new w #[.int .i64 p, .int .i64 k, .int .i64 q] 25
  by_cases h1 : fldOK p k q
  · have his := Lib.hid (fun W (h : IntsAt W pt xs) => l02Is_c p k q pt c xs W (fldSize_bd h1) h hl)
    have H1 := Lib.hid h1
    by_cases h2 : 1 ≤ xs.length ∧ xs.length ≤ 1500
    · have h2' : 1 ≤ (xs.length : Int) ∧ (xs.length : Int) ≤ 1500 := by omega
      have hc1 : elOK (fldSize p k) xs → elC p k q xs = 0 := fun h3 => by
        unfold elC
        rw [if_neg (not_not_intro h1), if_neg (not_not_intro ⟨h2, h3⟩)]
      have hc2 : ¬ elOK (fldSize p k) xs → elC p k q xs = 2 := fun h3 => by
        unfold elC
        rw [if_neg (not_not_intro h1), if_pos (fun h => h3 h.2)]
      generalize elC p k q xs = C at *
      replace hc1 := Lib.hid hc1; replace hc2 := Lib.hid hc2
      clear h1
      generalize fldSize p k = size at *
      go_enter Try.func203, Try.ntmps203
      go_wp2_with (first
        | (go_at_call 92; (with_reducible refine (sIsField_c _ _ _ _).mono ?_); rintro e w1 ⟨⟨hP1, rfl⟩ | ⟨hP1, rfl⟩, hx1⟩ <;> (first | exact absurd H1.out hP1 | skip); have hf1 := hf.ext hx1; have f0 := hf1.cell (i := 0) (v := .int .i64 p) rfl; have f1 := hf1.cell (i := 1) (v := .int .i64 k) rfl; have f2 := hf1.cell (i := 2) (v := .int .i64 q) rfl)
        | (go_at_call 93; (with_reducible refine (l11Capacity_c _ _).mono ?_); rintro e w2 ⟨⟨hP, rfl⟩ | ⟨hP, rfl⟩, rfl⟩ <;> (first | (exfalso; omega) | skip))
        | (go_at_call 243; (with_reducible refine (his.out _ (HX.out.ext (by repeat (first | exact Ext.refl _ | assumption | refine Ext.drew ?_ | refine Ext.drewN ?_ _ | refine Ext.iter ?_ _ _ | refine Ext.alloc ?_ _ | refine Ext.setCell ?_ (by first | exact Nat.le_refl _ | (simp <;> omega)) _ | refine Ext.trans2 (by assumption) ?_)))).mono ?_); rintro e w3 ⟨⟨hP3, rfl⟩ | ⟨hP3, rfl⟩, hx3⟩))
      · go_ret
        exact ⟨ret_int (hc1.out hP3).symm, (by repeat (first | exact Ext.refl _ | assumption | refine Ext.drew ?_ | refine Ext.drewN ?_ _ | refine Ext.iter ?_ _ _ | refine Ext.alloc ?_ _ | refine Ext.setCell ?_ (by first | exact Nat.le_refl _ | (simp <;> omega)) _ | refine Ext.trans2 (by assumption) ?_))⟩
      · go_ret
        exact ⟨ret_int (hc2.out hP3).symm, (by repeat (first | exact Ext.refl _ | assumption | refine Ext.drew ?_ | refine Ext.drewN ?_ _ | refine Ext.iter ?_ _ _ | refine Ext.alloc ?_ _ | refine Ext.setCell ?_ (by first | exact Nat.le_refl _ | (simp <;> omega)) _ | refine Ext.trans2 (by assumption) ?_))⟩
    · have h2' : ¬ (1 ≤ (xs.length : Int) ∧ (xs.length : Int) ≤ 1500) := by omega
      have hc : elC p k q xs = 2 := by
        unfold elC
        rw [if_neg (not_not_intro h1), if_pos (fun h => h2 h.1)]
      rw [hc]
      clear hc h1
      go_enter Try.func203, Try.ntmps203
      go_wp2_with (first
        | (go_at_call 92; (with_reducible refine (sIsField_c _ _ _ _).mono ?_); rintro e w1 ⟨⟨hP1, rfl⟩ | ⟨hP1, rfl⟩, hx1⟩ <;> (first | exact absurd H1.out hP1 | skip); have hf1 := hf.ext hx1; have f0 := hf1.cell (i := 0) (v := .int .i64 p) rfl; have f1 := hf1.cell (i := 1) (v := .int .i64 k) rfl; have f2 := hf1.cell (i := 2) (v := .int .i64 q) rfl)
        | (go_at_call 93; (with_reducible refine (l11Capacity_c _ _).mono ?_); rintro e w2 ⟨⟨hP, rfl⟩ | ⟨hP, rfl⟩, rfl⟩ <;> (first | (exfalso; omega) | skip)))
      go_ret
      exact ⟨rfl, (by repeat (first | exact Ext.refl _ | assumption | refine Ext.drew ?_ | refine Ext.drewN ?_ _ | refine Ext.iter ?_ _ _ | refine Ext.alloc ?_ _ | refine Ext.setCell ?_ (by first | exact Nat.le_refl _ | (simp <;> omega)) _ | refine Ext.trans2 (by assumption) ?_))⟩
  · have hc : elC p k q xs = 1 := by
      unfold elC
      rw [if_pos h1]
    rw [hc]
    clear hc
    replace h1 := Lib.hid h1
    go_enter Try.func203, Try.ntmps203
    go_wp2_with (go_at_call 92; (with_reducible refine (sIsField_c _ _ _ _).mono ?_); rintro e w1 ⟨⟨hP1, rfl⟩ | ⟨hP1, rfl⟩, hx1⟩ <;> (first | exact absurd hP1 h1.out | skip))
    go_ret
    exact ⟨rfl, (by repeat (first | exact Ext.refl _ | assumption | refine Ext.drew ?_ | refine Ext.drewN ?_ _ | refine Ext.iter ?_ _ _ | refine Ext.alloc ?_ _ | refine Ext.setCell ?_ (by first | exact Nat.le_refl _ | (simp <;> omega)) _ | refine Ext.trans2 (by assumption) ?_))⟩
end Go.Proofs.Ytbnpdpmbbppnhaa

/-! The reference's element bits. -/
namespace Go.Proofs.Ytbnpdpmbbppnhaa
set_option linter.unusedVariables false
set_option linter.unusedSimpArgs false
open Go.RowKit

set_option maxHeartbeats 800000 in
set_option maxRecDepth 100000 in
theorem sElementBits_c (p k q : Int) (pt : Option Addr) (c : Nat) (xs : List Int) (w : World) (hx : IntsAt w pt xs) (hl : xs.length ≤ 1048576) :
    Calls Try.prog 154 #[vFld p k q, .slice pt xs.length c] w fun e w' => LC w.heap.size (ebL p k q xs) (ebC p k q xs) e w' ∧ Ext w w' := by
  have HX := Lib.hid hx; clear hx
  have hf := Blk.new w #[.int .i64 p, .int .i64 k, .int .i64 q] 25
  have hx0 : Ext w (w.alloc (.cells #[.int .i64 p, .int .i64 k, .int .i64 q] 25)) := (Ext.refl w).alloc _
  have hco := Lib.hid (fun W (h : IntsAt W pt xs) => l11Code_c p k q pt c xs W h hl)
  by_cases h0 : elC p k q xs = 0
  · have h1 : fldOK p k q := by
      unfold elC at h0
      split at h0
      · omega
      · rename_i h; exact Classical.not_not.1 h
    have h2 : (1 ≤ xs.length ∧ xs.length ≤ 1500) ∧ elOK (fldSize p k) xs := by
      unfold elC at h0
      rw [if_neg (not_not_intro h1)] at h0
      split at h0
      · omega
      · rename_i h; exact Classical.not_not.1 h
    obtain ⟨hs, hk⟩ := fldSize_bd h1
    have hbd := fW_bd hs
    have hwd := Lib.hid (fun W => l11Width_c p k q W h1)
    have hlen := h2.1
    have hel := Lib.hid h2.2
    have hW : 1 ≤ fW (fldSize p k) ∧ fW (fldSize p k) ≤ 9 := by omega
    have hp10 : (1 : Int) ≤ 2 ^ fW (fldSize p k) ∧ (2 : Int) ^ fW (fldSize p k) ≤ 1021 := by
      have : (0 : Int) < 2 ^ fW (fldSize p k) := Int.pow_pos (by omega)
      omega
    rw [h0] at hco
    clear h0
    by_cases h3 : 8192 < xs.length * fW (fldSize p k)
    · obtain ⟨c1, c2⟩ := eb_3 h1 h2 h3
      rw [c1, c2]
      clear c1 c2
      have h3' : (8192 : Int) < (xs.length : Int) * (fW (fldSize p k) : Int) := by exact_mod_cast h3
      have hm1 : (xs.length : Int) * (fW (fldSize p k) : Int) ≤ 13500 := by
        have : xs.length * fW (fldSize p k) ≤ 1500 * 9 := Nat.mul_le_mul (by omega) (by omega)
        exact_mod_cast this
      clear h2 h3 h1 hp10
      generalize fldSize p k = size at *
      generalize fW size = W at *
      obtain ⟨R, hR⟩ : ∃ R : Int, (xs.length : Int) * (W : Int) = R := ⟨_, rfl⟩
      rw [hR] at h3' hm1
      go_enter Try.func154, Try.ntmps154
      go_wp2_with (first
        | (go_at_call 203; (with_reducible refine (hco.out _ (HX.out.ext (by repeat (first | exact Ext.refl _ | assumption | refine Ext.drew ?_ | refine Ext.drewN ?_ _ | refine Ext.iter ?_ _ _ | refine Ext.alloc ?_ _ | refine Ext.setCell ?_ (by first | exact Nat.le_refl _ | (simp <;> omega)) _ | refine Ext.trans2 (by assumption) ?_)))).mono ?_); rintro e w1 ⟨rfl, hx1⟩; have hf1 := hf.ext hx1; have f0 := hf1.cell (i := 0) (v := .int .i64 p) rfl; have f1 := hf1.cell (i := 1) (v := .int .i64 k) rfl; have f2 := hf1.cell (i := 2) (v := .int .i64 q) rfl)
        | (go_at_call 94; (with_reducible refine (hwd.out _).mono ?_); rintro e w2 ⟨rfl, hx2⟩))
      go_ret2
      exact ⟨LC.nil, (by repeat (first | exact Ext.refl _ | assumption | refine Ext.drew ?_ | refine Ext.drewN ?_ _ | refine Ext.iter ?_ _ _ | refine Ext.alloc ?_ _ | refine Ext.setCell ?_ (by first | exact Nat.le_refl _ | (simp <;> omega)) _ | refine Ext.trans2 (by assumption) ?_))⟩
    · have h3' : (xs.length : Int) * (fW (fldSize p k) : Int) ≤ 8192 := by
        have : xs.length * fW (fldSize p k) ≤ 8192 := by omega
        exact_mod_cast this
      have e6 := Lib.hid (@eb_6 p k q xs h1 h2 h3)
      have e0 := Lib.hid (@eb_0 p k q xs h1 h2 h3)
      generalize ebC p k q xs = C at *
      generalize ebL p k q xs = L at *
      clear h2 h1
      generalize fldSize p k = size at *
      generalize fW size = W at *
      obtain ⟨R, hR⟩ : ∃ R : Nat, (xs.length : Int) * (W : Int) = (R : Int) := ⟨xs.length * W, by simp⟩
      have hRn : xs.length * W = R := by exact_mod_cast hR
      rw [hR] at h3'
      rw [hRn] at h3
      replace hRn := Lib.hid hRn
      have hR64 : (R : Int) ≤ 8192 := h3'
      go_enter Try.func154, Try.ntmps154
      go_wp2_with (first
        | (go_at_call 203; (with_reducible refine (hco.out _ (HX.out.ext (by repeat (first | exact Ext.refl _ | assumption | refine Ext.drew ?_ | refine Ext.drewN ?_ _ | refine Ext.iter ?_ _ _ | refine Ext.alloc ?_ _ | refine Ext.setCell ?_ (by first | exact Nat.le_refl _ | (simp <;> omega)) _ | refine Ext.trans2 (by assumption) ?_)))).mono ?_); rintro e w1 ⟨rfl, hx1⟩; have hf1 := hf.ext hx1; have f0 := hf1.cell (i := 0) (v := .int .i64 p) rfl; have f1 := hf1.cell (i := 1) (v := .int .i64 k) rfl; have f2 := hf1.cell (i := 2) (v := .int .i64 q) rfl)
        | (go_at_call 94; (with_reducible refine (hwd.out _).mono ?_); rintro e w2 ⟨rfl, hx2⟩))
      have hrow := RowI.made (B := w.heap.size) (w := w2) (by have := hx1.below.size; have := hx2.below.size; simp at *; omega)
      have hx5 : Ext w (w2.alloc (.cells #[] 2)) := (by repeat (first | exact Ext.refl _ | assumption | refine Ext.drew ?_ | refine Ext.drewN ?_ _ | refine Ext.iter ?_ _ _ | refine Ext.alloc ?_ _ | refine Ext.setCell ?_ (by first | exact Nat.le_refl _ | (simp <;> omega)) _ | refine Ext.trans2 (by assumption) ?_))
      generalize w2.alloc (.cells #[] 2) = w5 at *
      clear hx1 hx2 hf1 f0 f1 f2 hwd hco
      go_loopw [8, 9] (fun o i wr => ∃ d : Nat, d ≤ xs.length ∧ i = .int .i64 d ∧ RowI w.heap.size wr o (bitsL W (xs.take d)) ∧ Hid (∀ x ∈ xs.take d, x < (2 : Int) ^ W) ∧ Ext w wr) (fun _ i _ => xs.length - (intOf i).toNat)
      case atStart => exact ⟨0, Nat.zero_le _, rfl, by simpa [bitsL] using hrow, Lib.hid (by simp), hx5⟩
      case round =>
        clear hrow hx5
        obtain ⟨d, hd, rfl, hown, hT, hext⟩ := hrel
        by_cases hlt : d < xs.length
        · obtain ⟨b2, o2, rfl, hb2, h12⟩ := (HX.out.ext hext) d hlt
          have hxb := all_at hlt hel.out
          have hsn := Lib.hid (bitsL_snoc W hlt)
          have hlt1 := Lib.hid (fun h2 => all_take (P := fun x => x < (2 : Int) ^ W) hlt hT.out h2)
          have hbl : (bitsL W (xs.take d)).length ≤ 8192 := by
            rw [bitsL_len, List.length_take, Nat.min_eq_left hd]
            have := Nat.mul_le_mul_right W hd
            have := hRn.out
            omega
          have hat := Lib.hid (fun (h : ∀ x ∈ xs, x < (2 : Int) ^ W) => all_at hlt h)
          generalize xs.getD d 0 = x at *
          generalize hBL : bitsL W (xs.take d) = BL at *
          replace hBL := Lib.hid hBL
          have hsz := hext.below.size
          obtain ⟨p4, c4, rfl, oq4⟩ := hown.own
          replace oq4 := Lib.hid oq4.ints
          by_cases hx2 : x < 2 ^ W
          · go_wp2_with (go_at_call 169; (with_reducible refine (sAppend_c p4 c4 BL x (W : Int) _ oq4.out (by omega) (by omega) (by omega)).mono ?_); rintro e w6 ⟨⟨v6, rfl, hown6⟩, hx6⟩)
            go_roundw
            case rel => exact ⟨d + 1, hlt, by go_num, by rw [hsn.out]; exact hown6.mono hsz, Lib.hid (hlt1.out hx2), hext.trans hx6⟩
            case measure => simp [intOf]; omega
          · obtain ⟨c1, c2⟩ := e6.out (fun h => hx2 (hat.out h))
            subst c1 c2
            go_wp2
            go_ret2
            exact ⟨LC.nil, hext⟩
        · obtain rfl : d = xs.length := by omega
          rw [List.take_length] at hown
          obtain ⟨c1, c2⟩ := e0.out (by have := hT.out; rwa [List.take_length] at this)
          subst c1 c2
          go_wp2
          go_ret2
          exact ⟨LC.of hown, hext⟩
  · have hc : ebC p k q xs = elC p k q xs ∧ ebL p k q xs = [] := by
      by_cases h1 : fldOK p k q
      · by_cases h2 : (1 ≤ xs.length ∧ xs.length ≤ 1500) ∧ elOK (fldSize p k) xs
        · exfalso
          apply h0
          unfold elC
          rw [if_neg (not_not_intro h1), if_neg (not_not_intro h2)]
        · obtain ⟨c1, c2⟩ := eb_2 h1 h2
          refine ⟨?_, c2⟩
          rw [c1]
          unfold elC
          rw [if_neg (not_not_intro h1), if_pos h2]
      · obtain ⟨c1, c2⟩ := eb_1 (xs := xs) h1
        refine ⟨?_, c2⟩
        rw [c1]
        unfold elC
        rw [if_pos h1]
    rw [hc.1, hc.2]
    clear hc
    generalize elC p k q xs = C at *
    have h0' : (C == 0) = false := by simpa using h0
    go_enter Try.func154, Try.ntmps154
    go_wp2_with (go_at_call 203; (with_reducible refine (hco.out _ (HX.out.ext (by repeat (first | exact Ext.refl _ | assumption | refine Ext.drew ?_ | refine Ext.drewN ?_ _ | refine Ext.iter ?_ _ _ | refine Ext.alloc ?_ _ | refine Ext.setCell ?_ (by first | exact Nat.le_refl _ | (simp <;> omega)) _ | refine Ext.trans2 (by assumption) ?_)))).mono ?_); rintro e w1 ⟨rfl, hx1⟩)
    go_ret2
    exact ⟨LC.nil, (by repeat (first | exact Ext.refl _ | assumption | refine Ext.drew ?_ | refine Ext.drewN ?_ _ | refine Ext.iter ?_ _ _ | refine Ext.alloc ?_ _ | refine Ext.setCell ?_ (by first | exact Nat.le_refl _ | (simp <;> omega)) _ | refine Ext.trans2 (by assumption) ?_))⟩
end Go.Proofs.Ytbnpdpmbbppnhaa

/-! Lists of segments that are read. -/
namespace Go.Proofs.Ytbnpdpmbbppnhaa
set_option linter.unusedVariables false
set_option linter.unusedSimpArgs false
open Go.RowKit

/-- The segments from the bit a on, and a code. -/
def segsR (xs : List Int) : Nat → Nat → Nat → List Sg × Int
  | 0, _, _ => ([], 0)
  | f + 1, a, tot => if a + 3 ≤ xs.length ∧ numAt xs a 3 ≠ 0 then
      match rdS xs a with
      | none => ([], 6)
      | some r => if 400 < tot + r.2.1.size then ([], 3) else
          if (segsR xs f r.2.2 (tot + r.2.1.size)).2 = 0 then ((r.1, r.2.1) :: (segsR xs f r.2.2 (tot + r.2.1.size)).1, 0) else ([], (segsR xs f r.2.2 (tot + r.2.1.size)).2)
    else ([], 0)
theorem segs_end {xs : List Int} {f a tot : Nat} (h : ¬ (a + 3 ≤ xs.length ∧ numAt xs a 3 ≠ 0)) : segsR xs f a tot = ([], 0) := by
  cases f with
  | zero => rfl
  | succ f => unfold segsR; rw [if_neg h]
theorem segs_bad {xs : List Int} {f a tot : Nat} (h : a + 3 ≤ xs.length ∧ numAt xs a 3 ≠ 0) (h2 : rdS xs a = none) : segsR xs (f + 1) a tot = ([], 6) := by
  unfold segsR
  rw [if_pos h, h2]
theorem segs_long {xs : List Int} {f a tot : Nat} {m : Int} {t : ByteArray} {b : Nat} (h : a + 3 ≤ xs.length ∧ numAt xs a 3 ≠ 0) (h2 : rdS xs a = some (m, t, b)) (h3 : 400 < tot + t.size) : segsR xs (f + 1) a tot = ([], 3) := by
  unfold segsR
  rw [if_pos h, h2]
  show (if 400 < tot + t.size then _ else _) = _
  rw [if_pos h3]
/-- A code's list behind a list. -/
def comb (acc : List Sg) (y : List Sg × Int) : List Sg × Int := if y.2 = 0 then (acc ++ y.1, 0) else ([], y.2)
theorem segs_go {xs : List Int} {f a tot : Nat} {m : Int} {t : ByteArray} {b : Nat} (h : a + 3 ≤ xs.length ∧ numAt xs a 3 ≠ 0) (h2 : rdS xs a = some (m, t, b)) (h3 : ¬ 400 < tot + t.size) : segsR xs (f + 1) a tot = comb [(m, t)] (segsR xs f b (tot + t.size)) := by
  conv => lhs; unfold segsR
  rw [if_pos h, h2]
  show (if 400 < tot + t.size then _ else _) = _
  rw [if_neg h3]
  rfl
theorem comb_comb (xs ys : List Sg) (y : List Sg × Int) : comb xs (comb ys y) = comb (xs ++ ys) y := by
  unfold comb
  by_cases h : y.2 = 0
  · rw [if_pos h, if_pos h, if_pos rfl, List.append_assoc]
  · rw [if_neg h, if_neg h, if_neg h]
theorem comb_nil (y : List Sg × Int) (h : y.2 ≠ 0 → y.1 = []) : comb [] y = y := by
  unfold comb
  obtain ⟨l, c⟩ := y
  by_cases h0 : c = 0
  · rw [if_pos h0]
    subst h0
    rfl
  · rw [if_neg h0]
    have : l = [] := h h0
    subst this
    rfl
theorem segs_nil (xs : List Int) : ∀ f a tot, (segsR xs f a tot).2 ≠ 0 → (segsR xs f a tot).1 = [] := fun f => by
  induction f with
  | zero => intro a tot h; exact absurd rfl h
  | succ f ih =>
    intro a tot h
    by_cases h1 : a + 3 ≤ xs.length ∧ numAt xs a 3 ≠ 0
    · cases h2 : rdS xs a with
      | none => rw [segs_bad h1 h2]
      | some r =>
        obtain ⟨m, t, b⟩ := r
        by_cases h3 : 400 < tot + t.size
        · rw [segs_long h1 h2 h3]
        · rw [segs_go h1 h2 h3] at h ⊢
          unfold comb at h ⊢
          split at h
          · exact absurd rfl h
          · rename_i h4
            rw [if_neg h4]
    · rw [segs_end h1]

/-- A list of segments and a code given back. -/
def SC (B : Nat) (Y : List Sg × Int) (e : Ending) (w' : World) : Prop := ∃ v, e = .returned (.tuple #[v, .int .i64 Y.2]) ∧ RowS 107 segF 2 B w' v Y.1
set_option maxHeartbeats 1600000 in
set_option maxRecDepth 100000 in
theorem iReadSegs_c (pt : Option Addr) (c : Nat) (xs : List Int) (a0 : Nat) (w : World) (hx : IntsAt w pt xs) (hc : xs.length ≤ c) (hl : xs.length ≤ 100000) (hb : ∀ x ∈ xs, x = 0 ∨ x = 1) (ha0 : a0 ≤ xs.length) :
    Calls Try.prog 79 #[.slice pt xs.length c, .int .i64 a0] w fun e w' => SC w.heap.size (segsR xs (xs.length + 1) a0 0) e w' ∧ Ext w w' := by
  have hI1 : Try.prog.underlying 31 = some (.slice 107) := by kernel_rfl
  have hI2 : (Try.prog.info? 107).map (fun i => (i.zero, i.size, i.bytes)) = some (some (.agg #[.int .i64 0, .string ByteArray.empty]), 2, 24) := by kernel_rfl
  have hl : xs.length ≤ 1048576 := by omega
  have hnum : ∀ (a : Nat) W, IntsAt W pt xs → a + 3 ≤ xs.length → Calls Try.prog 100 #[.slice pt xs.length c, .int .i64 a, .int .i64 3] W fun e w' => e = .returned (.int .i64 (numAt xs a 3)) ∧ W = w' := fun a W h ha => numberAt_c pt c xs a 3 W h hc hl hb (by omega) ha
  replace hnum := Lib.hid hnum
  have hrd := Lib.hid (fun a W (h : IntsAt W pt xs) (ha : a ≤ xs.length) => readSegment_c pt c xs a W h hc hl hb ha)
  have HX := Lib.hid hx; clear hx
  have hbk := Lib.hid (fun a m t b h => @rdS_back xs a m t b hb h)
  have HB := Lib.hid hb; clear hb
  have hA := comb_nil (segsR xs (xs.length + 1) a0 0) (segs_nil xs _ _ _)
  obtain ⟨Y, hY⟩ : ∃ Y, segsR xs (xs.length + 1) a0 0 = Y := ⟨_, rfl⟩
  have hA := Lib.hid (hA.trans hY)
  rw [hY]
  replace hY := Lib.hid hY
  go_enter Try.func79, Try.ntmps79
  go_wp2
  have hrow := RowS.made (f := segF) (k := 2) (B := w.heap.size) (w := w) 107 (Nat.le_refl _)
  have hx0 : Ext w (w.alloc (.cells #[] 107)) := (by repeat (first | exact Ext.refl _ | assumption | refine Ext.drew ?_ | refine Ext.drewN ?_ _ | refine Ext.iter ?_ _ _ | refine Ext.alloc ?_ _ | refine Ext.setCell ?_ (by first | exact Nat.le_refl _ | (simp <;> omega)) _ | refine Ext.trans2 (by assumption) ?_))
  generalize w.alloc (.cells #[] 107) = w0 at *
  go_loopw [6, 7, 1] (fun o t i wr => ∃ (a tot f : Nat) (acc : List Sg), i = .int .i64 a ∧ t = .int .i64 tot ∧ a ≤ xs.length ∧ xs.length < a + f ∧ tot ≤ 400 ∧ acc.length ≤ a ∧ Hid (comb acc (segsR xs f a tot) = Y) ∧ RowS 107 segF 2 w.heap.size wr o acc ∧ Ext w wr) (fun _ _ i _ => xs.length - (intOf i).toNat)
  case atStart => exact ⟨a0, 0, xs.length + 1, [], rfl, rfl, ha0, by omega, by omega, by simp, hA, hrow, hx0⟩
  case round =>
    clear hrow hx0 hA
    obtain ⟨a, tot, f, acc, rfl, rfl, ha, hf, htot, hal, hA, hown, hext⟩ := hrel
    obtain ⟨f', rfl⟩ : ∃ f', f = f' + 1 := ⟨f - 1, by omega⟩
    have hse := Lib.hid (@segs_end xs (f' + 1) a tot)
    have hsb := Lib.hid (@segs_bad xs f' a tot)
    have hsl := Lib.hid (fun m t b h1 h2 h3 => @segs_long xs f' a tot m t b h1 h2 h3)
    have hsg := Lib.hid (fun m t b h1 h2 h3 => @segs_go xs f' a tot m t b h1 h2 h3)
    have hsz := hext.below.size
    by_cases h3 : a + 3 ≤ xs.length
    · have hlt : (a : Int) + 3 ≤ xs.length := by omega
      by_cases hm : numAt xs a 3 = 0
      · have hn := Lib.hid (fun W h => hnum.out a W h h3)
        rw [hm] at hn
        have hY2 := hA.out
        rw [hse.out (fun h => h.2 hm)] at hY2
        have hY3 : Y = (acc, 0) := by rw [← hY2]; simp [comb]
        subst hY3
        clear hY2
        go_wp2_with (go_at_call 100; (with_reducible refine (hn.out _ (HX.out.ext hext)).mono ?_); rintro e w1 ⟨rfl, rfl⟩)
        go_ret2
        exact ⟨⟨_, rfl, hown⟩, hext⟩
      · have hn := Lib.hid (fun W h => hnum.out a W h h3)
        have hmb : (numAt xs a 3 == 0) = false := by simpa using hm
        have hm' := Lib.hid hm
        have hr := Lib.hid (fun W h => hrd.out a W h ha)
        generalize hM : numAt xs a 3 = M at *
        clear hnum hrd
        go_wp2_with (first
          | (go_at_call 100; (with_reducible refine (hn.out _ (HX.out.ext hext)).mono ?_); rintro e w1 ⟨rfl, rfl⟩)
          | (go_at_call 157; (with_reducible refine (hr.out _ (HX.out.ext hext)).mono ?_); rintro e w2 ⟨⟨m, t, b, hS, rfl⟩ | ⟨hS, rfl⟩, hx2⟩ <;> first | (obtain ⟨hIS, hb11, hbl, _⟩ := hbk.out _ _ _ _ hS; have htz : t.size ≤ 255 := hIS.2.1.2; have hown2 := (hown.ext hx2).alloc (.cells #[.int .i64 m, .string t] 107); have hz2 := hx2.below.size; replace hS := Lib.hid hS; clear hIS; obtain ⟨T, hT⟩ : ∃ T : Nat, tot + t.size = T := ⟨_, rfl⟩; have hTi : (tot : Int) + t.size = (T : Int) := (by omega); have hTb : T ≤ 700 := (by omega); replace hT := Lib.hid hT; rcases Nat.lt_or_ge 400 T with h4 | h4 <;> (have h4i := Int.ofNat_le.2 h4; try simp at h4i)) | (replace hS := Lib.hid hS))
          | (at_builtin; go_loud (refine append1S hI1 hI2 rfl (by omega) (by omega) segF_len segF_one (n := (m, t)) hown2 (by omega) (by simp; omega) rfl ?_ rfl (by simp [Act.eval])); intro v1 w6 hown6 hlow6))
        · have hY2 := hA.out
          rw [hsl.out m t b ⟨h3, hm'.out⟩ hS.out (by rw [hT.out]; exact h4)] at hY2
          have hY3 : Y = ([], 3) := by rw [← hY2]; rfl
          subst hY3
          go_ret2
          exact ⟨⟨_, rfl, RowS.nil _ _ _⟩, (by repeat (first | exact Ext.refl _ | assumption | refine Ext.drew ?_ | refine Ext.drewN ?_ _ | refine Ext.iter ?_ _ _ | refine Ext.alloc ?_ _ | refine Ext.setCell ?_ (by first | exact Nat.le_refl _ | (simp <;> omega)) _ | refine Ext.trans2 (by assumption) ?_))⟩
        · have hY2 := hA.out
          rw [hsg.out m t b ⟨h3, hm'.out⟩ hS.out (by rw [hT.out]; omega), comb_comb, hT.out] at hY2
          go_roundw
          case rel => exact ⟨b, T, f', acc ++ [(m, t)], rfl, by go_num, hbl, by omega, h4, by simp; omega, Lib.hid hY2, hown6, ((hext.trans hx2).alloc _).low hlow6 (Nat.le_refl _)⟩
          case measure => simp [intOf]; omega
        · have hY2 := hA.out
          rw [hsb.out ⟨h3, hm'.out⟩ hS.out] at hY2
          have hY3 : Y = ([], 6) := by rw [← hY2]; rfl
          subst hY3
          go_ret2
          exact ⟨⟨_, rfl, RowS.nil _ _ _⟩, (by repeat (first | exact Ext.refl _ | assumption | refine Ext.drew ?_ | refine Ext.drewN ?_ _ | refine Ext.iter ?_ _ _ | refine Ext.alloc ?_ _ | refine Ext.setCell ?_ (by first | exact Nat.le_refl _ | (simp <;> omega)) _ | refine Ext.trans2 (by assumption) ?_))⟩
    · have hlt : ¬ (a : Int) + 3 ≤ xs.length := by omega
      have hY2 := hA.out
      rw [hse.out (fun h => h3 h.1)] at hY2
      have hY3 : Y = (acc, 0) := by rw [← hY2]; simp [comb]
      subst hY3
      clear hY2
      go_wp2
      go_ret2
      exact ⟨⟨_, rfl, hown⟩, hext⟩
set_option maxHeartbeats 1600000 in
set_option maxRecDepth 100000 in
theorem l11Segments_c (pt : Option Addr) (c : Nat) (xs : List Int) (a0 : Nat) (w : World) (hx : IntsAt w pt xs) (hc : xs.length ≤ c) (hl : xs.length ≤ 100000) (hb : ∀ x ∈ xs, x = 0 ∨ x = 1) (ha0 : a0 ≤ xs.length) :
    Calls Try.prog 155 #[.slice pt xs.length c, .int .i64 a0] w fun e w' => SC w.heap.size (segsR xs (xs.length + 1) a0 0) e w' ∧ Ext w w' := by
  have hI1 : Try.prog.underlying 31 = some (.slice 107) := by kernel_rfl
  have hI2 : (Try.prog.info? 107).map (fun i => (i.zero, i.size, i.bytes)) = some (some (.agg #[.int .i64 0, .string ByteArray.empty]), 2, 24) := by kernel_rfl
  have hl : xs.length ≤ 1048576 := by omega
  have hnum : ∀ (a : Nat) W, IntsAt W pt xs → a + 3 ≤ xs.length → Calls Try.prog 172 #[.slice pt xs.length c, .int .i64 a, .int .i64 3] W fun e w' => e = .returned (.int .i64 (numAt xs a 3)) ∧ W = w' := fun a W h ha => l01Number_c pt c xs a 3 W h hl hb (by omega) ha
  replace hnum := Lib.hid hnum
  have hrd := Lib.hid (fun a W (h : IntsAt W pt xs) (ha : a ≤ xs.length) => l09Read_c pt c xs a W h hl hb ha)
  have HX := Lib.hid hx; clear hx
  have hbk := Lib.hid (fun a m t b h => @rdS_back xs a m t b hb h)
  have HB := Lib.hid hb; clear hb
  have hA := comb_nil (segsR xs (xs.length + 1) a0 0) (segs_nil xs _ _ _)
  obtain ⟨Y, hY⟩ : ∃ Y, segsR xs (xs.length + 1) a0 0 = Y := ⟨_, rfl⟩
  have hA := Lib.hid (hA.trans hY)
  rw [hY]
  replace hY := Lib.hid hY
  go_enter Try.func155, Try.ntmps155
  go_wp2
  have hrow := RowS.made (f := segF) (k := 2) (B := w.heap.size) (w := w) 107 (Nat.le_refl _)
  have hx0 : Ext w (w.alloc (.cells #[] 107)) := (by repeat (first | exact Ext.refl _ | assumption | refine Ext.drew ?_ | refine Ext.drewN ?_ _ | refine Ext.iter ?_ _ _ | refine Ext.alloc ?_ _ | refine Ext.setCell ?_ (by first | exact Nat.le_refl _ | (simp <;> omega)) _ | refine Ext.trans2 (by assumption) ?_))
  generalize w.alloc (.cells #[] 107) = w0 at *
  go_loopw [6, 7, 1] (fun o t i wr => ∃ (a tot f : Nat) (acc : List Sg), i = .int .i64 a ∧ t = .int .i64 tot ∧ a ≤ xs.length ∧ xs.length < a + f ∧ tot ≤ 400 ∧ acc.length ≤ a ∧ Hid (comb acc (segsR xs f a tot) = Y) ∧ RowS 107 segF 2 w.heap.size wr o acc ∧ Ext w wr) (fun _ _ i _ => xs.length - (intOf i).toNat)
  case atStart => exact ⟨a0, 0, xs.length + 1, [], rfl, rfl, ha0, by omega, by omega, by simp, hA, hrow, hx0⟩
  case round =>
    clear hrow hx0 hA
    obtain ⟨a, tot, f, acc, rfl, rfl, ha, hf, htot, hal, hA, hown, hext⟩ := hrel
    obtain ⟨f', rfl⟩ : ∃ f', f = f' + 1 := ⟨f - 1, by omega⟩
    have hse := Lib.hid (@segs_end xs (f' + 1) a tot)
    have hsb := Lib.hid (@segs_bad xs f' a tot)
    have hsl := Lib.hid (fun m t b h1 h2 h3 => @segs_long xs f' a tot m t b h1 h2 h3)
    have hsg := Lib.hid (fun m t b h1 h2 h3 => @segs_go xs f' a tot m t b h1 h2 h3)
    have hsz := hext.below.size
    by_cases h3 : a + 3 ≤ xs.length
    · have hlt : (a : Int) + 3 ≤ xs.length := by omega
      by_cases hm : numAt xs a 3 = 0
      · have hn := Lib.hid (fun W h => hnum.out a W h h3)
        rw [hm] at hn
        have hY2 := hA.out
        rw [hse.out (fun h => h.2 hm)] at hY2
        have hY3 : Y = (acc, 0) := by rw [← hY2]; simp [comb]
        subst hY3
        clear hY2
        go_wp2_with (go_at_call 172; (with_reducible refine (hn.out _ (HX.out.ext hext)).mono ?_); rintro e w1 ⟨rfl, rfl⟩)
        go_ret2
        exact ⟨⟨_, rfl, hown⟩, hext⟩
      · have hn := Lib.hid (fun W h => hnum.out a W h h3)
        have hmb : (numAt xs a 3 == 0) = false := by simpa using hm
        have hm' := Lib.hid hm
        have hr := Lib.hid (fun W h => hrd.out a W h ha)
        generalize hM : numAt xs a 3 = M at *
        clear hnum hrd
        go_wp2_with (first
          | (go_at_call 172; (with_reducible refine (hn.out _ (HX.out.ext hext)).mono ?_); rintro e w1 ⟨rfl, rfl⟩)
          | (go_at_call 204; (with_reducible refine (hr.out _ (HX.out.ext hext)).mono ?_); rintro e w2 ⟨⟨m, t, b, hS, rfl⟩ | ⟨hS, rfl⟩, hx2⟩ <;> first | (obtain ⟨hIS, hb11, hbl, _⟩ := hbk.out _ _ _ _ hS; have htz : t.size ≤ 255 := hIS.2.1.2; have hown2 := (hown.ext hx2).alloc (.cells #[.int .i64 m, .string t] 107); have hz2 := hx2.below.size; replace hS := Lib.hid hS; clear hIS; obtain ⟨T, hT⟩ : ∃ T : Nat, tot + t.size = T := ⟨_, rfl⟩; have hTi : (tot : Int) + t.size = (T : Int) := (by omega); have hTb : T ≤ 700 := (by omega); replace hT := Lib.hid hT; rcases Nat.lt_or_ge 400 T with h4 | h4 <;> (have h4i := Int.ofNat_le.2 h4; try simp at h4i)) | (replace hS := Lib.hid hS))
          | (at_builtin; go_loud (refine append1S hI1 hI2 rfl (by omega) (by omega) segF_len segF_one (n := (m, t)) hown2 (by omega) (by simp; omega) rfl ?_ rfl (by simp [Act.eval])); intro v1 w6 hown6 hlow6))
        · have hY2 := hA.out
          rw [hsl.out m t b ⟨h3, hm'.out⟩ hS.out (by rw [hT.out]; exact h4)] at hY2
          have hY3 : Y = ([], 3) := by rw [← hY2]; rfl
          subst hY3
          go_ret2
          exact ⟨⟨_, rfl, RowS.nil _ _ _⟩, (by repeat (first | exact Ext.refl _ | assumption | refine Ext.drew ?_ | refine Ext.drewN ?_ _ | refine Ext.iter ?_ _ _ | refine Ext.alloc ?_ _ | refine Ext.setCell ?_ (by first | exact Nat.le_refl _ | (simp <;> omega)) _ | refine Ext.trans2 (by assumption) ?_))⟩
        · have hY2 := hA.out
          rw [hsg.out m t b ⟨h3, hm'.out⟩ hS.out (by rw [hT.out]; omega), comb_comb, hT.out] at hY2
          go_roundw
          case rel => exact ⟨b, T, f', acc ++ [(m, t)], rfl, by go_num, hbl, by omega, h4, by simp; omega, Lib.hid hY2, hown6, ((hext.trans hx2).alloc _).low hlow6 (Nat.le_refl _)⟩
          case measure => simp [intOf]; omega
        · have hY2 := hA.out
          rw [hsb.out ⟨h3, hm'.out⟩ hS.out] at hY2
          have hY3 : Y = ([], 6) := by rw [← hY2]; rfl
          subst hY3
          go_ret2
          exact ⟨⟨_, rfl, RowS.nil _ _ _⟩, (by repeat (first | exact Ext.refl _ | assumption | refine Ext.drew ?_ | refine Ext.drewN ?_ _ | refine Ext.iter ?_ _ _ | refine Ext.alloc ?_ _ | refine Ext.setCell ?_ (by first | exact Nat.le_refl _ | (simp <;> omega)) _ | refine Ext.trans2 (by assumption) ?_))⟩
    · have hlt : ¬ (a : Int) + 3 ≤ xs.length := by omega
      have hY2 := hA.out
      rw [hse.out (fun h => h3 h.1)] at hY2
      have hY3 : Y = (acc, 0) := by rw [← hY2]; simp [comb]
      subst hY3
      clear hY2
      go_wp2
      go_ret2
      exact ⟨⟨_, rfl, hown⟩, hext⟩
end Go.Proofs.Ytbnpdpmbbppnhaa

/-! Payloads that are read. -/
namespace Go.Proofs.Ytbnpdpmbbppnhaa
set_option linter.unusedVariables false
set_option linter.unusedSimpArgs false
open Go.RowKit

theorem foldl_join (xs : List Sg) : ∀ a : ByteArray, xs.foldl (fun a x => a ++ x.2) a = a ++ joined xs := by
  induction xs with
  | nil => intro a; simp [joined]
  | cons x xs ih =>
    intro a
    have e1 : joined (x :: xs) = xs.foldl (fun a x => a ++ x.2) (ByteArray.empty ++ x.2) := rfl
    rw [e1, List.foldl_cons, ih, ih, ByteArray.empty_append, ByteArray.append_assoc]
theorem joined_len (xs : List Sg) (h : segsOK xs) : xs.length ≤ (joined xs).size := by
  induction xs with
  | nil => simp
  | cons x xs ih =>
    have h1 := (h x (List.mem_cons_self ..)).2.1.1
    have h2 := ih (fun y hy => h y (List.mem_cons_of_mem _ hy))
    rw [joined_cons, ByteArray.size_append, List.length_cons]
    omega
theorem segs_ok {xs : List Int} (hb : ∀ x ∈ xs, x = 0 ∨ x = 1) : ∀ f a tot, tot ≤ 400 → segsOK (segsR xs f a tot).1 ∧ (joined (segsR xs f a tot).1).size + tot ≤ 400 := fun f => by
  have hnil : ∀ tot, tot ≤ 400 → segsOK [] ∧ (joined []).size + tot ≤ 400 := fun tot h => ⟨fun x hx => by simp at hx, by simpa [joined] using h⟩
  induction f with
  | zero => intro a tot h; exact hnil tot h
  | succ f ih =>
    intro a tot h
    by_cases h1 : a + 3 ≤ xs.length ∧ numAt xs a 3 ≠ 0
    · cases h2 : rdS xs a with
      | none => rw [segs_bad h1 h2]; exact hnil tot h
      | some r =>
        obtain ⟨m, t, b⟩ := r
        by_cases h3 : 400 < tot + t.size
        · rw [segs_long h1 h2 h3]; exact hnil tot h
        · rw [segs_go h1 h2 h3]
          obtain ⟨i1, i2⟩ := ih b (tot + t.size) (by omega)
          unfold comb
          split
          · refine ⟨fun x hx => ?_, ?_⟩
            · rcases List.mem_cons.1 hx with rfl | hx
              · exact (rdS_back hb h2).1
              · exact i1 x hx
            · show (joined ((m, t) :: _)).size + tot ≤ 400
              rw [joined_cons, ByteArray.size_append]
              have i3 : (joined (segsR xs f b (tot + t.size)).1).size + (tot + t.size) ≤ 400 := i2
              show t.size + (joined (segsR xs f b (tot + t.size)).1).size + tot ≤ 400
              omega
          · exact hnil tot h
    · rw [segs_end h1]; exact hnil tot h

theorem bitsOf_bit0 (n wd : Int) : ∀ x ∈ bitsOf n wd, x = 0 ∨ x = 1 := fun x hx => by
  simp only [bitsOf, List.mem_map] at hx
  obtain ⟨j, _, rfl⟩ := hx
  omega
theorem bitsL_bit {W : Nat} {xs : List Int} : ∀ x ∈ bitsL W xs, x = 0 ∨ x = 1 := fun x hx => by
  simp only [bitsL, List.mem_flatMap] at hx
  obtain ⟨y, _, hy⟩ := hx
  exact bitsOf_bit0 y W x hy
theorem ebL_ok (p k q : Int) (xs : List Int) : (∀ x ∈ ebL p k q xs, x = 0 ∨ x = 1) ∧ (ebL p k q xs).length ≤ 8192 := by
  unfold ebL
  split
  · rename_i h
    refine ⟨bitsL_bit, ?_⟩
    rw [bitsL_len]
    unfold ebC at h
    split at h
    · omega
    split at h
    · omega
    split at h
    · omega
    · omega
  · simp
/-- What PayloadSegments answers. -/
noncomputable def psgR (p k q : Int) (xs : List Int) : List Sg × Int := if ebC p k q xs = 0 then segsR (ebL p k q xs) ((ebL p k q xs).length + 1) 0 0 else ([], ebC p k q xs)
set_option maxRecDepth 100000 in
theorem iPayloadSegs_c (p k q : Int) (pt : Option Addr) (c : Nat) (xs : List Int) (w : World) (hx : IntsAt w pt xs) (hl : xs.length ≤ 1048576) :
    Calls Try.prog 16 #[vFld p k q, .slice pt xs.length c] w fun e w' => SC w.heap.size (psgR p k q xs) e w' ∧ Ext w w' := by
  have HX := Lib.hid hx; clear hx
  have hc := Lib.hid (fun W (h : IntsAt W pt xs) => iElemBits_c p k q pt c xs W h hl)
  obtain ⟨hLb, hLl⟩ := ebL_ok p k q xs
  by_cases h0 : ebC p k q xs = 0
  · have hr : psgR p k q xs = segsR (ebL p k q xs) ((ebL p k q xs).length + 1) 0 0 := if_pos h0
    rw [hr]
    rw [h0] at hc
    clear hr h0
    generalize ebL p k q xs = L at *
    have hrs : ∀ (p1 : Option Addr) (c1 : Nat) W, IntsAt W p1 L → L.length ≤ c1 → Calls Try.prog 79 #[.slice p1 L.length c1, .int .i64 0] W fun e w' => SC W.heap.size (segsR L (L.length + 1) 0 0) e w' ∧ Ext W w' := fun p1 c1 W h hc => iReadSegs_c p1 c1 L 0 W h hc (by omega) hLb (Nat.zero_le _)
    replace hrs := Lib.hid hrs
    replace hLb := Lib.hid hLb
    generalize segsR L (L.length + 1) 0 0 = Y at *
    go_enter Try.func16, Try.ntmps16
    go_wp2_with (first
      | (go_at_call 78; (with_reducible refine (hc.out _ (HX.out.ext (by repeat (first | exact Ext.refl _ | assumption | refine Ext.drew ?_ | refine Ext.drewN ?_ _ | refine Ext.iter ?_ _ _ | refine Ext.alloc ?_ _ | refine Ext.setCell ?_ (by first | exact Nat.le_refl _ | (simp <;> omega)) _ | refine Ext.trans2 (by assumption) ?_)))).mono ?_); rintro e w1 ⟨⟨p1, c1, rfl, ho, hlc⟩, hx1⟩; have hz1 := hx1.below.size; replace ho := Lib.hid ho.ints)
      | (go_at_call 79; (with_reducible refine (hrs.out _ _ _ ho.out hlc).mono ?_); rintro e w2 ⟨⟨v, rfl, hrow⟩, hx2⟩))
    go_ret2
    exact ⟨⟨v, rfl, hrow.mono (by simp at hz1; omega)⟩, (by repeat (first | exact Ext.refl _ | assumption | refine Ext.drew ?_ | refine Ext.drewN ?_ _ | refine Ext.iter ?_ _ _ | refine Ext.alloc ?_ _ | refine Ext.setCell ?_ (by first | exact Nat.le_refl _ | (simp <;> omega)) _ | refine Ext.trans2 (by assumption) ?_))⟩
  · have hr : psgR p k q xs = ([], ebC p k q xs) := if_neg h0
    rw [hr]
    clear hr
    generalize ebC p k q xs = C at *
    generalize ebL p k q xs = L at *
    have h0' : (C == 0) = false := by simpa using h0
    go_enter Try.func16, Try.ntmps16
    go_wp2_with (go_at_call 78; (with_reducible refine (hc.out _ (HX.out.ext (by repeat (first | exact Ext.refl _ | assumption | refine Ext.drew ?_ | refine Ext.drewN ?_ _ | refine Ext.iter ?_ _ _ | refine Ext.alloc ?_ _ | refine Ext.setCell ?_ (by first | exact Nat.le_refl _ | (simp <;> omega)) _ | refine Ext.trans2 (by assumption) ?_)))).mono ?_); rintro e w1 ⟨⟨p1, c1, rfl, ho, hlc⟩, hx1⟩)
    go_ret2
    exact ⟨⟨_, rfl, RowS.nil _ _ _⟩, (by repeat (first | exact Ext.refl _ | assumption | refine Ext.drew ?_ | refine Ext.drewN ?_ _ | refine Ext.iter ?_ _ _ | refine Ext.alloc ?_ _ | refine Ext.setCell ?_ (by first | exact Nat.le_refl _ | (simp <;> omega)) _ | refine Ext.trans2 (by assumption) ?_))⟩
set_option maxRecDepth 100000 in
theorem sPayloadSegs_c (p k q : Int) (pt : Option Addr) (c : Nat) (xs : List Int) (w : World) (hx : IntsAt w pt xs) (hl : xs.length ≤ 1048576) :
    Calls Try.prog 76 #[vFld p k q, .slice pt xs.length c] w fun e w' => SC w.heap.size (psgR p k q xs) e w' ∧ Ext w w' := by
  have HX := Lib.hid hx; clear hx
  have hc := Lib.hid (fun W (h : IntsAt W pt xs) => sElementBits_c p k q pt c xs W h hl)
  obtain ⟨hLb, hLl⟩ := ebL_ok p k q xs
  by_cases h0 : ebC p k q xs = 0
  · have hr : psgR p k q xs = segsR (ebL p k q xs) ((ebL p k q xs).length + 1) 0 0 := if_pos h0
    rw [hr]
    rw [h0] at hc
    clear hr h0
    generalize ebL p k q xs = L at *
    have hrs : ∀ (p1 : Option Addr) (c1 : Nat) W, IntsAt W p1 L → L.length ≤ c1 → Calls Try.prog 155 #[.slice p1 L.length c1, .int .i64 0] W fun e w' => SC W.heap.size (segsR L (L.length + 1) 0 0) e w' ∧ Ext W w' := fun p1 c1 W h hc => l11Segments_c p1 c1 L 0 W h hc (by omega) hLb (Nat.zero_le _)
    replace hrs := Lib.hid hrs
    replace hLb := Lib.hid hLb
    generalize segsR L (L.length + 1) 0 0 = Y at *
    go_enter Try.func76, Try.ntmps76
    go_wp2_with (first
      | (go_at_call 154; (with_reducible refine (hc.out _ (HX.out.ext (by repeat (first | exact Ext.refl _ | assumption | refine Ext.drew ?_ | refine Ext.drewN ?_ _ | refine Ext.iter ?_ _ _ | refine Ext.alloc ?_ _ | refine Ext.setCell ?_ (by first | exact Nat.le_refl _ | (simp <;> omega)) _ | refine Ext.trans2 (by assumption) ?_)))).mono ?_); rintro e w1 ⟨⟨p1, c1, rfl, ho, hlc⟩, hx1⟩; have hz1 := hx1.below.size; replace ho := Lib.hid ho.ints)
      | (go_at_call 155; (with_reducible refine (hrs.out _ _ _ ho.out hlc).mono ?_); rintro e w2 ⟨⟨v, rfl, hrow⟩, hx2⟩))
    go_ret2
    exact ⟨⟨v, rfl, hrow.mono (by simp at hz1; omega)⟩, (by repeat (first | exact Ext.refl _ | assumption | refine Ext.drew ?_ | refine Ext.drewN ?_ _ | refine Ext.iter ?_ _ _ | refine Ext.alloc ?_ _ | refine Ext.setCell ?_ (by first | exact Nat.le_refl _ | (simp <;> omega)) _ | refine Ext.trans2 (by assumption) ?_))⟩
  · have hr : psgR p k q xs = ([], ebC p k q xs) := if_neg h0
    rw [hr]
    clear hr
    generalize ebC p k q xs = C at *
    generalize ebL p k q xs = L at *
    have h0' : (C == 0) = false := by simpa using h0
    go_enter Try.func76, Try.ntmps76
    go_wp2_with (go_at_call 154; (with_reducible refine (hc.out _ (HX.out.ext (by repeat (first | exact Ext.refl _ | assumption | refine Ext.drew ?_ | refine Ext.drewN ?_ _ | refine Ext.iter ?_ _ _ | refine Ext.alloc ?_ _ | refine Ext.setCell ?_ (by first | exact Nat.le_refl _ | (simp <;> omega)) _ | refine Ext.trans2 (by assumption) ?_)))).mono ?_); rintro e w1 ⟨⟨p1, c1, rfl, ho, hlc⟩, hx1⟩)
    go_ret2
    exact ⟨⟨_, rfl, RowS.nil _ _ _⟩, (by repeat (first | exact Ext.refl _ | assumption | refine Ext.drew ?_ | refine Ext.drewN ?_ _ | refine Ext.iter ?_ _ _ | refine Ext.alloc ?_ _ | refine Ext.setCell ?_ (by first | exact Nat.le_refl _ | (simp <;> omega)) _ | refine Ext.trans2 (by assumption) ?_))⟩
end Go.Proofs.Ytbnpdpmbbppnhaa

/-! Payloads that are decoded. -/
namespace Go.Proofs.Ytbnpdpmbbppnhaa
set_option linter.unusedVariables false
set_option linter.unusedSimpArgs false
open Go.RowKit

set_option maxRecDepth 100000 in
theorem iJoined_c (p : Option Addr) (c : Nat) (xs : List Sg) (w : World) (hx : SAt segF 2 w p xs) (hO : segsOK xs) (hl : xs.length ≤ 400) :
    Calls Try.prog 75 #[.slice p xs.length c] w fun e w' => e = .returned (.string (joined xs)) ∧ Ext w w' := by
  have HX := Lib.hid hx; clear hx
  have hO := Lib.hid hO
  go_enter Try.func75, Try.ntmps75
  go_wp2
  have hrow := RowB.made (B := w.heap.size) (w := w) (Nat.le_refl _)
  have hx0 : Ext w (w.alloc (.cells #[] 5)) := (by repeat (first | exact Ext.refl _ | assumption | refine Ext.drew ?_ | refine Ext.drewN ?_ _ | refine Ext.iter ?_ _ _ | refine Ext.alloc ?_ _ | refine Ext.setCell ?_ (by first | exact Nat.le_refl _ | (simp <;> omega)) _ | refine Ext.trans2 (by assumption) ?_))
  generalize w.alloc (.cells #[] 5) = w0 at *
  go_loopw [3, 9] (fun o i wr => ∃ (k : Nat), k ≤ xs.length ∧ i = .int .i64 k ∧ RowB w.heap.size wr o (joined (xs.take k)) ∧ Ext w wr) (fun _ i _ => xs.length - (intOf i).toNat)
  case atStart => exact ⟨0, Nat.zero_le _, rfl, hrow, hx0⟩
  case round =>
    clear hrow hx0
    obtain ⟨k, hk, rfl, hown, hext⟩ := hrel
    have hbd := joined_size _ hO.out k hk
    by_cases hlt : k < xs.length
    · obtain ⟨b, o, rfl, hbl, h0, h1⟩ := (HX.out.ext hext).two hlt (u := .int .i64 (xs[k]'hlt).1) (v := .string (xs[k]'hlt).2) rfl
      have hsz := (hO.out _ (List.getElem_mem hlt)).2.1.2
      have hzz := hext.below.size
      go_wp2_with (at_builtin; go_loud (refine appendSB (t := (xs[k]'hlt).2) (hown.alloc _) (by omega) (by simp; omega) ?_ rfl rfl); intro v1 w1 hown1 hb1)
      go_roundw
      case rel => exact ⟨k + 1, hlt, by go_num, by rw [joined_take hlt]; exact hown1, (hext.alloc _).low hb1 (Nat.le_refl _)⟩
      case measure => simp [intOf]; omega
    · obtain rfl : k = xs.length := by omega
      rw [List.take_length] at *
      have hcv := hown.conv
      go_wp2
      go_ret
      exact ⟨rfl, hext⟩
set_option maxRecDepth 100000 in
theorem l11Join_c (p : Option Addr) (c : Nat) (xs : List Sg) (w : World) (hx : SAt segF 2 w p xs) (hO : segsOK xs) (hl : xs.length ≤ 400) :
    Calls Try.prog 77 #[.slice p xs.length c] w fun e w' => e = .returned (.string (joined xs)) ∧ Ext w w' := by
  have HX := Lib.hid hx; clear hx
  have hO := Lib.hid hO
  go_enter Try.func77, Try.ntmps77
  go_wp2
  go_loopw [3, 4] (fun o i wr => ∃ (k : Nat), k ≤ xs.length ∧ i = .int .i64 k ∧ o = .string (joined (xs.take k)) ∧ Ext w wr) (fun _ i _ => xs.length - (intOf i).toNat)
  case atStart => exact ⟨0, Nat.zero_le _, rfl, rfl, (by repeat (first | exact Ext.refl _ | assumption | refine Ext.drew ?_ | refine Ext.drewN ?_ _ | refine Ext.iter ?_ _ _ | refine Ext.alloc ?_ _ | refine Ext.setCell ?_ (by first | exact Nat.le_refl _ | (simp <;> omega)) _ | refine Ext.trans2 (by assumption) ?_))⟩
  case round =>
    obtain ⟨k, hk, rfl, rfl, hext⟩ := hrel
    have hbd := joined_size _ hO.out k hk
    by_cases hlt : k < xs.length
    · obtain ⟨b, o, rfl, hbl, h0, h1⟩ := (HX.out.ext hext).two hlt (u := .int .i64 (xs[k]'hlt).1) (v := .string (xs[k]'hlt).2) rfl
      have hsz := (hO.out _ (List.getElem_mem hlt)).2.1.2
      go_wp2
      go_roundw
      case rel => exact ⟨k + 1, hlt, by go_num, by rw [joined_take hlt], (by repeat (first | exact Ext.refl _ | assumption | refine Ext.drew ?_ | refine Ext.drewN ?_ _ | refine Ext.iter ?_ _ _ | refine Ext.alloc ?_ _ | refine Ext.setCell ?_ (by first | exact Nat.le_refl _ | (simp <;> omega)) _ | refine Ext.trans2 (by assumption) ?_))⟩
      case measure => simp [intOf]; omega
    · obtain rfl : k = xs.length := by omega
      rw [List.take_length] at *
      go_wp2
      go_ret
      exact ⟨rfl, hext⟩
theorem psg_ok (p k q : Int) (xs : List Int) : segsOK (psgR p k q xs).1 ∧ (joined (psgR p k q xs).1).size ≤ 400 ∧ (psgR p k q xs).1.length ≤ 400 ∧ ((psgR p k q xs).2 ≠ 0 → (psgR p k q xs).1 = []) := by
  unfold psgR
  split
  · obtain ⟨h1, h2⟩ := segs_ok (ebL_ok p k q xs).1 ((ebL p k q xs).length + 1) 0 0 (by omega)
    have h3 := joined_len _ h1
    exact ⟨h1, by omega, by omega, segs_nil _ _ _ _⟩
  · exact ⟨fun x hx => by simp at hx, by simp [joined], by simp, fun _ => rfl⟩
/-- What DecodePayload answers. -/
noncomputable def dpT (p k q : Int) (xs : List Int) : ByteArray := joined (psgR p k q xs).1
set_option maxRecDepth 100000 in
theorem iDecodePayload_c (p k q : Int) (pt : Option Addr) (c : Nat) (xs : List Int) (w : World) (hx : IntsAt w pt xs) (hl : xs.length ≤ 1048576) :
    Calls Try.prog 14 #[vFld p k q, .slice pt xs.length c] w fun e w' => e = .returned (.tuple #[.string (dpT p k q xs), .int .i64 (psgR p k q xs).2]) ∧ Ext w w' := by
  have HX := Lib.hid hx; clear hx
  have hps := Lib.hid (fun W (h : IntsAt W pt xs) => iPayloadSegs_c p k q pt c xs W h hl)
  obtain ⟨hO, hsz, hlen, hnil⟩ := psg_ok p k q xs
  have hT : dpT p k q xs = joined (psgR p k q xs).1 := rfl
  rw [hT]
  clear hT
  generalize psgR p k q xs = Y at *
  obtain ⟨L, C⟩ := Y
  have hjn := Lib.hid (fun p1 c1 W (h : SAt segF 2 W p1 L) => iJoined_c p1 c1 L W h hO hlen)
  replace hO := Lib.hid hO
  by_cases h0 : C = 0
  · subst h0
    go_enter Try.func14, Try.ntmps14
    go_wp2_with (first
      | (go_at_call 16; (with_reducible refine (hps.out _ (HX.out.ext (by repeat (first | exact Ext.refl _ | assumption | refine Ext.drew ?_ | refine Ext.drewN ?_ _ | refine Ext.iter ?_ _ _ | refine Ext.alloc ?_ _ | refine Ext.setCell ?_ (by first | exact Nat.le_refl _ | (simp <;> omega)) _ | refine Ext.trans2 (by assumption) ?_)))).mono ?_); rintro e w1 ⟨⟨v, rfl, hrow⟩, hx1⟩; obtain ⟨p1, c1, rfl, ho⟩ := hrow.own segF_len; replace ho := Lib.hid ho.sat)
      | (go_at_call 75; (with_reducible refine (hjn.out _ _ _ ho.out).mono ?_); rintro e w2 ⟨rfl, hx2⟩))
    go_ret2
    exact ⟨rfl, (by repeat (first | exact Ext.refl _ | assumption | refine Ext.drew ?_ | refine Ext.drewN ?_ _ | refine Ext.iter ?_ _ _ | refine Ext.alloc ?_ _ | refine Ext.setCell ?_ (by first | exact Nat.le_refl _ | (simp <;> omega)) _ | refine Ext.trans2 (by assumption) ?_))⟩
  · have hn : L = [] := hnil h0
    subst hn
    have h0' : (C == 0) = false := by simpa using h0
    go_enter Try.func14, Try.ntmps14
    go_wp2_with (go_at_call 16; (with_reducible refine (hps.out _ (HX.out.ext (by repeat (first | exact Ext.refl _ | assumption | refine Ext.drew ?_ | refine Ext.drewN ?_ _ | refine Ext.iter ?_ _ _ | refine Ext.alloc ?_ _ | refine Ext.setCell ?_ (by first | exact Nat.le_refl _ | (simp <;> omega)) _ | refine Ext.trans2 (by assumption) ?_)))).mono ?_); rintro e w1 ⟨⟨v, rfl, hrow⟩, hx1⟩)
    go_ret2
    exact ⟨rfl, (by repeat (first | exact Ext.refl _ | assumption | refine Ext.drew ?_ | refine Ext.drewN ?_ _ | refine Ext.iter ?_ _ _ | refine Ext.alloc ?_ _ | refine Ext.setCell ?_ (by first | exact Nat.le_refl _ | (simp <;> omega)) _ | refine Ext.trans2 (by assumption) ?_))⟩
set_option maxRecDepth 100000 in
theorem sDecodePayload_c (p k q : Int) (pt : Option Addr) (c : Nat) (xs : List Int) (w : World) (hx : IntsAt w pt xs) (hl : xs.length ≤ 1048576) :
    Calls Try.prog 15 #[vFld p k q, .slice pt xs.length c] w fun e w' => e = .returned (.tuple #[.string (dpT p k q xs), .int .i64 (psgR p k q xs).2]) ∧ Ext w w' := by
  have HX := Lib.hid hx; clear hx
  have hps := Lib.hid (fun W (h : IntsAt W pt xs) => sPayloadSegs_c p k q pt c xs W h hl)
  obtain ⟨hO, hsz, hlen, hnil⟩ := psg_ok p k q xs
  have hT : dpT p k q xs = joined (psgR p k q xs).1 := rfl
  rw [hT]
  clear hT
  generalize psgR p k q xs = Y at *
  obtain ⟨L, C⟩ := Y
  have hjn := Lib.hid (fun p1 c1 W (h : SAt segF 2 W p1 L) => l11Join_c p1 c1 L W h hO hlen)
  replace hO := Lib.hid hO
  by_cases h0 : C = 0
  · subst h0
    go_enter Try.func15, Try.ntmps15
    go_wp2_with (first
      | (go_at_call 76; (with_reducible refine (hps.out _ (HX.out.ext (by repeat (first | exact Ext.refl _ | assumption | refine Ext.drew ?_ | refine Ext.drewN ?_ _ | refine Ext.iter ?_ _ _ | refine Ext.alloc ?_ _ | refine Ext.setCell ?_ (by first | exact Nat.le_refl _ | (simp <;> omega)) _ | refine Ext.trans2 (by assumption) ?_)))).mono ?_); rintro e w1 ⟨⟨v, rfl, hrow⟩, hx1⟩; obtain ⟨p1, c1, rfl, ho⟩ := hrow.own segF_len; replace ho := Lib.hid ho.sat)
      | (go_at_call 77; (with_reducible refine (hjn.out _ _ _ ho.out).mono ?_); rintro e w2 ⟨rfl, hx2⟩))
    go_ret2
    exact ⟨rfl, (by repeat (first | exact Ext.refl _ | assumption | refine Ext.drew ?_ | refine Ext.drewN ?_ _ | refine Ext.iter ?_ _ _ | refine Ext.alloc ?_ _ | refine Ext.setCell ?_ (by first | exact Nat.le_refl _ | (simp <;> omega)) _ | refine Ext.trans2 (by assumption) ?_))⟩
  · have hn : L = [] := hnil h0
    subst hn
    have h0' : (C == 0) = false := by simpa using h0
    go_enter Try.func15, Try.ntmps15
    go_wp2_with (go_at_call 76; (with_reducible refine (hps.out _ (HX.out.ext (by repeat (first | exact Ext.refl _ | assumption | refine Ext.drew ?_ | refine Ext.drewN ?_ _ | refine Ext.iter ?_ _ _ | refine Ext.alloc ?_ _ | refine Ext.setCell ?_ (by first | exact Nat.le_refl _ | (simp <;> omega)) _ | refine Ext.trans2 (by assumption) ?_)))).mono ?_); rintro e w1 ⟨⟨v, rfl, hrow⟩, hx1⟩)
    go_ret2
    exact ⟨rfl, (by repeat (first | exact Ext.refl _ | assumption | refine Ext.drew ?_ | refine Ext.drewN ?_ _ | refine Ext.iter ?_ _ _ | refine Ext.alloc ?_ _ | refine Ext.setCell ?_ (by first | exact Nat.le_refl _ | (simp <;> omega)) _ | refine Ext.trans2 (by assumption) ?_))⟩
/-- A field and elements have been drawn. -/
def ElE (w : World) (e : Ending) (w' : World) : Prop := ∃ (p k q : Int) (pt : Option Addr) (c : Nat) (xs : List Int), e = .returned (.tuple #[vFld p k q, .slice pt xs.length c]) ∧ (xs.length ≤ 1500 ∧ xs.length ≤ c) ∧ wfs xs ∧ IntsAt w' pt xs ∧ Ext w w'
set_option maxRecDepth 100000 in
theorem DrawDecodePayload_c (p : Option Addr) (c : Nat) (code : List Int) (w : World) (hx : U8At w p code) (hl : code.length ≤ 4096) :
    Calls Try.prog 13 #[.slice p code.length c] w fun e w' => ElE w e w' := by
  have HX := Lib.hid hx; clear hx
  have hb := Blk.new w #[.int .i64 0, .int .i64 0, .int .i64 0] 25
  go_enter Try.func13, Try.ntmps13
  go_wp2_with (first
    | (go_at_call 74; (with_reducible refine (From_c p c code _ (HX.out.ext (by repeat (first | exact Ext.refl _ | assumption | refine Ext.drew ?_ | refine Ext.drewN ?_ _ | refine Ext.iter ?_ _ _ | refine Ext.alloc ?_ _ | refine Ext.setCell ?_ (by first | exact Nat.le_refl _ | (simp <;> omega)) _ | refine Ext.trans2 (by assumption) ?_))) hl).mono ?_); rintro e w1 ⟨⟨g, rfl, hg, hs1⟩, hW1⟩; have hn1 : g < w1.heap.size := (hs1.lt); rw [← hg] at hs1; simp only [World.size_alloc] at hg; have hgw : w.heap.size < g := (by omega); replace hg := Lib.hid hg; have hb1 := hb.ext hW1; have hE1 : Ext w w1 := ((Ext.refl w).alloc _).trans hW1)
    | (go_at_call 73; (with_reducible refine (l11Draw_c (g + 1) g _ hs1 (by omega)).mono ?_); rintro e w2 ⟨fp, fk, fq, pt, c2, xs, rfl, hl2, hw2, hi2, hp2, hs2, hb2⟩; have hbr := hb1.but hb2 (by omega); have r0 := hbr.cell (i := 0) (v := .int .i64 0) rfl; have r1 := hbr.cell (i := 1) (v := .int .i64 0) rfl; have r2 := hbr.cell (i := 2) (v := .int .i64 0) rfl; have r3 := hbr.free; have r4 := hbr.lt))
  have hF := ((hbr.set 0 (.int .i64 fp)).set 1 (.int .i64 fk)).set 2 (.int .i64 fq)
  have c0 := hF.cell (i := 0) (v := .int .i64 fp) rfl
  have c1 := hF.cell (i := 1) (v := .int .i64 fk) rfl
  have c2' := hF.cell (i := 2) (v := .int .i64 fq) rfl
  have hE2 : Ext w w2 := hE1.but hb2 (by omega)
  have hp3 : ∀ b o, 0 < xs.length → pt = some ⟨b, o, none⟩ → b ≠ w.heap.size := fun b o hn e => by have := hp2 b o hn e; omega
  exact bodyPost_ret (v := .tuple #[vFld fp fk fq, .slice pt xs.length c2]) (by simp [results, Try.results13, go_sem, c0, c1, c2', vFld]) rfl ⟨fp, fk, fq, pt, c2, xs, rfl, hl2, hw2, ((hi2.but (But.set _ _ _ _) hp3).but (But.set _ _ _ _) hp3).but (But.set _ _ _ _) hp3, ((hE2.setCell (Nat.le_refl _) _).setCell (Nat.le_refl _) _).setCell (Nat.le_refl _) _⟩
end Go.Proofs.Ytbnpdpmbbppnhaa
