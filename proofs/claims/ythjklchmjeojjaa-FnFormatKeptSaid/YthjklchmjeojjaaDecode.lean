
/- The bits of elements. -/
import Derived.Test.YthjklchmjeojjaaEncode
import Derived.Test.YthjklchmjeojjaaReadSeg2
import Derived.Test.YthjklchmjeojjaaReadMath
import Derived.Test.YthjklchmjeojjaaSRead
import Derived.Test.YthjklchmjeojjaaBest
import Derived.Test.YthjklchmjeojjaaJoin
import Derived.Test.YthjklchmjeojjaaDrawPay
/-! The bits of elements. -/
namespace Go.Proofs.Ythjklchmjeojjaa
set_option linter.unusedVariables false
set_option linter.unusedSimpArgs false
open Go.RowKit

theorem RowI.room {B : Nat} {w : World} (hB : B ≤ w.heap.size) (z : Array Value) (n : Nat) (hz : z.size = 1) (hn : n ≤ maxLen) : RowI B (w.alloc (.cells (madeCells z n) 2)) (.slice (some ⟨w.heap.size, 0, none⟩) 0 n) [] :=
  World.ownsRow_made w _ n hB hn (by simp [size_madeCells, hz])
theorem all_take {P : Int → Prop} {xs : List Int} {k : Nat} (hlt : k < xs.length) (h : ∀ x ∈ xs.take k, P x) (hx : P (xs.getD k 0)) : ∀ x ∈ xs.take (k + 1), P x := fun x hm => by
  rw [List.take_add_one, List.mem_append] at hm
  rcases hm with hm | hm
  · exact h x hm
  · rw [List.getElem?_eq_getElem hlt] at hm
    simp at hm
    subst hm
    rw [List.getD_eq_getElem?_getD, List.getElem?_eq_getElem hlt] at hx
    exact hx
theorem all_at {P : Int → Prop} {xs : List Int} {k : Nat} (hlt : k < xs.length) (h : ∀ x ∈ xs, P x) : P (xs.getD k 0) := by
  rw [List.getD_eq_getElem?_getD, List.getElem?_eq_getElem hlt]
  exact h _ (List.getElem_mem _)

def elOK (size : Int) (xs : List Int) : Prop := ∀ x ∈ xs, 0 ≤ x ∧ x ≤ size - 1
open Classical in
/-- The code of a field and elements, and their bits. -/
noncomputable def ebC (p k q : Int) (xs : List Int) : Int :=
  if ¬ fldOK p k q then 1 else if ¬ ((1 ≤ xs.length ∧ xs.length ≤ 1500) ∧ elOK (fldSize p k) xs) then 2 else if 8192 < xs.length * fW (fldSize p k) then 3 else if ¬ ∀ x ∈ xs, x < 2 ^ fW (fldSize p k) then 6 else 0
def bitsL (W : Nat) (xs : List Int) : List Int := xs.flatMap fun x => bitsOf x W
noncomputable def ebL (p k q : Int) (xs : List Int) : List Int := if ebC p k q xs = 0 then bitsL (fW (fldSize p k)) xs else []
theorem bitsL_snoc (W : Nat) {xs : List Int} {k : Nat} (hlt : k < xs.length) : bitsL W (xs.take (k + 1)) = bitsL W (xs.take k) ++ bitsOf (xs.getD k 0) W := by
  rw [List.take_add_one, List.getElem?_eq_getElem hlt, List.getD_eq_getElem?_getD, List.getElem?_eq_getElem hlt]
  unfold bitsL
  rw [List.flatMap_append]
  simp only [Option.toList_some, List.flatMap_cons, List.flatMap_nil, List.append_nil, Option.getD_some]
theorem bitsL_len (W : Nat) (xs : List Int) : (bitsL W xs).length = xs.length * W := by
  induction xs with
  | nil => simp [bitsL]
  | cons x xs ih =>
    have : bitsL W (x :: xs) = bitsOf x W ++ bitsL W xs := rfl
    rw [this, List.length_append, ih, bitsOf_len, List.length_cons, Nat.add_mul]
    simp
    omega
theorem bitsL_app (W : Nat) (xs ys : List Int) : bitsL W (xs ++ ys) = bitsL W xs ++ bitsL W ys := List.flatMap_append ..
theorem eb_1 {p k q : Int} {xs : List Int} (h1 : ¬ fldOK p k q) : ebC p k q xs = 1 ∧ ebL p k q xs = [] := by
  have : ebC p k q xs = 1 := by unfold ebC; rw [if_pos h1]
  exact ⟨this, by unfold ebL; rw [this]; rfl⟩
theorem eb_2 {p k q : Int} {xs : List Int} (h1 : fldOK p k q) (h2 : ¬ ((1 ≤ xs.length ∧ xs.length ≤ 1500) ∧ elOK (fldSize p k) xs)) : ebC p k q xs = 2 ∧ ebL p k q xs = [] := by
  have : ebC p k q xs = 2 := by unfold ebC; rw [if_neg (not_not_intro h1), if_pos h2]
  exact ⟨this, by unfold ebL; rw [this]; rfl⟩
theorem eb_3 {p k q : Int} {xs : List Int} (h1 : fldOK p k q) (h2 : (1 ≤ xs.length ∧ xs.length ≤ 1500) ∧ elOK (fldSize p k) xs) (h3 : 8192 < xs.length * fW (fldSize p k)) : ebC p k q xs = 3 ∧ ebL p k q xs = [] := by
  have : ebC p k q xs = 3 := by unfold ebC; rw [if_neg (not_not_intro h1), if_neg (not_not_intro h2), if_pos h3]
  exact ⟨this, by unfold ebL; rw [this]; rfl⟩
theorem eb_6 {p k q : Int} {xs : List Int} (h1 : fldOK p k q) (h2 : (1 ≤ xs.length ∧ xs.length ≤ 1500) ∧ elOK (fldSize p k) xs) (h3 : ¬ 8192 < xs.length * fW (fldSize p k)) (h4 : ¬ ∀ x ∈ xs, x < 2 ^ fW (fldSize p k)) : ebC p k q xs = 6 ∧ ebL p k q xs = [] := by
  have : ebC p k q xs = 6 := by unfold ebC; rw [if_neg (not_not_intro h1), if_neg (not_not_intro h2), if_neg h3, if_pos h4]
  exact ⟨this, by unfold ebL; rw [this]; rfl⟩
theorem eb_0 {p k q : Int} {xs : List Int} (h1 : fldOK p k q) (h2 : (1 ≤ xs.length ∧ xs.length ≤ 1500) ∧ elOK (fldSize p k) xs) (h3 : ¬ 8192 < xs.length * fW (fldSize p k)) (h4 : ∀ x ∈ xs, x < 2 ^ fW (fldSize p k)) : ebC p k q xs = 0 ∧ ebL p k q xs = bitsL (fW (fldSize p k)) xs := by
  have : ebC p k q xs = 0 := by unfold ebC; rw [if_neg (not_not_intro h1), if_neg (not_not_intro h2), if_neg h3, if_neg (not_not_intro h4)]
  exact ⟨this, by unfold ebL; rw [this]; rfl⟩
open Classical in
noncomputable def elC (p k q : Int) (xs : List Int) : Int := if ¬ fldOK p k q then 1 else if ¬ ((1 ≤ xs.length ∧ xs.length ≤ 1500) ∧ elOK (fldSize p k) xs) then 2 else 0
end Go.Proofs.Ythjklchmjeojjaa

/-! The reference's element bits. -/
namespace Go.Proofs.Ythjklchmjeojjaa
set_option linter.unusedVariables false
set_option linter.unusedSimpArgs false
open Go.RowKit

end Go.Proofs.Ythjklchmjeojjaa

/-! Lists of segments that are read. -/
namespace Go.Proofs.Ythjklchmjeojjaa
set_option linter.unusedVariables false
set_option linter.unusedSimpArgs false
open Go.RowKit

/-- The segments from the bit a on, and a code. -/
def segsR (xs : List Int) : Nat → Nat → Nat → List Sg × Int
  | 0, _, _ => ([], 0)
  | f + 1, a, tot => if a + 3 ≤ xs.length ∧ numAt xs a 3 ≠ 0 then
      match rdS xs a with
      | none => ([], 6)
      | some r => if 400 < tot + r.2.1.size then ([], 3) else
          if (segsR xs f r.2.2 (tot + r.2.1.size)).2 = 0 then ((r.1, r.2.1) :: (segsR xs f r.2.2 (tot + r.2.1.size)).1, 0) else ([], (segsR xs f r.2.2 (tot + r.2.1.size)).2)
    else ([], 0)
theorem segs_end {xs : List Int} {f a tot : Nat} (h : ¬ (a + 3 ≤ xs.length ∧ numAt xs a 3 ≠ 0)) : segsR xs f a tot = ([], 0) := by
  cases f with
  | zero => rfl
  | succ f => unfold segsR; rw [if_neg h]
theorem segs_bad {xs : List Int} {f a tot : Nat} (h : a + 3 ≤ xs.length ∧ numAt xs a 3 ≠ 0) (h2 : rdS xs a = none) : segsR xs (f + 1) a tot = ([], 6) := by
  unfold segsR
  rw [if_pos h, h2]
theorem segs_long {xs : List Int} {f a tot : Nat} {m : Int} {t : ByteArray} {b : Nat} (h : a + 3 ≤ xs.length ∧ numAt xs a 3 ≠ 0) (h2 : rdS xs a = some (m, t, b)) (h3 : 400 < tot + t.size) : segsR xs (f + 1) a tot = ([], 3) := by
  unfold segsR
  rw [if_pos h, h2]
  show (if 400 < tot + t.size then _ else _) = _
  rw [if_pos h3]
/-- A code's list behind a list. -/
def comb (acc : List Sg) (y : List Sg × Int) : List Sg × Int := if y.2 = 0 then (acc ++ y.1, 0) else ([], y.2)
theorem segs_go {xs : List Int} {f a tot : Nat} {m : Int} {t : ByteArray} {b : Nat} (h : a + 3 ≤ xs.length ∧ numAt xs a 3 ≠ 0) (h2 : rdS xs a = some (m, t, b)) (h3 : ¬ 400 < tot + t.size) : segsR xs (f + 1) a tot = comb [(m, t)] (segsR xs f b (tot + t.size)) := by
  conv => lhs; unfold segsR
  rw [if_pos h, h2]
  show (if 400 < tot + t.size then _ else _) = _
  rw [if_neg h3]
  rfl
theorem comb_comb (xs ys : List Sg) (y : List Sg × Int) : comb xs (comb ys y) = comb (xs ++ ys) y := by
  unfold comb
  by_cases h : y.2 = 0
  · rw [if_pos h, if_pos h, if_pos rfl, List.append_assoc]
  · rw [if_neg h, if_neg h, if_neg h]
theorem comb_nil (y : List Sg × Int) (h : y.2 ≠ 0 → y.1 = []) : comb [] y = y := by
  unfold comb
  obtain ⟨l, c⟩ := y
  by_cases h0 : c = 0
  · rw [if_pos h0]
    subst h0
    rfl
  · rw [if_neg h0]
    have : l = [] := h h0
    subst this
    rfl
theorem segs_nil (xs : List Int) : ∀ f a tot, (segsR xs f a tot).2 ≠ 0 → (segsR xs f a tot).1 = [] := fun f => by
  induction f with
  | zero => intro a tot h; exact absurd rfl h
  | succ f ih =>
    intro a tot h
    by_cases h1 : a + 3 ≤ xs.length ∧ numAt xs a 3 ≠ 0
    · cases h2 : rdS xs a with
      | none => rw [segs_bad h1 h2]
      | some r =>
        obtain ⟨m, t, b⟩ := r
        by_cases h3 : 400 < tot + t.size
        · rw [segs_long h1 h2 h3]
        · rw [segs_go h1 h2 h3] at h ⊢
          unfold comb at h ⊢
          split at h
          · exact absurd rfl h
          · rename_i h4
            rw [if_neg h4]
    · rw [segs_end h1]

end Go.Proofs.Ythjklchmjeojjaa

/-! Payloads that are read. -/
namespace Go.Proofs.Ythjklchmjeojjaa
set_option linter.unusedVariables false
set_option linter.unusedSimpArgs false
open Go.RowKit

theorem foldl_join (xs : List Sg) : ∀ a : ByteArray, xs.foldl (fun a x => a ++ x.2) a = a ++ joined xs := by
  induction xs with
  | nil => intro a; simp [joined]
  | cons x xs ih =>
    intro a
    have e1 : joined (x :: xs) = xs.foldl (fun a x => a ++ x.2) (ByteArray.empty ++ x.2) := rfl
    rw [e1, List.foldl_cons, ih, ih, ByteArray.empty_append, ByteArray.append_assoc]
theorem joined_len (xs : List Sg) (h : segsOK xs) : xs.length ≤ (joined xs).size := by
  induction xs with
  | nil => simp
  | cons x xs ih =>
    have h1 := (h x (List.mem_cons_self ..)).2.1.1
    have h2 := ih (fun y hy => h y (List.mem_cons_of_mem _ hy))
    rw [joined_cons, ByteArray.size_append, List.length_cons]
    omega
theorem segs_ok {xs : List Int} (hb : ∀ x ∈ xs, x = 0 ∨ x = 1) : ∀ f a tot, tot ≤ 400 → segsOK (segsR xs f a tot).1 ∧ (joined (segsR xs f a tot).1).size + tot ≤ 400 := fun f => by
  have hnil : ∀ tot, tot ≤ 400 → segsOK [] ∧ (joined []).size + tot ≤ 400 := fun tot h => ⟨fun x hx => by simp at hx, by simpa [joined] using h⟩
  induction f with
  | zero => intro a tot h; exact hnil tot h
  | succ f ih =>
    intro a tot h
    by_cases h1 : a + 3 ≤ xs.length ∧ numAt xs a 3 ≠ 0
    · cases h2 : rdS xs a with
      | none => rw [segs_bad h1 h2]; exact hnil tot h
      | some r =>
        obtain ⟨m, t, b⟩ := r
        by_cases h3 : 400 < tot + t.size
        · rw [segs_long h1 h2 h3]; exact hnil tot h
        · rw [segs_go h1 h2 h3]
          obtain ⟨i1, i2⟩ := ih b (tot + t.size) (by omega)
          unfold comb
          split
          · refine ⟨fun x hx => ?_, ?_⟩
            · rcases List.mem_cons.1 hx with rfl | hx
              · exact (rdS_back hb h2).1
              · exact i1 x hx
            · show (joined ((m, t) :: _)).size + tot ≤ 400
              rw [joined_cons, ByteArray.size_append]
              have i3 : (joined (segsR xs f b (tot + t.size)).1).size + (tot + t.size) ≤ 400 := i2
              show t.size + (joined (segsR xs f b (tot + t.size)).1).size + tot ≤ 400
              omega
          · exact hnil tot h
    · rw [segs_end h1]; exact hnil tot h

theorem bitsOf_bit0 (n wd : Int) : ∀ x ∈ bitsOf n wd, x = 0 ∨ x = 1 := fun x hx => by
  simp only [bitsOf, List.mem_map] at hx
  obtain ⟨j, _, rfl⟩ := hx
  omega
theorem bitsL_bit {W : Nat} {xs : List Int} : ∀ x ∈ bitsL W xs, x = 0 ∨ x = 1 := fun x hx => by
  simp only [bitsL, List.mem_flatMap] at hx
  obtain ⟨y, _, hy⟩ := hx
  exact bitsOf_bit0 y W x hy
theorem ebL_ok (p k q : Int) (xs : List Int) : (∀ x ∈ ebL p k q xs, x = 0 ∨ x = 1) ∧ (ebL p k q xs).length ≤ 8192 := by
  unfold ebL
  split
  · rename_i h
    refine ⟨bitsL_bit, ?_⟩
    rw [bitsL_len]
    unfold ebC at h
    split at h
    · omega
    split at h
    · omega
    split at h
    · omega
    · omega
  · simp
/-- What PayloadSegments answers. -/
noncomputable def psgR (p k q : Int) (xs : List Int) : List Sg × Int := if ebC p k q xs = 0 then segsR (ebL p k q xs) ((ebL p k q xs).length + 1) 0 0 else ([], ebC p k q xs)
end Go.Proofs.Ythjklchmjeojjaa

/-! Payloads that are decoded. -/
namespace Go.Proofs.Ythjklchmjeojjaa
set_option linter.unusedVariables false
set_option linter.unusedSimpArgs false
open Go.RowKit

theorem psg_ok (p k q : Int) (xs : List Int) : segsOK (psgR p k q xs).1 ∧ (joined (psgR p k q xs).1).size ≤ 400 ∧ (psgR p k q xs).1.length ≤ 400 ∧ ((psgR p k q xs).2 ≠ 0 → (psgR p k q xs).1 = []) := by
  unfold psgR
  split
  · obtain ⟨h1, h2⟩ := segs_ok (ebL_ok p k q xs).1 ((ebL p k q xs).length + 1) 0 0 (by omega)
    have h3 := joined_len _ h1
    exact ⟨h1, by omega, by omega, segs_nil _ _ _ _⟩
  · exact ⟨fun x hx => by simp at hx, by simp [joined], by simp, fun _ => rfl⟩
/-- What DecodePayload answers. -/
noncomputable def dpT (p k q : Int) (xs : List Int) : ByteArray := joined (psgR p k q xs).1
/-- A field and elements have been drawn. -/
def ElE (w : World) (e : Ending) (w' : World) : Prop := ∃ (p k q : Int) (pt : Option Addr) (c : Nat) (xs : List Int), e = .returned (.tuple #[vFld p k q, .slice pt xs.length c]) ∧ (xs.length ≤ 1500 ∧ xs.length ≤ c) ∧ wfs xs ∧ IntsAt w' pt xs ∧ Ext w w'
end Go.Proofs.Ythjklchmjeojjaa
