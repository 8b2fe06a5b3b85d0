/- strings.Builder, as the program uses it. -/
import Derived.Test.YthpnkcamjcohgaaGreatDoorLJoinedJobsK15
import Derived.Test.YthpnkcamjcohgaaGreatDoorLJoinedJobsK05
import Derived.Lib.Builder
import Derived.Lib.OthersKept
namespace Go.Proofs.YthpnkcamjcohgaaGreatDoor
set_option linter.unusedVariables false
set_option linter.unusedSimpArgs false
open Go.RowKit

/-- The builder in block b has gathered s. -/
def Bd (B b : Nat) (s : ByteArray) (w : World) : Prop := Lib.IsBuilder 73 5 B b (Lib.strCells s) w
theorem Bd.at {B b : Nat} {s : ByteArray} {w : World} (h : Bd B b s w) : ∃ p, Lib.BuilderAt 73 5 B b p (Lib.strCells s) w := by
  rcases h with h | h
  · exact ⟨_, h⟩
  · exact ⟨_, h⟩
theorem Bd.ge {B b : Nat} {s : ByteArray} {w : World} (h : Bd B b s w) : B ≤ b := by
  obtain ⟨p, h⟩ := h.at
  exact h.1
theorem Bd.lt {B b : Nat} {s : ByteArray} {w : World} (h : Bd B b s w) : b < w.heap.size := by
  obtain ⟨p, h⟩ := h.at
  exact h.lt
theorem Bd.new (w : World) : Bd w.heap.size w.heap.size ByteArray.empty (w.alloc (.cells #[.pointer none, .slice none 0 0] 73)) := Lib.fresh_isBuilder _ _ w
theorem bd_kept {B b : Nat} {p : Value} {s : ByteArray} {w w' : World} {row : Option Nat} (h : Lib.BuilderAt 73 5 B b p (Lib.strCells s) w) (hg : w.grownBy w' row) (hb : row ≠ some b) (hv : ∀ k v, w.heap[b]? = some (.cells #[p, v] 73 (0, 0)) → v.ownBlock = some k → row ≠ some k) :
    Lib.BuilderAt 73 5 B b p (Lib.strCells s) w' := by
  have hlt := h.lt
  obtain ⟨hB, v, hbk, hown, hne⟩ := h
  refine ⟨hB, v, (hg.block b hlt (fun e => hb e.symm)).trans hbk, hown.kept hg ?_, hne⟩
  cases hv2 : v.ownBlock with
  | none => exact .inl rfl
  | some k => exact .inr (fun e => hv k v hbk hv2 e.symm)
theorem Bd.ext {B b : Nat} {s : ByteArray} {w w' : World} (h : Bd B b s w) (hx : Ext w w') : Bd B b s w' := by
  have key : ∀ p, Lib.BuilderAt 73 5 B b p (Lib.strCells s) w → Lib.BuilderAt 73 5 B b p (Lib.strCells s) w' := fun p hp => by
    have hlt := hp.lt
    obtain ⟨hB, v, hbk, hown, hne⟩ := hp
    refine ⟨hB, v, (hx.below.block b hlt).trans hbk, ⟨hown.1, ?_⟩, hne⟩
    rcases hown.2 with h2 | ⟨g, cap, cur, hv, hg, hh, r⟩
    · exact .inl h2
    · exact .inr ⟨g, cap, cur, hv, hg, by rw [hx.below.block g (Array.getElem?_eq_some_iff.1 hh).1]; exact hh, r⟩
  rcases h with h | h
  · exact .inl (key _ h)
  · exact .inr (key _ h)
/-- The string is told. -/
theorem Bd.bytes {B b : Nat} {s : ByteArray} {w : World} (h : Bd B b s w) : Lib.IsBuilder 73 5 B b (Lib.byteCells s.data.toList) w := by
  have e : Lib.strCells s = Lib.byteCells s.data.toList := rfl
  rw [← e]
  exact h
set_option maxHeartbeats 1000000 in
set_option maxRecDepth 100000 in
theorem copyCheck_c (B b : Nat) (s : ByteArray) (w : World) (h : Bd B b s w) :
    Calls Tryz.prog 130 #[.pointer (some ⟨b, 0, none⟩)] w fun e w' => e = .returned (.tuple #[]) ∧ Lib.BuilderAt 73 5 B b (.pointer (some ⟨b, 0, none⟩)) (Lib.strCells s) w' ∧ Below B w w' ∧ Lib.OthersKept 5 (some b) w w' := by
  have hj0 : (Tryz.prog.info? 73).map (·.size) = some 2 := by kernel_rfl
  obtain ⟨j, hj, hjs⟩ := Option.map_eq_some_iff.1 hj0
  rcases h with h | h
  · have h0 := h.cell0
    have hsh := h.shape
    have hfz := h.frozen0
    have hw := h.used (.pointer (some ⟨b, 0, none⟩))
    have hB := h.1
    clear h
    go_enter Tryz.func130, Tryz.ntmps130
    go_wp2
    rw [Lib.run_to_unsafe w ⟨b, 0, none⟩ Tryz.underlying71 Tryz.underlying167 hj (by rw [hjs]; decide) hsh (Nat.zero_lt_succ 1)]
    simp only [Result.andThen]
    rw [Oper.upon_value]
    go_wp2
    rw [run_callFunc_extern Tryz.func131 (by kernel_rfl) (by kernel_rfl) (by kernel_rfl) (e := Extern.AbiNoEscape.same) (by kernel_rfl)]
    rw [Lib.run_noEscape]
    simp only [Result.andThen]
    rw [Oper.upon_value]
    go_wp2
    rw [Lib.run_from_unsafe w ⟨b, 0, none⟩ Tryz.underlying167 Tryz.underlying71 hj hsh (by kernel_rfl)]
    simp only [Result.andThen]
    rw [Oper.upon_value]
    go_wp2
    go_end0
    exact ⟨rfl, hw, (Below.refl B w).setCell (p := ⟨b, 0, none⟩) hB _, (Lib.OthersKept.refl _ _ w).setCell ⟨b, 0, none⟩ rfl _⟩
  · have h0 := h.cell0
    have hh := Lib.hid h
    clear h
    go_enter Tryz.func130, Tryz.ntmps130
    go_wp2
    rw [Lib.run_neq_ptr_same w _ Tryz.underlying71 hj]
    go_wp2
    go_end0
    exact ⟨rfl, hh.out, Below.refl B _, Lib.OthersKept.refl _ _ _⟩
theorem row_kind {w : World} {B e : Nat} {v : Value} {n : Nat} {xs : List Value} (h : w.ownsRow B e 1 v n xs) : ∀ g, v.ownBlock = some g → ∃ c fz, w.heap[g]? = some (.cells c e fz) := fun g hg => by
  rcases h.2 with ⟨hv, _⟩ | ⟨k, cap, cur, hv, _, hh, _⟩
  · rw [hv] at hg; simp [Value.ownBlock] at hg
  · rw [hv] at hg
    simp [Value.ownBlock] at hg
    subst hg
    exact ⟨_, _, hh⟩
set_option maxHeartbeats 1000000 in
set_option maxRecDepth 100000 in
theorem writeString_c (B b : Nat) (s t : ByteArray) (w : World) (h : Bd B b s w) (hl : s.size + t.size ≤ 1000000000) (hB : B ≤ w.heap.size) :
    Calls Tryz.prog 129 #[.pointer (some ⟨b, 0, none⟩), .string t] w fun e w' => e = .returned (.tuple #[.int .i64 t.size, .nilIface]) ∧ Bd B b (s ++ t) w' ∧ Below B w w' ∧ Lib.OthersKept 5 (some b) w w' := by
  obtain ⟨i0, hi, hz0, hz1, hz2⟩ := info_parts infoByte
  have hcc := Lib.hid (copyCheck_c B b s w h)
  clear h
  go_enter Tryz.func129, Tryz.ntmps129
  go_wp2_with (go_at_call 130; (with_reducible refine (hcc.out).mono ?_))
  rintro e w1 ⟨rfl, h1, hb1, hk1⟩
  have h1L := h1.lt
  obtain ⟨hBb, v, hbk, hown, hne⟩ := h1
  have c1 : w1.cell? ⟨b, 1, none⟩ = some v := by rw [Lib.cell_of_heap hbk]; rfl
  have hB1 := hb1.size
  go_wp2_with (at_builtin; refine Lib.wpList_append_own_string _ rfl _ _ 22 9 rfl B 5 i0 (by kernel_rfl) (by kernel_rfl) hi hz0 hz1 hz2 _ _ _ rfl hown t rfl ?c3 ?c4 ?c5 ?_)
  case c3 => rw [Lib.strCells_length]; unfold maxLen; omega
  case c4 => rw [Lib.strCells_length]; omega
  case c5 => omega
  intro v' w2 hown' hgrow _
  have hb2 : w2.heap[b]? = some (.cells #[.pointer (some ⟨b, 0, none⟩), v] 73 (0, 0)) := by
    rw [hgrow.block b h1L (fun e => hne e.symm)]
    exact hbk
  have d1 : w2.cell? ⟨b, 1, none⟩ = some v := by rw [Lib.cell_of_heap hb2]; rfl
  have f1 : w2.frozen? ⟨b, 1, none⟩ = false := Lib.frozen_of_heap hb2 1
  have hbz : b < w2.heap.size := (Array.getElem?_eq_some_iff.1 hb2).1
  have hgs := hgrow.size
  obtain ⟨ao, n', cap, rfl⟩ : ∃ ao n' cap, v' = .slice ao n' cap := by
    rcases hown'.2 with ⟨hv, _⟩ | ⟨g, cap, cur, hv, _⟩
    · exact ⟨_, _, _, hv⟩
    · exact ⟨_, _, _, hv⟩
  clear c1
  go_wp2
  go_ret2
  refine ⟨rfl, .inr ?_, ?_, (hk1.grown hgrow (row_kind hown)).setCell ⟨b, 1, none⟩ rfl _⟩
  · refine Lib.BuilderAt.put hBb hb2 ?_ (by decide)
    rw [strCells_append, List.length_append, Lib.strCells_length t]
    exact hown'
  · exact (hb1.grown hgrow (by omega) (fun k hk => (hown.lt k hk).1)).setCell (p := ⟨b, 1, none⟩) hBb _
end Go.Proofs.YthpnkcamjcohgaaGreatDoor
