/- A row of bytes that began as a converted string: appends, and back to a string. -/
import Derived.Test.YthpnkcamjcohgaaGreatDoorLJoinedJobsK05
import Derived.Lib.FrozenHead2
import Derived.Lib.ConvBytes
namespace Go.Proofs.YthpnkcamjcohgaaGreatDoor
set_option linter.unusedVariables false
set_option linter.unusedSimpArgs false
open Go.RowKit

/-- v owns the bytes s, in a block of B or beyond of which no cell is frozen. -/
def RowG (B : Nat) (w : World) (v : Value) (s : ByteArray) : Prop :=
  ∃ (g cap : Nat) (cur : Array Value) (fz : Nat × Nat), v = .slice (some ⟨g, 0, none⟩) s.size cap ∧ B ≤ g ∧ w.heap[g]? = some (.cells cur 5 fz) ∧ (cur.size ≤ fz.1 ∨ fz.2 = 0) ∧ s.size ≤ cap ∧ cap ≤ maxLen ∧ cur.size = cap ∧ cur.toList.take s.size = Lib.strCells s
theorem RowG.lt {B : Nat} {w : World} {v : Value} {s : ByteArray} (h : RowG B w v s) : ∀ k, v.ownBlock = some k → B ≤ k ∧ k < w.heap.size := fun k hk => by
  obtain ⟨g, cap, cur, fz, rfl, hB, hg, _⟩ := h
  simp [Value.ownBlock] at hk
  subst hk
  exact ⟨hB, (Array.getElem?_eq_some_iff.1 hg).1⟩
theorem RowG.ext {B : Nat} {w w' : World} {v : Value} {s : ByteArray} (h : RowG B w v s) (hx : Ext w w') : RowG B w' v s := by
  obtain ⟨g, cap, cur, fz, rfl, hB, hg, r⟩ := h
  exact ⟨g, cap, cur, fz, rfl, hB, by rw [hx.below.block g (Array.getElem?_eq_some_iff.1 hg).1]; exact hg, r⟩
theorem RowG.cells {B : Nat} {w : World} {g n c : Nat} {s : ByteArray} (h : RowG B w (.slice (some ⟨g, 0, none⟩) n c) s) : ∀ j u, (Lib.strCells s)[j]? = some u → w.cell? ⟨g, j, none⟩ = some u := fun j u hu => by
  obtain ⟨g', cap, cur, fz, e, hB, hg, _, _, _, _, ht⟩ := h
  simp at e
  obtain ⟨rfl, -⟩ := e
  rw [← ht, List.getElem?_take] at hu
  split at hu
  · simp only [World.cell?, hg]
    simpa using hu
  · cases hu
theorem store_free (P : Program) (g o : Nat) (t : TypeId) (fz : Nat × Nat) : ∀ (vs : List Value) (i : Nat) (cur : Array Value) (w : World), w.heap[g]? = some (.cells cur t fz) → (cur.size ≤ fz.1 ∨ fz.2 = 0) → o + i + vs.length ≤ cur.size → (∀ v ∈ vs, v.oneCell' = true) →
    (storeCells ⟨g, o, none⟩ vs i).run P w = .ok () (w.setRow g (cur.toList.take (o + i) ++ vs ++ cur.toList.drop (o + i + vs.length)).toArray)
  | [], i, cur, w, hg, _, _, _ => by
    simp only [storeCells, List.append_nil, List.length_nil, Nat.add_zero, List.take_append_drop, Array.toArray_toList]
    rw [setRow_self w g cur t fz hg]
    rfl
  | v :: rest, i, cur, w, hg, hfz, hl, h1 => by
    have hi : o + i < cur.size := by simp at hl; omega
    have hadd : (⟨g, o, none⟩ : Addr).add i = ⟨g, o + i, none⟩ := addr_add g o i
    have hcell : w.cell? ⟨g, o + i, none⟩ = some cur[o + i] := by simp [World.cell?, hg, hi]
    have hfro : w.frozen? ⟨g, o + i, none⟩ = false := by
      obtain ⟨lo, hi'⟩ := fz
      simp only [World.frozen?, hg, Bool.and_eq_false_iff, decide_eq_false_iff_not]
      simp only at hfz
      omega
    have hst : (store ((⟨g, o, none⟩ : Addr).add i) v).run P w = .ok () (w.setRow g (cur.setIfInBounds (o + i) v)) := by
      rw [hadd, run_store P w _ v _ (h1 v (by simp)), hcell]
      simp [hfro, setCell_eq_setRow w g (o + i) cur t fz v hg]
    have ih := store_free P g o t fz rest (i + 1) (cur.setIfInBounds (o + i) v) (w.setRow g (cur.setIfInBounds (o + i) v)) (setRow_heap w g cur _ t _ hg) (by simpa using hfz) (by simp at hl ⊢; omega) (fun x hx => h1 x (by simp [hx]))
    simp only [storeCells, Sem.run_bind, hst, Result.andThen_ok, ih, setRow_setRow]
    congr 3
    have e := list_seg_step cur.toList (o + i) v rest (by simp at hl ⊢; omega)
    simpa [Array.toList_setIfInBounds, Nat.add_assoc] using e
theorem RowG.grew {B : Nat} {w : World} {s t : ByteArray} {g cap : Nat} {cur : Array Value} {fz : Nat × Nat} (hB : B ≤ g) (hg : w.heap[g]? = some (.cells cur 5 fz)) (hf : cur.size ≤ fz.1 ∨ fz.2 = 0) (hcm : cap ≤ maxLen) (hcs : cur.size = cap) (ht : cur.toList.take s.size = Lib.strCells s) (hroom : s.size + t.size ≤ cap) :
    RowG B (w.setRow g (cur.toList.take s.size ++ Lib.strCells t ++ cur.toList.drop (s.size + t.size)).toArray) (.slice (some ⟨g, 0, none⟩) (s.size + t.size) cap) (s ++ t) := by
  have hl : (cur.toList.take s.size ++ Lib.strCells t ++ cur.toList.drop (s.size + t.size)).length = cap := by
    simp only [List.length_append, List.length_take, List.length_drop, Array.length_toList, Lib.strCells_length]
    omega
  refine ⟨g, cap, _, fz, by rw [ByteArray.size_append], hB, setRow_heap w g cur _ _ _ hg, ?_, by rw [ByteArray.size_append]; exact hroom, hcm, ?_, ?_⟩
  · rw [List.size_toArray, hl, ← hcs]; exact hf
  · rw [List.size_toArray, hl]
  · rw [List.toList_toArray, ht, strCells_append, ByteArray.size_append, ← strCells_append]
    have h2 : (Lib.strCells (s ++ t)).length = s.size + t.size := by rw [Lib.strCells_length, ByteArray.size_append]
    rw [← h2]
    exact List.take_left
theorem RowG.fresh {B : Nat} {w : World} {s t : ByteArray} {cap : Nat} (hB : B ≤ w.heap.size) (hge : s.size + t.size ≤ cap) (hcm : cap ≤ maxLen) :
    RowG B (w.drew.alloc (.cells ((Lib.strCells s).toArray ++ (Lib.strCells t).toArray ++ Builtin.zeroCells (Value.int IntKind.u8 0).cells (cap - (s.size + t.size))) 5)) (.slice (some ⟨w.heap.size, 0, none⟩) (s.size + t.size) cap) (s ++ t) := by
  have hz1 : (Value.int IntKind.u8 0).cells.size = 1 := rfl
  refine ⟨w.heap.size, cap, _, (0, 0), by rw [ByteArray.size_append], hB, heap_alloc_new w.drew _, .inr rfl, by rw [ByteArray.size_append]; exact hge, hcm, ?_, ?_⟩
  · simp only [Array.size_append, List.size_toArray, size_zeroCells, hz1, Lib.strCells_length]
    omega
  · simp only [Array.toList_append, List.toList_toArray]
    have h2 : (Lib.strCells s ++ Lib.strCells t).length = (s ++ t).size := by rw [List.length_append, Lib.strCells_length, Lib.strCells_length, ByteArray.size_append]
    rw [← h2, strCells_append]
    exact List.take_left
theorem RowG.made {w : World} {s : ByteArray} (hs : s.size ≤ 1000000000) : RowG w.heap.size (Lib.bytesWorld w 5 s) (.slice (some ⟨w.heap.size, 0, none⟩) s.size (grownCap w s.size 0 5)) s := by
  have hge := grownCap_ge w s.size 0 5
  have hle := grownCap_le_maxLen w s.size 0 5 (by unfold maxLen; omega)
  have hcz : (Lib.bytesCells w 5 s).size = grownCap w s.size 0 5 := by
    unfold Lib.bytesCells
    rw [Array.size_append, Array.size_map, Array.size_replicate]
    have : s.data.size = s.size := rfl
    omega
  refine ⟨w.heap.size, _, _, _, rfl, Nat.le_refl _, Lib.bytesWorld_at_new w _ s, .inl (Nat.le_refl _), hge, hle, hcz, ?_⟩
  unfold Lib.bytesCells
  simp only [Array.toList_append, Array.toList_map]
  have h2 : (s.data.toList.map fun b => Value.int .u8 (b.toNat : Int)).length = s.size := by simp
  rw [← h2]
  exact List.take_left
theorem RowG.conv {B : Nat} {w : World} {v : Value} {s : ByteArray} (h : RowG B w v s) : (convert 22 9 v).run Tryz.prog w = .ok (.string s) w := by
  have u1 : Tryz.prog.underlying 22 = some (.slice 5) := by kernel_rfl
  have u2 : Tryz.prog.underlying 5 = some (.int .u8) := by kernel_rfl
  have u3 : Tryz.prog.underlying 9 = some .string := by kernel_rfl
  have h' := h
  obtain ⟨g, cap, cur, fz, rfl, r⟩ := h
  have hl : s.data.toList.length = s.size := by simp
  have := run_convert_bytes_back (P := Tryz.prog) w 22 9 5 ⟨g, 0, none⟩ cap s.data.toList u1 u2 u3 (fun j hj => by
    have hj2 : j < s.size := by omega
    rw [addr_add, Nat.zero_add]
    refine h'.cells j _ ?_
    simp [Lib.strCells, hj2])
  rw [hl] at this
  exact this
section
variable {ops : Array Oper} {Q : Exit → Act → World → Prop} {rest : List Oper} {a : Act} {dst : Option Tmp} {sl x : Operand} {ty : TypeId} {pos : String} {after : Array Edge} {B : Nat} {w0 : World} {v : Value} {s : ByteArray}
theorem run_appendSG {t : ByteArray} (ty : TypeId) (h : RowG B w0 v s) (hl : s.size + t.size ≤ 1000000000) (hB : B ≤ w0.heap.size) :
    ∃ v' w', (Builtin.append_ #[22, 9] ty #[v, .string t]).run Tryz.prog w0 = .ok v' w' ∧ RowG B w' v' (s ++ t) ∧ w0.grownBy w' v.ownBlock := by
  obtain ⟨i0, hi, hz0, hz1, hz2⟩ := info_parts infoByte
  have h' := h
  obtain ⟨g, cap, cur, fz, rfl, hBg, hg, hf, hsc, hcm, hcs, ht⟩ := h
  by_cases hroom : s.size + t.size ≤ cap
  · have hst := store_free Tryz.prog g s.size 5 fz (Lib.strCells t) 0 cur w0 hg hf (by rw [Lib.strCells_length]; omega) (Lib.strCells_oneCell t)
    have hfc := Lib.run_firstCells_string (P := Tryz.prog) w0 1 t
    simp only [Nat.add_zero, Lib.strCells_length] at hst
    refine ⟨_, _, ?_, RowG.grew hBg hg hf hcm hcs ht hroom, ⟨rfl, rfl, rfl, by simp, fun k _ hk => setRow_other w0 g k _ (fun e => hk (by simp [Value.ownBlock, e]))⟩⟩
    simp [Builtin.append_, run_underlying (show Tryz.prog.underlying 22 = some (.slice 5) by kernel_rfl), run_underlying (show Tryz.prog.underlying 9 = some .string by kernel_rfl), sizeOf, typeInfo, hi, hz1, Builtin.lenOf, hroom, hfc, Addr.add_lit, hst]
  · have hm : s.size + t.size ≤ maxLen := by unfold maxLen; omega
    have hr := Lib.run_append_grow_string (P := Tryz.prog) w0 22 9 ty 5 i0 (.int .u8 0) (by kernel_rfl) (by kernel_rfl) hi hz0 ⟨g, 0, none⟩ s.size cap (Lib.strCells s) (by rw [hz1, Lib.strCells_length]; omega) (fun j u hu => by rw [addr_add, Nat.zero_add]; exact h'.cells j u hu) t (by omega) (by omega) (by rw [hz2]; exact growslice_fits (by omega) (by omega))
    have hge := grownCap_ge w0 (s.size + t.size) cap 5
    have hle := grownCap_le_maxLen w0 (s.size + t.size) cap 5 hm
    exact ⟨_, _, hr, RowG.fresh hB hge hle, ⟨rfl, rfl, rfl, by simp, fun k hk _ => Below.heap_alloc w0.drew _ k hk⟩⟩
theorem appendSG {t : ByteArray} (hown : RowG B w0 v s) (hl : s.size + t.size ≤ 1000000000) (hB : B ≤ w0.heap.size)
    (h : ∀ v' w', RowG B w' v' (s ++ t) → w0.grownBy w' v.ownBlock → wpList Tryz.prog ops Q rest (a.put dst v') w') (hs : a.eval sl = v) (hx : a.eval x = .string t) :
    wpList Tryz.prog ops Q (⟨dst, .call { callee := .builtin .append, args := #[sl, x], argTypes := #[22, 9] }, ty, pos, after, none⟩ :: rest) a w0 := by
  refine wpList_plain rfl fun K hK => ?_
  obtain ⟨v', w', hr, h2, h3⟩ := run_appendSG (t := t) ty hown hl hB
  unfold Oper.wp execOp
  simp only [resolve, invoke, builtin, Sem.run_bind, Sem.run_pure, Result.andThen_ok, List.map_toArray, List.map_cons, List.map_nil, hs, hx, hr]
  exact hK _ _ (h v' w' h2 h3)
theorem run_append1G {n : UInt8} (ty : TypeId) (h : RowG B w0 v s) (hl : s.size ≤ 1000000000) (hB : B ≤ w0.heap.size) :
    ∃ v' w', (Builtin.append_ #[22, 22] ty #[v, .slice (some ⟨w0.heap.size, 0, none⟩) 1 1]).run Tryz.prog (w0.alloc (.cells #[.int .u8 n.toNat] 5)) = .ok v' w' ∧ RowG B w' v' (s ++ ⟨#[n]⟩) ∧ (w0.alloc (.cells #[.int .u8 n.toNat] 5)).grownBy w' v.ownBlock := by
  obtain ⟨i0, hi, hz0, hz1, hz2⟩ := info_parts infoByte
  have hx1 : Ext w0 (w0.alloc (.cells #[.int .u8 n.toNat] 5)) := (Ext.refl w0).alloc _
  have hnew : (w0.alloc (.cells #[.int .u8 n.toNat] 5)).heap[w0.heap.size]? = some (.cells #[.int .u8 n.toNat] 5) := (MapKept.heap_alloc w0 _).1
  have hsz : (w0.alloc (.cells #[.int .u8 n.toNat] 5)).heap.size = w0.heap.size + 1 := by simp
  generalize w0.alloc (.cells #[.int .u8 n.toNat] 5) = w1 at *
  have h1 := h.ext hx1
  have h' := h1
  obtain ⟨g, cap, cur, fz, rfl, hBg, hg, hf, hsc, hcm, hcs, ht⟩ := h1
  have hc1 : Lib.strCells ⟨#[n]⟩ = [.int .u8 (n.toNat : Int)] := by simp [Lib.strCells]
  have hsz1 : (⟨#[n]⟩ : ByteArray).size = 1 := rfl
  have hnews : ∀ j u, (Lib.strCells ⟨#[n]⟩)[j]? = some u → w1.cell? ((⟨w0.heap.size, 0, none⟩ : Addr).add j) = some u := fun j u hu => by
    rw [addr_add, Nat.zero_add]
    rw [hc1] at hu
    match j, hu with
    | 0, hu =>
      simp at hu
      subst hu
      simp only [World.cell?, hnew]
      rfl
    | j + 1, hu => simp at hu
  by_cases hroom : s.size + 1 ≤ cap
  · have hst := store_free Tryz.prog g s.size 5 fz (Lib.strCells ⟨#[n]⟩) 0 cur w1 hg hf (by rw [Lib.strCells_length, hsz1]; omega) (Lib.strCells_oneCell _)
    have hfc := run_firstCells_some (P := Tryz.prog) w1 1 1 ⟨w0.heap.size, 0, none⟩ 1 1 (Lib.strCells ⟨#[n]⟩) (by rw [Lib.strCells_length]; rfl) hnews
    simp only [Nat.add_zero, Lib.strCells_length, hsz1] at hst
    have hgr := RowG.grew (t := ⟨#[n]⟩) hBg hg hf hcm hcs ht (by rw [hsz1]; exact hroom)
    rw [hsz1] at hgr
    refine ⟨_, _, ?_, hgr, ⟨rfl, rfl, rfl, by simp, fun k _ hk => setRow_other w1 g k _ (fun e => hk (by simp [Value.ownBlock, e]))⟩⟩
    simp [Builtin.append_, run_underlying (show Tryz.prog.underlying 22 = some (.slice 5) by kernel_rfl), sizeOf, typeInfo, hi, hz1, Builtin.lenOf, hroom, hfc, Addr.add_lit, hst]
  · have hm : s.size + 1 ≤ maxLen := by unfold maxLen; omega
    have hr := run_append_grow (P := Tryz.prog) w1 22 ty 5 i0 (.int .u8 0) (by kernel_rfl) hi hz0 ⟨g, 0, none⟩ s.size cap (Lib.strCells s) (by rw [hz1, Lib.strCells_length]; omega) (fun j u hu => by rw [addr_add, Nat.zero_add]; exact h'.cells j u hu) ⟨w0.heap.size, 0, none⟩ 1 1 (Lib.strCells ⟨#[n]⟩) (by rw [hz1, Lib.strCells_length]; rfl) hnews (by omega) (by omega) (by rw [hz2]; exact growslice_fits (by omega) (by omega))
    have hge := grownCap_ge w1 (s.size + 1) cap 5
    have hle := grownCap_le_maxLen w1 (s.size + 1) cap 5 hm
    exact ⟨_, _, hr, RowG.fresh (t := ⟨#[n]⟩) (by omega) hge hle, ⟨rfl, rfl, rfl, by simp, fun k hk _ => Below.heap_alloc w1.drew _ k hk⟩⟩
theorem append1G {n : UInt8} (hown : RowG B w0 v s) (hl : s.size ≤ 1000000000) (hB : B ≤ w0.heap.size) {cv : Value} (hcv : cv = .int .u8 n.toNat)
    (h : ∀ v' w', RowG B w' v' (s ++ ⟨#[n]⟩) → (w0.alloc (.cells #[cv] 5)).grownBy w' v.ownBlock → wpList Tryz.prog ops Q rest (a.put dst v') w') (hs : a.eval sl = v) (hx : a.eval x = .slice (some ⟨w0.heap.size, 0, none⟩) 1 1) :
    wpList Tryz.prog ops Q (⟨dst, .call { callee := .builtin .append, args := #[sl, x], argTypes := #[22, 22] }, ty, pos, after, none⟩ :: rest) a (w0.alloc (.cells #[cv] 5)) := by
  subst hcv
  refine wpList_plain rfl fun K hK => ?_
  obtain ⟨v', w', hr, h2, h3⟩ := run_append1G (n := n) ty hown hl hB
  unfold Oper.wp execOp
  simp only [resolve, invoke, builtin, Sem.run_bind, Sem.run_pure, Result.andThen_ok, List.map_toArray, List.map_cons, List.map_nil, hs, hx, hr]
  exact hK _ _ (h v' w' h2 h3)
end
end Go.Proofs.YthpnkcamjcohgaaGreatDoor
