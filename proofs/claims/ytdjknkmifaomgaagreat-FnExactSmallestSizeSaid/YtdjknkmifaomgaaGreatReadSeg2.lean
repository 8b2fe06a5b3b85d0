
/- How the program reads a segment. -/
import Derived.Test.YtdjknkmifaomgaaGreatWriteI
import Derived.Test.YtdjknkmifaomgaaGreatInts
import Derived.Test.YtdjknkmifaomgaaGreatSegMath3
/-! How the program reads a segment. -/
namespace Go.Proofs.YtdjknkmifaomgaaGreat
set_option linter.unusedVariables false
set_option linter.unusedSimpArgs false
open Go.RowKit

def chr (m v : Int) : UInt8 := if m = 4 then UInt8.ofNat v.toNat else (modeSet m).data.toList.getD v.toNat 0
/-- g divided j times by b. -/
def gq (g b : Int) : Nat → Int
  | 0 => g
  | j + 1 => gq g b j / b
theorem gq_bd {g b : Int} (hg : 0 ≤ g ∧ g ≤ 1099511627776) (hb : 1 ≤ b) : ∀ j, 0 ≤ gq g b j ∧ gq g b j ≤ 1099511627776 := by
  intro j
  induction j with
  | zero => exact hg
  | succ j ih =>
    have h1 : 0 ≤ gq g b j / b := Int.ediv_nonneg ih.1 (by omega)
    have h2 : gq g b j / b ≤ gq g b j := Int.ediv_le_self _ ih.1
    simp only [gq]
    omega
/-- The bytes of a group of n. -/
def dig (m g : Int) (n : Nat) : List UInt8 := (List.range n).map fun i => chr m (gq g (iBase m) (n - 1 - i) % iBase m)
theorem dig_len (m g : Int) (n : Nat) : (dig m g n).length = n := by simp [dig]
/-- The groups from the bit a on, for c bytes. -/
def rdG (m : Int) (xs : List Int) : Nat → Nat → Nat → Option (ByteArray × Nat)
  | 0, a, c => if c = 0 then some (ByteArray.empty, a) else none
  | f + 1, a, c => if c = 0 then some (ByteArray.empty, a) else
    if 0 < gq (numAt xs a (wid m (min (grp m).toNat c : Nat)).toNat) (iBase m) (min (grp m).toNat c) then none
    else (rdG m xs f (a + (wid m (min (grp m).toNat c : Nat)).toNat) (c - min (grp m).toNat c)).map fun r => (⟨(dig m (numAt xs a (wid m (min (grp m).toNat c : Nat)).toNat) (min (grp m).toNat c)).toArray⟩ ++ r.1, r.2)
theorem rdG_zero (m : Int) (xs : List Int) (f a : Nat) : rdG m xs f a 0 = some (ByteArray.empty, a) := by
  cases f <;> rfl
/-- A segment that is written from the bit a on. -/
def rdS (xs : List Int) (a : Nat) : Option (Int × ByteArray × Nat) :=
  if xs.length < a + 11 then none
  else if ¬ (1 ≤ numAt xs a 3 ∧ numAt xs a 3 ≤ 4) ∨ numAt xs (a + 3) 8 = 0 ∨ (xs.length : Int) < a + 11 + textW (numAt xs a 3) (numAt xs (a + 3) 8) then none
  else (rdG (numAt xs a 3) xs (numAt xs (a + 3) 8).toNat (a + 11) (numAt xs (a + 3) 8).toNat).map fun r => (numAt xs a 3, r.1, r.2)

theorem iBase_pos (m : Int) : 1 ≤ iBase m := by
  unfold iBase
  (repeat' split) <;> omega
theorem iBase_size {m : Int} (hm : 1 ≤ m ∧ m ≤ 3) : ((modeSet m).size : Int) = iBase m := by
  have : m = 1 ∨ m = 2 ∨ m = 3 := by omega
  rcases this with rfl | rfl | rfl <;> rfl
/-- The last j bytes of a group stand in the cells. -/
def PTab (m g : Int) (n : Nat) (cs : Array Value) (j : Nat) : Prop := cs.size = n ∧ ∀ q, q < n → n ≤ q + j → cs[q]? = some (.int .u8 (chr m (gq g (iBase m) (n - 1 - q) % iBase m)).toNat)
theorem PTab.step {m g : Int} {n : Nat} {cs : Array Value} {j : Nat} (h : PTab m g n cs j) (hj : j < n) : PTab m g n (cs.setIfInBounds (n - 1 - j) (.int .u8 (chr m (gq g (iBase m) j % iBase m)).toNat)) (j + 1) := by
  refine ⟨by simpa using h.1, fun q h1 h2 => ?_⟩
  by_cases e : q = n - 1 - j
  · subst e
    rw [Array.getElem?_setIfInBounds_self_of_lt (by rw [h.1]; omega), show n - 1 - (n - 1 - j) = j by omega]
  · rw [Array.getElem?_setIfInBounds_ne (by omega)]
    exact h.2 q h1 (by omega)
theorem PTab.all {m g : Int} {n : Nat} {cs : Array Value} (h : PTab m g n cs n) : cs.toList = Lib.strCells ⟨(dig m g n).toArray⟩ := by
  apply List.ext_getElem?
  intro q
  by_cases hq : q < n
  · have := h.2 q hq (by omega)
    rw [Array.getElem?_toList, this]
    simp [Lib.strCells, dig, hq]
  · rw [List.getElem?_eq_none (by rw [Array.length_toList, h.1]; omega), List.getElem?_eq_none (by simp [Lib.strCells, dig]; omega)]
end Go.Proofs.YtdjknkmifaomgaaGreat

/-! The walk of readSegment. -/
namespace Go.Proofs.YtdjknkmifaomgaaGreat
set_option linter.unusedVariables false
set_option linter.unusedSimpArgs false
open Go.RowKit

section
variable {ops : Array Oper} {Q : Exit → Act → World → Prop} {rest : List Oper} {a : Act} {dst : Option Tmp} {s x : Operand} {ty : TypeId} {pos : String} {after : Array Edge} {B : Nat} {w0 : World} {v : Value} {xs : ByteArray}
theorem appendBB {t : ByteArray} {g c : Nat} {cs : Array Value} (hown : RowB B w0 v xs) (hb : Blk w0 g cs 5) (hcs : cs.toList = Lib.strCells t) (hlen : xs.size + t.size < 1099511627776) (hB : B ≤ w0.heap.size)
    (h : ∀ v' w', RowB B w' v' (xs ++ t) → Below B w0 w' → wpList Tryz.prog ops Q rest (a.put dst v') w') (hs : a.eval s = v) (n : Nat) (hn : t.size = n) (hx : a.eval x = .slice (some ⟨g, 0, none⟩) n c) :
    wpList Tryz.prog ops Q (⟨dst, .call { callee := .builtin .append, args := #[s, x], argTypes := #[36, 36] }, ty, pos, after, none⟩ :: rest) a w0 := by
  subst hn
  obtain ⟨i0, hi, hz0, hz1, hz2⟩ := info_parts infoByte
  refine wpList_append_own _ rfl s x 36 rfl B 5 i0 (.int .u8 0) 1 1 Tryz.underlying36 hi hz0 hz1 hz2 rfl (by decide) v xs.size (Lib.strCells xs) hs hown ⟨g, 0, none⟩ t.size c (Lib.strCells t) hx (by rw [Lib.strCells_length, Nat.mul_one]) ?_ (Lib.strCells_oneCell t) (by unfold maxLen; omega) (by omega) hB ?_
  · intro j u hj
    rw [addr_add, Nat.zero_add]
    refine hb.cell ?_
    rw [← Array.getElem?_toList, hcs]
    exact hj
  · intro v' w' h1 h2 _
    refine h v' w' ?_ ?_
    · unfold RowB
      rw [strCells_append, ByteArray.size_append]
      exact h1
    · exact Below.grown (Below.refl B w0) h2 hB (fun k hk => (hown.lt k hk).1)
end

theorem make_cap {ops : Array Oper} {rest : List Oper} {dst : Option Tmp} {ty : TypeId} {pos : String} {after : Array Edge} {a : Act} {w : World} {Q : Exit → Act → World → Prop} {t e : TypeId} {z : Value} {size bytes : Nat} {l c : Operand}
    (ht : Tryz.prog.underlying t = some (.slice e)) (hinfo : (Tryz.prog.info? e).map (fun i => (i.zero, i.size, i.bytes)) = some (some z, size, bytes)) (n : Nat)
    (hl : a.eval l = .int .i64 0) (hc : a.eval c = .int .i64 n) (hb : bytes * n ≤ 281474976710656) (hn : n ≤ 281474976710656)
    (h : wpList Tryz.prog ops Q rest (a.put dst (.slice (some ⟨w.heap.size, 0, none⟩) 0 n)) (w.alloc (.cells (madeCells z.cells (n * size)) e))) :
    wpList Tryz.prog ops Q (⟨dst, .makeSlice t l c, ty, pos, after, none⟩ :: rest) a w := by
  obtain ⟨i, hi, hzz⟩ := Option.map_eq_some_iff.1 hinfo
  simp only [Prod.mk.injEq] at hzz
  obtain ⟨hz, hs, hb'⟩ := hzz
  subst hs
  refine wpList_plain rfl fun K hK' => ?_
  have hb2 : (i.bytes : Int) * (n : Int) ≤ 281474976710656 := by
    have h : ((i.bytes * n : Nat) : Int) ≤ 281474976710656 := by rw [hb']; omega
    rwa [Int.natCast_mul] at h
  have hr := run_make (P := Tryz.prog) w t e i z ht hi hz .i64 .i64 0 n (by omega) (by omega) hb2 (by omega)
  simp only [Int.toNat_natCast] at hr
  unfold Oper.wp
  simp [execOp, hl, hc, hr, Result.andThen]
  exact hK' _ _ h

/-- The answer of readSegment. -/
def rdR (xs : List Int) (a : Nat) (e : Ending) : Prop :=
  (∃ (m : Int) (t : ByteArray) (b : Nat), rdS xs a = some (m, t, b) ∧ e = .returned (.tuple #[vSeg m t, .int .i64 b, .bool true])) ∨ (rdS xs a = none ∧ e = .returned (.tuple #[vSeg 0 ⟨#[]⟩, .int .i64 0, .bool false]))

end Go.Proofs.YtdjknkmifaomgaaGreat

/-! readSegment, whole. -/
namespace Go.Proofs.YtdjknkmifaomgaaGreat
set_option linter.unusedVariables false
set_option linter.unusedSimpArgs false
open Go.RowKit

end Go.Proofs.YtdjknkmifaomgaaGreat
