/- WriteSegment. -/
import Derived.Test.YtdnkljpnhmcnpaaGreatLBoundedDamageK12
import Derived.Test.YtdnkljpnhmcnpaaGreatLBoundedDamageK03
import Derived.Test.YtdnkljpnhmcnpaaGreatLBoundedDamageK04
import Derived.Test.YtdnkljpnhmcnpaaGreatLBoundedDamageK02
import Derived.Test.YtdnkljpnhmcnpaaGreatLBoundedDamageK06
import Derived.Test.YtdnkljpnhmcnpaaGreatLBoundedDamageK01
import Derived.Test.YtdnkljpnhmcnpaaGreatLBoundedDamageK09
import Derived.Conc.LoneCalls
import Derived.Deep.Cut
import Derived.Test.YtdnkljpnhmcnpaaGreatLBoundedDamageK08
import Derived.Test.YtdnkljpnhmcnpaaGreatLBoundedDamageK00
import Derived.Deep.DeepCutAuto
import Derived.Deep.CutBlock
set_option linter.unusedVariables false
set_option linter.unusedSimpArgs false
namespace Go.Proofs.YtdnkljpnhmcnpaaGreat
open Go.RowKit

def intF (x : Int) : List Value := [.int .i64 x]
theorem intF_len (x : Int) : (intF x).length = 1 := rfl
theorem SOwn.ints {B : Nat} {w : World} {p : Option Addr} {xs : List Int} (h : SOwn intF 1 B w p xs) : OwnInts B w p xs := fun i hi => by
 obtain ⟨b, o, h1, hB, h2, h3, h4⟩ := h i hi
 refine ⟨b, o, h1, hB, h2, ?_, h4 _⟩
 have := h3 0 (.int .i64 (xs[i]'hi)) rfl
 rw [Nat.mul_one, Nat.add_zero] at this
 rw [this, List.getD_eq_getElem?_getD, List.getElem?_eq_getElem hi]
 rfl
theorem toInt64S_c (p : Option Addr) (c : Nat) (xs : List Int) (w : World) (hx : IntsAt w p xs) (hl : xs.length ≤ 1048576) :
  Calls Tryz.prog 33 #[.slice p xs.length c] w fun e w' => (∃ q, e = .returned (.slice q xs.length xs.length) ∧ OwnInts w.heap.size w' q xs) ∧ Ext w w' := by
 have hI1 : Tryz.prog.underlying 22 = some (.slice 2) := by kernel_rfl
 have hI2 := infoInt
 go_enter Tryz.func33, Tryz.ntmps33
 go_wp2_with (first | (at_make; go_loud (refine make_blk hI1 hI2 xs.length ?_ ?_ (by omega) (by omega) ?_; rfl; rfl)))
 have hb := Blk.new w (madeCells #[.int .i64 0] xs.length) 2
 clear hI1 hI2
 go_loopw [4] (fun i wr => ∃ (k : Nat) (cs : Array Value), k ≤ xs.length ∧ i = .int .i64 k ∧ Blk wr w.heap.size cs 2 ∧ Hid (TabS intF 1 xs cs k) ∧ Ext w wr) (fun i _ => xs.length - (intOf i).toNat)
 case atStart => exact ⟨0, _, Nat.zero_le _, rfl, hb, Lib.hid ⟨(size_madeCells _ _).trans (Nat.mul_one _).symm, fun j _ h => by omega⟩, eX⟩
 case round =>
  clear hb
  obtain ⟨k, cs, hk, rfl, hb, hT, hext⟩ := hrel
  by_cases hlt : k < xs.length
  ·obtain ⟨b, o, rfl, hbl, h0⟩ := (hx.ext hext) k hlt
   have hT2 := Lib.hid (hT.out.step intF_len hlt)
   have hn := hT.out.1
   clear hx
   obtain ⟨z0, z0'⟩ : ∃ v, cs[k]? = some v := ⟨_, Array.getElem?_eq_getElem (by omega)⟩
   have q0 := hb.cell z0'
   have q2 := hb.lt
   have q3 := hb.free
   go_wp2
   go_roundw
   case rel =>
    refine ⟨k + 1, _, hlt, by go_num, hb.set _ _, ?_, hext.setCell (Nat.le_refl _) _⟩
    have := hT2.out
    simp only [intF, putL, Nat.mul_one] at this
    exact Lib.hid this
   case measure => simp [intOf]; omega
  ·clear hx
   obtain rfl : k = xs.length := by omega
   go_wp2
   go_ret
   exact ⟨⟨_, rfl, (hT.out.own intF_len hb (Nat.le_refl _)).ints⟩, hext⟩

def LC (B : Nat) (L : List Int) (code : Int) (e : Ending) (w' : World) : Prop := ∃ p c, e = .returned (.tuple #[.slice p L.length c, .int .i64 code]) ∧ OwnInts B w' p L ∧ L.length ≤ c
theorem LC.of {B : Nat} {L : List Int} {code : Int} {w : World} {v : Value} (h : RowI B w v L) : LC B L code (.returned (.tuple #[v, .int .i64 code])) w := by
 obtain ⟨p, c, rfl, ho, hc⟩ := h.ownC
 exact ⟨p, c, rfl, ho, hc⟩
theorem LC.nil {B : Nat} {code : Int} {w : World} : LC B [] code (.returned (.tuple #[.slice none 0 0, .int .i64 code])) w := ⟨none, 0, rfl, OwnInts.nil _ _ _, Nat.le_refl _⟩

end Go.Proofs.YtdnkljpnhmcnpaaGreat
/- How the laws copy, compare and mark grids. -/
namespace Go.Proofs.YtdnkljpnhmcnpaaGreat
open Go.RowKit

theorem OwnInts.setFar {B g i : Nat} {w : World} {q : Option Addr} {xs : List Int} {v : Value} (h : OwnInts B w q xs) (hg : g < B) : OwnInts B (w.setCell ⟨g, i, none⟩ v) q xs := by
 refine h.keep (by simp [World.setCell]) fun b o hn hq _ => ?_
 have := h.lt0 hn hq
 exact Below.heap_setCell w ⟨g, i, none⟩ v b (by show b ≠ g; omega)
end Go.Proofs.YtdnkljpnhmcnpaaGreat
/- The drawing of inputs: the source of numbers. -/
namespace Go.Proofs.YtdnkljpnhmcnpaaGreat
open Go.RowKit

def U8At (w : World) (p : Option Addr) (xs : List Int) : Prop :=
 ∀ i, i < xs.length → ∃ b o, p = some ⟨b, o, none⟩ ∧ b < w.heap.size ∧ w.cell? ⟨b, o + i, none⟩ = some (.int .u8 (xs.getD i 0)) ∧ 0 ≤ xs.getD i 0 ∧ xs.getD i 0 ≤ 255
theorem U8At.ext {w w' : World} {p : Option Addr} {xs : List Int} (h : U8At w p xs) (hb : Ext w w') : U8At w' p xs := fun i hi => by
 obtain ⟨b, o, h1, h2, h3, h4⟩ := h i hi
 exact ⟨b, o, h1, Nat.lt_of_lt_of_le h2 hb.below.size, by rw [(ecell hb).1 _ _ h2]; exact h3, h4⟩
theorem U8At.but {g : Nat} {w w' : World} {p : Option Addr} {xs : List Int} (h : U8At w p xs) (hb : But g w w') (hp : ∀ b o, 0 < xs.length → p = some ⟨b, o, none⟩ → b ≠ g) : U8At w' p xs := fun i hi => by
 obtain ⟨b, o, h1, h2, h3, h4⟩ := h i hi
 exact ⟨b, o, h1, Nat.lt_of_lt_of_le h2 hb.size, (World.cell?_of_block (a := ⟨b, o + i, none⟩) (hb.block b h2 (hp _ _ (by omega) h1))).trans h3, h4⟩
def Src (n0 : Nat) (w : World) (g : Nat) : Prop := g < n0 ∧ ∃ (p : Option Addr) (code : List Int) (c i : Nat) (sd : Int), Blk w g #[.slice p code.length c, .int .i64 i, .int .i64 sd] 137 ∧ U8At w p code ∧ (∀ b o, 0 < code.length → p = some ⟨b, o, none⟩ → b ≠ g ∧ b < n0) ∧ i ≤ code.length ∧ code.length ≤ 4096 ∧ 0 ≤ sd ∧ sd < 2147483647
theorem Src.ext {n0 : Nat} {w w' : World} {g : Nat} (h : Src n0 w g) (hb : Ext w w') : Src n0 w' g := by
 obtain ⟨hg, p, code, c, i, sd, h1, h2, h3⟩ := h
 exact ⟨hg, p, code, c, i, sd, h1.ext hb, h2.ext hb, h3⟩
theorem Src.lt {n0 : Nat} {w : World} {g : Nat} (h : Src n0 w g) : g < w.heap.size := by
 obtain ⟨_, _, _, _, _, _, h1, _⟩ := h
 exact h1.lt
theorem Src.low {n0 B : Nat} {w w' : World} {g : Nat} (h : Src n0 w g) (hb : Below B w w') (hB : n0 ≤ B) : Src n0 w' g := by
 obtain ⟨hg, p, code, c, i, sd, h1, h2, h3, h4⟩ := h
 refine ⟨hg, p, code, c, i, sd, h1.low hb (by omega), fun k hk => ?_, h3, h4⟩
 obtain ⟨b, o, e, hlt, hc⟩ := h2 k hk
 exact ⟨b, o, e, Nat.lt_of_lt_of_le hlt hb.size, by rw [World.cell?_of_block (a := ⟨b, o + k, none⟩) (hb.block b (by have := (h3 b o (by omega) e).2; show b < B; omega))]; exact hc.1, hc.2⟩
theorem Src.up {n0 n1 : Nat} {w : World} {g : Nat} (h : Src n0 w g) (hn : n0 ≤ n1) : Src n1 w g := by
 obtain ⟨hg, p, code, c, i, sd, h1, h2, h3, h4⟩ := h
 exact ⟨by omega, p, code, c, i, sd, h1, h2, fun b o h e => by have := h3 b o h e; omega, h4⟩
open Go.RowKit

end Go.Proofs.YtdnkljpnhmcnpaaGreat
/- Drawn texts; names of modes. -/
namespace Go.Proofs.YtdnkljpnhmcnpaaGreat
open Go.RowKit

theorem RowB.but {g B : Nat} {a b : World} {v : Value} {s : ByteArray} (h : RowB B a v s) (k : But g a b) (hg : g < B) : RowB B b v s := by
 refine ⟨h.1, ?_⟩
 rcases h.2 with h2 | ⟨g', cap, cur, hv, hg', hh, r⟩
 ·exact .inl h2
 ·exact .inr ⟨g', cap, cur, hv, hg', by rw [k.block g' (Array.getElem?_eq_some_iff.1 hh).1 (by omega)]; exact hh, r⟩

open Go.RowKit

end Go.Proofs.YtdnkljpnhmcnpaaGreat
/- What was written is read again. -/
namespace Go.Proofs.YtdnkljpnhmcnpaaGreat
open Go.RowKit

open Go.RowKit

end Go.Proofs.YtdnkljpnhmcnpaaGreat
/- Drawn lists of bits and segments. -/
namespace Go.Proofs.YtdnkljpnhmcnpaaGreat
open Go.RowKit

theorem OwnInts.but {g B : Nat} {w w' : World} {p : Option Addr} {xs : List Int} (h : OwnInts B w p xs) (hb : But g w w') (hg : g < B) : OwnInts B w' p xs := fun i hi => by
 obtain ⟨b, o, h1, hB, h2, h3, h4⟩ := h i hi
 have hk := hb.block b h2 (by omega)
 exact ⟨b, o, h1, hB, Nat.lt_of_lt_of_le h2 hb.size, (World.cell?_of_block (a := ⟨b, o + i, none⟩) hk).trans h3, (World.frozen?_of_block (a := ⟨b, o + i, none⟩) hk).trans h4⟩
open Go.RowKit

theorem IntsAt.but {g : Nat} {w w' : World} {p : Option Addr} {xs : List Int} (h : IntsAt w p xs) (hb : But g w w') (hp : ∀ b o, 0 < xs.length → p = some ⟨b, o, none⟩ → b ≠ g) : IntsAt w' p xs := fun i hi => by
 obtain ⟨b, o, h1, h2, h3⟩ := h i hi
 have hk := hb.block b h2 (hp b o (by omega) h1)
 exact ⟨b, o, h1, Nat.lt_of_lt_of_le h2 hb.size, (World.cell?_of_block (a := ⟨b, o + i, none⟩) hk).trans h3⟩
end Go.Proofs.YtdnkljpnhmcnpaaGreat
/- The reference's best segments; marking lists of segments. -/
namespace Go.Proofs.YtdnkljpnhmcnpaaGreat
open Go.RowKit

open Go.RowKit

open Go.RowKit

theorem OwnCells.at {B : Nat} {w : World} {p : Option Addr} {P c R : List Value} (h : OwnCells B w p (P ++ (c ++ R))) {j n : Nat} (hn : n = P.length + j) (hj : j < c.length) :
  ∃ b o, p = some ⟨b, o, none⟩ ∧ B ≤ b ∧ b < w.heap.size ∧ w.cell? ⟨b, o + n, none⟩ = some (c[j]'hj) ∧ w.frozen? ⟨b, o + n, none⟩ = false := by
 subst hn
 obtain ⟨b, o, h1, h2, h3, h4, h5⟩ := h (P.length + j) (by simp; omega)
 refine ⟨b, o, h1, h2, h3, ?_, h5⟩
 rw [h4, List.getElem_append_right (by omega)]
 simp only [Nat.add_sub_cancel_left]
 rw [List.getElem_append_left hj]

open Go.RowKit

end Go.Proofs.YtdnkljpnhmcnpaaGreat
/- Drawn messages and segmentations. -/
namespace Go.Proofs.YtdnkljpnhmcnpaaGreat
open Go.RowKit

theorem SAt.but {α : Type} {f : α → List Value} {k g : Nat} {w w' : World} {p : Option Addr} {xs : List α} (h : SAt f k w p xs) (hb : But g w w') (hp : ∀ b o, 0 < xs.length → p = some ⟨b, o, none⟩ → b ≠ g) : SAt f k w' p xs := fun i hi => by
 obtain ⟨b, o, h1, h2, h3⟩ := h i hi
 exact ⟨b, o, h1, Nat.lt_of_lt_of_le h2 hb.size, fun j v hv => (World.cell?_of_block (a := ⟨b, o + i * k + j, none⟩) (hb.block b h2 (hp b o (by omega) h1))).trans (h3 j v hv)⟩
theorem SOwn.but {α : Type} {f : α → List Value} {k g B : Nat} {w w' : World} {p : Option Addr} {xs : List α} (h : SOwn f k B w p xs) (hb : But g w w') (hg : g < B) : SOwn f k B w' p xs := fun i hi => by
 obtain ⟨b, o, h1, hB, h2, h3, h4⟩ := h i hi
 have hk := hb.block b h2 (by omega)
 exact ⟨b, o, h1, hB, Nat.lt_of_lt_of_le h2 hb.size, fun j v hv => (World.cell?_of_block (a := ⟨b, o + i * k + j, none⟩) hk).trans (h3 j v hv), fun j => (World.frozen?_of_block (a := ⟨b, j, none⟩) hk).trans (h4 j)⟩

end Go.Proofs.YtdnkljpnhmcnpaaGreat
/- Channels in one goroutine: a send into a buffer with room, a receive, in a walk of the kit's own. -/
namespace Go.Proofs.YtdnkljpnhmcnpaaGreat
open Go.RowKit Go.Conc

section
variable {P : Program} {ops : Array Oper} {Q : Exit → Act → World → Prop} {i : Nat} {rest : List Nat} {o : Oper} {a : Act} {w : World}
end

def ChanI (w : World) (c cap : Nat) (xs : List Int) (closed : Bool) : Prop := ∃ s r, w.heap[c]? = some (.chan cap (xs.map (Value.int .i64)).toArray closed s r false)
theorem ChanI.lt {w : World} {c cap : Nat} {xs : List Int} {closed : Bool} (h : ChanI w c cap xs closed) : c < w.heap.size := by
 obtain ⟨s, r, h⟩ := h
 exact (Array.getElem?_eq_some_iff.1 h).1
theorem ChanI.ext {w w' : World} {c cap : Nat} {xs : List Int} {closed : Bool} (h : ChanI w c cap xs closed) (hb : Ext w w') : ChanI w' c cap xs closed := by
 have hl := h.lt
 obtain ⟨s, r, h⟩ := h
 exact ⟨s, r, (hb.below.block c hl).trans h⟩
open Go.RowKit Go.Conc

open Go.RowKit Go.Conc

theorem ChanI.low {B : Nat} {w w' : World} {c cap : Nat} {xs : List Int} {closed : Bool} (h : ChanI w c cap xs closed) (hb : Below B w w') (hB : c < B) : ChanI w' c cap xs closed := by
 obtain ⟨s, r, h⟩ := h
 exact ⟨s, r, (hb.block c hB).trans h⟩

end Go.Proofs.YtdnkljpnhmcnpaaGreat
/- How the reference reads a segment. -/
namespace Go.Proofs.YtdnkljpnhmcnpaaGreat
open Go.RowKit

end Go.Proofs.YtdnkljpnhmcnpaaGreat
/- WriteMessage. -/
namespace Go.Proofs.YtdnkljpnhmcnpaaGreat
open Go.RowKit

theorem SOwn.grew {α : Type} {f : α → List Value} {k n0 : Nat} {v o : Value} {W wr : World} {p : Option Addr} {xs : List α} (hx : SOwn f k n0 W p xs) (h : Grew v W wr o) (hv : ∀ k, v.ownBlock = some k → k < n0) : SOwn f k n0 wr p xs := fun i hi => by
 obtain ⟨b, o', e, hB, hb, hc, hf⟩ := hx i hi
 have hbk : wr.heap[b]? = W.heap[b]? := h.by_.block b hb fun e => by have := hv b e.symm; omega
 exact ⟨b, o', e, hB, Nat.lt_of_lt_of_le hb h.by_.size, fun j u hu => (World.cell?_of_block (a := ⟨b, o' + i * k + j, none⟩) hbk).trans (hc j u hu), fun j => (World.frozen?_of_block (a := ⟨b, j, none⟩) hbk).trans (hf j)⟩

end Go.Proofs.YtdnkljpnhmcnpaaGreat
/- The reference's payload: bits filled up, elements. -/
namespace Go.Proofs.YtdnkljpnhmcnpaaGreat
open Go.RowKit

theorem RowI.sl {B n : Nat} {w : World} {v : Value} {xs : List Int} (h : RowI B w v xs) (hn : xs.length = n) : ∃ p c, v = .slice p n c := by
 obtain ⟨p, c, hv, _⟩ := h.own
 exact ⟨p, c, by rw [hv, hn]⟩
open Go.RowKit

open Go.RowKit

end Go.Proofs.YtdnkljpnhmcnpaaGreat
/- A field of a size, and drawn fields. -/
namespace Go.Proofs.YtdnkljpnhmcnpaaGreat
open Go.RowKit

open Go.RowKit

open Go.RowKit

end Go.Proofs.YtdnkljpnhmcnpaaGreat
/- Parts of a message: validity, bits. -/
namespace Go.Proofs.YtdnkljpnhmcnpaaGreat
open Go.RowKit

abbrev vPart (i n y : Int) (t : ByteArray) : Value := .agg #[.int .i64 i, .int .i64 n, .int .i64 y, .string t]
end Go.Proofs.YtdnkljpnhmcnpaaGreat
/- Drawn parts of messages. -/
namespace Go.Proofs.YtdnkljpnhmcnpaaGreat
open Go.RowKit

theorem Src.set {n0 g x i : Nat} {w : World} {v : Value} (h : Src n0 w g) (hx : n0 ≤ x) : Src n0 (w.setCell ⟨x, i, none⟩ v) g := h.low ((Below.refl n0 w).setCell (p := ⟨x, i, none⟩) hx v) (Nat.le_refl _)
theorem But.alloc {g : Nat} {a b : World} (h : But g a b) (o : Obj) : But g a (b.alloc o) := h.trans (But.of ((Ext.refl b).alloc o))
theorem Src.alloc {n0 g : Nat} {w : World} (h : Src n0 w g) (o : Obj) : Src n0 (w.alloc o) g := h.ext ((Ext.refl w).alloc o)
end Go.Proofs.YtdnkljpnhmcnpaaGreat
/- Drawn grids. -/
namespace Go.Proofs.YtdnkljpnhmcnpaaGreat
open Go.RowKit

open Go.RowKit

end Go.Proofs.YtdnkljpnhmcnpaaGreat
