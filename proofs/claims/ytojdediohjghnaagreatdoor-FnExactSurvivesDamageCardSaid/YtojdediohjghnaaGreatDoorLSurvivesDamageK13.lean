/- The drawing of inputs: the source of numbers. -/
import Derived.Test.YtojdediohjghnaaGreatDoorLSurvivesDamageK02
import Derived.Test.YtojdediohjghnaaGreatDoorLSurvivesDamageK01
import Derived.Test.YtojdediohjghnaaGreatDoorLSurvivesDamageK03
import Derived.Test.YtojdediohjghnaaGreatDoorLSurvivesDamageK00
import Derived.Test.YtojdediohjghnaaGreatDoorLSurvivesDamageK06
import Derived.Test.YtojdediohjghnaaGreatDoorLSurvivesDamageK10
import Derived.Conc.LoneCalls
import Derived.Deep.Cut
import Derived.Test.YtojdediohjghnaaGreatDoorLSurvivesDamageK12
import Derived.Test.YtojdediohjghnaaGreatDoorLSurvivesDamageK04
import Derived.Deep.DeepCutAuto
import Derived.Deep.CutBlock
set_option linter.unusedVariables false
set_option linter.unusedSimpArgs false
namespace Go.Proofs.YtojdediohjghnaaGreatDoor
open Go.RowKit

def U8At (w : World) (p : Option Addr) (xs : List Int) : Prop :=
 ∀ i, i < xs.length → ∃ b o, p = some ⟨b, o, none⟩ ∧ b < w.heap.size ∧ w.cell? ⟨b, o + i, none⟩ = some (.int .u8 (xs.getD i 0)) ∧ 0 ≤ xs.getD i 0 ∧ xs.getD i 0 ≤ 255
theorem U8At.ext {w w' : World} {p : Option Addr} {xs : List Int} (h : U8At w p xs) (hb : Ext w w') : U8At w' p xs := fun i hi => by
 obtain ⟨b, o, h1, h2, h3, h4⟩ := h i hi
 exact ⟨b, o, h1, Nat.lt_of_lt_of_le h2 hb.below.size, by rw [(ecell hb).1 _ _ h2]; exact h3, h4⟩
theorem U8At.but {g : Nat} {w w' : World} {p : Option Addr} {xs : List Int} (h : U8At w p xs) (hb : But g w w') (hp : ∀ b o, 0 < xs.length → p = some ⟨b, o, none⟩ → b ≠ g) : U8At w' p xs := fun i hi => by
 obtain ⟨b, o, h1, h2, h3, h4⟩ := h i hi
 exact ⟨b, o, h1, Nat.lt_of_lt_of_le h2 hb.size, (World.cell?_of_block (a := ⟨b, o + i, none⟩) (hb.block b h2 (hp _ _ (by omega) h1))).trans h3, h4⟩
def Src (n0 : Nat) (w : World) (g : Nat) : Prop := g < n0 ∧ ∃ (p : Option Addr) (code : List Int) (c i : Nat) (sd : Int), Blk w g #[.slice p code.length c, .int .i64 i, .int .i64 sd] 101 ∧ U8At w p code ∧ (∀ b o, 0 < code.length → p = some ⟨b, o, none⟩ → b ≠ g ∧ b < n0) ∧ i ≤ code.length ∧ code.length ≤ 4096 ∧ 0 ≤ sd ∧ sd < 2147483647
theorem Src.ext {n0 : Nat} {w w' : World} {g : Nat} (h : Src n0 w g) (hb : Ext w w') : Src n0 w' g := by
 obtain ⟨hg, p, code, c, i, sd, h1, h2, h3⟩ := h
 exact ⟨hg, p, code, c, i, sd, h1.ext hb, h2.ext hb, h3⟩
theorem Src.lt {n0 : Nat} {w : World} {g : Nat} (h : Src n0 w g) : g < w.heap.size := by
 obtain ⟨_, _, _, _, _, _, h1, _⟩ := h
 exact h1.lt
theorem Src.low {n0 B : Nat} {w w' : World} {g : Nat} (h : Src n0 w g) (hb : Below B w w') (hB : n0 ≤ B) : Src n0 w' g := by
 obtain ⟨hg, p, code, c, i, sd, h1, h2, h3, h4⟩ := h
 refine ⟨hg, p, code, c, i, sd, h1.low hb (by omega), fun k hk => ?_, h3, h4⟩
 obtain ⟨b, o, e, hlt, hc⟩ := h2 k hk
 exact ⟨b, o, e, Nat.lt_of_lt_of_le hlt hb.size, by rw [World.cell?_of_block (a := ⟨b, o + k, none⟩) (hb.block b (by have := (h3 b o (by omega) e).2; show b < B; omega))]; exact hc.1, hc.2⟩
theorem Src.up {n0 n1 : Nat} {w : World} {g : Nat} (h : Src n0 w g) (hn : n0 ≤ n1) : Src n1 w g := by
 obtain ⟨hg, p, code, c, i, sd, h1, h2, h3, h4⟩ := h
 exact ⟨by omega, p, code, c, i, sd, h1, h2, fun b o h e => by have := h3 b o h e; omega, h4⟩
open Go.RowKit

end Go.Proofs.YtojdediohjghnaaGreatDoor
/- Drawn texts; names of modes. -/
namespace Go.Proofs.YtojdediohjghnaaGreatDoor
open Go.RowKit

theorem RowB.but {g B : Nat} {a b : World} {v : Value} {s : ByteArray} (h : RowB B a v s) (k : But g a b) (hg : g < B) : RowB B b v s := by
 refine ⟨h.1, ?_⟩
 rcases h.2 with h2 | ⟨g', cap, cur, hv, hg', hh, r⟩
 ·exact .inl h2
 ·exact .inr ⟨g', cap, cur, hv, hg', by rw [k.block g' (Array.getElem?_eq_some_iff.1 hh).1 (by omega)]; exact hh, r⟩

open Go.RowKit

end Go.Proofs.YtojdediohjghnaaGreatDoor
/- What was written is read again. -/
namespace Go.Proofs.YtojdediohjghnaaGreatDoor
open Go.RowKit

open Go.RowKit

end Go.Proofs.YtojdediohjghnaaGreatDoor
/- Drawn lists of bits and segments. -/
namespace Go.Proofs.YtojdediohjghnaaGreatDoor
open Go.RowKit

theorem OwnInts_zeros {B g n : Nat} {w : World} (hb : Blk w g (madeCells #[.int .i64 0] n) 2) (hB : B ≤ g) : OwnInts B w (some ⟨g, 0, none⟩) (List.replicate n 0) := fun i hi => by
 have hi2 : i < n := by simpa using hi
 refine ⟨g, 0, rfl, hB, hb.lt, ?_, hb.free _⟩
 rw [Nat.zero_add]
 refine hb.cell ?_
 rw [made_get hi2]
 simp [Nat.mod_one, hi2]
theorem OwnInts.but {g B : Nat} {w w' : World} {p : Option Addr} {xs : List Int} (h : OwnInts B w p xs) (hb : But g w w') (hg : g < B) : OwnInts B w' p xs := fun i hi => by
 obtain ⟨b, o, h1, hB, h2, h3, h4⟩ := h i hi
 have hk := hb.block b h2 (by omega)
 exact ⟨b, o, h1, hB, Nat.lt_of_lt_of_le h2 hb.size, (World.cell?_of_block (a := ⟨b, o + i, none⟩) hk).trans h3, (World.frozen?_of_block (a := ⟨b, o + i, none⟩) hk).trans h4⟩
open Go.RowKit

theorem IntsAt.but {g : Nat} {w w' : World} {p : Option Addr} {xs : List Int} (h : IntsAt w p xs) (hb : But g w w') (hp : ∀ b o, 0 < xs.length → p = some ⟨b, o, none⟩ → b ≠ g) : IntsAt w' p xs := fun i hi => by
 obtain ⟨b, o, h1, h2, h3⟩ := h i hi
 have hk := hb.block b h2 (hp b o (by omega) h1)
 exact ⟨b, o, h1, Nat.lt_of_lt_of_le h2 hb.size, (World.cell?_of_block (a := ⟨b, o + i, none⟩) hk).trans h3⟩
end Go.Proofs.YtojdediohjghnaaGreatDoor
/- The reference's best segments; marking lists of segments. -/
namespace Go.Proofs.YtojdediohjghnaaGreatDoor
open Go.RowKit

open Go.RowKit

open Go.RowKit

theorem OwnCells.at {B : Nat} {w : World} {p : Option Addr} {P c R : List Value} (h : OwnCells B w p (P ++ (c ++ R))) {j n : Nat} (hn : n = P.length + j) (hj : j < c.length) :
  ∃ b o, p = some ⟨b, o, none⟩ ∧ B ≤ b ∧ b < w.heap.size ∧ w.cell? ⟨b, o + n, none⟩ = some (c[j]'hj) ∧ w.frozen? ⟨b, o + n, none⟩ = false := by
 subst hn
 obtain ⟨b, o, h1, h2, h3, h4, h5⟩ := h (P.length + j) (by simp; omega)
 refine ⟨b, o, h1, h2, h3, ?_, h5⟩
 rw [h4, List.getElem_append_right (by omega)]
 simp only [Nat.add_sub_cancel_left]
 rw [List.getElem_append_left hj]

open Go.RowKit

end Go.Proofs.YtojdediohjghnaaGreatDoor
/- Drawn messages and segmentations. -/
namespace Go.Proofs.YtojdediohjghnaaGreatDoor
open Go.RowKit

theorem SAt.but {α : Type} {f : α → List Value} {k g : Nat} {w w' : World} {p : Option Addr} {xs : List α} (h : SAt f k w p xs) (hb : But g w w') (hp : ∀ b o, 0 < xs.length → p = some ⟨b, o, none⟩ → b ≠ g) : SAt f k w' p xs := fun i hi => by
 obtain ⟨b, o, h1, h2, h3⟩ := h i hi
 exact ⟨b, o, h1, Nat.lt_of_lt_of_le h2 hb.size, fun j v hv => (World.cell?_of_block (a := ⟨b, o + i * k + j, none⟩) (hb.block b h2 (hp b o (by omega) h1))).trans (h3 j v hv)⟩
theorem SOwn.but {α : Type} {f : α → List Value} {k g B : Nat} {w w' : World} {p : Option Addr} {xs : List α} (h : SOwn f k B w p xs) (hb : But g w w') (hg : g < B) : SOwn f k B w' p xs := fun i hi => by
 obtain ⟨b, o, h1, hB, h2, h3, h4⟩ := h i hi
 have hk := hb.block b h2 (by omega)
 exact ⟨b, o, h1, hB, Nat.lt_of_lt_of_le h2 hb.size, fun j v hv => (World.cell?_of_block (a := ⟨b, o + i * k + j, none⟩) hk).trans (h3 j v hv), fun j => (World.frozen?_of_block (a := ⟨b, j, none⟩) hk).trans (h4 j)⟩

end Go.Proofs.YtojdediohjghnaaGreatDoor
/- Channels in one goroutine: a send into a buffer with room, a receive, in a walk of the kit's own. -/
namespace Go.Proofs.YtojdediohjghnaaGreatDoor
open Go.RowKit Go.Conc

section
variable {P : Program} {ops : Array Oper} {Q : Exit → Act → World → Prop} {i : Nat} {rest : List Nat} {o : Oper} {a : Act} {w : World}
end

def ChanI (w : World) (c cap : Nat) (xs : List Int) (closed : Bool) : Prop := ∃ s r, w.heap[c]? = some (.chan cap (xs.map (Value.int .i64)).toArray closed s r false)
theorem ChanI.lt {w : World} {c cap : Nat} {xs : List Int} {closed : Bool} (h : ChanI w c cap xs closed) : c < w.heap.size := by
 obtain ⟨s, r, h⟩ := h
 exact (Array.getElem?_eq_some_iff.1 h).1
theorem ChanI.ext {w w' : World} {c cap : Nat} {xs : List Int} {closed : Bool} (h : ChanI w c cap xs closed) (hb : Ext w w') : ChanI w' c cap xs closed := by
 have hl := h.lt
 obtain ⟨s, r, h⟩ := h
 exact ⟨s, r, (hb.below.block c hl).trans h⟩
open Go.RowKit Go.Conc

open Go.RowKit Go.Conc

theorem ChanI.low {B : Nat} {w w' : World} {c cap : Nat} {xs : List Int} {closed : Bool} (h : ChanI w c cap xs closed) (hb : Below B w w') (hB : c < B) : ChanI w' c cap xs closed := by
 obtain ⟨s, r, h⟩ := h
 exact ⟨s, r, (hb.block c hB).trans h⟩

end Go.Proofs.YtojdediohjghnaaGreatDoor
/- How the reference reads a segment. -/
namespace Go.Proofs.YtojdediohjghnaaGreatDoor
open Go.RowKit

end Go.Proofs.YtojdediohjghnaaGreatDoor
/- The width of a field, the size of a payload. -/
namespace Go.Proofs.YtojdediohjghnaaGreatDoor
open Go.RowKit

def fW (size : Int) : Nat := Nat.log2 size.toNat
theorem fW_eq {size : Int} {j : Nat} (h0 : 1 ≤ size) (h1 : (2 : Int) ^ j ≤ size) (h2 : size < 2 ^ (j + 1)) : fW size = j := by
 have e1 := two_pow_cast j
 have e2 := two_pow_cast (j + 1)
 unfold fW
 rw [Nat.log2_eq_iff (by omega)]
 omega
theorem fW_bd {size : Int} (h : 3 ≤ size ∧ size ≤ 1021) : 1 ≤ fW size ∧ fW size ≤ 9 ∧ (2 : Int) ^ fW size ≤ size ∧ size < 2 ^ (fW size + 1) := by
 have h1 := (Nat.log2_eq_iff (n := size.toNat) (k := fW size) (by omega)).1 rfl
 have e1 := two_pow_cast (fW size)
 have e2 := two_pow_cast (fW size + 1)
 refine ⟨?_, ?_, by omega, by omega⟩
 ·rcases Nat.eq_zero_or_pos (fW size) with h0 | h0
  ·rw [h0] at h1; omega
  ·exact h0
 ·rcases Nat.lt_or_ge 9 (fW size) with h0 | h0
  ·have : 2 ^ 10 ≤ 2 ^ fW size := Nat.pow_le_pow_right (by omega) h0
   omega
  ·exact h0
theorem pow_shl {j : Nat} {size : Int} (hs : size ≤ 1021) (h : (2 : Int) ^ j ≤ size) : 1 ≤ (2 : Int) ^ j ∧ (2 : Int) * 2 ^ j ≤ 2042 ∧ (2 : Int) ^ (j + 1) = 2 * 2 ^ j := by
 have : (0 : Int) < 2 ^ j := Int.pow_pos (by omega)
 exact ⟨by omega, by omega, by rw [Int.pow_succ, Int.mul_comm]⟩

theorem width_c (g : Nat) (size : Int) (w : World) (hq : w.cell? ⟨g, 1, none⟩ = some (.int .i64 size)) (hs : 3 ≤ size ∧ size ≤ 1021) :
  Calls Tryz.prog 126 #[.pointer (some ⟨g, 0, none⟩)] w fun e w' => e = .returned (.int .i64 (fW size)) ∧ Ext w w' := by
 have hbd := fW_bd hs
 go_enter Tryz.func126, Tryz.ntmps126
 go_wp2
 go_loopw [3] (fun i wr => ∃ (j n : Nat), j ≤ fW size ∧ i = .int .i64 j ∧ (2 : Int) ^ j ≤ size ∧ wr = w.drewN n) (fun i _ => fW size - (intOf i).toNat)
 case atStart => exact ⟨0, 0, by omega, rfl, by show (1 : Int) ≤ size; omega, rfl⟩
 case round =>
  obtain ⟨j, n, hj, rfl, hp, rfl⟩ := hrel
  obtain ⟨p1, p2, p3⟩ := pow_shl hs.2 hp
  by_cases hlt : (2 : Int) * 2 ^ j ≤ size
  ·have hjl : j < fW size := by
    rcases Nat.lt_or_ge j (fW size) with h | h
    ·exact h
    ·obtain rfl : j = fW size := by omega
     omega
   have hp1 : (2 : Int) ^ (j + 1) ≤ size := by omega
   have HP := Lib.hid hp1
   have hj9 : (j : Int) ≤ 62 := by omega
   clear p3 hp1 hbd
   go_wp2_with fail
   go_quiet (fail)
   go_wp2
   go_roundw
   case rel => exact ⟨j + 1, n + nq, by omega, by go_num, HP.out, rfl⟩
   case measure => simp [intOf]; omega
  ·have hfw := Lib.hid (fW_eq (by omega) hp (by omega))
   have hj9 : (j : Int) ≤ 62 := by omega
   clear p3 hbd
   go_wp2_with fail
   go_quiet (fail)
   go_wp2
   go_ret
   exact ⟨by rw [hfw.out]; rfl, eX⟩

theorem fldSize_bd {p k q : Int} (h : fldOK p k q) : (3 ≤ fldSize p k ∧ fldSize p k ≤ 1021) ∧ 0 ≤ k ∧ k ≤ 40 := by
 rcases h with ⟨rfl, h, _⟩ | ⟨h1, rfl, h2, _⟩
 ·exact ⟨h, by omega⟩
 ·have e : fldSize 2 k = 2 ^ k.toNat := if_neg h1
  have e1 := two_pow_cast k.toNat
  have e4 : (2 : Nat) ^ k.toNat ≤ 2 ^ 8 := Nat.pow_le_pow_right (by omega) (by omega)
  have e5 : (2 : Nat) ^ 3 ≤ 2 ^ k.toNat := Nat.pow_le_pow_right (by omega) (by omega)
  omega
theorem l11Width_c (p k q : Int) (w : World) (hok : fldOK p k q) :
  Calls Tryz.prog 75 #[vFld p k q] w fun e w' => e = .returned (.int .i64 (fW (fldSize p k))) ∧ Ext w w' := by
 obtain ⟨hs, hk⟩ := fldSize_bd hok
 have hsc := Lib.hid (fun W => l02Size_c p k q W hk)
 have hbd := fW_bd hs
 clear hok hk
 generalize fldSize p k = size at *
 have hb := Blk.new w #[.int .i64 p, .int .i64 k, .int .i64 q] 33
 go_enter Tryz.func75, Tryz.ntmps75
 go_wp2
 have hx : Ext w (w.alloc (.cells #[.int .i64 p, .int .i64 k, .int .i64 q] 33)) := eX
 generalize w.alloc (.cells #[.int .i64 p, .int .i64 k, .int .i64 q] 33) = w0 at *
 go_loopw [3] (fun i wr => ∃ j : Nat, j ≤ fW size ∧ i = .int .i64 j ∧ (2 : Int) ^ j ≤ size ∧ Ext w0 wr) (fun i _ => fW size - (intOf i).toNat)
 case atStart => exact ⟨0, by omega, rfl, by show (1 : Int) ≤ size; omega, eX⟩
 case round =>
  obtain ⟨j, hj, rfl, hp, hext⟩ := hrel
  obtain ⟨p1, p2, p3⟩ := pow_shl hs.2 hp
  have hbr := hb.ext hext
  have q0 := hbr.cell (i := 0) (v := .int .i64 p) rfl
  have q1 := hbr.cell (i := 1) (v := .int .i64 k) rfl
  have q2 := hbr.cell (i := 2) (v := .int .i64 q) rfl
  have ql := hbr.lt
  have hj9 : (j : Int) ≤ 62 := by omega
  by_cases hlt : (2 : Int) * 2 ^ j ≤ size
  ·have hjl : j < fW size := by
    rcases Nat.lt_or_ge j (fW size) with h | h
    ·exact h
    ·obtain rfl : j = fW size := by omega
     omega
   have hp1 : (2 : Int) ^ (j + 1) ≤ size := by omega
   have HP := Lib.hid hp1
   clear p3 hp1 hbd
   go_wp2_with (go_at_call 43; (with_reducible refine (hsc.out _).mono ?_); rintro e w1 ⟨rfl, hx1⟩)
   go_roundw
   case rel => exact ⟨j + 1, by omega, by go_num, HP.out, hext.trans hx1⟩
   case measure => simp [intOf]; omega
  ·have hfw := Lib.hid (fW_eq (by omega) hp (by omega))
   clear p3 hbd
   go_wp2_with (go_at_call 43; (with_reducible refine (hsc.out _).mono ?_); rintro e w1 ⟨rfl, hx1⟩)
   go_ret
   exact ⟨by rw [hfw.out]; rfl, (hx.trans hext).trans hx1⟩

theorem calcOK_c (p k q size : Int) (hok : fldOK p k q) (hsz : fldSize p k = size) (w : World) :
  Calls Tryz.prog 91 #[vFld p k q] w fun e w' => (∃ (g : Nat) (b : Bool), e = .returned (.tuple #[.pointer (some ⟨g, 0, none⟩), .bool true]) ∧ CalcB w' g b size) ∧ Ext w w' := by
 refine (calc_c p k q w).mono ?_
 rintro e w' ⟨⟨_, g, b, he, hcb⟩ | ⟨hno, _⟩, hx⟩
 ·rw [hsz] at hcb
  exact ⟨⟨g, b, he, hcb⟩, hx⟩
 ·exact absurd hok hno
theorem calcNo_c (p k q : Int) (hok : ¬ fldOK p k q) (w : World) :
  Calls Tryz.prog 91 #[vFld p k q] w fun e w' => (∃ v, e = .returned (.tuple #[v, .bool false])) ∧ Ext w w' := by
 refine (calc_c p k q w).mono ?_
 rintro e w' ⟨⟨h, _⟩ | ⟨_, h⟩, hx⟩
 ·exact absurd h hok
 ·exact ⟨h, hx⟩
end Go.Proofs.YtojdediohjghnaaGreatDoor
/- WriteMessage. -/
namespace Go.Proofs.YtojdediohjghnaaGreatDoor
open Go.RowKit

theorem SOwn.grew {α : Type} {f : α → List Value} {k n0 : Nat} {v o : Value} {W wr : World} {p : Option Addr} {xs : List α} (hx : SOwn f k n0 W p xs) (h : Grew v W wr o) (hv : ∀ k, v.ownBlock = some k → k < n0) : SOwn f k n0 wr p xs := fun i hi => by
 obtain ⟨b, o', e, hB, hb, hc, hf⟩ := hx i hi
 have hbk : wr.heap[b]? = W.heap[b]? := h.by_.block b hb fun e => by have := hv b e.symm; omega
 exact ⟨b, o', e, hB, Nat.lt_of_lt_of_le hb h.by_.size, fun j u hu => (World.cell?_of_block (a := ⟨b, o' + i * k + j, none⟩) hbk).trans (hc j u hu), fun j => (World.frozen?_of_block (a := ⟨b, j, none⟩) hbk).trans (hf j)⟩

end Go.Proofs.YtojdediohjghnaaGreatDoor
/- The reference's payload: bits filled up, elements. -/
namespace Go.Proofs.YtojdediohjghnaaGreatDoor
open Go.RowKit

theorem RowI.sl {B n : Nat} {w : World} {v : Value} {xs : List Int} (h : RowI B w v xs) (hn : xs.length = n) : ∃ p c, v = .slice p n c := by
 obtain ⟨p, c, hv, _⟩ := h.own
 exact ⟨p, c, by rw [hv, hn]⟩
open Go.RowKit

open Go.RowKit

end Go.Proofs.YtojdediohjghnaaGreatDoor
/- A field of a size, and drawn fields. -/
namespace Go.Proofs.YtojdediohjghnaaGreatDoor
open Go.RowKit

open Go.RowKit

open Go.RowKit

end Go.Proofs.YtojdediohjghnaaGreatDoor
/- Parts of a message: validity, bits. -/
namespace Go.Proofs.YtojdediohjghnaaGreatDoor
open Go.RowKit

abbrev vPart (i n y : Int) (t : ByteArray) : Value := .agg #[.int .i64 i, .int .i64 n, .int .i64 y, .string t]
end Go.Proofs.YtojdediohjghnaaGreatDoor
/- Drawn parts of messages. -/
namespace Go.Proofs.YtojdediohjghnaaGreatDoor
open Go.RowKit

theorem Src.set {n0 g x i : Nat} {w : World} {v : Value} (h : Src n0 w g) (hx : n0 ≤ x) : Src n0 (w.setCell ⟨x, i, none⟩ v) g := h.low ((Below.refl n0 w).setCell (p := ⟨x, i, none⟩) hx v) (Nat.le_refl _)
theorem But.alloc {g : Nat} {a b : World} (h : But g a b) (o : Obj) : But g a (b.alloc o) := h.trans (But.of ((Ext.refl b).alloc o))
theorem Src.alloc {n0 g : Nat} {w : World} (h : Src n0 w g) (o : Obj) : Src n0 (w.alloc o) g := h.ext ((Ext.refl w).alloc o)
end Go.Proofs.YtojdediohjghnaaGreatDoor
/- Drawn grids. -/
namespace Go.Proofs.YtojdediohjghnaaGreatDoor
open Go.RowKit

open Go.RowKit

end Go.Proofs.YtojdediohjghnaaGreatDoor
