/- Maps that a function makes itself, as functions of plain keys that may give nothing. -/
import Derived.Test.YtdnkljpnhmcnpaaGreatLBoundedDamageK04
import Derived.Maps.OwnSet
import Derived.DeepKeys5
import Derived.WalkArith
import Derived.Test.YtdnkljpnhmcnpaaGreatLBoundedDamageK12
set_option linter.unusedVariables false
set_option linter.unusedSimpArgs false
namespace Go.Proofs.YtdnkljpnhmcnpaaGreat
open Go.RowKit Go.MapKept Go.ChangeMaps Go.Maps

def heldR (v : Value) : Option (DataW Value × List MemPlace) := some (.held v, [])
def MapA {α : Type} (k : TypeId) (E : α → Value) (w : World) (b n : Nat) (f : α → Option Value) : Prop :=
 ∃ D : DataW Value, w.ownsMap Tryz.prog k heldR b n D ∧ ∀ x kl, keyOf Tryz.prog k (E x) = some kl → D.atKey kl .nil = match f x with | some v => .held v | none => .nil
section
variable {α : Type} {k e t : TypeId} {E : α → Value} {w w' : World} {b n : Nat} {f : α → Option Value}
theorem MapA.made (w : World) : MapA k E (w.alloc (.map #[] 0)) w.heap.size 0 (fun _ => none) :=
 ⟨_, World.ownsMap_made _ _ _ _, fun _ _ _ => rfl⟩
theorem MapA.lt (h : MapA k E w b n f) : b < w.heap.size := by obtain ⟨D, h, _⟩ := h; exact h.lt
theorem MapA.mono {n' : Nat} (h : MapA k E w b n f) (hn : n ≤ n') : MapA k E w b n' f := by obtain ⟨D, h, h2⟩ := h; exact ⟨D, h.mono hn, h2⟩
theorem MapA.block (h : MapA k E w b n f) (hb : w'.heap[b]? = w.heap[b]?) : MapA k E w' b n f := by
 obtain ⟨D, ⟨es, cl, h1, h2⟩, h3⟩ := h
 exact ⟨D, ⟨es, cl, hb.trans h1, h2⟩, h3⟩
theorem MapA.ext (h : MapA k E w b n f) (hx : Ext w w') : MapA k E w' b n f := h.block (hx.below.block b h.lt)
theorem MapA.low {B : Nat} (h : MapA k E w b n f) (hb : Below B w w') (hB : b < B) : MapA k E w' b n f := h.block (hb.block b hB)
theorem MapA.set (h : MapA k E w b n f) {a : Addr} (ha : b ≠ a.block) (u : Value) : MapA k E (w.setCell a u) b n f := h.block (Below.heap_setCell _ _ _ _ ha)
theorem MapA.look (h : MapA k E w b n f) (K : Keyed Tryz.prog k) (ht : Tryz.prog.underlying t = some (.map k e)) {z : Value} (hz : (zeroValue e).run Tryz.prog w = .ok z w) (c : Bool) {x : α} {kl : Lit} (hk : keyOf Tryz.prog k (E x) = some kl) :
  (Instr.lookup t (.map (some b)) (E x) c).run Tryz.prog w = .ok (if c then .tuple #[(f x).getD z, .bool (f x).isSome] else (f x).getD z) w := by
 obtain ⟨D, ⟨es, cl, hb, F, _, rfl⟩, h3⟩ := h
 have h4 := h3 x kl hk
 rcases Maps.fit_look c K ht hz hb F hk with ⟨hrun, _, hat⟩ | ⟨e0, y, _, _, hrun, hRv, hat, _⟩
 ·rw [hat] at h4
  have : f x = none := by
   revert h4
   cases f x with
   | none => intro _; rfl
   | some v => intro h; cases h
  rw [hrun, this]; rfl
 ·rw [hat] at h4
  obtain rfl : (DataW.held e0.val, []) = y := Option.some.inj hRv
  have : f x = some e0.val := by
   revert h4
   cases f x with
   | none => intro h; cases h
   | some v => intro h; exact congrArg some (DataW.held.inj h).symm
  rw [hrun, this]; rfl
theorem MapA.put [DecidableEq α] (hE : ∀ x y, E x = E y → x = y) (h : MapA k E w b n f) (K : Keyed Tryz.prog k) (ht : Tryz.prog.underlying t = some (.map k e)) (hn : n < maxLen) {x : α} {kl : Lit} (hk : keyOf Tryz.prog k (E x) = some kl) (v : Value) :
  ∃ w', (Instr.mapUpdate t (.map (some b)) (E x) v).run Tryz.prog w = .ok () w' ∧ MapA k E w' b (n + 1) (fun y => if y = x then some v else f y) ∧ w.grownBy w' (some b) := by
 obtain ⟨D, h1, h3⟩ := h
 obtain ⟨w', hr, h4, h5⟩ := h1.update (val := v) (d := .held v) (ps := []) K ht hn hk rfl
 refine ⟨w', hr, ⟨_, h4, fun y kl' hk' => ?_⟩, h5⟩
 by_cases e1 : y = x
 ·subst e1
  obtain rfl : kl = kl' := by rw [hk] at hk'; exact Option.some.inj hk'
  simp only [if_true]
  rw [atKey_put_same h1.isMap (K.key hk)]
 ·simp only [e1, if_false]
  rw [atKey_put_other (fun e2 => e1 (hE _ _ (K.inj hk' (by rw [e2]; exact hk)))), h3 y kl' hk']
end
section
variable {α : Type} {k e t : TypeId} {E : α → Value} {w : World} {b n : Nat} {f : α → Option Value}
variable {ops : Array Oper} {Q : Exit → Act → World → Prop} {rest : List Oper} {a : Act} {dst : Option Tmp} {m x v : Operand} {ty : TypeId} {pos : String} {after : Array Edge}
theorem wp_look (h : MapA k E w b n f) (K : Keyed Tryz.prog k) (ht : Tryz.prog.underlying t = some (.map k e)) {z : Value} (hz : (zeroValue e).run Tryz.prog w = .ok z w) {y : α} {kl : Lit} (hk : keyOf Tryz.prog k (E y) = some kl)
  (hw : wpList Tryz.prog ops Q rest (a.put dst ((f y).getD z)) w) (hm : a.eval m = .map (some b)) (hx : a.eval x = E y) : wpList Tryz.prog ops Q (⟨dst, .lookup t m x false, ty, pos, after, none⟩ :: rest) a w := by
 refine wpList_plain rfl fun K' hK' => ?_
 have hr := h.look K ht hz false hk
 unfold Oper.wp
 simp [execOp, hm, hx, hr, Result.andThen]
 exact hK' _ _ hw
theorem wp_lookok (h : MapA k E w b n f) (K : Keyed Tryz.prog k) (ht : Tryz.prog.underlying t = some (.map k e)) {z : Value} (hz : (zeroValue e).run Tryz.prog w = .ok z w) {y : α} {kl : Lit} (hk : keyOf Tryz.prog k (E y) = some kl)
  (hw : wpList Tryz.prog ops Q rest (a.put dst (.tuple #[(f y).getD z, .bool (f y).isSome])) w) (hm : a.eval m = .map (some b)) (hx : a.eval x = E y) : wpList Tryz.prog ops Q (⟨dst, .lookup t m x true, ty, pos, after, none⟩ :: rest) a w := by
 refine wpList_plain rfl fun K' hK' => ?_
 have hr := h.look K ht hz true hk
 unfold Oper.wp
 simp [execOp, hm, hx, hr, Result.andThen]
 exact hK' _ _ hw
set_option maxRecDepth 100000 in
theorem wp_put [DecidableEq α] (hE : ∀ x y, E x = E y → x = y) (h : MapA k E w b n f) (K : Keyed Tryz.prog k) (ht : Tryz.prog.underlying t = some (.map k e)) (hn : n < maxLen) {y : α} {u : Value} {kl : Lit} (hk : keyOf Tryz.prog k (E y) = some kl)
  (hw : ∀ w', MapA k E w' b (n + 1) (fun z => if z = y then some u else f z) → w.grownBy w' (some b) → wpList Tryz.prog ops Q rest (a.put dst undef) w') (hm : a.eval m = .map (some b)) (hx : a.eval x = E y) (hv : a.eval v = u) :
  wpList Tryz.prog ops Q (⟨dst, .mapUpdate t m x v, ty, pos, after, none⟩ :: rest) a w := by
 refine wpList_plain rfl fun K' hK' => ?_
 obtain ⟨w', hr, h1, h2⟩ := h.put hE K ht hn hk u
 unfold Oper.wp
 simp [execOp, hm, hx, hv, hr, Result.andThen]
 exact hK' _ _ (hw w' h1 h2)
end
section
variable {w w' w0 : World} {m g : Nat} {cs : Array Value} {t : TypeId}
theorem Blk.grown (h : Blk w g cs t) (hg : w.grownBy w' (some m)) (hne : g ≠ m) : Blk w' g cs t := (hg.block g h.lt (by simpa using hne)).trans h
end
abbrev eInt (x : Int) : Value := .int .i64 x
abbrev ePl (x : Int × Int) : Value := .agg #[.int .i64 x.1, .int .i64 x.2]
theorem ePl_inj (x y : Int × Int) (h : ePl x = ePl y) : x = y := by
 obtain ⟨a, b⟩ := x; obtain ⟨c, d⟩ := y
 simpa [ePl] using h
theorem plKeyed : Keyed Tryz.prog 121 := Keyed.of_law (deep_law_gate lawLaid (of_decide_eq_true (by kernel_rfl)) (of_decide_eq_true (by kernel_rfl)) (by kernel_rfl) (by kernel_rfl))
theorem lits_int {a : Int} (h : (Lit.int .i64 a).wf = true) : ∀ d, 1 ≤ d → Tryz.prog.keyLits d 2 [.int .i64 a] = some [.int .i64 a]
 | 0, hd => by omega
 | d + 1, _ => by
  unfold Program.keyLits
  rw [Tryz.underlying2]
  simp only [h, and_self, if_true]
theorem cells1 : Tryz.prog.cellsOf 2 = 1 := by kernel_rfl
theorem cells2 : Tryz.prog.cellsOf 121 = 2 := by kernel_rfl
theorem lits_pl {a b : Int} (ha : (Lit.int .i64 a).wf = true) (hb : (Lit.int .i64 b).wf = true) : ∀ d, 2 ≤ d → Tryz.prog.keyLits d 121 [.int .i64 a, .int .i64 b] = some [.int .i64 a, .int .i64 b]
 | 0, hd => by omega
 | d + 1, hd => by
  unfold Program.keyLits
  rw [Tryz.underlying121]
  simp only [cells2, cells1]
  simp [cells1, lits_int ha d (by omega), lits_int hb d (by omega)]
theorem two_le {n : Nat} (h : 0 < n) : 2 ≤ n + 1 := by omega
theorem plKey {x : Int × Int} (h1 : -9223372036854775808 ≤ x.1 ∧ x.1 ≤ 9223372036854775807) (h2 : -9223372036854775808 ≤ x.2 ∧ x.2 ≤ 9223372036854775807) : ∃ kl, keyOf Tryz.prog 121 (ePl x) = some kl := by
 obtain ⟨a, b⟩ := x
 have hs : 0 < Tryz.prog.types.size := of_decide_eq_true (by kernel_rfl)
 have hs2 : 2 ≤ Tryz.prog.types.size + 1 := two_le hs
 have hl := lits_pl (WalkArith.wf_i64 h1) (WalkArith.wf_i64 h2) (Tryz.prog.types.size + 1) hs2
 have hkt : Tryz.prog.keyType 121 = true := by kernel_rfl
 have hf : (ePl (a, b)).formed Tryz.prog 121 = true := by kernel_rfl
 refine ⟨.string (keyBytes [.int .i64 a, .int .i64 b]), ?_⟩
 unfold keyOf
 rw [Tryz.underlying121]
 show (if (Tryz.prog.keyType 121 && (ePl (a, b)).formed Tryz.prog 121) = true then (Tryz.prog.keyLits (Tryz.prog.types.size + 1) 121 [.int .i64 a, .int .i64 b]).map fun ls => Lit.string (keyBytes ls) else none) = _
 rw [hkt, hf, hl]
 rfl
open Go.RowKit

section
variable {α : Type} {f : α → List Value} {k : Nat} {e t : TypeId} {B : Nat} {v v1 v1' v2 : Value} {w w' : World} {ys : List α}
theorem RowS.grew (h : RowS e f k B w v2 ys) (hg : Grew v1 w w' v1') (ht : ∀ k, v2.ownBlock = some k → v1.ownBlock ≠ some k) : RowS e f k B w' v2 ys := by
 refine ⟨h.1, ?_⟩
 rcases h.2 with h2 | ⟨g, cap, cur, hv, hb, hh, r⟩
 ·exact .inl h2
 ·exact .inr ⟨g, cap, cur, hv, hb, by rw [hg.by_.block g (Array.getElem?_eq_some_iff.1 hh).1 (fun e => ht g (by rw [hv]; rfl) e.symm)]; exact hh, r⟩
theorem RowS.apart (h : RowS e f k B w v2 ys) (hg : Grew v1 w w' v1') (ht : ∀ k, v2.ownBlock = some k → v1.ownBlock ≠ some k) : ∀ k, v2.ownBlock = some k → v1'.ownBlock ≠ some k := fun k hk e => by
 rcases hg.own k e with h2 | h2
 ·exact ht k hk h2
 ·have := (h.lt k hk).2; omega
end
section
variable {α : Type} {f : α → List Value} {k : Nat} {e t : TypeId}
variable {ops : Array Oper} {Q : Exit → Act → World → Prop} {rest : List Oper} {a : Act} {dst : Option Tmp} {s x : Operand} {ty : TypeId} {pos : String} {after : Array Edge} {B : Nat} {w0 : World} {v : Value} {xs ns : List α}
theorem appendSG {z : Value} {bytes : Nat} (ht : Tryz.prog.underlying t = some (.slice e)) (hinfo : (Tryz.prog.info? e).map (fun i => (i.zero, i.size, i.bytes)) = some (some z, k, bytes)) (hz : z.cells.size = k) (hk : 0 < k) (hbytes : bytes ≤ 128)
  (hf : ∀ x, (f x).length = k) (h1 : ∀ x, ∀ u ∈ f x, u.oneCell' = true) (m : Nat) (hm : m = ns.length)
  (hown : RowS e f k B w0 v xs) (hlen : xs.length + m < 1099511627775) (hB : B ≤ w0.heap.size) {cs : Array Value} (hcs : cs = (ns.flatMap f).toArray)
  (h : ∀ v' w', RowS e f k B w' v' (xs ++ ns) → Grew v w0 w' v' → wpList Tryz.prog ops Q rest (a.put dst v') w') (hs : a.eval s = v) (hx : a.eval x = .slice (some ⟨w0.heap.size, 0, none⟩) m m) :
  wpList Tryz.prog ops Q (⟨dst, .call { callee := .builtin .append, args := #[s, x], argTypes := #[t, t] }, ty, pos, after, none⟩ :: rest) a (w0.alloc (.cells cs e)) := by
 subst hcs
 subst hm
 obtain ⟨i0, hi, hz0, hz1, hz2⟩ := info_parts hinfo
 refine wpList_append_own2 rfl s x t rfl B e i0 z k bytes ht hi hz0 hz1 hz2 hz hk v xs.length (xs.flatMap f) hs (World.ownsRow.alloc hown _) ⟨w0.heap.size, 0, none⟩ ns.length ns.length (ns.flatMap f) hx (by rw [flat_len hf]) ?_ (fun u hu => ?_) ?_ ?_ ?_ ?_
 ·intro j u hj
  have : (w0.alloc (.cells (ns.flatMap f).toArray e)).heap[w0.heap.size]? = some (.cells (ns.flatMap f).toArray e) := (MapKept.heap_alloc w0 _).1
  rw [addr_add]
  simp only [World.cell?, this]
  simpa using hj
 ·obtain ⟨y, _, hy⟩ := List.mem_flatMap.1 hu
  exact h1 y u hy
 ·unfold maxLen; omega
 ·have := Nat.mul_le_mul (show xs.length + ns.length ≤ 1099511627776 from by omega) hbytes
  omega
 ·simp; omega
 ·intro v' w' h1 h2
  refine h v' w' ?_ h2.alloc
  unfold RowS
  rw [List.length_append, List.flatMap_append]
  exact h1
end
def plF (p : Int × Int) : List Value := [.int .i64 p.1, .int .i64 p.2]
theorem plF_len (x : Int × Int) : (plF x).length = 2 := rfl
theorem plF_one (x : Int × Int) : ∀ u ∈ plF x, u.oneCell' = true := by intro u hu; simp [plF] at hu; rcases hu with rfl | rfl <;> rfl
theorem infoPl : (Tryz.prog.info? 121).map (fun i => (i.zero, i.size, i.bytes)) = some (some (.agg #[.int .i64 0, .int .i64 0]), 2, 16) := by kernel_rfl
abbrev RowP (B : Nat) (w : World) (v : Value) (xs : List (Int × Int)) : Prop := RowS 121 plF 2 B w v xs
abbrev PlAt (w : World) (p : Option Addr) (xs : List (Int × Int)) : Prop := SAt plF 2 w p xs

def aPl : List (Int × Int) := [(8, 0), (8, 1), (8, 2), (8, 3), (8, 4), (8, 5), (8, 7), (8, 8), (7, 8), (5, 8), (4, 8), (3, 8), (2, 8), (1, 8), (0, 8)]
def bPl (n : Int) : List (Int × Int) := [(n - 1, 8), (n - 2, 8), (n - 3, 8), (n - 4, 8), (n - 5, 8), (n - 6, 8), (n - 7, 8), (8, n - 8), (8, n - 7), (8, n - 6), (8, n - 5), (8, n - 4), (8, n - 3), (8, n - 2), (8, n - 1)]
theorem aPl_1 : ∀ k : Nat, k < 6 → aPl.take k ++ [(8, (k : Int))] = aPl.take (k + 1) := by decide
theorem aPl_2 : ∀ k : Nat, k < 6 → aPl.take (9 + k) ++ [(5 - (k : Int), 8)] = aPl.take (9 + (k + 1)) := by decide
theorem cases7 {k : Nat} (h : k < 7) : k = 0 ∨ k = 1 ∨ k = 2 ∨ k = 3 ∨ k = 4 ∨ k = 5 ∨ k = 6 := by omega
theorem cases8 {k : Nat} (h : k < 8) : k = 0 ∨ k = 1 ∨ k = 2 ∨ k = 3 ∨ k = 4 ∨ k = 5 ∨ k = 6 ∨ k = 7 := by omega
theorem bPl_1 (n : Int) (k : Nat) (h : k < 7) : (bPl n).take k ++ [(n - (1 + (k : Int)), 8)] = (bPl n).take (k + 1) := by
 rcases cases7 h with rfl | rfl | rfl | rfl | rfl | rfl | rfl <;> simp [bPl]
theorem bPl_1' (n : Int) (k : Nat) (h : k < 7) : (bPl n).take k ++ [(n - 1 - (k : Int), 8)] = (bPl n).take (k + 1) := by rw [← bPl_1 n k h, show n - 1 - (k : Int) = n - (1 + k) by omega]
theorem bPl_2 (n : Int) (k : Nat) (h : k < 8) : (bPl n).take (7 + k) ++ [(8, n - 8 + (k : Int))] = (bPl n).take (7 + (k + 1)) := by
 rcases cases8 h with rfl | rfl | rfl | rfl | rfl | rfl | rfl | rfl <;> simp [bPl] <;> omega
def FmtR (n : Int) (w : World) (e : Ending) (w' : World) : Prop := ∃ v u, e = .returned (.tuple #[v, u]) ∧ RowP w.heap.size w' v aPl ∧ RowP w.heap.size w' u (bPl n) ∧ ∀ k, v.ownBlock = some k → u.ownBlock ≠ some k
set_option maxHeartbeats 800000 in
set_option maxRecDepth 100000 in
theorem iFormats_c (n : Int) (w : World) (hn : 17 ≤ n ∧ n ≤ 41) : Calls Tryz.prog 49 #[.int .i64 n] w fun e w' => FmtR n w e w' ∧ Ext w w' := by
 have r1 := (RowS.made (f := plF) (k := 2) 121 (B := w.heap.size) (w := w) (Nat.le_refl _)).alloc (.cells #[] 121)
 have r2 := RowS.made (f := plF) (k := 2) 121 (B := w.heap.size) (w := w.alloc (.cells #[] 121)) (by simp)
 have hx0 : Ext w ((w.alloc (.cells #[] 121)).alloc (.cells #[] 121)) := ((Ext.refl w).alloc _).alloc _
 have hap : ∀ k, (Value.slice (some ⟨(w.alloc (.cells #[] 121)).heap.size, 0, none⟩) 0 0).ownBlock = some k → (Value.slice (some ⟨w.heap.size, 0, none⟩) 0 0).ownBlock ≠ some k := fun k h1 h2 => by
  simp [Value.ownBlock] at h1 h2; omega
 replace hap := Lib.hid hap
 simp only [World.size_alloc] at r2 hap
 go_enter Tryz.func49, Tryz.ntmps49
 go_wp2
 generalize ((w.alloc (.cells #[] 121)).alloc (.cells #[] 121)) = w0 at *
 generalize Value.slice (some ⟨w.heap.size + 1, 0, none⟩) 0 0 = u0 at *
 go_loopw [4, 6] (fun v i wr => ∃ k : Nat, k ≤ 6 ∧ i = .int .i64 k ∧ RowP w.heap.size wr v (aPl.take k) ∧ RowP w.heap.size wr u0 [] ∧ Hid (∀ k, u0.ownBlock = some k → v.ownBlock ≠ some k) ∧ Ext w wr) (fun _ i _ => 6 - (intOf i).toNat)
 case atStart => exact ⟨0, by omega, rfl, r1, r2, hap, hx0⟩
 case round =>
  clear r1 r2 hx0 hap
  obtain ⟨k, hk, rfl, r1, r2, hap, hext⟩ := hrel
  have hz := hext.below.size
  by_cases hlt : k < 6
  ·have hst := Lib.hid (aPl_1 k hlt)
   have hlen : (aPl.take k).length ≤ 15 := by simp [aPl]; omega
   generalize aPl.take k = L at *
   go_wp2_with (at_builtin; refine appendSG (ns := [(8, (k : Int))]) Tryz.underlying84 infoPl rfl (by omega) (by omega) plF_len plF_one 1 rfl r1 (by omega) hz rfl ?_ rfl rfl; intro v1 w1 hr1 hg1)
   go_roundw
   case rel => exact ⟨k + 1, hlt, by go_num, by rw [← hst.out]; exact hr1, r2.grew hg1 hap.out, Lib.hid (r2.apart hg1 hap.out), hg1.toExt hext (fun k hk => (r1.lt k hk).1)⟩
   case measure => simp [intOf]; omega
  ·obtain rfl : k = 6 := by omega
   rw [show ((6 : Nat) : Int) = (6 : Int) from rfl]
   have hst := Lib.hid (show aPl.take 6 ++ [(8, 7), (8, 8), (7, 8)] = aPl.take (9 + 0) by decide)
   have hlen : (aPl.take 6).length ≤ 15 := by simp [aPl]
   generalize aPl.take 6 = L at *
   go_wp2_with (at_builtin; refine appendSG (ns := [(8, 7), (8, 8), (7, 8)]) Tryz.underlying84 infoPl rfl (by omega) (by omega) plF_len plF_one 3 rfl r1 (by omega) hz rfl ?_ rfl rfl; intro v1 w1 hr1 hg1)
   rw [hst.out] at hr1
   have hap2 := Lib.hid (r2.apart hg1 hap.out)
   replace r2 := r2.grew hg1 hap.out
   replace hap := hap2
   clear hap2
   replace hext := hg1.toExt hext (fun k hk => (r1.lt k hk).1)
   clear hst hg1 r1 hz
   go_loopw [4, 7] (fun v i wr => ∃ (k : Nat) (v0 : Value), v0 = v ∧ k ≤ 6 ∧ i = .int .i64 (5 - (k : Int)) ∧ RowP w.heap.size wr v (aPl.take (9 + k)) ∧ RowP w.heap.size wr u0 [] ∧ Hid (∀ k, u0.ownBlock = some k → v.ownBlock ≠ some k) ∧ Ext w wr) (fun _ i _ => (intOf i + 1).toNat)
   case atStart => exact ⟨0, _, rfl, by omega, by go_num, hr1, r2, hap, hext⟩
   case round =>
    clear hr1 r2 hext hap
    obtain ⟨k, v0, rfl, hk, rfl, r1, r2, hap, hext⟩ := hrel
    have hz := hext.below.size
    by_cases hlt : k < 6
    ·have hst := Lib.hid (aPl_2 k hlt)
     have hlen : (aPl.take (9 + k)).length ≤ 15 := by simp [aPl]; omega
     generalize aPl.take (9 + k) = L at *
     go_wp2_with (at_builtin; refine appendSG (ns := [(5 - (k : Int), 8)]) Tryz.underlying84 infoPl rfl (by omega) (by omega) plF_len plF_one 1 rfl r1 (by omega) hz rfl ?_ rfl rfl; intro v1 w1 hr1 hg1)
     go_roundw
     case rel => exact ⟨k + 1, _, rfl, hlt, by go_num, by rw [← hst.out]; exact hr1, r2.grew hg1 hap.out, Lib.hid (r2.apart hg1 hap.out), hg1.toExt hext (fun k hk => (r1.lt k hk).1)⟩
     case measure => simp [intOf]; omega
    ·obtain rfl : k = 6 := by omega
     rw [show aPl.take (9 + 6) = aPl from rfl] at r1
     rw [show ((5 : Int) - ((6 : Nat) : Int)) = -1 from rfl]
     have hlow : ∀ k, v0.ownBlock = some k → u0.ownBlock ≠ some k := fun k h1 h2 => hap.out k h2 h1
     replace hlow := Lib.hid hlow
     clear hap
     go_wp2
     go_loopw [5, 8] (fun u i wr => ∃ k : Nat, k ≤ 7 ∧ i = .int .i64 (n - 1 - (k : Int)) ∧ RowP w.heap.size wr v0 aPl ∧ RowP w.heap.size wr u ((bPl n).take k) ∧ Hid (∀ k, v0.ownBlock = some k → u.ownBlock ≠ some k) ∧ Ext w wr) (fun _ i _ => (intOf i + 1).toNat)
     case atStart => exact ⟨0, by omega, by go_num, r1, r2, hlow, hext⟩
     case round =>
      clear r1 r2 hext hlow
      obtain ⟨k, hk, rfl, r1, r2, hap, hext⟩ := hrel
      have hz := hext.below.size
      by_cases hlt : k < 7
      ·have hst := Lib.hid (bPl_1' n k hlt)
       have hlen : ((bPl n).take k).length ≤ 15 := by simp [bPl]; omega
       generalize (bPl n).take k = L at *
       go_wp2_with (at_builtin; refine appendSG (ns := [(n - 1 - (k : Int), 8)]) Tryz.underlying84 infoPl rfl (by omega) (by omega) plF_len plF_one 1 rfl r2 (by omega) hz rfl ?_ rfl rfl; intro v1 w1 hr1 hg1)
       go_roundw
       case rel => exact ⟨k + 1, hlt, by go_num, r1.grew hg1 hap.out, by rw [← hst.out]; exact hr1, Lib.hid (r1.apart hg1 hap.out), hg1.toExt hext (fun k hk => (r2.lt k hk).1)⟩
       case measure => simp [intOf]; omega
      ·obtain rfl : k = 7 := by omega
       rw [show ((7 : Nat) : Int) = (7 : Int) from rfl]
       go_wp2
       go_loopw [5, 9] (fun u i wr => ∃ k : Nat, k ≤ 8 ∧ i = .int .i64 (n - 8 + (k : Int)) ∧ RowP w.heap.size wr v0 aPl ∧ RowP w.heap.size wr u ((bPl n).take (7 + k)) ∧ Hid (∀ k, v0.ownBlock = some k → u.ownBlock ≠ some k) ∧ Ext w wr) (fun _ i _ => (n - intOf i).toNat)
       case atStart => exact ⟨0, by omega, by go_num, r1, r2, hap, hext⟩
       case round =>
        clear r1 r2 hext hap
        obtain ⟨k, hk, rfl, r1, r2, hap, hext⟩ := hrel
        have hz := hext.below.size
        by_cases hlt : k < 8
        ·have hst := Lib.hid (bPl_2 n k hlt)
         have hlen : ((bPl n).take (7 + k)).length ≤ 15 := by simp [bPl]; omega
         generalize (bPl n).take (7 + k) = L at *
         go_wp2_with (at_builtin; refine appendSG (ns := [(8, n - 8 + (k : Int))]) Tryz.underlying84 infoPl rfl (by omega) (by omega) plF_len plF_one 1 rfl r2 (by omega) hz rfl ?_ rfl rfl; intro v1 w1 hr1 hg1)
         go_roundw
         case rel => exact ⟨k + 1, hlt, by go_num, r1.grew hg1 hap.out, by rw [← hst.out]; exact hr1, Lib.hid (r1.apart hg1 hap.out), hg1.toExt hext (fun k hk => (r2.lt k hk).1)⟩
         case measure => simp [intOf]; omega
        ·obtain rfl : k = 8 := by omega
         rw [show (bPl n).take (7 + 8) = bPl n from rfl] at r2
         go_wp2
         go_ret2
         exact ⟨⟨_, _, rfl, r1, r2, hap.out⟩, hext⟩
set_option maxHeartbeats 800000 in
set_option maxRecDepth 100000 in
theorem sFormats_c (n : Int) (w : World) (hn : 17 ≤ n ∧ n ≤ 41) : Calls Tryz.prog 78 #[.int .i64 n] w fun e w' => FmtR n w e w' ∧ Ext w w' := by
 have r1 := (RowS.made (f := plF) (k := 2) 121 (B := w.heap.size) (w := w) (Nat.le_refl _)).alloc (.cells #[] 121)
 have r2 := RowS.made (f := plF) (k := 2) 121 (B := w.heap.size) (w := w.alloc (.cells #[] 121)) (by simp)
 have hx0 : Ext w ((w.alloc (.cells #[] 121)).alloc (.cells #[] 121)) := ((Ext.refl w).alloc _).alloc _
 have hap : ∀ k, (Value.slice (some ⟨(w.alloc (.cells #[] 121)).heap.size, 0, none⟩) 0 0).ownBlock = some k → (Value.slice (some ⟨w.heap.size, 0, none⟩) 0 0).ownBlock ≠ some k := fun k h1 h2 => by
  simp [Value.ownBlock] at h1 h2; omega
 replace hap := Lib.hid hap
 simp only [World.size_alloc] at r2 hap
 go_enter Tryz.func78, Tryz.ntmps78
 go_wp2
 generalize ((w.alloc (.cells #[] 121)).alloc (.cells #[] 121)) = w0 at *
 generalize Value.slice (some ⟨w.heap.size + 1, 0, none⟩) 0 0 = u0 at *
 go_loopw [4, 6] (fun v i wr => ∃ k : Nat, k ≤ 6 ∧ i = .int .i64 k ∧ RowP w.heap.size wr v (aPl.take k) ∧ RowP w.heap.size wr u0 [] ∧ Hid (∀ k, u0.ownBlock = some k → v.ownBlock ≠ some k) ∧ Ext w wr) (fun _ i _ => 6 - (intOf i).toNat)
 case atStart => exact ⟨0, by omega, rfl, r1, r2, hap, hx0⟩
 case round =>
  clear r1 r2 hx0 hap
  obtain ⟨k, hk, rfl, r1, r2, hap, hext⟩ := hrel
  have hz := hext.below.size
  by_cases hlt : k < 6
  ·have hst := Lib.hid (aPl_1 k hlt)
   have hlen : (aPl.take k).length ≤ 15 := by simp [aPl]; omega
   generalize aPl.take k = L at *
   go_wp2_with (at_builtin; refine appendSG (ns := [(8, (k : Int))]) Tryz.underlying84 infoPl rfl (by omega) (by omega) plF_len plF_one 1 rfl r1 (by omega) hz rfl ?_ rfl rfl; intro v1 w1 hr1 hg1)
   go_roundw
   case rel => exact ⟨k + 1, hlt, by go_num, by rw [← hst.out]; exact hr1, r2.grew hg1 hap.out, Lib.hid (r2.apart hg1 hap.out), hg1.toExt hext (fun k hk => (r1.lt k hk).1)⟩
   case measure => simp [intOf]; omega
  ·obtain rfl : k = 6 := by omega
   rw [show ((6 : Nat) : Int) = (6 : Int) from rfl]
   have hst := Lib.hid (show aPl.take 6 ++ [(8, 7), (8, 8), (7, 8)] = aPl.take (9 + 0) by decide)
   have hlen : (aPl.take 6).length ≤ 15 := by simp [aPl]
   generalize aPl.take 6 = L at *
   go_wp2_with (at_builtin; refine appendSG (ns := [(8, 7), (8, 8), (7, 8)]) Tryz.underlying84 infoPl rfl (by omega) (by omega) plF_len plF_one 3 rfl r1 (by omega) hz rfl ?_ rfl rfl; intro v1 w1 hr1 hg1)
   rw [hst.out] at hr1
   have hap2 := Lib.hid (r2.apart hg1 hap.out)
   replace r2 := r2.grew hg1 hap.out
   replace hap := hap2
   clear hap2
   replace hext := hg1.toExt hext (fun k hk => (r1.lt k hk).1)
   clear hst hg1 r1 hz
   go_loopw [4, 7] (fun v i wr => ∃ (k : Nat) (v0 : Value), v0 = v ∧ k ≤ 6 ∧ i = .int .i64 (5 - (k : Int)) ∧ RowP w.heap.size wr v (aPl.take (9 + k)) ∧ RowP w.heap.size wr u0 [] ∧ Hid (∀ k, u0.ownBlock = some k → v.ownBlock ≠ some k) ∧ Ext w wr) (fun _ i _ => (intOf i + 1).toNat)
   case atStart => exact ⟨0, _, rfl, by omega, by go_num, hr1, r2, hap, hext⟩
   case round =>
    clear hr1 r2 hext hap
    obtain ⟨k, v0, rfl, hk, rfl, r1, r2, hap, hext⟩ := hrel
    have hz := hext.below.size
    by_cases hlt : k < 6
    ·have hst := Lib.hid (aPl_2 k hlt)
     have hlen : (aPl.take (9 + k)).length ≤ 15 := by simp [aPl]; omega
     generalize aPl.take (9 + k) = L at *
     go_wp2_with (at_builtin; refine appendSG (ns := [(5 - (k : Int), 8)]) Tryz.underlying84 infoPl rfl (by omega) (by omega) plF_len plF_one 1 rfl r1 (by omega) hz rfl ?_ rfl rfl; intro v1 w1 hr1 hg1)
     go_roundw
     case rel => exact ⟨k + 1, _, rfl, hlt, by go_num, by rw [← hst.out]; exact hr1, r2.grew hg1 hap.out, Lib.hid (r2.apart hg1 hap.out), hg1.toExt hext (fun k hk => (r1.lt k hk).1)⟩
     case measure => simp [intOf]; omega
    ·obtain rfl : k = 6 := by omega
     rw [show aPl.take (9 + 6) = aPl from rfl] at r1
     rw [show ((5 : Int) - ((6 : Nat) : Int)) = -1 from rfl]
     have hlow : ∀ k, v0.ownBlock = some k → u0.ownBlock ≠ some k := fun k h1 h2 => hap.out k h2 h1
     replace hlow := Lib.hid hlow
     clear hap
     go_wp2
     go_loopw [5, 8] (fun u i wr => ∃ k : Nat, k ≤ 7 ∧ i = .int .i64 (1 + (k : Int)) ∧ RowP w.heap.size wr v0 aPl ∧ RowP w.heap.size wr u ((bPl n).take k) ∧ Hid (∀ k, v0.ownBlock = some k → u.ownBlock ≠ some k) ∧ Ext w wr) (fun _ i _ => (8 - intOf i).toNat)
     case atStart => exact ⟨0, by omega, by go_num, r1, r2, hlow, hext⟩
     case round =>
      clear r1 r2 hext hlow
      obtain ⟨k, hk, rfl, r1, r2, hap, hext⟩ := hrel
      have hz := hext.below.size
      by_cases hlt : k < 7
      ·have hst := Lib.hid (bPl_1 n k hlt)
       have hlen : ((bPl n).take k).length ≤ 15 := by simp [bPl]; omega
       generalize (bPl n).take k = L at *
       go_wp2_with (at_builtin; refine appendSG (ns := [(n - (1 + (k : Int)), 8)]) Tryz.underlying84 infoPl rfl (by omega) (by omega) plF_len plF_one 1 rfl r2 (by omega) hz rfl ?_ rfl rfl; intro v1 w1 hr1 hg1)
       go_roundw
       case rel => exact ⟨k + 1, hlt, by go_num, r1.grew hg1 hap.out, by rw [← hst.out]; exact hr1, Lib.hid (r1.apart hg1 hap.out), hg1.toExt hext (fun k hk => (r2.lt k hk).1)⟩
       case measure => simp [intOf]; omega
      ·obtain rfl : k = 7 := by omega
       rw [show ((1 : Int) + ((7 : Nat) : Int)) = (8 : Int) from rfl]
       go_wp2
       go_loopw [5, 9] (fun u i wr => ∃ k : Nat, k ≤ 8 ∧ i = .int .i64 (n - 8 + (k : Int)) ∧ RowP w.heap.size wr v0 aPl ∧ RowP w.heap.size wr u ((bPl n).take (7 + k)) ∧ Hid (∀ k, v0.ownBlock = some k → u.ownBlock ≠ some k) ∧ Ext w wr) (fun _ i _ => (n - intOf i).toNat)
       case atStart => exact ⟨0, by omega, by go_num, r1, r2, hap, hext⟩
       case round =>
        clear r1 r2 hext hap
        obtain ⟨k, hk, rfl, r1, r2, hap, hext⟩ := hrel
        have hz := hext.below.size
        by_cases hlt : k < 8
        ·have hst := Lib.hid (bPl_2 n k hlt)
         have hlen : ((bPl n).take (7 + k)).length ≤ 15 := by simp [bPl]; omega
         generalize (bPl n).take (7 + k) = L at *
         go_wp2_with (at_builtin; refine appendSG (ns := [(8, n - 8 + (k : Int))]) Tryz.underlying84 infoPl rfl (by omega) (by omega) plF_len plF_one 1 rfl r2 (by omega) hz rfl ?_ rfl rfl; intro v1 w1 hr1 hg1)
         go_roundw
         case rel => exact ⟨k + 1, hlt, by go_num, r1.grew hg1 hap.out, by rw [← hst.out]; exact hr1, Lib.hid (r1.apart hg1 hap.out), hg1.toExt hext (fun k hk => (r2.lt k hk).1)⟩
         case measure => simp [intOf]; omega
        ·obtain rfl : k = 8 := by omega
         rw [show (bPl n).take (7 + 8) = bPl n from rfl] at r2
         go_wp2
         go_ret2
         exact ⟨⟨_, _, rfl, r1, r2, hap.out⟩, hext⟩
open Go.RowKit

def absI (x : Int) : Int := max x (-x)
def finV (r c : Int) : Int := if 4 < max (absI (r - 3)) (absI (c - 3)) then -1 else if max (absI (r - 3)) (absI (c - 3)) = 2 ∨ max (absI (r - 3)) (absI (c - 3)) = 4 then 0 else 1
theorem finV_bd (r c : Int) : -1 ≤ finV r c ∧ finV r c ≤ 1 := by
 unfold finV
 split
 ·omega
 ·split <;> omega
def fixV (n r c : Int) : Int :=
 if 0 ≤ finV r c then finV r c else if 0 ≤ finV r (c - (n - 7)) then finV r (c - (n - 7)) else if 0 ≤ finV (r - (n - 7)) c then finV (r - (n - 7)) c
 else if r = 6 ∧ 8 ≤ c ∧ c ≤ n - 9 then 1 - c % 2 else if c = 6 ∧ 8 ≤ r ∧ r ≤ n - 9 then 1 - r % 2 else if r = n - 8 ∧ c = 8 then 1 else -1
theorem fixV_bd (n r c : Int) : -1 ≤ fixV n r c ∧ fixV n r c ≤ 1 := by
 have h1 := finV_bd r c
 have h2 := finV_bd r (c - (n - 7))
 have h3 := finV_bd (r - (n - 7)) c
 unfold fixV
 repeat (first | omega | split)
def fixL (n : Nat) : List Int := (List.range (n * n)).map fun i => fixV n ((i / n : Nat) : Int) ((i % n : Nat) : Int)
theorem fixL_len (n : Nat) : (fixL n).length = n * n := by simp [fixL]
theorem fixL_at {n r c : Nat} (hr : r < n) (hc : c < n) : (fixL n).getD (r * n + c) 0 = fixV n r c := by
 have hlt : r * n + c < n * n := by
  have := Nat.mul_le_mul_right n (show r + 1 ≤ n from hr)
  rw [Nat.add_mul] at this; omega
 rw [List.getD_eq_getElem?_getD, List.getElem?_eq_getElem (by rw [fixL_len]; exact hlt)]
 simp only [fixL, List.getElem_map, List.getElem_range, Option.getD_some]
 have h1 : (r * n + c) / n = r := by rw [Nat.add_comm, Nat.mul_comm, Nat.add_mul_div_left _ _ (by omega), Nat.div_eq_of_lt hc]; omega
 have h2 : (r * n + c) % n = c := by rw [Nat.add_comm, Nat.add_mul_mod_self_right, Nat.mod_eq_of_lt hc]
 rw [h1, h2]
def midV (n x : Int) : Int := if n / 2 < x then n - 4 else 3
def inK (j : Nat) (n r c : Int) : Prop :=
 match j with
 | 0 => (midV n r = 3 ∨ midV n c = 3) ∧ max (absI (r - midV n r)) (absI (c - midV n c)) ≤ 4
 | 1 => r = 6 ∧ 8 ≤ c ∧ c ≤ n - 9
 | 2 => c = 6 ∧ 8 ≤ r ∧ r ≤ n - 9
 | _ => r = n - 8 ∧ c = 8
def dkK (j : Nat) (n r c : Int) : Int :=
 match j with
 | 0 => if max (absI (r - midV n r)) (absI (c - midV n c)) = 2 ∨ max (absI (r - midV n r)) (absI (c - midV n c)) = 4 then 0 else 1
 | 1 => 1 - c % 2
 | 2 => 1 - r % 2
 | _ => 1
theorem finV_in {r c : Int} (h : max (absI (r - 3)) (absI (c - 3)) ≤ 4) : finV r c = if max (absI (r - 3)) (absI (c - 3)) = 2 ∨ max (absI (r - 3)) (absI (c - 3)) = 4 then 0 else 1 := by
 unfold finV; rw [if_neg (by omega)]
theorem finV_out {r c : Int} (h : 4 < max (absI (r - 3)) (absI (c - 3))) : ¬ 0 ≤ finV r c := by
 unfold finV; rw [if_pos h]; omega
theorem pos01 {P : Prop} [Decidable P] : (0 : Int) ≤ if P then 0 else 1 := by split <;> omega
theorem fix_0 {n r c : Int} (hn : 17 ≤ n) (hr : 0 ≤ r ∧ r < n) (hc : 0 ≤ c ∧ c < n) (h : inK 0 n r c) : fixV n r c = dkK 0 n r c := by
 have h : (midV n r = 3 ∨ midV n c = 3) ∧ max (absI (r - midV n r)) (absI (c - midV n c)) ≤ 4 := h
 show fixV n r c = if max (absI (r - midV n r)) (absI (c - midV n c)) = 2 ∨ max (absI (r - midV n r)) (absI (c - midV n c)) = 4 then 0 else 1
 by_cases a : n / 2 < r <;> by_cases b : n / 2 < c
 ·have e1 : midV n r = n - 4 := if_pos a
  have e2 : midV n c = n - 4 := if_pos b
  rw [e1, e2] at h
  omega
 ·have e1 : midV n r = n - 4 := if_pos a
  have e2 : midV n c = 3 := if_neg b
  rw [e1, e2] at h ⊢
  have h4 := h.2
  have e3 : r - (n - 7) - 3 = r - (n - 4) := by omega
  have h5 : max (absI (r - (n - 7) - 3)) (absI (c - 3)) ≤ 4 := by rw [e3]; exact h4
  unfold fixV
  rw [if_neg (finV_out (by unfold absI at *; omega)), if_neg (finV_out (by unfold absI at *; omega)), finV_in h5, if_pos pos01, e3]
 ·have e1 : midV n r = 3 := if_neg a
  have e2 : midV n c = n - 4 := if_pos b
  rw [e1, e2] at h ⊢
  have h4 := h.2
  have e3 : c - (n - 7) - 3 = c - (n - 4) := by omega
  have h5 : max (absI (r - 3)) (absI (c - (n - 7) - 3)) ≤ 4 := by rw [e3]; exact h4
  unfold fixV
  rw [if_neg (finV_out (by unfold absI at *; omega)), finV_in h5, if_pos pos01, e3]
 ·have e1 : midV n r = 3 := if_neg a
  have e2 : midV n c = 3 := if_neg b
  rw [e1, e2] at h ⊢
  have h4 := h.2
  unfold fixV
  rw [finV_in h4, if_pos pos01]
theorem fix_no0 {n r c : Int} (hn : 17 ≤ n) (hr : 0 ≤ r ∧ r < n) (hc : 0 ≤ c ∧ c < n) (h : ¬ inK 0 n r c) : fixV n r c = if r = 6 ∧ 8 ≤ c ∧ c ≤ n - 9 then 1 - c % 2 else if c = 6 ∧ 8 ≤ r ∧ r ≤ n - 9 then 1 - r % 2 else if r = n - 8 ∧ c = 8 then 1 else -1 := by
 have h1 : ¬ 0 ≤ finV r c := by
  intro h0
  apply h
  unfold finV at h0
  unfold inK midV absI at *
  simp only
  split at h0
  ·omega
  ·split <;> split <;> omega
 have h2 : ¬ 0 ≤ finV r (c - (n - 7)) := by
  intro h0
  apply h
  unfold finV at h0
  unfold inK midV absI at *
  simp only
  split at h0
  ·omega
  ·split <;> split <;> omega
 have h3 : ¬ 0 ≤ finV (r - (n - 7)) c := by
  intro h0
  apply h
  unfold finV at h0
  unfold inK midV absI at *
  simp only
  split at h0
  ·omega
  ·split <;> split <;> omega
 unfold fixV
 rw [if_neg h1, if_neg h2, if_neg h3]
theorem fix_1 {n r c : Int} (hn : 17 ≤ n) (hr : 0 ≤ r ∧ r < n) (hc : 0 ≤ c ∧ c < n) (h0 : ¬ inK 0 n r c) (h : inK 1 n r c) : fixV n r c = dkK 1 n r c := by
 rw [fix_no0 hn hr hc h0, if_pos (show r = 6 ∧ 8 ≤ c ∧ c ≤ n - 9 from h)]; rfl
theorem fix_2 {n r c : Int} (hn : 17 ≤ n) (hr : 0 ≤ r ∧ r < n) (hc : 0 ≤ c ∧ c < n) (h0 : ¬ inK 0 n r c) (h1 : ¬ inK 1 n r c) (h : inK 2 n r c) : fixV n r c = dkK 2 n r c := by
 rw [fix_no0 hn hr hc h0, if_neg (show ¬ (r = 6 ∧ 8 ≤ c ∧ c ≤ n - 9) from h1), if_pos (show c = 6 ∧ 8 ≤ r ∧ r ≤ n - 9 from h)]; rfl
theorem fix_3 {n r c : Int} (hn : 17 ≤ n) (hr : 0 ≤ r ∧ r < n) (hc : 0 ≤ c ∧ c < n) (h0 : ¬ inK 0 n r c) (h1 : ¬ inK 1 n r c) (h2 : ¬ inK 2 n r c) (h : inK 3 n r c) : fixV n r c = dkK 3 n r c := by
 rw [fix_no0 hn hr hc h0, if_neg (show ¬ (r = 6 ∧ 8 ≤ c ∧ c ≤ n - 9) from h1), if_neg (show ¬ (c = 6 ∧ 8 ≤ r ∧ r ≤ n - 9) from h2), if_pos (show r = n - 8 ∧ c = 8 from h)]; rfl
theorem fix_4 {n r c : Int} (hn : 17 ≤ n) (hr : 0 ≤ r ∧ r < n) (hc : 0 ≤ c ∧ c < n) (h0 : ¬ inK 0 n r c) (h1 : ¬ inK 1 n r c) (h2 : ¬ inK 2 n r c) (h : ¬ inK 3 n r c) : fixV n r c = -1 := by
 rw [fix_no0 hn hr hc h0, if_neg (show ¬ (r = 6 ∧ 8 ≤ c ∧ c ≤ n - 9) from h1), if_neg (show ¬ (c = 6 ∧ 8 ≤ r ∧ r ≤ n - 9) from h2), if_neg (show ¬ (r = n - 8 ∧ c = 8) from h)]
def fixTo (n k : Nat) : List Int := (fixL n).take k ++ List.replicate (n * n - k) (-1)
theorem fixTo_len {n k : Nat} (h : k ≤ n * n) : (fixTo n k).length = n * n := by simp [fixTo, fixL_len]; omega
theorem fixTo_0 (n : Nat) : fixTo n 0 = List.replicate (n * n) (-1) := by simp [fixTo]
theorem fixTo_all (n : Nat) : fixTo n (n * n) = fixL n := by simp [fixTo, List.take_of_length_le, fixL_len]
theorem fixTo_step {n k : Nat} (h : k < n * n) : (fixTo n k).set k ((fixL n).getD k 0) = fixTo n (k + 1) := by
 have hl : ((fixL n).take k).length = k := by simp [fixL_len]; omega
 unfold fixTo
 rw [List.set_append, if_neg (by omega), hl, Nat.sub_self]
 obtain ⟨m, hm⟩ : ∃ m, n * n - k = m + 1 := ⟨n * n - k - 1, by omega⟩
 rw [hm, List.replicate_succ, List.set_cons_zero, show n * n - (k + 1) = m by omega, List.take_succ_eq_append_getElem (by rw [fixL_len]; exact h), List.getD_eq_getElem?_getD, List.getElem?_eq_getElem (by rw [fixL_len]; exact h), List.append_assoc]
 rfl
theorem fixTo_skip {n k : Nat} (h : k < n * n) (h1 : (fixL n).getD k 0 = -1) : fixTo n k = fixTo n (k + 1) := by
 rw [← fixTo_step h, h1]
 have hl : ((fixL n).take k).length = k := by simp [fixL_len]; omega
 unfold fixTo
 rw [List.set_append, if_neg (by omega), hl, Nat.sub_self]
 obtain ⟨m, hm⟩ : ∃ m, n * n - k = m + 1 := ⟨n * n - k - 1, by omega⟩
 rw [hm, List.replicate_succ, List.set_cons_zero]
open Go.RowKit

theorem sAbs_c (x : Int) (w : World) (hx : -1000000 ≤ x ∧ x ≤ 1000000) : Calls Tryz.prog 133 #[.int .i64 x] w fun e w' => e = .returned (.int .i64 (absI x)) ∧ w = w' := by
 go_enter Tryz.func133, Tryz.ntmps133
 go_wp2
 all_goals (go_ret; exact ⟨ret_int (by unfold absI; omega), rfl⟩)
theorem sFinder_c (r c : Int) (w : World) (hr : -1000 ≤ r ∧ r ≤ 1000) (hc : -1000 ≤ c ∧ c ≤ 1000) : Calls Tryz.prog 195 #[.int .i64 r, .int .i64 c] w fun e w' => e = .returned (.int .i64 (finV r c)) ∧ w = w' := by
 have h1 := Lib.hid (fun W => sAbs_c (r - 3) W (by omega))
 have h2 := Lib.hid (fun W => sAbs_c (c - 3) W (by omega))
 have hv : finV r c = if 4 < max (absI (r - 3)) (absI (c - 3)) then -1 else if max (absI (r - 3)) (absI (c - 3)) = 2 ∨ max (absI (r - 3)) (absI (c - 3)) = 4 then 0 else 1 := rfl
 have b1 : 0 ≤ absI (r - 3) ∧ absI (r - 3) ≤ 2000 := by unfold absI; omega
 have b2 : 0 ≤ absI (c - 3) ∧ absI (c - 3) ≤ 2000 := by unfold absI; omega
 generalize absI (r - 3) = a at *
 generalize absI (c - 3) = b at *
 generalize finV r c = v at *
 replace hv := Lib.hid hv
 go_enter Tryz.func195, Tryz.ntmps195
 go_wp2_with (go_at_call 133; first | ((with_reducible refine (h1.out _).mono ?_); rintro e w' ⟨rfl, rfl⟩) | ((with_reducible refine (h2.out _).mono ?_); rintro e w' ⟨rfl, rfl⟩))
 all_goals (go_ret; exact ⟨ret_int (by rw [hv.out]; clear hv h1 h2; (try simp only [beq_iff_eq, beq_eq_false_iff_ne, ne_eq] at *); repeat (first | omega | split)), rfl⟩)
set_option maxHeartbeats 800000 in
set_option maxRecDepth 100000 in
theorem sFixed_c (n r c : Int) (w : World) (hn : 17 ≤ n ∧ n ≤ 41) (hr : 0 ≤ r ∧ r < n) (hc : 0 ≤ c ∧ c < n) : Calls Tryz.prog 153 #[.int .i64 n, .int .i64 r, .int .i64 c] w fun e w' => e = .returned (.int .i64 (fixV n r c)) ∧ Ext w w' := by
 have b0 := ((Blk.new w #[.int .i64 0, .int .i64 0] 2).alloc (.cells #[.int .i64 0, .int .i64 (n - 7)] 2)).alloc (.cells #[.int .i64 (n - 7), .int .i64 0] 2)
 have b1 := (Blk.new (w.alloc (.cells #[.int .i64 0, .int .i64 0] 2)) #[.int .i64 0, .int .i64 (n - 7)] 2).alloc (.cells #[.int .i64 (n - 7), .int .i64 0] 2)
 have b2 := Blk.new ((w.alloc (.cells #[.int .i64 0, .int .i64 0] 2)).alloc (.cells #[.int .i64 0, .int .i64 (n - 7)] 2)) #[.int .i64 (n - 7), .int .i64 0] 2
 simp only [World.size_alloc] at b1 b2
 have hx0 : Ext w (((w.alloc (.cells #[.int .i64 0, .int .i64 0] 2)).alloc (.cells #[.int .i64 0, .int .i64 (n - 7)] 2)).alloc (.cells #[.int .i64 (n - 7), .int .i64 0] 2)) := (((Ext.refl w).alloc _).alloc _).alloc _
 have hz0 : (((w.alloc (.cells #[.int .i64 0, .int .i64 0] 2)).alloc (.cells #[.int .i64 0, .int .i64 (n - 7)] 2)).alloc (.cells #[.int .i64 (n - 7), .int .i64 0] 2)).heap.size = w.heap.size + 1 + 1 + 1 := by simp
 have b3 := Blk.new (((w.alloc (.cells #[.int .i64 0, .int .i64 0] 2)).alloc (.cells #[.int .i64 0, .int .i64 (n - 7)] 2)).alloc (.cells #[.int .i64 (n - 7), .int .i64 0] 2)) #[.slice (some ⟨w.heap.size, 0, none⟩) 2 2, .slice (some ⟨w.heap.size + 1, 0, none⟩) 2 2, .slice (some ⟨w.heap.size + 1 + 1, 0, none⟩) 2 2] 22
 rw [hz0] at b3
 have hx1 := hx0.alloc (.cells #[.slice (some ⟨w.heap.size, 0, none⟩) 2 2, .slice (some ⟨w.heap.size + 1, 0, none⟩) 2 2, .slice (some ⟨w.heap.size + 1 + 1, 0, none⟩) 2 2] 22)
 replace b0 := b0.alloc (.cells #[.slice (some ⟨w.heap.size, 0, none⟩) 2 2, .slice (some ⟨w.heap.size + 1, 0, none⟩) 2 2, .slice (some ⟨w.heap.size + 1 + 1, 0, none⟩) 2 2] 22)
 replace b1 := b1.alloc (.cells #[.slice (some ⟨w.heap.size, 0, none⟩) 2 2, .slice (some ⟨w.heap.size + 1, 0, none⟩) 2 2, .slice (some ⟨w.heap.size + 1 + 1, 0, none⟩) 2 2] 22)
 replace b2 := b2.alloc (.cells #[.slice (some ⟨w.heap.size, 0, none⟩) 2 2, .slice (some ⟨w.heap.size + 1, 0, none⟩) 2 2, .slice (some ⟨w.heap.size + 1 + 1, 0, none⟩) 2 2] 22)
 clear hz0 hx0
 have h0 := Lib.hid (fun W => sFinder_c r c W (by omega) (by omega))
 have h1 := Lib.hid (fun W => sFinder_c r (c - (n - 7)) W (by omega) (by omega))
 have h2 := Lib.hid (fun W => sFinder_c (r - (n - 7)) c W (by omega) (by omega))
 have hv : fixV n r c = if 0 ≤ finV r c then finV r c else if 0 ≤ finV r (c - (n - 7)) then finV r (c - (n - 7)) else if 0 ≤ finV (r - (n - 7)) c then finV (r - (n - 7)) c
  else if r = 6 ∧ 8 ≤ c ∧ c ≤ n - 9 then 1 - c % 2 else if c = 6 ∧ 8 ≤ r ∧ r ≤ n - 9 then 1 - r % 2 else if r = n - 8 ∧ c = 8 then 1 else -1 := rfl
 generalize fixV n r c = V at *
 generalize finV r c = F0 at *
 generalize finV r (c - (n - 7)) = F1 at *
 generalize finV (r - (n - 7)) c = F2 at *
 replace hv := Lib.hid hv
 go_enter Tryz.func153, Tryz.ntmps153
 go_wp2
 generalize ((((w.alloc (.cells #[.int .i64 0, .int .i64 0] 2)).alloc (.cells #[.int .i64 0, .int .i64 (n - 7)] 2)).alloc (.cells #[.int .i64 (n - 7), .int .i64 0] 2)).alloc (.cells #[.slice (some ⟨w.heap.size, 0, none⟩) 2 2, .slice (some ⟨w.heap.size + 1, 0, none⟩) 2 2, .slice (some ⟨w.heap.size + 1 + 1, 0, none⟩) 2 2] 22)) = w0 at *
 go_loopw [8] (fun i wr => ∃ k : Nat, k ≤ 3 ∧ i = .int .i64 k ∧ (1 ≤ k → F0 < 0) ∧ (2 ≤ k → F1 < 0) ∧ (3 ≤ k → F2 < 0) ∧ Ext w0 wr) (fun i _ => 3 - (intOf i).toNat)
 case atStart => exact ⟨0, by omega, rfl, by omega, by omega, by omega, Ext.refl _⟩
 case round =>
  obtain ⟨k, hk, rfl, n0, n1, n2, hext⟩ := hrel
  replace b0 := b0.ext hext; replace b1 := b1.ext hext; replace b2 := b2.ext hext; replace b3 := b3.ext hext
  replace hx1 := hx1.trans hext
  have p0 := b3.cell (i := 0) (v := .slice (some ⟨w.heap.size, 0, none⟩) 2 2) rfl
  have p1 := b3.cell (i := 1) (v := .slice (some ⟨w.heap.size + 1, 0, none⟩) 2 2) rfl
  have p2 := b3.cell (i := 2) (v := .slice (some ⟨w.heap.size + 1 + 1, 0, none⟩) 2 2) rfl
  have q0 := b0.cell (i := 0) (v := .int .i64 0) rfl
  have q1 := b0.cell (i := 1) (v := .int .i64 0) rfl
  have r0 := b1.cell (i := 0) (v := .int .i64 0) rfl
  have r1 := b1.cell (i := 1) (v := .int .i64 (n - 7)) rfl
  have s0 := b2.cell (i := 0) (v := .int .i64 (n - 7)) rfl
  have s1 := b2.cell (i := 1) (v := .int .i64 0) rfl
  have l0 := b0.lt; have l1 := b1.lt; have l2 := b2.lt; have lq := b3.lt
  have hk4 : k = 0 ∨ k = 1 ∨ k = 2 ∨ k = 3 := by omega
  rcases hk4 with rfl | rfl | rfl | rfl
  ·rw [show ((0 : Nat) : Int) = (0 : Int) from rfl]
   clear hk
   clear n0 n1 n2
   have ew1 := IntWalk.i64_in r (by omega)
   have ew2 := IntWalk.i64_in c (by omega)
   have ew3 := IntWalk.i64_in (c - (n - 7)) (by omega)
   have ew4 := IntWalk.i64_in (r - (n - 7)) (by omega)
   go_wp2
   refine wp_region_canon (fun w' => Ext wr w') [(0, true), (1, true), (2, true), (3, true), (4, true), (5, true), (6, true), (7, true), (8, true), (9, true), (10, true), (11, true), (12, true), (13, true), (14, true), (15, true), (16, false), (17, true)] (by kernel_rfl) (by kernel_rfl) (by decide) (by kernel_rfl) ?_ ?_
   ·exact eX
   refine canon_intro fun ops eo => ?_
   replace eo := canon_eo eo
   iterate 16 all_goals (refine cS eo rfl rfl evE ?_; simp only [ptN])
   all_goals first | (refine canon_ef (eo.out 16 rfl) rfl (fun K hK => ?_); go_simp; ((go_at_call 195; (with_reducible refine (h0.out _).mono ?_); rintro e w1 ⟨rfl, rfl⟩)); all_goals (refine hK _ _ ⟨eX, ?_⟩; clear hK K; go_simp))
   all_goals (refine cS eo rfl rfl evE ?_; simp only [ptN])
   all_goals (clear eo; refine canon_done (NoPanic.normal ?_))
   clear ew1 ew2 ew3 ew4
   by_cases hF : 0 ≤ F0
   ·go_wp2
    go_ret
    exact ⟨ret_int (by rw [hv.out]; rw [if_pos hF]), hx1.drew⟩
   ·go_wp2
    go_roundw
    case rel => exact ⟨1, by omega, by go_num, fun _ => by omega, by omega, by omega, hext.drew⟩
    case measure => simp [intOf]
  ·rw [show ((1 : Nat) : Int) = (1 : Int) from rfl]
   clear hk
   have m0 : ¬ 0 ≤ F0 := by have := n0 (by omega); omega
   clear n0 n1 n2
   have ew1 := IntWalk.i64_in r (by omega)
   have ew2 := IntWalk.i64_in c (by omega)
   have ew3 := IntWalk.i64_in (c - (n - 7)) (by omega)
   have ew4 := IntWalk.i64_in (r - (n - 7)) (by omega)
   go_wp2
   refine wp_region_canon (fun w' => Ext wr w') [(0, true), (1, true), (2, true), (3, true), (4, true), (5, true), (6, true), (7, true), (8, true), (9, true), (10, true), (11, true), (12, true), (13, true), (14, true), (15, true), (16, false), (17, true)] (by kernel_rfl) (by kernel_rfl) (by decide) (by kernel_rfl) ?_ ?_
   ·exact eX
   refine canon_intro fun ops eo => ?_
   replace eo := canon_eo eo
   iterate 16 all_goals (refine cS eo rfl rfl evE ?_; simp only [ptN])
   all_goals first | (refine canon_ef (eo.out 16 rfl) rfl (fun K hK => ?_); go_simp; ((go_at_call 195; (with_reducible refine (h1.out _).mono ?_); rintro e w1 ⟨rfl, rfl⟩)); all_goals (refine hK _ _ ⟨eX, ?_⟩; clear hK K; go_simp))
   all_goals (refine cS eo rfl rfl evE ?_; simp only [ptN])
   all_goals (clear eo; refine canon_done (NoPanic.normal ?_))
   clear ew1 ew2 ew3 ew4
   by_cases hF : 0 ≤ F1
   ·go_wp2
    go_ret
    exact ⟨ret_int (by rw [hv.out]; rw [if_neg (by omega), if_pos hF]), hx1.drew⟩
   ·go_wp2
    go_roundw
    case rel => exact ⟨2, by omega, by go_num, fun _ => by omega, fun _ => by omega, by omega, hext.drew⟩
    case measure => simp [intOf]
  ·rw [show ((2 : Nat) : Int) = (2 : Int) from rfl]
   clear hk
   have m0 : ¬ 0 ≤ F0 := by have := n0 (by omega); omega
   have m1 : ¬ 0 ≤ F1 := by have := n1 (by omega); omega
   clear n0 n1 n2
   have ew1 := IntWalk.i64_in r (by omega)
   have ew2 := IntWalk.i64_in c (by omega)
   have ew3 := IntWalk.i64_in (c - (n - 7)) (by omega)
   have ew4 := IntWalk.i64_in (r - (n - 7)) (by omega)
   go_wp2
   refine wp_region_canon (fun w' => Ext wr w') [(0, true), (1, true), (2, true), (3, true), (4, true), (5, true), (6, true), (7, true), (8, true), (9, true), (10, true), (11, true), (12, true), (13, true), (14, true), (15, true), (16, false), (17, true)] (by kernel_rfl) (by kernel_rfl) (by decide) (by kernel_rfl) ?_ ?_
   ·exact eX
   refine canon_intro fun ops eo => ?_
   replace eo := canon_eo eo
   iterate 16 all_goals (refine cS eo rfl rfl evE ?_; simp only [ptN])
   all_goals first | (refine canon_ef (eo.out 16 rfl) rfl (fun K hK => ?_); go_simp; ((go_at_call 195; (with_reducible refine (h2.out _).mono ?_); rintro e w1 ⟨rfl, rfl⟩)); all_goals (refine hK _ _ ⟨eX, ?_⟩; clear hK K; go_simp))
   all_goals (refine cS eo rfl rfl evE ?_; simp only [ptN])
   all_goals (clear eo; refine canon_done (NoPanic.normal ?_))
   clear ew1 ew2 ew3 ew4
   by_cases hF : 0 ≤ F2
   ·go_wp2
    go_ret
    exact ⟨ret_int (by rw [hv.out]; rw [if_neg (by omega), if_neg (by omega), if_pos hF]), hx1.drew⟩
   ·go_wp2
    go_roundw
    case rel => exact ⟨3, by omega, by go_num, fun _ => by omega, fun _ => by omega, fun _ => by omega, hext.drew⟩
    case measure => simp [intOf]
  ·rw [show ((3 : Nat) : Int) = (3 : Int) from rfl]
   have m0 : ¬ 0 ≤ F0 := by have := n0 (by omega); omega
   have m1 : ¬ 0 ≤ F1 := by have := n1 (by omega); omega
   have m2 : ¬ 0 ≤ F2 := by have := n2 (by omega); omega
   have hv' := hv.out
   rw [if_neg m0, if_neg m1, if_neg m2] at hv'
   clear hv n0 n1 n2 m0 m1 m2 p0 p1 p2 q0 q1 r0 r1 s0 s1 l0 l1 l2 lq
   replace hv := Lib.hid hv'
   clear hv'
   have e1 : r.tmod 2 = r % 2 := Int.tmod_eq_emod_of_nonneg hr.1
   have e2 : c.tmod 2 = c % 2 := Int.tmod_eq_emod_of_nonneg hc.1
   by_cases a1 : r = 6 ∧ 8 ≤ c ∧ c ≤ n - 9
   ·have hv1 := hv.out
    rw [if_pos a1] at hv1
    have d6 : (r == 6) = true := by simp [a1.1]
    obtain ⟨a6, a7, a8⟩ := a1
    replace hv := Lib.hid hv1; clear hv1; replace a6 := Lib.hid a6
    go_wp2_with (go_at_call 29; (with_reducible refine (l01In_c _ _ _ _).mono ?_); rintro e w1 ⟨⟨hP, rfl⟩ | ⟨hP, rfl⟩, rfl⟩ <;> first | (exfalso; omega) | skip)
    go_ret
    exact ⟨ret_int hv.out.symm, hx1⟩
   ·have hv1 := hv.out
    rw [if_neg a1] at hv1
    have c1 : (r == 6) = false ∨ ((r == 6) = true ∧ ¬ (8 ≤ c ∧ c ≤ n - 9)) := by
     by_cases h : r = 6
     ·exact .inr ⟨by simp [h], fun h2 => a1 ⟨h, h2⟩⟩
     ·exact .inl (by simpa using h)
    by_cases a2 : c = 6 ∧ 8 ≤ r ∧ r ≤ n - 9
    ·rw [if_pos a2] at hv1
     have d6 : (c == 6) = true := by simp [a2.1]
     obtain ⟨a6, a7, a8⟩ := a2
     replace hv := Lib.hid hv1; clear hv1 a1; replace a6 := Lib.hid a6
     rcases c1 with c1 | ⟨c1, c2⟩
     all_goals
      go_wp2_with (go_at_call 29; (with_reducible refine (l01In_c _ _ _ _).mono ?_); rintro e w1 ⟨⟨hP, rfl⟩ | ⟨hP, rfl⟩, rfl⟩ <;> first | (exfalso; omega) | skip)
      go_ret
      exact ⟨ret_int hv.out.symm, hx1⟩
    ·rw [if_neg a2] at hv1
     have c2 : (c == 6) = false ∨ ((c == 6) = true ∧ ¬ (8 ≤ r ∧ r ≤ n - 9)) := by
      by_cases h : c = 6
      ·exact .inr ⟨by simp [h], fun h2 => a2 ⟨h, h2⟩⟩
      ·exact .inl (by simpa using h)
     have c3 : ((r == n - 8) = true ∧ (c == 8) = true ∧ (if r = n - 8 ∧ c = 8 then (1 : Int) else -1) = 1) ∨ ((r == n - 8) = true ∧ (c == 8) = false ∧ (if r = n - 8 ∧ c = 8 then (1 : Int) else -1) = -1) ∨ ((r == n - 8) = false ∧ (if r = n - 8 ∧ c = 8 then (1 : Int) else -1) = -1) := by
      by_cases h1 : r = n - 8 <;> by_cases h2 : c = 8 <;> simp [h1, h2]
     clear a1 a2
     rcases c3 with ⟨c3, c4, c5⟩ | ⟨c3, c4, c5⟩ | ⟨c3, c5⟩
     all_goals
      rw [c5] at hv1
      replace hv := Lib.hid hv1
      clear hv1 c5 e1 e2
      rcases c1 with c1 | ⟨c1, c6⟩ <;> rcases c2 with c2 | ⟨c2, c7⟩
     all_goals
      go_wp2_with (go_at_call 29; (with_reducible refine (l01In_c _ _ _ _).mono ?_); rintro e w1 ⟨⟨hP, rfl⟩ | ⟨hP, rfl⟩, rfl⟩ <;> first | (exfalso; omega) | skip)
      go_ret
      exact ⟨ret_int hv.out.symm, hx1⟩
def GrdR (r c : Int) (xs : List Int) (B : Nat) (e : Ending) (w' : World) : Prop := ∃ p k, e = .returned (vGrid r c p xs.length k) ∧ OwnInts B w' p xs ∧ xs.length ≤ k
set_option maxHeartbeats 800000 in
set_option maxRecDepth 100000 in
theorem sGrid_c (n : Nat) (w : World) (hn : 17 ≤ n ∧ n ≤ 41) : Calls Tryz.prog 90 #[.int .i64 n] w fun e w' => GrdR n n (fixL n) w.heap.size e w' ∧ Ext w w' := by
 have hb := (Blk.new w #[.int .i64 0, .int .i64 0, .slice none 0 0] 28).alloc (.cells #[] 2)
 have hrow := RowI.made (B := w.heap.size + 1) (w := w.alloc (.cells #[.int .i64 0, .int .i64 0, .slice none 0 0] 28)) (by simp)
 have hx0 : Ext w ((w.alloc (.cells #[.int .i64 0, .int .i64 0, .slice none 0 0] 28)).alloc (.cells #[] 2)) := ((Ext.refl w).alloc _).alloc _
 simp only [World.size_alloc] at hrow
 have hnn := Lib.hid (fixL_len n)
 go_enter Tryz.func90, Tryz.ntmps90
 go_wp2
 generalize ((w.alloc (.cells #[.int .i64 0, .int .i64 0, .slice none 0 0] 28)).alloc (.cells #[] 2)) = w0 at *
 go_loopw [3, 4] (fun v i wr => ∃ r : Nat, r ≤ n ∧ i = .int .i64 r ∧ RowI (w.heap.size + 1) wr v ((fixL n).take (r * n)) ∧ Blk wr w.heap.size #[.int .i64 0, .int .i64 0, .slice none 0 0] 28 ∧ Ext w wr) (fun _ i _ => n - (intOf i).toNat)
 case atStart => exact ⟨0, by omega, rfl, by simpa using hrow, hb, hx0⟩
 case round =>
  clear hrow hb hx0
  obtain ⟨r, hr, rfl, hrow, hb, hext⟩ := hrel
  by_cases hlt : r < n
  ·have hri : (r : Int) < n := by omega
   go_wp2
   go_loopw [3, 5] (fun v i wr => ∃ c : Nat, c ≤ n ∧ i = .int .i64 c ∧ RowI (w.heap.size + 1) wr v ((fixL n).take (r * n + c)) ∧ Blk wr w.heap.size #[.int .i64 0, .int .i64 0, .slice none 0 0] 28 ∧ Ext w wr) (fun _ i _ => n - (intOf i).toNat)
   case atStart => exact ⟨0, by omega, rfl, by simpa using hrow, hb, hext⟩
   case round =>
    clear hrow hb hext
    obtain ⟨c, hc, rfl, hrow, hb, hext⟩ := hrel
    by_cases hlc : c < n
    ·have hci : (c : Int) < n := by omega
     have hlt2 : r * n + c < n * n := by
      have := Nat.mul_le_mul_right n (show r + 1 ≤ n from hlt)
      rw [Nat.add_mul] at this; omega
     have hfx := Lib.hid (fun W => sFixed_c n r c W (by omega) (by omega) (by omega))
     have hst : (fixL n).take (r * n + c) ++ [fixV n r c] = (fixL n).take (r * n + (c + 1)) := by
      rw [← Nat.add_assoc, List.take_succ_eq_append_getElem (by rw [hnn.out]; exact hlt2), ← fixL_at hlt hlc, List.getD_eq_getElem?_getD, List.getElem?_eq_getElem (by rw [hnn.out]; exact hlt2)]
      rfl
     replace hst := Lib.hid hst
     have hlen : ((fixL n).take (r * n + c)).length ≤ 1681 := by
      have := Nat.mul_le_mul hn.2 hn.2
      rw [List.length_take]; omega
     generalize (fixL n).take (r * n + c) = L at *
     generalize fixV n r c = x at *
     clear hlt2
     have hz := hb.lt
     go_wp2_with (first
      | (go_at_call 153; (with_reducible refine (hfx.out _).mono ?_); rintro e w1 ⟨rfl, hx1⟩; have hrow1 := hrow.ext hx1; have hb1 := hb.ext hx1; have hz1 := hb1.lt)
      | (at_builtin; go_loud (refine append1IG hrow1 (by omega) (by omega) ?_ rfl rfl); intro v2 w2 hrow2 hg2))
     go_roundw
     case rel => exact ⟨c + 1, hlc, by go_num, by rw [← hst.out]; exact hrow2, hb1.low (hg2.below (B := w.heap.size + 1) (fun k hk => (hrow1.lt k hk).1) (by omega)) (by omega), (hext.trans hx1).low (hg2.below (B := w.heap.size + 1) (fun k hk => (hrow1.lt k hk).1) (by omega)) (by omega)⟩
     case measure => simp [intOf]; omega
    ·obtain rfl : c = n := by omega
     go_wp2
     go_roundw
     case rel => exact ⟨r + 1, hlt, by go_num, by rw [Nat.add_mul, Nat.one_mul]; exact hrow, hb, hext⟩
     case measure => simp [intOf]; omega
  ·obtain rfl : r = n := by omega
   rw [List.take_of_length_le (by rw [hnn.out]; omega)] at hrow
   have f0 := hb.cell (i := 0) (v := .int .i64 0) rfl
   have f1 := hb.cell (i := 1) (v := .int .i64 0) rfl
   have f2 := hb.cell (i := 2) (v := .slice none 0 0) rfl
   have fl := hb.lt
   have ff := hb.free
   obtain ⟨p, k, hv, -, hk⟩ := hrow.ownC
   subst hv
   have hne : ∀ i : Nat, (Value.slice p (fixL r).length k).ownBlock ≠ some w.heap.size := fun _ e => by have := (hrow.lt _ e).1; omega
   have hfin := ((hrow.setOther (i := 0) (u := .int .i64 r) (hne 0)).setOther (i := 1) (u := .int .i64 r) (hne 0)).setOther (i := 2) (u := .slice p (fixL r).length k) (hne 0)
   have hx9 : Ext w (((wr.setCell ⟨w.heap.size, 0, none⟩ (.int .i64 r)).setCell ⟨w.heap.size, 1, none⟩ (.int .i64 r)).setCell ⟨w.heap.size, 2, none⟩ (.slice p (fixL r).length k)) := ((hext.setCell (Nat.le_refl _) _).setCell (Nat.le_refl _) _).setCell (Nat.le_refl _) _
   have hF := ((hb.set 0 (.int .i64 r)).set 1 (.int .i64 r)).set 2 (.slice p (fixL r).length k)
   obtain ⟨c0, c1, c2⟩ := hF.c3
   replace hfin := Lib.hid hfin
   replace hF := Lib.hid hF
   have C0 := Lib.hid c0; have C1 := Lib.hid c1; have C2 := Lib.hid c2
   clear c0 c1 c2 hrow hb
   go_wp2
   have c0 := C0.out; have c1 := C1.out; have c2 := C2.out
   obtain ⟨p', k', e', ho, hk'⟩ := hfin.out.ownC
   simp only [Value.slice.injEq] at e'
   obtain ⟨rfl, -, rfl⟩ := e'
   exact bodyPost_ret (v := vGrid r r p (fixL r).length k) (by simp [results, Tryz.results90, go_sem, c0, c1, c2]) rfl ⟨⟨p, k, rfl, ho.mono (by omega), hk⟩, hx9⟩
open Go.RowKit

abbrev vPl (r c : Int) : Value := .agg #[.int .i64 r, .int .i64 c]
theorem iDist_c (x : Int) (w : World) (hx : -1000000 ≤ x ∧ x ≤ 1000000) : Calls Tryz.prog 98 #[.int .i64 x] w fun e w' => e = .returned (.int .i64 (absI x)) ∧ w = w' := by
 go_enter Tryz.func98, Tryz.ntmps98
 go_wp2
 all_goals (go_ret; exact ⟨ret_int (by unfold absI; omega), rfl⟩)
theorem iFinder_c (r c : Int) (w : World) (hr : -1000 ≤ r ∧ r ≤ 1000) (hc : -1000 ≤ c ∧ c ≤ 1000) : Calls Tryz.prog 226 #[.int .i64 r, .int .i64 c] w fun e w' => e = .returned (.int .i64 (if max (absI r) (absI c) = 2 ∨ max (absI r) (absI c) = 4 then 0 else 1)) ∧ w = w' := by
 have h1 := Lib.hid (fun W => iDist_c r W (by omega))
 have h2 := Lib.hid (fun W => iDist_c c W (by omega))
 have hv : ∃ v : Int, (if max (absI r) (absI c) = 2 ∨ max (absI r) (absI c) = 4 then 0 else 1) = v := ⟨_, rfl⟩
 obtain ⟨v, hv⟩ := hv
 rw [hv]
 have b1 : 0 ≤ absI r ∧ absI r ≤ 2000 := by unfold absI; omega
 have b2 : 0 ≤ absI c ∧ absI c ≤ 2000 := by unfold absI; omega
 generalize absI r = a at *
 generalize absI c = b at *
 replace hv := Lib.hid hv
 go_enter Tryz.func226, Tryz.ntmps226
 go_wp2_with (go_at_call 98; first | ((with_reducible refine (h1.out _).mono ?_); rintro e w' ⟨rfl, rfl⟩) | ((with_reducible refine (h2.out _).mono ?_); rintro e w' ⟨rfl, rfl⟩))
 all_goals (go_ret; exact ⟨ret_int (by rw [← hv.out]; clear hv h1 h2; (try simp only [beq_iff_eq, beq_eq_false_iff_ne, ne_eq] at *); repeat (first | omega | split)), rfl⟩)
set_option maxRecDepth 100000 in
theorem middle_c (n r c : Int) (w : World) (hn : 17 ≤ n ∧ n ≤ 41) (hr : 0 ≤ r ∧ r < n) (hc : 0 ≤ c ∧ c < n) : Calls Tryz.prog 224 #[.int .i64 n, vPl r c] w fun e w' => e = .returned (vPl (midV n r) (midV n c)) ∧ Ext w w' := by
 have e1 : n.tdiv 2 = n / 2 := Int.tdiv_eq_ediv_of_nonneg (by omega)
 by_cases a : n / 2 < r <;> by_cases b : n / 2 < c
 ·have m1 : midV n r = n - 4 := if_pos a
  have m2 : midV n c = n - 4 := if_pos b
  rw [m1, m2]
  clear m1 m2
  go_enter Tryz.func224, Tryz.ntmps224
  go_wp2
  exact bodyPost_ret (v := vPl (n - 4) (n - 4)) (by simp [results, Tryz.results224, go_sem]) rfl ⟨rfl, eX⟩
 ·have m1 : midV n r = n - 4 := if_pos a
  have m2 : midV n c = 3 := if_neg b
  rw [m1, m2]
  clear m1 m2
  go_enter Tryz.func224, Tryz.ntmps224
  go_wp2
  exact bodyPost_ret (v := vPl (n - 4) 3) (by simp [results, Tryz.results224, go_sem]) rfl ⟨rfl, eX⟩
 ·have m1 : midV n r = 3 := if_neg a
  have m2 : midV n c = n - 4 := if_pos b
  rw [m1, m2]
  clear m1 m2
  go_enter Tryz.func224, Tryz.ntmps224
  go_wp2
  exact bodyPost_ret (v := vPl 3 (n - 4)) (by simp [results, Tryz.results224, go_sem]) rfl ⟨rfl, eX⟩
 ·have m1 : midV n r = 3 := if_neg a
  have m2 : midV n c = 3 := if_neg b
  rw [m1, m2]
  clear m1 m2
  go_enter Tryz.func224, Tryz.ntmps224
  go_wp2
  exact bodyPost_ret (v := vPl 3 3) (by simp [results, Tryz.results224, go_sem]) rfl ⟨rfl, eX⟩
theorem midV_bd {n x : Int} (hn : 17 ≤ n ∧ n ≤ 41) : 3 ≤ midV n x ∧ midV n x ≤ 37 := by unfold midV; split <;> omega
set_option maxRecDepth 100000 in
theorem dark0_c (n r c : Int) (w : World) (hn : 17 ≤ n ∧ n ≤ 41) (hr : 0 ≤ r ∧ r < n) (hc : 0 ≤ c ∧ c < n) : Calls Tryz.prog 225 #[.int .i64 n, vPl r c] w fun e w' => e = .returned (.int .i64 (dkK 0 n r c)) ∧ Ext w w' := by
 have hm := Lib.hid (fun W => middle_c n r c W hn hr hc)
 have b1 := midV_bd (x := r) hn
 have b2 := midV_bd (x := c) hn
 have hv : dkK 0 n r c = if max (absI (r - midV n r)) (absI (c - midV n c)) = 2 ∨ max (absI (r - midV n r)) (absI (c - midV n c)) = 4 then 0 else 1 := rfl
 generalize dkK 0 n r c = v at *
 generalize midV n r = a at *
 generalize midV n c = b at *
 have hf := Lib.hid (fun W => iFinder_c (r - a) (c - b) W (by omega) (by omega))
 rw [← hv] at hf
 clear hv
 have hbx := Blk.new w #[.int .i64 r, .int .i64 c] 121
 have hx0 : Ext w (w.alloc (.cells #[.int .i64 r, .int .i64 c] 121)) := (Ext.refl w).alloc _
 go_enter Tryz.func225, Tryz.ntmps225
 go_wp2_with (first
  | (go_at_call 224; (with_reducible refine (hm.out _).mono ?_); rintro e w1 ⟨rfl, hx1⟩; have k1 := hbx.ext hx1; have f0 := k1.cell (i := 0) (v := .int .i64 r) rfl; have f1 := k1.cell (i := 1) (v := .int .i64 c) rfl; have fl := k1.lt)
  | (go_at_call 226; (with_reducible refine (hf.out _).mono ?_); rintro e w' ⟨rfl, rfl⟩))
 go_ret
 exact ⟨rfl, (hx0.trans hx1).alloc _⟩
set_option maxHeartbeats 800000 in
set_option maxRecDepth 100000 in
theorem in0_c (n r c : Int) (w : World) (hn : 17 ≤ n ∧ n ≤ 41) (hr : 0 ≤ r ∧ r < n) (hc : 0 ≤ c ∧ c < n) : Calls Tryz.prog 223 #[.int .i64 n, vPl r c] w fun e w' => isB e (inK 0 n r c) ∧ Ext w w' := by
 have hm := Lib.hid (fun W => middle_c n r c W hn hr hc)
 have b1 := midV_bd (x := r) hn
 have b2 := midV_bd (x := c) hn
 have hv : inK 0 n r c ↔ (midV n r = 3 ∨ midV n c = 3) ∧ max (absI (r - midV n r)) (absI (c - midV n c)) ≤ 4 := Iff.rfl
 generalize inK 0 n r c = I at *
 generalize midV n r = a at *
 generalize midV n c = b at *
 have h1 := Lib.hid (fun W => iDist_c (r - a) W (by omega))
 have h2 := Lib.hid (fun W => iDist_c (c - b) W (by omega))
 have b3 : 0 ≤ absI (r - a) ∧ absI (r - a) ≤ 100 := by unfold absI; omega
 have b4 : 0 ≤ absI (c - b) ∧ absI (c - b) ≤ 100 := by unfold absI; omega
 generalize absI (r - a) = x at *
 generalize absI (c - b) = y at *
 have e1 := IntWalk.i64_in (r - a) (by omega)
 have e2 := IntWalk.i64_in (c - b) (by omega)
 replace hv := Lib.hid hv
 have hbx := Blk.new w #[.int .i64 r, .int .i64 c] 121
 have hx0 : Ext w (w.alloc (.cells #[.int .i64 r, .int .i64 c] 121)) := (Ext.refl w).alloc _
 go_enter Tryz.func223, Tryz.ntmps223
 go_wp2_with (go_at_call 224; (with_reducible refine (hm.out _).mono ?_); rintro e w1 ⟨rfl, hx1⟩; have k1 := hbx.ext hx1)
 have k2 := Blk.new w1 #[.int .i64 a, .int .i64 b] 121
 replace k1 := k1.alloc (.cells #[.int .i64 a, .int .i64 b] 121)
 replace hx1 := (hx0.trans hx1).alloc (.cells #[.int .i64 a, .int .i64 b] 121)
 generalize w1.alloc (.cells #[.int .i64 a, .int .i64 b] 121) = wz at *
 generalize w1.heap.size = g at *
 have p0 := k1.cell (i := 0) (v := .int .i64 r) rfl
 have p1 := k1.cell (i := 1) (v := .int .i64 c) rfl
 have pl := k1.lt
 have q0 := k2.cell (i := 0) (v := .int .i64 a) rfl
 have q1 := k2.cell (i := 1) (v := .int .i64 b) rfl
 have ql := k2.lt
 clear k1 k2 hx0 hbx
 have hcs : ((a == 3) = true ∧ (a = 3 ∨ b = 3)) ∨ ((a == 3) = false ∧ (b == 3) = true ∧ (a = 3 ∨ b = 3)) ∨ ((a == 3) = false ∧ (b == 3) = false ∧ ¬ (a = 3 ∨ b = 3)) := by
  by_cases h1 : a = 3 <;> by_cases h2 : b = 3 <;> simp [h1, h2]
 rcases hcs with ⟨d1, hi⟩ | ⟨d1, d2, hi⟩ | ⟨d1, d2, hi⟩
 ·replace hi := Lib.hid hi
  refine wp_region_canon (fun w' => Ext wz w') [(0, true), (1, true), (2, true), (3, true), (4, true), (5, true), (6, true), (7, true), (8, true), (9, true), (10, true), (11, true), (12, true), (13, true), (15, true), (16, true), (17, true), (18, true), (19, true), (14, false), (20, false), (21, true), (22, true), (23, true), (24, true)] (by kernel_rfl) (by kernel_rfl) (by decide) (by kernel_rfl) ?_ ?_
  ·exact eX
  refine canon_intro fun ops eo => ?_
  replace eo := canon_eo eo
  iterate 4 all_goals (refine cS eo rfl rfl evE ?_; simp only [ptN])
  iterate 3 all_goals ((first | refine cU eo rfl rfl rfl rfl rfl ?_ | refine cX eo rfl rfl rfl rfl rfl ?_ | refine cW eo rfl rfl rfl rfl rfl evE ?_); simp only [ptN])
  iterate 2 all_goals (refine cS eo rfl rfl evE ?_; simp only [ptN])
  iterate 10 all_goals ((first | refine cU eo rfl rfl rfl rfl rfl ?_ | refine cX eo rfl rfl rfl rfl rfl ?_ | refine cW eo rfl rfl rfl rfl rfl evE ?_); simp only [ptN])
  all_goals first | (refine canon_efu (eo.out 14 rfl) rfl (eo.out _ rfl) rfl rfl (by first | assumption | exact eX) ?_; simp only [ptN]) | (refine canon_efx (eo.out 14 rfl) rfl (eo.out _ rfl) rfl rfl (by first | assumption | exact eX) ?_; simp only [ptN]) | (refine canon_efw (eo.out 14 rfl) rfl (eo.out _ rfl) rfl rfl (fun K hK => ?_); go_simp; ((go_at_call 98; (with_reducible refine (h1.out _).mono ?_); rintro e w' ⟨rfl, rfl⟩)); all_goals (refine hK _ _ ⟨eX, ?_⟩; clear hK K; go_simp)) | (refine canon_efw (eo.out 14 rfl) rfl (eo.out _ rfl) rfl rfl (fun K hK => ?_); go_simp; ((go_at_call 98; (with_reducible refine (h2.out _).mono ?_); rintro e w' ⟨rfl, rfl⟩)); all_goals (refine hK _ _ ⟨eX, ?_⟩; clear hK K; go_simp)) | (refine canon_efw (eo.out 14 rfl) rfl (eo.out _ rfl) rfl rfl (fun K hK => ?_); go_simp; (skip); all_goals (refine hK _ _ ⟨eX, ?_⟩; clear hK K; go_simp))
  all_goals first | (refine canon_efu (eo.out 20 rfl) rfl (eo.out _ rfl) rfl rfl (by first | assumption | exact eX) ?_; simp only [ptN]) | (refine canon_efx (eo.out 20 rfl) rfl (eo.out _ rfl) rfl rfl (by first | assumption | exact eX) ?_; simp only [ptN]) | (refine canon_efw (eo.out 20 rfl) rfl (eo.out _ rfl) rfl rfl (fun K hK => ?_); go_simp; ((go_at_call 98; (with_reducible refine (h1.out _).mono ?_); rintro e w' ⟨rfl, rfl⟩)); all_goals (refine hK _ _ ⟨eX, ?_⟩; clear hK K; go_simp)) | (refine canon_efw (eo.out 20 rfl) rfl (eo.out _ rfl) rfl rfl (fun K hK => ?_); go_simp; ((go_at_call 98; (with_reducible refine (h2.out _).mono ?_); rintro e w' ⟨rfl, rfl⟩)); all_goals (refine hK _ _ ⟨eX, ?_⟩; clear hK K; go_simp)) | (refine canon_efw (eo.out 20 rfl) rfl (eo.out _ rfl) rfl rfl (fun K hK => ?_); go_simp; (skip); all_goals (refine hK _ _ ⟨eX, ?_⟩; clear hK K; go_simp))
  iterate 2 all_goals ((first | refine cU eo rfl rfl rfl rfl rfl ?_ | refine cX eo rfl rfl rfl rfl rfl ?_ | refine cW eo rfl rfl rfl rfl rfl evE ?_); simp only [ptN])
  iterate 2 all_goals (refine cS eo rfl rfl evE ?_; simp only [ptN])
  all_goals (clear eo; refine canon_done (NoPanic.normal ?_))
  go_wp2
  go_ret
  exact ⟨isB_m (by rw [hv.out]; simp [hi.out]), hx1.drew⟩
 ·replace hi := Lib.hid hi
  refine wp_region_canon (fun w' => Ext wz w') [(0, true), (1, true), (2, true), (3, true), (4, true), (5, true), (6, true), (7, true), (8, true), (9, true), (10, true), (11, true), (12, true), (13, true), (15, true), (16, true), (17, true), (18, true), (19, true), (14, false), (20, false), (21, true), (22, true), (23, true), (24, true)] (by kernel_rfl) (by kernel_rfl) (by decide) (by kernel_rfl) ?_ ?_
  ·exact eX
  refine canon_intro fun ops eo => ?_
  replace eo := canon_eo eo
  iterate 4 all_goals (refine cS eo rfl rfl evE ?_; simp only [ptN])
  iterate 3 all_goals ((first | refine cU eo rfl rfl rfl rfl rfl ?_ | refine cX eo rfl rfl rfl rfl rfl ?_ | refine cW eo rfl rfl rfl rfl rfl evE ?_); simp only [ptN])
  iterate 2 all_goals (refine cS eo rfl rfl evE ?_; simp only [ptN])
  iterate 10 all_goals ((first | refine cU eo rfl rfl rfl rfl rfl ?_ | refine cX eo rfl rfl rfl rfl rfl ?_ | refine cW eo rfl rfl rfl rfl rfl evE ?_); simp only [ptN])
  all_goals first | (refine canon_efu (eo.out 14 rfl) rfl (eo.out _ rfl) rfl rfl (by first | assumption | exact eX) ?_; simp only [ptN]) | (refine canon_efx (eo.out 14 rfl) rfl (eo.out _ rfl) rfl rfl (by first | assumption | exact eX) ?_; simp only [ptN]) | (refine canon_efw (eo.out 14 rfl) rfl (eo.out _ rfl) rfl rfl (fun K hK => ?_); go_simp; ((go_at_call 98; (with_reducible refine (h1.out _).mono ?_); rintro e w' ⟨rfl, rfl⟩)); all_goals (refine hK _ _ ⟨eX, ?_⟩; clear hK K; go_simp)) | (refine canon_efw (eo.out 14 rfl) rfl (eo.out _ rfl) rfl rfl (fun K hK => ?_); go_simp; ((go_at_call 98; (with_reducible refine (h2.out _).mono ?_); rintro e w' ⟨rfl, rfl⟩)); all_goals (refine hK _ _ ⟨eX, ?_⟩; clear hK K; go_simp)) | (refine canon_efw (eo.out 14 rfl) rfl (eo.out _ rfl) rfl rfl (fun K hK => ?_); go_simp; (skip); all_goals (refine hK _ _ ⟨eX, ?_⟩; clear hK K; go_simp))
  all_goals first | (refine canon_efu (eo.out 20 rfl) rfl (eo.out _ rfl) rfl rfl (by first | assumption | exact eX) ?_; simp only [ptN]) | (refine canon_efx (eo.out 20 rfl) rfl (eo.out _ rfl) rfl rfl (by first | assumption | exact eX) ?_; simp only [ptN]) | (refine canon_efw (eo.out 20 rfl) rfl (eo.out _ rfl) rfl rfl (fun K hK => ?_); go_simp; ((go_at_call 98; (with_reducible refine (h1.out _).mono ?_); rintro e w' ⟨rfl, rfl⟩)); all_goals (refine hK _ _ ⟨eX, ?_⟩; clear hK K; go_simp)) | (refine canon_efw (eo.out 20 rfl) rfl (eo.out _ rfl) rfl rfl (fun K hK => ?_); go_simp; ((go_at_call 98; (with_reducible refine (h2.out _).mono ?_); rintro e w' ⟨rfl, rfl⟩)); all_goals (refine hK _ _ ⟨eX, ?_⟩; clear hK K; go_simp)) | (refine canon_efw (eo.out 20 rfl) rfl (eo.out _ rfl) rfl rfl (fun K hK => ?_); go_simp; (skip); all_goals (refine hK _ _ ⟨eX, ?_⟩; clear hK K; go_simp))
  iterate 2 all_goals ((first | refine cU eo rfl rfl rfl rfl rfl ?_ | refine cX eo rfl rfl rfl rfl rfl ?_ | refine cW eo rfl rfl rfl rfl rfl evE ?_); simp only [ptN])
  iterate 2 all_goals (refine cS eo rfl rfl evE ?_; simp only [ptN])
  all_goals (clear eo; refine canon_done (NoPanic.normal ?_))
  go_wp2
  go_ret
  exact ⟨isB_m (by rw [hv.out]; simp [hi.out]), hx1.drew⟩
 ·replace hi := Lib.hid hi
  refine wp_region_canon (fun w' => Ext wz w') [(0, true), (1, true), (2, true), (3, true), (4, true), (5, true), (6, true), (7, true), (8, true), (9, true), (10, true), (11, true), (12, true), (13, true), (15, true), (16, true), (17, true), (18, true), (19, true), (14, false), (20, false), (21, true), (22, true), (23, true), (24, true)] (by kernel_rfl) (by kernel_rfl) (by decide) (by kernel_rfl) ?_ ?_
  ·exact eX
  refine canon_intro fun ops eo => ?_
  replace eo := canon_eo eo
  iterate 4 all_goals (refine cS eo rfl rfl evE ?_; simp only [ptN])
  iterate 3 all_goals ((first | refine cU eo rfl rfl rfl rfl rfl ?_ | refine cX eo rfl rfl rfl rfl rfl ?_ | refine cW eo rfl rfl rfl rfl rfl evE ?_); simp only [ptN])
  iterate 2 all_goals (refine cS eo rfl rfl evE ?_; simp only [ptN])
  iterate 10 all_goals ((first | refine cU eo rfl rfl rfl rfl rfl ?_ | refine cX eo rfl rfl rfl rfl rfl ?_ | refine cW eo rfl rfl rfl rfl rfl evE ?_); simp only [ptN])
  all_goals first | (refine canon_efu (eo.out 14 rfl) rfl (eo.out _ rfl) rfl rfl (by first | assumption | exact eX) ?_; simp only [ptN]) | (refine canon_efx (eo.out 14 rfl) rfl (eo.out _ rfl) rfl rfl (by first | assumption | exact eX) ?_; simp only [ptN]) | (refine canon_efw (eo.out 14 rfl) rfl (eo.out _ rfl) rfl rfl (fun K hK => ?_); go_simp; ((go_at_call 98; (with_reducible refine (h1.out _).mono ?_); rintro e w' ⟨rfl, rfl⟩)); all_goals (refine hK _ _ ⟨eX, ?_⟩; clear hK K; go_simp)) | (refine canon_efw (eo.out 14 rfl) rfl (eo.out _ rfl) rfl rfl (fun K hK => ?_); go_simp; ((go_at_call 98; (with_reducible refine (h2.out _).mono ?_); rintro e w' ⟨rfl, rfl⟩)); all_goals (refine hK _ _ ⟨eX, ?_⟩; clear hK K; go_simp)) | (refine canon_efw (eo.out 14 rfl) rfl (eo.out _ rfl) rfl rfl (fun K hK => ?_); go_simp; (skip); all_goals (refine hK _ _ ⟨eX, ?_⟩; clear hK K; go_simp))
  all_goals first | (refine canon_efu (eo.out 20 rfl) rfl (eo.out _ rfl) rfl rfl (by first | assumption | exact eX) ?_; simp only [ptN]) | (refine canon_efx (eo.out 20 rfl) rfl (eo.out _ rfl) rfl rfl (by first | assumption | exact eX) ?_; simp only [ptN]) | (refine canon_efw (eo.out 20 rfl) rfl (eo.out _ rfl) rfl rfl (fun K hK => ?_); go_simp; ((go_at_call 98; (with_reducible refine (h1.out _).mono ?_); rintro e w' ⟨rfl, rfl⟩)); all_goals (refine hK _ _ ⟨eX, ?_⟩; clear hK K; go_simp)) | (refine canon_efw (eo.out 20 rfl) rfl (eo.out _ rfl) rfl rfl (fun K hK => ?_); go_simp; ((go_at_call 98; (with_reducible refine (h2.out _).mono ?_); rintro e w' ⟨rfl, rfl⟩)); all_goals (refine hK _ _ ⟨eX, ?_⟩; clear hK K; go_simp)) | (refine canon_efw (eo.out 20 rfl) rfl (eo.out _ rfl) rfl rfl (fun K hK => ?_); go_simp; (skip); all_goals (refine hK _ _ ⟨eX, ?_⟩; clear hK K; go_simp))
  iterate 2 all_goals ((first | refine cU eo rfl rfl rfl rfl rfl ?_ | refine cX eo rfl rfl rfl rfl rfl ?_ | refine cW eo rfl rfl rfl rfl rfl evE ?_); simp only [ptN])
  iterate 2 all_goals (refine cS eo rfl rfl evE ?_; simp only [ptN])
  all_goals (clear eo; refine canon_done (NoPanic.normal ?_))
  go_wp2
  go_ret
  exact ⟨isB_f (fun h => hi.out (hv.out.1 h).1), hx1.drew⟩
theorem in1_c (n r c : Int) (w : World) (hn : 17 ≤ n ∧ n ≤ 41) : Calls Tryz.prog 227 #[.int .i64 n, vPl r c] w fun e w' => isB e (inK 1 n r c) ∧ Ext w w' := by
 have hv : inK 1 n r c ↔ r = 6 ∧ 8 ≤ c ∧ c ≤ n - 9 := Iff.rfl
 generalize inK 1 n r c = I at *
 replace hv := Lib.hid hv
 have hd : (r == 6) = true ∧ r = 6 ∨ (r == 6) = false ∧ ¬ r = 6 := by by_cases h : r = 6 <;> simp [h]
 rcases hd with ⟨hd, h6⟩ | ⟨hd, h6⟩
 ·replace h6 := Lib.hid h6
  go_enter Tryz.func227, Tryz.ntmps227
  go_wp2_with (go_at_call 35; (with_reducible refine (inRange_c _ _ _ _).mono ?_); rintro e w1 ⟨⟨hP, rfl⟩ | ⟨hP, rfl⟩, rfl⟩)
  ·go_ret
   exact ⟨isB_t (hv.out.2 ⟨h6.out, hP⟩), eX⟩
  ·go_ret
   exact ⟨isB_f (fun h => hP (hv.out.1 h).2), eX⟩
 ·replace h6 := Lib.hid h6
  go_enter Tryz.func227, Tryz.ntmps227
  go_wp2
  go_ret
  exact ⟨isB_f (fun h => h6.out (hv.out.1 h).1), eX⟩
theorem in2_c (n r c : Int) (w : World) (hn : 17 ≤ n ∧ n ≤ 41) : Calls Tryz.prog 229 #[.int .i64 n, vPl r c] w fun e w' => isB e (inK 2 n r c) ∧ Ext w w' := by
 have hv : inK 2 n r c ↔ c = 6 ∧ 8 ≤ r ∧ r ≤ n - 9 := Iff.rfl
 generalize inK 2 n r c = I at *
 replace hv := Lib.hid hv
 have hd : (c == 6) = true ∧ c = 6 ∨ (c == 6) = false ∧ ¬ c = 6 := by by_cases h : c = 6 <;> simp [h]
 rcases hd with ⟨hd, h6⟩ | ⟨hd, h6⟩
 ·replace h6 := Lib.hid h6
  go_enter Tryz.func229, Tryz.ntmps229
  go_wp2_with (go_at_call 35; (with_reducible refine (inRange_c _ _ _ _).mono ?_); rintro e w1 ⟨⟨hP, rfl⟩ | ⟨hP, rfl⟩, rfl⟩)
  ·go_ret
   exact ⟨isB_t (hv.out.2 ⟨h6.out, hP⟩), eX⟩
  ·go_ret
   exact ⟨isB_f (fun h => hP (hv.out.1 h).2), eX⟩
 ·replace h6 := Lib.hid h6
  go_enter Tryz.func229, Tryz.ntmps229
  go_wp2
  go_ret
  exact ⟨isB_f (fun h => h6.out (hv.out.1 h).1), eX⟩
theorem dark1_c (n r c : Int) (w : World) (hn : 17 ≤ n ∧ n ≤ 41) (hr : 0 ≤ r ∧ r < n) (hc : 0 ≤ c ∧ c < n) : Calls Tryz.prog 228 #[.int .i64 n, vPl r c] w fun e w' => e = .returned (.int .i64 (dkK 1 n r c)) ∧ Ext w w' := by
 have e2 : c.tmod 2 = c % 2 := Int.tmod_eq_emod_of_nonneg hc.1
 go_enter Tryz.func228, Tryz.ntmps228
 go_wp2
 go_ret
 exact ⟨rfl, eX⟩
theorem dark2_c (n r c : Int) (w : World) (hn : 17 ≤ n ∧ n ≤ 41) (hr : 0 ≤ r ∧ r < n) (hc : 0 ≤ c ∧ c < n) : Calls Tryz.prog 230 #[.int .i64 n, vPl r c] w fun e w' => e = .returned (.int .i64 (dkK 2 n r c)) ∧ Ext w w' := by
 have e2 : r.tmod 2 = r % 2 := Int.tmod_eq_emod_of_nonneg hr.1
 go_enter Tryz.func230, Tryz.ntmps230
 go_wp2
 go_ret
 exact ⟨rfl, eX⟩
theorem in3_c (n r c : Int) (w : World) (hn : 17 ≤ n ∧ n ≤ 41) : Calls Tryz.prog 231 #[.int .i64 n, vPl r c] w fun e w' => isB e (inK 3 n r c) ∧ Ext w w' := by
 have hv : inK 3 n r c ↔ r = n - 8 ∧ c = 8 := Iff.rfl
 generalize inK 3 n r c = I at *
 replace hv := Lib.hid hv
 go_enter Tryz.func231, Tryz.ntmps231
 go_wp2
 ·go_ret
  exact ⟨isB_t (hv.out.2 ⟨by assumption, by assumption⟩), eX⟩
 ·rename_i h1 h2
  go_ret
  exact ⟨isB_f (fun h => h2 (hv.out.1 h).2), eX⟩
 ·rename_i h1
  go_ret
  exact ⟨isB_f (fun h => h1 (hv.out.1 h).1), eX⟩
theorem dark3_c (n r c : Int) (w : World) : Calls Tryz.prog 232 #[.int .i64 n, vPl r c] w fun e w' => e = .returned (.int .i64 (dkK 3 n r c)) ∧ Ext w w' := by
 go_enter Tryz.func232, Tryz.ntmps232
 go_wp2
 go_ret
 exact ⟨rfl, eX⟩
abbrev patC : Array Value := #[.func (.func 223) #[] #[], .func (.func 225) #[] #[], .func (.func 227) #[] #[], .func (.func 228) #[] #[], .func (.func 229) #[] #[], .func (.func 230) #[] #[], .func (.func 231) #[] #[], .func (.func 232) #[] #[]]
theorem patterns_c (w : World) : Calls Tryz.prog 222 #[] w fun e w' => ∃ g, e = .returned (.slice (some ⟨g, 0, none⟩) 4 4) ∧ w.heap.size ≤ g ∧ Blk w' g patC 258 ∧ Ext w w' := by
 have hb := Blk.new w patC 258
 have hx0 : Ext w (w.alloc (.cells patC 258)) := (Ext.refl w).alloc _
 go_enter Tryz.func222, Tryz.ntmps222
 go_wp2
 go_ret
 exact ⟨_, rfl, Nat.le_refl _, hb, hx0⟩
theorem gset_c (B : Nat) (R C : Int) (b o k : Nat) (xs : List Int) (r c x : Int) (i : Nat) (w : World) (hown : OwnInts B w (some ⟨b, o, none⟩) xs) (hi : r * C + c = i) (hlt : i < xs.length) (hrc : 0 ≤ r * C ∧ 0 ≤ c) (hl : xs.length ≤ 1048576) :
  Calls Tryz.prog 85 #[vGrid R C (some ⟨b, o, none⟩) xs.length k, vPl r c, .int .i64 x] w fun e w' => e = .returned (.tuple #[]) ∧ OwnInts B w' (some ⟨b, o, none⟩) (xs.set i x) ∧ But b w w' := by
 obtain ⟨b', o', e', hB, hbl, z1, z2⟩ := hown i hlt
 simp only [Option.some.injEq, Addr.mk.injEq] at e'
 obtain ⟨rfl, rfl, -⟩ := e'
 have hset := Lib.hid (hown.set rfl hlt x)
 have hM : ∃ M : Int, r * C = M := ⟨_, rfl⟩
 obtain ⟨M, hM⟩ := hM
 rw [hM] at hi hrc
 have e1 := IntWalk.i64_in M (by omega)
 have e2 : M + c = (i : Int) := hi
 clear hown hi
 go_enter Tryz.func85, Tryz.ntmps85
 go_wp2
 go_end0
 have hxx : Ext (w.setCell ⟨b, o + i, none⟩ (.int .i64 x)) (((w.setCell ⟨b, o + i, none⟩ (.int .i64 x)).alloc (.cells #[.int .i64 R, .int .i64 C, .slice (some ⟨b, o, none⟩) xs.length k] 28)).alloc (.cells #[.int .i64 r, .int .i64 c] 121)) := ((Ext.refl _).alloc _).alloc _
 exact ⟨rfl, hset.out.ext hxx, (But.set w b (o + i) _).trans (But.of hxx)⟩
theorem OwnInts.made {B N : Nat} (w : World) (t : TypeId) (hB : B ≤ w.heap.size) : OwnInts B (w.alloc (.cells (madeCells #[.int .i64 0] N) t)) (some ⟨w.heap.size, 0, none⟩) (List.replicate N 0) := fun i hi => by
 simp only [List.length_replicate] at hi
 have hb := Blk.new w (madeCells #[.int .i64 0] N) t
 refine ⟨_, _, rfl, hB, hb.lt, ?_, hb.free _⟩
 rw [Nat.zero_add]
 refine (hb.cell (i := i) (v := .int .i64 0) ?_).trans ?_
 ·rw [made_get hi]
  simp
  rw [Nat.mod_one]; rfl
 ·rw [List.getD_eq_getElem?_getD, List.getElem?_eq_getElem (by simpa using hi)]; simp
theorem fill_step {N k : Nat} (h : k < N) : (List.replicate k (-1 : Int) ++ List.replicate (N - k) 0).set k (-1) = List.replicate (k + 1) (-1) ++ List.replicate (N - (k + 1)) 0 := by
 obtain ⟨m, hm⟩ : ∃ m, N - k = m + 1 := ⟨N - k - 1, by omega⟩
 rw [List.set_append, if_neg (by simp), List.length_replicate, Nat.sub_self, hm, List.replicate_succ, List.set_cons_zero, show N - (k + 1) = m by omega, List.replicate_succ', List.append_assoc]
 rfl
theorem fill_len {N k : Nat} (h : k ≤ N) : (List.replicate k (-1 : Int) ++ List.replicate (N - k) 0).length = N := by simp; omega
set_option maxRecDepth 100000 in
theorem gblank_c (n : Nat) (w : World) (hn : n ≤ 41) : Calls Tryz.prog 221 #[.int .i64 n, .int .i64 n, .int .i64 (-1)] w fun e w' => (∃ g, e = .returned (vGrid n n (some ⟨g, 0, none⟩) (n * n) (n * n)) ∧ w.heap.size ≤ g ∧ OwnInts w.heap.size w' (some ⟨g, 0, none⟩) (List.replicate (n * n) (-1))) ∧ Ext w w' := by
 have hnn : n * n ≤ 1681 := Nat.mul_le_mul hn hn
 obtain ⟨N, hN⟩ : ∃ N : Nat, n * n = N := ⟨_, rfl⟩
 have e1 : (n : Int) * (n : Int) = (N : Int) := by rw [← hN]; simp
 have e2 := IntWalk.i64_in (N : Int) (by omega)
 rw [hN] at hnn
 rw [hN]
 replace hN := Lib.hid hN
 have b0 := ((Blk.new w #[.int .i64 0, .int .i64 0, .slice none 0 0] 28).alloc (.cells (madeCells #[.int .i64 0] N) 2)).alloc (.cells #[.int .i64 n, .int .i64 n, .slice (some ⟨w.heap.size + 1, 0, none⟩) N N] 28)
 have b2 := Blk.new ((w.alloc (.cells #[.int .i64 0, .int .i64 0, .slice none 0 0] 28)).alloc (.cells (madeCells #[.int .i64 0] N) 2)) #[.int .i64 n, .int .i64 n, .slice (some ⟨w.heap.size + 1, 0, none⟩) N N] 28
 have hown := (OwnInts.made (B := w.heap.size) (N := N) (w.alloc (.cells #[.int .i64 0, .int .i64 0, .slice none 0 0] 28)) 2 (by simp)).ext ((Ext.refl _).alloc (.cells #[.int .i64 n, .int .i64 n, .slice (some ⟨w.heap.size + 1, 0, none⟩) N N] 28))
 have hx0 : Ext w (((w.alloc (.cells #[.int .i64 0, .int .i64 0, .slice none 0 0] 28)).alloc (.cells (madeCells #[.int .i64 0] N) 2)).alloc (.cells #[.int .i64 n, .int .i64 n, .slice (some ⟨w.heap.size + 1, 0, none⟩) N N] 28)) := (((Ext.refl w).alloc _).alloc _).alloc _
 simp only [World.size_alloc] at b2 hown
 go_enter Tryz.func221, Tryz.ntmps221
 go_wp2_with (refine make_blk Tryz.underlying22 infoInt N rfl rfl (by omega) (by omega) ?_)
 generalize ((w.alloc (.cells #[.int .i64 0, .int .i64 0, .slice none 0 0] 28)).alloc (.cells (madeCells #[.int .i64 0] N) 2)).alloc (.cells #[.int .i64 n, .int .i64 n, .slice (some ⟨w.heap.size + 1, 0, none⟩) N N] 28) = w0 at *
 go_loopw [19] (fun i wr => ∃ k : Nat, k ≤ N ∧ i = .int .i64 k ∧ OwnInts w.heap.size wr (some ⟨w.heap.size + 1, 0, none⟩) (List.replicate k (-1) ++ List.replicate (N - k) 0) ∧ Blk wr w.heap.size #[.int .i64 0, .int .i64 0, .slice none 0 0] 28 ∧ Blk wr (w.heap.size + 1 + 1) #[.int .i64 n, .int .i64 n, .slice (some ⟨w.heap.size + 1, 0, none⟩) N N] 28 ∧ Ext w wr) (fun i _ => N - (intOf i).toNat)
 case atStart => exact ⟨0, by omega, rfl, by simpa using hown, b0, b2, hx0⟩
 case round =>
  clear b0 b2 hown hx0
  obtain ⟨k, hk, rfl, hown, b0, b2, hext⟩ := hrel
  have q0 := b2.cell (i := 0) (v := .int .i64 n) rfl
  have q1 := b2.cell (i := 1) (v := .int .i64 n) rfl
  have q2 := b2.cell (i := 2) (v := .slice (some ⟨w.heap.size + 1, 0, none⟩) N N) rfl
  have ql := b2.lt
  by_cases hlt : k < N
  ·obtain ⟨b', o', e', hB, hbl, z1, z2⟩ := hown k (by rw [fill_len hk]; exact hlt)
   simp only [Option.some.injEq, Addr.mk.injEq] at e'
   obtain ⟨rfl, rfl, -⟩ := e'
   have hset := hown.set rfl (k := k) (by rw [fill_len hk]; exact hlt) (-1)
   rw [fill_step hlt] at hset
   replace hset := Lib.hid hset
   generalize (List.replicate k (-1 : Int) ++ List.replicate (N - k) 0).getD k 0 = x at *
   rw [Nat.zero_add] at hset z1 z2
   clear hown
   go_wp2
   go_roundw
   case rel => exact ⟨k + 1, hlt, by go_num, hset.out, b0.far (by omega) _, b2.far (by omega) _, hext.setCell (Nat.le_succ _) _⟩
   case measure => simp [intOf]; omega
  ·obtain rfl : k = N := by omega
   rw [Nat.sub_self, List.replicate_zero, List.append_nil] at hown
   have r0 := b0.cell (i := 0) (v := .int .i64 0) rfl
   have r1 := b0.cell (i := 1) (v := .int .i64 0) rfl
   have r2 := b0.cell (i := 2) (v := .slice none 0 0) rfl
   have rl := b0.lt
   have rf := b0.free
   have hF := ((b0.set 0 (.int .i64 n)).set 1 (.int .i64 n)).set 2 (.slice (some ⟨w.heap.size + 1, 0, none⟩) k k)
   have C0 := Lib.hid (hF.cell (i := 0) (v := .int .i64 n) rfl); have C1 := Lib.hid (hF.cell (i := 1) (v := .int .i64 n) rfl); have C2 := Lib.hid (hF.cell (i := 2) (v := .slice (some ⟨w.heap.size + 1, 0, none⟩) k k) rfl)
   have ho := Lib.hid (hown.keep (w' := ((wr.setCell ⟨w.heap.size, 0, none⟩ (.int .i64 n)).setCell ⟨w.heap.size, 1, none⟩ (.int .i64 n)).setCell ⟨w.heap.size, 2, none⟩ (.slice (some ⟨w.heap.size + 1, 0, none⟩) k k)) (by simp [World.setCell]) (fun b o hn hp _ => by
    simp only [Option.some.injEq, Addr.mk.injEq] at hp
    obtain ⟨rfl, -⟩ := hp
    rw [Below.heap_setCell _ _ _ _ (by simp), Below.heap_setCell _ _ _ _ (by simp), Below.heap_setCell _ _ _ _ (by simp)]))
   have hx9 : Ext w (((wr.setCell ⟨w.heap.size, 0, none⟩ (.int .i64 n)).setCell ⟨w.heap.size, 1, none⟩ (.int .i64 n)).setCell ⟨w.heap.size, 2, none⟩ (.slice (some ⟨w.heap.size + 1, 0, none⟩) k k)) := ((hext.setCell (Nat.le_refl _) _).setCell (Nat.le_refl _) _).setCell (Nat.le_refl _) _
   clear hF hown
   go_wp2
   have c0 := C0.out; have c1 := C1.out; have c2 := C2.out
   exact bodyPost_ret (v := vGrid n n (some ⟨w.heap.size + 1, 0, none⟩) k k) (by simp [results, Tryz.results221, go_sem, c0, c1, c2]) rfl ⟨⟨_, rfl, Nat.le_succ _, ho.out⟩, hx9⟩
end Go.Proofs.YtdnkljpnhmcnpaaGreat
