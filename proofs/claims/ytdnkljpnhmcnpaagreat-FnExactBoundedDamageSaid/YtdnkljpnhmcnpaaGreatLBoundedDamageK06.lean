/- Lists of bits: chapter 1. -/
import Derived.Test.YtdnkljpnhmcnpaaGreatLBoundedDamageK03
import Derived.Test.YtdnkljpnhmcnpaaGreatLBoundedDamageK00
set_option linter.unusedVariables false
set_option linter.unusedSimpArgs false
namespace Go.Proofs.YtdnkljpnhmcnpaaGreat
open Go.RowKit

structure Grew (v : Value) (w w' : World) (v' : Value) : Prop where
 by_ : w.grownBy w' v.ownBlock
 own : ∀ k, v'.ownBlock = some k → v.ownBlock = some k ∨ w.heap.size ≤ k
section
variable {v v' v'' : Value} {w w' w'' a : World} {B : Nat}
theorem Grew.refl (v : Value) (w : World) : Grew v w w v := ⟨⟨rfl, rfl, rfl, Nat.le_refl _, fun _ _ _ => rfl⟩, fun _ h => .inl h⟩
theorem Grew.trans (h : Grew v w w' v') (k : Grew v' w' w'' v'') : Grew v w w'' v'' :=
 ⟨⟨k.by_.os.trans h.by_.os, k.by_.tape.trans h.by_.tape, k.by_.output.trans h.by_.output, Nat.le_trans h.by_.size k.by_.size, fun i hi hne =>
  (k.by_.block i (Nat.lt_of_lt_of_le hi h.by_.size) fun e => by
   rcases h.own i e.symm with h2 | h2
   ·exact hne h2.symm
   ·omega).trans (h.by_.block i hi hne)⟩,
 fun i hi => by
  rcases k.own i hi with h2 | h2
  ·exact h.own i h2
  ·exact .inr (Nat.le_trans h.by_.size h2)⟩
theorem Grew.ext (h : Ext w w') : Grew v w w' v := ⟨⟨h.os, h.tape, h.output, h.size, fun i hi _ => h.block i hi⟩, fun _ h => .inl h⟩
theorem Grew.below (h : Grew v w w' v') (hv : ∀ k, v.ownBlock = some k → B ≤ k) (hB : B ≤ w.heap.size) : Below B w w' := Below.grown (Below.refl B w) h.by_ hB hv
theorem Grew.toExt (h : Grew v w w' v') (hx : Ext a w) (hv : ∀ k, v.ownBlock = some k → a.heap.size ≤ k) : Ext a w' := hx.trans3 (h.below hv hx.below.size)
end

theorem run_append_own2 {w : World} (base : Nat) (t ty e : TypeId) (i : TypeInfo) (z : Value) (size bytes : Nat) (ht : Tryz.prog.underlying t = some (.slice e)) (hi : Tryz.prog.info? e = some i) (hz : i.zero = some z)
  (hsize : i.size = size) (hby : i.bytes = bytes) (hzs : z.cells.size = size) (hsz : 0 < size)
  (v : Value) (n : Nat) (xs : List Value) (hown : w.ownsRow base e size v n xs)
  (a : Addr) (m c : Nat) (news : List Value) (hl : news.length = m * size) (hnews : ∀ j u, news[j]? = some u → w.cell? (a.add j) = some u) (h1 : ∀ u ∈ news, u.oneCell' = true)
  (h63 : n + m ≤ maxLen) (hbytes : (n + m) * bytes ≤ 140737488355328) (hbase : base ≤ w.heap.size) :
  ∃ v' w', (Builtin.append_ #[t, t] ty #[v, .slice (some a) m c]).run Tryz.prog w = .ok v' w' ∧ w'.ownsRow base e size v' (n + m) (xs ++ news) ∧ Grew v w w' v' := by
 obtain ⟨v', w', hr, h2, h3, h4⟩ := run_append_own (P := Tryz.prog) w base t ty e i z size bytes ht hi hz hsize hby hzs hsz v n xs hown a m c news hl hnews h1 h63 hbytes hbase
 refine ⟨v', w', hr, h2, h3, ?_⟩
 intro k hk
 have hsmall : n + m ≤ 9223372036854775807 := by simp only [maxLen] at h63; omega
 rcases hown.2 with ⟨rfl, rfl⟩ | ⟨g, cap, cur, rfl, hbg, hg, hnc, hcm, hcs, htake⟩
 ·have hx : xs = [] := List.eq_nil_of_length_eq_zero (by simpa using hown.1)
  subst hx
  obtain ⟨v2, w2, hr2, h22, _⟩ := run_append_own (P := Tryz.prog) w w.heap.size t ty e i z size bytes ht hi hz hsize hby hzs hsz (.slice none 0 0) 0 [] (World.ownsRow_nil _ _ _ _) a m c news hl hnews h1 h63 hbytes (Nat.le_refl _)
  rw [hr] at hr2
  obtain ⟨rfl, rfl⟩ := Result.ok.inj hr2
  exact .inr (World.ownsRow.lt h22 k hk).1
 ·subst hsize
  subst hby
  by_cases hroom : n + m ≤ cap
  ·have hfit : n * i.size + news.length ≤ cur.size := by rw [hl, hcs, ← Nat.add_mul]; exact Nat.mul_le_mul_right _ hroom
   have hr2 := run_append_room (P := Tryz.prog) w t ty e i ht hi g n cap cur hg a m c news hl hnews h1 hroom hfit
   rw [hr] at hr2
   obtain ⟨rfl, _⟩ := Result.ok.inj hr2
   left
   simpa [Value.ownBlock] using hk
  ·have holds : ∀ j u, xs[j]? = some u → w.cell? ((⟨g, 0, none⟩ : Addr).add j) = some u := hown.cells (g := g) rfl
   have hr2 := run_append_grow (P := Tryz.prog) w t ty e i z ht hi hz ⟨g, 0, none⟩ n cap xs hown.1 holds a m c news hl hnews (by omega) (by omega) (growslice_fits (by omega) hbytes)
   rw [hr] at hr2
   obtain ⟨rfl, _⟩ := Result.ok.inj hr2
   right
   simp [Value.ownBlock] at hk
   omega
theorem wpList_append_own2 {w : World} {ops : Array Oper} {rest : List Oper} {o : Oper} {a : Act} {Q : Exit → Act → World → Prop} (hgd : o.guard = none) (s x : Operand) (t : TypeId)
  (ho : o.op = .call { callee := .builtin .append, args := #[s, x], argTypes := #[t, t] })
  (base : Nat) (e : TypeId) (i : TypeInfo) (z : Value) (size bytes : Nat) (ht : Tryz.prog.underlying t = some (.slice e)) (hi : Tryz.prog.info? e = some i) (hz : i.zero = some z)
  (hsize : i.size = size) (hby : i.bytes = bytes) (hzs : z.cells.size = size) (hsz : 0 < size)
  (v : Value) (n : Nat) (xs : List Value) (hs : a.eval s = v) (hown : w.ownsRow base e size v n xs)
  (ad : Addr) (m c : Nat) (news : List Value) (hx : a.eval x = .slice (some ad) m c) (hl : news.length = m * size) (hnews : ∀ j u, news[j]? = some u → w.cell? (ad.add j) = some u) (h1 : ∀ u ∈ news, u.oneCell' = true)
  (h63 : n + m ≤ maxLen) (hbytes : (n + m) * bytes ≤ 140737488355328) (hbase : base ≤ w.heap.size)
  (h : ∀ v' w', w'.ownsRow base e size v' (n + m) (xs ++ news) → Grew v w w' v' → wpList Tryz.prog ops Q rest (a.put o.dst v') w') : wpList Tryz.prog ops Q (o :: rest) a w := by
 refine wpList_plain hgd fun K hK => ?_
 obtain ⟨v', w', hr, h2, h3⟩ := run_append_own2 (w := w) base t o.type e i z size bytes ht hi hz hsize hby hzs hsz v n xs hown ad m c news hl hnews h1 h63 hbytes hbase
 unfold Oper.wp execOp
 simp only [ho, resolve, invoke, builtin, Sem.run_bind, Sem.run_pure, Result.andThen_ok, List.map_toArray, List.map_cons, List.map_nil, hs, hx, hr]
 exact hK _ _ (h v' w' h2 h3)
theorem Grew.alloc {v v' : Value} {w w' : World} {o : Obj} (h : Grew v (w.alloc o) w' v') : Grew v w w' v' := by
 have hs : (w.alloc o).heap.size = w.heap.size + 1 := by simp
 refine ⟨⟨h.by_.os, h.by_.tape, h.by_.output, by have := h.by_.size; omega, fun k hk hne => ?_⟩, fun k hk => ?_⟩
 ·rw [h.by_.block k (by omega) hne]
  exact (MapKept.heap_alloc w o).2 k hk
 ·rcases h.own k hk with h2 | h2
  ·exact .inl h2
  ·exact .inr (by omega)

section
variable {ops : Array Oper} {Q : Exit → Act → World → Prop} {rest : List Oper} {a : Act} {dst : Option Tmp} {s x : Operand} {ty : TypeId} {pos : String} {after : Array Edge} {B : Nat} {w0 : World} {v : Value} {xs : List Int} {n : Int}
theorem append1IG (hown : RowI B w0 v xs) (hlen : xs.length < 1099511627776) (hB : B ≤ w0.heap.size)
  (h : ∀ v' w', RowI B w' v' (xs ++ [n]) → Grew v w0 w' v' → wpList Tryz.prog ops Q rest (a.put dst v') w') (hs : a.eval s = v) (hx : a.eval x = .slice (some ⟨w0.heap.size, 0, none⟩) 1 1) :
  wpList Tryz.prog ops Q (⟨dst, .call { callee := .builtin .append, args := #[s, x], argTypes := #[22, 22] }, ty, pos, after, none⟩ :: rest) a (w0.alloc (.cells #[.int .i64 n] 2)) := by
 obtain ⟨i0, hi, hz0, hz1, hz2⟩ := info_parts infoInt
 refine wpList_append_own2 rfl s x 22 rfl B 2 i0 (.int .i64 0) 1 8 Tryz.underlying22 hi hz0 hz1 hz2 rfl (by decide) v xs.length (xs.map (Value.int .i64)) hs (World.ownsRow.alloc hown _) ⟨w0.heap.size, 0, none⟩ 1 1 [.int .i64 n] hx rfl ?_ ?_ ?_ ?_ ?_ ?_
 ·intro j u hj
  match j, hj with
  | 0, hj =>
   simp at hj
   subst hj
   have : (w0.alloc (.cells #[.int .i64 n] 2)).heap[w0.heap.size]? = some (.cells #[.int .i64 n] 2) := (MapKept.heap_alloc w0 _).1
   simp only [World.cell?, Addr.add, if_true, this]
   rfl
  | j + 1, hj => simp at hj
 ·intro u hu
  simp at hu
  subst hu
  rfl
 ·unfold maxLen; omega
 ·omega
 ·simp; omega
 ·intro v' w' h1 h2
  refine h v' w' ?_ h2.alloc
  have e : (xs ++ [n]).length = xs.length + 1 := by simp
  unfold RowI
  rw [e]
  simpa using h1
end

theorem ofInt_nat (a : Nat) (h : a < 18446744073709551616) : (BitVec.ofInt 64 (a : Int)).toNat = a := by
 rw [BitVec.ofInt_natCast, BitVec.toNat_ofNat]; exact Nat.mod_eq_of_lt (by omega)
theorem bits_and_nat (a b : Nat) (ha : a < 9223372036854775808) (hb : b < 9223372036854775808) : bits .and .i64 (a : Int) (b : Int) = ((a &&& b : Nat) : Int) := by
 have hx : a &&& b < 2 ^ 63 := Nat.and_lt_two_pow _ (by omega)
 show IntKind.i64.wrap ((BitVec.ofInt 64 (a : Int) &&& BitVec.ofInt 64 (b : Int)).toNat : Int) = _
 rw [BitVec.toNat_and, ofInt_nat a (by omega), ofInt_nat b (by omega)]
 exact IntWalk.i64_in _ (by omega)
theorem bits_xor_nat (a b : Nat) (ha : a < 9223372036854775808) (hb : b < 9223372036854775808) : bits .xor .i64 (a : Int) (b : Int) = ((a ^^^ b : Nat) : Int) := by
 have hx : a ^^^ b < 2 ^ 63 := Nat.xor_lt_two_pow (by omega) (by omega)
 show IntKind.i64.wrap ((BitVec.ofInt 64 (a : Int) ^^^ BitVec.ofInt 64 (b : Int)).toNat : Int) = _
 rw [BitVec.toNat_xor, ofInt_nat a (by omega), ofInt_nat b (by omega)]
 exact IntWalk.i64_in _ (by omega)
theorem and_one (x : Int) (h : 0 ≤ x ∧ x < 9223372036854775808) : bits .and .i64 x 1 = x % 2 := by
 obtain ⟨n, rfl⟩ : ∃ n : Nat, x = n := ⟨x.toNat, by omega⟩
 have := bits_and_nat n 1 (by omega) (by omega)
 rw [Nat.and_one_is_mod] at this
 rw [show (1 : Int) = ((1 : Nat) : Int) from rfl, this]
 omega
def bitsOf (n wd : Int) : List Int := (List.range wd.toNat).map fun j => n / 2 ^ (wd.toNat - 1 - j) % 2
theorem bitsOf_len (n wd : Int) : (bitsOf n wd).length = wd.toNat := by simp [bitsOf]
theorem bitsOf_take (n wd : Int) (k : Nat) (h : k < wd.toNat) : (bitsOf n wd).take (k + 1) = (bitsOf n wd).take k ++ [n / 2 ^ (wd.toNat - 1 - k) % 2] := by
 rw [List.take_succ_eq_append_getElem (by rw [bitsOf_len]; exact h)]
 simp [bitsOf]
theorem div_pow_bd (n : Int) (k : Nat) (h : 0 ≤ n) : 0 ≤ n / 2 ^ k ∧ n / 2 ^ k ≤ n := by
 have hp : (0 : Int) < 2 ^ k := Int.pow_pos (by omega)
 exact ⟨Int.ediv_nonneg h (by omega), Int.ediv_le_self _ h⟩

theorem IntsAt.news {w : World} {a : Addr} {xs : List Int} (h : IntsAt w (some a) xs) : ∀ j u, (xs.map (Value.int .i64))[j]? = some u → w.cell? (a.add j) = some u := fun j u hu => by
 have hj : j < xs.length := by have := (List.getElem?_eq_some_iff.1 hu).1; simpa using this
 obtain ⟨b, o, e, _, hc⟩ := h j hj
 obtain rfl := Option.some.inj e
 rw [addr_add, hc, ← hu]
 simp [hj]
section
variable {ops : Array Oper} {Q : Exit → Act → World → Prop} {rest : List Oper} {a : Act} {dst : Option Tmp} {s x : Operand} {ty : TypeId} {pos : String} {after : Array Edge} {B : Nat} {w0 : World} {v : Value} {xs ys : List Int} {p : Option Addr} {c : Nat}
theorem run_append_listI (ty : TypeId) (hown : RowI B w0 v xs) (hy : IntsAt w0 p ys) (hlen : xs.length + ys.length < 1099511627776) (hB : B ≤ w0.heap.size) :
  ∃ v' w', (Builtin.append_ #[22, 22] ty #[v, .slice p ys.length c]).run Tryz.prog w0 = .ok v' w' ∧ RowI B w' v' (xs ++ ys) ∧ Grew v w0 w' v' := by
 obtain ⟨i0, hi, hz0, hz1, hz2⟩ := info_parts infoInt
 have ht := Tryz.underlying22
 cases p with
 | none =>
  have hy0 : ys = [] := by
   cases ys with
   | nil => rfl
   | cons y ys => obtain ⟨b, o, h, _⟩ := hy 0 (by simp); cases h
  subst hy0
  refine ⟨v, w0, ?_, by simpa using hown, Grew.refl _ _⟩
  rcases hown.2 with ⟨rfl, hn⟩ | ⟨g, cap, cur, rfl, _, _, hnc, _⟩
  ·simp [Builtin.append_, run_underlying ht, sizeOf, typeInfo, hi, Builtin.lenOf, Builtin.firstCells]
  ·simp [Builtin.append_, run_underlying ht, sizeOf, typeInfo, hi, Builtin.lenOf, Builtin.firstCells, hnc, storeCells]
 | some ad =>
  obtain ⟨v', w', hr, h2, h3⟩ := run_append_own2 (w := w0) B 22 ty 2 i0 (.int .i64 0) 1 8 ht hi hz0 hz1 hz2 rfl (by decide) v xs.length (xs.map (Value.int .i64)) hown ad ys.length c (ys.map (Value.int .i64)) (by simp) hy.news (by
   intro u hu
   simp only [List.mem_map] at hu
   obtain ⟨_, _, rfl⟩ := hu
   rfl) (by unfold maxLen; omega) (by omega) hB
  refine ⟨v', w', hr, ?_, h3⟩
  unfold RowI
  rw [List.length_append, List.map_append]
  exact h2
theorem appendLI (hown : RowI B w0 v xs) (hy : IntsAt w0 p ys) (hlen : xs.length + ys.length < 1099511627776) (hB : B ≤ w0.heap.size)
  (h : ∀ v' w', RowI B w' v' (xs ++ ys) → Grew v w0 w' v' → wpList Tryz.prog ops Q rest (a.put dst v') w') (hs : a.eval s = v) (hx : a.eval x = .slice p ys.length c) :
  wpList Tryz.prog ops Q (⟨dst, .call { callee := .builtin .append, args := #[s, x], argTypes := #[22, 22] }, ty, pos, after, none⟩ :: rest) a w0 := by
 refine wpList_plain rfl fun K hK => ?_
 obtain ⟨v', w', hr, h2, h3⟩ := run_append_listI (c := c) ty hown hy hlen hB
 unfold Oper.wp execOp
 simp only [resolve, invoke, builtin, Sem.run_bind, Sem.run_pure, Result.andThen_ok, List.map_toArray, List.map_cons, List.map_nil, hs, hx, hr]
 exact hK _ _ (h v' w' h2 h3)
end

theorem sOwn_c (p : Option Addr) (c : Nat) (xs : List Int) (w : World) (hx : IntsAt w p xs) (hl : xs.length ≤ 1048576) :
  Calls Tryz.prog 75 #[.slice p xs.length c] w fun e w' => (∃ v, e = .returned v ∧ RowI w.heap.size w' v xs) ∧ Ext w w' := by
 go_enter Tryz.func75, Tryz.ntmps75
 go_wp2_with (at_builtin; go_loud (refine appendLI (RowI.made (Nat.le_refl _)) (hx.ext ((Ext.refl w).alloc _)) (by simp; omega) (by simp) ?_ rfl rfl); intro v1 w1 hown1 hG1)
 go_ret
 exact ⟨⟨_, rfl, by simpa using hown1⟩, hG1.toExt ((Ext.refl w).alloc _) (fun k hk => by simp [Value.ownBlock] at hk; omega)⟩

set_option maxRecDepth 100000 in
theorem sAppend_c (p : Option Addr) (c : Nat) (xs : List Int) (n wd : Int) (w : World) (hx : IntsAt w p xs) (hl : xs.length ≤ 1000000) (hn : 0 ≤ n ∧ n < 9223372036854775808) (hwd : 0 ≤ wd ∧ wd ≤ 62) :
  Calls Tryz.prog 131 #[.slice p xs.length c, .int .i64 n, .int .i64 wd] w fun e w' => (∃ v, e = .returned v ∧ RowI w.heap.size w' v (xs ++ bitsOf n wd)) ∧ Ext w w' := by
 go_enter Tryz.func131, Tryz.ntmps131
 go_wp2_with (at_builtin; go_loud (refine appendLI (RowI.made (Nat.le_refl _)) (hx.ext ((Ext.refl w).alloc _)) (by simp; omega) (by simp) ?_ rfl rfl); intro v1 w1 hown1 hG1)
 have hx1 : Ext w w1 := hG1.toExt ((Ext.refl w).alloc _) (fun k hk => by simp [Value.ownBlock] at hk; omega)
 simp only [List.nil_append] at hown1
 clear hG1
 go_loopw [7, 8] (fun o i wr => ∃ (k : Nat), k ≤ wd.toNat ∧ i = .int .i64 (wd - 1 - k) ∧ RowI w.heap.size wr o (xs ++ (bitsOf n wd).take k) ∧ Ext w wr) (fun _ i _ => (intOf i + 1).toNat)
 case atStart => exact ⟨0, Nat.zero_le _, by go_num, by simpa using hown1, hx1⟩
 case round =>
  clear hown1 hx1
  obtain ⟨k, hk, rfl, hown, hG⟩ := hrel
  have hlen := bitsOf_len n wd
  have hBr := hG.below.size
  by_cases hlt : k < wd.toNat
  ·have hT := Lib.hid (bitsOf_take n wd k hlt)
   have hdp := div_pow_bd n (wd.toNat - 1 - k) hn.1
   have e1 := and_one (n / 2 ^ (wd.toNat - 1 - k)) (by omega)
   go_wp2_with (at_builtin; go_loud (refine append1IG hown (by simp; omega) (by omega) ?_ rfl rfl); intro v1 w1 hown1 hG1)
   go_roundw
   case rel => exact ⟨k + 1, hlt, by go_num, by rw [hT.out, ← List.append_assoc]; exact hown1, hG1.toExt hG (fun k hk => (hown.lt k hk).1)⟩
   case measure => simp [intOf]; omega
  ·obtain rfl : k = wd.toNat := by omega
   go_wp2
   go_ret
   rw [List.take_of_length_le (by omega)] at hown
   exact ⟨⟨_, rfl, hown⟩, hG⟩

def wfs (xs : List Int) : Prop := ∀ x ∈ xs, (Lit.int .i64 x).wf = true
theorem wfs.at {xs : List Int} (h : wfs xs) {k : Nat} (hk : k < xs.length) : -9223372036854775808 ≤ xs.getD k 0 ∧ xs.getD k 0 ≤ 9223372036854775807 := by
 have := h (xs[k]'hk) (List.getElem_mem hk)
 rw [List.getD_eq_getElem?_getD, List.getElem?_eq_getElem hk]
 simp only [Lit.wf, Bool.and_eq_true, decide_eq_true_eq] at this
 have e1 : IntKind.i64.min = -9223372036854775808 := by decide
 have e2 : IntKind.i64.max = 9223372036854775807 := by decide
 rw [e1, e2] at this
 simpa using this
section
variable {Q : Exit → Act → World → Prop} {K : Act → World → Prop} {a : Act} {dst : Option Tmp} {s x : Operand} {ty : TypeId} {pos : String} {after : Array Edge} {B : Nat} {w0 : World} {v : Value} {xs : List Int} {n : Int}
end
end Go.Proofs.YtdnkljpnhmcnpaaGreat
