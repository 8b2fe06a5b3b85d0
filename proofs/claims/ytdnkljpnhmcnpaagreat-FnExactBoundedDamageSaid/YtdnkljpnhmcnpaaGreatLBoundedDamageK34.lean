/- A stream parted into words, the program's side. -/
import Derived.Test.YtdnkljpnhmcnpaaGreatLBoundedDamageK32
import Derived.Test.YtdnkljpnhmcnpaaGreatLBoundedDamageK33
import Derived.Test.YtdnkljpnhmcnpaaGreatLBoundedDamageK19
set_option linter.unusedVariables false
set_option linter.unusedSimpArgs false
namespace Go.Proofs.YtdnkljpnhmcnpaaGreat
open Go.RowKit Go.Shelf

structure WdI (B : Nat) (w : World) (g N : Nat) (len : Nat → Nat) (rs : List Nat) : Prop where
 gl : g < w.heap.size
 cell : ∀ b, b < rs.length → w.cell? ⟨g, b, none⟩ = some (.slice (some ⟨rs.getD b 0, 0, none⟩) (len b) (len b))
 nilc : ∀ b, rs.length ≤ b → b < N → w.cell? ⟨g, b, none⟩ = some (.slice none 0 0)
 free : ∀ b, b < N → w.frozen? ⟨g, b, none⟩ = false
 row : ∀ b, b < rs.length → OwnInts B w (some ⟨rs.getD b 0, 0, none⟩) (List.replicate (len b) 0)
 rl : ∀ b, b < rs.length → B ≤ rs.getD b 0 ∧ rs.getD b 0 < w.heap.size ∧ rs.getD b 0 ≠ g
 inj : ∀ a b, a < rs.length → b < rs.length → rs.getD a 0 = rs.getD b 0 → a = b
theorem WdI.ext {B : Nat} {w w' : World} {g N : Nat} {len : Nat → Nat} {rs : List Nat} (h : WdI B w g N len rs) (hx : Ext w w') : WdI B w' g N len rs := by
 obtain ⟨hc, hf, hk, hz⟩ := ecell hx
 exact ⟨hk _ h.gl, fun b hb => by rw [hc _ _ h.gl]; exact h.cell b hb, fun b h1 h2 => by rw [hc _ _ h.gl]; exact h.nilc b h1 h2, fun b hb => by rw [hf _ _ h.gl]; exact h.free b hb, fun b hb => (h.row b hb).ext hx, fun b hb => ⟨(h.rl b hb).1, hk _ (h.rl b hb).2.1, (h.rl b hb).2.2⟩, h.inj⟩
theorem getD_appN (l : List Nat) (r b : Nat) (h : b < l.length) : (l ++ [r]).getD b 0 = l.getD b 0 := by
 rw [List.getD_eq_getElem?_getD, List.getElem?_append_left h, ← List.getD_eq_getElem?_getD]
theorem getD_appNL (l : List Nat) (r : Nat) : (l ++ [r]).getD l.length 0 = r := by
 rw [List.getD_eq_getElem?_getD, List.getElem?_append_right (Nat.le_refl _)]
 simp
theorem WdI.put {B : Nat} {w w1 : World} {g N r : Nat} {len : Nat → Nat} {rs : List Nat} (h : WdI B w g N len rs) (hx : Ext w w1) (hr : w.heap.size ≤ r) (hr1 : r < w1.heap.size) (hB : B ≤ w.heap.size) (ho : OwnInts B w1 (some ⟨r, 0, none⟩) (List.replicate (len rs.length) 0)) (hj : rs.length < N) :
  WdI B (w1.setCell ⟨g, rs.length, none⟩ (.slice (some ⟨r, 0, none⟩) (len rs.length) (len rs.length))) g N len (rs ++ [r]) := by
 have h1 := h.ext hx
 have hbt : But g w1 (w1.setCell ⟨g, rs.length, none⟩ (.slice (some ⟨r, 0, none⟩) (len rs.length) (len rs.length))) := But.set w1 g _ _
 have hs : (w1.setCell ⟨g, rs.length, none⟩ (.slice (some ⟨r, 0, none⟩) (len rs.length) (len rs.length))).heap.size = w1.heap.size := by simp [World.setCell]
 have hgr : g ≠ r := by have := h.gl; omega
 have hlen : (rs ++ [r]).length = rs.length + 1 := by simp
 have hnil := h1.nilc rs.length (Nat.le_refl _) hj
 have hself : (w1.setCell ⟨g, rs.length, none⟩ (.slice (some ⟨r, 0, none⟩) (len rs.length) (len rs.length))).cell? ⟨g, rs.length, none⟩ = some (.slice (some ⟨r, 0, none⟩) (len rs.length) (len rs.length)) := World.cell?_setCell_same' w1 _ _ (by rw [hnil]; rfl)
 have hoth : ∀ b, b ≠ rs.length → (w1.setCell ⟨g, rs.length, none⟩ (.slice (some ⟨r, 0, none⟩) (len rs.length) (len rs.length))).cell? ⟨g, b, none⟩ = w1.cell? ⟨g, b, none⟩ := fun b hb => World.cell?_setCell_other w1 _ _ _ (by intro e; injection e with e1 e2; exact hb e2.symm)
 refine ⟨by rw [hs]; exact h1.gl, fun b hb => ?_, fun b h2 h3 => ?_, fun b hb => ?_, fun b hb => ?_, fun b hb => ?_, fun a b ha hb e => ?_⟩
 ·rw [hlen] at hb
  rcases Nat.lt_or_ge b rs.length with h2 | h2
  ·rw [getD_appN _ _ _ h2, hoth b (by omega)]; exact h1.cell b h2
  ·obtain rfl : b = rs.length := by omega
   rw [getD_appNL]; exact hself
 ·rw [hlen] at h2
  rw [hoth b (by omega)]; exact h1.nilc b (by omega) h3
 ·rw [World.frozen?_setCell]; exact h1.free b hb
 ·rw [hlen] at hb
  rcases Nat.lt_or_ge b rs.length with h2 | h2
  ·rw [getD_appN _ _ _ h2]; exact (h1.row b h2).setFarN (h1.rl b h2).2.2
  ·obtain rfl : b = rs.length := by omega
   rw [getD_appNL]; exact ho.setFarN (fun e => hgr e.symm)
 ·rw [hlen] at hb
  rcases Nat.lt_or_ge b rs.length with h2 | h2
  ·rw [getD_appN _ _ _ h2, hs]; exact h1.rl b h2
  ·obtain rfl : b = rs.length := by omega
   rw [getD_appNL, hs]; exact ⟨by omega, hr1, fun e => hgr e.symm⟩
 ·rw [hlen] at ha hb
  rcases Nat.lt_or_ge a rs.length with h2 | h2
  ·rcases Nat.lt_or_ge b rs.length with h3 | h3
   ·rw [getD_appN _ _ _ h2, getD_appN _ _ _ h3] at e; exact h.inj a b h2 h3 e
   ·obtain rfl : b = rs.length := by omega
    rw [getD_appN _ _ _ h2, getD_appNL] at e
    have := (h.rl a h2).2.1; omega
  ·obtain rfl : a = rs.length := by omega
   rcases Nat.lt_or_ge b rs.length with h3 | h3
   ·rw [getD_appNL, getD_appN _ _ _ h3] at e
    have := (h.rl b h3).2.1; omega
   ·omega
structure WdW (B : Nat) (w : World) (g N : Nat) (len r : Nat → Nat) (f : Nat → List Int) : Prop where
 cell : ∀ b, b < N → w.cell? ⟨g, b, none⟩ = some (.slice (some ⟨r b, 0, none⟩) (len b) (len b))
 row : ∀ b, b < N → OwnInts B w (some ⟨r b, 0, none⟩) (f b)
 flen : ∀ b, b < N → (f b).length = len b
theorem cells_of {w : World} {a : Addr} {v : Value} (h : w.cell? a = some v) : ∃ o : Obj, w.heap[a.block]? = some o ∧ o.isCells = true := by
 unfold World.cell? at h
 cases hh : w.heap[a.block]? with
 | none => rw [hh] at h; cases h
 | some o =>
  rw [hh] at h
  cases o <;> first | exact ⟨_, rfl, rfl⟩ | cases h
def CellsKept (w w' : World) : Prop := w.heap.size ≤ w'.heap.size ∧ ∀ (k : Nat) (o : Obj), w.heap[k]? = some o → o.isCells = true → w'.heap[k]? = some o
theorem CellsKept.ext {w w' : World} (h : Ext w w') : CellsKept w w' := ⟨h.below.size, fun k o hk _ => by rw [h.below.block k (Array.getElem?_eq_some_iff.1 hk).1]; exact hk⟩
theorem CellsKept.grown {w w' : World} {row : Option Nat} (hg : w.grownBy w' row) (hr : ∀ r, row = some r → ∃ o : Obj, w.heap[r]? = some o ∧ o.isCells = false) : CellsKept w w' := ⟨hg.size, fun k o hk hc => by
 rw [hg.block k (Array.getElem?_eq_some_iff.1 hk).1 (fun e => by
  obtain ⟨o', h1, h2⟩ := hr k e.symm
  rw [hk] at h1
  cases h1
  rw [hc] at h2
  cases h2)]
 exact hk⟩
theorem CellsKept.cell {w w' : World} (h : CellsKept w w') {a : Addr} {v : Value} (hv : w.cell? a = some v) : w'.cell? a = some v := by
 obtain ⟨o, h1, h2⟩ := cells_of hv
 rw [World.cell?_of_block (w := w) ((h.2 _ o h1 h2).trans h1.symm)]; exact hv
theorem CellsKept.blk {w w' : World} (h : CellsKept w w') {g : Nat} {cs : Array Value} {t : TypeId} (hb : Blk w g cs t) : Blk w' g cs t := h.2 g _ hb rfl
theorem CellsKept.own {B : Nat} {w w' : World} (h : CellsKept w w') {p : Option Addr} {xs : List Int} (ho : OwnInts B w p xs) : OwnInts B w' p xs := fun i hi => by
 obtain ⟨b, o, h1, hB, h2, h3, h4⟩ := ho i hi
 obtain ⟨ob, h5, h6⟩ := cells_of h3
 exact ⟨b, o, h1, hB, Nat.lt_of_lt_of_le h2 h.1, h.cell h3, by rw [World.frozen?_of_block (w := w) ((h.2 _ ob h5 h6).trans h5.symm)]; exact h4⟩
theorem WdW.kept {B : Nat} {w w' : World} {g N : Nat} {len r : Nat → Nat} {f : Nat → List Int} (h : WdW B w g N len r f) (hk : CellsKept w w') : WdW B w' g N len r f :=
 ⟨fun b hb => hk.cell (h.cell b hb), fun b hb => hk.own (h.row b hb), h.flen⟩
theorem WdW.set {B : Nat} {w : World} {g N : Nat} {len r : Nat → Nat} {f : Nat → List Int} (h : WdW B w g N len r f) (hrg : ∀ b, b < N → r b ≠ g) (hinj : ∀ a b, a < N → b < N → r a = r b → a = b) {b e : Nat} (hb : b < N) (he : e < len b) (x : Int) :
  WdW B (w.setCell ⟨r b, e, none⟩ (.int .i64 x)) g N len r (fun c => if c = b then (f b).set e x else f c) := by
 refine ⟨fun c hc => ?_, fun c hc => ?_, fun c hc => ?_⟩
 ·rw [World.cell?_setCell_far w _ _ _ (show r b ≠ g from hrg b hb)]; exact h.cell c hc
 ·by_cases hcb : c = b
  ·subst hcb
   rw [if_pos rfl]
   have := (h.row c hc).set (k := e) rfl (by rw [h.flen c hc]; exact he) x
   rwa [Nat.zero_add] at this
  ·rw [if_neg hcb]
   exact (h.row c hc).setFarN (fun e2 => hcb (hinj c b hc hb e2))
 ·by_cases hcb : c = b
  ·subst hcb
   rw [if_pos rfl, List.length_set]; exact h.flen c hc
  ·rw [if_neg hcb]; exact h.flen c hc
theorem WdW.far {B : Nat} {w : World} {g N : Nat} {len r : Nat → Nat} {f : Nat → List Int} (h : WdW B w g N len r f) {g' i : Nat} (hg : g' ≠ g) (hr : ∀ b, b < N → r b ≠ g') (v : Value) : WdW B (w.setCell ⟨g', i, none⟩ v) g N len r f :=
 ⟨fun b hb => by rw [World.cell?_setCell_far w _ _ _ (show g' ≠ g from hg)]; exact h.cell b hb, fun b hb => (h.row b hb).setFarN (hr b hb), h.flen⟩
set_option maxRecDepth 100000 in
theorem make_op {K : Act → World → Prop} {dst : Option Tmp} {ty : TypeId} {pos : String} {after : Array Edge} {a : Act} {w : World} {Q : Exit → Act → World → Prop} {t e : TypeId} {z : Value} {size bytes : Nat} {l c : Operand}
  (ht : Tryz.prog.underlying t = some (.slice e)) (hinfo : (Tryz.prog.info? e).map (fun i => (i.zero, i.size, i.bytes)) = some (some z, size, bytes)) (n : Nat)
  (hl : a.eval l = .int .i64 n) (hc : a.eval c = .int .i64 n) (hb : bytes * n ≤ 281474976710656) (hn : n ≤ 281474976710656)
  (h : K (a.put dst (.slice (some ⟨w.heap.size, 0, none⟩) n n)) (w.alloc (.cells (madeCells z.cells (n * size)) e))) :
  Oper.wp Tryz.prog ⟨dst, .makeSlice t l c, ty, pos, after, none⟩ a w K Q := by
 obtain ⟨i, hi, hzz⟩ := Option.map_eq_some_iff.1 hinfo
 simp only [Prod.mk.injEq] at hzz
 obtain ⟨hz, hs, hb'⟩ := hzz
 subst hs
 have hb2 : (i.bytes : Int) * (n : Int) ≤ 281474976710656 := by
  have h : ((i.bytes * n : Nat) : Int) ≤ 281474976710656 := by rw [hb']; omega
  rwa [Int.natCast_mul] at h
 have hr := run_make (P := Tryz.prog) w t e i z ht hi hz .i64 .i64 n n (by omega) (Int.le_refl _) hb2 (by omega)
 simp only [Int.toNat_natCast] at hr
 unfold Oper.wp
 simp [execOp, hl, hc, hr, Result.andThen]
 exact h
set_option maxRecDepth 100000 in
theorem order_c (p k q D C N : Int) (w : World) :
  Calls Tryz.prog 188 #[vLay p k q D C N] w fun e w' => e = .returned (.func (.func 218) #[] #[.pointer (some ⟨w.heap.size, 0, none⟩)]) ∧ w' = w.alloc (.cells #[.int .i64 p, .int .i64 k, .int .i64 q, .int .i64 D, .int .i64 C, .int .i64 N] 95) := by
 go_enter Tryz.func188, Tryz.ntmps188
 go_wp2
 go_ret
 exact ⟨rfl, rfl⟩
set_option maxHeartbeats 3200000 in
set_option maxRecDepth 100000 in
theorem split_c (p k q : Int) (D C N : Nat) (hN : 1 ≤ N ∧ N ≤ 16) (hD : D ≤ 1500) (hC : C ≤ 64) (ps : Option Addr) (cs : Nat) (st : List Int) (w : World) (hst : IntsAt w ps st) (hl : st.length = D + C * N) (hb2 : ∀ i, 0 ≤ st.getD i 0 ∧ st.getD i 0 ≤ 2) :
  Calls Tryz.prog 130 #[vLay p k q D C N, .slice ps st.length cs] w fun e w' => (∃ g, e = .returned (.slice (some ⟨g, 0, none⟩) N N) ∧ g < w'.heap.size ∧ ∀ b, b < N → ∃ r f, w'.cell? ⟨g, b, none⟩ = some (.slice (some ⟨r, 0, none⟩) (shN D N b + C) (shN D N b + C)) ∧ IntsAt w' (some ⟨r, 0, none⟩) f ∧ f.length = shN D N b + C ∧ f.sum = bsum (ordL D C N) st b (D + C * N) ∧ ∀ i, 0 ≤ f.getD i 0 ∧ f.getD i 0 ≤ 2) ∧ Ext w w' := by
 have HX := Lib.hid hst; clear hst
 obtain ⟨T, hTT⟩ : ∃ T, D + C * N = T := ⟨_, rfl⟩
 rw [hTT] at hl
 rw [hl, hTT]
 have hsz : ∀ (b : Nat) W, b ≤ 100 → Calls Tryz.prog 187 #[vLay p k q D C N, .int .i64 b] W fun e w' => e = .returned (.int .i64 (shN D N b : Int)) ∧ Ext W w' := fun b W hb => by
  have := iShare7_c p k q D C N b W (by omega) (by omega) (by omega)
  rwa [shV_nat hN.1] at this
 have hshb := Lib.hid (fun b => (shN_le D N b).2)
 have hDN := Lib.hid (Nat.le_trans (Nat.div_le_self D N) hD)
 replace hsz := Lib.hid hsz
 have hTb := Lib.hid (show T ≤ 1500 + 64 * 16 from by have := Nat.mul_le_mul hC hN.2; omega)
 replace hTT := Lib.hid hTT; replace hl := Lib.hid hl
 have hxA : Ext w ((((w.alloc (.cells #[.int .i64 p, .int .i64 k, .int .i64 q, .int .i64 D, .int .i64 C, .int .i64 N] 95)).alloc (.cells #[.slice ps T cs] 22)).alloc (.cells (madeCells #[.slice none 0 0] N) 22)).alloc (.cells #[.slice (some ⟨w.heap.size + 1 + 1, 0, none⟩) N N] 175)) := ((((Ext.refl w).alloc _).alloc _).alloc _).alloc _
 have PF := (((Blk.new w #[.int .i64 p, .int .i64 k, .int .i64 q, .int .i64 D, .int .i64 C, .int .i64 N] 95).alloc (.cells #[.slice ps T cs] 22)).alloc (.cells (madeCells #[.slice none 0 0] N) 22)).alloc (.cells #[.slice (some ⟨w.heap.size + 1 + 1, 0, none⟩) N N] 175)
 have PS := ((Blk.new (w.alloc (.cells #[.int .i64 p, .int .i64 k, .int .i64 q, .int .i64 D, .int .i64 C, .int .i64 N] 95)) #[.slice ps T cs] 22).alloc (.cells (madeCells #[.slice none 0 0] N) 22)).alloc (.cells #[.slice (some ⟨w.heap.size + 1 + 1, 0, none⟩) N N] 175)
 have PG := (Blk.new ((w.alloc (.cells #[.int .i64 p, .int .i64 k, .int .i64 q, .int .i64 D, .int .i64 C, .int .i64 N] 95)).alloc (.cells #[.slice ps T cs] 22)) (madeCells #[.slice none 0 0] N) 22).alloc (.cells #[.slice (some ⟨w.heap.size + 1 + 1, 0, none⟩) N N] 175)
 have PB := Blk.new (((w.alloc (.cells #[.int .i64 p, .int .i64 k, .int .i64 q, .int .i64 D, .int .i64 C, .int .i64 N] 95)).alloc (.cells #[.slice ps T cs] 22)).alloc (.cells (madeCells #[.slice none 0 0] N) 22)) #[.slice (some ⟨w.heap.size + 1 + 1, 0, none⟩) N N] 175
 simp only [World.size_alloc] at PS PG PB
 refine (callsIn_wide (n := 10)).1 ?_
 refine callsIn_of_wp_marks Tryz.func130 rfl trivial ?_ rfl
 simp only [Tryz.ntmps130, List.size_toArray, List.length_cons, List.length_nil, Nat.reduceAdd, Nat.reduceSub, Array.replicate_succ, Array.replicate_zero, List.push_toArray, List.append_toArray, List.nil_append, List.cons_append]
 refine wpIn_wide.2 ?_
 go_upto_region 2 with (refine make_blk Tryz.underlying175 infoSl N rfl rfl (by omega) (by omega) ?_)
 have hBw := hxA.below.size
 have n1 : w.heap.size ≠ w.heap.size + 1 + 1 := by omega
 have n2 : w.heap.size + 1 ≠ w.heap.size + 1 + 1 := by omega
 have n3 : w.heap.size + 1 + 1 + 1 ≠ w.heap.size + 1 + 1 := by omega
 have n4 : w.heap.size ≤ w.heap.size + 1 + 1 := by omega
 obtain ⟨B, hB⟩ : ∃ B, w.heap.size = B := ⟨_, rfl⟩
 obtain ⟨gB, hgB⟩ : ∃ g, w.heap.size + 1 + 1 + 1 = g := ⟨_, rfl⟩
 rw [hgB] at PB n3 ⊢
 obtain ⟨gW, hgW⟩ : ∃ g, w.heap.size + 1 + 1 = g := ⟨_, rfl⟩
 rw [hgW] at PG PB hxA PF PS hBw n1 n2 n3 n4 ⊢
 obtain ⟨gS, hgS⟩ : ∃ g, w.heap.size + 1 = g := ⟨_, rfl⟩
 rw [hgS] at PS n2 ⊢
 obtain ⟨gL, hgL⟩ : ∃ g, w.heap.size = g := ⟨_, rfl⟩
 rw [hgL] at PF n1 ⊢
 generalize ((((w.alloc (.cells #[.int .i64 p, .int .i64 k, .int .i64 q, .int .i64 D, .int .i64 C, .int .i64 N] 95)).alloc (.cells #[.slice ps T cs] 22)).alloc (.cells (madeCells #[.slice none 0 0] N) 22)).alloc (.cells #[.slice (some ⟨gW, 0, none⟩) N N] 175)) = w4 at *
 have hW0 : WdI w4.heap.size w4 gW N (fun b => shN D N b + C) [] := by
  refine ⟨PG.lt, fun b h => absurd h (Nat.not_lt_zero b), fun b _ hb => PG.cell (i := b) (v := .slice none 0 0) ?_, fun b _ => PG.free b, fun b h => absurd h (Nat.not_lt_zero b), fun b h => absurd h (Nat.not_lt_zero b), fun a b h => absurd h (Nat.not_lt_zero a)⟩
  rw [made_get hb]
  simp
  rw [Nat.mod_one]; rfl
 have hb0 : But gW w4 w4 := But.refl _ _
 have q0 := PB.cell (i := 0) (v := .slice (some ⟨gW, 0, none⟩) N N) rfl; have qL := PB.lt
 go_upto_region 3 with (fail)
 clear q0 qL
 go_loopw [15] (fun i wr => ∃ rs : List Nat, rs.length ≤ N ∧ i = .int .i64 (rs.length : Nat) ∧ WdI w4.heap.size wr gW N (fun b => shN D N b + C) rs ∧ But gW w4 wr) (fun i _ => N + 10 - (intOf i).toNat)
 case atStart => exact ⟨[], Nat.zero_le _, rfl, hW0, hb0⟩
 case round =>
  clear hW0 hb0
  obtain ⟨rs, hrs, rfl, hW, hb⟩ := hrel
  obtain ⟨j, hj⟩ : ∃ j, rs.length = j := ⟨_, rfl⟩
  rw [hj] at hrs ⊢
  by_cases hlt : j < N
  ·have hcall := Lib.hid (fun W => hsz.out j W (by omega))
   have hS := hshb.out j
   have hD2 := hDN.out
   have P1 := PF.but hb n1
   have P3 := PB.but hb n3
   have hgw := hW.gl
   have hnil := hW.nilc j (by omega) hlt
   have hfr := hW.free j hlt
   obtain ⟨c0, c1, c2, c3, c4, c5⟩ := P1.c6; have cL := P1.lt
   have q0 := P3.cell (i := 0) (v := .slice (some ⟨gW, 0, none⟩) N N) rfl; have qL := P3.lt
   have hji : (j : Int) < (N : Int) := by omega
   have hput := Lib.hid (fun w1 r h1 h2 h3 h4 => hW.put (w1 := w1) (r := r) h1 h2 h3 hb.size h4 (by omega))
   rw [hj] at hput
   obtain ⟨S, hSS⟩ : ∃ S, shN D N j = S := ⟨_, rfl⟩
   rw [hSS] at hcall hS hput
   have eS := IntWalk.i64_in ((S : Int) + (C : Int)) (by omega)
   replace hD2 := hD2
   go_upto_region 5 with (fail)
   refine wp_region_canon (fun w' => But gW wr w') [(0, true), (1, true), (2, true), (3, true), (5, true), (6, true), (4, false), (7, true), (8, false), (9, true), (10, false)] (by kernel_rfl) (by kernel_rfl) (by decide) (by kernel_rfl) ?_ ?_
   ·exact (But.refl _ _).drew
   refine canon_intro fun ops eo => ?_
   replace eo := canon_eo eo
   iterate 6 all_goals (refine cS eo rfl rfl evB ?_; simp only [ptN])
   all_goals first | (refine canon_ef (eo.out 4 rfl) rfl (fun K hK => ?_); go_simp; ((go_at_call 187; (with_reducible refine (hcall.out _).mono ?_); rintro e w5 ⟨rfl, hx5⟩; obtain ⟨hcS, hfS, hkS, hzS⟩ := ecell ((Ext.refl wr).drew.trans hx5); have z1 := (hcS gW j hgw).trans hnil; have zf := (hfS gW j hgw).trans hfr; have zl := hkS gW hgw)); all_goals (refine hK _ _ ⟨(by first | exact (But.refl _ _).drew | exact But.of ((Ext.refl _).drew.trans hx5) | exact But.of (((Ext.refl _).drew.trans hx5).alloc _) | exact (But.of (((Ext.refl _).drew.trans hx5).alloc _)).setK _ | exact ((But.of ((Ext.refl _).drew.trans hx5)).setK _).trans (But.of ((Ext.refl _).alloc _))), ?_⟩; clear hK K; go_simp))
   all_goals (refine cS eo rfl rfl evB ?_; simp only [ptN])
   all_goals first | (refine canon_ef (eo.out 8 rfl) rfl (fun K hK => ?_); (refine make_op Tryz.underlying22 infoInt (S + C) rfl rfl (by omega) (by omega) ?_); all_goals (refine hK _ _ ⟨(by first | exact (But.refl _ _).drew | exact But.of ((Ext.refl _).drew.trans hx5) | exact But.of (((Ext.refl _).drew.trans hx5).alloc _) | exact (But.of (((Ext.refl _).drew.trans hx5).alloc _)).setK _ | exact ((But.of ((Ext.refl _).drew.trans hx5)).setK _).trans (But.of ((Ext.refl _).alloc _))), ?_⟩; clear hK K; go_simp))
   all_goals (refine cS eo rfl rfl evB ?_; simp only [ptN])
   all_goals first | (refine canon_ef (eo.out 10 rfl) rfl (fun K hK => ?_); go_simp; (skip); all_goals (refine hK _ _ ⟨(by first | exact (But.refl _ _).drew | exact But.of ((Ext.refl _).drew.trans hx5) | exact But.of (((Ext.refl _).drew.trans hx5).alloc _) | exact (But.of (((Ext.refl _).drew.trans hx5).alloc _)).setK _ | exact ((But.of ((Ext.refl _).drew.trans hx5)).setK _).trans (But.of ((Ext.refl _).alloc _))), ?_⟩; clear hK K; go_simp))
   all_goals (clear eo; refine canon_done (NoPanic.normal ?_))
   have hxr5 : Ext wr w5 := (Ext.refl wr).drew.trans hx5
   have hw6 := hput.out (w5.alloc (.cells (madeCells #[.int .i64 0] (S + C)) 2)) w5.heap.size (hxr5.alloc _) hxr5.below.size (by rw [World.size_alloc]; omega) (OwnInts.made w5 2 (Nat.le_trans hb.size hxr5.below.size))
   have heq : (w5.alloc (.cells (madeCells #[.int .i64 0] (S + C)) 2)).setCell ⟨gW, j, none⟩ (.slice (some ⟨w5.heap.size, 0, none⟩) (S + C) (S + C)) = (w5.setCell ⟨gW, j, none⟩ (.slice (some ⟨w5.heap.size, 0, none⟩) (S + C) (S + C))).alloc (.cells (madeCells #[.int .i64 0] (S + C)) 2) := by go_simp
   rw [heq] at hw6
   have hb6 : But gW w4 ((w5.setCell ⟨gW, j, none⟩ (.slice (some ⟨w5.heap.size, 0, none⟩) (S + C) (S + C))).alloc (.cells (madeCells #[.int .i64 0] (S + C)) 2)) := (hb.trans ((But.of hxr5).setK _)).trans (But.of ((Ext.refl _).alloc _))
   have hlj : (rs ++ [w5.heap.size]).length = j + 1 := by rw [List.length_append, hj]; rfl
   clear heq hput hxr5 z1 zf zl hcS hfS hkS hzS
   go_wp2
   go_roundw
   case rel => exact ⟨rs ++ [w5.heap.size], by rw [hlj]; exact hlt, by rw [hlj]; go_num, hw6, hb6⟩
   case measure => simp [intOf]; omega
  ·obtain rfl : j = N := by omega
   have P1 := PF.but hb n1
   have P2 := PS.but hb n2
   have P3 := PB.but hb n3
   obtain ⟨c0, c1, c2, c3, c4, c5⟩ := P1.c6; have cL := P1.lt
   go_upto_region 8 with (fail)
   go_wp2_with (go_at_call 188; go_loud ((with_reducible refine (order_c _ _ _ _ _ _ _).mono ?_); rintro e w9 ⟨rfl, rfl⟩))
   have hxr : Ext w wr := hxA.but hb n4
   clear c0 c1 c2 c3 c4 c5 cL
   have hxl : Ext wr ((wr.alloc (.cells #[.int .i64 0] 3)).alloc (.cells #[.int .i64 p, .int .i64 k, .int .i64 q, .int .i64 D, .int .i64 C, .int .i64 j] 95)) := ((Ext.refl wr).alloc _).alloc _
   have PA := (Blk.new wr #[.int .i64 0] 3).alloc (.cells #[.int .i64 p, .int .i64 k, .int .i64 q, .int .i64 D, .int .i64 C, .int .i64 j] 95)
   have PO := Blk.new (wr.alloc (.cells #[.int .i64 0] 3)) #[.int .i64 p, .int .i64 k, .int .i64 q, .int .i64 D, .int .i64 C, .int .i64 j] 95
   rw [World.size_alloc] at PO
   have P2l := P2.ext hxl
   have P3l := P3.ext hxl
   have hWl := hW.ext hxl
   have hrl := hW.rl
   have hxw := hxr.trans hxl
   have hne1 : gW < wr.heap.size := hW.gl
   have hlen := Lib.hid hj
   obtain ⟨gA, hgA⟩ : ∃ g, wr.heap.size = g := ⟨_, rfl⟩
   obtain ⟨gO, hgO⟩ : ∃ g, wr.heap.size + 1 = g := ⟨_, rfl⟩
   rw [hgO] at PO ⊢
   rw [hgA] at PA hne1 hrl ⊢
   have hAO : gA < gO := by omega
   clear hgA hgO
   generalize (wr.alloc (.cells #[.int .i64 0] 3)).alloc (.cells #[.int .i64 p, .int .i64 k, .int .i64 q, .int .i64 D, .int .i64 C, .int .i64 j] 95) = wl at *
   have hcells := hWl.cell; have hrow := hWl.row; have hinj := hWl.inj
   rw [hj] at hcells hrow hrl hinj
   obtain ⟨r, hr⟩ : ∃ r : Nat → Nat, (fun b => rs.getD b 0) = r := ⟨_, rfl⟩
   have hr2 : ∀ b, rs.getD b 0 = r b := fun b => by rw [← hr]
   simp only [hr2] at hcells hrow hrl hinj
   obtain ⟨ln, hln⟩ : ∃ ln : Nat → Nat, (fun b => shN D j b + C) = ln := ⟨_, rfl⟩
   have hln2 : ∀ b, shN D j b + C = ln b := fun b => by rw [← hln]
   have hord := Lib.hid (order1_seq (9 - 1) gO p k q D C j hN hD hC wl PO)
   rw [hTT.out] at hord
   have hlnH := Lib.hid hln2
   simp only [hln2] at hcells hrow
   have hnod := Lib.hid (ordL_nodup D C j hN.1)
   have hordL := Lib.hid (ordL_len D C j hN.1)
   rw [hTT.out] at hordL
   have hinO := Lib.hid (fun (x : BlkE D C j) => x.2)
   have hrg := Lib.hid (fun b hb => (hrl b hb).2.2)
   have hrA := Lib.hid (fun b hb => (hrl b hb).2.1)
   have hrB := Lib.hid (fun b hb => (hrl b hb).1)
   have hlB := Lib.hid PB.lt; have hlS := Lib.hid PS.lt
   have hAl := PA.lt; have hOl := PO.lt
   replace hinj := Lib.hid hinj
   have hW0 : WdW w4.heap.size wl gW j ln r (fun b => List.replicate (ln b) 0) := ⟨hcells, hrow, fun b _ => List.length_replicate⟩
   have hbw : w.heap.size ≤ wl.heap.size := hxw.below.size
   clear hcells hrow hWl hr2 hr hln2 hln hW hb P1 P2 P3 hxl
   refine (wpIn_wide (n := 9)).1 ?_
   refine wpIn_rangeFunc_ownH rfl (by omega) (gf := 218) (lb := #[.pointer (some ⟨gO, 0, none⟩)]) rfl trivial (enters_of Tryz.func218 (by kernel_rfl) rfl) hord.out (fun h k => KpO.trans h k)
    (fun W l o o' hl ho hc _ => ⟨(grownBy_putObj' W l o').block gO (by have := (Array.getElem?_eq_some_iff.1 ho).1; have := PO.lt; omega) (fun e => by have := Option.some.inj e; have := PO.lt; omega), (grownBy_putObj' W l o').size⟩) (Below.refl _ _) (fun _ => rfl)
    (fun pre W => ∃ f, Ext w W ∧ WdW w4.heap.size W gW j ln r f ∧ Blk W gB #[.slice (some ⟨gW, 0, none⟩) j j] 175 ∧ Blk W gS #[.slice ps T cs] 22 ∧ Blk W gA #[.int .i64 (pre.length : Nat)] 3 ∧ ((∃ rest, ordL D C j = pre.map (·.1) ++ rest) → ∀ b, b < j → WordOK (ordL D C j) st b pre.length (ln b) (f b)) ∧ ∀ b, b < j → ∀ i, 0 ≤ (f b).getD i 0 ∧ (f b).getD i 0 ≤ 2) (fun _ _ _ => False)
    ?hI (fun _ _ _ _ _ hs _ _ => hs) ?h0
    (fun x a' W => a' = { tmps := #[vLay p k q D C j, .slice ps T cs, .pointer (some ⟨gL, 0, none⟩), .pointer (some ⟨gS, 0, none⟩), .slice none 0 0, .pointer (some ⟨gB, 0, none⟩), u6, .pointer (some ⟨gA, 0, none⟩), .int .i64 (x.1.1 : Nat), .int .i64 (x.1.2 : Nat), .pointer (some ⟨gL, 5, none⟩), .int .i64 j, .slice (some ⟨gW, 0, none⟩) j j, .slice (some ⟨gW, 0, none⟩) j j, .int .i64 j, .int .i64 j, .bool false, u17, u18, u19, u20, u21, u22, u23, u24, u25, u26, u27, u28, vLay p k q D C j, .func (.func 218) #[] #[.pointer (some ⟨gO, 0, none⟩)], .int .i64 (x.1.1 : Nat), .int .i64 (x.1.2 : Nat), undef, undef, undef, undef, undef, undef, undef, undef, undef, undef, undef, undef, undef], defers := [] })
    (fun _ _ _ _ _ _ hs _ _ => hs) ?assign ?body ?done ?stop
   case hI =>
    rintro pre X Y row ⟨f, h1, h2, h3, h4, h5, h6, h7⟩ hg hr
    have hk := CellsKept.grown hg (fun r e => (hr r e).2)
    exact ⟨f, Below.grown h1.below hg h1.below.size (fun r e => Nat.le_trans hbw (hr r e).1), h2.kept hk, hk.blk h3, hk.blk h4, hk.blk h5, h6, h7⟩
   case h0 =>
    exact ⟨_, hxw, hW0, P3l, P2l, PA, fun _ b hb => WordOK.start _ _ _ _, fun b _ i => by
     rw [List.getD_eq_getElem?_getD, List.getElem?_replicate]
     split <;> exact ⟨by decide, by decide⟩⟩
   case assign =>
    intro l pre x W K hi hK
    have hsem := fun (ρ : Operand → Value) (o : Oper) (h : ∀ c, o.op ≠ .defer c) => Oper.semAt_some l ρ o h
    gi_wp2
    exact hK _ _ ⟨Nat.le_refl _, fun k o _ h _ => h⟩ ⟨rfl, Nat.le_refl _⟩ hi rfl
   case body =>
    rintro l pre ⟨⟨b, e⟩, hbj, hee⟩ a' W hlw ⟨_, hlr⟩ ⟨f, h1, h2, h3, h4, h5, h6, h7⟩ rfl hlen2
    have hsem := fun (ρ : Operand → Value) (o : Oper) (h : ∀ c, o.op ≠ .defer c) => Oper.semAt_some l ρ o h
    have hbj : b < j := hbj
    have hee : e < shN D j b + C := hee
    rw [hlnH.out b] at hee
    have hmx : Tryz.prog.follows .mixedOrders = true := by kernel_rfl
    obtain ⟨t, ht⟩ : ∃ t, pre.length = t := ⟨_, rfl⟩
    rw [ht] at hlen2
    have hlen3 : t < T := hlen2
    obtain ⟨sb, so, hps, hsl, ys⟩ := (HX.out.ext h1) t (by rw [hl.out]; exact hlen3)
    subst hps
    have hvb := hb2 t
    have hcw := h2.cell b hbj
    obtain ⟨rb', ro', e', -, hrl2, yo, yf⟩ := h2.row b hbj e (by rw [h2.flen b hbj]; exact hee)
    injection e' with e'
    injection e' with e1 e2 e3
    subst e1
    subst e2
    rw [Nat.zero_add] at yo yf
    have r1 := hrA.out b hbj; have r2 := hrB.out b hbj; have r3 := hrg.out b hbj
    have hK0 : CellsKept W W.drew := CellsKept.ext ((Ext.refl W).drew)
    have hset := Lib.hid ((h2.kept hK0).set hrg.out hinj.out hbj hee (st.getD t 0))
    rw [ht] at h5 h6
    have q0 := h3.cell (i := 0) (v := .slice (some ⟨gW, 0, none⟩) j j) rfl; have qL := h3.lt
    have p0 := h4.cell (i := 0) (v := .slice (some ⟨sb, so, none⟩) T cs) rfl; have pL := h4.lt
    have a0 := h5.cell (i := 0) (v := .int .i64 (t : Nat)) rfl; have aL := h5.lt; have aF := h5.free
    have hgl := World.block_lt_of_cell? _ _ hcw
    have hbi : (b : Int) < (j : Int) := by omega
    have hei : (e : Int) < (ln b : Int) := by omega
    have hti : (t : Int) < (T : Int) := by omega
    gi_wp2
    refine wpIn_region_inv hmx (fun l a W' => (∃ l0 l1 l2 l3 l4 l5 l6 l7 l8 l9 : Bool, l = #[l0, l1, l2, l3, l4, l5, l6, l7, l8, l9, false] ∧ a = { tmps := #[vLay p k q D C j, .slice (some ⟨sb, so, none⟩) T cs, .pointer (some ⟨gL, 0, none⟩), .pointer (some ⟨gS, 0, none⟩), .slice none 0 0, .pointer (some ⟨gB, 0, none⟩), u6, .pointer (some ⟨gA, 0, none⟩), .int .i64 (b : Nat), .int .i64 (e : Nat), .pointer (some ⟨gL, 5, none⟩), .int .i64 j, .slice (some ⟨gW, 0, none⟩) j j, .slice (some ⟨gW, 0, none⟩) j j, .int .i64 j, .int .i64 j, .bool false, u17, u18, u19, u20, u21, u22, u23, u24, u25, u26, u27, u28, vLay p k q D C j, .func (.func 218) #[] #[.pointer (some ⟨gO, 0, none⟩)], .int .i64 (b : Nat), .int .i64 (e : Nat), cond l0 (.slice (some ⟨gW, 0, none⟩) j j) undef, cond l1 (.int .i64 (b : Nat)) undef, cond l2 (.pointer (some ⟨gW, b, none⟩)) undef, cond l3 (.slice (some ⟨r b, 0, none⟩) (ln b) (ln b)) undef, cond l4 (.int .i64 (e : Nat)) undef, cond l5 (.slice (some ⟨sb, so, none⟩) T cs) undef, cond l6 (.int .i64 (t : Nat)) undef, cond l7 (.pointer (some ⟨sb, so + t, none⟩)) undef, cond l8 (.int .i64 (st.getD t 0)) undef, cond l9 (.pointer (some ⟨r b, e, none⟩)) undef, undef, undef, undef], defers := [] } ∧ W' = W.drew) ∨ (l = #[true, true, true, true, true, true, true, true, true, true, true] ∧ a = { tmps := #[vLay p k q D C j, .slice (some ⟨sb, so, none⟩) T cs, .pointer (some ⟨gL, 0, none⟩), .pointer (some ⟨gS, 0, none⟩), .slice none 0 0, .pointer (some ⟨gB, 0, none⟩), u6, .pointer (some ⟨gA, 0, none⟩), .int .i64 (b : Nat), .int .i64 (e : Nat), .pointer (some ⟨gL, 5, none⟩), .int .i64 j, .slice (some ⟨gW, 0, none⟩) j j, .slice (some ⟨gW, 0, none⟩) j j, .int .i64 j, .int .i64 j, .bool false, u17, u18, u19, u20, u21, u22, u23, u24, u25, u26, u27, u28, vLay p k q D C j, .func (.func 218) #[] #[.pointer (some ⟨gO, 0, none⟩)], .int .i64 (b : Nat), .int .i64 (e : Nat), .slice (some ⟨gW, 0, none⟩) j j, .int .i64 (b : Nat), .pointer (some ⟨gW, b, none⟩), .slice (some ⟨r b, 0, none⟩) (ln b) (ln b), .int .i64 (e : Nat), .slice (some ⟨sb, so, none⟩) T cs, .int .i64 (t : Nat), .pointer (some ⟨sb, so + t, none⟩), .int .i64 (st.getD t 0), .pointer (some ⟨r b, e, none⟩), undef, undef, undef], defers := [] } ∧ W' = W.drew.setCell ⟨r b, e, none⟩ (.int .i64 (st.getD t 0)))) ?_ ?_ (by kernel_rfl) ?_ ?_
    ·exact .inl ⟨false, false, false, false, false, false, false, false, false, false, rfl, rfl, rfl⟩
    ·rintro l a W' (⟨l0, l1, l2, l3, l4, l5, l6, l7, l8, l9, rfl, -⟩ | ⟨rfl, -⟩) <;> rfl
    ·rintro l a W' (⟨l0, l1, l2, l3, l4, l5, l6, l7, l8, l9, rfl, rfl, rfl⟩ | ⟨rfl, rfl, rfl⟩) hall
     ·have := hall 10 (by decide); simp at this
     ·clear hall
      have hn5 : gA ≠ r b := by omega
      have h5d : Blk (W.drew.setCell ⟨r b, e, none⟩ (.int .i64 (st.getD t 0))) gA #[.int .i64 (t : Nat)] 3 := h5.drew.far hn5 _
      have hx5 : Ext w (W.drew.setCell ⟨r b, e, none⟩ (.int .i64 (st.getD t 0))) := (h1.drew).setCell (by show w.heap.size ≤ r b; omega) _
      have h3d : Blk (W.drew.setCell ⟨r b, e, none⟩ (.int .i64 (st.getD t 0))) gB #[.slice (some ⟨gW, 0, none⟩) j j] 175 := h3.drew.far (by have := hlB.out; omega) _
      have h4d : Blk (W.drew.setCell ⟨r b, e, none⟩ (.int .i64 (st.getD t 0))) gS #[.slice (some ⟨sb, so, none⟩) T cs] 22 := h4.drew.far (by have := hlS.out; omega) _
      have hbt : But (r b) W (W.drew.setCell ⟨r b, e, none⟩ (.int .i64 (st.getD t 0))) := (But.of ((Ext.refl W).drew)).trans (But.set _ _ _ _)
      replace hset := hset.out
      clear a0 aL aF p0 pL q0 qL yo yf ys hcw hK0 hsl hvb
      obtain ⟨W5, hW5⟩ : ∃ W5, W.drew.setCell ⟨r b, e, none⟩ (.int .i64 (st.getD t 0)) = W5 := ⟨_, rfl⟩
      rw [hW5] at h5d hx5 hset h3d h4d hbt ⊢
      clear hW5
      have a0 := h5d.cell (i := 0) (v := .int .i64 (t : Nat)) rfl; have aL := h5d.lt; have aF := h5d.free
      have hTT2 := hTb.out
      have eT := IntWalk.i64_in ((t : Int) + 1) (by omega)
      gi_wp2
      have hW6 := h5d.set 0 (.int .i64 ((t : Int) + 1))
      have hAw : w.heap.size ≤ gA := by omega
      have hlW := (Array.getElem?_eq_some_iff.1 hlr).1
      have hpl : (pre ++ [(⟨(b, e), hbj, by rw [hlnH.out b]; exact hee⟩ : BlkE D C j)]).length = t + 1 := by rw [List.length_append, ht]; rfl
      obtain ⟨W6, hW7⟩ : ∃ W6, W5.setCell ⟨gA, 0, none⟩ (.int .i64 ((t : Int) + 1)) = W6 := ⟨_, rfl⟩
      have hbA : But gA W5 W6 := by rw [← hW7]; exact But.set _ _ _ _
      have hb6 : ∀ k, k < W.heap.size → k ≠ r b → k ≠ gA → W6.heap[k]? = W.heap[k]? := fun k hk h1 h2 => (hbA.block k (Nat.lt_of_lt_of_le hk hbt.size) h2).trans (hbt.block k hk h1)
      have hz6 : W.heap.size ≤ W6.heap.size := Nat.le_trans hbt.size hbA.size
      have hx6 : Ext w W6 := by rw [← hW7]; exact hx5.setCell hAw _
      have hs6 : WdW w4.heap.size W6 gW j ln r (fun c => if c = b then (f b).set e (st.getD t 0) else f c) := by rw [← hW7]; exact hset.far (by omega) (fun c hc => by have := hrA.out c hc; omega) _
      have h36 := h3d.but hbA (by have := hlB.out; omega)
      have h46 := h4d.but hbA (by have := hlS.out; omega)
      rw [hW7] at hW6 ⊢
      clear hW7
      refine ⟨⟨hz6, fun k o hB hk _ => (hb6 k (Array.getElem?_eq_some_iff.1 hk).1 (by omega) (by omega)).trans hk⟩, ⟨hb6 gO (by omega) (by omega) (by omega), hz6⟩, ⟨_, hx6, hs6, h36, h46, ?_, fun hp c hc => ?_, fun c hc i => ?_⟩⟩
      ·rw [hpl]; exact hW6
      ·rw [hpl]
       obtain ⟨rest, hrest⟩ := hp
       rw [List.map_append, List.append_assoc] at hrest
       have hLt : (ordL D C j).getD t (0, 0) = (b, e) := by
        rw [hrest, List.getD_eq_getElem?_getD, List.getElem?_append_right (by simp [ht])]; simp [ht]
       have h8 := h6 ⟨_, hrest⟩ c hc
       by_cases hcb : c = b
       ·subst hcb
        have := h8.next hnod.out (by rw [hordL.out]; exact hlen3) (by rw [hLt]) (by rw [hLt]; exact hee)
        rw [hLt] at this
        show WordOK _ _ _ _ _ (if c = c then _ else _)
        rw [if_pos rfl]; exact this
       ·show WordOK _ _ _ _ _ (if c = b then _ else _)
        rw [if_neg hcb]; exact h8.skip (by rw [hLt]; exact fun h => hcb h.symm)
      ·show 0 ≤ (if c = b then _ else f c).getD i 0 ∧ (if c = b then _ else f c).getD i 0 ≤ 2
       by_cases hcb : c = b
       ·rw [if_pos hcb, List.getD_eq_getElem?_getD, List.getElem?_set]
        split
        ·split
         ·exact hb2 t
         ·exact ⟨by decide, by decide⟩
        ·rw [← List.getD_eq_getElem?_getD]; exact h7 b hbj i
       ·rw [if_neg hcb]; exact h7 c hc i
    ·rintro l a W' i (⟨l0, l1, l2, l3, l4, l5, l6, l7, l8, l9, rfl, rfl, rfl⟩ | ⟨rfl, rfl, rfl⟩) hli ⟨o, ho, hed⟩
     ·match i, ho, hli with
     | 0, ho, hli =>
      refine inv_opIn ho (by simp at ho; subst ho; rfl) fun K hK => ?_
      simp at ho hli
      subst ho hli
      simp [Region.binds] at hed
      simp only [cond_true, cond_false]
      replace hK := Lib.hid hK
      gi_wp2
      exact hK.out _ _ (.inl ⟨true, l1, l2, l3, l4, l5, l6, l7, l8, l9, rfl, rfl, rfl⟩)
     | 1, ho, hli =>
      refine inv_opIn ho (by simp at ho; subst ho; rfl) fun K hK => ?_
      simp at ho hli
      subst ho hli
      simp [Region.binds] at hed
      simp only [cond_true, cond_false]
      replace hK := Lib.hid hK
      gi_wp2
      exact hK.out _ _ (.inl ⟨l0, true, l2, l3, l4, l5, l6, l7, l8, l9, rfl, rfl, rfl⟩)
     | 2, ho, hli =>
      refine inv_opIn ho (by simp at ho; subst ho; rfl) fun K hK => ?_
      simp at ho hli
      subst ho hli
      simp [Region.binds] at hed
      obtain ⟨rfl, rfl⟩ := hed
      simp only [cond_true, cond_false]
      replace hK := Lib.hid hK
      gi_wp2
      exact hK.out _ _ (.inl ⟨true, true, true, l3, l4, l5, l6, l7, l8, l9, rfl, rfl, rfl⟩)
     | 3, ho, hli =>
      refine inv_opIn ho (by simp at ho; subst ho; rfl) fun K hK => ?_
      simp at ho hli
      subst ho hli
      simp [Region.binds] at hed
      subst hed
      simp only [cond_true, cond_false]
      replace hK := Lib.hid hK
      gi_wp2
      exact hK.out _ _ (.inl ⟨l0, l1, true, true, l4, l5, l6, l7, l8, l9, rfl, rfl, rfl⟩)
     | 4, ho, hli =>
      refine inv_opIn ho (by simp at ho; subst ho; rfl) fun K hK => ?_
      simp at ho hli
      subst ho hli
      simp [Region.binds] at hed
      simp only [cond_true, cond_false]
      replace hK := Lib.hid hK
      gi_wp2
      exact hK.out _ _ (.inl ⟨l0, l1, l2, l3, true, l5, l6, l7, l8, l9, rfl, rfl, rfl⟩)
     | 5, ho, hli =>
      refine inv_opIn ho (by simp at ho; subst ho; rfl) fun K hK => ?_
      simp at ho hli
      subst ho hli
      simp [Region.binds] at hed
      simp only [cond_true, cond_false]
      replace hK := Lib.hid hK
      gi_wp2
      exact hK.out _ _ (.inl ⟨l0, l1, l2, l3, l4, true, l6, l7, l8, l9, rfl, rfl, rfl⟩)
     | 6, ho, hli =>
      refine inv_opIn ho (by simp at ho; subst ho; rfl) fun K hK => ?_
      simp at ho hli
      subst ho hli
      simp [Region.binds] at hed
      simp only [cond_true, cond_false]
      replace hK := Lib.hid hK
      gi_wp2
      exact hK.out _ _ (.inl ⟨l0, l1, l2, l3, l4, l5, true, l7, l8, l9, rfl, rfl, rfl⟩)
     | 7, ho, hli =>
      refine inv_opIn ho (by simp at ho; subst ho; rfl) fun K hK => ?_
      simp at ho hli
      subst ho hli
      simp [Region.binds] at hed
      obtain ⟨rfl, rfl⟩ := hed
      simp only [cond_true, cond_false]
      replace hK := Lib.hid hK
      gi_wp2
      exact hK.out _ _ (.inl ⟨l0, l1, l2, l3, l4, true, true, true, l8, l9, rfl, rfl, rfl⟩)
     | 8, ho, hli =>
      refine inv_opIn ho (by simp at ho; subst ho; rfl) fun K hK => ?_
      simp at ho hli
      subst ho hli
      simp [Region.binds] at hed
      subst hed
      simp only [cond_true, cond_false]
      replace hK := Lib.hid hK
      gi_wp2
      exact hK.out _ _ (.inl ⟨l0, l1, l2, l3, l4, l5, l6, true, true, l9, rfl, rfl, rfl⟩)
     | 9, ho, hli =>
      refine inv_opIn ho (by simp at ho; subst ho; rfl) fun K hK => ?_
      simp at ho hli
      subst ho hli
      simp [Region.binds] at hed
      have z0 : l0 = true := by simp only [hed]
      have z1 : l1 = true := by simp only [hed]
      have z2 : l2 = true := by simp only [hed]
      have z3 : l3 = true := by simp only [hed]
      have z4 : l4 = true := by simp only [hed]
      have z5 : l5 = true := by simp only [hed]
      have z6 : l6 = true := by simp only [hed]
      have z7 : l7 = true := by simp only [hed]
      have z8 : l8 = true := by simp only [hed]
      subst z0 z1 z2 z3 z4 z5 z6 z7 z8
      simp only [cond_true, cond_false]
      replace hK := Lib.hid hK
      gi_wp2
      exact hK.out _ _ (.inl ⟨true, true, true, true, true, true, true, true, true, true, rfl, rfl, rfl⟩)
     | 10, ho, hli =>
      refine inv_opIn ho (by simp at ho; subst ho; rfl) fun K hK => ?_
      simp at ho hli
      subst ho
      simp [Region.binds] at hed
      have z0 : l0 = true := by simp only [hed]
      have z1 : l1 = true := by simp only [hed]
      have z2 : l2 = true := by simp only [hed]
      have z3 : l3 = true := by simp only [hed]
      have z4 : l4 = true := by simp only [hed]
      have z5 : l5 = true := by simp only [hed]
      have z6 : l6 = true := by simp only [hed]
      have z7 : l7 = true := by simp only [hed]
      have z8 : l8 = true := by simp only [hed]
      have z9 : l9 = true := by simp only [hed]
      subst z0 z1 z2 z3 z4 z5 z6 z7 z8 z9
      simp only [cond_true, cond_false]
      replace hK := Lib.hid hK
      gi_wp2
      exact hK.out _ _ (.inr ⟨rfl, rfl, rfl⟩)
     | i + 11, ho, hli => simp at ho
     ·match i, ho, hli with
      | 0, ho, hli | 1, ho, hli | 2, ho, hli | 3, ho, hli | 4, ho, hli | 5, ho, hli | 6, ho, hli | 7, ho, hli | 8, ho, hli | 9, ho, hli | 10, ho, hli => simp at hli
      | i + 11, ho, hli => simp at ho
   case done =>
    rintro D' ys W hD' hys ⟨f, h1, h2, h3, h4, h5, h6, h7⟩ hK
    have h8 := h6 ⟨[], by rw [hys, List.append_nil]⟩
    have hyl : ys.length = T := by have := congrArg List.length hys; rw [List.length_map, hordL.out] at this; exact this
    have q0 := h3.cell (i := 0) (v := .slice (some ⟨gW, 0, none⟩) j j) rfl; have qL := h3.lt
    have hgW1 := h1
    replace hK := Lib.hid hK
    clear h3 h4 h5 h6
    go_wp2
    have hg := grownBy_putObj' W D' (Obj.deferred none)
    have hkk : ∀ o', CellsKept W (W.putObj D' o') := fun o' => CellsKept.grown (grownBy_putObj' W D' o') (fun r e => by cases e; exact ⟨_, hK.out, rfl⟩)
    have hee : ∀ o', Ext w (W.putObj D' o') := fun o' => Below.grown hgW1.below (grownBy_putObj' W D' o') hgW1.below.size (fun r e => by cases e; exact Nat.le_trans hbw hD')
    refine ⟨by simp, .inl ⟨_, _, rfl, run_takeDeferred hK.out, ?_⟩⟩
    refine ⟨.slice (some ⟨gW, 0, none⟩) j j, (by simp [results, Tryz.results130, go_sem]), ⟨gW, rfl, ?_, fun b hb => ⟨r b, f b, ?_, ?_, ?_, ?_, ?_⟩⟩, hee _⟩
    ·have h9 := (hkk (Obj.deferred none)).1
     have h10 := (h2.cell 0 (by omega))
     exact World.block_lt_of_cell? _ _ ((hkk _).cell (h2.cell 0 (by omega)))
    ·rw [hlnH.out b]; exact (hkk _).cell (h2.cell b hb)
    ·exact ((hkk _).own (h2.row b hb)).ints
    ·rw [hlnH.out b]; exact h2.flen b hb
    ·have := (h8 b hb).sum
     rw [hyl] at this
     exact this
    ·exact h7 b hb
   case stop =>
    rintro D' c pre W _ _ h _
    exact h.elim
end Go.Proofs.YtdnkljpnhmcnpaaGreat
