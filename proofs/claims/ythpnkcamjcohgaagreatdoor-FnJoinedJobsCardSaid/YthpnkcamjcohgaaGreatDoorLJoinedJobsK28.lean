/- The text of a job in the reference. -/
import Derived.Test.YthpnkcamjcohgaaGreatDoorLJoinedJobsK24
import Derived.Test.YthpnkcamjcohgaaGreatDoorLJoinedJobsK26
import Derived.Test.YthpnkcamjcohgaaGreatDoorLJoinedJobsK27
import Derived.Lib.AtoiErrMem
namespace Go.Proofs.YthpnkcamjcohgaaGreatDoor
set_option linter.unusedVariables false
set_option linter.unusedSimpArgs false
open Go.RowKit

section
variable {Q : Exit → Act → World → Prop} {K : Act → World → Prop} {a : Act} {dst : Option Tmp} {sl x : Operand} {ty : TypeId} {pos : String} {after : Array Edge} {B : Nat} {w0 : World} {v : Value} {s : ByteArray}
theorem appendSG_op {t : ByteArray} (hown : RowG B w0 v s) (hl : s.size + t.size ≤ 1000000000) (hB : B ≤ w0.heap.size)
    (h : ∀ v' w', RowG B w' v' (s ++ t) → w0.grownBy w' v.ownBlock → K (a.put dst v') w') (hs : a.eval sl = v) (hx : a.eval x = .string t) :
    Oper.wp Tryz.prog ⟨dst, .call { callee := .builtin .append, args := #[sl, x], argTypes := #[22, 9] }, ty, pos, after, none⟩ a w0 K Q := by
  obtain ⟨v', w', hr, h2, h3⟩ := run_appendSG (t := t) ty hown hl hB
  unfold Oper.wp execOp
  simp only [resolve, invoke, builtin, Sem.run_bind, Sem.run_pure, Result.andThen_ok, List.map_toArray, List.map_cons, List.map_nil, hs, hx, hr]
  exact h v' w' h2 h3
end
/-- A block that is no row of bytes lies as it lay behind an append to a row of bytes. -/
theorem grew_other {B g : Nat} {w w' : World} {v : Value} {s : ByteArray} {cs : Array Value} {t : TypeId} {f : Nat × Nat} (hg : w.grownBy w' v.ownBlock) (hr : RowG B w v s) (hb : w.heap[g]? = some (.cells cs t f)) (ht : t ≠ 5) : w'.heap[g]? = some (.cells cs t f) := by
  rw [hg.block g (Array.getElem?_eq_some_iff.1 hb).1 (fun e => ?_)]
  · exact hb
  · obtain ⟨g', cap, cur, fz, rfl, _, hh, _⟩ := hr
    simp [Value.ownBlock] at e
    subst e
    rw [hb] at hh
    simp at hh
    exact ht hh.2.1
theorem RowI.grewG {B B' : Nat} {w w' : World} {v u : Value} {s : ByteArray} {xs : List Int} (h : RowI B' w u xs) (hg : w.grownBy w' v.ownBlock) (hr : RowG B w v s) : RowI B' w' u xs := by
  refine ⟨h.1, ?_⟩
  rcases h.2 with h2 | ⟨g, cap, cur, hv, hB, hh, r⟩
  · exact .inl h2
  · exact .inr ⟨g, cap, cur, hv, hB, grew_other hg hr hh (by decide), r⟩
theorem Ext.grewG {B : Nat} {w w1 w2 : World} {v : Value} {s : ByteArray} (h : Ext w w1) (hg : w1.grownBy w2 v.ownBlock) (hr : RowG B w1 v s) (hB : w.heap.size ≤ B) : Ext w w2 := by
  refine h.trans3 (Below.grown (Below.refl _ _) hg h.below.size (fun k hk => ?_))
  have := (hr.lt k hk).1
  omega
theorem RowG.mono {B B' : Nat} {w : World} {v : Value} {s : ByteArray} (h : RowG B w v s) (hB : B' ≤ B) : RowG B' w v s := by
  obtain ⟨g, cap, cur, fz, e, hb, r⟩ := h
  exact ⟨g, cap, cur, fz, e, by omega, r⟩
theorem band_size {C n : Nat} {xs : List Int} (hl : xs.length = C) (hC : C ≤ 40000) (hn : n ≤ 40000) : (bandT n xs).size ≤ 7 * C + 7 := by
  unfold bandT
  have h1 := rowR_size xs xs.length (by omega)
  rw [ByteArray.size_append]
  split
  · have h2 : (dec n).size ≤ 6 := by rw [dec_size, Lib.itoa_nonneg]; exact dec_len 5 n (by omega)
    have h3 : xB.size = 1 := rfl
    rw [ByteArray.size_append]; omega
  · have : ByteArray.empty.size = 0 := rfl
    omega
theorem bdT_size {R C : Nat} {xs L : List Int} (h : okJ R C xs) (hL : BandsOK C xs R L) : ∀ i, i ≤ L.length → (bdT C xs L i).size ≤ i * (7 * C + 8)
  | 0, _ => by simp [bdT]
  | i + 1, hi => by
    have ih := bdT_size h hL i (by omega)
    have hi2 : i < L.length := by omega
    have hs := sumN_succ hi2
    have hm := sumN_mono L (show i + 1 ≤ L.length from hi)
    rw [hL.sum] at hm
    have hx := at_all (P := fun x => 1 ≤ x) hi2 hL.pos
    obtain ⟨n, hn⟩ : ∃ n : Nat, L.getD i 0 = n := ⟨(L.getD i 0).toNat, by omega⟩
    rw [hn, Int.toNat_natCast] at hs
    have hb := band_size (C := C) (n := n) (rowL_len h.len (show sumN L i < R by omega)) h.cle (by have := h.rle; omega)
    have h3 : nlB.size = 1 := rfl
    have h4 : (i + 1) * (7 * C + 8) = i * (7 * C + 8) + (7 * C + 8) := by rw [Nat.add_mul, Nat.one_mul]
    unfold bdT lineT
    rw [ByteArray.size_append, ByteArray.size_append, hn]
    omega
theorem bdT_bd {R C : Nat} {xs L : List Int} (h : okJ R C xs) (hL : BandsOK C xs R L) {i : Nat} (hi : i ≤ L.length) : (bdT C xs L i).size ≤ 600000 := by
  have h1 := bdT_size h hL i hi
  have h2 : L.length ≤ R := by
    have hp : ∀ k, k ≤ L.length → k ≤ sumN L k := by
      intro k
      induction k with
      | zero => intro _; omega
      | succ k ih =>
        intro hk
        have := ih (by omega)
        have hx := at_all (P := fun x => 1 ≤ x) (show k < L.length by omega) hL.pos
        rw [sumN_succ (show k < L.length by omega)]
        omega
    have := hp L.length (Nat.le_refl _)
    rw [hL.sum] at this
    exact this
  have h3 : i * (7 * C + 8) ≤ R * (7 * C + 8) := Nat.mul_le_mul_right _ (by omega)
  have h4 : R * (7 * C + 8) = 7 * (R * C) + 8 * R := by rw [Nat.mul_add, Nat.mul_left_comm, Nat.mul_comm R 8]
  have h5 := h.le
  have h6 := h.rle
  omega
theorem head_size {R C : Nat} (hR : R ≤ 40000) (hC : C ≤ 40000) : (headT R C ++ nlB).size ≤ 20 := by
  have h1 : (dec R).size ≤ 6 := by rw [dec_size, Lib.itoa_nonneg]; exact dec_len 5 R (by omega)
  have h2 : (dec C).size ≤ 6 := by rw [dec_size, Lib.itoa_nonneg]; exact dec_len 5 C (by omega)
  have h3 : pgB.size = 5 := rfl
  have h4 : spB.size = 1 := rfl
  have h5 : nlB.size = 1 := rfl
  unfold headT
  simp only [ByteArray.size_append]
  omega
/-- What stands while the bands are written. -/
structure JS (w : World) (g3 B4 : Nat) (box : Array Value) (p1 p2 : Option Addr) (c1 c2 : Nat) (L : List Int) (wr : World) (v : Value) (s : ByteArray) : Prop where
  row : RowG g3 wr v s
  fst : RowI B4 wr (.slice p1 L.length c1) (firstL L)
  cnt : RowI B4 wr (.slice p2 L.length c2) L
  blk : Blk wr w.heap.size box 30
  ext : Ext w wr
theorem JS.gle {w : World} {g3 B4 : Nat} {box : Array Value} {p1 p2 : Option Addr} {c1 c2 : Nat} {L : List Int} {wr : World} {v : Value} {s : ByteArray} (h : JS w g3 B4 box p1 p2 c1 c2 L wr v s) : g3 ≤ wr.heap.size := by
  obtain ⟨g, cap, cur, fz, rfl, hB, hg, _⟩ := h.row
  have := (Array.getElem?_eq_some_iff.1 hg).1
  omega
theorem JS.to {w : World} {g3 B4 : Nat} {box : Array Value} {p1 p2 : Option Addr} {c1 c2 : Nat} {L : List Int} {wr w2 : World} {v : Value} {s : ByteArray} (h : JS w g3 B4 box p1 p2 c1 c2 L wr v s) (hx : Ext wr w2) : JS w g3 B4 box p1 p2 c1 c2 L w2 v s :=
  ⟨h.row.ext hx, h.fst.ext hx, h.cnt.ext hx, h.blk.ext hx, h.ext.trans hx⟩
theorem JS.app {w : World} {g3 B4 : Nat} {box : Array Value} {p1 p2 : Option Addr} {c1 c2 : Nat} {L : List Int} {wr w2 : World} {v v2 : Value} {s s2 : ByteArray} (h : JS w g3 B4 box p1 p2 c1 c2 L wr v s) (hr : RowG g3 w2 v2 s2) (hg : wr.grownBy w2 v.ownBlock) (hB : w.heap.size ≤ g3) : JS w g3 B4 box p1 p2 c1 c2 L w2 v2 s2 :=
  ⟨hr, h.fst.grewG hg h.row, h.cnt.grewG hg h.row, grew_other hg h.row h.blk (by decide), h.ext.grewG hg h.row hB⟩
def JE (w : World) (g3 B4 : Nat) (box : Array Value) (p1 p2 : Option Addr) (c1 c2 : Nat) (L : List Int) (wr : World) : Prop := ∃ v s, JS w g3 B4 box p1 p2 c1 c2 L wr v s
theorem JS.at {w : World} {g3 B4 : Nat} {box : Array Value} {p1 p2 : Option Addr} {c1 c2 : Nat} {L : List Int} {wr : World} {v : Value} {s : ByteArray} (h : JS w g3 B4 box p1 p2 c1 c2 L wr v s) {k : Nat} (hk : k < L.length) :
    ∃ b1 o1 b2 o2, p1 = some ⟨b1, o1, none⟩ ∧ p2 = some ⟨b2, o2, none⟩ ∧ b1 < wr.heap.size ∧ b2 < wr.heap.size ∧ wr.cell? ⟨b1, o1 + k, none⟩ = some (.int .i64 (sumN L k)) ∧ wr.cell? ⟨b2, o2 + k, none⟩ = some (.int .i64 (L.getD k 0)) := by
  obtain ⟨pf, cf, ef, of⟩ := h.fst.own
  obtain ⟨pc, cc, ec, oc⟩ := h.cnt.own
  obtain rfl : p1 = pf := by simp at ef; exact ef.1
  obtain rfl : p2 = pc := by simp at ec; exact ec.1
  obtain ⟨b1, o1, e1, l1, y1⟩ := of.ints k (by rw [firstL_len]; exact hk)
  obtain ⟨b2, o2, e2, l2, y2⟩ := oc.ints k hk
  rw [firstL_at hk] at y1
  exact ⟨b1, o1, b2, o2, e1, e2, l1, l2, y1, y2⟩
theorem JS.at2 {w : World} {g3 B4 b1 o1 b2 o2 : Nat} {box : Array Value} {c1 c2 : Nat} {L : List Int} {wr : World} {v : Value} {s : ByteArray} (h : JS w g3 B4 box (some ⟨b1, o1, none⟩) (some ⟨b2, o2, none⟩) c1 c2 L wr v s) {k : Nat} (hk : k < L.length) :
    b1 < wr.heap.size ∧ b2 < wr.heap.size ∧ wr.cell? ⟨b1, o1 + k, none⟩ = some (.int .i64 (sumN L k)) ∧ wr.cell? ⟨b2, o2 + k, none⟩ = some (.int .i64 (L.getD k 0)) := by
  obtain ⟨b1', o1', b2', o2', e1, e2, h1⟩ := h.at hk
  simp only [Option.some.injEq, Addr.mk.injEq, and_true] at e1 e2
  obtain ⟨rfl, rfl⟩ := e1
  obtain ⟨rfl, rfl⟩ := e2
  exact h1
set_option maxHeartbeats 3200000 in
set_option maxRecDepth 100000 in
theorem l30Job_c (R C b o cap : Nat) (xs : List Int) (w : World) (hx : IntsAt w (some ⟨b, o, none⟩) xs) (hok : okJ R C xs) (hcap : xs.length ≤ cap) :
    Calls Tryz.prog 35 #[vGrid R C (some ⟨b, o, none⟩) xs.length cap] w fun e w' => e = .returned (.string (jobT R C xs)) ∧ Ext w w' := by
  have HX := Lib.hid hx; clear hx
  have hR4 := hok.rle
  have hC4 := hok.cle
  have hL := bandsTo_ok C xs R
  have hLb := bandsTo_bd C xs R
  have hhs := head_size hR4 hC4
  have d1 := Lib.hid (fun W => sDec_c R W (by omega))
  have d2 := Lib.hid (fun W => sDec_c C W (by omega))
  have hbd := Lib.hid (fun W (h : IntsAt W (some ⟨b, o, none⟩) xs) => sBands2_c R C b o cap xs W h hok.len hok.c1 hcap hok.le)
  have hhd : pgB ++ dec R ++ spB ++ dec C ++ nlB = headT R C ++ nlB := by
    unfold headT
    apply ByteArray.ext
    simp
  have s1 : (dec R).size ≤ 6 := by rw [dec_size, Lib.itoa_nonneg]; exact dec_len 5 R (by omega)
  have s2 : (dec C).size ≤ 6 := by rw [dec_size, Lib.itoa_nonneg]; exact dec_len 5 C (by omega)
  have hjt : jobT R C xs = headT R C ++ nlB ++ bdT C xs (bandsTo C xs R) (bandsTo C xs R).length ++ enB := rfl
  have hst := Lib.hid (fun i (h : i < (bandsTo C xs R).length) => (show bdT C xs (bandsTo C xs R) (i + 1) = bdT C xs (bandsTo C xs R) i ++ bandT ((bandsTo C xs R).getD i 0) (rowL C xs (sumN (bandsTo C xs R) i)) ++ nlB from rfl))
  have hsz := Lib.hid (fun i (h : i ≤ (bandsTo C xs R).length) => bdT_bd hok hL h)
  have hrl := Lib.hid (fun k (hk : k < R) => rowL_len hok.len hk)
  have hra := Lib.hid (fun k (hk : k < R) W (h : IntsAt W (some ⟨b, o, none⟩) xs) => rowL_at hok.len hk h)
  have hrz := Lib.hid (fun k => rowL_z1 (C := C) hok.known k)
  have hlen := Lib.hid hok.len
  have hRC := hok.le
  have hC1 := hok.c1
  generalize bandsTo C xs R = L at *
  replace hjt := Lib.hid hjt
  have hbox := Blk.new w #[.int .i64 R, .int .i64 C, .slice (some ⟨b, o, none⟩) xs.length cap] 30
  have hx0 : Ext w (w.alloc (.cells #[.int .i64 R, .int .i64 C, .slice (some ⟨b, o, none⟩) xs.length cap] 30)) := (Ext.refl w).alloc _
  have sp1 : (⟨#[112, 97, 103, 101, 32]⟩ : ByteArray).size = 5 := rfl
  have sp2 : (⟨#[32]⟩ : ByteArray).size = 1 := rfl
  have sp3 : (⟨#[10]⟩ : ByteArray).size = 1 := rfl
  generalize hH : headT R C ++ nlB = H at *
  generalize dec (R : Int) = D1 at *
  generalize dec (C : Int) = D2 at *
  have hcv : ∀ W (s : ByteArray), (convert 9 22 (.string s)).run Tryz.prog W = .ok (.slice (some ⟨W.heap.size, 0, none⟩) s.size (grownCap W s.size 0 5)) (Lib.bytesWorld W 5 s) := fun W s => Lib.run_convert_string_bytes W _ _ _ s (u := .string) (by kernel_rfl) (by kernel_rfl) (by kernel_rfl)
  have hhd : (⟨#[112, 97, 103, 101, 32]⟩ : ByteArray) ++ D1 ++ ⟨#[32]⟩ ++ D2 ++ ⟨#[10]⟩ = H := hhd
  replace hhd := Lib.hid hhd; replace hH := Lib.hid hH
  have n1 : ¬ 9223372036854775807 < 5 + D1.size := by omega
  have n2 : ¬ 9223372036854775807 < 5 + D1.size + 1 := by omega
  have n3 : ¬ 9223372036854775807 < 5 + D1.size + 1 + D2.size := by omega
  have n4 : ¬ 9223372036854775807 < 5 + D1.size + 1 + D2.size + 1 := by omega
  go_enter Tryz.func35, Tryz.ntmps35
  go_upto_region 1 with (fail)
  generalize w.alloc (.cells #[.int .i64 R, .int .i64 C, .slice (some ⟨b, o, none⟩) xs.length cap] 30) = w1 at *
  have q0 := hbox.cell (i := 0) (v := .int .i64 R) rfl; have q1 := hbox.cell (i := 1) (v := .int .i64 C) rfl; have ql := hbox.lt
  have hrg := Lib.hid (fun W => RowG.made (w := W) (s := H) (by omega))
  refine wp_region_c3 (fun w' => Ext w1 w') (.st 0 (.st 1 (.st 5 (.st 6 (.one 2 (.st 3 (.st 4 (.one 7 (.st 8 (.st 9 (.one 10 (.st 11 .done)))))))))))) (by kernel_rfl) (by kernel_rfl) (by decide) (by kernel_rfl) ?_ ?_
  · exact (by repeat (first | with_reducible exact Ext.refl _ | with_reducible assumption | with_reducible refine Ext.drew ?_ | with_reducible refine Ext.drewN ?_ _ | with_reducible refine Ext.alloc ?_ _ | with_reducible refine Ext.setCell ?_ (by first | exact Nat.le_refl _ | exact Nat.le_succ _ | (simp <;> omega)) _ | with_reducible refine Ext.trans2 (by with_reducible assumption) ?_))
  refine c3_intro fun ops eo => ?_
  have ho0 := canon_at eo 0 rfl
  have ho1 := canon_at eo 1 rfl
  have ho2 := canon_at eo 2 rfl
  have ho3 := canon_at eo 3 rfl
  have ho4 := canon_at eo 4 rfl
  have ho5 := canon_at eo 5 rfl
  have ho6 := canon_at eo 6 rfl
  have ho7 := canon_at eo 7 rfl
  have ho8 := canon_at eo 8 rfl
  have ho9 := canon_at eo 9 rfl
  have ho10 := canon_at eo 10 rfl
  have ho11 := canon_at eo 11 rfl
  clear eo
  all_goals (apply c3_st ho0 rfl; (intro w2 hS; first | (go_simp; first | done | rfl) | rfl | (obtain ⟨hc', hf', hk', hz⟩ := ecell hS; go_simp; first | done | rfl)); simp only [Act.put, List.setIfInBounds_toArray, List.set_cons_zero, List.set_cons_succ])
  all_goals clear ho0
  all_goals (apply c3_st ho1 rfl; (intro w2 hS; first | (go_simp; first | done | rfl) | rfl | (obtain ⟨hc', hf', hk', hz⟩ := ecell hS; go_simp; first | done | rfl)); simp only [Act.put, List.setIfInBounds_toArray, List.set_cons_zero, List.set_cons_succ])
  all_goals clear ho1
  all_goals (apply c3_st ho5 rfl; (intro w2 hS; first | (go_simp; first | done | rfl) | rfl | (obtain ⟨hc', hf', hk', hz⟩ := ecell hS; go_simp; first | done | rfl)); simp only [Act.put, List.setIfInBounds_toArray, List.set_cons_zero, List.set_cons_succ])
  all_goals clear ho5
  all_goals (apply c3_st ho6 rfl; (intro w2 hS; first | (go_simp; first | done | rfl) | rfl | (obtain ⟨hc', hf', hk', hz⟩ := ecell hS; go_simp; first | done | rfl)); simp only [Act.put, List.setIfInBounds_toArray, List.set_cons_zero, List.set_cons_succ])
  all_goals clear ho6
  all_goals refine c3_one ?_
  all_goals first | (refine c3_op ho2 rfl (fun K hK => ?_); go_simp; ((go_at_call 55; (with_reducible refine (d1.out _).mono ?_); rintro e w2 ⟨rfl, hx2⟩)); all_goals ((with_reducible refine hK _ _ ?_); refine ⟨(by repeat (first | with_reducible exact Ext.refl _ | with_reducible assumption | with_reducible refine Ext.drew ?_ | with_reducible refine Ext.drewN ?_ _ | with_reducible refine Ext.alloc ?_ _ | with_reducible refine Ext.setCell ?_ (by first | exact Nat.le_refl _ | exact Nat.le_succ _ | (simp <;> omega)) _ | with_reducible refine Ext.trans2 (by with_reducible assumption) ?_)), ?_⟩; clear hK K; go_simp))
  all_goals clear ho2
  all_goals (apply c3_st ho3 rfl; (intro w2 hS; first | (go_simp; first | done | rfl) | rfl | (obtain ⟨hc', hf', hk', hz⟩ := ecell hS; go_simp; first | done | rfl)); simp only [Act.put, List.setIfInBounds_toArray, List.set_cons_zero, List.set_cons_succ])
  all_goals clear ho3
  all_goals (apply c3_st ho4 rfl; (intro w2 hS; first | (go_simp; first | done | rfl) | rfl | (obtain ⟨hc', hf', hk', hz⟩ := ecell hS; go_simp; first | done | rfl)); simp only [Act.put, List.setIfInBounds_toArray, List.set_cons_zero, List.set_cons_succ])
  all_goals clear ho4
  all_goals refine c3_one ?_
  all_goals first | (refine c3_op ho7 rfl (fun K hK => ?_); go_simp; ((go_at_call 55; (with_reducible refine (d2.out _).mono ?_); rintro e w3 ⟨rfl, hx3⟩)); all_goals ((with_reducible refine hK _ _ ?_); refine ⟨(by repeat (first | with_reducible exact Ext.refl _ | with_reducible assumption | with_reducible refine Ext.drew ?_ | with_reducible refine Ext.drewN ?_ _ | with_reducible refine Ext.alloc ?_ _ | with_reducible refine Ext.setCell ?_ (by first | exact Nat.le_refl _ | exact Nat.le_succ _ | (simp <;> omega)) _ | with_reducible refine Ext.trans2 (by with_reducible assumption) ?_)), ?_⟩; clear hK K; go_simp))
  all_goals clear ho7
  all_goals (apply c3_st ho8 rfl; (intro w2 hS; first | (go_simp; first | done | rfl) | rfl | (obtain ⟨hc', hf', hk', hz⟩ := ecell hS; go_simp; first | done | rfl)); simp only [Act.put, List.setIfInBounds_toArray, List.set_cons_zero, List.set_cons_succ])
  all_goals clear ho8
  all_goals (apply c3_st ho9 rfl; (intro w2 hS; first | (go_simp; first | done | rfl) | rfl | (obtain ⟨hc', hf', hk', hz⟩ := ecell hS; go_simp; first | done | rfl)); simp only [Act.put, List.setIfInBounds_toArray, List.set_cons_zero, List.set_cons_succ])
  all_goals clear ho9
  all_goals refine c3_one ?_
  all_goals first | (refine c3_op ho10 rfl (fun K hK => ?_); go_simp; ((rw [hhd.out]; have hx4 : Ext w3 (Lib.bytesWorld w3 5 H) := Lib.bytesWorld_below w3 5 H; have hrow := hrg.out w3; generalize Lib.bytesWorld w3 5 H = w4 at hx4 hrow ⊢)); all_goals ((with_reducible refine hK _ _ ?_); refine ⟨(by repeat (first | with_reducible exact Ext.refl _ | with_reducible assumption | with_reducible refine Ext.drew ?_ | with_reducible refine Ext.drewN ?_ _ | with_reducible refine Ext.alloc ?_ _ | with_reducible refine Ext.setCell ?_ (by first | exact Nat.le_refl _ | exact Nat.le_succ _ | (simp <;> omega)) _ | with_reducible refine Ext.trans2 (by with_reducible assumption) ?_)), ?_⟩; clear hK K; go_simp))
  all_goals clear ho10
  all_goals (apply c3_st ho11 rfl; (intro w2 hS; first | (go_simp; first | done | rfl) | rfl | (obtain ⟨hc', hf', hk', hz⟩ := ecell hS; go_simp; first | done | rfl)); simp only [Act.put, List.setIfInBounds_toArray, List.set_cons_zero, List.set_cons_succ])
  all_goals clear ho11
  all_goals refine c3_done (NoPanic.normal ?_)
  have hHs : 5 + D1.size + 1 + D2.size + 1 = H.size := by
    rw [← hhd.out]
    simp only [ByteArray.size_append, sp1, sp2, sp3]
  rw [hHs]
  have hx14 : Ext w1 w4 := (((Ext.refl w1).drew.trans hx2).trans hx3).trans hx4
  have hz13 := (((Ext.refl w1).drew.trans hx2).trans hx3).below.size
  have hz34 := hx4.below.size
  have hb4 := hbox.ext hx14
  have hx04 := hx0.trans hx14
  have hrw := hrow.lt w3.heap.size rfl
  have hz01 := hx0.below.size
  clear hx2 hx3 hx4 hx14 q0 q1 ql hrg hcv hbox hx0 d2 n1 n2 n3 n4 hhd
  have q0 := hb4.cell (i := 0) (v := .int .i64 R) rfl; have q1 := hb4.cell (i := 1) (v := .int .i64 C) rfl; have q2 := hb4.cell (i := 2) (v := .slice (some ⟨b, o, none⟩) xs.length cap) rfl; have ql := hb4.lt
  generalize grownCap w3 H.size 0 5 = gc at *
  generalize w3.heap.size = g3 at *
  clear hHs
  go_upto_region 3 with (go_at_call 56; (with_reducible refine (hbd.out _ (HX.out.ext hx04)).mono ?_); rintro e w5 ⟨⟨v1, v2, rfl, hr1, hr2⟩, hx5⟩)
  obtain ⟨p1, c1, e1, -⟩ := hr1.ownC
  subst e1
  obtain ⟨p2, c2, e2, -⟩ := hr2.ownC
  subst e2
  rw [firstL_len] at hr1 ⊢
  have hJ5 : JS w g3 w4.heap.size #[.int .i64 R, .int .i64 C, .slice (some ⟨b, o, none⟩) xs.length cap] p1 p2 c1 c2 L w5 (.slice (some ⟨g3, 0, none⟩) H.size gc) H := ⟨hrow.ext hx5, hr1, hr2, hb4.ext hx5, hx04.trans hx5⟩
  have hg3w : w.heap.size ≤ g3 := by omega
  clear hr1 hr2 hrow hx5 q0 q1 q2 ql hb4 hx04 hrw hbd
  generalize w4.heap.size = B4 at *
  go_upto_region 4 with (fail)
  go_loopw [3, 6] (fun v i wr => ∃ k : Nat, k ≤ L.length ∧ i = .int .i64 k ∧ JS w g3 B4 #[.int .i64 R, .int .i64 C, .slice (some ⟨b, o, none⟩) xs.length cap] p1 p2 c1 c2 L wr v (H ++ bdT C xs L k)) (fun _ i _ => L.length - (intOf i).toNat)
  case atStart => exact ⟨0, Nat.zero_le _, rfl, by rw [show H ++ bdT C xs L 0 = H by unfold bdT; apply ByteArray.ext; simp]; exact hJ5⟩
  case round =>
    obtain ⟨k, hk, rfl, hJr⟩ := hrel
    have hq := hJr.blk
    have q0 := hq.cell (i := 0) (v := .int .i64 R) rfl; have q1 := hq.cell (i := 1) (v := .int .i64 C) rfl; have q2 := hq.cell (i := 2) (v := .slice (some ⟨b, o, none⟩) xs.length cap) rfl; have ql := hq.lt
    by_cases hlt : k < L.length
    · obtain ⟨b1, o1, b2, o2, rfl, rfl, l1, l2, y1, y2⟩ := hJr.at hlt
      have hx1 := at_all (P := fun x => 1 ≤ x) hlt hL.pos
      have hxR := at_all (P := fun x => 1 ≤ x ∧ x ≤ R) hlt hLb.2.2
      obtain ⟨n, hn⟩ : ∃ n : Nat, L.getD k 0 = n := ⟨(L.getD k 0).toNat, by omega⟩
      have hss := sumN_succ hlt
      have hsm := sumN_mono L (show k + 1 ≤ L.length from hlt)
      rw [hL.sum] at hsm
      rw [hn] at y2 hx1 hxR hss
      rw [Int.toNat_natCast] at hss
      have hF : Hid (∀ w', JE w g3 B4 #[.int .i64 R, .int .i64 C, .slice (some ⟨b, o, none⟩) xs.length cap] (some ⟨b1, o1, none⟩) (some ⟨b2, o2, none⟩) c1 c2 L w' → b1 < w'.heap.size ∧ b2 < w'.heap.size ∧ w'.cell? ⟨b1, o1 + k, none⟩ = some (.int .i64 (sumN L k)) ∧ w'.cell? ⟨b2, o2 + k, none⟩ = some (.int .i64 n) ∧ w'.cell? ⟨w.heap.size, 0, none⟩ = some (.int .i64 R) ∧ w'.cell? ⟨w.heap.size, 1, none⟩ = some (.int .i64 C) ∧ w'.cell? ⟨w.heap.size, 2, none⟩ = some (.slice (some ⟨b, o, none⟩) xs.length cap) ∧ w.heap.size < w'.heap.size) := Lib.hid fun w' ⟨v, s, h⟩ => by
        obtain ⟨a1, a2, a3, a4⟩ := h.at2 hlt
        rw [hn] at a4
        exact ⟨a1, a2, a3, a4, h.blk.cell rfl, h.blk.cell rfl, h.blk.cell rfl, h.blk.lt⟩
      have hbs := hst.out k hlt
      have hbz := hsz.out k hk
      rw [hn] at hbs
      generalize bdT C xs L k = BK at *
      generalize hS : sumN L k = S at *
      have hSR : S < R := by omega
      have hrl1 := hrl.out S hSR
      have hrl2 : (rowL C xs S).length ≤ 40000 := by rw [hrl1]; exact hC4
      have hrw0 := fun W (h : IntsAt W (some ⟨b, o, none⟩) xs) => l30Row_c (some ⟨b, o + S * C, none⟩) (cap - S * C) (rowL C xs S) W (hra.out S hSR W h) (hrz.out S) hrl2
      have hrz1 := rowR_size (rowL C xs S) C hC4
      rw [hrl1] at hrw0
      have hbT : bandT (n : Int) (rowL C xs S) = (if 1 < (n : Int) then dec n ++ xB else ByteArray.empty) ++ rowR (rowL C xs S) C := by unfold bandT; rw [hrl1]
      rw [hbT] at hbs
      generalize rowR (rowL C xs S) C = RW at *
      have hle : (S + 1) * C ≤ R * C := Nat.mul_le_mul_right _ (by omega)
      obtain ⟨K1, hK1⟩ : ∃ K1 : Nat, S * C = K1 := ⟨_, rfl⟩
      rw [Nat.add_mul, Nat.one_mul, hK1] at hle
      rw [hK1] at hrw0
      have e1 : (S : Int) * (C : Int) = (K1 : Int) := by rw [← hK1]; simp
      have e2 : ((S : Int) + 1) * (C : Int) = ((K1 + C : Nat) : Int) := by rw [Int.add_mul, e1]; omega
      have hsl : ∀ W, (Instr.slice 28 (.slice (some ⟨b, o, none⟩) xs.length cap) (some (.int .i64 (K1 : Int))) (some (.int .i64 ((K1 + C : Nat) : Int))) none).run Tryz.prog W = .ok (.slice (some ⟨b, o + K1, none⟩) C (cap - K1)) W := fun W => by
        have := Lib.run_slice_window (P := Tryz.prog) W 28 2 Tryz.underlying28 (fun w => by kernel_rfl) b o xs.length cap K1 (K1 + C) (by have := hlen.out; omega) (by have := hlen.out; omega)
        rwa [show K1 + C - K1 = C by omega] at this
      have e5 := IntWalk.i64_in ((S : Int) + 1) (by omega)
      have e3 := IntWalk.i64_in (K1 : Int) (by omega)
      have e4 := IntWalk.i64_in (((K1 + C : Nat)) : Int) (by omega)
      obtain ⟨Z, hZ⟩ : ∃ Z : Nat, K1 + C = Z := ⟨_, rfl⟩
      rw [hZ] at e2 e4 hsl
      have hrw := Lib.hid hrw0
      have hdn : (dec (n : Int)).size ≤ 6 := by rw [dec_size, Lib.itoa_nonneg]; exact dec_len 5 n (by omega)
      have hdd := Lib.hid (fun W => sDec_c n W (by omega))
      have hgl := hJr.gle
      have hkL : (k : Int) < L.length := by omega
      clear hrw0 hbT hrl1 hrl2 hJ5
      replace hK1 := Lib.hid hK1; replace hZ := Lib.hid hZ; replace hS := Lib.hid hS; replace hss := Lib.hid hss; replace hn := Lib.hid hn
      have sx1 : xB.size = 1 := rfl
      by_cases hn1 : (1 : Int) < n
      · rw [if_pos hn1] at hbs
        obtain ⟨HB, hHB⟩ : ∃ HB, H ++ BK = HB := ⟨_, rfl⟩
        have hHz : HB.size ≤ 600020 := by rw [← hHB, ByteArray.size_append]; omega
        have hnext : Hid (H ++ bdT C xs L (k + 1) = HB ++ dec n ++ ⟨#[120]⟩ ++ RW ++ ⟨#[10]⟩) := Lib.hid (by
          rw [hbs, ← hHB]
          apply ByteArray.ext
          simp [xB, nlB])
        rw [hHB] at hJr
        replace hHB := Lib.hid hHB
        clear hbs
        generalize dec (n : Int) = DN at *
        go_upto_region 8 with (first
          | (go_at_call 55; (with_reducible refine (hdd.out _).mono ?_); rintro e wa ⟨rfl, hxa⟩; have hJa := hJr.to hxa; have hgla := hJa.gle)
          | (at_builtin; go_loud (refine appendSG hJa.row (by omega) (by omega) ?_ rfl rfl); intro v2 wb hrowb hgb; have hJb := hJa.app hrowb hgb hg3w; have hglb := hJb.gle))
        go_upto_region 9 with (at_builtin; go_loud (refine append1G (n := 120) hJb.row (by rw [ByteArray.size_append]; omega) (by omega) rfl ?_ rfl rfl); intro v3 wc hrowc hgc; have hJ := (hJb.to ((Ext.refl wb).alloc _)).app hrowc hgc hg3w)
        have hsx : (HB ++ DN ++ ⟨#[120]⟩).size ≤ 700000 := by simp only [ByteArray.size_append]; show _ + _ + 1 ≤ _; omega
        have hzJ := hJ.ext.below.size
        go_upto_region 9 with (fail)
        have hPS : JE w g3 B4 #[.int .i64 R, .int .i64 C, .slice (some ⟨b, o, none⟩) xs.length cap] (some ⟨b1, o1, none⟩) (some ⟨b2, o2, none⟩) c1 c2 L wc.drew := ⟨_, _, hJ.to (Ext.refl wc).drew⟩
        have hxw : Ext w wc.drew := hJ.ext.drew
        have hJ0 := hJ.to (Ext.refl wc).drew
        clear q0 q1 q2 ql l1 l2 y1 y2
        refine wp_region_canon (fun w' => JE w g3 B4 #[.int .i64 R, .int .i64 C, .slice (some ⟨b, o, none⟩) xs.length cap] (some ⟨b1, o1, none⟩) (some ⟨b2, o2, none⟩) c1 c2 L w') [(0, true), (1, true), (2, true), (3, true), (4, true), (5, true), (6, true), (7, true), (8, true), (9, true), (10, true), (11, true), (12, true), (13, true), (14, true), (15, true), (16, true), (17, true), (18, true), (19, false), (20, false), (21, true)] (by kernel_rfl) (by kernel_rfl) (by decide) (by kernel_rfl) ?_ ?_
        · exact hPS
        refine canon_intro fun ops eo => ?_
        have ho0 := canon_at eo 0 rfl
        have ho1 := canon_at eo 1 rfl
        have ho2 := canon_at eo 2 rfl
        have ho3 := canon_at eo 3 rfl
        have ho4 := canon_at eo 4 rfl
        have ho5 := canon_at eo 5 rfl
        have ho6 := canon_at eo 6 rfl
        have ho7 := canon_at eo 7 rfl
        have ho8 := canon_at eo 8 rfl
        have ho9 := canon_at eo 9 rfl
        have ho10 := canon_at eo 10 rfl
        have ho11 := canon_at eo 11 rfl
        have ho12 := canon_at eo 12 rfl
        have ho13 := canon_at eo 13 rfl
        have ho14 := canon_at eo 14 rfl
        have ho15 := canon_at eo 15 rfl
        have ho16 := canon_at eo 16 rfl
        have ho17 := canon_at eo 17 rfl
        have ho18 := canon_at eo 18 rfl
        have ho19 := canon_at eo 19 rfl
        have ho20 := canon_at eo 20 rfl
        have ho21 := canon_at eo 21 rfl
        clear eo
        all_goals (apply canon_st ho0 rfl; (intro w2 hS; first | (go_simp; first | done | rfl) | rfl | (obtain ⟨z0, z1, z2, z3, z4, z5, z6, z7⟩ := hF.out _ hS; go_simp; first | done | rfl)); simp only [Act.put, List.setIfInBounds_toArray, List.set_cons_zero, List.set_cons_succ])
        all_goals clear ho0
        all_goals (apply canon_st ho1 rfl; (intro w2 hS; first | (go_simp; first | done | rfl) | rfl | (obtain ⟨z0, z1, z2, z3, z4, z5, z6, z7⟩ := hF.out _ hS; go_simp; first | done | rfl)); simp only [Act.put, List.setIfInBounds_toArray, List.set_cons_zero, List.set_cons_succ])
        all_goals clear ho1
        all_goals (apply canon_st ho2 rfl; (intro w2 hS; first | (go_simp; first | done | rfl) | rfl | (obtain ⟨z0, z1, z2, z3, z4, z5, z6, z7⟩ := hF.out _ hS; go_simp; first | done | rfl)); simp only [Act.put, List.setIfInBounds_toArray, List.set_cons_zero, List.set_cons_succ])
        all_goals clear ho2
        all_goals (apply canon_st ho3 rfl; (intro w2 hS; first | (go_simp; first | done | rfl) | rfl | (obtain ⟨z0, z1, z2, z3, z4, z5, z6, z7⟩ := hF.out _ hS; go_simp; first | done | rfl)); simp only [Act.put, List.setIfInBounds_toArray, List.set_cons_zero, List.set_cons_succ])
        all_goals clear ho3
        all_goals (apply canon_st ho4 rfl; (intro w2 hS; first | (go_simp; first | done | rfl) | rfl | (obtain ⟨z0, z1, z2, z3, z4, z5, z6, z7⟩ := hF.out _ hS; go_simp; first | done | rfl)); simp only [Act.put, List.setIfInBounds_toArray, List.set_cons_zero, List.set_cons_succ])
        all_goals clear ho4
        all_goals (apply canon_st ho5 rfl; (intro w2 hS; first | (go_simp; first | done | rfl) | rfl | (obtain ⟨z0, z1, z2, z3, z4, z5, z6, z7⟩ := hF.out _ hS; go_simp; first | done | rfl)); simp only [Act.put, List.setIfInBounds_toArray, List.set_cons_zero, List.set_cons_succ])
        all_goals clear ho5
        all_goals (apply canon_st ho6 rfl; (intro w2 hS; first | (go_simp; first | done | rfl) | rfl | (obtain ⟨z0, z1, z2, z3, z4, z5, z6, z7⟩ := hF.out _ hS; go_simp; first | done | rfl)); simp only [Act.put, List.setIfInBounds_toArray, List.set_cons_zero, List.set_cons_succ])
        all_goals clear ho6
        all_goals (apply canon_st ho7 rfl; (intro w2 hS; first | (go_simp; first | done | rfl) | rfl | (obtain ⟨z0, z1, z2, z3, z4, z5, z6, z7⟩ := hF.out _ hS; go_simp; first | done | rfl)); simp only [Act.put, List.setIfInBounds_toArray, List.set_cons_zero, List.set_cons_succ])
        all_goals clear ho7
        all_goals (apply canon_st ho8 rfl; (intro w2 hS; first | (go_simp; first | done | rfl) | rfl | (obtain ⟨z0, z1, z2, z3, z4, z5, z6, z7⟩ := hF.out _ hS; go_simp; first | done | rfl)); simp only [Act.put, List.setIfInBounds_toArray, List.set_cons_zero, List.set_cons_succ])
        all_goals clear ho8
        all_goals (apply canon_st ho9 rfl; (intro w2 hS; first | (go_simp; first | done | rfl) | rfl | (obtain ⟨z0, z1, z2, z3, z4, z5, z6, z7⟩ := hF.out _ hS; go_simp; first | done | rfl)); simp only [Act.put, List.setIfInBounds_toArray, List.set_cons_zero, List.set_cons_succ])
        all_goals clear ho9
        all_goals (apply canon_st ho10 rfl; (intro w2 hS; first | (go_simp; first | done | rfl) | rfl | (obtain ⟨z0, z1, z2, z3, z4, z5, z6, z7⟩ := hF.out _ hS; go_simp; first | done | rfl)); simp only [Act.put, List.setIfInBounds_toArray, List.set_cons_zero, List.set_cons_succ])
        all_goals clear ho10
        all_goals (apply canon_st ho11 rfl; (intro w2 hS; first | (go_simp; first | done | rfl) | rfl | (obtain ⟨z0, z1, z2, z3, z4, z5, z6, z7⟩ := hF.out _ hS; go_simp; first | done | rfl)); simp only [Act.put, List.setIfInBounds_toArray, List.set_cons_zero, List.set_cons_succ])
        all_goals clear ho11
        all_goals (apply canon_st ho12 rfl; (intro w2 hS; first | (go_simp; first | done | rfl) | rfl | (obtain ⟨z0, z1, z2, z3, z4, z5, z6, z7⟩ := hF.out _ hS; go_simp; first | done | rfl)); simp only [Act.put, List.setIfInBounds_toArray, List.set_cons_zero, List.set_cons_succ])
        all_goals clear ho12
        all_goals (apply canon_st ho13 rfl; (intro w2 hS; first | (go_simp; first | done | rfl) | rfl | (obtain ⟨z0, z1, z2, z3, z4, z5, z6, z7⟩ := hF.out _ hS; go_simp; first | done | rfl)); simp only [Act.put, List.setIfInBounds_toArray, List.set_cons_zero, List.set_cons_succ])
        all_goals clear ho13
        all_goals (apply canon_st ho14 rfl; (intro w2 hS; first | (go_simp; first | done | rfl) | rfl | (obtain ⟨z0, z1, z2, z3, z4, z5, z6, z7⟩ := hF.out _ hS; go_simp; first | done | rfl)); simp only [Act.put, List.setIfInBounds_toArray, List.set_cons_zero, List.set_cons_succ])
        all_goals clear ho14
        all_goals (apply canon_st ho15 rfl; (intro w2 hS; first | (go_simp; first | done | rfl) | rfl | (obtain ⟨z0, z1, z2, z3, z4, z5, z6, z7⟩ := hF.out _ hS; go_simp; first | done | rfl)); simp only [Act.put, List.setIfInBounds_toArray, List.set_cons_zero, List.set_cons_succ])
        all_goals clear ho15
        all_goals (apply canon_st ho16 rfl; (intro w2 hS; first | (go_simp; first | done | rfl) | rfl | (obtain ⟨z0, z1, z2, z3, z4, z5, z6, z7⟩ := hF.out _ hS; go_simp; first | done | rfl)); simp only [Act.put, List.setIfInBounds_toArray, List.set_cons_zero, List.set_cons_succ])
        all_goals clear ho16
        all_goals (apply canon_st ho17 rfl; (intro w2 hS; first | (go_simp; first | done | rfl) | rfl | (obtain ⟨z0, z1, z2, z3, z4, z5, z6, z7⟩ := hF.out _ hS; go_simp; first | done | rfl)); simp only [Act.put, List.setIfInBounds_toArray, List.set_cons_zero, List.set_cons_succ])
        all_goals clear ho17
        all_goals (apply canon_st ho18 rfl; (intro w2 hS; first | (go_simp; first | done | rfl) | rfl | (obtain ⟨z0, z1, z2, z3, z4, z5, z6, z7⟩ := hF.out _ hS; go_simp; first | done | rfl)); simp only [Act.put, List.setIfInBounds_toArray, List.set_cons_zero, List.set_cons_succ])
        all_goals clear ho18
        all_goals first | (refine canon_ef ho19 rfl (fun K hK => ?_); go_simp; ((go_at_call 57; (with_reducible refine (hrw.out _ (HX.out.ext hxw)).mono ?_); rintro e wd ⟨rfl, hxd⟩; have hJd := hJ0.to hxd; have hJP : JE w g3 B4 #[.int .i64 R, .int .i64 C, .slice (some ⟨b, o, none⟩) xs.length cap] (some ⟨b1, o1, none⟩) (some ⟨b2, o2, none⟩) c1 c2 L wd := ⟨_, _, hJd⟩)); all_goals (refine hK _ _ ⟨(by first | assumption), ?_⟩; clear hK K; go_simp)) | (refine canon_ef ho19 rfl (fun K hK => ?_); (refine appendSG_op hJd.row (by omega) hJd.gle ?_ rfl rfl; intro v4 w4 hrow4 hg4; have hJ4 := hJd.app hrow4 hg4 hg3w; have hJP2 : JE w g3 B4 #[.int .i64 R, .int .i64 C, .slice (some ⟨b, o, none⟩) xs.length cap] (some ⟨b1, o1, none⟩) (some ⟨b2, o2, none⟩) c1 c2 L w4 := ⟨_, _, hJ4⟩); all_goals (refine hK _ _ ⟨(by first | assumption), ?_⟩; clear hK K; go_simp))
        all_goals clear ho19
        all_goals first | (refine canon_ef ho20 rfl (fun K hK => ?_); go_simp; ((go_at_call 57; (with_reducible refine (hrw.out _ (HX.out.ext hxw)).mono ?_); rintro e wd ⟨rfl, hxd⟩; have hJd := hJ0.to hxd; have hJP : JE w g3 B4 #[.int .i64 R, .int .i64 C, .slice (some ⟨b, o, none⟩) xs.length cap] (some ⟨b1, o1, none⟩) (some ⟨b2, o2, none⟩) c1 c2 L wd := ⟨_, _, hJd⟩)); all_goals (refine hK _ _ ⟨(by first | assumption), ?_⟩; clear hK K; go_simp)) | (refine canon_ef ho20 rfl (fun K hK => ?_); (refine appendSG_op hJd.row (by omega) hJd.gle ?_ rfl rfl; intro v4 w4 hrow4 hg4; have hJ4 := hJd.app hrow4 hg4 hg3w; have hJP2 : JE w g3 B4 #[.int .i64 R, .int .i64 C, .slice (some ⟨b, o, none⟩) xs.length cap] (some ⟨b1, o1, none⟩) (some ⟨b2, o2, none⟩) c1 c2 L w4 := ⟨_, _, hJ4⟩); all_goals (refine hK _ _ ⟨(by first | assumption), ?_⟩; clear hK K; go_simp))
        all_goals clear ho20
        all_goals (apply canon_st ho21 rfl; (intro w2 hS; first | (go_simp; first | done | rfl) | rfl | (obtain ⟨z0, z1, z2, z3, z4, z5, z6, z7⟩ := hF.out _ hS; go_simp; first | done | rfl)); simp only [Act.put, List.setIfInBounds_toArray, List.set_cons_zero, List.set_cons_succ])
        all_goals clear ho21
        all_goals refine canon_done (NoPanic.normal ?_)
        have hgl4 := hJ4.gle
        have hgs4 : (HB ++ DN ++ ⟨#[120]⟩ ++ RW).size ≤ 1000000 := by rw [ByteArray.size_append]; omega
        go_wp2_with (at_builtin; go_loud (refine append1G (n := 10) hJ4.row (by omega) (by omega) rfl ?_ rfl rfl); intro v5 w5 hrow5 hg5; have hJ5' := (hJ4.to ((Ext.refl w4).alloc _)).app hrow5 hg5 hg3w)
        go_roundw
        case rel => exact ⟨k + 1, hlt, by go_num, by rw [hnext.out]; exact hJ5'⟩
        case measure => simp [intOf]; omega
      · rw [if_neg hn1] at hbs
        obtain ⟨HB, hHB⟩ : ∃ HB, H ++ BK = HB := ⟨_, rfl⟩
        have hHz : HB.size ≤ 600020 := by rw [← hHB, ByteArray.size_append]; omega
        have hnext : Hid (H ++ bdT C xs L (k + 1) = HB ++ RW ++ ⟨#[10]⟩) := Lib.hid (by
          rw [hbs, ← hHB]
          apply ByteArray.ext
          simp [nlB])
        rw [hHB] at hJr
        replace hHB := Lib.hid hHB
        clear hbs
        have hJ := hJr
        obtain ⟨wc, hwc⟩ : ∃ wc, wr = wc := ⟨_, rfl⟩
        rw [hwc] at hJ
        subst hwc
        have hzJ := hJ.ext.below.size
        go_upto_region 9 with (fail)
        have hPS : JE w g3 B4 #[.int .i64 R, .int .i64 C, .slice (some ⟨b, o, none⟩) xs.length cap] (some ⟨b1, o1, none⟩) (some ⟨b2, o2, none⟩) c1 c2 L wr.drew := ⟨_, _, hJ.to (Ext.refl wr).drew⟩
        have hxw : Ext w wr.drew := hJ.ext.drew
        have hJ0 := hJ.to (Ext.refl wr).drew
        clear q0 q1 q2 ql l1 l2 y1 y2
        refine wp_region_canon (fun w' => JE w g3 B4 #[.int .i64 R, .int .i64 C, .slice (some ⟨b, o, none⟩) xs.length cap] (some ⟨b1, o1, none⟩) (some ⟨b2, o2, none⟩) c1 c2 L w') [(0, true), (1, true), (2, true), (3, true), (4, true), (5, true), (6, true), (7, true), (8, true), (9, true), (10, true), (11, true), (12, true), (13, true), (14, true), (15, true), (16, true), (17, true), (18, true), (19, false), (20, false), (21, true)] (by kernel_rfl) (by kernel_rfl) (by decide) (by kernel_rfl) ?_ ?_
        · exact hPS
        refine canon_intro fun ops eo => ?_
        have ho0 := canon_at eo 0 rfl
        have ho1 := canon_at eo 1 rfl
        have ho2 := canon_at eo 2 rfl
        have ho3 := canon_at eo 3 rfl
        have ho4 := canon_at eo 4 rfl
        have ho5 := canon_at eo 5 rfl
        have ho6 := canon_at eo 6 rfl
        have ho7 := canon_at eo 7 rfl
        have ho8 := canon_at eo 8 rfl
        have ho9 := canon_at eo 9 rfl
        have ho10 := canon_at eo 10 rfl
        have ho11 := canon_at eo 11 rfl
        have ho12 := canon_at eo 12 rfl
        have ho13 := canon_at eo 13 rfl
        have ho14 := canon_at eo 14 rfl
        have ho15 := canon_at eo 15 rfl
        have ho16 := canon_at eo 16 rfl
        have ho17 := canon_at eo 17 rfl
        have ho18 := canon_at eo 18 rfl
        have ho19 := canon_at eo 19 rfl
        have ho20 := canon_at eo 20 rfl
        have ho21 := canon_at eo 21 rfl
        clear eo
        all_goals (apply canon_st ho0 rfl; (intro w2 hS; first | (go_simp; first | done | rfl) | rfl | (obtain ⟨z0, z1, z2, z3, z4, z5, z6, z7⟩ := hF.out _ hS; go_simp; first | done | rfl)); simp only [Act.put, List.setIfInBounds_toArray, List.set_cons_zero, List.set_cons_succ])
        all_goals clear ho0
        all_goals (apply canon_st ho1 rfl; (intro w2 hS; first | (go_simp; first | done | rfl) | rfl | (obtain ⟨z0, z1, z2, z3, z4, z5, z6, z7⟩ := hF.out _ hS; go_simp; first | done | rfl)); simp only [Act.put, List.setIfInBounds_toArray, List.set_cons_zero, List.set_cons_succ])
        all_goals clear ho1
        all_goals (apply canon_st ho2 rfl; (intro w2 hS; first | (go_simp; first | done | rfl) | rfl | (obtain ⟨z0, z1, z2, z3, z4, z5, z6, z7⟩ := hF.out _ hS; go_simp; first | done | rfl)); simp only [Act.put, List.setIfInBounds_toArray, List.set_cons_zero, List.set_cons_succ])
        all_goals clear ho2
        all_goals (apply canon_st ho3 rfl; (intro w2 hS; first | (go_simp; first | done | rfl) | rfl | (obtain ⟨z0, z1, z2, z3, z4, z5, z6, z7⟩ := hF.out _ hS; go_simp; first | done | rfl)); simp only [Act.put, List.setIfInBounds_toArray, List.set_cons_zero, List.set_cons_succ])
        all_goals clear ho3
        all_goals (apply canon_st ho4 rfl; (intro w2 hS; first | (go_simp; first | done | rfl) | rfl | (obtain ⟨z0, z1, z2, z3, z4, z5, z6, z7⟩ := hF.out _ hS; go_simp; first | done | rfl)); simp only [Act.put, List.setIfInBounds_toArray, List.set_cons_zero, List.set_cons_succ])
        all_goals clear ho4
        all_goals (apply canon_st ho5 rfl; (intro w2 hS; first | (go_simp; first | done | rfl) | rfl | (obtain ⟨z0, z1, z2, z3, z4, z5, z6, z7⟩ := hF.out _ hS; go_simp; first | done | rfl)); simp only [Act.put, List.setIfInBounds_toArray, List.set_cons_zero, List.set_cons_succ])
        all_goals clear ho5
        all_goals (apply canon_st ho6 rfl; (intro w2 hS; first | (go_simp; first | done | rfl) | rfl | (obtain ⟨z0, z1, z2, z3, z4, z5, z6, z7⟩ := hF.out _ hS; go_simp; first | done | rfl)); simp only [Act.put, List.setIfInBounds_toArray, List.set_cons_zero, List.set_cons_succ])
        all_goals clear ho6
        all_goals (apply canon_st ho7 rfl; (intro w2 hS; first | (go_simp; first | done | rfl) | rfl | (obtain ⟨z0, z1, z2, z3, z4, z5, z6, z7⟩ := hF.out _ hS; go_simp; first | done | rfl)); simp only [Act.put, List.setIfInBounds_toArray, List.set_cons_zero, List.set_cons_succ])
        all_goals clear ho7
        all_goals (apply canon_st ho8 rfl; (intro w2 hS; first | (go_simp; first | done | rfl) | rfl | (obtain ⟨z0, z1, z2, z3, z4, z5, z6, z7⟩ := hF.out _ hS; go_simp; first | done | rfl)); simp only [Act.put, List.setIfInBounds_toArray, List.set_cons_zero, List.set_cons_succ])
        all_goals clear ho8
        all_goals (apply canon_st ho9 rfl; (intro w2 hS; first | (go_simp; first | done | rfl) | rfl | (obtain ⟨z0, z1, z2, z3, z4, z5, z6, z7⟩ := hF.out _ hS; go_simp; first | done | rfl)); simp only [Act.put, List.setIfInBounds_toArray, List.set_cons_zero, List.set_cons_succ])
        all_goals clear ho9
        all_goals (apply canon_st ho10 rfl; (intro w2 hS; first | (go_simp; first | done | rfl) | rfl | (obtain ⟨z0, z1, z2, z3, z4, z5, z6, z7⟩ := hF.out _ hS; go_simp; first | done | rfl)); simp only [Act.put, List.setIfInBounds_toArray, List.set_cons_zero, List.set_cons_succ])
        all_goals clear ho10
        all_goals (apply canon_st ho11 rfl; (intro w2 hS; first | (go_simp; first | done | rfl) | rfl | (obtain ⟨z0, z1, z2, z3, z4, z5, z6, z7⟩ := hF.out _ hS; go_simp; first | done | rfl)); simp only [Act.put, List.setIfInBounds_toArray, List.set_cons_zero, List.set_cons_succ])
        all_goals clear ho11
        all_goals (apply canon_st ho12 rfl; (intro w2 hS; first | (go_simp; first | done | rfl) | rfl | (obtain ⟨z0, z1, z2, z3, z4, z5, z6, z7⟩ := hF.out _ hS; go_simp; first | done | rfl)); simp only [Act.put, List.setIfInBounds_toArray, List.set_cons_zero, List.set_cons_succ])
        all_goals clear ho12
        all_goals (apply canon_st ho13 rfl; (intro w2 hS; first | (go_simp; first | done | rfl) | rfl | (obtain ⟨z0, z1, z2, z3, z4, z5, z6, z7⟩ := hF.out _ hS; go_simp; first | done | rfl)); simp only [Act.put, List.setIfInBounds_toArray, List.set_cons_zero, List.set_cons_succ])
        all_goals clear ho13
        all_goals (apply canon_st ho14 rfl; (intro w2 hS; first | (go_simp; first | done | rfl) | rfl | (obtain ⟨z0, z1, z2, z3, z4, z5, z6, z7⟩ := hF.out _ hS; go_simp; first | done | rfl)); simp only [Act.put, List.setIfInBounds_toArray, List.set_cons_zero, List.set_cons_succ])
        all_goals clear ho14
        all_goals (apply canon_st ho15 rfl; (intro w2 hS; first | (go_simp; first | done | rfl) | rfl | (obtain ⟨z0, z1, z2, z3, z4, z5, z6, z7⟩ := hF.out _ hS; go_simp; first | done | rfl)); simp only [Act.put, List.setIfInBounds_toArray, List.set_cons_zero, List.set_cons_succ])
        all_goals clear ho15
        all_goals (apply canon_st ho16 rfl; (intro w2 hS; first | (go_simp; first | done | rfl) | rfl | (obtain ⟨z0, z1, z2, z3, z4, z5, z6, z7⟩ := hF.out _ hS; go_simp; first | done | rfl)); simp only [Act.put, List.setIfInBounds_toArray, List.set_cons_zero, List.set_cons_succ])
        all_goals clear ho16
        all_goals (apply canon_st ho17 rfl; (intro w2 hS; first | (go_simp; first | done | rfl) | rfl | (obtain ⟨z0, z1, z2, z3, z4, z5, z6, z7⟩ := hF.out _ hS; go_simp; first | done | rfl)); simp only [Act.put, List.setIfInBounds_toArray, List.set_cons_zero, List.set_cons_succ])
        all_goals clear ho17
        all_goals (apply canon_st ho18 rfl; (intro w2 hS; first | (go_simp; first | done | rfl) | rfl | (obtain ⟨z0, z1, z2, z3, z4, z5, z6, z7⟩ := hF.out _ hS; go_simp; first | done | rfl)); simp only [Act.put, List.setIfInBounds_toArray, List.set_cons_zero, List.set_cons_succ])
        all_goals clear ho18
        all_goals first | (refine canon_ef ho19 rfl (fun K hK => ?_); go_simp; ((go_at_call 57; (with_reducible refine (hrw.out _ (HX.out.ext hxw)).mono ?_); rintro e wd ⟨rfl, hxd⟩; have hJd := hJ0.to hxd; have hJP : JE w g3 B4 #[.int .i64 R, .int .i64 C, .slice (some ⟨b, o, none⟩) xs.length cap] (some ⟨b1, o1, none⟩) (some ⟨b2, o2, none⟩) c1 c2 L wd := ⟨_, _, hJd⟩)); all_goals (refine hK _ _ ⟨(by first | assumption), ?_⟩; clear hK K; go_simp)) | (refine canon_ef ho19 rfl (fun K hK => ?_); (refine appendSG_op hJd.row (by omega) hJd.gle ?_ rfl rfl; intro v4 w4 hrow4 hg4; have hJ4 := hJd.app hrow4 hg4 hg3w; have hJP2 : JE w g3 B4 #[.int .i64 R, .int .i64 C, .slice (some ⟨b, o, none⟩) xs.length cap] (some ⟨b1, o1, none⟩) (some ⟨b2, o2, none⟩) c1 c2 L w4 := ⟨_, _, hJ4⟩); all_goals (refine hK _ _ ⟨(by first | assumption), ?_⟩; clear hK K; go_simp))
        all_goals clear ho19
        all_goals first | (refine canon_ef ho20 rfl (fun K hK => ?_); go_simp; ((go_at_call 57; (with_reducible refine (hrw.out _ (HX.out.ext hxw)).mono ?_); rintro e wd ⟨rfl, hxd⟩; have hJd := hJ0.to hxd; have hJP : JE w g3 B4 #[.int .i64 R, .int .i64 C, .slice (some ⟨b, o, none⟩) xs.length cap] (some ⟨b1, o1, none⟩) (some ⟨b2, o2, none⟩) c1 c2 L wd := ⟨_, _, hJd⟩)); all_goals (refine hK _ _ ⟨(by first | assumption), ?_⟩; clear hK K; go_simp)) | (refine canon_ef ho20 rfl (fun K hK => ?_); (refine appendSG_op hJd.row (by omega) hJd.gle ?_ rfl rfl; intro v4 w4 hrow4 hg4; have hJ4 := hJd.app hrow4 hg4 hg3w; have hJP2 : JE w g3 B4 #[.int .i64 R, .int .i64 C, .slice (some ⟨b, o, none⟩) xs.length cap] (some ⟨b1, o1, none⟩) (some ⟨b2, o2, none⟩) c1 c2 L w4 := ⟨_, _, hJ4⟩); all_goals (refine hK _ _ ⟨(by first | assumption), ?_⟩; clear hK K; go_simp))
        all_goals clear ho20
        all_goals (apply canon_st ho21 rfl; (intro w2 hS; first | (go_simp; first | done | rfl) | rfl | (obtain ⟨z0, z1, z2, z3, z4, z5, z6, z7⟩ := hF.out _ hS; go_simp; first | done | rfl)); simp only [Act.put, List.setIfInBounds_toArray, List.set_cons_zero, List.set_cons_succ])
        all_goals clear ho21
        all_goals refine canon_done (NoPanic.normal ?_)
        have hgl4 := hJ4.gle
        have hgs4 : (HB ++ RW).size ≤ 1000000 := by rw [ByteArray.size_append]; omega
        go_wp2_with (at_builtin; go_loud (refine append1G (n := 10) hJ4.row (by omega) (by omega) rfl ?_ rfl rfl); intro v5 w5 hrow5 hg5; have hJ5' := (hJ4.to ((Ext.refl w4).alloc _)).app hrow5 hg5 hg3w)
        go_roundw
        case rel => exact ⟨k + 1, hlt, by go_num, by rw [hnext.out]; exact hJ5'⟩
        case measure => simp [intOf]; omega
    · obtain rfl : k = L.length := by omega
      have hcv := hJr.row.conv
      have hzz := hsz.out _ (Nat.le_refl _)
      have he1 : (⟨#[101, 110, 100, 10]⟩ : ByteArray).size = 4 := rfl
      have hn : ¬ 9223372036854775807 < H.size + (bdT C xs L L.length).size + 4 := by omega
      go_wp2
      go_ret
      exact ⟨by rw [hjt.out]; rfl, hJr.ext⟩
end Go.Proofs.YthpnkcamjcohgaaGreatDoor
