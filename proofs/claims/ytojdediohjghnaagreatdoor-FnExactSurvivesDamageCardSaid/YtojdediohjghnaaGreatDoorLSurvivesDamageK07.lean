/- Stacked symbols, the program's side: all patterns. -/
import Derived.Test.YtojdediohjghnaaGreatDoorLSurvivesDamageK01
import Derived.Test.YtojdediohjghnaaGreatDoorLSurvivesDamageK05
import Derived.Test.YtojdediohjghnaaGreatDoorLSurvivesDamageK06
import Derived.Laws.EntriesVeiled
import Derived.Test.YtojdediohjghnaaGreatDoorLSurvivesDamageK03
import Derived.Deep.DeepCutAuto
set_option linter.unusedVariables false
set_option linter.unusedSimpArgs false
namespace Go.Proofs.YtojdediohjghnaaGreatDoor
open Go.RowKit

def w8F (p : List Int) : List Value := (List.range 8).map fun i => .int .i64 (p.getD i 0)
theorem w8F_len (p : List Int) : (w8F p).length = 8 := by simp [w8F]
theorem w8F_one (p : List Int) : ∀ u ∈ w8F p, u.oneCell' = true := by
 intro u hu
 simp only [w8F, List.mem_map] at hu
 obtain ⟨i, _, rfl⟩ := hu
 rfl
theorem infoW : (Tryz.prog.info? 254).map (fun i => (i.zero, i.size, i.bytes)) = some (some (.agg #[.int .i64 0, .int .i64 0, .int .i64 0, .int .i64 0, .int .i64 0, .int .i64 0, .int .i64 0, .int .i64 0]), 8, 64) := by kernel_rfl
def pxTo (pre : List Int) (p s j : Nat) : List (List Int) := (List.range j).flatMap fun i => (pats (p + 1) (s - (i + 1))).map ((pre ++ [((i + 1 : Nat) : Int)]) ++ ·)
theorem pxTo_succ (pre : List Int) (p s j : Nat) : pxTo pre p s (j + 1) = pxTo pre p s j ++ (pats (p + 1) (s - (j + 1))).map ((pre ++ [((j + 1 : Nat) : Int)]) ++ ·) := by
 unfold pxTo
 rw [List.range_succ, List.flatMap_append]
 simp
theorem pxTo_all (pre : List Int) (p s : Nat) : pxTo pre p s (s - (p + 1)) = (pats (p + 2) s).map (pre ++ ·) := by
 show _ = ((List.range (s - (p + 1))).flatMap fun i => (pats (p + 1) (s - (i + 1))).map fun l => ((i + 1 : Nat) : Int) :: l).map (pre ++ ·)
 rw [List.map_flatMap]
 unfold pxTo
 congr 1
 funext i
 rw [List.map_map]
 congr 1
 funext l
 simp
theorem pats_len : ∀ (p s : Nat), ∀ x ∈ pats (p + 1) s, x.length = p + 1
 | 0, s, x, h => by simp [pats] at h; rw [h]; rfl
 | p + 1, s, x, h => by
  simp only [pats, List.mem_flatMap, List.mem_map] at h
  obtain ⟨i, _, l, hl, rfl⟩ := h
  rw [List.length_cons, pats_len p _ l hl]
structure APS (B gn go ge : Nat) (w : World) (ns : List Int) (v : Value) (L : List (List Int)) : Prop where
 len : ns.length = 8
 now : Blk w gn (w8F ns).toArray 254
 out : Blk w go #[v] 251
 ext : Blk w ge #[.func (.func 216) #[] #[.pointer (some ⟨gn, 0, none⟩), .pointer (some ⟨go, 0, none⟩), .pointer (some ⟨ge, 0, none⟩)]] 269
 row : RowS 254 w8F 8 B w v L
 a1 : v.ownBlock ≠ some gn
 a2 : v.ownBlock ≠ some go
 a3 : v.ownBlock ≠ some ge
def APE (B gn go ge part : Nat) (ns : List Int) (L : List (List Int)) (w : World) (e : Ending) (w' : World) : Prop :=
 e = .returned (.tuple #[]) ∧ ∃ ns' v', ns'.take part = ns.take part ∧ APS B gn go ge w' ns' v' L ∧ Below B w w'
theorem w8_set {ns : List Int} (hl : ns.length = 8) {k : Nat} (hk : k < 8) (v : Int) : ((w8F ns).toArray.setIfInBounds k (.int .i64 v)) = (w8F (ns.set k v)).toArray := by
 apply Array.ext'
 rw [Array.toList_setIfInBounds]
 apply List.ext_getElem?
 intro i
 simp only [w8F, List.getElem?_set, List.getElem?_map, List.length_map, List.length_range]
 by_cases hi : i < 8
 ·rw [List.getElem?_range hi]
  by_cases e : k = i
  ·subst e
   simp [hl, hk]
  ·simp [e, List.getElem?_set_ne e, List.getD_eq_getElem?_getD]
 ·rw [List.getElem?_eq_none (by simp; omega)]
  have : ¬ k = i := by omega
  simp [this]
theorem w8_at {ns : List Int} {k : Nat} (hk : k < 8) : (w8F ns).toArray[k]? = some (.int .i64 (ns.getD k 0)) := by
 simp [w8F, hk]
theorem w8_lit (ns : List Int) : (w8F ns).toArray = #[.int .i64 (ns.getD 0 0), .int .i64 (ns.getD 1 0), .int .i64 (ns.getD 2 0), .int .i64 (ns.getD 3 0), .int .i64 (ns.getD 4 0), .int .i64 (ns.getD 5 0), .int .i64 (ns.getD 6 0), .int .i64 (ns.getD 7 0)] := rfl
theorem eight_of {α : Type} {l : List α} (h : l.length = 8) : ∃ a b c d e f g i, l = [a, b, c, d, e, f, g, i] := by
 match l, h with
 | [a, b, c, d, e, f, g, i], _ => exact ⟨a, b, c, d, e, f, g, i, rfl⟩
theorem RowS.far {α : Type} {f : α → List Value} {k : Nat} {e : TypeId} {B g i : Nat} {u v : Value} {w : World} {xs : List α} (h : RowS e f k B w v xs) (hne : v.ownBlock ≠ some g) : RowS e f k B (w.setCell ⟨g, i, none⟩ u) v xs := by
 refine ⟨h.1, ?_⟩
 rcases h.2 with h2 | ⟨b, cap, cur, hv, hb, hh, r⟩
 ·exact .inl h2
 ·exact .inr ⟨b, cap, cur, hv, hb, by rw [Below.heap_setCell w ⟨g, i, none⟩ u b (fun e => hne (by rw [hv, e]; rfl))]; exact hh, r⟩
set_option maxHeartbeats 1600000 in
set_option maxRecDepth 100000 in
theorem extend0_c (B gn go ge left : Nat) (ns : List Int) (v : Value) (L : List (List Int)) (w : World) (hleft : left ≤ 11) (h : APS B gn go ge w ns v L) (hLl : L.length ≤ 1000) (hB : B ≤ gn ∧ B ≤ go ∧ B ≤ ge) (hne : gn ≠ go ∧ gn ≠ ge ∧ go ≠ ge) :
  Calls Tryz.prog 216 #[.int .i64 (7 : Nat), .int .i64 left, .pointer (some ⟨gn, 0, none⟩), .pointer (some ⟨go, 0, none⟩), .pointer (some ⟨ge, 0, none⟩)] w fun e w' => APE B gn go ge 7 ns (L ++ [ns.take 7 ++ [(left : Int)]]) w e w' := by
 obtain ⟨hl, hN, hO, hX, hR, a1, a2, a3⟩ := h
 obtain ⟨n0, n1, n2, n3, n4, n5, n6, n7, rfl⟩ := eight_of hl
 have hNl := hN.lt; have hNf := hN.free
 have hOl := hO.lt; have hOf := hO.free
 have hXl := hX.lt
 have hN2 : Blk (w.setCell ⟨gn, 7, none⟩ (.int .i64 left)) gn (w8F [n0, n1, n2, n3, n4, n5, n6, (left : Int)]).toArray 254 := hN.set 7 (.int .i64 left)
 have hO2 : Blk (w.setCell ⟨gn, 7, none⟩ (.int .i64 left)) go #[v] 251 := hO.far (g' := gn) (i := 7) (fun e => hne.1 e.symm) (.int .i64 left)
 have hX2 := hX.far (g' := gn) (i := 7) (fun e => hne.2.1 e.symm) (.int .i64 left)
 have hR2 := hR.far (i := 7) (u := .int .i64 left) a1
 have hBw : Below B w (w.setCell ⟨gn, 7, none⟩ (.int .i64 left)) := (Below.refl B w).setCell (p := ⟨gn, 7, none⟩) hB.1 _
 have q0 := hN.cell (i := 0) (v := .int .i64 n0) rfl
 have q1 := hN.cell (i := 1) (v := .int .i64 n1) rfl
 have q2 := hN.cell (i := 2) (v := .int .i64 n2) rfl
 have q3 := hN.cell (i := 3) (v := .int .i64 n3) rfl
 have q4 := hN.cell (i := 4) (v := .int .i64 n4) rfl
 have q5 := hN.cell (i := 5) (v := .int .i64 n5) rfl
 have q6 := hN.cell (i := 6) (v := .int .i64 n6) rfl
 have q7 := hN.cell (i := 7) (v := .int .i64 n7) rfl
 have qo := hO.cell (i := 0) (v := v) rfl
 have hz : B ≤ (w.setCell ⟨gn, 7, none⟩ (.int .i64 left)).heap.size := Nat.le_trans hB.1 (Nat.le_of_lt (Nat.lt_of_lt_of_le hNl (by simp)))
 have hsz : (w.setCell ⟨gn, 7, none⟩ (.int .i64 left)).heap.size = w.heap.size := by simp
 replace hsz := Lib.hid hsz
 obtain ⟨L2, hL2⟩ : ∃ L2, L ++ [[n0, n1, n2, n3, n4, n5, n6, (left : Int)]] = L2 := ⟨_, rfl⟩
 rw [show L ++ [List.take 7 [n0, n1, n2, n3, n4, n5, n6, n7] ++ [(left : Int)]] = L2 from hL2]
 replace hL2 := Lib.hid hL2
 go_enter Tryz.func216, Tryz.ntmps216
 go_wp2_with (at_builtin; refine Hid.out ?_)
 refine Lib.hid ?_
 refine appendSG (ns := [[n0, n1, n2, n3, n4, n5, n6, (left : Int)]]) Tryz.underlying251 infoW rfl (by omega) (by omega) w8F_len w8F_one 1 rfl hR2 (by omega) hz rfl ?_ ?_ ?_
 rotate_left
 ·rfl
 ·exact congrArg (fun n => Value.slice (some ⟨n, 0, none⟩) 1 1) hsz.out.symm
 intro v1 w1 hr1 hg1
 have hO3 := hO2.grew hg1 a2
 have hN3 := hN2.grew hg1 a1
 have hX3 := hX2.grew hg1 a3
 have hOl3 := hO3.lt
 have hOf3 := hO3.free
 have qo3 := hO3.cell (i := 0) (v := v) rfl
 have hlo := hr1.lt
 rw [hL2.out] at hr1
 have b1 : v1.ownBlock ≠ some gn := fun e => by
  rcases hg1.own gn e with h2 | h2
  ·exact a1 h2
  ·have := hN2.lt; omega
 have b2 : v1.ownBlock ≠ some go := fun e => by
  rcases hg1.own go e with h2 | h2
  ·exact a2 h2
  ·have := hO2.lt; omega
 have b3 : v1.ownBlock ≠ some ge := fun e => by
  rcases hg1.own ge e with h2 | h2
  ·exact a3 h2
  ·have := hX2.lt; omega
 have hb1 : Below B w w1 := hBw.trans (hg1.below (fun k hk => (hR2.lt k hk).1) hz)
 obtain ⟨p1, c1, rfl, -⟩ := hr1.own w8F_len
 have hO4 : Blk (w1.setCell ⟨go, 0, none⟩ (.slice p1 L2.length c1)) go #[.slice p1 L2.length c1] 251 := hO3.set 0 _
 have hN4 := hN3.far (i := 0) hne.1 (.slice p1 L2.length c1)
 have hX4 := hX3.far (i := 0) (fun e => hne.2.2 e.symm) (.slice p1 L2.length c1)
 have hR4 := hr1.far (i := 0) (u := .slice p1 L2.length c1) b2
 have hb4 : Below B w (w1.setCell ⟨go, 0, none⟩ (.slice p1 L2.length c1)) := hb1.setCell (p := ⟨go, 0, none⟩) hB.2.1 _
 have hEnd : APE B gn go ge 7 [n0, n1, n2, n3, n4, n5, n6, n7] L2 w (.returned (.tuple #[])) (w1.setCell ⟨go, 0, none⟩ (.slice p1 L2.length c1)) := ⟨rfl, [n0, n1, n2, n3, n4, n5, n6, (left : Int)], _, rfl, ⟨rfl, hN4, hO4, hX4, hR4, b1, b2, b3⟩, hb4⟩
 replace hEnd := Lib.hid hEnd
 clear hO4 hN4 hX4 hR4 hb4 hb1 b1 b2 b3 hlo
 go_wp2
 refine bodyPost_ret (results_none rfl _ _ _) rfl ?_
 exact hEnd.out
theorem pxTo_mono (pre : List Int) (p s : Nat) : ∀ {i j : Nat}, i ≤ j → (pxTo pre p s i).length ≤ (pxTo pre p s j).length := by
 intro i j h
 induction j with
 | zero => obtain rfl : i = 0 := by omega
           exact Nat.le_refl _
 | succ j ih =>
  rcases Nat.lt_or_ge i (j + 1) with h1 | h1
  ·have := ih (by omega)
   rw [pxTo_succ, List.length_append]
   omega
  ·obtain rfl : i = j + 1 := by omega
   exact Nat.le_refl _
theorem pxTo_room (pre : List Int) (p s j : Nat) (hj : j < s - (p + 1)) : (pxTo pre p s j).length + (pats (p + 1) (s - (j + 1))).length ≤ (pats (p + 2) s).length := by
 have h1 := pxTo_mono pre p s (i := j + 1) (j := s - (p + 1)) (by omega)
 rw [pxTo_all, pxTo_succ, List.length_append, List.length_map, List.length_map] at h1
 exact h1
theorem take_set {ns : List Int} {part : Nat} (h : part < ns.length) (v : Int) : (ns.set part v).take (part + 1) = ns.take part ++ [v] := by
 apply List.ext_getElem?
 intro i
 rcases Nat.lt_trichotomy i part with h1 | rfl | h1
 ·rw [List.getElem?_take_of_lt (by omega), List.getElem?_set_ne (by omega), List.getElem?_append_left (by simp; omega), List.getElem?_take_of_lt h1]
 ·rw [List.getElem?_take_of_lt (by omega), List.getElem?_set_self (by omega), List.getElem?_append_right (by simp; omega)]
  simp [Nat.min_eq_left (Nat.le_of_lt h)]
 ·rw [List.getElem?_eq_none (by simp; omega), List.getElem?_eq_none (by simp; omega)]
theorem take_le {a b : List Int} {m n : Nat} (h : a.take n = b.take n) (hm : m ≤ n) : a.take m = b.take m := by
 rw [← Nat.min_eq_left hm, ← List.take_take, h, List.take_take]
set_option maxHeartbeats 1600000 in
set_option maxRecDepth 100000 in
theorem extend_c (B gn go ge : Nat) (hB : B ≤ gn ∧ B ≤ go ∧ B ≤ ge) (hne : gn ≠ go ∧ gn ≠ ge ∧ go ≠ ge) : ∀ (q part left : Nat) (ns : List Int) (v : Value) (L : List (List Int)) (w : World), part + q = 7 → left ≤ 11 → APS B gn go ge w ns v L → L.length + (pats (q + 1) left).length ≤ 1000 →
  Calls Tryz.prog 216 #[.int .i64 part, .int .i64 left, .pointer (some ⟨gn, 0, none⟩), .pointer (some ⟨go, 0, none⟩), .pointer (some ⟨ge, 0, none⟩)] w fun e w' => APE B gn go ge part ns (L ++ (pats (q + 1) left).map (ns.take part ++ ·)) w e w' := by
 intro q
 induction q with
 | zero =>
  intro part left ns v L w hp hleft h hLl
  obtain rfl : part = 7 := by omega
  exact extend0_c B gn go ge left ns v L w hleft h (by omega) hB hne
 | succ q ih =>
  intro part left ns v L w hp hleft h hLl
  replace ih := Lib.hid ih
  rw [← pxTo_all]
  obtain ⟨R, hR⟩ : ∃ R, pxTo (ns.take part) q left = R := ⟨_, rfl⟩
  rw [hR]
  replace hR := Lib.hid hR
  have hp7 : ((part : Int) == 7) = false := by simp; omega
  go_enter Tryz.func216, Tryz.ntmps216
  go_wp2
  go_loopw [7] (fun i wr => ∃ (j : Nat) (ns' : List Int) (v' : Value), j ≤ left - (q + 1) ∧ i = .int .i64 ((j : Int) + 1) ∧ Hid (ns'.take part = ns.take part) ∧ APS B gn go ge wr ns' v' (L ++ R j) ∧ Below B w wr) (fun i _ => (left + 1 - intOf i).toNat)
  case atStart => exact ⟨0, ns, v, by omega, rfl, rfl, by rw [← hR.out]; simpa [pxTo] using h, Below.refl B w⟩
  case round =>
   clear h
   obtain ⟨j, ns', v', hj, rfl, htk, h, hbw⟩ := hrel
   by_cases hlt : j < left - (q + 1)
   ·obtain ⟨hl, hN, hO, hX, hRw, a1, a2, a3⟩ := h
    have hNl := hN.lt; have hNf := hN.free
    have hXl := hX.lt; have hXf := hX.free
    have qp := hN.cell (w8_at (ns := ns') (k := part) (by omega))
    have hN2 : Blk (wr.setCell ⟨gn, part, none⟩ (.int .i64 ((j : Int) + 1))) gn (w8F (ns'.set part ((j : Int) + 1))).toArray 254 := by
     have := hN.set part (.int .i64 ((j : Int) + 1))
     rwa [w8_set hl (by omega)] at this
    have hO2 := hO.far (g' := gn) (i := part) (fun e => hne.1 e.symm) (.int .i64 ((j : Int) + 1))
    have hX2 := hX.far (g' := gn) (i := part) (fun e => hne.2.1 e.symm) (.int .i64 ((j : Int) + 1))
    have hR2 := hRw.far (i := part) (u := .int .i64 ((j : Int) + 1)) a1
    have hAP : APS B gn go ge (wr.setCell ⟨gn, part, none⟩ (.int .i64 ((j : Int) + 1))) (ns'.set part ((j : Int) + 1)) v' (L ++ R j) := ⟨by simp [hl], hN2, hO2, hX2, hR2, a1, a2, a3⟩
    have hb2 : Below B w (wr.setCell ⟨gn, part, none⟩ (.int .i64 ((j : Int) + 1))) := hbw.setCell (p := ⟨gn, part, none⟩) hB.1 _
    have hroom : _ ≤ (pats (q + 1 + 1) left).length := pxTo_room (ns.take part) q left j (by omega)
    rw [hR.out] at hroom
    have hc := ih.out (part + 1) (left - (j + 1)) _ _ _ _ (by omega) (by omega) hAP (by rw [List.length_append]; omega)
    rw [take_set (by omega), htk.out, List.append_assoc, show R j ++ _ = R (j + 1) from by rw [← hR.out, pxTo_succ]; rfl] at hc
    have qx := hX2.cell (i := 0) rfl
    have hX2l := hX2.lt; have hX2f := hX2.free
    rw [show (((part + 1 : Nat)) : Int) = (part : Int) + 1 from by omega, show (((left - (j + 1) : Nat)) : Int) = (left : Int) - ((j : Int) + 1) from by omega] at hc
    replace hc := Lib.hid hc
    clear hroom hN2 hO2 hR2 hX2
    go_wp2_with (go_at_call 216; (with_reducible refine (hc.out).mono ?_); rintro e w2 ⟨rfl, ns2, v2, ht2, hA2, hb3⟩)
    go_roundw
    case rel =>
     refine ⟨j + 1, ns2, v2, hlt, by go_num, ?_, hA2, hb2.trans hb3⟩
     have h3 := take_le ht2 (Nat.le_succ part)
     rw [h3, List.take_set_of_le (Nat.le_refl _)]
     exact htk.out
    case measure => simp [intOf]; omega
   ·obtain rfl : j = left - (q + 1) := by omega
    go_wp2
    refine bodyPost_end (results_none rfl _ _ _) rfl ?_
    exact ⟨rfl, ns', v', htk, h, hbw⟩
def PatR (w : World) (e : Ending) (w' : World) : Prop := ∃ v, e = .returned v ∧ RowS 254 w8F 8 w.heap.size w' v PAT ∧ Ext w w'
theorem RowS.roomy {α : Type} {f : α → List Value} {k B : Nat} {w : World} {z : Array Value} (e : TypeId) (n : Nat) (hB : B ≤ w.heap.size) (hn : n ≤ maxLen) : RowS e f k B (w.alloc (.cells (madeCells z (n * k)) e)) (.slice (some ⟨w.heap.size, 0, none⟩) 0 n) [] :=
 World.ownsRow_made w _ n hB hn (by simp [size_madeCells])
set_option maxRecDepth 100000 in
theorem patsCall (w : World) (C : Array Value) (hC : madeCells #[.int .i64 0, .int .i64 0, .int .i64 0, .int .i64 0, .int .i64 0, .int .i64 0, .int .i64 0, .int .i64 0] 960 = C) :
  ∃ w5, w5 = ((((w.alloc (.cells C 254)).alloc (.cells #[.slice (some ⟨w.heap.size, 0, none⟩) 0 120] 251)).alloc (.cells #[.int .i64 0, .int .i64 0, .int .i64 0, .int .i64 0, .int .i64 0, .int .i64 0, .int .i64 0, .int .i64 0] 254)).alloc (.cells #[(.func (.func 216) #[] #[.pointer (some ⟨w.heap.size + 1 + 1, 0, none⟩), .pointer (some ⟨w.heap.size + 1, 0, none⟩), .pointer (some ⟨w.heap.size + 1 + 1 + 1, 0, none⟩)])] 269)) ∧ Ext w w5 ∧
   Calls Tryz.prog 216 #[.int .i64 0, .int .i64 11, .pointer (some ⟨w.heap.size + 1 + 1, 0, none⟩), .pointer (some ⟨w.heap.size + 1, 0, none⟩), .pointer (some ⟨w.heap.size + 1 + 1 + 1, 0, none⟩)] w5 fun e w' => APE w.heap.size (w.heap.size + 1 + 1) (w.heap.size + 1) (w.heap.size + 1 + 1 + 1) 0 [0, 0, 0, 0, 0, 0, 0, 0] PAT w5 e w' := by
 refine ⟨_, rfl, ((((Ext.refl w).alloc _).alloc _).alloc _).alloc _, ?_⟩
 have r0 : RowS 254 w8F 8 w.heap.size (w.alloc (.cells C 254)) (.slice (some ⟨w.heap.size, 0, none⟩) 0 120) [] := by
  rw [← hC]
  exact RowS.roomy (k := 8) 254 120 (Nat.le_refl _) (by unfold maxLen; omega)
 have k1 : Blk ((w.alloc (.cells C 254)).alloc (.cells #[.slice (some ⟨w.heap.size, 0, none⟩) 0 120] 251)) (w.heap.size + 1) #[.slice (some ⟨w.heap.size, 0, none⟩) 0 120] 251 := by
  have := Blk.new (w.alloc (.cells C 254)) #[.slice (some ⟨w.heap.size, 0, none⟩) 0 120] 251
  rwa [World.size_alloc] at this
 have k2 : Blk (((w.alloc (.cells C 254)).alloc (.cells #[.slice (some ⟨w.heap.size, 0, none⟩) 0 120] 251)).alloc (.cells #[.int .i64 0, .int .i64 0, .int .i64 0, .int .i64 0, .int .i64 0, .int .i64 0, .int .i64 0, .int .i64 0] 254)) (w.heap.size + 1 + 1) #[.int .i64 0, .int .i64 0, .int .i64 0, .int .i64 0, .int .i64 0, .int .i64 0, .int .i64 0, .int .i64 0] 254 := by
  have := Blk.new ((w.alloc (.cells C 254)).alloc (.cells #[.slice (some ⟨w.heap.size, 0, none⟩) 0 120] 251)) #[.int .i64 0, .int .i64 0, .int .i64 0, .int .i64 0, .int .i64 0, .int .i64 0, .int .i64 0, .int .i64 0] 254
  rwa [World.size_alloc, World.size_alloc] at this
 have k3 : Blk ((((w.alloc (.cells C 254)).alloc (.cells #[.slice (some ⟨w.heap.size, 0, none⟩) 0 120] 251)).alloc (.cells #[.int .i64 0, .int .i64 0, .int .i64 0, .int .i64 0, .int .i64 0, .int .i64 0, .int .i64 0, .int .i64 0] 254)).alloc (.cells #[(.func (.func 216) #[] #[.pointer (some ⟨w.heap.size + 1 + 1, 0, none⟩), .pointer (some ⟨w.heap.size + 1, 0, none⟩), .pointer (some ⟨w.heap.size + 1 + 1 + 1, 0, none⟩)])] 269)) (w.heap.size + 1 + 1 + 1) #[(.func (.func 216) #[] #[.pointer (some ⟨w.heap.size + 1 + 1, 0, none⟩), .pointer (some ⟨w.heap.size + 1, 0, none⟩), .pointer (some ⟨w.heap.size + 1 + 1 + 1, 0, none⟩)])] 269 := by
  have := Blk.new (((w.alloc (.cells C 254)).alloc (.cells #[.slice (some ⟨w.heap.size, 0, none⟩) 0 120] 251)).alloc (.cells #[.int .i64 0, .int .i64 0, .int .i64 0, .int .i64 0, .int .i64 0, .int .i64 0, .int .i64 0, .int .i64 0] 254)) #[(.func (.func 216) #[] #[.pointer (some ⟨w.heap.size + 1 + 1, 0, none⟩), .pointer (some ⟨w.heap.size + 1, 0, none⟩), .pointer (some ⟨w.heap.size + 1 + 1 + 1, 0, none⟩)])] 269
  rwa [World.size_alloc, World.size_alloc, World.size_alloc] at this
 replace k1 := (k1.alloc (.cells #[.int .i64 0, .int .i64 0, .int .i64 0, .int .i64 0, .int .i64 0, .int .i64 0, .int .i64 0, .int .i64 0] 254)).alloc (.cells #[(.func (.func 216) #[] #[.pointer (some ⟨w.heap.size + 1 + 1, 0, none⟩), .pointer (some ⟨w.heap.size + 1, 0, none⟩), .pointer (some ⟨w.heap.size + 1 + 1 + 1, 0, none⟩)])] 269)
 replace k2 := k2.alloc (.cells #[(.func (.func 216) #[] #[.pointer (some ⟨w.heap.size + 1 + 1, 0, none⟩), .pointer (some ⟨w.heap.size + 1, 0, none⟩), .pointer (some ⟨w.heap.size + 1 + 1 + 1, 0, none⟩)])] 269)
 replace r0 := ((r0.alloc (.cells #[.slice (some ⟨w.heap.size, 0, none⟩) 0 120] 251)).alloc (.cells #[.int .i64 0, .int .i64 0, .int .i64 0, .int .i64 0, .int .i64 0, .int .i64 0, .int .i64 0, .int .i64 0] 254)).alloc (.cells #[(.func (.func 216) #[] #[.pointer (some ⟨w.heap.size + 1 + 1, 0, none⟩), .pointer (some ⟨w.heap.size + 1, 0, none⟩), .pointer (some ⟨w.heap.size + 1 + 1 + 1, 0, none⟩)])] 269)
 have ho : ∀ g, g ≠ w.heap.size → (Value.slice (some ⟨w.heap.size, 0, none⟩) 0 120).ownBlock ≠ some g := fun g hg h => hg (Option.some.inj h).symm
 have hc := extend_c w.heap.size _ _ _ ⟨by omega, by omega, by omega⟩ ⟨by omega, by omega, by omega⟩ 7 0 11 [0, 0, 0, 0, 0, 0, 0, 0] _ [] _ rfl (Nat.le_refl _) ⟨rfl, k2, k1, k3, r0, ho _ (by omega), ho _ (by omega), ho _ (by omega)⟩ (by show 0 + PAT.length ≤ 1000; rw [PAT_len]; omega)
 rw [show ([] : List (List Int)) ++ List.map (fun x => List.take 0 [0, 0, 0, 0, 0, 0, 0, 0] ++ x) (pats (7 + 1) 11) = PAT from by simp [PAT]] at hc
 exact hc
set_option maxHeartbeats 1600000 in
set_option maxRecDepth 100000 in
theorem allPatterns_c (w : World) : Calls Tryz.prog 200 #[] w fun e w' => PatR w e w' := by
 have hI1 := @Tryz.underlying251
 have hI2 := infoW
 obtain ⟨C, hC⟩ : ∃ C, madeCells #[.int .i64 0, .int .i64 0, .int .i64 0, .int .i64 0, .int .i64 0, .int .i64 0, .int .i64 0, .int .i64 0] 960 = C := ⟨_, rfl⟩
 obtain ⟨w5, hw5, hx5, hc⟩ := patsCall w C hC
 replace hc := Lib.hid hc
 replace hw5 := Lib.hid hw5
 go_enter Tryz.func200, Tryz.ntmps200
 go_wp2_with (first
  | (at_make; go_loud (refine make_cap hI1 hI2 120 rfl rfl (by omega) (by omega) ?_); rw [show (Value.agg #[.int .i64 0, .int .i64 0, .int .i64 0, .int .i64 0, .int .i64 0, .int .i64 0, .int .i64 0, .int .i64 0]).cells = #[.int .i64 0, .int .i64 0, .int .i64 0, .int .i64 0, .int .i64 0, .int .i64 0, .int .i64 0, .int .i64 0] from rfl, hC])
  | (go_at_call 216; rw [← hw5.out]; (with_reducible refine (hc.out).mono ?_); rintro e w6 ⟨rfl, ns', v', -, hA, hb⟩; have g3 := hA.out.cell (i := 0) (v := v') rfl))
 exact bodyPost_ret (v := v') (by simp [results, Tryz.results200, go_sem]) rfl ⟨v', rfl, hA.row, hx5.trans3 hb⟩
end Go.Proofs.YtojdediohjghnaaGreatDoor
/- Stacked symbols, the reference's side: the list of patterns. -/
namespace Go.Proofs.YtojdediohjghnaaGreatDoor
open Go.RowKit

abbrev SL := Option Addr × Nat × Nat
def slF (x : SL) : List Value := [.slice x.1 x.2.1 x.2.2]
theorem slF_len (x : SL) : (slF x).length = 1 := rfl
theorem slF_one (x : SL) : ∀ u ∈ slF x, u.oneCell' = true := by
 intro u hu
 simp only [slF, List.mem_cons, List.not_mem_nil, or_false] at hu
 subst hu
 rfl
theorem infoSl : (Tryz.prog.info? 24).map (fun i => (i.zero, i.size, i.bytes)) = some (some (.slice none 0 0), 1, 24) := by kernel_rfl
def LLs (B : Nat) (w : World) (v : Value) (Ls : List (List Int)) : Prop :=
 ∃ vs : List SL, RowS 24 slF 1 B w v vs ∧ vs.length = Ls.length ∧ ∀ i, i < Ls.length → ∃ q c, vs.getD i (none, 0, 0) = (q, (Ls.getD i []).length, c) ∧ IntsAt w q (Ls.getD i []) ∧ ∀ b o, q = some ⟨b, o, none⟩ → B ≤ b ∧ b < w.heap.size ∧ v.ownBlock ≠ some b
section
variable {B : Nat} {w w' : World} {v v' : Value} {Ls : List (List Int)}
theorem LLs.made (hB : B ≤ w.heap.size) : LLs B (w.alloc (.cells #[] 24)) (.slice (some ⟨w.heap.size, 0, none⟩) 0 0) [] :=
 ⟨[], RowS.made 24 hB, rfl, fun i hi => absurd hi (Nat.not_lt_zero i)⟩
theorem LLs.mono {B' : Nat} (h : LLs B w v Ls) (hB : B' ≤ B) : LLs B' w v Ls := by
 obtain ⟨vs, h1, h2, h3⟩ := h
 refine ⟨vs, h1.mono hB, h2, fun i hi => ?_⟩
 obtain ⟨q, c, h4, h5, h6⟩ := h3 i hi
 exact ⟨q, c, h4, h5, fun b o e => ⟨Nat.le_trans hB (h6 b o e).1, (h6 b o e).2⟩⟩
theorem LLs.lt (h : LLs B w v Ls) : ∀ k, v.ownBlock = some k → B ≤ k ∧ k < w.heap.size := by
 obtain ⟨vs, h1, _⟩ := h
 exact h1.lt
theorem LLs.seg (h : LLs B w v Ls) (hk : ∀ k, B ≤ k → k < w.heap.size → w'.heap[k]? = w.heap[k]?) (hs : w.heap.size ≤ w'.heap.size) : LLs B w' v Ls := by
 obtain ⟨vs, h1, h2, h3⟩ := h
 refine ⟨vs, ⟨h1.1, ?_⟩, h2, fun i hi => ?_⟩
 ·rcases h1.2 with h4 | ⟨g, cap, cur, hv, hg, hh, r⟩
  ·exact .inl h4
  ·exact .inr ⟨g, cap, cur, hv, hg, (hk g hg (Array.getElem?_eq_some_iff.1 hh).1).trans hh, r⟩
 ·obtain ⟨q, c, h4, h5, h6⟩ := h3 i hi
  refine ⟨q, c, h4, fun j hj => ?_, fun b o e => ⟨(h6 b o e).1, Nat.lt_of_lt_of_le (h6 b o e).2.1 hs, (h6 b o e).2.2⟩⟩
  obtain ⟨b, o, e, h7, h8⟩ := h5 j hj
  exact ⟨b, o, e, Nat.lt_of_lt_of_le h7 hs, by rw [World.cell?_of_block (w := w) (a := ⟨b, o + j, none⟩) (hk b (h6 b o e).1 h7)]; exact h8⟩
theorem LLs.ext (h : LLs B w v Ls) (hx : Ext w w') : LLs B w' v Ls := h.seg (fun k _ h2 => hx.below.block k h2) hx.size
theorem IntsAt.grewV {q : Option Addr} {xs : List Int} (h : IntsAt w q xs) (hg : Grew v w w' v') (hne : ∀ b o, q = some ⟨b, o, none⟩ → v.ownBlock ≠ some b) : IntsAt w' q xs := fun i hi => by
 obtain ⟨b, o, e, h7, h8⟩ := h i hi
 exact ⟨b, o, e, Nat.lt_of_lt_of_le h7 hg.by_.size, by rw [World.cell?_of_block (w := w) (a := ⟨b, o + i, none⟩) (hg.by_.block b h7 (fun e2 => hne b o e e2.symm))]; exact h8⟩
theorem LLs.at (h : LLs B w v Ls) {i : Nat} (hi : i < Ls.length) : ∃ g ca q c, v = .slice (some ⟨g, 0, none⟩) Ls.length ca ∧ g < w.heap.size ∧ w.cell? ⟨g, i, none⟩ = some (.slice q (Ls.getD i []).length c) ∧ IntsAt w q (Ls.getD i []) := by
 obtain ⟨vs, h1, h2, h3⟩ := h
 obtain ⟨q, c, h4, h5, h6⟩ := h3 i hi
 obtain ⟨p, ca, hv, ho⟩ := h1.own slF_len
 obtain ⟨g, o, rfl, _, hl, hc, _⟩ := ho i (by omega)
 rcases h1.2 with ⟨h7, h8⟩ | ⟨g', cap, cur, hv', _⟩
 ·omega
 ·rw [hv'] at hv
  injection hv with e1 e2 e3
  injection e1 with e1
  injection e1 with e4 e5 e6
  subst e4; subst e5; subst e3
  refine ⟨g', cap, q, c, by rw [hv', h2], hl, ?_, h5⟩
  have := hc 0 (.slice q (Ls.getD i []).length c) (by
   have : vs[i]'(by omega) = (q, (Ls.getD i []).length, c) := by rw [← h4, List.getD_eq_getElem?_getD, List.getElem?_eq_getElem (by omega)]; rfl
   rw [this]
   rfl)
  simpa using this
theorem LLs.len (h : LLs B w v Ls) : ∃ p ca, v = .slice p Ls.length ca := by
 obtain ⟨vs, h1, h2, h3⟩ := h
 obtain ⟨p, ca, hv, ho⟩ := h1.own slF_len
 exact ⟨p, ca, by rw [hv, h2]⟩
theorem RowI.one {n : Int} (hB : B ≤ w.heap.size) : RowI B (w.alloc (.cells #[.int .i64 n] 2)) (.slice (some ⟨w.heap.size, 0, none⟩) 1 1) [n] :=
 ⟨rfl, .inr ⟨w.heap.size, 1, #[.int .i64 n], rfl, hB, (MapKept.heap_alloc w _).1, Nat.le_refl _, by unfold maxLen; omega, rfl, rfl⟩⟩
theorem LLs.one {n : Int} : LLs w.heap.size ((w.alloc (.cells #[.int .i64 n] 2)).alloc (.cells #[.slice (some ⟨w.heap.size, 0, none⟩) 1 1] 24)) (.slice (some ⟨w.heap.size + 1, 0, none⟩) 1 1) [[n]] := by
 refine ⟨[(some ⟨w.heap.size, 0, none⟩, 1, 1)], ⟨rfl, .inr ⟨w.heap.size + 1, 1, #[.slice (some ⟨w.heap.size, 0, none⟩) 1 1], rfl, by omega, ?_, Nat.le_refl _, by unfold maxLen; omega, rfl, rfl⟩⟩, rfl, fun i hi => ?_⟩
 ·have := (MapKept.heap_alloc (w.alloc (.cells #[.int .i64 n] 2)) (.cells #[.slice (some ⟨w.heap.size, 0, none⟩) 1 1] 24)).1
  rwa [World.size_alloc] at this
 ·obtain rfl : i = 0 := by simpa using hi
  refine ⟨some ⟨w.heap.size, 0, none⟩, 1, rfl, (IntsAt_alloc w [n] 2).ext ((Ext.refl _).alloc _), fun b o e => ?_⟩
  injection e with e
  injection e with e1 e2 e3
  subst e1
  exact ⟨Nat.le_refl _, by simp; omega, fun h => absurd (Option.some.inj h) (by show ¬ (w.heap.size + 1 = w.heap.size); omega)⟩
end
section
variable {ops : Array Oper} {Q : Exit → Act → World → Prop} {rest : List Oper} {a : Act} {dst : Option Tmp} {s x : Operand} {ty : TypeId} {pos : String} {after : Array Edge} {B : Nat} {w0 : World} {v : Value} {Ls : List (List Int)} {l : List Int} {p : Option Addr} {c : Nat}
theorem append1L (h0 : LLs B w0 v Ls) (hp : IntsAt w0 p l) (hb : ∀ b o, p = some ⟨b, o, none⟩ → B ≤ b ∧ b < w0.heap.size ∧ v.ownBlock ≠ some b) (hlen : Ls.length < 1000000) (hB : B ≤ w0.heap.size)
  (h : ∀ v' w', LLs B w' v' (Ls ++ [l]) → Grew v w0 w' v' → wpList Tryz.prog ops Q rest (a.put dst v') w') (hs : a.eval s = v) (hx : a.eval x = .slice (some ⟨w0.heap.size, 0, none⟩) 1 1) :
  wpList Tryz.prog ops Q (⟨dst, .call { callee := .builtin .append, args := #[s, x], argTypes := #[77, 77] }, ty, pos, after, none⟩ :: rest) a (w0.alloc (.cells #[.slice p l.length c] 24)) := by
 obtain ⟨vs, h1, h2, h3⟩ := h0
 refine appendSG (f := slF) (ns := [(p, l.length, c)]) Tryz.underlying77 infoSl rfl (by omega) (by omega) slF_len slF_one 1 rfl h1 (by omega) hB rfl ?_ hs hx
 intro v' w' hr hg
 refine h v' w' ⟨vs ++ [(p, l.length, c)], hr, by simp [h2], fun i hi => ?_⟩ hg
 rw [List.length_append, List.length_singleton] at hi
 rcases Nat.lt_or_ge i Ls.length with hlt | hge
 ·obtain ⟨q, c', h4, h5, h6⟩ := h3 i hlt
  have e1 : (Ls ++ [l]).getD i [] = Ls.getD i [] := by rw [List.getD_eq_getElem?_getD, List.getElem?_append_left hlt, ← List.getD_eq_getElem?_getD]
  have e2 : (vs ++ [(p, l.length, c)]).getD i (none, 0, 0) = vs.getD i (none, 0, 0) := by rw [List.getD_eq_getElem?_getD, List.getElem?_append_left (by omega), ← List.getD_eq_getElem?_getD]
  rw [e1, e2]
  refine ⟨q, c', h4, h5.grewV hg (fun b o e => (h6 b o e).2.2), fun b o e => ⟨(h6 b o e).1, Nat.lt_of_lt_of_le (h6 b o e).2.1 hg.by_.size, fun e3 => ?_⟩⟩
  rcases hg.own b e3 with h7 | h7
  ·exact (h6 b o e).2.2 h7
  ·have := (h6 b o e).2.1; omega
 ·obtain rfl : i = Ls.length := by omega
  have e1 : (Ls ++ [l]).getD Ls.length [] = l := by rw [List.getD_eq_getElem?_getD, List.getElem?_append_right (Nat.le_refl _)]; simp
  have e2 : (vs ++ [(p, l.length, c)]).getD Ls.length (none, 0, 0) = (p, l.length, c) := by rw [List.getD_eq_getElem?_getD, List.getElem?_append_right (by omega), h2]; simp
  rw [e1, e2]
  refine ⟨p, c, rfl, hp.grewV hg (fun b o e => (hb b o e).2.2), fun b o e => ⟨(hb b o e).1, Nat.lt_of_lt_of_le (hb b o e).2.1 hg.by_.size, fun e3 => ?_⟩⟩
  rcases hg.own b e3 with h7 | h7
  ·exact (hb b o e).2.2 h7
  ·have := (hb b o e).2.1; omega
end
def SegV (B : Nat) (w3 w4 : World) (v : Value) : Prop := w3.heap.size ≤ w4.heap.size ∧ ∀ k, B ≤ k → k < w3.heap.size → w4.heap[k]? = w3.heap[k]? ∧ v.ownBlock ≠ some k
theorem SegV.next {B : Nat} {w3 w4 w5 w6 : World} {v v' : Value} (h : SegV B w3 w4 v) (hx : Ext w4 w5) (hg : Grew v w5 w6 v') : SegV B w3 w6 v' := by
 have hs := hx.size
 have hs2 := hg.by_.size
 refine ⟨by have := h.1; omega, fun k hk hk3 => ?_⟩
 obtain ⟨h1, h2⟩ := h.2 k hk hk3
 have h4 : k < w4.heap.size := by have := h.1; omega
 refine ⟨((hg.by_.block k (by omega) (fun e => h2 e.symm)).trans (hx.below.block k h4)).trans h1, fun e => ?_⟩
 rcases hg.own k e with h3 | h3
 ·exact h2 h3
 ·omega
theorem pats_bd : ∀ p, p < 8 → ∀ s, s < 12 → (pats (p + 1) s).length ≤ 1000 := by decide +kernel
set_option maxHeartbeats 1600000 in
set_option maxRecDepth 100000 in
theorem l17Patterns_c : ∀ (p s : Nat) (w : World), p < 8 → s < 12 →
  Calls Tryz.prog 190 #[.int .i64 ((p : Int) + 1), .int .i64 s] w fun e w' => (∃ v, e = .returned v ∧ LLs w.heap.size w' v (pats (p + 1) s)) ∧ Ext w w' := by
 intro p
 induction p with
 | zero =>
  intro s w hp hs
  have h1 := LLs.one (w := w) (n := s)
  have hx : Ext w ((w.alloc (.cells #[.int .i64 s] 2)).alloc (.cells #[.slice (some ⟨w.heap.size, 0, none⟩) 1 1] 24)) := ((Ext.refl w).alloc _).alloc _
  rw [show ((0 : Nat) : Int) + 1 = 1 from rfl]
  go_enter Tryz.func190, Tryz.ntmps190
  go_wp2
  go_ret
  exact ⟨⟨_, rfl, h1⟩, hx⟩
 | succ p ih =>
  intro s w hp hs
  have hbd := pats_bd (p + 1) (by omega) s hs
  have hall := pxTo_all [] p s
  rw [show (fun x : List Int => [] ++ x) = id from rfl, List.map_id] at hall
  rw [← hall] at hbd ⊢
  have hroom := Lib.hid (fun j (hj : j < s - (p + 1)) => pxTo_room [] p s j hj)
  rw [← hall] at hroom
  have hih := Lib.hid (fun s' W (hs' : s' < 12) => ih s' W (by omega) hs')
  clear hall ih
  have h10 : (((p + 1 : Nat) : Int) + 1 == 1) = false := by simp; omega
  rw [show (((p + 1 : Nat)) : Int) = (p : Int) + 1 from by omega] at h10 ⊢
  have hm0 := LLs.made (B := w.heap.size) (w := w) (Nat.le_refl _)
  have hx0 : Ext w (w.alloc (.cells #[] 24)) := (Ext.refl w).alloc _
  obtain ⟨PX, hPX⟩ : ∃ PX, pxTo [] p s = PX := ⟨_, rfl⟩
  rw [hPX] at hbd hroom ⊢
  replace hPX := Lib.hid hPX
  go_enter Tryz.func190, Tryz.ntmps190
  go_wp2
  go_loopw [5, 6] (fun v f wr => ∃ j : Nat, j ≤ s - (p + 1) ∧ f = .int .i64 ((j : Int) + 1) ∧ LLs w.heap.size wr v (PX j) ∧ Ext w wr) (fun _ f _ => 1000 - (intOf f).toNat)
  case atStart => exact ⟨0, Nat.zero_le _, rfl, by rw [← hPX.out]; exact hm0, hx0⟩
  case round =>
   clear hm0 hx0
   obtain ⟨j, hj, rfl, hL, hext⟩ := hrel
   by_cases hlt : j < s - (p + 1)
   ·have hc := hih.out (s - (j + 1)) wr (by omega)
    have hst : PX (j + 1) = PX j ++ (pats (p + 1) (s - (j + 1))).map (([] ++ [((j + 1 : Nat) : Int)]) ++ ·) := by rw [← hPX.out]; exact pxTo_succ [] p s j
    have hrm := hroom.out j hlt
    rw [show (((s - (j + 1) : Nat)) : Int) = (s : Int) - ((j : Int) + 1) from by omega] at hc
    have hRl := pats_len p (s - (j + 1))
    generalize pats (p + 1) (s - (j + 1)) = Rs at *
    rw [show (((j + 1 : Nat)) : Int) = (j : Int) + 1 from by omega] at hst
    replace hst := Lib.hid hst
    replace hc := Lib.hid hc
    obtain ⟨L0, hL0⟩ : ∃ L0, PX j = L0 := ⟨_, rfl⟩
    rw [hL0] at hL hst hrm
    replace hL0 := Lib.hid hL0
    go_upto_region 9 with (go_at_call 190; go_loud ((with_reducible refine (hc.out).mono ?_); rintro e w3 ⟨⟨v7, rfl, hR⟩, hx3⟩; obtain ⟨p7, c7, rfl⟩ := hR.len))
    obtain ⟨wo, rfl⟩ : ∃ wo : World, wo = wr := ⟨_, rfl⟩
    have hxw := hext.trans hx3
    have hL3 := hL.ext hx3
    have hS3 : SegV wo.heap.size w3 w3 u5 := ⟨Nat.le_refl _, fun k hk _ => ⟨rfl, fun e => absurd (hL.lt k e).2 (by omega)⟩⟩
    go_loopw [5, 8] (fun v i wr => ∃ k : Nat, k ≤ Rs.length ∧ i = .int .i64 k ∧ LLs w.heap.size wr v (L0 ++ (Rs.take k).map (([] ++ [(j : Int) + 1]) ++ ·)) ∧ SegV wo.heap.size w3 wr v ∧ Ext w wr) (fun _ i _ => Rs.length - (intOf i).toNat)
    case atStart => exact ⟨0, Nat.zero_le _, rfl, by simpa using hL3, hS3, hxw⟩
    case round =>
     clear hL3 hS3 hxw hL hc
     obtain ⟨k, hk, rfl, hL4, hS4, hx4⟩ := hrel
     by_cases hltk : k < Rs.length
     ·obtain ⟨g, ca, q, c, e7, hgl, hqc, hqi⟩ := (hR.seg (fun k h1 h2 => (hS4.2 k h1 h2).1) hS4.1).at hltk
      injection e7 with e1 e2 e3
      subst e1; subst e3
      clear e2
      have hstk : L0 ++ (Rs.take (k + 1)).map (([] ++ [(j : Int) + 1]) ++ ·) = L0 ++ (Rs.take k).map (([] ++ [(j : Int) + 1]) ++ ·) ++ [[(j : Int) + 1] ++ Rs.getD k []] := by
       rw [List.take_succ_eq_append_getElem hltk, List.map_append, List.append_assoc, List.getD_eq_getElem?_getD, List.getElem?_eq_getElem hltk]
       rfl
      have hll : (L0 ++ (Rs.take k).map (([] ++ [(j : Int) + 1]) ++ ·)).length ≤ 1000 := by
       rw [List.length_append, List.length_map, List.length_take]; omega
      have hrow1 := RowI.one (B := wr.heap.size) (w := wr) (n := (j : Int) + 1) (Nat.le_refl _)
      have hx41 := (Ext.refl wr).alloc (.cells #[.int .i64 ((j : Int) + 1)] 2)
      have hqi1 := hqi.ext hx41
      have hown1 : ∀ z, (Value.slice (some ⟨wr.heap.size, 0, none⟩) 1 1).ownBlock = some z → wr.heap.size ≤ z := fun z hz => Nat.le_of_eq (Option.some.inj hz)
      replace hstk := Lib.hid hstk
      generalize L0 ++ (Rs.take k).map (([] ++ [(j : Int) + 1]) ++ ·) = L4 at *
      have hql : (Rs.getD k []).length ≤ 100000 := by rw [List.getD_eq_getElem?_getD, List.getElem?_eq_getElem hltk]; show (Rs[k]).length ≤ _; rw [hRl _ (List.getElem_mem hltk)]; omega
      generalize Rs.getD k [] = l at *
      have hvl := hL4.lt
      have hwB : w.heap.size ≤ wr.heap.size := hx4.size
      go_wp2_with (first
       | (at_builtin; (refine appendLI hrow1 hqi1 (by simp; omega) (by simp) ?_ rfl rfl); intro v8 w5 hr8 hg8; have hx45 := hg8.toExt hx41 hown1; have hL5 := hL4.ext hx45; have hn8 := hr8.lt; obtain ⟨p8, c8, rfl, ho8, -⟩ := hr8.ownC; have hB5 := hx45.size; have hb8 : ∀ b o, p8 = some ⟨b, o, none⟩ → w.heap.size ≤ b ∧ b < w5.heap.size ∧ u5.ownBlock ≠ some b := (fun b o e => have h1 := hn8 b (by rw [e]; rfl); ⟨Nat.le_trans hwB h1.1, h1.2, fun e2 => absurd (hvl b e2).2 (Nat.not_lt.2 h1.1)⟩))
       | (at_builtin; go_loud (refine append1L hL5 ho8.ints hb8 (by omega) (Nat.le_trans hwB hB5) ?_ rfl rfl); intro v9 w6 hL9 hg9))
      exact ⟨⟨k + 1, hltk, by go_num, by rw [hstk.out]; exact hL9, hS4.next hx45 hg9, hg9.toExt (hx4.trans hx45) (fun z hz => (hvl z hz).1)⟩, by simp [intOf]; omega⟩
     ·obtain rfl : k = Rs.length := by omega
      rw [List.take_length, ← hst.out] at hL4
      go_wp2
      exact ⟨⟨j + 1, hlt, by go_num, hL4, hx4⟩, by simp [intOf]; omega⟩
   ·obtain rfl : j = s - (p + 1) := by omega
    go_wp2
    go_ret
    exact ⟨⟨_, rfl, hL⟩, hext⟩
theorem l17All_c (w : World) : Calls Tryz.prog 152 #[] w fun e w' => (∃ v, e = .returned v ∧ LLs w.heap.size w' v PAT) ∧ Ext w w' := by
 have hc := Lib.hid (l17Patterns_c 7 11 w (by omega) (by omega))
 rw [show ((7 : Nat) : Int) + 1 = 8 from rfl, show ((11 : Nat) : Int) = 11 from rfl] at hc
 go_enter Tryz.func152, Tryz.ntmps152
 go_wp2_with (go_at_call 190; (with_reducible refine (hc.out).mono ?_); rintro e w3 ⟨⟨v7, rfl, hR⟩, hx3⟩)
 go_ret
 exact ⟨⟨_, rfl, hR⟩, hx3⟩
end Go.Proofs.YtojdediohjghnaaGreatDoor
