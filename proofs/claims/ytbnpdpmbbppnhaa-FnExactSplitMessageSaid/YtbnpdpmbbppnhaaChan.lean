
/- Channels in one goroutine: a send into a buffer with room, a receive, in a walk of the kit's own. -/
import Derived.Test.YtbnpdpmbbppnhaaBits
import Derived.Conc.LoneCalls
import Derived.Test.YtbnpdpmbbppnhaaStructs
import Derived.Deep.Cut
import Derived.Test.YtbnpdpmbbppnhaaReadSeg
/-! Channels in one goroutine: a send into a buffer with room, a receive, in a walk of the kit's own. -/
namespace Go.Proofs.Ytbnpdpmbbppnhaa
set_option linter.unusedVariables false
set_option linter.unusedSimpArgs false
open Go.RowKit Go.Conc

section
variable {P : Program} {ops : Array Oper} {Q : Exit → Act → World → Prop} {i : Nat} {rest : List Nat} {o : Oper} {a : Act} {w : World}
/-- What is left of a region, said of the machine's own steps. -/
def OpsSem (P : Program) (ops : Array Oper) (Q : Exit → Act → World → Prop) (l : List Nat) (a : Act) (w : World) : Prop :=
  ∀ (b : Frame) (k : List Item) (cs : List Frame), ∃ e a' w', Q e a' w' ∧ Arrives P (lone (b.at a (.inRegion ops l :: k)) cs w) b k cs e a' w'
theorem ops_nil (h : Q .normal a w) : OpsSem P ops Q [] a w := fun _ _ _ => ⟨.normal, a, w, h, .one step_region_end⟩
theorem wp_region_sem {id : Nat} (h : OpsSem P ops Q (List.range ops.size) a w) : (Code.region id ops false).wp P Q a w :=
  fun b k cs => let ⟨e, a', w', q, r⟩ := h b k cs; ⟨e, a', w', q, .of_steps (.one step_region) r⟩
theorem ops_fin (ho : ops[i]? = some o) (b : Frame) (k : List Item) (v : Value) : (b.at a (.inRegion ops (i :: rest) :: k)).finish v = b.at (a.put o.dst v) (.inRegion ops rest :: k) := by
  rw [Frame.finish_at, ho]; rfl
theorem ops_value {v : Value} {w' : World} (ho : ops[i]? = some o) (hg : o.guard = none) (hr : (execOp a.eval o).run P w = .ok (.value v) w') (h : OpsSem P ops Q rest (a.put o.dst v) w') : OpsSem P ops Q (i :: rest) a w := fun b k cs => by
  obtain ⟨e, a', w'', hq, harr⟩ := h b k cs
  have hgo := stepG_op (P := P) (b := b) (k := k) (cs := cs) (w := w) (rest := rest) ho (show Region.wanted o (yielded ops a.tmps) = true by simp [Region.wanted, hg])
  refine ⟨e, a', w'', hq, .of_steps (.one (step_lone_go ?_)) harr⟩
  rw [hgo, ← ops_fin ho]
  simp [stepG.apply, hr]
theorem stepG_commE {b : Frame} {k : List Item} {cs : List Frame} {cases : Array CommCase} {blocking : Bool} {shape : CommShape} {w' : World} (ho : ops[i]? = some o) (hg : o.guard = none)
    (hr : (execOp a.eval o).run P w = .ok (.comm cases blocking shape) w') :
    ∃ es, stepG P true (G (b.at a (.inRegion ops (i :: rest) :: k)) cs) w = .comm (G (b.at a (.inRegion ops (i :: rest) :: k)) cs) cases blocking shape w' es := by
  rw [stepG_oper ho (by simp [Region.wanted, hg])]
  simp [stepG.apply, hr, G, Frame.at, GStep.after]
theorem ops_send {x y : Operand} {c cap s r : Nat} {buf : Array Value} {v : Value} {tm : Bool} (ho : ops[i]? = some o) (hg : o.guard = none) (hop : o.op = .send x y) (hx : a.eval x = .chan (some c)) (hy : a.eval y = v)
    (hc : w.heap[c]? = some (.chan cap buf false s r tm)) (hroom : buf.size < cap) (h : OpsSem P ops Q rest (a.put o.dst undef) (w.setChan c cap (buf.push v) false (s + 1) r tm)) : OpsSem P ops Q (i :: rest) a w := fun b k cs => by
  obtain ⟨e, a', w'', hq, harr⟩ := h b k cs
  obtain ⟨es, hG⟩ := stepG_commE (P := P) (b := b) (k := k) (cs := cs) (rest := rest) (a := a) (w := w) (w' := w) (cases := #[scase c v (.tuple #[])]) (blocking := true) (shape := .send) ho hg (by simp [execOp, hop, hx, hy, scase])
  refine ⟨e, a', w'', hq, .of_steps (.one ?_) harr⟩
  rw [lone_eq_solo, step_lone_send_room hG hc hroom, ops_fin ho]
  rfl
theorem ops_recv_buf {t : TypeId} {d : ChanDir} {el : TypeId} {x : Operand} {c cap s r : Nat} {buf : Array Value} {z : Value} {tm closed : Bool} (ho : ops[i]? = some o) (hg : o.guard = none) (hop : o.op = .recv t x true) (ht : P.underlying t = some (.chan d el)) (hz : (zeroValue el).run P w = .ok z w) (hx : a.eval x = .chan (some c))
    (hc : w.heap[c]? = some (.chan cap buf closed s r tm)) (hsome : 0 < buf.size) (h : OpsSem P ops Q rest (a.put o.dst (.tuple #[buf.getD 0 undef, .bool true])) (w.setChan c cap (buf.extract 1 buf.size) closed s (r + 1) tm)) : OpsSem P ops Q (i :: rest) a w := fun b k cs => by
  obtain ⟨e, a', w'', hq, harr⟩ := h b k cs
  obtain ⟨es, hG⟩ := stepG_commE (P := P) (b := b) (k := k) (cs := cs) (rest := rest) (a := a) (w := w) (w' := w) (cases := #[rcase c z]) (blocking := true) (shape := .recv true) ho hg (by simp [execOp, hop, hx, rcase, run_underlying ht, hz])
  refine ⟨e, a', w'', hq, .of_steps (.one ?_) harr⟩
  rw [lone_eq_solo, step_lone_recv_buf true hG hc hsome, ops_fin ho]
  rfl
theorem ops_recv_shut {t : TypeId} {d : ChanDir} {el : TypeId} {x : Operand} {c cap s r : Nat} {z : Value} {tm : Bool} (ho : ops[i]? = some o) (hg : o.guard = none) (hop : o.op = .recv t x true) (ht : P.underlying t = some (.chan d el)) (hz : (zeroValue el).run P w = .ok z w) (hx : a.eval x = .chan (some c))
    (hc : w.heap[c]? = some (.chan cap #[] true s r tm)) (h : OpsSem P ops Q rest (a.put o.dst (.tuple #[z, .bool false])) w) : OpsSem P ops Q (i :: rest) a w := fun b k cs => by
  obtain ⟨e, a', w'', hq, harr⟩ := h b k cs
  obtain ⟨es, hG⟩ := stepG_commE (P := P) (b := b) (k := k) (cs := cs) (rest := rest) (a := a) (w := w) (w' := w) (cases := #[rcase c z]) (blocking := true) (shape := .recv true) ho hg (by simp [execOp, hop, hx, rcase, run_underlying ht, hz])
  refine ⟨e, a', w'', hq, .of_steps (.one ?_) harr⟩
  rw [lone_eq_solo, step_lone_recv_shut true hG hc, ops_fin ho]
  rfl
end

/-- A channel of room for so many, which holds these numbers. -/
def ChanI (w : World) (c cap : Nat) (xs : List Int) (closed : Bool) : Prop := ∃ s r, w.heap[c]? = some (.chan cap (xs.map (Value.int .i64)).toArray closed s r false)
theorem ChanI.lt {w : World} {c cap : Nat} {xs : List Int} {closed : Bool} (h : ChanI w c cap xs closed) : c < w.heap.size := by
  obtain ⟨s, r, h⟩ := h
  exact (Array.getElem?_eq_some_iff.1 h).1
theorem ChanI.ext {w w' : World} {c cap : Nat} {xs : List Int} {closed : Bool} (h : ChanI w c cap xs closed) (hb : Ext w w') : ChanI w' c cap xs closed := by
  have hl := h.lt
  obtain ⟨s, r, h⟩ := h
  exact ⟨s, r, (hb.below.block c hl).trans h⟩
theorem Ext.setChan {a w : World} (h : Ext a w) {c : Nat} (hc : a.heap.size ≤ c) (cap : Nat) (buf : Array Value) (cl : Bool) (s r : Nat) (tm : Bool) : Ext a (w.setChan c cap buf cl s r tm) := below_setChan h hc cap buf cl s r tm
end Go.Proofs.Ytbnpdpmbbppnhaa

/-! A payload's bits, sent over a channel. -/
namespace Go.Proofs.Ytbnpdpmbbppnhaa
set_option linter.unusedVariables false
set_option linter.unusedSimpArgs false
open Go.RowKit Go.Conc

def patL (n : Nat) : List Int := (List.range n).map fun k => [1, 1, 0, 1, 0, 0].getD (k % 6) 0
/-- The bits, an end, and a pattern that fills the room. -/
def padL (xs : List Int) (room : Nat) : List Int := xs ++ List.replicate (min (room - xs.length) 3) 0 ++ patL (room - xs.length - 3)
theorem patL_succ (n : Nat) : patL (n + 1) = patL n ++ [[1, 1, 0, 1, 0, 0].getD (n % 6) 0] := by simp [patL, List.range_succ]
theorem mkChan (room : Nat) (h : room ≤ 100000) (w : World) : (Instr.makeChan 187 (.int .i64 room)).run Try.prog w = .ok (.chan (some w.heap.size)) (w.alloc (.chan room #[] false 0 0 false)) := by
  have hb : ∃ i, Try.prog.info? 2 = some i ∧ i.bytes = 8 := by
    have h : (Try.prog.info? 2).map (·.bytes) = some 8 := by kernel_rfl
    obtain ⟨i, hi, hb⟩ := Option.map_eq_some_iff.1 h
    exact ⟨i, hi, hb⟩
  obtain ⟨i, hi, hb⟩ := hb
  exact run_makeChan (P := Try.prog) (w := w) Try.underlying187 hi .i64 room (by omega) (by rw [hb]; omega)

set_option maxHeartbeats 1600000 in
set_option maxRecDepth 100000 in
theorem pack_c (p : Option Addr) (c : Nat) (xs : List Int) (room : Nat) (w : World) (hx : IntsAt w p xs) (hl : xs.length ≤ room) (hr : room ≤ 100000) :
    Calls Try.prog 90 #[.slice p xs.length c, .int .i64 room] w fun e w' => (∃ ch, e = .returned (.chan (some ch)) ∧ w.heap.size ≤ ch ∧ ChanI w' ch room (padL xs room) true) ∧ Ext w w' := by
  have hmc := mkChan room hr
  have HX := Lib.hid hx; clear hx
  have hnew : ChanI (w.alloc (.chan room #[] false 0 0 false)) w.heap.size room [] false := ⟨0, 0, (MapKept.heap_alloc w _).1⟩
  have hln : (xs.length : Int) ≤ room := by omega
  go_enter Try.func90, Try.ntmps90
  go_wp2
  clear hmc
  go_loopw [17] (fun i wr => ∃ j : Nat, j ≤ xs.length ∧ i = .int .i64 j ∧ ChanI wr w.heap.size room (xs.take j) false ∧ Ext w wr) (fun i _ => xs.length - (intOf i).toNat)
  case atStart => exact ⟨0, Nat.zero_le _, rfl, by rw [List.take_zero]; exact hnew, (by repeat (first | exact Ext.refl _ | assumption | refine Ext.drew ?_ | refine Ext.drewN ?_ _ | refine Ext.iter ?_ _ _ | refine Ext.alloc ?_ _ | refine Ext.setCell ?_ (by first | exact Nat.le_refl _ | (simp <;> omega)) _ | refine Ext.trans2 (by assumption) ?_))⟩
  case round =>
    clear hnew
    obtain ⟨j, hj, rfl, hch, hext⟩ := hrel
    by_cases hlt : j < xs.length
    · obtain ⟨b, o, rfl, hbl, h1⟩ := (HX.out.ext hext) j hlt
      have htk := Lib.hid (List.take_succ_eq_append_getElem hlt)
      have hgd : xs.getD j 0 = xs[j] := by rw [List.getD_eq_getElem?_getD, List.getElem?_eq_getElem hlt]; rfl
      rw [hgd] at h1
      clear hgd
      generalize xs[j] = x at *
      obtain ⟨s, r, hcb⟩ := hch
      have hsz : ((xs.take j).map (Value.int .i64)).toArray.size = j := by simp; omega
      go_upto_region 5 with (fail)
      refine wp_region_sem ?_
      refine ops_value rfl rfl (by go_simp; first | exact ⟨rfl, rfl⟩ | rfl) ?_
      refine ops_value rfl rfl (by go_simp; first | exact ⟨rfl, rfl⟩ | rfl) ?_
      refine ops_send (c := w.heap.size) (cap := room) (v := .int .i64 x) rfl rfl rfl rfl rfl hcb (by omega) ?_
      refine ops_nil ?_
      have hE := hext.setChan (Nat.le_refl _) room (((xs.take j).map (Value.int .i64)).toArray.push (.int .i64 x)) false (s + 1) r false
      have hC : ChanI (wr.setChan w.heap.size room (((xs.take j).map (Value.int .i64)).toArray.push (.int .i64 x)) false (s + 1) r false) w.heap.size room (xs.take (j + 1)) false := ⟨s + 1, r, by
        rw [heap_setChan _ _ _ _ _ _ _ _ (Array.getElem?_eq_some_iff.1 hcb).1, htk.out]
        simp⟩
      generalize wr.setChan w.heap.size room (((xs.take j).map (Value.int .i64)).toArray.push (.int .i64 x)) false (s + 1) r false = w2 at *
      simp only [Act.put, List.setIfInBounds_toArray, List.set_cons_zero, List.set_cons_succ]
      go_wp2
      go_roundw
      case rel => exact ⟨j + 1, hlt, by go_num, hC, hE⟩
      case measure => simp [intOf]; omega
    · obtain rfl : j = xs.length := by omega
      rw [List.take_length] at hch
      obtain ⟨lf, hlf⟩ : ∃ lf : Nat, lf = room - xs.length := ⟨_, rfl⟩
      obtain ⟨en, hen⟩ : ∃ en : Nat, en = min lf 3 := ⟨_, rfl⟩
      obtain ⟨f, hf⟩ : ∃ f : Nat, f = lf - 3 := ⟨_, rfl⟩
      have hpad : padL xs room = xs ++ List.replicate en 0 ++ patL f := by unfold padL; rw [← hlf, ← hen, ← hf]
      have HPAD := Lib.hid hpad
      have hlen : xs.length + en + f = room := by omega
      have hsub : (room : Int) - xs.length = lf := by omega
      have hmin : min (lf : Int) 3 = en := by omega
      have hmin2 : (if (3 : Int) < lf then 3 else (lf : Int)) = en := by split <;> omega
      have hsub2 : (lf : Int) - en = f := by omega
      have HLEN := Lib.hid hlen
      have hlf5 : (lf : Int) ≤ 100000 := by omega
      have hen3 : (en : Int) ≤ 3 := by omega
      clear hpad hlf hen hf hlen
      go_wp2
      clear hmin hmin2 hsub
      go_loopw [10] (fun i wr => ∃ j : Nat, j ≤ en ∧ i = .int .i64 j ∧ ChanI wr w.heap.size room (xs ++ List.replicate j 0) false ∧ Ext w wr) (fun i _ => en - (intOf i).toNat)
      case atStart => exact ⟨0, Nat.zero_le _, rfl, by simpa using hch, hext⟩
      case round =>
        clear hch hext
        obtain ⟨j, hj, rfl, hch, hext⟩ := hrel
        by_cases hlt2 : j < en
        · obtain ⟨s, r, hcb⟩ := hch
          have hsz : ((xs ++ List.replicate j 0).map (Value.int .i64)).toArray.size = xs.length + j := by simp
          have hroom : xs.length + j < room := by have := HLEN.out; omega
          go_upto_region 12 with (fail)
          refine wp_region_sem ?_
          refine ops_value rfl rfl (by go_simp; first | exact ⟨rfl, rfl⟩ | rfl) ?_
          refine ops_send (c := w.heap.size) (cap := room) (v := .int .i64 0) rfl rfl rfl rfl rfl hcb (by rw [hsz]; exact hroom) ?_
          refine ops_nil ?_
          have hE := hext.setChan (Nat.le_refl _) room (((xs ++ List.replicate j 0).map (Value.int .i64)).toArray.push (.int .i64 0)) false (s + 1) r false
          have hC : ChanI (wr.setChan w.heap.size room (((xs ++ List.replicate j 0).map (Value.int .i64)).toArray.push (.int .i64 0)) false (s + 1) r false) w.heap.size room (xs ++ List.replicate (j + 1) 0) false := ⟨s + 1, r, by
            rw [heap_setChan _ _ _ _ _ _ _ _ (Array.getElem?_eq_some_iff.1 hcb).1, List.replicate_succ']
            simp⟩
          generalize wr.setChan w.heap.size room (((xs ++ List.replicate j 0).map (Value.int .i64)).toArray.push (.int .i64 0)) false (s + 1) r false = w2 at *
          simp only [Act.put, List.setIfInBounds_toArray, List.set_cons_zero, List.set_cons_succ]
          clear hsz hroom hcb
          go_wp2
          go_roundw
          case rel => exact ⟨j + 1, hlt2, by go_num, hC, hE⟩
          case measure => simp [intOf]; omega
        · obtain rfl : j = en := by omega
          obtain ⟨wo, rfl⟩ : ∃ wo : World, wo = wr := ⟨_, rfl⟩
          have hnew := Blk.new wo #[.int .i64 1, .int .i64 1, .int .i64 0, .int .i64 1, .int .i64 0, .int .i64 0] 188
          have hchl := hch.lt
          have hf5 : (f : Int) ≤ 100000 := by omega
          go_wp2
          go_loopw [12] (fun i wr => ∃ q : Nat, q ≤ f ∧ i = .int .i64 q ∧ ChanI wr w.heap.size room (xs ++ List.replicate j 0 ++ patL q) false ∧ Blk wr wo.heap.size #[.int .i64 1, .int .i64 1, .int .i64 0, .int .i64 1, .int .i64 0, .int .i64 0] 188 ∧ Ext w wr) (fun i _ => f - (intOf i).toNat)
          case atStart => exact ⟨0, Nat.zero_le _, rfl, by simpa [patL] using hch.ext (by repeat (first | exact Ext.refl _ | assumption | refine Ext.drew ?_ | refine Ext.drewN ?_ _ | refine Ext.iter ?_ _ _ | refine Ext.alloc ?_ _ | refine Ext.setCell ?_ (by first | exact Nat.le_refl _ | (simp <;> omega)) _ | refine Ext.trans2 (by assumption) ?_)), hnew, hext.alloc _⟩
          case round =>
            clear hch hext hnew
            obtain ⟨q, hq, rfl, hch, hblk, hext⟩ := hrel
            by_cases hlt3 : q < f
            · obtain ⟨s, r, hcb⟩ := hch
              have hsz : ((xs ++ List.replicate j 0 ++ patL q).map (Value.int .i64)).toArray.size = xs.length + j + q := by simp [patL]; omega
              have hroom : xs.length + j + q < room := by have := HLEN.out; omega
              obtain ⟨u, m6, hu⟩ : ∃ u : Nat, u < 6 ∧ u = q % 6 := ⟨q % 6, Nat.mod_lt _ (by omega), rfl⟩
              have hqm : (q : Int) % 6 = u := by omega
              have hu6 : (u : Int) < 6 := by omega
              have hqt : (q : Int).tmod 6 = u := by rw [Int.tmod_eq_emod_of_nonneg (by omega)]; exact hqm
              obtain ⟨v, hv⟩ : ∃ v : Int, v = [1, 1, 0, 1, 0, 0].getD u 0 := ⟨_, rfl⟩
              have hcell : wr.cell? ⟨wo.heap.size, u, none⟩ = some (.int .i64 v) := by
                rw [hv]
                refine hblk.cell ?_
                have : u = 0 ∨ u = 1 ∨ u = 2 ∨ u = 3 ∨ u = 4 ∨ u = 5 := by omega
                rcases this with rfl | rfl | rfl | rfl | rfl | rfl <;> rfl
              have hps : patL (q + 1) = patL q ++ [v] := by rw [patL_succ, hv, hu]
              have HPS := Lib.hid hps
              have hbl := hblk.lt
              clear hps hv hu
              have hqn : (q : Int) < f := by omega
              go_upto_region 17 with (fail)
              refine wp_region_sem ?_
              refine ops_value rfl rfl (by go_simp; first | exact ⟨rfl, rfl⟩ | rfl) ?_
              refine ops_value rfl rfl (by go_simp; first | exact ⟨rfl, rfl⟩ | rfl) ?_
              refine ops_value rfl rfl (by go_simp; first | exact ⟨rfl, rfl⟩ | rfl) ?_
              refine ops_value rfl rfl (by go_simp; first | exact ⟨rfl, rfl⟩ | rfl) ?_
              refine ops_value rfl rfl (by go_simp; first | exact ⟨rfl, rfl⟩ | rfl) ?_
              refine ops_send (c := w.heap.size) (cap := room) (v := .int .i64 v) rfl rfl rfl rfl rfl hcb (by rw [hsz]; exact hroom) ?_
              refine ops_nil ?_
              have hne : w.heap.size ≠ wo.heap.size := by omega
              have hE := hext.setChan (Nat.le_refl _) room (((xs ++ List.replicate j 0 ++ patL q).map (Value.int .i64)).toArray.push (.int .i64 v)) false (s + 1) r false
              have hB : Blk (wr.setChan w.heap.size room (((xs ++ List.replicate j 0 ++ patL q).map (Value.int .i64)).toArray.push (.int .i64 v)) false (s + 1) r false) wo.heap.size #[.int .i64 1, .int .i64 1, .int .i64 0, .int .i64 1, .int .i64 0, .int .i64 0] 188 := by
                unfold Blk World.setChan
                rw [Array.getElem?_setIfInBounds_ne hne]
                exact hblk
              have hC : ChanI (wr.setChan w.heap.size room (((xs ++ List.replicate j 0 ++ patL q).map (Value.int .i64)).toArray.push (.int .i64 v)) false (s + 1) r false) w.heap.size room (xs ++ List.replicate j 0 ++ patL (q + 1)) false := ⟨s + 1, r, by
                rw [heap_setChan _ _ _ _ _ _ _ _ (Array.getElem?_eq_some_iff.1 hcb).1, HPS.out]
                simp⟩
              generalize wr.setChan w.heap.size room (((xs ++ List.replicate j 0 ++ patL q).map (Value.int .i64)).toArray.push (.int .i64 v)) false (s + 1) r false = w2 at *
              simp only [Act.put, List.setIfInBounds_toArray, List.set_cons_zero, List.set_cons_succ]
              clear hsz hroom hcb hcell hqm hqt
              go_wp2
              go_roundw
              case rel => exact ⟨q + 1, hlt3, by go_num, hC, hB, hE⟩
              case measure => simp [intOf]; omega
            · obtain rfl : q = f := by omega
              have hqn : ¬ (q : Int) < q := by omega
              obtain ⟨s, r, hcb⟩ := hch
              have hE := hext.setChan (Nat.le_refl _) room (((xs ++ List.replicate j 0 ++ patL q).map (Value.int .i64)).toArray) true s r false
              have hC : ChanI (wr.setChan w.heap.size room (((xs ++ List.replicate j 0 ++ patL q).map (Value.int .i64)).toArray) true s r false) w.heap.size room (xs ++ List.replicate j 0 ++ patL q) true := ⟨s, r, heap_setChan _ _ _ _ _ _ _ _ (Array.getElem?_eq_some_iff.1 hcb).1⟩
              unfold World.setChan at hE hC
              generalize ((xs ++ List.replicate j 0 ++ patL q).map (Value.int .i64)).toArray = M at *
              have hcl := fun ats ty => run_close_open (P := Try.prog) (w := wr) ats ty hcb
              have HE := Lib.hid hE; have HC := Lib.hid hC
              clear hE hC hcb
              go_wp2
              go_ret
              exact ⟨⟨_, rfl, Nat.le_refl _, by rw [HPAD.out]; exact HC.out⟩, HE.out⟩
end Go.Proofs.Ytbnpdpmbbppnhaa

/-! The elements of bits that come over a channel. -/
namespace Go.Proofs.Ytbnpdpmbbppnhaa
set_option linter.unusedVariables false
set_option linter.unusedSimpArgs false
open Go.RowKit Go.Conc

/-- The numbers of w bits each. -/
def elemsL (w : Nat) (xs : List Int) : List Int := (List.range (xs.length / w)).map fun i => numAt xs (i * w) w
def elemsTo (w : Nat) (xs : List Int) (m : Nat) : List Int := (List.range m).map fun i => numAt xs (i * w) w
theorem elemsTo_succ (w : Nat) (xs : List Int) (m : Nat) : elemsTo w xs (m + 1) = elemsTo w xs m ++ [numAt xs (m * w) w] := by simp [elemsTo, List.range_succ]
theorem elemsTo_len (w : Nat) (xs : List Int) (m : Nat) : (elemsTo w xs m).length = m := by simp [elemsTo]
theorem But.setChan {g : Nat} {a w : World} (h : But g a w) (cap : Nat) (buf : Array Value) (cl : Bool) (s r : Nat) (tm : Bool) : But g a (w.setChan g cap buf cl s r tm) :=
  h.trans ⟨rfl, rfl, rfl, by simp [World.setChan], fun k _ hk => by simp only [World.setChan]; rw [Array.getElem?_setIfInBounds_ne (by omega)]⟩
theorem ChanI.low {B : Nat} {w w' : World} {c cap : Nat} {xs : List Int} {closed : Bool} (h : ChanI w c cap xs closed) (hb : Below B w w') (hB : c < B) : ChanI w' c cap xs closed := by
  obtain ⟨s, r, h⟩ := h
  exact ⟨s, r, (hb.block c hB).trans h⟩

set_option maxHeartbeats 1600000 in
set_option maxRecDepth 100000 in
theorem elementsOf_c (ch cap wd : Nat) (xs : List Int) (w : World) (hc : ChanI w ch cap xs true) (hb : ∀ x ∈ xs, x = 0 ∨ x = 1) (hwd : 1 ≤ wd ∧ wd ≤ 30) (hl : xs.length ≤ 100000) :
    Calls Try.prog 89 #[.chan (some ch), .int .i64 wd] w fun e w' => (∃ v, e = .returned v ∧ RowI w.heap.size w' v (elemsL wd xs)) ∧ But ch w w' := by
  have hlt0 := hc.lt
  have HB := Lib.hid hb; clear hb
  have hnew := hc.ext ((Ext.refl w).alloc (.cells #[] 2))
  have hrow := RowI.made (B := w.heap.size) (w := w) (Nat.le_refl _)
  go_enter Try.func89, Try.ntmps89
  go_wp2
  go_loopw [5, 6, 7] (fun o n h wr => ∃ (m r : Nat), m * wd + r ≤ xs.length ∧ r < wd ∧ n = .int .i64 (numAt xs (m * wd) r) ∧ h = .int .i64 r ∧ RowI w.heap.size wr o (elemsTo wd xs m) ∧ ChanI wr ch cap (xs.drop (m * wd + r)) true ∧ But ch w wr ∧ w.heap.size ≤ wr.heap.size) (fun _ _ _ wr => match wr.heap[ch]? with | some (.chan _ buf _ _ _ _) => buf.size | _ => 0)
  case atStart => exact ⟨0, 0, by omega, by omega, rfl, rfl, by simpa [elemsTo] using hrow, by simpa using hnew, But.of ((Ext.refl w).alloc _), by simp⟩
  case round =>
    clear hrow hnew hc
    obtain ⟨m, r, hmr, hr, rfl, rfl, hown, hch, hbut, hsz⟩ := hrel
    obtain ⟨s, rc, hcb⟩ := hch
    have hu := Try.underlying119
    have hz : (zeroValue 2).run Try.prog wr = .ok (.int .i64 0) wr := by kernel_rfl
    by_cases hlt : m * wd + r < xs.length
    · go_upto_region 4 with (fail)
      refine wp_region_sem ?_
      have hbs : ((xs.drop (m * wd + r)).map (Value.int .i64)).toArray.size = xs.length - (m * wd + r) := by simp
      have hdr := List.drop_eq_getElem_cons hlt
      have hg0 : ((xs.drop (m * wd + r)).map (Value.int .i64)).toArray.getD 0 undef = .int .i64 (xs[m * wd + r]) := by rw [hdr]; rfl
      have hex : ((xs.drop (m * wd + r)).map (Value.int .i64)).toArray.extract 1 ((xs.drop (m * wd + r)).map (Value.int .i64)).toArray.size = ((xs.drop (m * wd + r + 1)).map (Value.int .i64)).toArray := by
        rw [hdr]
        simp
        exact List.take_of_length_le (by simp; omega)
      obtain ⟨M2, hM2⟩ : ∃ M2, ((xs.drop (m * wd + r + 1)).map (Value.int .i64)).toArray = M2 := ⟨_, rfl⟩
      rw [hM2] at hex
      refine ops_recv_buf (c := ch) rfl rfl rfl hu hz rfl hcb (by rw [hbs]; omega) ?_
      rw [hg0, hex]
      refine ops_value rfl rfl (by go_simp; first | exact ⟨rfl, rfl⟩ | rfl) ?_
      refine ops_nil ?_
      have hN := numAt_bd HB.out (m * wd) r (by omega)
      have hN2 : numAt xs (m * wd) r < 1073741824 := by
        have h30 : 2 ^ r ≤ 2 ^ 30 := Nat.pow_le_pow_right (by omega) (by omega)
        have e : ((2 ^ r : Nat) : Int) = (2 : Int) ^ r := by simp
        omega
      have hx01 : xs[m * wd + r] = 0 ∨ xs[m * wd + r] = 1 := HB.out _ (List.getElem_mem _)
      have hst : numAt xs (m * wd) (r + 1) = numAt xs (m * wd) r * 2 + xs[m * wd + r] := by
        rw [numAt, List.getD_eq_getElem?_getD, List.getElem?_eq_getElem hlt, Option.getD_some]
      have hE := hbut.setChan cap M2 true s (rc + 1) false
      have hC0 : ((wr.setChan ch cap M2 true s (rc + 1) false).heap[ch]? = some (.chan cap M2 true s (rc + 1) false)) := heap_setChan _ _ _ _ _ _ _ _ (Array.getElem?_eq_some_iff.1 hcb).1
      have hC : ChanI (wr.setChan ch cap M2 true s (rc + 1) false) ch cap (xs.drop (m * wd + r + 1)) true := ⟨s, rc + 1, by rw [hM2]; exact hC0⟩
      have hS := size_setChan wr ch cap M2 true s (rc + 1) false
      have hstep := But.setChan (But.refl ch wr) cap M2 true s (rc + 1) false
      have hdl : M2.size < ((xs.drop (m * wd + r)).map (Value.int .i64)).toArray.size := by rw [← hM2]; simp; omega
      have hmes : ∀ W : World, W.heap[ch]? = some (.chan cap M2 true s (rc + 1) false) → (match W.heap[ch]? with | some (.chan _ buf _ _ _ _) => buf.size | _ => 0) < (match wr.heap[ch]? with | some (.chan _ buf _ _ _ _) => buf.size | _ => 0) := fun W h => by rw [h, hcb]; exact hdl
      have HM := Lib.hid hmes; have HC0 := Lib.hid hC0; have HC := Lib.hid hC; have HE := Lib.hid hE; have HST := Lib.hid hst
      have hown2 := hown.but hstep hlt0
      have hor := or_bit (numAt xs (m * wd) r) xs[m * wd + r] ⟨hN.1, by omega⟩ hx01
      have hN0 := hN.1
      clear hmes hC0 hC hE hst hbs hdr hg0 hex hcb hdl hown hN hbut hstep hM2
      generalize xs[m * wd + r] = x at *
      generalize numAt xs (m * wd) r = N at *
      generalize wr.setChan ch cap M2 true s (rc + 1) false = w2 at *
      have hx0 : 0 ≤ x := by omega
      have hx1 : x ≤ 1 := by omega
      clear hx01
      simp only [Act.put, List.setIfInBounds_toArray, List.set_cons_zero, List.set_cons_succ]
      by_cases he : r + 1 = wd
      · have het : ((r : Int) + 1 == wd) = true := by simp; omega
        have hsm : w.heap.size ≤ w2.heap.size := by omega
        have HS2 := Lib.hid hS; clear hS
        have hmw : (m + 1) * wd + 0 = m * wd + r + 1 := by rw [Nat.add_mul]; omega
        have HMW := Lib.hid hmw; clear hmw
        have HEL := Lib.hid (show elemsTo wd xs (m + 1) = elemsTo wd xs m ++ [N * 2 + x] by rw [elemsTo_succ, ← HST.out, he])
        have hme : m < 1000000 := by
          have : m * 1 ≤ m * wd := Nat.mul_le_mul_left m hwd.1
          omega
        have HE9 := Lib.hid he; clear he
        go_wp2_with (at_builtin; go_loud (refine append1I hown2 (by rw [elemsTo_len]; omega) (by omega) ?_ rfl rfl); intro v1 w3 hown3 hb3)
        refine ⟨⟨m + 1, 0, by have := HMW.out; omega, by omega, rfl, rfl, by rw [HEL.out]; exact hown3, by rw [HMW.out]; exact HC.out.low hb3 hlt0, HE.out.below hb3 (Nat.le_refl _), Nat.le_trans hsm hb3.size⟩, HM.out _ ((hb3.block ch hlt0).trans HC0.out)⟩
      · have het : ((r : Int) + 1 == wd) = false := by simp; omega
        go_wp2
        refine ⟨⟨m, r + 1, by omega, by omega, by rw [HST.out], by go_num, hown2, by rw [← Nat.add_assoc]; exact HC.out, HE.out, by omega⟩, HM.out _ HC0.out⟩
    · obtain hmr2 : m * wd + r = xs.length := by omega
      have hdn : xs.drop (m * wd + r) = [] := List.drop_of_length_le (by omega)
      rw [hdn] at hcb
      have hcb' : wr.heap[ch]? = some (.chan cap #[] true s rc false) := hcb
      have hdiv : xs.length / wd = m := by
        rw [← hmr2, Nat.add_comm, Nat.add_mul_div_right _ _ (by omega), Nat.div_eq_of_lt hr]
        omega
      go_upto_region 4 with (fail)
      refine wp_region_sem ?_
      refine ops_recv_shut (c := ch) rfl rfl rfl hu hz rfl hcb' ?_
      refine ops_value rfl rfl (by go_simp; first | exact ⟨rfl, rfl⟩ | rfl) ?_
      refine ops_nil ?_
      simp only [Act.put, List.setIfInBounds_toArray, List.set_cons_zero, List.set_cons_succ]
      have HF := Lib.hid (show elemsL wd xs = elemsTo wd xs m by unfold elemsL elemsTo; rw [hdiv])
      clear hcb hcb' hdiv hdn
      go_wp2
      go_ret
      exact ⟨⟨_, rfl, by rw [HF.out]; exact hown⟩, hbut⟩
end Go.Proofs.Ytbnpdpmbbppnhaa
