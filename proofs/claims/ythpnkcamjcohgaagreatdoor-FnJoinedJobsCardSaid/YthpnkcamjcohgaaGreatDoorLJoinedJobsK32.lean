/- slices.Repeat, at lists of numbers. -/
import Derived.Test.YthpnkcamjcohgaaGreatDoorLJoinedJobsK04
import Derived.Test.YthpnkcamjcohgaaGreatDoorLJoinedJobsK29
import Derived.Laws.IdiomCopy
import Derived.Deep.DeepCutAuto
namespace Go.Proofs.YthpnkcamjcohgaaGreatDoor
set_option linter.unusedVariables false
set_option linter.unusedSimpArgs false
open Go.RowKit

/-- The list xs, n times. -/
def repL (n : Nat) (xs : List Int) : List Int := (List.replicate n xs).flatten
theorem repL_len (n : Nat) (xs : List Int) : (repL n xs).length = xs.length * n := by simp [repL, Nat.mul_comm]
theorem repL_at {n : Nat} {xs : List Int} {i : Nat} (h : i < xs.length * n) : (repL n xs).getD i 0 = xs.getD (i % xs.length) 0 := by
  induction n generalizing i with
  | zero => omega
  | succ n ih =>
    have e : repL (n + 1) xs = xs ++ repL n xs := by simp [repL, List.replicate_succ]
    rw [e]
    by_cases hi : i < xs.length
    · rw [List.getD_eq_getElem?_getD, List.getElem?_append_left hi, Nat.mod_eq_of_lt hi, ← List.getD_eq_getElem?_getD]
    · have h2 : i - xs.length < xs.length * n := by rw [Nat.mul_succ] at h; omega
      have ih := ih h2
      rw [List.getD_eq_getElem?_getD] at ih ⊢
      rw [List.getElem?_append_right (by omega), ih, Nat.mod_eq_sub_mod (by omega : i ≥ xs.length)]
theorem repL_far {n : Nat} {xs : List Int} {i d : Nat} (h : i + d < xs.length * n) (hd : xs.length ∣ d) : (repL n xs).getD (i + d) 0 = (repL n xs).getD i 0 := by
  rw [repL_at h, repL_at (by omega)]
  obtain ⟨k, rfl⟩ := hd
  rw [Nat.add_mul_mod_self_left]
/-- The first k cells are filled. -/
structure RpS (w0 : World) (g L : Nat) (RL : List Int) (k : Nat) (wr : World) : Prop where
  ext : Ext w0 wr
  lt : g < wr.heap.size
  at_ : ∀ j, j < L → ∃ u : Int, wr.cell? ⟨g, j, none⟩ = some (.int .i64 u) ∧ (j < k → u = RL.getD j 0)
  free : ∀ j, wr.frozen? ⟨g, j, none⟩ = false
theorem ext_setCells {a : World} (b : Nat) (hb : a.heap.size ≤ b) : ∀ (vs : List Value) (o : Nat) {w : World}, Ext a w → Ext a (w.setCells b o vs)
  | [], _, _, h => h
  | v :: r, o, _, h => ext_setCells b hb r (o + 1) (h.setCell (p := ⟨b, o, none⟩) hb v)
theorem setCells_size (b : Nat) : ∀ (vs : List Value) (o : Nat) (w : World), (w.setCells b o vs).heap.size = w.heap.size
  | [], _, _ => rfl
  | v :: r, o, w => by
    show ((w.setCell ⟨b, o, none⟩ v).setCells b (o + 1) r).heap.size = _
    rw [setCells_size b r]
    simp [World.setCell]
/-- A stretch of the list is written behind what is filled. -/
theorem RpS.step {w0 wr : World} {g L k : Nat} {RL : List Int} (h : RpS w0 g L RL k wr) (hg : w0.heap.size ≤ g) (cs : List Value) (hc : k + cs.length ≤ L) (hv : ∀ j, j < cs.length → cs[j]? = some (.int .i64 (RL.getD (k + j) 0))) : RpS w0 g L RL (k + cs.length) (wr.setCells g k cs) := by
  refine ⟨ext_setCells g hg cs k h.ext, by rw [setCells_size]; exact h.lt, fun j hj => ?_, fun j => by rw [World.frozen?_setCells]; exact h.free j⟩
  by_cases h1 : k ≤ j ∧ j < k + cs.length
  · obtain ⟨d, rfl⟩ : ∃ d, j = k + d := ⟨j - k, by omega⟩
    have hd : d < cs.length := by omega
    refine ⟨RL.getD (k + d) 0, ?_, fun _ => rfl⟩
    rw [World.cell?_setCells_in g cs k wr (fun i hi => by obtain ⟨u, hu, _⟩ := h.at_ (k + i) (by omega); rw [hu]; rfl) d hd]
    have := hv d hd
    rw [List.getElem?_eq_getElem hd] at this
    exact this
  · obtain ⟨u, hu, hl⟩ := h.at_ j hj
    refine ⟨u, ?_, fun hjk => hl (by omega)⟩
    rw [World.cell?_setCells_out g cs k wr ⟨g, j, none⟩ (fun _ _ => by show j < k ∨ k + cs.length ≤ j; omega)]
    exact hu
theorem RpS.ints {w0 wr : World} {g L : Nat} {RL : List Int} (h : RpS w0 g L RL L wr) (hl : RL.length = L) : IntsAt wr (some ⟨g, 0, none⟩) RL := fun i hi => by
  obtain ⟨u, hu, he⟩ := h.at_ i (by omega)
  refine ⟨g, 0, rfl, h.lt, ?_⟩
  rw [Nat.zero_add, hu, he (by omega)]
section
variable {Q : Exit → Act → World → Prop} {K : Act → World → Prop} {a : Act} {dst : Option Tmp} {d s : Operand} {ty : TypeId} {pos : String} {after : Array Edge} {w0 w1 : World} {v u x : Value}
theorem copy_op (hr : (Builtin.copy_ #[28, 28] ty #[v, u]).run Tryz.prog w0 = .ok x w1) (h : K (a.put dst x) w1) (hd : a.eval d = v) (hs : a.eval s = u) :
    Oper.wp Tryz.prog ⟨dst, .call { callee := .builtin .copy, args := #[d, s], argTypes := #[28, 28] }, ty, pos, after, none⟩ a w0 K Q := by
  unfold Oper.wp execOp
  simp only [resolve, invoke, builtin, Sem.run_bind, Sem.run_pure, Result.andThen_ok, List.map_toArray, List.map_cons, List.map_nil, hd, hs, hr]
  exact h
theorem copy_ls {ops : Array Oper} {rest : List Oper} (hr : (Builtin.copy_ #[28, 28] ty #[v, u]).run Tryz.prog w0 = .ok x w1) (h : wpList Tryz.prog ops Q rest (a.put dst x) w1) (hd : a.eval d = v) (hs : a.eval s = u) :
    wpList Tryz.prog ops Q (⟨dst, .call { callee := .builtin .copy, args := #[d, s], argTypes := #[28, 28] }, ty, pos, after, none⟩ :: rest) a w0 :=
  wpList_plain rfl fun K hK => copy_op hr (hK _ _ h) hd hs
end
theorem infoInt1 : (Tryz.prog.info? 2).map (·.size) = some 1 := by kernel_rfl
theorem slice_from {g N k : Nat} (h : k < N) (W : World) : (Instr.slice 28 (.slice (some ⟨g, 0, none⟩) N N) (some (.int .i64 (k : Int))) none none).run Tryz.prog W = .ok (.slice (some ⟨g, k, none⟩) (N - k) (N - k)) W := by
  have hz : ∀ w, (Go.sizeOf 2).run Tryz.prog w = .ok 1 w := fun w => by kernel_rfl
  have he : Tryz.prog.elem 28 = 2 := by kernel_rfl
  rw [run_slice_l W 28 _ _ _ (by rw [he]; exact Tryz.underlying28) .i64 _ (by omega) (by omega), he, hz]
  have hne : ¬ N = k := by omega
  by_cases h0 : k = 0
  · subst h0
    simp [Result.andThen, sliced, Addr.add, hne]
  · simp [Result.andThen, sliced, Addr.add, hne, h0]
theorem slice_to {g N k : Nat} (h0 : 0 < k) (h : k ≤ N) (W : World) : (Instr.slice 28 (.slice (some ⟨g, 0, none⟩) N N) none (some (.int .i64 (k : Int))) none).run Tryz.prog W = .ok (.slice (some ⟨g, 0, none⟩) k N) W := by
  have hz : ∀ w, (Go.sizeOf 2).run Tryz.prog w = .ok 1 w := fun w => by kernel_rfl
  have he : Tryz.prog.elem 28 = 2 := by kernel_rfl
  rw [run_slice_h W 28 _ _ _ (by rw [he]; exact Tryz.underlying28) .i64 _ (by omega) (by omega), he, hz]
  have hne : ¬ N = 0 := by omega
  simp [Result.andThen, sliced, Addr.add, hne]
/-- The filled stretch is copied behind itself. -/
theorem RpS.grow {w0 wr : World} {g m n L k : Nat} {xs RL : List Int} (h : RpS w0 g L RL k wr) (hg : w0.heap.size ≤ g) (hk : k < L) (hk0 : 0 < k) (hRL : RL = repL n xs) (hL : xs.length * n = L) (hm : xs.length = m) (hd : m ∣ k) :
    ∃ cs : List Value, cs.length = min k (L - k) ∧ (Builtin.copy_ #[28, 28] 3 #[.slice (some ⟨g, k, none⟩) (L - k) (L - k), .slice (some ⟨g, 0, none⟩) k L]).run Tryz.prog wr = .ok (goInt cs.length) (wr.setCells g k cs) ∧ RpS w0 g L RL (k + cs.length) (wr.setCells g k cs) := by
  have hl : ((RL.take (min k (L - k))).map (Value.int .i64)).length = min k (L - k) := by
    rw [List.length_map, List.length_take, hRL, repL_len, hL]; omega
  have hget : ∀ j, j < min k (L - k) → ((RL.take (min k (L - k))).map (Value.int .i64))[j]? = some (.int .i64 (RL.getD j 0)) := fun j hj => by
    rw [List.getElem?_map, List.getElem?_take_of_lt hj, List.getElem?_eq_getElem (by rw [hRL, repL_len, hL]; omega), List.getD_eq_getElem?_getD, List.getElem?_eq_getElem (by rw [hRL, repL_len, hL]; omega)]
    rfl
  refine ⟨(RL.take (min k (L - k))).map (Value.int .i64), hl, ?_, h.step hg _ (by rw [hl]; omega) (fun j hj => ?_)⟩
  · exact run_copy_cells (P := Tryz.prog) wr 28 28 3 2 g k (L - k) (L - k) ⟨g, 0, none⟩ k L _ Tryz.underlying28 infoInt1 hl
      (fun j v hv => by
        have hj : j < min k (L - k) := by rw [← hl]; exact (List.getElem?_eq_some_iff.1 hv).1
        rw [hget j hj] at hv
        obtain rfl := Option.some.inj hv
        obtain ⟨u, hu, he⟩ := h.at_ j (by omega)
        rw [← he (by omega)]
        rw [addr_add, Nat.zero_add]; exact hu)
      (fun j hj => by
        rw [hl] at hj
        obtain ⟨u, hu, _⟩ := h.at_ (k + j) (by omega)
        rw [hu]; rfl)
      (fun j _ => h.free _)
      (fun v hv => by obtain ⟨x, _, rfl⟩ := List.mem_map.1 hv; rfl)
  · rw [hl] at hj
    rw [hget j hj, Nat.add_comm k j, hRL, repL_far (by omega) (by rw [hm]; exact hd)]
set_option maxHeartbeats 1600000 in
set_option maxRecDepth 100000 in
theorem repeat_c (p : Option Addr) (c n : Nat) (xs : List Int) (w : World) (hx : IntsAt w p xs) (hb : xs.length * n ≤ 40000) (hl : xs.length ≤ 40000) (hn : n ≤ 999999) :
    Calls Tryz.prog 29 #[.slice p xs.length c, .int .i64 n] w fun e w' => (∃ q d, e = .returned (.slice q (repL n xs).length d) ∧ IntsAt w' q (repL n xs)) ∧ Ext w w' := by
  have HX := Lib.hid hx; clear hx
  have hmul : ∀ W, Calls Tryz.prog 53 #[.int .u64 (xs.length : Nat), .int .u64 (n : Nat)] W fun e w' => e = .returned (.tuple #[.int .u64 0, .int .u64 ((xs.length * n : Nat) : Int)]) ∧ w' = W := fun W => by
    have h := Tryz.bits_Mul xs.length n (by omega) (by omega) W
    rw [Nat.div_eq_of_lt (by omega), Nat.mod_eq_of_lt (by omega)] at h
    exact h
  replace hmul := Lib.hid hmul
  have hRL := repL_len n xs
  have hfar := Lib.hid (fun i d => repL_far (n := n) (xs := xs) (i := i) (d := d))
  have hat := Lib.hid (fun i => repL_at (n := n) (xs := xs) (i := i))
  generalize hR : repL n xs = RL at *
  replace hR := Lib.hid hR
  obtain ⟨L, hL⟩ : ∃ L, xs.length * n = L := ⟨_, rfl⟩
  rw [hL] at hRL hb hmul
  have e1 := IntWalk.u64_in (xs.length : Int) ⟨by omega, by omega⟩
  have e2 := IntWalk.u64_in (n : Int) ⟨by omega, by omega⟩
  have e3 := IntWalk.i64_in (L : Int) (by omega)
  replace hL := Lib.hid hL; replace hRL := Lib.hid hRL
  have hn0 : ¬ (n : Int) < 0 := by omega
  have hLL : ¬ (9223372036854775807 : Int) < (L : Int) := by omega
  go_enter Tryz.func29, Tryz.ntmps29
  have hI1 : Tryz.prog.underlying 28 = some (.slice 2) := by kernel_rfl
  have hI2 := infoInt
  go_upto_region 7 with (first | (go_at_call 53; (with_reducible refine (hmul.out _).mono ?_); rintro e w' ⟨rfl, hww⟩; subst w') | (at_make; go_loud (refine make_blk hI1 hI2 L rfl rfl (by omega) (by omega) ?_)))
  clear hI1 hI2
  have hbk := Blk.new w (madeCells #[.int .i64 0] L) 2
  have hex : Ext w (w.alloc (.cells (madeCells #[.int .i64 0] L) 2)) := (Ext.refl w).alloc _
  have h0 : RpS w w.heap.size L RL 0 (w.alloc (.cells (madeCells #[.int .i64 0] L) 2)) := ⟨hex, hbk.lt, fun j hj => ⟨0, hbk.cell (i := j) (v := .int .i64 0) (by simp [madeCells, hj, Nat.mod_one]), fun h => by omega⟩, fun j => hbk.free j⟩
  clear hbk
  generalize w.alloc (.cells (madeCells #[.int .i64 0] L) 2) = w1 at *
  by_cases hL0 : L = 0
  · subst hL0
    have hcp := run_copy_none (P := Tryz.prog) w1 28 28 3 2 (some ⟨w.heap.size, 0, none⟩) p 0 0 xs.length c Tryz.underlying28 infoInt1 (by simp)
    go_wp2_with (at_builtin; go_loud (refine copy_ls hcp ?_ rfl rfl))
    go_loopw [8] (fun i wr => i = .int .i64 0 ∧ wr = w1) (fun i _ => 0)
    case atStart => exact ⟨rfl, rfl⟩
    case round =>
    obtain ⟨rfl, rfl⟩ := hrel
    go_wp2
    go_ret
    exact ⟨⟨_, _, by rw [hRL.out]; rfl, fun i hi => by rw [hRL.out] at hi; omega⟩, hex⟩
  · have hm0 : 0 < xs.length := by
      rcases Nat.eq_zero_or_pos xs.length with h | h
      · have := hL.out; rw [h, Nat.zero_mul] at this; omega
      · exact h
    have hn0' : 0 < n := by
      rcases Nat.eq_zero_or_pos n with h | h
      · have := hL.out; rw [h, Nat.mul_zero] at this; omega
      · exact h
    have hmL : xs.length ≤ L := by rw [← hL.out]; exact Nat.le_mul_of_pos_right _ hn0'
    obtain ⟨b, o, rfl, hbl, -⟩ := HX.out 0 hm0
    have hcl : (xs.map (Value.int .i64)).length = Nat.min xs.length L := by rw [List.length_map]; exact (Nat.min_eq_left hmL).symm
    have hcp := run_copy_cells (P := Tryz.prog) w1 28 28 3 2 w.heap.size 0 L L ⟨b, o, none⟩ xs.length c (xs.map (Value.int .i64)) Tryz.underlying28 infoInt1 hcl
      (fun j v hv => by
        rw [List.getElem?_map] at hv
        obtain ⟨x, hx, rfl⟩ := Option.map_eq_some_iff.1 hv
        obtain ⟨hj, hx⟩ := List.getElem?_eq_some_iff.1 hx
        obtain ⟨b', o', e, _, hc⟩ := (HX.out.ext hex) j hj
        simp only [Option.some.injEq, Addr.mk.injEq, and_true] at e
        obtain ⟨rfl, rfl⟩ := e
        rw [List.getD_eq_getElem?_getD, List.getElem?_eq_getElem hj, hx] at hc
        rw [addr_add]; exact hc)
      (fun j hj => by
        rw [List.length_map] at hj
        obtain ⟨u, hu, _⟩ := h0.at_ (0 + j) (by omega)
        rw [hu]; rfl)
      (fun j _ => h0.free _)
      (fun v hv => by obtain ⟨x, _, rfl⟩ := List.mem_map.1 hv; rfl)
    have h1 := h0.step (Nat.le_refl _) (xs.map (Value.int .i64)) (by rw [List.length_map]; omega) (fun j hj => by
      rw [List.length_map] at hj
      rw [List.getElem?_map, List.getElem?_eq_getElem hj, Nat.zero_add, hat.out j (by rw [hL.out]; omega), Nat.mod_eq_of_lt hj, List.getD_eq_getElem?_getD, List.getElem?_eq_getElem hj]
      rfl)
    rw [List.length_map, Nat.zero_add] at h1
    rw [List.length_map] at hcp
    generalize w1.setCells w.heap.size 0 (xs.map (Value.int .i64)) = w2 at *
    clear h0 hcl hex hat hfar hmul
    go_wp2_with (at_builtin; go_loud (refine copy_ls hcp ?_ rfl rfl))
    go_loopw [8] (fun i wr => ∃ k : Nat, k ≤ L ∧ 0 < k ∧ i = .int .i64 k ∧ (k < L → xs.length ∣ k) ∧ RpS w w.heap.size L RL k wr) (fun i _ => L - (intOf i).toNat)
    case atStart => exact ⟨xs.length, hmL, hm0, rfl, fun _ => Nat.dvd_refl _, h1⟩
    case round =>
      clear h1 hcp
      obtain ⟨k, hk, hk0, rfl, hd, hr⟩ := hrel
      by_cases hlt : k < L
      · have hkL : (k : Int) < L := by omega
        have s1 := slice_from (g := w.heap.size) hlt
        have s2 := slice_to (g := w.heap.size) hk0 hk
        have hr2 : RpS w w.heap.size L RL k wr.drew := ⟨hr.ext.drew, hr.lt, hr.at_, hr.free⟩
        obtain ⟨cs, hcs, hcp, hst⟩ := hr2.grow (Nat.le_refl _) hlt hk0 hR.out.symm hL.out rfl (hd hlt)
        have hd' : k + cs.length < L → xs.length ∣ k + cs.length := fun h => by
          have : cs.length = k := by omega
          rw [this]; exact Nat.dvd_add (hd hlt) (hd hlt)
        have e5 := IntWalk.i64_in ((k : Int) + (cs.length : Nat)) (by omega)
        have hpos : 0 < cs.length := by omega
        replace hcs := Lib.hid hcs
        clear hd
        go_upto_region 9 with (fail)
        refine wp_region_canon (fun w' => w' = wr.drew ∨ w' = wr.drew.setCells w.heap.size k cs) [(0, true), (1, true), (2, true), (3, true), (4, true), (5, true), (6, true), (7, false), (8, true), (9, true)] (by kernel_rfl) (by kernel_rfl) (by decide) (by kernel_rfl) ?_ ?_
        · exact .inl rfl
        refine canon_intro fun ops eo => ?_
        have ho0 := canon_at eo 0 rfl
        have ho1 := canon_at eo 1 rfl
        have ho2 := canon_at eo 2 rfl
        have ho3 := canon_at eo 3 rfl
        have ho4 := canon_at eo 4 rfl
        have ho5 := canon_at eo 5 rfl
        have ho6 := canon_at eo 6 rfl
        have ho7 := canon_at eo 7 rfl
        have ho8 := canon_at eo 8 rfl
        have ho9 := canon_at eo 9 rfl
        clear eo
        all_goals (apply canon_st ho0 rfl; (intro w2 hS; first | (go_simp; first | done | rfl) | rfl | (skip; go_simp; first | done | rfl)); simp only [Act.put, List.setIfInBounds_toArray, List.set_cons_zero, List.set_cons_succ])
        all_goals clear ho0
        all_goals (apply canon_st ho1 rfl; (intro w2 hS; first | (go_simp; first | done | rfl) | rfl | (skip; go_simp; first | done | rfl)); simp only [Act.put, List.setIfInBounds_toArray, List.set_cons_zero, List.set_cons_succ])
        all_goals clear ho1
        all_goals (apply canon_st ho2 rfl; (intro w2 hS; first | (go_simp; first | done | rfl) | rfl | (skip; go_simp; first | done | rfl)); simp only [Act.put, List.setIfInBounds_toArray, List.set_cons_zero, List.set_cons_succ])
        all_goals clear ho2
        all_goals (apply canon_st ho3 rfl; (intro w2 hS; first | (go_simp; first | done | rfl) | rfl | (skip; go_simp; first | done | rfl)); simp only [Act.put, List.setIfInBounds_toArray, List.set_cons_zero, List.set_cons_succ])
        all_goals clear ho3
        all_goals (apply canon_st ho4 rfl; (intro w2 hS; first | (go_simp; first | done | rfl) | rfl | (skip; go_simp; first | done | rfl)); simp only [Act.put, List.setIfInBounds_toArray, List.set_cons_zero, List.set_cons_succ])
        all_goals clear ho4
        all_goals (apply canon_st ho5 rfl; (intro w2 hS; first | (go_simp; first | done | rfl) | rfl | (skip; go_simp; first | done | rfl)); simp only [Act.put, List.setIfInBounds_toArray, List.set_cons_zero, List.set_cons_succ])
        all_goals clear ho5
        all_goals (apply canon_st ho6 rfl; (intro w2 hS; first | (go_simp; first | done | rfl) | rfl | (skip; go_simp; first | done | rfl)); simp only [Act.put, List.setIfInBounds_toArray, List.set_cons_zero, List.set_cons_succ])
        all_goals clear ho6
        all_goals first | (refine canon_ef ho7 rfl (fun K hK => ?_); (refine copy_op hcp ?_ rfl rfl); all_goals (refine hK _ _ ⟨.inr rfl, ?_⟩; clear hK K; go_simp))
        all_goals clear ho7
        all_goals (apply canon_st ho8 rfl; (intro w2 hS; first | (go_simp; first | done | rfl) | rfl | (skip; go_simp; first | done | rfl)); simp only [Act.put, List.setIfInBounds_toArray, List.set_cons_zero, List.set_cons_succ])
        all_goals clear ho8
        all_goals (apply canon_st ho9 rfl; (intro w2 hS; first | (go_simp; first | done | rfl) | rfl | (skip; go_simp; first | done | rfl)); simp only [Act.put, List.setIfInBounds_toArray, List.set_cons_zero, List.set_cons_succ])
        all_goals clear ho9
        all_goals refine canon_done (NoPanic.normal ?_)
        go_wp2
        go_roundw
        case rel => exact ⟨k + cs.length, by have := hcs.out; omega, by omega, by go_num, hd', hst⟩
        case measure => simp [intOf]; omega
      · obtain rfl : k = L := by omega
        go_wp2
        go_ret
        exact ⟨⟨_, _, by rw [hRL.out]; rfl, hr.ints hRL.out⟩, hr.ext⟩
end Go.Proofs.YthpnkcamjcohgaaGreatDoor
