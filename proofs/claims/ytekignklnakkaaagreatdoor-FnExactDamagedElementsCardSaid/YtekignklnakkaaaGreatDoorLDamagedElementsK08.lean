/- Stacked symbols, the reference's side: the list of patterns. -/
import Derived.Test.YtekignklnakkaaaGreatDoorLDamagedElementsK07
import Derived.Test.YtekignklnakkaaaGreatDoorLDamagedElementsK03
import Derived.Deep.DeepCutAuto
set_option linter.unusedVariables false
set_option linter.unusedSimpArgs false
namespace Go.Proofs.YtekignklnakkaaaGreatDoor
open Go.RowKit

abbrev SL := Option Addr × Nat × Nat
def slF (x : SL) : List Value := [.slice x.1 x.2.1 x.2.2]
theorem slF_len (x : SL) : (slF x).length = 1 := rfl
theorem slF_one (x : SL) : ∀ u ∈ slF x, u.oneCell' = true := by
  intro u hu
  simp only [slF, List.mem_cons, List.not_mem_nil, or_false] at hu
  subst hu
  rfl
theorem infoSl : (Tryz.prog.info? 24).map (fun i => (i.zero, i.size, i.bytes)) = some (some (.slice none 0 0), 1, 24) := by kernel_rfl
def LLs (B : Nat) (w : World) (v : Value) (Ls : List (List Int)) : Prop :=
  ∃ vs : List SL, RowS 24 slF 1 B w v vs ∧ vs.length = Ls.length ∧ ∀ i, i < Ls.length → ∃ q c, vs.getD i (none, 0, 0) = (q, (Ls.getD i []).length, c) ∧ IntsAt w q (Ls.getD i []) ∧ ∀ b o, q = some ⟨b, o, none⟩ → B ≤ b ∧ b < w.heap.size ∧ v.ownBlock ≠ some b
section
variable {B : Nat} {w w' : World} {v v' : Value} {Ls : List (List Int)}
theorem LLs.made (hB : B ≤ w.heap.size) : LLs B (w.alloc (.cells #[] 24)) (.slice (some ⟨w.heap.size, 0, none⟩) 0 0) [] :=
  ⟨[], RowS.made 24 hB, rfl, fun i hi => absurd hi (Nat.not_lt_zero i)⟩
theorem LLs.mono {B' : Nat} (h : LLs B w v Ls) (hB : B' ≤ B) : LLs B' w v Ls := by
  obtain ⟨vs, h1, h2, h3⟩ := h
  refine ⟨vs, h1.mono hB, h2, fun i hi => ?_⟩
  obtain ⟨q, c, h4, h5, h6⟩ := h3 i hi
  exact ⟨q, c, h4, h5, fun b o e => ⟨Nat.le_trans hB (h6 b o e).1, (h6 b o e).2⟩⟩
theorem LLs.lt (h : LLs B w v Ls) : ∀ k, v.ownBlock = some k → B ≤ k ∧ k < w.heap.size := by
  obtain ⟨vs, h1, _⟩ := h
  exact h1.lt
theorem LLs.seg (h : LLs B w v Ls) (hk : ∀ k, B ≤ k → k < w.heap.size → w'.heap[k]? = w.heap[k]?) (hs : w.heap.size ≤ w'.heap.size) : LLs B w' v Ls := by
  obtain ⟨vs, h1, h2, h3⟩ := h
  refine ⟨vs, ⟨h1.1, ?_⟩, h2, fun i hi => ?_⟩
  · rcases h1.2 with h4 | ⟨g, cap, cur, hv, hg, hh, r⟩
    · exact .inl h4
    · exact .inr ⟨g, cap, cur, hv, hg, (hk g hg (Array.getElem?_eq_some_iff.1 hh).1).trans hh, r⟩
  · obtain ⟨q, c, h4, h5, h6⟩ := h3 i hi
    refine ⟨q, c, h4, fun j hj => ?_, fun b o e => ⟨(h6 b o e).1, Nat.lt_of_lt_of_le (h6 b o e).2.1 hs, (h6 b o e).2.2⟩⟩
    obtain ⟨b, o, e, h7, h8⟩ := h5 j hj
    exact ⟨b, o, e, Nat.lt_of_lt_of_le h7 hs, by rw [World.cell?_of_block (w := w) (a := ⟨b, o + j, none⟩) (hk b (h6 b o e).1 h7)]; exact h8⟩
theorem LLs.ext (h : LLs B w v Ls) (hx : Ext w w') : LLs B w' v Ls := h.seg (fun k _ h2 => hx.below.block k h2) hx.size
theorem IntsAt.grewV {q : Option Addr} {xs : List Int} (h : IntsAt w q xs) (hg : Grew v w w' v') (hne : ∀ b o, q = some ⟨b, o, none⟩ → v.ownBlock ≠ some b) : IntsAt w' q xs := fun i hi => by
  obtain ⟨b, o, e, h7, h8⟩ := h i hi
  exact ⟨b, o, e, Nat.lt_of_lt_of_le h7 hg.by_.size, by rw [World.cell?_of_block (w := w) (a := ⟨b, o + i, none⟩) (hg.by_.block b h7 (fun e2 => hne b o e e2.symm))]; exact h8⟩
theorem LLs.at (h : LLs B w v Ls) {i : Nat} (hi : i < Ls.length) : ∃ g ca q c, v = .slice (some ⟨g, 0, none⟩) Ls.length ca ∧ g < w.heap.size ∧ w.cell? ⟨g, i, none⟩ = some (.slice q (Ls.getD i []).length c) ∧ IntsAt w q (Ls.getD i []) := by
  obtain ⟨vs, h1, h2, h3⟩ := h
  obtain ⟨q, c, h4, h5, h6⟩ := h3 i hi
  obtain ⟨p, ca, hv, ho⟩ := h1.own slF_len
  obtain ⟨g, o, rfl, _, hl, hc, _⟩ := ho i (by omega)
  rcases h1.2 with ⟨h7, h8⟩ | ⟨g', cap, cur, hv', _⟩
  · omega
  · rw [hv'] at hv
    injection hv with e1 e2 e3
    injection e1 with e1
    injection e1 with e4 e5 e6
    subst e4; subst e5; subst e3
    refine ⟨g', cap, q, c, by rw [hv', h2], hl, ?_, h5⟩
    have := hc 0 (.slice q (Ls.getD i []).length c) (by
      have : vs[i]'(by omega) = (q, (Ls.getD i []).length, c) := by rw [← h4, List.getD_eq_getElem?_getD, List.getElem?_eq_getElem (by omega)]; rfl
      rw [this]
      rfl)
    simpa using this
theorem LLs.len (h : LLs B w v Ls) : ∃ p ca, v = .slice p Ls.length ca := by
  obtain ⟨vs, h1, h2, h3⟩ := h
  obtain ⟨p, ca, hv, ho⟩ := h1.own slF_len
  exact ⟨p, ca, by rw [hv, h2]⟩
theorem RowI.one {n : Int} (hB : B ≤ w.heap.size) : RowI B (w.alloc (.cells #[.int .i64 n] 2)) (.slice (some ⟨w.heap.size, 0, none⟩) 1 1) [n] :=
  ⟨rfl, .inr ⟨w.heap.size, 1, #[.int .i64 n], rfl, hB, (MapKept.heap_alloc w _).1, Nat.le_refl _, by unfold maxLen; omega, rfl, rfl⟩⟩
theorem LLs.one {n : Int} : LLs w.heap.size ((w.alloc (.cells #[.int .i64 n] 2)).alloc (.cells #[.slice (some ⟨w.heap.size, 0, none⟩) 1 1] 24)) (.slice (some ⟨w.heap.size + 1, 0, none⟩) 1 1) [[n]] := by
  refine ⟨[(some ⟨w.heap.size, 0, none⟩, 1, 1)], ⟨rfl, .inr ⟨w.heap.size + 1, 1, #[.slice (some ⟨w.heap.size, 0, none⟩) 1 1], rfl, by omega, ?_, Nat.le_refl _, by unfold maxLen; omega, rfl, rfl⟩⟩, rfl, fun i hi => ?_⟩
  · have := (MapKept.heap_alloc (w.alloc (.cells #[.int .i64 n] 2)) (.cells #[.slice (some ⟨w.heap.size, 0, none⟩) 1 1] 24)).1
    rwa [World.size_alloc] at this
  · obtain rfl : i = 0 := by simpa using hi
    refine ⟨some ⟨w.heap.size, 0, none⟩, 1, rfl, (IntsAt_alloc w [n] 2).ext ((Ext.refl _).alloc _), fun b o e => ?_⟩
    injection e with e
    injection e with e1 e2 e3
    subst e1
    exact ⟨Nat.le_refl _, by simp; omega, fun h => absurd (Option.some.inj h) (by show ¬ (w.heap.size + 1 = w.heap.size); omega)⟩
end
section
variable {ops : Array Oper} {Q : Exit → Act → World → Prop} {rest : List Oper} {a : Act} {dst : Option Tmp} {s x : Operand} {ty : TypeId} {pos : String} {after : Array Edge} {B : Nat} {w0 : World} {v : Value} {Ls : List (List Int)} {l : List Int} {p : Option Addr} {c : Nat}
theorem append1L (h0 : LLs B w0 v Ls) (hp : IntsAt w0 p l) (hb : ∀ b o, p = some ⟨b, o, none⟩ → B ≤ b ∧ b < w0.heap.size ∧ v.ownBlock ≠ some b) (hlen : Ls.length < 1000000) (hB : B ≤ w0.heap.size)
    (h : ∀ v' w', LLs B w' v' (Ls ++ [l]) → Grew v w0 w' v' → wpList Tryz.prog ops Q rest (a.put dst v') w') (hs : a.eval s = v) (hx : a.eval x = .slice (some ⟨w0.heap.size, 0, none⟩) 1 1) :
    wpList Tryz.prog ops Q (⟨dst, .call { callee := .builtin .append, args := #[s, x], argTypes := #[84, 84] }, ty, pos, after, none⟩ :: rest) a (w0.alloc (.cells #[.slice p l.length c] 24)) := by
  obtain ⟨vs, h1, h2, h3⟩ := h0
  refine appendSG (f := slF) (ns := [(p, l.length, c)]) Tryz.underlying84 infoSl rfl (by omega) (by omega) slF_len slF_one 1 rfl h1 (by omega) hB rfl ?_ hs hx
  intro v' w' hr hg
  refine h v' w' ⟨vs ++ [(p, l.length, c)], hr, by simp [h2], fun i hi => ?_⟩ hg
  rw [List.length_append, List.length_singleton] at hi
  rcases Nat.lt_or_ge i Ls.length with hlt | hge
  · obtain ⟨q, c', h4, h5, h6⟩ := h3 i hlt
    have e1 : (Ls ++ [l]).getD i [] = Ls.getD i [] := by rw [List.getD_eq_getElem?_getD, List.getElem?_append_left hlt, ← List.getD_eq_getElem?_getD]
    have e2 : (vs ++ [(p, l.length, c)]).getD i (none, 0, 0) = vs.getD i (none, 0, 0) := by rw [List.getD_eq_getElem?_getD, List.getElem?_append_left (by omega), ← List.getD_eq_getElem?_getD]
    rw [e1, e2]
    refine ⟨q, c', h4, h5.grewV hg (fun b o e => (h6 b o e).2.2), fun b o e => ⟨(h6 b o e).1, Nat.lt_of_lt_of_le (h6 b o e).2.1 hg.by_.size, fun e3 => ?_⟩⟩
    rcases hg.own b e3 with h7 | h7
    · exact (h6 b o e).2.2 h7
    · have := (h6 b o e).2.1; omega
  · obtain rfl : i = Ls.length := by omega
    have e1 : (Ls ++ [l]).getD Ls.length [] = l := by rw [List.getD_eq_getElem?_getD, List.getElem?_append_right (Nat.le_refl _)]; simp
    have e2 : (vs ++ [(p, l.length, c)]).getD Ls.length (none, 0, 0) = (p, l.length, c) := by rw [List.getD_eq_getElem?_getD, List.getElem?_append_right (by omega), h2]; simp
    rw [e1, e2]
    refine ⟨p, c, rfl, hp.grewV hg (fun b o e => (hb b o e).2.2), fun b o e => ⟨(hb b o e).1, Nat.lt_of_lt_of_le (hb b o e).2.1 hg.by_.size, fun e3 => ?_⟩⟩
    rcases hg.own b e3 with h7 | h7
    · exact (hb b o e).2.2 h7
    · have := (hb b o e).2.1; omega
end
def SegV (B : Nat) (w3 w4 : World) (v : Value) : Prop := w3.heap.size ≤ w4.heap.size ∧ ∀ k, B ≤ k → k < w3.heap.size → w4.heap[k]? = w3.heap[k]? ∧ v.ownBlock ≠ some k
theorem SegV.next {B : Nat} {w3 w4 w5 w6 : World} {v v' : Value} (h : SegV B w3 w4 v) (hx : Ext w4 w5) (hg : Grew v w5 w6 v') : SegV B w3 w6 v' := by
  have hs := hx.size
  have hs2 := hg.by_.size
  refine ⟨by have := h.1; omega, fun k hk hk3 => ?_⟩
  obtain ⟨h1, h2⟩ := h.2 k hk hk3
  have h4 : k < w4.heap.size := by have := h.1; omega
  refine ⟨((hg.by_.block k (by omega) (fun e => h2 e.symm)).trans (hx.below.block k h4)).trans h1, fun e => ?_⟩
  rcases hg.own k e with h3 | h3
  · exact h2 h3
  · omega
theorem pats_bd : ∀ p, p < 8 → ∀ s, s < 12 → (pats (p + 1) s).length ≤ 1000 := by decide +kernel
set_option maxHeartbeats 1600000 in
set_option maxRecDepth 100000 in
theorem l17Patterns_c : ∀ (p s : Nat) (w : World), p < 8 → s < 12 →
    Calls Tryz.prog 204 #[.int .i64 ((p : Int) + 1), .int .i64 s] w fun e w' => (∃ v, e = .returned v ∧ LLs w.heap.size w' v (pats (p + 1) s)) ∧ Ext w w' := by
  intro p
  induction p with
  | zero =>
    intro s w hp hs
    have h1 := LLs.one (w := w) (n := s)
    have hx : Ext w ((w.alloc (.cells #[.int .i64 s] 2)).alloc (.cells #[.slice (some ⟨w.heap.size, 0, none⟩) 1 1] 24)) := ((Ext.refl w).alloc _).alloc _
    rw [show ((0 : Nat) : Int) + 1 = 1 from rfl]
    go_enter Tryz.func204, Tryz.ntmps204
    go_wp2
    go_ret
    exact ⟨⟨_, rfl, h1⟩, hx⟩
  | succ p ih =>
    intro s w hp hs
    have hbd := pats_bd (p + 1) (by omega) s hs
    have hall := pxTo_all [] p s
    rw [show (fun x : List Int => [] ++ x) = id from rfl, List.map_id] at hall
    rw [← hall] at hbd ⊢
    have hroom := Lib.hid (fun j (hj : j < s - (p + 1)) => pxTo_room [] p s j hj)
    rw [← hall] at hroom
    have hih := Lib.hid (fun s' W (hs' : s' < 12) => ih s' W (by omega) hs')
    clear hall ih
    have h10 : (((p + 1 : Nat) : Int) + 1 == 1) = false := by simp; omega
    rw [show (((p + 1 : Nat)) : Int) = (p : Int) + 1 from by omega] at h10 ⊢
    have hm0 := LLs.made (B := w.heap.size) (w := w) (Nat.le_refl _)
    have hx0 : Ext w (w.alloc (.cells #[] 24)) := (Ext.refl w).alloc _
    obtain ⟨PX, hPX⟩ : ∃ PX, pxTo [] p s = PX := ⟨_, rfl⟩
    rw [hPX] at hbd hroom ⊢
    replace hPX := Lib.hid hPX
    go_enter Tryz.func204, Tryz.ntmps204
    go_wp2
    go_loopw [5, 6] (fun v f wr => ∃ j : Nat, j ≤ s - (p + 1) ∧ f = .int .i64 ((j : Int) + 1) ∧ LLs w.heap.size wr v (PX j) ∧ Ext w wr) (fun _ f _ => 1000 - (intOf f).toNat)
    case atStart => exact ⟨0, Nat.zero_le _, rfl, by rw [← hPX.out]; exact hm0, hx0⟩
    case round =>
      clear hm0 hx0
      obtain ⟨j, hj, rfl, hL, hext⟩ := hrel
      by_cases hlt : j < s - (p + 1)
      · have hc := hih.out (s - (j + 1)) wr (by omega)
        have hst : PX (j + 1) = PX j ++ (pats (p + 1) (s - (j + 1))).map (([] ++ [((j + 1 : Nat) : Int)]) ++ ·) := by rw [← hPX.out]; exact pxTo_succ [] p s j
        have hrm := hroom.out j hlt
        rw [show (((s - (j + 1) : Nat)) : Int) = (s : Int) - ((j : Int) + 1) from by omega] at hc
        have hRl := pats_len p (s - (j + 1))
        generalize pats (p + 1) (s - (j + 1)) = Rs at *
        rw [show (((j + 1 : Nat)) : Int) = (j : Int) + 1 from by omega] at hst
        replace hst := Lib.hid hst
        replace hc := Lib.hid hc
        obtain ⟨L0, hL0⟩ : ∃ L0, PX j = L0 := ⟨_, rfl⟩
        rw [hL0] at hL hst hrm
        replace hL0 := Lib.hid hL0
        go_upto_region 9 with (go_at_call 204; go_loud ((with_reducible refine (hc.out).mono ?_); rintro e w3 ⟨⟨v7, rfl, hR⟩, hx3⟩; obtain ⟨p7, c7, rfl⟩ := hR.len))
        obtain ⟨wo, rfl⟩ : ∃ wo : World, wo = wr := ⟨_, rfl⟩
        have hxw := hext.trans hx3
        have hL3 := hL.ext hx3
        have hS3 : SegV wo.heap.size w3 w3 u5 := ⟨Nat.le_refl _, fun k hk _ => ⟨rfl, fun e => absurd (hL.lt k e).2 (by omega)⟩⟩
        go_loopw [5, 8] (fun v i wr => ∃ k : Nat, k ≤ Rs.length ∧ i = .int .i64 k ∧ LLs w.heap.size wr v (L0 ++ (Rs.take k).map (([] ++ [(j : Int) + 1]) ++ ·)) ∧ SegV wo.heap.size w3 wr v ∧ Ext w wr) (fun _ i _ => Rs.length - (intOf i).toNat)
        case atStart => exact ⟨0, Nat.zero_le _, rfl, by simpa using hL3, hS3, hxw⟩
        case round =>
          clear hL3 hS3 hxw hL hc
          obtain ⟨k, hk, rfl, hL4, hS4, hx4⟩ := hrel
          by_cases hltk : k < Rs.length
          · obtain ⟨g, ca, q, c, e7, hgl, hqc, hqi⟩ := (hR.seg (fun k h1 h2 => (hS4.2 k h1 h2).1) hS4.1).at hltk
            injection e7 with e1 e2 e3
            subst e1; subst e3
            clear e2
            have hstk : L0 ++ (Rs.take (k + 1)).map (([] ++ [(j : Int) + 1]) ++ ·) = L0 ++ (Rs.take k).map (([] ++ [(j : Int) + 1]) ++ ·) ++ [[(j : Int) + 1] ++ Rs.getD k []] := by
              rw [List.take_succ_eq_append_getElem hltk, List.map_append, List.append_assoc, List.getD_eq_getElem?_getD, List.getElem?_eq_getElem hltk]
              rfl
            have hll : (L0 ++ (Rs.take k).map (([] ++ [(j : Int) + 1]) ++ ·)).length ≤ 1000 := by
              rw [List.length_append, List.length_map, List.length_take]; omega
            have hrow1 := RowI.one (B := wr.heap.size) (w := wr) (n := (j : Int) + 1) (Nat.le_refl _)
            have hx41 := (Ext.refl wr).alloc (.cells #[.int .i64 ((j : Int) + 1)] 2)
            have hqi1 := hqi.ext hx41
            have hown1 : ∀ z, (Value.slice (some ⟨wr.heap.size, 0, none⟩) 1 1).ownBlock = some z → wr.heap.size ≤ z := fun z hz => Nat.le_of_eq (Option.some.inj hz)
            replace hstk := Lib.hid hstk
            generalize L0 ++ (Rs.take k).map (([] ++ [(j : Int) + 1]) ++ ·) = L4 at *
            have hql : (Rs.getD k []).length ≤ 100000 := by rw [List.getD_eq_getElem?_getD, List.getElem?_eq_getElem hltk]; show (Rs[k]).length ≤ _; rw [hRl _ (List.getElem_mem hltk)]; omega
            generalize Rs.getD k [] = l at *
            have hvl := hL4.lt
            have hwB : w.heap.size ≤ wr.heap.size := hx4.size
            go_wp2_with (first
              | (at_builtin; (refine appendLI hrow1 hqi1 (by simp; omega) (by simp) ?_ rfl rfl); intro v8 w5 hr8 hg8; have hx45 := hg8.toExt hx41 hown1; have hL5 := hL4.ext hx45; have hn8 := hr8.lt; obtain ⟨p8, c8, rfl, ho8, -⟩ := hr8.ownC; have hB5 := hx45.size; have hb8 : ∀ b o, p8 = some ⟨b, o, none⟩ → w.heap.size ≤ b ∧ b < w5.heap.size ∧ u5.ownBlock ≠ some b := (fun b o e => have h1 := hn8 b (by rw [e]; rfl); ⟨Nat.le_trans hwB h1.1, h1.2, fun e2 => absurd (hvl b e2).2 (Nat.not_lt.2 h1.1)⟩))
              | (at_builtin; go_loud (refine append1L hL5 ho8.ints hb8 (by omega) (Nat.le_trans hwB hB5) ?_ rfl rfl); intro v9 w6 hL9 hg9))
            exact ⟨⟨k + 1, hltk, by go_num, by rw [hstk.out]; exact hL9, hS4.next hx45 hg9, hg9.toExt (hx4.trans hx45) (fun z hz => (hvl z hz).1)⟩, by simp [intOf]; omega⟩
          · obtain rfl : k = Rs.length := by omega
            rw [List.take_length, ← hst.out] at hL4
            go_wp2
            exact ⟨⟨j + 1, hlt, by go_num, hL4, hx4⟩, by simp [intOf]; omega⟩
      · obtain rfl : j = s - (p + 1) := by omega
        go_wp2
        go_ret
        exact ⟨⟨_, rfl, hL⟩, hext⟩
theorem l17All_c (w : World) : Calls Tryz.prog 183 #[] w fun e w' => (∃ v, e = .returned v ∧ LLs w.heap.size w' v PAT) ∧ Ext w w' := by
  have hc := Lib.hid (l17Patterns_c 7 11 w (by omega) (by omega))
  rw [show ((7 : Nat) : Int) + 1 = 8 from rfl, show ((11 : Nat) : Int) = 11 from rfl] at hc
  go_enter Tryz.func183, Tryz.ntmps183
  go_wp2_with (go_at_call 204; (with_reducible refine (hc.out).mono ?_); rintro e w3 ⟨⟨v7, rfl, hR⟩, hx3⟩)
  go_ret
  exact ⟨⟨_, rfl, hR⟩, hx3⟩
end Go.Proofs.YtekignklnakkaaaGreatDoor
