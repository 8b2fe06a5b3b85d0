/- The runs of a row, as the program yields them. -/
import Derived.Test.YthpnkcamjcohgaaGreatDoorLJobsReadK17
import Derived.RangeFuncNested
import Derived.RangeFuncBound
import Derived.RangeFuncCalls
import Derived.RangeFuncLeaves
import Derived.Shelf.Abstract
import Derived.OwnWalkIn
import Derived.TacticsInMore
import Derived.LoopNIn
import Derived.LoopIn
import Derived.Sort.QuietIn
namespace Go.Proofs.YthpnkcamjcohgaaGreatDoor
set_option linter.unusedVariables false
set_option linter.unusedSimpArgs false
open Go.RowKit Go.Shelf

/-- A list in memory that lies below B. -/
def LowI (B : Nat) (w : World) (p : Option Addr) (xs : List Int) : Prop :=
  ∀ i, i < xs.length → ∃ b o, p = some ⟨b, o, none⟩ ∧ b < B ∧ b < w.heap.size ∧ w.cell? ⟨b, o + i, none⟩ = some (.int .i64 (xs.getD i 0))
theorem LowI.ints {B : Nat} {w : World} {p : Option Addr} {xs : List Int} (h : LowI B w p xs) : IntsAt w p xs := fun i hi => by
  obtain ⟨b, o, h1, _, h2, h3⟩ := h i hi
  exact ⟨b, o, h1, h2, h3⟩
theorem LowI.below {B : Nat} {w w' : World} {p : Option Addr} {xs : List Int} (h : LowI B w p xs) (hb : Below B w w') : LowI B w' p xs := fun i hi => by
  obtain ⟨b, o, h1, h0, h2, h3⟩ := h i hi
  exact ⟨b, o, h1, h0, Nat.lt_of_lt_of_le h2 hb.size, (hb.cell (p := ⟨b, o + i, none⟩) h0).trans h3⟩
theorem LowI.of {B : Nat} {w w' : World} {p : Option Addr} {xs : List Int} (h : IntsAt w p xs) (hx : Ext w w') (hB : w.heap.size ≤ B) : LowI B w' p xs := fun i hi => by
  obtain ⟨b, o, h1, h2, h3⟩ := h i hi
  exact ⟨b, o, h1, by omega, Nat.lt_of_lt_of_le h2 hx.below.size, (hx.below.cell (p := ⟨b, o + i, none⟩) h2).trans h3⟩
/-- A run: where it begins, its length (at most 40000), whether it is dark. -/
abbrev Rn := Nat × Nat × Bool
def Rn.len (r : Rn) : Nat := min r.2.1 40000
def Rn.enc (r : Rn) : Value := .agg #[.int .i64 r.1, .int .i64 r.len, .bool r.2.2]
/-- The runs that end before cell k. -/
def rnL (xs : List Int) : Nat → List Rn
  | 0 => []
  | k + 1 => if k + 1 = xs.length ∨ xs.getD (k + 1) 0 ≠ xs.getD k 0 then rnL xs k ++ [(k - penR xs k, penR xs k + 1, decide (xs.getD k 0 = 1))] else rnL xs k
def txR (s : ByteArray) (rs : List Rn) : ByteArray := rs.foldl (fun s r => s ++ dec r.len ++ letB (if r.2.2 then 1 else 0)) s
theorem txR_snoc (s : ByteArray) (rs : List Rn) (r : Rn) : txR s (rs ++ [r]) = txR s rs ++ dec r.len ++ letB (if r.2.2 then 1 else 0) := by simp [txR]
theorem txR_row {xs : List Int} (s : ByteArray) (hz : z1 xs) (h4 : xs.length ≤ 40000) : ∀ k, k ≤ xs.length → txR s (rnL xs k) = s ++ rowR xs k
  | 0, _ => by
    show s = s ++ ByteArray.empty
    apply ByteArray.ext; simp
  | k + 1, hk => by
    have ih := txR_row s hz h4 k (by omega)
    have hp := penR_le xs k
    by_cases hc : k + 1 = xs.length ∨ xs.getD (k + 1) 0 ≠ xs.getD k 0
    · rw [(rowR_cut hc).1, show rnL xs (k + 1) = rnL xs k ++ [(k - penR xs k, penR xs k + 1, decide (xs.getD k 0 = 1))] from if_pos hc, txR_snoc, ih]
      have e1 : Rn.len (k - penR xs k, penR xs k + 1, decide (xs.getD k 0 = 1)) = penR xs k + 1 := by
        show min (penR xs k + 1) 40000 = _
        omega
      rw [e1]
      have e2 : letB (if decide (xs.getD k 0 = 1) = true then 1 else 0) = letB (xs.getD k 0) := by
        rcases z1_at hz (show k < xs.length by omega) with h | h <;> rw [h] <;> rfl
      rw [e2]
      apply ByteArray.ext
      simp
    · rw [(rowR_go hc).1, show rnL xs (k + 1) = rnL xs k from if_neg hc, ih]
theorem rnL_len (xs : List Int) : ∀ k, (rnL xs k).length ≤ k
  | 0 => Nat.le_refl _
  | k + 1 => by
    have ih := rnL_len xs k
    unfold rnL
    split
    · simp; omega
    · omega
theorem letB_size (x : Int) : (letB x).size = 1 := by unfold letB; split <;> rfl
theorem dec_size_le {n : Nat} (h : n ≤ 999999) : (dec n).size ≤ 6 := by
  rw [dec_size, Lib.itoa_nonneg]
  exact dec_len 5 n (by omega)
theorem txR_size (s : ByteArray) (rs : List Rn) : (txR s rs).size ≤ s.size + 7 * rs.length := by
  induction rs generalizing s with
  | nil => exact Nat.le_refl _
  | cons r rs ih =>
    have h1 : (dec r.len).size ≤ 6 := dec_size_le (by unfold Rn.len; omega)
    have h2 := ih (s ++ dec r.len ++ letB (if r.2.2 then 1 else 0))
    show (txR _ rs).size ≤ _
    rw [ByteArray.size_append, ByteArray.size_append, letB_size] at h2
    simp only [List.length_cons]
    omega
/-- What a round of the loop keeps: what lies below B; every block of cells but the builder's own and rows of bytes. -/
def KpR (B b : Nat) (w w' : World) : Prop := Below B w w' ∧ ∀ k o, w.heap[k]? = some o → k ≠ b → o.isCells = true → (∀ c fz, o ≠ .cells c 5 fz) → w'.heap[k]? = some o
theorem KpR.trans {B b : Nat} {x y z : World} (h : KpR B b x y) (k : KpR B b y z) : KpR B b x z := ⟨h.1.trans k.1, fun i o hi hb ho hu => k.2 i o (h.2 i o hi hb ho hu) hb ho hu⟩
theorem KpR.box {B b g : Nat} {w w' : World} {v : Value} (h : KpR B b w w') (hb : Boxed w g 28 v) (hg : g ≠ b) : Boxed w' g 28 v :=
  h.2 g _ hb hg rfl (fun c fz e => by simp at e)
theorem grown_drew (W : World) : W.grownBy W.drew none := ⟨rfl, rfl, rfl, Nat.le_refl _, fun _ _ _ => rfl⟩
set_option maxHeartbeats 1600000 in
set_option maxRecDepth 100000 in
theorem runs1_in (n : Nat) (l B b g : Nat) (p : Option Addr) (c : Nat) (xs : List Int) (hz : z1 xs) (h4 : xs.length ≤ 40000) (hg : g ≠ b) (J Jx : List Rn → World → Prop)
    (hY : ∀ pre x W, J pre W → pre.length < xs.length → YieldAt Fence.wide (n - 1) Tryz.prog l #[Rn.enc x] W fun e W' =>
      (e = .returned (.bool true) ∧ J (pre ++ [x]) W' ∧ KpR B b W W') ∨ (e = .returned (.bool false) ∧ Jx (pre ++ [x]) W'))
    (W : World) (hJ : ∀ s w n, J s w → J s (w.drewN n)) (hB : Boxed W g 28 (.slice p xs.length c)) (hL : LowI B W p xs) (h0 : J [] W) :
    CallsIn Fence.wide n Tryz.prog 79 #[.func (.yield l) #[] #[], .pointer (some ⟨g, 0, none⟩)] W fun e W' => (∃ v, e = .returned v) ∧
      ((∃ ys, ys = rnL xs xs.length ∧ J ys W') ∨ (∃ pre : List Rn, True ∧ Jx pre W')) := by
  have c0 := hB.cell
  have cL := hB.lt
  refine callsIn_of_wp Tryz.func79 rfl trivial ?_ rfl
  simp only [Tryz.ntmps79, List.size_toArray, List.length_cons, List.length_nil, Nat.reduceAdd, Nat.reduceSub, Array.replicate_succ, Array.replicate_zero, List.push_toArray, List.append_toArray, List.nil_append, List.cons_append]
  gi_wp2
  clear c0 cL
  gi_loopw [3, 7] (fun st i wr => ∃ k : Nat, k ≤ xs.length ∧ i = .int .i64 k ∧ st = .int .i64 ((k - penR xs k : Nat) : Int) ∧ J (rnL xs k) wr ∧ Boxed wr g 28 (.slice p xs.length c) ∧ LowI B wr p xs)
    (fun _ i _ => xs.length - (intOf i).toNat)
  case atStart => exact ⟨0, Nat.zero_le _, rfl, rfl, h0, hB, hL⟩
  case round =>
    obtain ⟨k, hk, rfl, rfl, hJs, hBr, hLr⟩ := hrel
    have c0 := hBr.cell
    have cL := hBr.lt
    by_cases hlt : k < xs.length
    · have hp := penR_le xs k
      obtain ⟨q, o, rfl, -, hbl, y0⟩ := hLr k hlt
      have hz0 := z1_at hz hlt
      have hlk := rnL_len xs k
      obtain ⟨S, hS⟩ : ∃ S, k - penR xs k = S := ⟨_, rfl⟩
      have hSk : S ≤ k := by omega
      have hpS : penR xs k + 1 = k + 1 - S := by omega
      have hlti : (k : Int) < xs.length := by omega
      rw [hS]
      by_cases hc : k + 1 = xs.length ∨ xs.getD (k + 1) 0 ≠ xs.getD k 0
      · have hrn : rnL xs (k + 1) = rnL xs k ++ [(S, k + 1 - S, decide (xs.getD k 0 = 1))] := by rw [← hS, show k + 1 - (k - penR xs k) = penR xs k + 1 by omega]; exact if_pos hc
        have hpn := (rowR_cut hc).2
        have hYk := Lib.hid (fun W (hj : J (rnL xs k) W) => hY (rnL xs k) (S, k + 1 - S, decide (xs.getD k 0 = 1)) W hj (by omega))
        rw [← hrn] at hYk
        have henc : Rn.enc (S, k + 1 - S, decide (xs.getD k 0 = 1)) = .agg #[.int .i64 (S : Int), .int .i64 ((k : Int) + 1 - S), .bool (decide (xs.getD k 0 = 1))] := by
          unfold Rn.enc Rn.len
          rw [show ((min (k + 1 - S) 40000 : Nat) : Int) = (k : Int) + 1 - S by omega]
        rw [henc] at hYk
        have hend : (k : Int) + 1 = xs.length ∨ ((k : Int) + 1 < xs.length ∧ ∃ u, wr.cell? ⟨q, o + (k + 1), none⟩ = some (.int .i64 u) ∧ ((xs.getD k 0 = 0 ∧ u = 1) ∨ (xs.getD k 0 = 1 ∧ u = 0))) := by
          by_cases he : k + 1 = xs.length
          · exact .inl (by omega)
          · have hl1 : k + 1 < xs.length := by omega
            refine .inr ⟨by omega, xs.getD (k + 1) 0, ?_, ?_⟩
            · obtain ⟨q', o', e, -, -, y1⟩ := hLr (k + 1) hl1
              simp only [Option.some.injEq, Addr.mk.injEq, and_true] at e
              obtain ⟨rfl, rfl⟩ := e
              exact y1
            · have hne : xs.getD (k + 1) 0 ≠ xs.getD k 0 := hc.resolve_left he
              rcases z1_at hz hl1 with h1 | h1 <;> rcases hz0 with h2 | h2
              · exact absurd (h1.trans h2.symm) hne
              · exact .inr ⟨h2, h1⟩
              · exact .inl ⟨h2, h1⟩
              · exact absurd (h1.trans h2.symm) hne
        clear hc henc hrn
        replace hpn := Lib.hid hpn; replace hS := Lib.hid hS; replace hpS := Lib.hid hpS
        generalize xs.getD k 0 = x at *
        have hNL : (xs.length : Int) ≤ 40000 := by omega
        have hJd : ∀ r w n, J r w → J r (w.drewN n) := hJ
        replace hJd := Lib.hid hJd
        have hBrd : ∀ n, Boxed (wr.drewN n) g 28 (.slice (some ⟨q, o, none⟩) xs.length c) := fun n => hBr
        have hLrd : ∀ n, LowI B (wr.drewN n) (some ⟨q, o, none⟩) xs := fun n => hLr
        replace hBrd := Lib.hid hBrd; replace hLrd := Lib.hid hLrd
        rcases hend with he | ⟨h1l, u, y1, hxu⟩
        · have hnl : ¬ (k : Int) + 1 < xs.length := by omega
          rcases hz0 with rfl | rfl
          all_goals
            gi_wp2
            gi_quiet (fail)
            obtain ⟨fn, tmps, assign, body, hy, hR⟩ := hYk.out (wr.drewN nq) (hJd.out _ _ nq hJs)
            simp only [decide_eq_true_eq, Int.reduceEq, decide_false, decide_true] at hy
            rw [he] at hy
            have hbr := hBrd.out nq
            have hlr := hLrd.out nq
            have c1 := hbr.cell
            have cl1 := hbr.lt
            clear c0 cL
            gi_wp2
            refine ⟨(fun h => by cases h), hR.mono ?_⟩
            rintro e W3 (⟨rfl, hJ3, hk3⟩ | ⟨rfl, hJx3⟩)
            · have hb3 := hk3.box hbr hg
              have hl3 := hlr.below hk3.1
              clear hy hR c1 cl1 hbr hlr y0
              gi_wp2
              go_roundw
              case rel => exact ⟨k + 1, hlt, by go_num, by rw [hpn.out]; go_num, hJ3, hb3, hl3⟩
              case measure => simp [intOf]; omega
            · gi_wp2
              refine bodyPost_ret (results_none rfl _ _ _) rfl ?_
              exact ⟨⟨_, rfl⟩, .inr ⟨_, trivial, hJx3⟩⟩
        · rcases hxu with ⟨rfl, rfl⟩ | ⟨rfl, rfl⟩
          all_goals
            gi_wp2
            gi_quiet (fail)
            obtain ⟨fn, tmps, assign, body, hy, hR⟩ := hYk.out (wr.drewN nq) (hJd.out _ _ nq hJs)
            simp only [decide_eq_true_eq, Int.reduceEq, decide_false, decide_true] at hy
            have hbr := hBrd.out nq
            have hlr := hLrd.out nq
            have c1 := hbr.cell
            have cl1 := hbr.lt
            clear c0 cL
            gi_wp2
            refine ⟨(fun h => by cases h), hR.mono ?_⟩
            rintro e W3 (⟨rfl, hJ3, hk3⟩ | ⟨rfl, hJx3⟩)
            · have hb3 := hk3.box hbr hg
              have hl3 := hlr.below hk3.1
              clear hy hR c1 cl1 hbr hlr y0
              gi_wp2
              go_roundw
              case rel => exact ⟨k + 1, hlt, by go_num, by rw [hpn.out]; go_num, hJ3, hb3, hl3⟩
              case measure => simp [intOf]; omega
            · gi_wp2
              refine bodyPost_ret (results_none rfl _ _ _) rfl ?_
              exact ⟨⟨_, rfl⟩, .inr ⟨_, trivial, hJx3⟩⟩
      · have hgo := rowR_go hc
        have hrn : rnL xs (k + 1) = rnL xs k := if_neg hc
        simp only [not_or, Classical.not_not] at hc
        obtain ⟨he, heq⟩ := hc
        have hl1 : k + 1 < xs.length := by omega
        have hl1i : (k : Int) + 1 < xs.length := by omega
        obtain ⟨q', o', e, -, -, y1⟩ := hLr (k + 1) hl1
        simp only [Option.some.injEq, Addr.mk.injEq, and_true] at e
        obtain ⟨rfl, rfl⟩ := e
        rw [heq] at y1
        rw [← hrn] at hJs
        have hS2 : k + 1 - penR xs (k + 1) = S := by rw [hgo.2]; omega
        replace hS2 := Lib.hid hS2; replace hrn := Lib.hid hrn; replace hgo := Lib.hid hgo; replace heq := Lib.hid heq; replace hS := Lib.hid hS; replace hpS := Lib.hid hpS
        have hJd : ∀ r w n, J r w → J r (w.drewN n) := hJ
        replace hJd := Lib.hid hJd
        generalize xs.getD k 0 = x at *
        rcases hz0 with rfl | rfl
        all_goals
          gi_wp2
          gi_quiet (fail)
          gi_wp2
          go_roundw
          case rel => exact ⟨k + 1, hlt, by go_num, by rw [hS2.out], hJd.out _ _ nq hJs, hBr, hLr⟩
          case measure => simp [intOf]; omega
    · obtain rfl : k = xs.length := by omega
      gi_wp2
      go_end0
      exact ⟨⟨_, rfl⟩, .inl ⟨_, rfl, hJs⟩⟩
end Go.Proofs.YthpnkcamjcohgaaGreatDoor
