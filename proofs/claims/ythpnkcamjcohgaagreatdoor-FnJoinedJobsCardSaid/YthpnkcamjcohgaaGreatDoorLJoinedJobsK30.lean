/- The text of a job in the program. -/
import Derived.Test.YthpnkcamjcohgaaGreatDoorLJoinedJobsK23
import Derived.Test.YthpnkcamjcohgaaGreatDoorLJoinedJobsK28
import Derived.Test.YthpnkcamjcohgaaGreatDoorLJoinedJobsK29
namespace Go.Proofs.YthpnkcamjcohgaaGreatDoor
set_option linter.unusedVariables false
set_option linter.unusedSimpArgs false
open Go.RowKit

theorem Bd.mono {B B' b : Nat} {s : ByteArray} {w : World} (h : Bd B b s w) (hB : B' ≤ B) : Bd B' b s w := by
  have key : ∀ p, Lib.BuilderAt 73 5 B b p (Lib.strCells s) w → Lib.BuilderAt 73 5 B' b p (Lib.strCells s) w := fun p hp => by
    obtain ⟨h1, v, hbk, hown, hne⟩ := hp
    refine ⟨by omega, v, hbk, ⟨hown.1, ?_⟩, hne⟩
    rcases hown.2 with h2 | ⟨g, cap, cur, hv, hg, r⟩
    · exact .inl h2
    · exact .inr ⟨g, cap, cur, hv, by omega, r⟩
  rcases h with h | h
  · exact .inl (key _ h)
  · exact .inr (key _ h)
theorem KpR.blk {B b g : Nat} {w w' : World} {t : TypeId} {cs : Array Value} (h : KpR B b w w') (hb : Blk w g cs t) (hg : g ≠ b) (ht : t ≠ 5) : Blk w' g cs t :=
  h.2 g _ hb hg rfl (fun c fz e => by simp at e; exact ht e.2.1)
theorem KpR.row {B B' b : Nat} {w w' : World} {v : Value} {xs : List Int} (h : KpR B b w w') (hr : RowI B' w v xs) (hb : b < B') : RowI B' w' v xs := by
  refine ⟨hr.1, ?_⟩
  rcases hr.2 with h2 | ⟨g, cap, cur, hv, hB, hh, r⟩
  · exact .inl h2
  · exact .inr ⟨g, cap, cur, hv, hB, h.2 g _ hh (by omega) rfl (fun c fz e => by simp at e), r⟩
theorem decT_two (R C : Nat) : decT [(R : Int), (C : Int)] 2 = dec R ++ spB ++ dec C := by
  show ((if (1 : Nat) = 0 then ByteArray.empty else ((if (0 : Nat) = 0 then ByteArray.empty else decT [(R : Int), (C : Int)] 0 ++ spB) ++ dec (R : Int)) ++ spB) ++ dec (C : Int)) = _
  rw [if_neg (by omega), if_pos rfl]
  apply ByteArray.ext
  simp
theorem string_c (B b : Nat) (s : ByteArray) (w : World) (h : Bd B b s w) (hB : B ≤ w.heap.size) :
    Calls Tryz.prog 49 #[.pointer (some ⟨b, 0, none⟩)] w fun e w' => e = .returned (.string s) ∧ Below B w w' := by
  refine (Tryz.Builder_String_any B b s.data.toList w h.bytes hB).mono ?_
  rintro e w' ⟨rfl, hb⟩
  exact ⟨rfl, hb⟩
theorem IntsAt.pair {w : World} {a b : Int} : IntsAt (w.alloc (.cells #[.int .i64 a, .int .i64 b] 2)).drew (some ⟨w.heap.size, 0, none⟩) [a, b] := fun i hi => by
  have hb := Blk.new w #[.int .i64 a, .int .i64 b] 2
  have hi : i < 2 := hi
  refine ⟨_, _, rfl, hb.lt, ?_⟩
  match i, hi with
  | 0, _ => exact hb.cell rfl
  | 1, _ => exact hb.cell rfl
set_option maxHeartbeats 3200000 in
set_option maxRecDepth 100000 in
theorem iJob_c (R C b o cap : Nat) (xs : List Int) (w : World) (hx : IntsAt w (some ⟨b, o, none⟩) xs) (hok : okJ R C xs) (hcap : xs.length ≤ cap) (hT : Tab10 w) :
    Calls Tryz.prog 21 #[vGrid R C (some ⟨b, o, none⟩) xs.length cap] w fun e w' => e = .returned (.string (jobT R C xs)) ∧ Ext w w' := by
  have HX := Lib.hid hx; clear hx
  have HT := Lib.hid hT; clear hT
  have hR4 := hok.rle
  have hC4 := hok.cle
  have hL := bandsTo_ok C xs R
  have hLb := bandsTo_bd C xs R
  have hhs := head_size hR4 hC4
  have hdc : ∀ W p c, IntsAt W p [(R : Int), (C : Int)] → Tab10 W → Calls Tryz.prog 44 #[.slice p 2 c] W fun e w' => e = .returned (.string (decT [(R : Int), (C : Int)] 2)) ∧ Ext W w' := (fun W p c (h : IntsAt W p [(R : Int), (C : Int)]) (hT : Tab10 W) => decimals_c p c [(R : Int), (C : Int)] W h (by simp) (fun k hk => by
    have hk : k < 2 := hk
    match k, hk with
    | 0, _ => exact ⟨by show _ ≤ (R : Int); omega, by show (R : Int) ≤ _; omega⟩
    | 1, _ => exact ⟨by show _ ≤ (C : Int); omega, by show (C : Int) ≤ _; omega⟩) hT)
  replace hdc := Lib.hid hdc
  have hds : (decT [(R : Int), (C : Int)] 2).size ≤ 44 := decT_size (xs := [(R : Int), (C : Int)]) (fun k hk => by
    have hk : k < 2 := hk
    match k, hk with
    | 0, _ => exact ⟨by show _ ≤ (R : Int); omega, by show (R : Int) ≤ _; omega⟩
    | 1, _ => exact ⟨by show _ ≤ (C : Int); omega, by show (C : Int) ≤ _; omega⟩) 2 (Nat.le_refl _)
  have hbd := Lib.hid (fun W (h : IntsAt W (some ⟨b, o, none⟩) xs) => iBands_c R C b o cap xs W h hok.len hok.c1 hcap hok.le)
  have hhd : (⟨#[112, 97, 103, 101, 32]⟩ : ByteArray) ++ decT [(R : Int), (C : Int)] 2 ++ ⟨#[10]⟩ = headT R C ++ nlB := by
    rw [decT_two]
    rfl
  have hjt : jobT R C xs = headT R C ++ nlB ++ bdT C xs (bandsTo C xs R) (bandsTo C xs R).length ++ enB := rfl
  have hst := Lib.hid (fun i (h : i < (bandsTo C xs R).length) => (show bdT C xs (bandsTo C xs R) (i + 1) = bdT C xs (bandsTo C xs R) i ++ bandT ((bandsTo C xs R).getD i 0) (rowL C xs (sumN (bandsTo C xs R) i)) ++ nlB from rfl))
  have hsz := Lib.hid (fun i (h : i ≤ (bandsTo C xs R).length) => bdT_bd hok hL h)
  have hrl := Lib.hid (fun k (hk : k < R) => rowL_len hok.len hk)
  have hra := Lib.hid (fun k (hk : k < R) W (h : IntsAt W (some ⟨b, o, none⟩) xs) => rowL_at hok.len hk h)
  have hrz := Lib.hid (fun k => rowL_z1 (C := C) hok.known k)
  have hrc := Lib.hid (fun k (hk : k < R) W => row_c R C b o cap xs k W hok.len hok.c1 hcap hok.le hk)
  have hlen := Lib.hid hok.len
  have hC1 := hok.c1
  generalize bandsTo C xs R = L at *
  replace hjt := Lib.hid hjt
  have hG0 : Blk (w.alloc (.cells #[.int .i64 R, .int .i64 C, .slice (some ⟨b, o, none⟩) xs.length cap] 30)) w.heap.size #[.int .i64 R, .int .i64 C, .slice (some ⟨b, o, none⟩) xs.length cap] 30 := Blk.new w _ _
  have hG1 := hG0.alloc (.cells #[.pointer none, .slice none 0 0] 73)
  have hB1 : Bd w.heap.size (w.heap.size + 1) ByteArray.empty ((w.alloc (.cells #[.int .i64 R, .int .i64 C, .slice (some ⟨b, o, none⟩) xs.length cap] 30)).alloc (.cells #[.pointer none, .slice none 0 0] 73)) := by
    have h := Bd.new (w.alloc (.cells #[.int .i64 R, .int .i64 C, .slice (some ⟨b, o, none⟩) xs.length cap] 30))
    rw [World.size_alloc] at h
    exact h.mono (Nat.le_succ _)
  have hx1 : Ext w ((w.alloc (.cells #[.int .i64 R, .int .i64 C, .slice (some ⟨b, o, none⟩) xs.length cap] 30)).alloc (.cells #[.pointer none, .slice none 0 0] 73)) := ((Ext.refl w).alloc _).alloc _
  have hz1 : ((w.alloc (.cells #[.int .i64 R, .int .i64 C, .slice (some ⟨b, o, none⟩) xs.length cap] 30)).alloc (.cells #[.pointer none, .slice none 0 0] 73)).heap.size = w.heap.size + 2 := by simp
  generalize hH : headT R C ++ nlB = H at *
  generalize decT [(R : Int), (C : Int)] 2 = D2 at *
  replace hhd := Lib.hid hhd; replace hH := Lib.hid hH
  go_enter Tryz.func21, Tryz.ntmps21
  go_upto_region 3 with (fail)
  generalize (w.alloc (.cells #[.int .i64 R, .int .i64 C, .slice (some ⟨b, o, none⟩) xs.length cap] 30)).alloc (.cells #[.pointer none, .slice none 0 0] 73) = w1 at *
  have q0 := hG1.cell (i := 0) (v := .int .i64 R) rfl; have q1 := hG1.cell (i := 1) (v := .int .i64 C) rfl; have ql := hG1.lt
  have n1 : ¬ 9223372036854775807 < 5 + D2.size := by omega
  have n2 : ¬ 9223372036854775807 < 5 + D2.size + 1 := by omega
  have hrg := Lib.hid (IntsAt.pair (w := w1) (a := (R : Int)) (b := (C : Int)))
  have hme : ∀ w b, (method (Tryz.prog.types.size + Made.depth) 71 (.pointer (some ⟨b, 0, none⟩)) "WriteString").run Tryz.prog w = .ok (129, .pointer (some ⟨b, 0, none⟩)) w := fun w b => by kernel_rfl
  replace hme := Lib.hid hme
  refine wp_region_canon (fun w' => KpR w.heap.size (w.heap.size + 1) w1 w') [(0, true), (1, true), (2, true), (3, true), (4, true), (9, true), (10, true), (11, true), (5, false), (6, false), (7, true), (8, true), (12, false)] (by kernel_rfl) (by kernel_rfl) (by decide) (by kernel_rfl) ?_ ?_
  · exact KpR.ext ((Ext.refl w1).drew) (by omega)
  refine canon_intro fun ops eo => ?_
  have ho0 := canon_at eo 0 rfl
  have ho1 := canon_at eo 1 rfl
  have ho2 := canon_at eo 2 rfl
  have ho3 := canon_at eo 3 rfl
  have ho4 := canon_at eo 4 rfl
  have ho5 := canon_at eo 5 rfl
  have ho6 := canon_at eo 6 rfl
  have ho7 := canon_at eo 7 rfl
  have ho8 := canon_at eo 8 rfl
  have ho9 := canon_at eo 9 rfl
  have ho10 := canon_at eo 10 rfl
  have ho11 := canon_at eo 11 rfl
  have ho12 := canon_at eo 12 rfl
  clear eo
  all_goals (apply canon_st ho0 rfl; (intro w2 hS; first | (go_simp; first | done | rfl) | rfl | (have hGS := hS.blk hG1 (by omega) (by decide); have z0 := hGS.cell (i := 0) (v := .int .i64 R) rfl; have z1 := hGS.cell (i := 1) (v := .int .i64 C) rfl; have zl := hGS.lt; go_simp; first | done | rfl)); simp only [Act.put, List.setIfInBounds_toArray, List.set_cons_zero, List.set_cons_succ])
  all_goals clear ho0
  all_goals (apply canon_st ho1 rfl; (intro w2 hS; first | (go_simp; first | done | rfl) | rfl | (have hGS := hS.blk hG1 (by omega) (by decide); have z0 := hGS.cell (i := 0) (v := .int .i64 R) rfl; have z1 := hGS.cell (i := 1) (v := .int .i64 C) rfl; have zl := hGS.lt; go_simp; first | done | rfl)); simp only [Act.put, List.setIfInBounds_toArray, List.set_cons_zero, List.set_cons_succ])
  all_goals clear ho1
  all_goals (apply canon_st ho2 rfl; (intro w2 hS; first | (go_simp; first | done | rfl) | rfl | (have hGS := hS.blk hG1 (by omega) (by decide); have z0 := hGS.cell (i := 0) (v := .int .i64 R) rfl; have z1 := hGS.cell (i := 1) (v := .int .i64 C) rfl; have zl := hGS.lt; go_simp; first | done | rfl)); simp only [Act.put, List.setIfInBounds_toArray, List.set_cons_zero, List.set_cons_succ])
  all_goals clear ho2
  all_goals (apply canon_st ho3 rfl; (intro w2 hS; first | (go_simp; first | done | rfl) | rfl | (have hGS := hS.blk hG1 (by omega) (by decide); have z0 := hGS.cell (i := 0) (v := .int .i64 R) rfl; have z1 := hGS.cell (i := 1) (v := .int .i64 C) rfl; have zl := hGS.lt; go_simp; first | done | rfl)); simp only [Act.put, List.setIfInBounds_toArray, List.set_cons_zero, List.set_cons_succ])
  all_goals clear ho3
  all_goals (apply canon_st ho4 rfl; (intro w2 hS; first | (go_simp; first | done | rfl) | rfl | (have hGS := hS.blk hG1 (by omega) (by decide); have z0 := hGS.cell (i := 0) (v := .int .i64 R) rfl; have z1 := hGS.cell (i := 1) (v := .int .i64 C) rfl; have zl := hGS.lt; go_simp; first | done | rfl)); simp only [Act.put, List.setIfInBounds_toArray, List.set_cons_zero, List.set_cons_succ])
  all_goals clear ho4
  all_goals (apply canon_st ho9 rfl; (intro w2 hS; first | (go_simp; first | done | rfl) | rfl | (have hGS := hS.blk hG1 (by omega) (by decide); have z0 := hGS.cell (i := 0) (v := .int .i64 R) rfl; have z1 := hGS.cell (i := 1) (v := .int .i64 C) rfl; have zl := hGS.lt; go_simp; first | done | rfl)); simp only [Act.put, List.setIfInBounds_toArray, List.set_cons_zero, List.set_cons_succ])
  all_goals clear ho9
  all_goals (apply canon_st ho10 rfl; (intro w2 hS; first | (go_simp; first | done | rfl) | rfl | (have hGS := hS.blk hG1 (by omega) (by decide); have z0 := hGS.cell (i := 0) (v := .int .i64 R) rfl; have z1 := hGS.cell (i := 1) (v := .int .i64 C) rfl; have zl := hGS.lt; go_simp; first | done | rfl)); simp only [Act.put, List.setIfInBounds_toArray, List.set_cons_zero, List.set_cons_succ])
  all_goals clear ho10
  all_goals (apply canon_st ho11 rfl; (intro w2 hS; first | (go_simp; first | done | rfl) | rfl | (have hGS := hS.blk hG1 (by omega) (by decide); have z0 := hGS.cell (i := 0) (v := .int .i64 R) rfl; have z1 := hGS.cell (i := 1) (v := .int .i64 C) rfl; have zl := hGS.lt; go_simp; first | done | rfl)); simp only [Act.put, List.setIfInBounds_toArray, List.set_cons_zero, List.set_cons_succ])
  all_goals clear ho11
  all_goals first | (refine canon_ef ho5 rfl (fun K hK => ?_); go_simp; (skip); all_goals (refine hK _ _ ⟨(by first | assumption | exact KpR.ext (by repeat (first | exact Ext.refl _ | assumption | refine Ext.drew ?_ | refine Ext.drewN ?_ _ | refine Ext.iter ?_ _ _ | refine Ext.alloc ?_ _ | refine Ext.setCell ?_ (by first | exact Nat.le_refl _ | (simp <;> omega)) _ | refine Ext.trans2 (by assumption) ?_)) (by omega)), ?_⟩; clear hK K; go_simp)) | (refine canon_ef ho5 rfl (fun K hK => ?_); go_simp; ((go_at_call 44; have hxa : Ext w1 (w1.alloc (.cells #[.int .i64 R, .int .i64 C] 2)).drew := ((Ext.refl w1).alloc _).drew; have hia : IntsAt (w1.alloc (.cells #[.int .i64 R, .int .i64 C] 2)).drew (some ⟨w.heap.size + 2, 0, none⟩) [(R : Int), (C : Int)] := (by rw [← hz1]; exact hrg.out); (with_reducible refine (hdc.out _ _ _ hia (HT.out.ext (hx1.trans hxa))).mono ?_); rintro e w2 ⟨rfl, hx2⟩; have hx2 := hxa.trans hx2; clear hia hxa)); all_goals (refine hK _ _ ⟨(by first | assumption | exact KpR.ext (by repeat (first | exact Ext.refl _ | assumption | refine Ext.drew ?_ | refine Ext.drewN ?_ _ | refine Ext.iter ?_ _ _ | refine Ext.alloc ?_ _ | refine Ext.setCell ?_ (by first | exact Nat.le_refl _ | (simp <;> omega)) _ | refine Ext.trans2 (by assumption) ?_)) (by omega)), ?_⟩; clear hK K; go_simp)) | (refine canon_ef ho5 rfl (fun K hK => ?_); (refine oper_invoke 71 (.pointer (some ⟨w.heap.size + 1, 0, none⟩)) 129 Tryz.func129 (by kernel_rfl) (by kernel_rfl) rfl (hme.out _ _) ?_; simp only [List.map_toArray, List.map_cons, List.map_nil, List.append_toArray, List.cons_append, List.nil_append, Act.eval]; rw [hhd.out]; refine (writeString_c w.heap.size (w.heap.size + 1) ByteArray.empty H w2 (hB1.ext hx2) (by show 0 + _ ≤ _; omega) (by have := hx2.below.size; omega)).mono ?_; rintro e w3 ⟨rfl, hd3, hb3, ho3⟩; have hk3 : KpR w.heap.size (w.heap.size + 1) w1 w3 := (KpR.ext hx2 (by omega)).trans (KpR.of hb3 ho3)); all_goals (refine hK _ _ ⟨(by first | assumption | exact KpR.ext (by repeat (first | exact Ext.refl _ | assumption | refine Ext.drew ?_ | refine Ext.drewN ?_ _ | refine Ext.iter ?_ _ _ | refine Ext.alloc ?_ _ | refine Ext.setCell ?_ (by first | exact Nat.le_refl _ | (simp <;> omega)) _ | refine Ext.trans2 (by assumption) ?_)) (by omega)), ?_⟩; clear hK K; go_simp))
  all_goals clear ho5
  all_goals first | (refine canon_ef ho6 rfl (fun K hK => ?_); go_simp; (skip); all_goals (refine hK _ _ ⟨(by first | assumption | exact KpR.ext (by repeat (first | exact Ext.refl _ | assumption | refine Ext.drew ?_ | refine Ext.drewN ?_ _ | refine Ext.iter ?_ _ _ | refine Ext.alloc ?_ _ | refine Ext.setCell ?_ (by first | exact Nat.le_refl _ | (simp <;> omega)) _ | refine Ext.trans2 (by assumption) ?_)) (by omega)), ?_⟩; clear hK K; go_simp)) | (refine canon_ef ho6 rfl (fun K hK => ?_); go_simp; ((go_at_call 44; have hxa : Ext w1 (w1.alloc (.cells #[.int .i64 R, .int .i64 C] 2)).drew := ((Ext.refl w1).alloc _).drew; have hia : IntsAt (w1.alloc (.cells #[.int .i64 R, .int .i64 C] 2)).drew (some ⟨w.heap.size + 2, 0, none⟩) [(R : Int), (C : Int)] := (by rw [← hz1]; exact hrg.out); (with_reducible refine (hdc.out _ _ _ hia (HT.out.ext (hx1.trans hxa))).mono ?_); rintro e w2 ⟨rfl, hx2⟩; have hx2 := hxa.trans hx2; clear hia hxa)); all_goals (refine hK _ _ ⟨(by first | assumption | exact KpR.ext (by repeat (first | exact Ext.refl _ | assumption | refine Ext.drew ?_ | refine Ext.drewN ?_ _ | refine Ext.iter ?_ _ _ | refine Ext.alloc ?_ _ | refine Ext.setCell ?_ (by first | exact Nat.le_refl _ | (simp <;> omega)) _ | refine Ext.trans2 (by assumption) ?_)) (by omega)), ?_⟩; clear hK K; go_simp)) | (refine canon_ef ho6 rfl (fun K hK => ?_); (refine oper_invoke 71 (.pointer (some ⟨w.heap.size + 1, 0, none⟩)) 129 Tryz.func129 (by kernel_rfl) (by kernel_rfl) rfl (hme.out _ _) ?_; simp only [List.map_toArray, List.map_cons, List.map_nil, List.append_toArray, List.cons_append, List.nil_append, Act.eval]; rw [hhd.out]; refine (writeString_c w.heap.size (w.heap.size + 1) ByteArray.empty H w2 (hB1.ext hx2) (by show 0 + _ ≤ _; omega) (by have := hx2.below.size; omega)).mono ?_; rintro e w3 ⟨rfl, hd3, hb3, ho3⟩; have hk3 : KpR w.heap.size (w.heap.size + 1) w1 w3 := (KpR.ext hx2 (by omega)).trans (KpR.of hb3 ho3)); all_goals (refine hK _ _ ⟨(by first | assumption | exact KpR.ext (by repeat (first | exact Ext.refl _ | assumption | refine Ext.drew ?_ | refine Ext.drewN ?_ _ | refine Ext.iter ?_ _ _ | refine Ext.alloc ?_ _ | refine Ext.setCell ?_ (by first | exact Nat.le_refl _ | (simp <;> omega)) _ | refine Ext.trans2 (by assumption) ?_)) (by omega)), ?_⟩; clear hK K; go_simp))
  all_goals clear ho6
  all_goals (apply canon_st ho7 rfl; (intro w2 hS; first | (go_simp; first | done | rfl) | rfl | (have hGS := hS.blk hG1 (by omega) (by decide); have z0 := hGS.cell (i := 0) (v := .int .i64 R) rfl; have z1 := hGS.cell (i := 1) (v := .int .i64 C) rfl; have zl := hGS.lt; go_simp; first | done | rfl)); simp only [Act.put, List.setIfInBounds_toArray, List.set_cons_zero, List.set_cons_succ])
  all_goals clear ho7
  all_goals (apply canon_st ho8 rfl; (intro w2 hS; first | (go_simp; first | done | rfl) | rfl | (have hGS := hS.blk hG1 (by omega) (by decide); have z0 := hGS.cell (i := 0) (v := .int .i64 R) rfl; have z1 := hGS.cell (i := 1) (v := .int .i64 C) rfl; have zl := hGS.lt; go_simp; first | done | rfl)); simp only [Act.put, List.setIfInBounds_toArray, List.set_cons_zero, List.set_cons_succ])
  all_goals clear ho8
  all_goals first | (refine canon_ef ho12 rfl (fun K hK => ?_); go_simp; (skip); all_goals (refine hK _ _ ⟨(by first | assumption | exact KpR.ext (by repeat (first | exact Ext.refl _ | assumption | refine Ext.drew ?_ | refine Ext.drewN ?_ _ | refine Ext.iter ?_ _ _ | refine Ext.alloc ?_ _ | refine Ext.setCell ?_ (by first | exact Nat.le_refl _ | (simp <;> omega)) _ | refine Ext.trans2 (by assumption) ?_)) (by omega)), ?_⟩; clear hK K; go_simp)) | (refine canon_ef ho12 rfl (fun K hK => ?_); go_simp; ((go_at_call 44; have hxa : Ext w1 (w1.alloc (.cells #[.int .i64 R, .int .i64 C] 2)).drew := ((Ext.refl w1).alloc _).drew; have hia : IntsAt (w1.alloc (.cells #[.int .i64 R, .int .i64 C] 2)).drew (some ⟨w.heap.size + 2, 0, none⟩) [(R : Int), (C : Int)] := (by rw [← hz1]; exact hrg.out); (with_reducible refine (hdc.out _ _ _ hia (HT.out.ext (hx1.trans hxa))).mono ?_); rintro e w2 ⟨rfl, hx2⟩; have hx2 := hxa.trans hx2; clear hia hxa)); all_goals (refine hK _ _ ⟨(by first | assumption | exact KpR.ext (by repeat (first | exact Ext.refl _ | assumption | refine Ext.drew ?_ | refine Ext.drewN ?_ _ | refine Ext.iter ?_ _ _ | refine Ext.alloc ?_ _ | refine Ext.setCell ?_ (by first | exact Nat.le_refl _ | (simp <;> omega)) _ | refine Ext.trans2 (by assumption) ?_)) (by omega)), ?_⟩; clear hK K; go_simp)) | (refine canon_ef ho12 rfl (fun K hK => ?_); (refine oper_invoke 71 (.pointer (some ⟨w.heap.size + 1, 0, none⟩)) 129 Tryz.func129 (by kernel_rfl) (by kernel_rfl) rfl (hme.out _ _) ?_; simp only [List.map_toArray, List.map_cons, List.map_nil, List.append_toArray, List.cons_append, List.nil_append, Act.eval]; rw [hhd.out]; refine (writeString_c w.heap.size (w.heap.size + 1) ByteArray.empty H w2 (hB1.ext hx2) (by show 0 + _ ≤ _; omega) (by have := hx2.below.size; omega)).mono ?_; rintro e w3 ⟨rfl, hd3, hb3, ho3⟩; have hk3 : KpR w.heap.size (w.heap.size + 1) w1 w3 := (KpR.ext hx2 (by omega)).trans (KpR.of hb3 ho3)); all_goals (refine hK _ _ ⟨(by first | assumption | exact KpR.ext (by repeat (first | exact Ext.refl _ | assumption | refine Ext.drew ?_ | refine Ext.drewN ?_ _ | refine Ext.iter ?_ _ _ | refine Ext.alloc ?_ _ | refine Ext.setCell ?_ (by first | exact Nat.le_refl _ | (simp <;> omega)) _ | refine Ext.trans2 (by assumption) ?_)) (by omega)), ?_⟩; clear hK K; go_simp))
  all_goals clear ho12
  all_goals refine canon_done (NoPanic.normal ?_)
  have hd3 : Bd w.heap.size (w.heap.size + 1) H w3 := by
    have e : ByteArray.empty ++ H = H := by apply ByteArray.ext; simp
    rw [← e]; exact hd3
  have hG3 := hk3.blk hG1 (by omega) (by decide)
  have hlow := hx1.below.trans hk3.1
  have hz3 := hk3.1.size
  have hLI := Lib.hid (fun W (h : Below w.heap.size w W) => ((LowI.of HX.out (Ext.refl w) (Nat.le_refl _)).below h).ints)
  clear q0 q1 ql n1 n2 hrg hb3 ho3 hx2 hG1 hB1 hhd hk3
  have q0 := hG3.cell (i := 0) (v := .int .i64 R) rfl; have q1 := hG3.cell (i := 1) (v := .int .i64 C) rfl; have q2 := hG3.cell (i := 2) (v := .slice (some ⟨b, o, none⟩) xs.length cap) rfl; have ql := hG3.lt
  go_upto_region 6 with (go_at_call 45; (with_reducible refine (hbd.out _ (hLI.out _ hlow)).mono ?_); rintro e w5 ⟨⟨v, rfl, hrow⟩, hx5⟩; obtain ⟨p1, c1, rfl, -⟩ := hrow.ownC)
  have hG5 := hG3.ext hx5
  have hd5 := hd3.ext hx5
  have hlo := hlow.trans (hx5.below.mono (by omega))
  have hz5 := hx5.below.size
  clear q0 q1 q2 ql hG3 hd3 hx5 hbd hlow
  have hTL : TabL w.heap.size w := ⟨w, HT.out, Nat.le_refl _, Ext.refl w⟩
  replace hTL := Lib.hid (fun W (h : Below w.heap.size w W) => hTL.below h)
  go_loopw [5, 28] (fun at_ i wr => ∃ k : Nat, k ≤ L.length ∧ i = .int .i64 k ∧ at_ = .int .i64 (sumN L k) ∧ Bd w.heap.size (w.heap.size + 1) (H ++ bdT C xs L k) wr ∧ KpR w.heap.size (w.heap.size + 1) w5 wr) (fun _ i _ => L.length - (intOf i).toNat)
  case atStart => exact ⟨0, Nat.zero_le _, rfl, rfl, by rw [show H ++ bdT C xs L 0 = H by unfold bdT; apply ByteArray.ext; simp]; exact hd5, KpR.refl _ _ _⟩
  case round =>
    obtain ⟨k, hk, rfl, rfl, hdr, hkr⟩ := hrel
    have hGr := hkr.blk hG5 (by omega) (by decide)
    have hkz := hkr.1.size
    have hlw := hlo.trans hkr.1
    have q0 := hGr.cell (i := 0) (v := .int .i64 R) rfl; have q1 := hGr.cell (i := 1) (v := .int .i64 C) rfl; have q2 := hGr.cell (i := 2) (v := .slice (some ⟨b, o, none⟩) xs.length cap) rfl; have ql := hGr.lt
    by_cases hlt : k < L.length
    · have hrr := hkr.row hrow (by omega)
      obtain ⟨p1', c1', e1', hown⟩ := hrr.own
      obtain rfl : p1 = p1' := by simp at e1'; exact e1'.1
      obtain ⟨b1, o1, rfl, l1, y1⟩ := hown.ints k hlt
      clear e1' hown hrr
      have hx1' := at_all (P := fun x => 1 ≤ x) hlt hL.pos
      have hxR := at_all (P := fun x => 1 ≤ x ∧ x ≤ R) hlt hLb.2.2
      obtain ⟨n, hn⟩ : ∃ n : Nat, L.getD k 0 = n := ⟨(L.getD k 0).toNat, by omega⟩
      have hss := sumN_succ hlt
      have hsm := sumN_mono L (show k + 1 ≤ L.length from hlt)
      rw [hL.sum] at hsm
      rw [hn] at y1 hx1' hxR hss
      rw [Int.toNat_natCast] at hss
      have hbs := hst.out k hlt
      have hbz := hsz.out k hk
      rw [hn] at hbs
      generalize bdT C xs L k = BK at *
      generalize hS : sumN L k = S at *
      have hSR : S < R := by omega
      have hrl1 := hrl.out S hSR
      have hrl2 : (rowL C xs S).length ≤ 40000 := by rw [hrl1]; exact hC4
      have hwr := fun (c : Nat) (s : ByteArray) W (h : Bd w.heap.size (w.heap.size + 1) s W) (h1 : s.size ≤ 700000) (h2 : w.heap.size ≤ W.heap.size) (h3 : Below w.heap.size w W) => writeRow_c w.heap.size (w.heap.size + 1) s (some ⟨b, o + S * C, none⟩) c (rowL C xs S) W h (hrz.out S) hrl2 (by omega) h2 ((LowI.of (hra.out S hSR w HX.out) (Ext.refl w) (Nat.le_refl _)).below h3) (hTL.out W h3)
      have hrz1 := rowR_size (rowL C xs S) C hC4
      rw [hrl1] at hwr
      have hbT : bandT (n : Int) (rowL C xs S) = (if 1 < (n : Int) then dec n ++ xB else ByteArray.empty) ++ rowR (rowL C xs S) C := by unfold bandT; rw [hrl1]
      rw [hbT] at hbs
      generalize rowR (rowL C xs S) C = RW at *
      replace hwr := Lib.hid hwr
      have hdn : (dec (n : Int)).size ≤ 6 := by rw [dec_size, Lib.itoa_nonneg]; exact dec_len 5 n (by omega)
      have hdd := Lib.hid (fun W (h : Tab10 W) => fmt_c (n : Int) W (by omega) (by omega) h)
      have hkL : (k : Int) < L.length := by omega
      have e5 := IntWalk.i64_in ((S : Int) + n) (by omega)
      clear hrl1 hbT
      have hss2 : ((sumN L (k + 1) : Nat) : Int) = (S : Int) + n := by omega
      replace hS := Lib.hid hS; replace hss := Lib.hid hss2; replace hn := Lib.hid hn
      have sx1 : (⟨#[120]⟩ : ByteArray).size = 1 := rfl
      have sx2 : (⟨#[10]⟩ : ByteArray).size = 1 := rfl
      obtain ⟨HB, hHB⟩ : ∃ HB, H ++ BK = HB := ⟨_, rfl⟩
      have hHz : HB.size ≤ 600020 := by rw [← hHB, ByteArray.size_append]; omega
      by_cases hn1 : (1 : Int) < n
      · rw [if_pos hn1] at hbs
        have hnext : Hid (H ++ bdT C xs L (k + 1) = HB ++ (dec n ++ ⟨#[120]⟩) ++ RW ++ ⟨#[10]⟩) := Lib.hid (by
          rw [hbs, ← hHB]
          apply ByteArray.ext
          simp [xB, nlB])
        rw [hHB] at hdr
        replace hHB := Lib.hid hHB
        clear hbs
        generalize dec (n : Int) = DN at *
        have n1 : ¬ 9223372036854775807 < DN.size + 1 := by omega
        obtain ⟨DX, hDX⟩ : ∃ DX, DN ++ (⟨#[120]⟩ : ByteArray) = DX := ⟨_, rfl⟩
        have hDXz : DX.size ≤ 7 := by rw [← hDX, ByteArray.size_append]; omega
        rw [hDX] at hnext
        replace hDX := Lib.hid hDX
        go_upto_region 9 with (fail)
        refine wp_region_canon (fun w' => KpR w.heap.size (w.heap.size + 1) wr w') [(0, true), (1, true), (4, true), (5, true), (6, true), (2, false), (3, true), (7, false)] (by kernel_rfl) (by kernel_rfl) (by decide) (by kernel_rfl) ?_ ?_
        · exact KpR.ext ((Ext.refl wr).drew) (by omega)
        refine canon_intro fun ops eo => ?_
        have ho0 := canon_at eo 0 rfl
        have ho1 := canon_at eo 1 rfl
        have ho2 := canon_at eo 2 rfl
        have ho3 := canon_at eo 3 rfl
        have ho4 := canon_at eo 4 rfl
        have ho5 := canon_at eo 5 rfl
        have ho6 := canon_at eo 6 rfl
        have ho7 := canon_at eo 7 rfl
        clear eo
        all_goals (apply canon_st ho0 rfl; (intro w2 hS; first | (go_simp; first | done | rfl) | rfl | (skip; go_simp; first | done | rfl)); simp only [Act.put, List.setIfInBounds_toArray, List.set_cons_zero, List.set_cons_succ])
        all_goals clear ho0
        all_goals (apply canon_st ho1 rfl; (intro w2 hS; first | (go_simp; first | done | rfl) | rfl | (skip; go_simp; first | done | rfl)); simp only [Act.put, List.setIfInBounds_toArray, List.set_cons_zero, List.set_cons_succ])
        all_goals clear ho1
        all_goals (apply canon_st ho4 rfl; (intro w2 hS; first | (go_simp; first | done | rfl) | rfl | (skip; go_simp; first | done | rfl)); simp only [Act.put, List.setIfInBounds_toArray, List.set_cons_zero, List.set_cons_succ])
        all_goals clear ho4
        all_goals (apply canon_st ho5 rfl; (intro w2 hS; first | (go_simp; first | done | rfl) | rfl | (skip; go_simp; first | done | rfl)); simp only [Act.put, List.setIfInBounds_toArray, List.set_cons_zero, List.set_cons_succ])
        all_goals clear ho5
        all_goals (apply canon_st ho6 rfl; (intro w2 hS; first | (go_simp; first | done | rfl) | rfl | (skip; go_simp; first | done | rfl)); simp only [Act.put, List.setIfInBounds_toArray, List.set_cons_zero, List.set_cons_succ])
        all_goals clear ho6
        all_goals first | (refine canon_ef ho2 rfl (fun K hK => ?_); go_simp; ((go_at_call 46; (with_reducible refine (hdd.out _ (hTL.out _ (hlw.trans ((Ext.refl wr).drew.below.mono (by omega)))).tab).mono ?_); rintro e wa ⟨rfl, hxa⟩; have hxa := (Ext.refl wr).drew.trans hxa)); all_goals (refine hK _ _ ⟨(by first | assumption | exact KpR.ext (by repeat (first | exact Ext.refl _ | assumption | refine Ext.drew ?_ | refine Ext.drewN ?_ _ | refine Ext.iter ?_ _ _ | refine Ext.alloc ?_ _ | refine Ext.setCell ?_ (by first | exact Nat.le_refl _ | (simp <;> omega)) _ | refine Ext.trans2 (by assumption) ?_)) (by omega)), ?_⟩; clear hK K; go_simp)) | (refine canon_ef ho2 rfl (fun K hK => ?_); (refine oper_invoke 71 (.pointer (some ⟨w.heap.size + 1, 0, none⟩)) 129 Tryz.func129 (by kernel_rfl) (by kernel_rfl) rfl (hme.out _ _) ?_; simp only [List.map_toArray, List.map_cons, List.map_nil, List.append_toArray, List.cons_append, List.nil_append, Act.eval]; go_simp; rw [hDX.out]; have hza := hxa.below.size; have hda := hdr.ext hxa; (with_reducible refine (writeString_c w.heap.size (w.heap.size + 1) HB DX wa hda (by omega) (by omega)).mono ?_); rintro e we ⟨rfl, HXd, hbe, hoe⟩; have hke : KpR w.heap.size (w.heap.size + 1) wr we := (KpR.ext hxa (by have := hkr.1.size; omega)).trans (KpR.of hbe hoe)); all_goals (refine hK _ _ ⟨(by first | assumption | exact KpR.ext (by repeat (first | exact Ext.refl _ | assumption | refine Ext.drew ?_ | refine Ext.drewN ?_ _ | refine Ext.iter ?_ _ _ | refine Ext.alloc ?_ _ | refine Ext.setCell ?_ (by first | exact Nat.le_refl _ | (simp <;> omega)) _ | refine Ext.trans2 (by assumption) ?_)) (by omega)), ?_⟩; clear hK K; go_simp))
        all_goals clear ho2
        all_goals (apply canon_st ho3 rfl; (intro w2 hS; first | (go_simp; first | done | rfl) | rfl | (skip; go_simp; first | done | rfl)); simp only [Act.put, List.setIfInBounds_toArray, List.set_cons_zero, List.set_cons_succ])
        all_goals clear ho3
        all_goals first | (refine canon_ef ho7 rfl (fun K hK => ?_); go_simp; ((go_at_call 46; (with_reducible refine (hdd.out _ (hTL.out _ (hlw.trans ((Ext.refl wr).drew.below.mono (by omega)))).tab).mono ?_); rintro e wa ⟨rfl, hxa⟩; have hxa := (Ext.refl wr).drew.trans hxa)); all_goals (refine hK _ _ ⟨(by first | assumption | exact KpR.ext (by repeat (first | exact Ext.refl _ | assumption | refine Ext.drew ?_ | refine Ext.drewN ?_ _ | refine Ext.iter ?_ _ _ | refine Ext.alloc ?_ _ | refine Ext.setCell ?_ (by first | exact Nat.le_refl _ | (simp <;> omega)) _ | refine Ext.trans2 (by assumption) ?_)) (by omega)), ?_⟩; clear hK K; go_simp)) | (refine canon_ef ho7 rfl (fun K hK => ?_); (refine oper_invoke 71 (.pointer (some ⟨w.heap.size + 1, 0, none⟩)) 129 Tryz.func129 (by kernel_rfl) (by kernel_rfl) rfl (hme.out _ _) ?_; simp only [List.map_toArray, List.map_cons, List.map_nil, List.append_toArray, List.cons_append, List.nil_append, Act.eval]; go_simp; rw [hDX.out]; have hza := hxa.below.size; have hda := hdr.ext hxa; (with_reducible refine (writeString_c w.heap.size (w.heap.size + 1) HB DX wa hda (by omega) (by omega)).mono ?_); rintro e we ⟨rfl, HXd, hbe, hoe⟩; have hke : KpR w.heap.size (w.heap.size + 1) wr we := (KpR.ext hxa (by have := hkr.1.size; omega)).trans (KpR.of hbe hoe)); all_goals (refine hK _ _ ⟨(by first | assumption | exact KpR.ext (by repeat (first | exact Ext.refl _ | assumption | refine Ext.drew ?_ | refine Ext.drewN ?_ _ | refine Ext.iter ?_ _ _ | refine Ext.alloc ?_ _ | refine Ext.setCell ?_ (by first | exact Nat.le_refl _ | (simp <;> omega)) _ | refine Ext.trans2 (by assumption) ?_)) (by omega)), ?_⟩; clear hK K; go_simp))
        all_goals clear ho7
        all_goals refine canon_done (NoPanic.normal ?_)
        have hGe := hke.blk hGr (by omega) (by decide)
        have hkw := hkr.trans hke
        clear q0 q1 q2 ql
        have q0 := hGe.cell (i := 0) (v := .int .i64 R) rfl; have q1 := hGe.cell (i := 1) (v := .int .i64 C) rfl; have q2 := hGe.cell (i := 2) (v := .slice (some ⟨b, o, none⟩) xs.length cap) rfl; have ql := hGe.lt
        generalize hHY : HB ++ DX = HY at *
        have hYz : HY.size ≤ 600040 := by rw [← hHY, ByteArray.size_append]; omega
        replace hHY := Lib.hid hHY
        have hsY : (HY ++ RW).size + 1 ≤ 1000000000 := by rw [ByteArray.size_append]; omega
        have HYd := HXd
        go_upto_region 11 with (first
          | (go_at_call 48; (with_reducible refine (hrc.out S hSR _).mono ?_); rintro e wb ⟨rfl, hxb⟩)
          | (go_at_call 47; have hkb : KpR w.heap.size (w.heap.size + 1) w5 wb := hkw.trans (KpR.ext hxb (by have := hkw.1.size; omega)); have hkbz := hkb.1.size; have hlb := hlo.trans hkb.1; (with_reducible refine (hwr.out _ HY wb (HYd.ext hxb) (by omega) (by omega) hlb).mono ?_); rintro e wc ⟨rfl, hdc2, hkc⟩; have hkc := hkb.trans hkc; have hkcz := hkc.1.size))
        go_wp2_with ((with_reducible refine wpList_invoke_of "WriteString" ?_ 71 129 Tryz.func129 ?_); rfl; refine ⟨_, rfl, (by kernel_rfl), (by kernel_rfl), (hme.out _ _), ?_⟩; simp only [List.map_toArray, List.map_cons, List.map_nil, List.append_toArray, List.cons_append, List.nil_append, Act.eval]; go_simp; (with_reducible refine (writeString_c w.heap.size (w.heap.size + 1) _ ⟨#[10]⟩ wc hdc2 (by omega) (by omega)).mono ?_); rintro e wd ⟨rfl, hdd, hbd2, hod⟩)
        have hkd := hkc.trans (KpR.of hbd2 hod)
        go_roundw
        case rel => exact ⟨k + 1, hlt, by go_num, by (rw [hss.out]; try go_num), by rw [hnext.out]; exact hdd, hkd⟩
        case measure => simp [intOf]; omega
      · rw [if_neg hn1] at hbs
        have hnext : Hid (H ++ bdT C xs L (k + 1) = HB ++ RW ++ ⟨#[10]⟩) := Lib.hid (by
          rw [hbs, ← hHB]
          apply ByteArray.ext
          simp [nlB])
        rw [hHB] at hdr
        replace hHB := Lib.hid hHB
        clear hbs
        have hsY : (HB ++ RW).size + 1 ≤ 1000000000 := by rw [ByteArray.size_append]; omega
        have HBd := hdr
        go_upto_region 11 with (first
          | (go_at_call 48; (with_reducible refine (hrc.out S hSR _).mono ?_); rintro e wb ⟨rfl, hxb⟩)
          | (go_at_call 47; have hkb : KpR w.heap.size (w.heap.size + 1) w5 wb := hkr.trans (KpR.ext hxb (by have := hkr.1.size; omega)); have hkbz := hkb.1.size; have hlb := hlo.trans hkb.1; (with_reducible refine (hwr.out _ HB wb (HBd.ext hxb) (by omega) (by omega) hlb).mono ?_); rintro e wc ⟨rfl, hdc2, hkc⟩; have hkc := hkb.trans hkc; have hkcz := hkc.1.size))
        go_wp2_with ((with_reducible refine wpList_invoke_of "WriteString" ?_ 71 129 Tryz.func129 ?_); rfl; refine ⟨_, rfl, (by kernel_rfl), (by kernel_rfl), (hme.out _ _), ?_⟩; simp only [List.map_toArray, List.map_cons, List.map_nil, List.append_toArray, List.cons_append, List.nil_append, Act.eval]; go_simp; (with_reducible refine (writeString_c w.heap.size (w.heap.size + 1) _ ⟨#[10]⟩ wc hdc2 (by omega) (by omega)).mono ?_); rintro e wd ⟨rfl, hdd, hbd2, hod⟩)
        have hkd := hkc.trans (KpR.of hbd2 hod)
        go_roundw
        case rel => exact ⟨k + 1, hlt, by go_num, by (rw [hss.out]; try go_num), by rw [hnext.out]; exact hdd, hkd⟩
        case measure => simp [intOf]; omega
    · obtain rfl : k = L.length := by omega
      have hzz := hsz.out _ (Nat.le_refl _)
      have he1 : (⟨#[101, 110, 100, 10]⟩ : ByteArray).size = 4 := rfl
      go_wp2_with (first
        | ((with_reducible refine wpList_invoke_of "WriteString" ?_ 71 129 Tryz.func129 ?_); rfl; refine ⟨_, rfl, (by kernel_rfl), (by kernel_rfl), (hme.out _ _), ?_⟩; simp only [List.map_toArray, List.map_cons, List.map_nil, List.append_toArray, List.cons_append, List.nil_append, Act.eval]; go_simp; (with_reducible refine (writeString_c w.heap.size (w.heap.size + 1) _ ⟨#[101, 110, 100, 10]⟩ wr hdr (by rw [ByteArray.size_append]; omega) (by omega)).mono ?_); rintro e wy ⟨rfl, hdy, hby, hoy⟩; have hyz := hby.size)
        | (go_at_call 49; (with_reducible refine (string_c w.heap.size (w.heap.size + 1) _ wy hdy (by omega)).mono ?_); rintro e wz ⟨rfl, hbz⟩))
      go_ret
      exact ⟨by rw [hjt.out]; rfl, (hlw.trans hby).trans hbz⟩
end Go.Proofs.YthpnkcamjcohgaaGreatDoor
