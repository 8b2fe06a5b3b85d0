/- JoinJobs, on both sides. -/
import Derived.Test.YthpnkcamjcohgaaGreatDoorLJoinedJobsK42
import Derived.Test.YthpnkcamjcohgaaGreatDoorLJoinedJobsK31
namespace Go.Proofs.YthpnkcamjcohgaaGreatDoor
set_option linter.unusedVariables false
set_option linter.unusedSimpArgs false
open Go.RowKit

theorem copyOfJ_c (p : Option Addr) (c : Nat) (xs : List Int) (w : World) (hx : IntsAt w p xs) (hl : xs.length ≤ 1048576) :
    Calls Tryz.prog 22 #[.slice p xs.length c] w fun e w' => (∃ v, e = .returned v ∧ RowI w.heap.size w' v xs) ∧ Ext w w' := by
  go_enter Tryz.func22, Tryz.ntmps22
  go_wp2_with (at_builtin; go_loud (refine appendLI (RowI.nil w.heap.size w) hx (by simp; omega) (Nat.le_refl _) ?_ rfl rfl); intro v1 w1 hown1 hG1)
  go_ret
  exact ⟨⟨_, rfl, by simpa using hown1⟩, hG1.toExt (Ext.refl w) (fun k hk => by cases hk)⟩

theorem sOwnJ_c (p : Option Addr) (c : Nat) (xs : List Int) (w : World) (hx : IntsAt w p xs) (hl : xs.length ≤ 1048576) :
    Calls Tryz.prog 23 #[.slice p xs.length c] w fun e w' => (∃ v, e = .returned v ∧ RowI w.heap.size w' v xs) ∧ Ext w w' := by
  go_enter Tryz.func23, Tryz.ntmps23
  go_wp2_with (at_builtin; go_loud (refine appendLI (RowI.made (Nat.le_refl _)) (hx.ext ((Ext.refl w).alloc _)) (by simp; omega) (by simp) ?_ rfl rfl); intro v1 w1 hown1 hG1)
  go_ret
  exact ⟨⟨_, rfl, by simpa using hown1⟩, hG1.toExt ((Ext.refl w).alloc _) (fun k hk => by simp [Value.ownBlock] at hk; omega)⟩

open Classical in
/-- What JoinJobs tells. -/
noncomputable def jnV (a b : ByteArray) : ByteArray × Int :=
  if ¬ ((rjV a).2.2.2 = true ∧ (rjV b).2.2.2 = true) then (ByteArray.empty, 6) else
  if (rjV a).2.1 ≠ (rjV b).2.1 then (ByteArray.empty, 5) else
  if 40000 < (rjV a).2.2.1.length + (rjV b).2.2.1.length then (ByteArray.empty, 3) else
  joV ((rjV a).1 + (rjV b).1) (rjV a).2.1 ((rjV a).2.2.1 ++ (rjV b).2.2.1)
theorem rjV_ok {s : ByteArray} (h : (rjV s).2.2.2 = true) : ∃ R C : Nat, (rjV s).1 = R ∧ (rjV s).2.1 = C ∧ okJ R C (rjV s).2.2.1 := by
  rcases rjV_cases s with ⟨R, C, xs, hj, e⟩ | e
  · rw [e]; exact ⟨R, C, rfl, rfl, hj.1⟩
  · rw [e] at h; cases h
theorem okJ_join {R R' C : Nat} {xs ys : List Int} (h : okJ R C xs) (h' : okJ R' C ys) (hl : xs.length + ys.length ≤ 40000) : okJ (R + R') C (xs ++ ys) := by
  have h1 := h.len; have h2 := h'.len
  have e : (R + R') * C = R * C + R' * C := Nat.add_mul R R' C
  refine ⟨by have := h.r1; omega, h.c1, by omega, by rw [List.length_append]; omega, z1_app h.known h'.known⟩
set_option maxHeartbeats 1600000 in
set_option maxRecDepth 100000 in
theorem sJoinJobs_c (a b : ByteArray) (w : World) (ha : a.size ≤ 1048576) (hb : b.size ≤ 1048576) (hT : Tab10 w) :
    Calls Tryz.prog 8 #[.string a, .string b] w fun e w' => e = .returned (.tuple #[.string (jnV a b).1, .int .i64 (jnV a b).2]) ∧ Ext w w' := by
  have HT := Lib.hid hT; clear hT
  have hra := Lib.hid (fun W => (sReadJob_c a W ha).mono (fun e w' (h : RjE _ _ _ _ ∧ _) => (And.intro h.1.form h.2)))
  have hrb := Lib.hid (fun W => (sReadJob_c b W hb).mono (fun e w' (h : RjE _ _ _ _ ∧ _) => (And.intro h.1.form h.2)))
  have hla := rjV_len a
  have hlb := rjV_len b
  have hoa := Lib.hid (rjV_ok (s := a))
  have hob := Lib.hid (rjV_ok (s := b))
  unfold jnV
  generalize rjV a = V at *
  generalize rjV b = U at *
  obtain ⟨R1, C1, xs, ok1⟩ := V
  obtain ⟨R2, C2, ys, ok2⟩ := U
  simp only at hra hrb hla hlb hoa hob ⊢
  obtain ⟨V, hV⟩ : ∃ V : ByteArray × Int, (if ¬ (ok1 = true ∧ ok2 = true) then (ByteArray.empty, 6) else if C1 ≠ C2 then (ByteArray.empty, 5) else if 40000 < xs.length + ys.length then (ByteArray.empty, 3) else joV (R1 + R2) C1 (xs ++ ys)) = V := ⟨_, rfl⟩
  rw [hV]
  replace hV := Lib.hid hV
  go_enter Tryz.func8, Tryz.ntmps8
  go_upto_region 2 with (go_at_call 12; (with_reducible refine (hra.out _).mono ?_); rintro e w1 ⟨⟨p1, k1, rfl, ho1⟩, hx1⟩)
  have hA := Blk.new w1 #[.int .i64 R1, .int .i64 C1, .slice p1 xs.length k1] 30
  have hxa : Ext w1 (w1.alloc (.cells #[.int .i64 R1, .int .i64 C1, .slice p1 xs.length k1] 30)) := (Ext.refl w1).alloc _
  have hi1 := Lib.hid (ho1.ints.ext hxa)
  have hx02 := hx1.trans hxa
  clear ho1 hxa hx1
  generalize w1.alloc (.cells #[.int .i64 R1, .int .i64 C1, .slice p1 xs.length k1] 30) = w2 at *
  generalize w1.heap.size = g1 at *
  go_upto_region 3 with (go_at_call 12; (with_reducible refine (hrb.out _).mono ?_); rintro e w3 ⟨⟨p2, k2, rfl, ho2⟩, hx3⟩)
  have hB := Blk.new w3 #[.int .i64 R2, .int .i64 C2, .slice p2 ys.length k2] 30
  have hxb : Ext w3 (w3.alloc (.cells #[.int .i64 R2, .int .i64 C2, .slice p2 ys.length k2] 30)) := (Ext.refl w3).alloc _
  have hi2 := Lib.hid (ho2.ints.ext hxb)
  have hx24 := hx3.trans hxb
  replace hA := hA.ext hx24
  replace hi1 := Lib.hid (hi1.out.ext hx24)
  have hx04 := hx02.trans hx24
  clear ho2 hxb hx3 hx02 hx24
  generalize w3.alloc (.cells #[.int .i64 R2, .int .i64 C2, .slice p2 ys.length k2] 30) = w4 at *
  generalize w3.heap.size = g2 at *
  have q0 := hA.cell (i := 0) (v := .int .i64 R1) rfl; have q1 := hA.cell (i := 1) (v := .int .i64 C1) rfl; have q2 := hA.cell (i := 2) (v := .slice p1 xs.length k1) rfl; have ql := hA.lt
  have z0 := hB.cell (i := 0) (v := .int .i64 R2) rfl; have z1 := hB.cell (i := 1) (v := .int .i64 C2) rfl; have z2 := hB.cell (i := 2) (v := .slice p2 ys.length k2) rfl; have zl := hB.lt
  cases ok1
  · go_wp2
    go_ret2
    exact ⟨by rw [← hV.out, if_pos (fun h => by cases h.1)] <;> rfl, hx04⟩
  · cases ok2
    · go_wp2
      go_ret2
      exact ⟨by rw [← hV.out, if_pos (fun h => by cases h.2)] <;> rfl, hx04⟩
    · by_cases hC : C1 = C2
      · subst hC
        obtain ⟨RA, CA, rfl, rfl, hj1⟩ := hoa.out rfl
        obtain ⟨RB, CB, rfl, hCB, hj2⟩ := hob.out rfl
        obtain rfl : CA = CB := by omega
        have hCb : ((CA : Int) != (CA : Int)) = false := by simp
        have hr1 := hj1.rle; have hr2 := hj2.rle
        have hRw := IntWalk.i64_in ((RA : Int) + (RB : Int)) (by omega)
        have hcp := Lib.hid (fun W (h : IntsAt W p1 xs) => sOwnJ_c p1 k1 xs W h (by omega))
        obtain ⟨YS, hYS⟩ : ∃ YS, xs ++ ys = YS := ⟨_, rfl⟩
        have hYl : YS.length = xs.length + ys.length := by rw [← hYS, List.length_append]
        clear hra hrb hoa hob hCB
        go_upto_region 7 with (fail)
        have hjo := Lib.hid (fun p k W (h : IntsAt W p YS) (hk : YS.length ≤ k) (hT : Tab10 W) => sJobOf_c ((RA : Int) + RB) CA p k YS W h (by omega) hk hT)
        refine wp_region_canon (fun w' => Ext w4 w') [(0, true), (1, true), (3, true), (4, true), (2, false), (5, false), (6, true)] (by kernel_rfl) (by kernel_rfl) (by decide) (by kernel_rfl) ?_ ?_
        · exact (by repeat (first | exact Ext.refl _ | assumption | refine Ext.drew ?_ | refine Ext.drewN ?_ _ | refine Ext.iter ?_ _ _ | refine Ext.alloc ?_ _ | refine Ext.setCell ?_ (by first | exact Nat.le_refl _ | (simp <;> omega)) _ | refine Ext.trans2 (by assumption) ?_))
        refine canon_intro fun ops eo => ?_
        have ho0 := canon_at eo 0 rfl
        have ho1 := canon_at eo 1 rfl
        have ho2 := canon_at eo 2 rfl
        have ho3 := canon_at eo 3 rfl
        have ho4 := canon_at eo 4 rfl
        have ho5 := canon_at eo 5 rfl
        have ho6 := canon_at eo 6 rfl
        clear eo
        all_goals (apply canon_st ho0 rfl; (intro w2 hS; first | (go_simp; first | done | rfl) | rfl | (obtain ⟨hc', hf', hk', hz⟩ := ecell hS; go_simp; first | done | rfl)); simp only [Act.put, List.setIfInBounds_toArray, List.set_cons_zero, List.set_cons_succ])
        all_goals clear ho0
        all_goals (apply canon_st ho1 rfl; (intro w2 hS; first | (go_simp; first | done | rfl) | rfl | (obtain ⟨hc', hf', hk', hz⟩ := ecell hS; go_simp; first | done | rfl)); simp only [Act.put, List.setIfInBounds_toArray, List.set_cons_zero, List.set_cons_succ])
        all_goals clear ho1
        all_goals (apply canon_st ho3 rfl; (intro w2 hS; first | (go_simp; first | done | rfl) | rfl | (obtain ⟨hc', hf', hk', hz⟩ := ecell hS; go_simp; first | done | rfl)); simp only [Act.put, List.setIfInBounds_toArray, List.set_cons_zero, List.set_cons_succ])
        all_goals clear ho3
        all_goals (apply canon_st ho4 rfl; (intro w2 hS; first | (go_simp; first | done | rfl) | rfl | (obtain ⟨hc', hf', hk', hz⟩ := ecell hS; go_simp; first | done | rfl)); simp only [Act.put, List.setIfInBounds_toArray, List.set_cons_zero, List.set_cons_succ])
        all_goals clear ho4
        all_goals first | (refine canon_ef ho2 rfl (fun K hK => ?_); go_simp; ((go_at_call 23; (with_reducible refine (hcp.out _ (hi1.out.ext (by repeat (first | exact Ext.refl _ | assumption | refine Ext.drew ?_ | refine Ext.drewN ?_ _ | refine Ext.iter ?_ _ _ | refine Ext.alloc ?_ _ | refine Ext.setCell ?_ (by first | exact Nat.le_refl _ | (simp <;> omega)) _ | refine Ext.trans2 (by assumption) ?_)))).mono ?_); rintro e w5 ⟨⟨v5, rfl, hq5⟩, hx5⟩; have hx45 := (Ext.refl w4).drew.trans hx5)); all_goals (refine hK _ _ ⟨(by first | assumption | exact (by repeat (first | exact Ext.refl _ | assumption | refine Ext.drew ?_ | refine Ext.drewN ?_ _ | refine Ext.iter ?_ _ _ | refine Ext.alloc ?_ _ | refine Ext.setCell ?_ (by first | exact Nat.le_refl _ | (simp <;> omega)) _ | refine Ext.trans2 (by assumption) ?_))), ?_⟩; clear hK K; go_simp)) | (refine canon_ef ho2 rfl (fun K hK => ?_); (refine appendLI_opJ hq5 (hi2.out.ext hx45) (by omega) hx5.below.size ?_ rfl rfl; intro v6 w6 hq6 hg6; rw [hYS] at hq6; have hx46 : Ext w4 w6 := hg6.toExt hx45 (fun k hk => (hq5.lt k hk).1); obtain ⟨p6, d6, rfl, hq6i, hcap⟩ := hq6.ownC); all_goals (refine hK _ _ ⟨(by first | assumption | exact (by repeat (first | exact Ext.refl _ | assumption | refine Ext.drew ?_ | refine Ext.drewN ?_ _ | refine Ext.iter ?_ _ _ | refine Ext.alloc ?_ _ | refine Ext.setCell ?_ (by first | exact Nat.le_refl _ | (simp <;> omega)) _ | refine Ext.trans2 (by assumption) ?_))), ?_⟩; clear hK K; go_simp))
        all_goals clear ho2
        all_goals first | (refine canon_ef ho5 rfl (fun K hK => ?_); go_simp; ((go_at_call 23; (with_reducible refine (hcp.out _ (hi1.out.ext (by repeat (first | exact Ext.refl _ | assumption | refine Ext.drew ?_ | refine Ext.drewN ?_ _ | refine Ext.iter ?_ _ _ | refine Ext.alloc ?_ _ | refine Ext.setCell ?_ (by first | exact Nat.le_refl _ | (simp <;> omega)) _ | refine Ext.trans2 (by assumption) ?_)))).mono ?_); rintro e w5 ⟨⟨v5, rfl, hq5⟩, hx5⟩; have hx45 := (Ext.refl w4).drew.trans hx5)); all_goals (refine hK _ _ ⟨(by first | assumption | exact (by repeat (first | exact Ext.refl _ | assumption | refine Ext.drew ?_ | refine Ext.drewN ?_ _ | refine Ext.iter ?_ _ _ | refine Ext.alloc ?_ _ | refine Ext.setCell ?_ (by first | exact Nat.le_refl _ | (simp <;> omega)) _ | refine Ext.trans2 (by assumption) ?_))), ?_⟩; clear hK K; go_simp)) | (refine canon_ef ho5 rfl (fun K hK => ?_); (refine appendLI_opJ hq5 (hi2.out.ext hx45) (by omega) hx5.below.size ?_ rfl rfl; intro v6 w6 hq6 hg6; rw [hYS] at hq6; have hx46 : Ext w4 w6 := hg6.toExt hx45 (fun k hk => (hq5.lt k hk).1); obtain ⟨p6, d6, rfl, hq6i, hcap⟩ := hq6.ownC); all_goals (refine hK _ _ ⟨(by first | assumption | exact (by repeat (first | exact Ext.refl _ | assumption | refine Ext.drew ?_ | refine Ext.drewN ?_ _ | refine Ext.iter ?_ _ _ | refine Ext.alloc ?_ _ | refine Ext.setCell ?_ (by first | exact Nat.le_refl _ | (simp <;> omega)) _ | refine Ext.trans2 (by assumption) ?_))), ?_⟩; clear hK K; go_simp))
        all_goals clear ho5
        all_goals (apply canon_st ho6 rfl; (intro w2 hS; first | (go_simp; first | done | rfl) | rfl | (obtain ⟨hc', hf', hk', hz⟩ := ecell hS; go_simp; first | done | rfl)); simp only [Act.put, List.setIfInBounds_toArray, List.set_cons_zero, List.set_cons_succ])
        all_goals clear ho6
        all_goals refine canon_done (NoPanic.normal ?_)
        have hA6 := hA.ext hx46; have hB6 := hB.ext hx46
        clear q0 q1 q2 ql z0 z1 z2 zl
        have q0 := hA6.cell (i := 0) (v := .int .i64 RA) rfl; have q1 := hA6.cell (i := 1) (v := .int .i64 CA) rfl; have ql := hA6.lt
        have z0 := hB6.cell (i := 0) (v := .int .i64 RB) rfl; have zl := hB6.lt
        by_cases hlen : 40000 < xs.length + ys.length
        · have hli : (40000 : Int) < YS.length := by omega
          replace hYS := Lib.hid hYS; replace hYl := Lib.hid hYl
          go_wp2
          go_ret2
          exact ⟨by rw [← hV.out, if_neg (by simp), if_neg (by simp), if_pos hlen] <;> rfl, hx04.trans hx46⟩
        · have hli : ¬ (40000 : Int) < YS.length := by omega
          have hin := Lib.hid hq6i.ints
          obtain ⟨J, hJ⟩ : ∃ J, joV ((RA : Int) + RB) CA YS = J := ⟨_, rfl⟩
          rw [hJ] at hjo
          rw [hYl] at hjo hcap
          replace hYS := Lib.hid hYS; replace hYl := Lib.hid hYl
          replace hJ := Lib.hid hJ
          go_wp2_with (go_at_call 24; (with_reducible refine (hjo.out _ _ _ hin.out hcap (HT.out.ext (hx04.trans hx46))).mono ?_); rintro e w7 ⟨rfl, hx7⟩)
          go_ret2
          exact ⟨by rw [← hV.out, if_neg (by simp), if_neg (by simp), if_neg hlen, hYS.out, hJ.out] <;> rfl, (hx04.trans hx46).trans hx7⟩
      · have hCb : (C1 != C2) = true := by simpa using hC
        go_wp2
        go_ret2
        exact ⟨by rw [← hV.out, if_neg (by simp), if_pos hC] <;> rfl, hx04⟩
set_option maxHeartbeats 1600000 in
set_option maxRecDepth 100000 in
theorem iJoinJobs_c (a b : ByteArray) (w : World) (ha : a.size ≤ 1048576) (hb : b.size ≤ 1048576) (hT : Tab10 w) (hM : MaxC w) (hE : ErrC w) :
    Calls Tryz.prog 7 #[.string a, .string b] w fun e w' => e = .returned (.tuple #[.string (jnV a b).1, .int .i64 (jnV a b).2]) ∧ Ext w w' := by
  have HT := Lib.hid hT; have HM := Lib.hid hM; have HE := Lib.hid hE; clear hT hM hE
  have hra := Lib.hid (fun W (hx : Ext w W) => (iReadJob_c a W ha (HT.out.ext hx) (HM.out.ext hx) (HE.out.ext hx)).mono (fun e w' (h : RjE _ _ _ _ ∧ _) => (And.intro h.1.form h.2)))
  have hrb := Lib.hid (fun W (hx : Ext w W) => (iReadJob_c b W hb (HT.out.ext hx) (HM.out.ext hx) (HE.out.ext hx)).mono (fun e w' (h : RjE _ _ _ _ ∧ _) => (And.intro h.1.form h.2)))
  have hla := rjV_len a
  have hlb := rjV_len b
  have hoa := Lib.hid (rjV_ok (s := a))
  have hob := Lib.hid (rjV_ok (s := b))
  unfold jnV
  generalize rjV a = V at *
  generalize rjV b = U at *
  obtain ⟨R1, C1, xs, ok1⟩ := V
  obtain ⟨R2, C2, ys, ok2⟩ := U
  simp only at hra hrb hla hlb hoa hob ⊢
  obtain ⟨V, hV⟩ : ∃ V : ByteArray × Int, (if ¬ (ok1 = true ∧ ok2 = true) then (ByteArray.empty, 6) else if C1 ≠ C2 then (ByteArray.empty, 5) else if 40000 < xs.length + ys.length then (ByteArray.empty, 3) else joV (R1 + R2) C1 (xs ++ ys)) = V := ⟨_, rfl⟩
  rw [hV]
  replace hV := Lib.hid hV
  go_enter Tryz.func7, Tryz.ntmps7
  go_upto_region 2 with (go_at_call 9; (with_reducible refine (hra.out _ (Ext.refl _)).mono ?_); rintro e w1 ⟨⟨p1, k1, rfl, ho1⟩, hx1⟩)
  have hA := Blk.new w1 #[.int .i64 R1, .int .i64 C1, .slice p1 xs.length k1] 30
  have hxa : Ext w1 (w1.alloc (.cells #[.int .i64 R1, .int .i64 C1, .slice p1 xs.length k1] 30)) := (Ext.refl w1).alloc _
  have hi1 := Lib.hid (ho1.ints.ext hxa)
  have hx02 := hx1.trans hxa
  clear ho1 hxa hx1
  generalize w1.alloc (.cells #[.int .i64 R1, .int .i64 C1, .slice p1 xs.length k1] 30) = w2 at *
  generalize w1.heap.size = g1 at *
  go_upto_region 3 with (go_at_call 9; (with_reducible refine (hrb.out _ hx02).mono ?_); rintro e w3 ⟨⟨p2, k2, rfl, ho2⟩, hx3⟩)
  have hB := Blk.new w3 #[.int .i64 R2, .int .i64 C2, .slice p2 ys.length k2] 30
  have hxb : Ext w3 (w3.alloc (.cells #[.int .i64 R2, .int .i64 C2, .slice p2 ys.length k2] 30)) := (Ext.refl w3).alloc _
  have hi2 := Lib.hid (ho2.ints.ext hxb)
  have hx24 := hx3.trans hxb
  replace hA := hA.ext hx24
  replace hi1 := Lib.hid (hi1.out.ext hx24)
  have hx04 := hx02.trans hx24
  clear ho2 hxb hx3 hx02 hx24
  generalize w3.alloc (.cells #[.int .i64 R2, .int .i64 C2, .slice p2 ys.length k2] 30) = w4 at *
  generalize w3.heap.size = g2 at *
  have q0 := hA.cell (i := 0) (v := .int .i64 R1) rfl; have q1 := hA.cell (i := 1) (v := .int .i64 C1) rfl; have q2 := hA.cell (i := 2) (v := .slice p1 xs.length k1) rfl; have ql := hA.lt
  have z0 := hB.cell (i := 0) (v := .int .i64 R2) rfl; have z1 := hB.cell (i := 1) (v := .int .i64 C2) rfl; have z2 := hB.cell (i := 2) (v := .slice p2 ys.length k2) rfl; have zl := hB.lt
  cases ok1
  · go_wp2
    go_ret2
    exact ⟨by rw [← hV.out, if_pos (fun h => by cases h.1)] <;> rfl, hx04⟩
  · cases ok2
    · go_wp2
      go_ret2
      exact ⟨by rw [← hV.out, if_pos (fun h => by cases h.2)] <;> rfl, hx04⟩
    · by_cases hC : C1 = C2
      · subst hC
        obtain ⟨RA, CA, rfl, rfl, hj1⟩ := hoa.out rfl
        obtain ⟨RB, CB, rfl, hCB, hj2⟩ := hob.out rfl
        obtain rfl : CA = CB := by omega
        have hCb : ((CA : Int) != (CA : Int)) = false := by simp
        have hr1 := hj1.rle; have hr2 := hj2.rle
        have hRw := IntWalk.i64_in ((RA : Int) + (RB : Int)) (by omega)
        have hLw := IntWalk.i64_in ((xs.length : Int) + (ys.length : Int)) (by omega)
        have hcp := Lib.hid (fun W (h : IntsAt W p1 xs) => copyOfJ_c p1 k1 xs W h (by omega))
        clear hra hrb hoa hob hCB
        by_cases hlen : 40000 < xs.length + ys.length
        · have hli : (40000 : Int) < (xs.length : Int) + ys.length := by omega
          go_wp2
          go_ret2
          exact ⟨by rw [← hV.out, if_neg (by simp), if_neg (by simp), if_pos hlen] <;> rfl, hx04⟩
        · have hli : ¬ (40000 : Int) < (xs.length : Int) + ys.length := by omega
          have hok := okJ_join hj1 hj2 (by omega)
          have hjv : joV ((RA : Int) + RB) CA (xs ++ ys) = if (jobT (RA + RB) CA (xs ++ ys)).size ≤ 20000 then (jobT (RA + RB) CA (xs ++ ys), 0) else (ByteArray.empty, 3) := by
            have h0 := job_jcV hok
            have e : ((RA + RB : Nat) : Int) = (RA : Int) + RB := by omega
            rw [e] at h0
            unfold joV
            rw [if_pos h0, Int.toNat_natCast, show ((RA : Int) + RB).toNat = RA + RB by omega]
          have hjz := jobT_size hok
          obtain ⟨YS, hYS⟩ : ∃ YS, xs ++ ys = YS := ⟨_, rfl⟩
          rw [hYS] at hok hjv hjz
          have hVj := Lib.hid (show V = joV ((RA : Int) + RB) CA YS from by rw [← hV.out, if_neg (by simp), if_neg (by simp), if_neg hlen, hYS])
          rw [hjv] at hVj
          have hYp : 0 < YS.length := by rw [hok.len]; exact Nat.mul_pos hok.r1 hok.c1
          have hjo := Lib.hid (fun bb oo k W (h : IntsAt W (some ⟨bb, oo, none⟩) YS) (hk : YS.length ≤ k) (hT : Tab10 W) => iJob_c (RA + RB) CA bb oo k YS W h hok hk hT)
          have hjo : Hid (∀ bb oo k W, IntsAt W (some ⟨bb, oo, none⟩) YS → YS.length ≤ k → Tab10 W → Calls Tryz.prog 21 #[vGrid ((RA : Int) + RB) CA (some ⟨bb, oo, none⟩) YS.length k] W fun e w' => e = .returned (.string (jobT (RA + RB) CA YS)) ∧ Ext W w') := Lib.hid (fun bb oo k W h1 h2 h3 => by have := hjo.out bb oo k W h1 h2 h3; rwa [show ((RA + RB : Nat) : Int) = (RA : Int) + RB by omega] at this)
          clear hjv hok
          generalize jobT (RA + RB) CA YS = J at *
          replace hYS := Lib.hid hYS
          go_upto_region 9 with (fail)
          refine wp_region_canon (fun w' => Ext w4 w') [(0, true), (1, true), (2, true), (3, true), (4, true), (5, true), (6, true), (7, true), (8, true), (10, true), (11, true), (9, false), (12, false), (13, true), (14, false), (15, true)] (by kernel_rfl) (by kernel_rfl) (by decide) (by kernel_rfl) ?_ ?_
          · exact (by repeat (first | exact Ext.refl _ | assumption | refine Ext.drew ?_ | refine Ext.drewN ?_ _ | refine Ext.iter ?_ _ _ | refine Ext.alloc ?_ _ | refine Ext.setCell ?_ (by first | exact Nat.le_refl _ | (simp <;> omega)) _ | refine Ext.trans2 (by assumption) ?_))
          refine canon_intro fun ops eo => ?_
          have ho0 := canon_at eo 0 rfl
          have ho1 := canon_at eo 1 rfl
          have ho2 := canon_at eo 2 rfl
          have ho3 := canon_at eo 3 rfl
          have ho4 := canon_at eo 4 rfl
          have ho5 := canon_at eo 5 rfl
          have ho6 := canon_at eo 6 rfl
          have ho7 := canon_at eo 7 rfl
          have ho8 := canon_at eo 8 rfl
          have ho9 := canon_at eo 9 rfl
          have ho10 := canon_at eo 10 rfl
          have ho11 := canon_at eo 11 rfl
          have ho12 := canon_at eo 12 rfl
          have ho13 := canon_at eo 13 rfl
          have ho14 := canon_at eo 14 rfl
          have ho15 := canon_at eo 15 rfl
          clear eo
          all_goals (apply canon_st ho0 rfl; (intro w2 hS; first | (go_simp; first | done | rfl) | rfl | (obtain ⟨hc', hf', hk', hz⟩ := ecell hS; go_simp; first | done | rfl)); simp only [Act.put, List.setIfInBounds_toArray, List.set_cons_zero, List.set_cons_succ])
          all_goals clear ho0
          all_goals (apply canon_st ho1 rfl; (intro w2 hS; first | (go_simp; first | done | rfl) | rfl | (obtain ⟨hc', hf', hk', hz⟩ := ecell hS; go_simp; first | done | rfl)); simp only [Act.put, List.setIfInBounds_toArray, List.set_cons_zero, List.set_cons_succ])
          all_goals clear ho1
          all_goals (apply canon_st ho2 rfl; (intro w2 hS; first | (go_simp; first | done | rfl) | rfl | (obtain ⟨hc', hf', hk', hz⟩ := ecell hS; go_simp; first | done | rfl)); simp only [Act.put, List.setIfInBounds_toArray, List.set_cons_zero, List.set_cons_succ])
          all_goals clear ho2
          all_goals (apply canon_st ho3 rfl; (intro w2 hS; first | (go_simp; first | done | rfl) | rfl | (obtain ⟨hc', hf', hk', hz⟩ := ecell hS; go_simp; first | done | rfl)); simp only [Act.put, List.setIfInBounds_toArray, List.set_cons_zero, List.set_cons_succ])
          all_goals clear ho3
          all_goals (apply canon_st ho4 rfl; (intro w2 hS; first | (go_simp; first | done | rfl) | rfl | (obtain ⟨hc', hf', hk', hz⟩ := ecell hS; go_simp; first | done | rfl)); simp only [Act.put, List.setIfInBounds_toArray, List.set_cons_zero, List.set_cons_succ])
          all_goals clear ho4
          all_goals (apply canon_st ho5 rfl; (intro w2 hS; first | (go_simp; first | done | rfl) | rfl | (obtain ⟨hc', hf', hk', hz⟩ := ecell hS; go_simp; first | done | rfl)); simp only [Act.put, List.setIfInBounds_toArray, List.set_cons_zero, List.set_cons_succ])
          all_goals clear ho5
          all_goals (apply canon_st ho6 rfl; (intro w2 hS; first | (go_simp; first | done | rfl) | rfl | (obtain ⟨hc', hf', hk', hz⟩ := ecell hS; go_simp; first | done | rfl)); simp only [Act.put, List.setIfInBounds_toArray, List.set_cons_zero, List.set_cons_succ])
          all_goals clear ho6
          all_goals (apply canon_st ho7 rfl; (intro w2 hS; first | (go_simp; first | done | rfl) | rfl | (obtain ⟨hc', hf', hk', hz⟩ := ecell hS; go_simp; first | done | rfl)); simp only [Act.put, List.setIfInBounds_toArray, List.set_cons_zero, List.set_cons_succ])
          all_goals clear ho7
          all_goals (apply canon_st ho8 rfl; (intro w2 hS; first | (go_simp; first | done | rfl) | rfl | (obtain ⟨hc', hf', hk', hz⟩ := ecell hS; go_simp; first | done | rfl)); simp only [Act.put, List.setIfInBounds_toArray, List.set_cons_zero, List.set_cons_succ])
          all_goals clear ho8
          all_goals (apply canon_st ho10 rfl; (intro w2 hS; first | (go_simp; first | done | rfl) | rfl | (obtain ⟨hc', hf', hk', hz⟩ := ecell hS; go_simp; first | done | rfl)); simp only [Act.put, List.setIfInBounds_toArray, List.set_cons_zero, List.set_cons_succ])
          all_goals clear ho10
          all_goals (apply canon_st ho11 rfl; (intro w2 hS; first | (go_simp; first | done | rfl) | rfl | (obtain ⟨hc', hf', hk', hz⟩ := ecell hS; go_simp; first | done | rfl)); simp only [Act.put, List.setIfInBounds_toArray, List.set_cons_zero, List.set_cons_succ])
          all_goals clear ho11
          all_goals first | (refine canon_ef ho9 rfl (fun K hK => ?_); go_simp; ((go_at_call 22; (with_reducible refine (hcp.out _ (hi1.out.ext (by repeat (first | exact Ext.refl _ | assumption | refine Ext.drew ?_ | refine Ext.drewN ?_ _ | refine Ext.iter ?_ _ _ | refine Ext.alloc ?_ _ | refine Ext.setCell ?_ (by first | exact Nat.le_refl _ | (simp <;> omega)) _ | refine Ext.trans2 (by assumption) ?_)))).mono ?_); rintro e w5 ⟨⟨v5, rfl, hq5⟩, hx5⟩; have hx45 := (Ext.refl w4).drew.trans hx5)); all_goals (refine hK _ _ ⟨(by first | assumption | exact (by repeat (first | exact Ext.refl _ | assumption | refine Ext.drew ?_ | refine Ext.drewN ?_ _ | refine Ext.iter ?_ _ _ | refine Ext.alloc ?_ _ | refine Ext.setCell ?_ (by first | exact Nat.le_refl _ | (simp <;> omega)) _ | refine Ext.trans2 (by assumption) ?_))), ?_⟩; clear hK K; go_simp)) | (refine canon_ef ho9 rfl (fun K hK => ?_); (refine appendLI_opJ hq5 (hi2.out.ext hx45) (by omega) hx5.below.size ?_ rfl rfl; intro v6 w6 hq6 hg6; rw [hYS.out] at hq6; have hx46 : Ext w4 w6 := hg6.toExt hx45 (fun k hk => (hq5.lt k hk).1); obtain ⟨p6, d6, rfl, hq6i, hcap⟩ := hq6.ownC; obtain ⟨bb, oo, rfl, -, -⟩ := hq6i.ints 0 hYp; have hin := Lib.hid hq6i.ints; have hTx := HT.out.ext (hx04.trans hx46)); all_goals (refine hK _ _ ⟨(by first | assumption | exact (by repeat (first | exact Ext.refl _ | assumption | refine Ext.drew ?_ | refine Ext.drewN ?_ _ | refine Ext.iter ?_ _ _ | refine Ext.alloc ?_ _ | refine Ext.setCell ?_ (by first | exact Nat.le_refl _ | (simp <;> omega)) _ | refine Ext.trans2 (by assumption) ?_))), ?_⟩; clear hK K; go_simp)) | (refine canon_ef ho9 rfl (fun K hK => ?_); go_simp; ((go_at_call 21; (with_reducible refine (hjo.out _ _ _ _ hin.out hcap hTx).mono ?_); rintro e w7 ⟨rfl, hx7⟩; have hx47 := hx46.trans hx7)); all_goals (refine hK _ _ ⟨(by first | assumption | exact (by repeat (first | exact Ext.refl _ | assumption | refine Ext.drew ?_ | refine Ext.drewN ?_ _ | refine Ext.iter ?_ _ _ | refine Ext.alloc ?_ _ | refine Ext.setCell ?_ (by first | exact Nat.le_refl _ | (simp <;> omega)) _ | refine Ext.trans2 (by assumption) ?_))), ?_⟩; clear hK K; go_simp))
          all_goals clear ho9
          all_goals first | (refine canon_ef ho12 rfl (fun K hK => ?_); go_simp; ((go_at_call 22; (with_reducible refine (hcp.out _ (hi1.out.ext (by repeat (first | exact Ext.refl _ | assumption | refine Ext.drew ?_ | refine Ext.drewN ?_ _ | refine Ext.iter ?_ _ _ | refine Ext.alloc ?_ _ | refine Ext.setCell ?_ (by first | exact Nat.le_refl _ | (simp <;> omega)) _ | refine Ext.trans2 (by assumption) ?_)))).mono ?_); rintro e w5 ⟨⟨v5, rfl, hq5⟩, hx5⟩; have hx45 := (Ext.refl w4).drew.trans hx5)); all_goals (refine hK _ _ ⟨(by first | assumption | exact (by repeat (first | exact Ext.refl _ | assumption | refine Ext.drew ?_ | refine Ext.drewN ?_ _ | refine Ext.iter ?_ _ _ | refine Ext.alloc ?_ _ | refine Ext.setCell ?_ (by first | exact Nat.le_refl _ | (simp <;> omega)) _ | refine Ext.trans2 (by assumption) ?_))), ?_⟩; clear hK K; go_simp)) | (refine canon_ef ho12 rfl (fun K hK => ?_); (refine appendLI_opJ hq5 (hi2.out.ext hx45) (by omega) hx5.below.size ?_ rfl rfl; intro v6 w6 hq6 hg6; rw [hYS.out] at hq6; have hx46 : Ext w4 w6 := hg6.toExt hx45 (fun k hk => (hq5.lt k hk).1); obtain ⟨p6, d6, rfl, hq6i, hcap⟩ := hq6.ownC; obtain ⟨bb, oo, rfl, -, -⟩ := hq6i.ints 0 hYp; have hin := Lib.hid hq6i.ints; have hTx := HT.out.ext (hx04.trans hx46)); all_goals (refine hK _ _ ⟨(by first | assumption | exact (by repeat (first | exact Ext.refl _ | assumption | refine Ext.drew ?_ | refine Ext.drewN ?_ _ | refine Ext.iter ?_ _ _ | refine Ext.alloc ?_ _ | refine Ext.setCell ?_ (by first | exact Nat.le_refl _ | (simp <;> omega)) _ | refine Ext.trans2 (by assumption) ?_))), ?_⟩; clear hK K; go_simp)) | (refine canon_ef ho12 rfl (fun K hK => ?_); go_simp; ((go_at_call 21; (with_reducible refine (hjo.out _ _ _ _ hin.out hcap hTx).mono ?_); rintro e w7 ⟨rfl, hx7⟩; have hx47 := hx46.trans hx7)); all_goals (refine hK _ _ ⟨(by first | assumption | exact (by repeat (first | exact Ext.refl _ | assumption | refine Ext.drew ?_ | refine Ext.drewN ?_ _ | refine Ext.iter ?_ _ _ | refine Ext.alloc ?_ _ | refine Ext.setCell ?_ (by first | exact Nat.le_refl _ | (simp <;> omega)) _ | refine Ext.trans2 (by assumption) ?_))), ?_⟩; clear hK K; go_simp))
          all_goals clear ho12
          all_goals (apply canon_st ho13 rfl; (intro w2 hS; first | (go_simp; first | done | rfl) | rfl | (obtain ⟨hc', hf', hk', hz⟩ := ecell hS; go_simp; first | done | rfl)); simp only [Act.put, List.setIfInBounds_toArray, List.set_cons_zero, List.set_cons_succ])
          all_goals clear ho13
          all_goals first | (refine canon_ef ho14 rfl (fun K hK => ?_); go_simp; ((go_at_call 22; (with_reducible refine (hcp.out _ (hi1.out.ext (by repeat (first | exact Ext.refl _ | assumption | refine Ext.drew ?_ | refine Ext.drewN ?_ _ | refine Ext.iter ?_ _ _ | refine Ext.alloc ?_ _ | refine Ext.setCell ?_ (by first | exact Nat.le_refl _ | (simp <;> omega)) _ | refine Ext.trans2 (by assumption) ?_)))).mono ?_); rintro e w5 ⟨⟨v5, rfl, hq5⟩, hx5⟩; have hx45 := (Ext.refl w4).drew.trans hx5)); all_goals (refine hK _ _ ⟨(by first | assumption | exact (by repeat (first | exact Ext.refl _ | assumption | refine Ext.drew ?_ | refine Ext.drewN ?_ _ | refine Ext.iter ?_ _ _ | refine Ext.alloc ?_ _ | refine Ext.setCell ?_ (by first | exact Nat.le_refl _ | (simp <;> omega)) _ | refine Ext.trans2 (by assumption) ?_))), ?_⟩; clear hK K; go_simp)) | (refine canon_ef ho14 rfl (fun K hK => ?_); (refine appendLI_opJ hq5 (hi2.out.ext hx45) (by omega) hx5.below.size ?_ rfl rfl; intro v6 w6 hq6 hg6; rw [hYS.out] at hq6; have hx46 : Ext w4 w6 := hg6.toExt hx45 (fun k hk => (hq5.lt k hk).1); obtain ⟨p6, d6, rfl, hq6i, hcap⟩ := hq6.ownC; obtain ⟨bb, oo, rfl, -, -⟩ := hq6i.ints 0 hYp; have hin := Lib.hid hq6i.ints; have hTx := HT.out.ext (hx04.trans hx46)); all_goals (refine hK _ _ ⟨(by first | assumption | exact (by repeat (first | exact Ext.refl _ | assumption | refine Ext.drew ?_ | refine Ext.drewN ?_ _ | refine Ext.iter ?_ _ _ | refine Ext.alloc ?_ _ | refine Ext.setCell ?_ (by first | exact Nat.le_refl _ | (simp <;> omega)) _ | refine Ext.trans2 (by assumption) ?_))), ?_⟩; clear hK K; go_simp)) | (refine canon_ef ho14 rfl (fun K hK => ?_); go_simp; ((go_at_call 21; (with_reducible refine (hjo.out _ _ _ _ hin.out hcap hTx).mono ?_); rintro e w7 ⟨rfl, hx7⟩; have hx47 := hx46.trans hx7)); all_goals (refine hK _ _ ⟨(by first | assumption | exact (by repeat (first | exact Ext.refl _ | assumption | refine Ext.drew ?_ | refine Ext.drewN ?_ _ | refine Ext.iter ?_ _ _ | refine Ext.alloc ?_ _ | refine Ext.setCell ?_ (by first | exact Nat.le_refl _ | (simp <;> omega)) _ | refine Ext.trans2 (by assumption) ?_))), ?_⟩; clear hK K; go_simp))
          all_goals clear ho14
          all_goals (apply canon_st ho15 rfl; (intro w2 hS; first | (go_simp; first | done | rfl) | rfl | (obtain ⟨hc', hf', hk', hz⟩ := ecell hS; go_simp; first | done | rfl)); simp only [Act.put, List.setIfInBounds_toArray, List.set_cons_zero, List.set_cons_succ])
          all_goals clear ho15
          all_goals refine canon_done (NoPanic.normal ?_)
          by_cases hJ : J.size ≤ 20000
          · have hJi : ¬ (20000 : Int) < J.size := by omega
            go_wp2
            go_ret2
            exact ⟨by rw [hVj.out, if_pos hJ] <;> rfl, hx04.trans hx47⟩
          · have hJi : (20000 : Int) < J.size := by omega
            go_wp2
            go_ret2
            exact ⟨by rw [hVj.out, if_neg hJ] <;> rfl, hx04.trans hx47⟩
      · have hCb : (C1 != C2) = true := by simpa using hC
        go_wp2
        go_ret2
        exact ⟨by rw [← hV.out, if_neg (by simp), if_pos hC] <;> rfl, hx04⟩
end Go.Proofs.YthpnkcamjcohgaaGreatDoor
