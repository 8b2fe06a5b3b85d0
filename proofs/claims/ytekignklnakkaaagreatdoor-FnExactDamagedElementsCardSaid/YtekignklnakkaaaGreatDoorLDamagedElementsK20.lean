/- Stacked symbols, the program's side: patternIndices. -/
import Derived.Test.YtekignklnakkaaaGreatDoorLDamagedElementsK18
import Derived.Test.YtekignklnakkaaaGreatDoorLDamagedElementsK15
import Derived.Test.YtekignklnakkaaaGreatDoorLDamagedElementsK19
set_option linter.unusedVariables false
set_option linter.unusedSimpArgs false
namespace Go.Proofs.YtekignklnakkaaaGreatDoor
open Go.RowKit Go.MapKept Go.ChangeMaps Go.Maps

theorem SAt.w8 {w : World} {p : Option Addr} {ps : List (List Int)} (h : SAt w8F 8 w p ps) {k : Nat} (hk : k < ps.length) : ∃ b o, p = some ⟨b, o, none⟩ ∧ b < w.heap.size ∧ ∀ i, i < 8 → w.cell? ⟨b, o + k * 8 + i, none⟩ = some (.int .i64 ((ps.getD k []).getD i 0)) := by
  obtain ⟨b, o, h1, h2, h3⟩ := h k hk
  refine ⟨b, o, h1, h2, fun i hi => ?_⟩
  rw [show ps.getD k [] = ps[k] from by rw [List.getD_eq_getElem?_getD, List.getElem?_eq_getElem hk]; rfl]
  exact h3 i _ (by simp [w8F, hi])
def PIx (w : World) (e : Ending) (w' : World) : Prop := ∃ g, e = .returned (.map (some g)) ∧ MapA 251 eW8 w' g 120 (idxF 120) ∧ w.heap.size ≤ g ∧ Ext w w'
set_option maxHeartbeats 1600000 in
set_option maxRecDepth 100000 in
theorem patternIndices_c (w : World) : Calls Tryz.prog 171 #[] w fun e w' => PIx w e w' := by
  have hm0 := MapA.made (k := 251) (E := eW8) w
  have hx0 : Ext w (w.alloc (.map #[] 0)) := (Ext.refl w).alloc _
  have hmm := @run_makeMap Tryz.prog
  have hap := Lib.hid (allPatterns_c (w.alloc (.map #[] 0)))
  go_enter Tryz.func171, Tryz.ntmps171
  go_wp2_with (go_at_call 201; (with_reducible refine (hap.out).mono ?_); rintro e w6 ⟨v6, rfl, hA6, hx6⟩; obtain ⟨p6, c6, rfl, hs6, hb6⟩ := hA6.nfree w8F_len; have hlen6 := PAT_len)
  have hm6 := (hm0.ext hx6).congr (g := idxF 0) (fun x => (idxF_zero x).symm)
  have hne6 := Lib.hid (fun b o (e : p6 = some ⟨b, o, none⟩) => (show b ≠ w.heap.size from by have h1 := (hb6 b o e).1; rw [World.size_alloc] at h1; omega))
  have hx06 := hx0.trans hx6
  replace hs6 := Lib.hid hs6
  clear hm0 hx0 hap hmm hb6 hA6 hx6
  obtain ⟨g, hg⟩ : ∃ g, w.heap.size = g := ⟨_, rfl⟩
  have hgw : w.heap.size ≤ g := by omega
  rw [hg] at hm6 hne6 ⊢
  clear hg
  go_loopw [7] (fun i wr => ∃ j : Nat, j ≤ 120 ∧ i = .int .i64 j ∧ MapA 251 eW8 wr g j (idxF j) ∧ But g w6 wr) (fun i _ => 120 - (intOf i).toNat)
  case atStart => exact ⟨0, Nat.zero_le _, rfl, hm6, But.refl _ _⟩
  case round =>
    clear hm6
    obtain ⟨j, hj, rfl, hm, hB⟩ := hrel
    by_cases hlt : j < 120
    · obtain ⟨b6, o6, rfl, hb6, hy⟩ := (SAt.butF hs6.out hB hne6.out).w8 (k := j) (by omega)
      have hP8 := PAT_at8 j hlt
      have hs2 := Lib.hid (fun (y : L8) (hy : y.1 = PAT.getD j []) (x : L8) => (idxF_succ hlt y x hy).symm)
      have hin : ∀ v ∈ PAT.getD j [], 1 ≤ v ∧ v ≤ 11 := by
        intro v hv
        rw [List.getD_eq_getElem?_getD, List.getElem?_eq_getElem (by omega)] at hv
        exact PAT_in _ (List.getElem_mem _) v hv
      generalize PAT.getD j [] = q at *
      obtain ⟨q0, q1, q2, q3, q4, q5, q6, q7, rfl⟩ := eight_of hP8
      obtain ⟨kl, hkl⟩ := w8Key (x := ⟨[q0, q1, q2, q3, q4, q5, q6, q7], rfl⟩) (fun v hv => by have := hin v hv; omega)
      replace hkl := Lib.hid hkl
      have y0 := hy 0 (by omega); have y1 := hy 1 (by omega); have y2 := hy 2 (by omega); have y3 := hy 3 (by omega); have y4 := hy 4 (by omega); have y5 := hy 5 (by omega); have y6 := hy 6 (by omega); have y7 := hy 7 (by omega)
      simp only [Nat.add_zero, List.getD_cons_zero, List.getD_cons_succ] at y0 y1 y2 y3 y4 y5 y6 y7
      clear hy hin hP8
      have hB2 := hB.trans (But.of ((Ext.refl wr).alloc (.cells #[.int .i64 q0, .int .i64 q1, .int .i64 q2, .int .i64 q3, .int .i64 q4, .int .i64 q5, .int .i64 q6, .int .i64 q7] 251)))
      go_wp2_with (refine wp_put (y := (⟨[q0, q1, q2, q3, q4, q5, q6, q7], rfl⟩ : L8)) (u := .int .i64 j) eW8_inj (hm.ext ((Ext.refl wr).alloc (.cells #[.int .i64 q0, .int .i64 q1, .int .i64 q2, .int .i64 q3, .int .i64 q4, .int .i64 q5, .int .i64 q6, .int .i64 q7] 251))) w8Keyed Tryz.underlying223 (by unfold maxLen; omega) hkl.out ?_ rfl rfl rfl; intro w8 hm8 hg8)
      go_roundw
      case rel => exact ⟨j + 1, hlt, by go_num, hm8.congr (hs2.out _ rfl), hB2.grown hg8⟩
      case measure => simp [intOf]; omega
    · obtain rfl : j = 120 := by omega
      go_wp2
      exact bodyPost_end (v := .map (some g)) (by simp [results, Tryz.results171, go_sem]) rfl ⟨g, rfl, hm, hgw, hx06.but hB hgw⟩
end Go.Proofs.YtekignklnakkaaaGreatDoor
