/- Stacked symbols, the reference's side: rows of values and the level that they tell. -/
import Derived.Test.YtajidoofhmoalaaGreatDoorLLevelOfK32
import Derived.Test.YtajidoofhmoalaaGreatDoorLLevelOfK34
set_option linter.unusedVariables false
set_option linter.unusedSimpArgs false
namespace Go.Proofs.YtajidoofhmoalaaGreatDoor
open Go.RowKit

set_option maxHeartbeats 1600000 in
set_option maxRecDepth 100000 in
theorem l17Read_c (b o c : Nat) (xs : List Int) (cl : Int) (w : World) (hx : IntsAt w (some ⟨b, o, none⟩) xs) (hl : xs.length ≤ 100000) (hc : xs.length ≤ c) :
    Calls Tryz.prog 144 #[.slice (some ⟨b, o, none⟩) xs.length c, .int .i64 cl] w fun e w' => (∃ v, e = .returned v ∧ RowI w.heap.size w' v (rowV xs cl (rowN xs.length))) ∧ Ext w w' := by
  have HX := Lib.hid hx; clear hx
  have hall := Lib.hid (l17All_c w)
  have hvv := Lib.hid (fun B v b o c ys W (hA : LLs B W v PAT) (h : IntsAt W (some ⟨b, o, none⟩) ys) (h2 : ys.length = 11) => l17Value_c B v b o c ys cl W hA h h2)
  go_enter Tryz.func144, Tryz.ntmps144
  go_wp2_with (go_at_call 190; go_loud ((with_reducible refine (hall.out).mono ?_); rintro e w2 ⟨⟨vA, rfl, hA⟩, hx2⟩))
  have hm0 := RowI.made (B := w2.heap.size) (w := w2) (Nat.le_refl _)
  have hx0 : Ext w2 (w2.alloc (.cells #[] 2)) := (Ext.refl w2).alloc _
  replace hA := Lib.hid hA
  go_loopw [6, 7] (fun v at_ wr => ∃ j q : Nat, j ≤ rowN xs.length ∧ Hid (q = 7 + 11 * j) ∧ at_ = .int .i64 q ∧ RowI w2.heap.size wr v (rowV xs cl j) ∧ Ext w2 wr) (fun _ i _ => 200000 - (intOf i).toNat)
  case atStart => exact ⟨0, 7, Nat.zero_le _, Lib.hid rfl, rfl, hm0, hx0⟩
  case round =>
    clear hm0 hx0
    obtain ⟨j, q, hj, hq, rfl, hown, hext⟩ := hrel
    by_cases hlt : j < rowN xs.length
    · have hmore : q + 11 + 8 ≤ xs.length := by have := rowN_more.1 hlt; have := hq.out; omega
      have hin : q + 11 ≤ xs.length := by omega
      have hy := (HX.out.ext (hx2.trans hext)).sub q 11
      have hyl : ((xs.drop q).take 11).length = 11 := by rw [List.length_take, List.length_drop]; omega
      have hrow : rowV xs cl (j + 1) = rowV xs cl j ++ [rvl ((xs.drop q).take 11) cl] := by rw [rowV_succ, hq.out]
      have hjl := rowV_len xs cl j
      have hjr : rowN xs.length ≤ 10000 := by unfold rowN; omega
      generalize (xs.drop q).take 11 = ys at *
      replace hrow := Lib.hid hrow
      generalize rowV xs cl j = V at *
      have hc3 := Lib.hid (hvv.out _ _ b (o + q) (c - q) ys _ (hA.out.ext hext) hy hyl)
      have hcq : q ≤ c := by omega
      clear hy hyl
      go_wp2_with (first
        | (go_at_call 191; go_loud ((with_reducible refine (hc3.out).mono ?_); rintro e w4 ⟨rfl, hx4⟩; have hown4 := hown.ext hx4; have hB4 : w2.heap.size ≤ w4.heap.size := (hext.trans hx4).size))
        | (at_builtin; (refine append1I hown4 (by omega) (by omega) ?_ rfl rfl); intro v6 w6 hown6 hb6))
      exact ⟨⟨j + 1, q + 11, hlt, Lib.hid (by have := hq.out; omega), by go_num, by rw [hrow.out]; exact hown6, (hext.trans hx4).trans3 hb6⟩, by simp [intOf]; omega⟩
    · have hno : ¬ q + 11 + 8 ≤ xs.length := fun h => hlt (rowN_more.2 (by have := hq.out; omega))
      obtain rfl : j = rowN xs.length := by omega
      have hqb : q ≤ 100020 := by have := hq.out; unfold rowN at this; omega
      go_wp2
      go_ret
      exact ⟨⟨_, rfl, hown.mono hx2.size⟩, hx2.trans hext⟩
set_option maxRecDepth 100000 in
theorem l17Values_c (R C b o cap r : Nat) (xs : List Int) (w : World) (hx : IntsAt w (some ⟨b, o, none⟩) xs) (hl : xs.length = R * C) (hC : 1 ≤ C) (hcap : xs.length ≤ cap) (h4 : R * C ≤ 40000) (hr : r < R) :
    Calls Tryz.prog 91 #[vGrid R C (some ⟨b, o, none⟩) xs.length cap, .int .i64 r] w fun e w' => (∃ v, e = .returned v ∧ RowI w.heap.size w' v (rowsV xs C (rowN C) r)) ∧ Ext w w' := by
  have h2 : (r + 1) * C ≤ R * C := Nat.mul_le_mul_right _ hr
  have hR4 : r ≤ 40000 := by
    have : R * 1 ≤ R * C := Nat.mul_le_mul_left _ hC
    omega
  have hx0 : Ext w (w.alloc (.cells #[.int .i64 R, .int .i64 C, .slice (some ⟨b, o, none⟩) xs.length cap] 37)) := (Ext.refl w).alloc _
  have hrl := rowL_len (c := C) hl hr
  have hra := rowL_at (c := C) hl hr (hx.ext hx0)
  obtain ⟨K1, hK1⟩ : ∃ K1 : Nat, r * C = K1 := ⟨_, rfl⟩
  rw [Nat.add_mul, Nat.one_mul, hK1] at h2
  rw [hK1] at hra
  have e1 : (r : Int) * (C : Int) = (K1 : Int) := by rw [← hK1]; simp
  have e2 : ((r : Int) + 1) * (C : Int) = ((K1 + C : Nat) : Int) := by rw [Int.add_mul, e1]; omega
  have hsl : ∀ W, (Instr.slice 24 (.slice (some ⟨b, o, none⟩) xs.length cap) (some (.int .i64 (K1 : Int))) (some (.int .i64 ((K1 + C : Nat) : Int))) none).run Tryz.prog W = .ok (.slice (some ⟨b, o + K1, none⟩) C (cap - K1)) W := fun W => by
    have := Lib.run_slice_window (P := Tryz.prog) W 24 2 Tryz.underlying24 (fun w => by kernel_rfl) b o xs.length cap K1 (K1 + C) (by omega) (by omega)
    rwa [show K1 + C - K1 = C by omega] at this
  have hcall := Lib.hid (l17Read_c b (o + K1) (cap - K1) (rowL C xs r) ((r : Int) % 3) _ hra (by omega) (by omega))
  rw [hrl] at hcall
  have hF : rowV (rowL C xs r) ((r : Int) % 3) (rowN C) = rowsV xs C (rowN C) r := by
    show _ = rowV (rowL C xs r) (((r % 3 : Nat)) : Int) (rowN C)
    rw [show (((r % 3 : Nat)) : Int) = (r : Int) % 3 from by omega]
  rw [hF] at hcall
  have hk1 : K1 + C ≤ 40000 := by omega
  have e3 := IntWalk.i64_in (K1 : Int) (by omega)
  have e4 := IntWalk.i64_in (((K1 + C : Nat)) : Int) (by omega)
  replace hK1 := Lib.hid hK1
  replace hl := Lib.hid hl
  obtain ⟨Z, hZ⟩ : ∃ Z : Nat, K1 + C = Z := ⟨_, rfl⟩
  rw [hZ] at e2 e4 hsl
  replace hZ := Lib.hid hZ
  clear hra hF
  go_enter Tryz.func91, Tryz.ntmps91
  go_wp2_with (go_at_call 144; go_loud ((with_reducible refine (hcall.out).mono ?_); rintro e w4 ⟨⟨v, rfl, hv⟩, hx4⟩))
  go_ret
  exact ⟨⟨_, rfl, hv.mono hx0.size⟩, hx0.trans hx4⟩
end Go.Proofs.YtajidoofhmoalaaGreatDoor
