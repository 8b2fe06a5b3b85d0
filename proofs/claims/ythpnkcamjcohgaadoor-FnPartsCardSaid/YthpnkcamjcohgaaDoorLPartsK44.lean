/- The laws' own comparison of lists. -/
import Derived.Test.YthpnkcamjcohgaaDoorLPartsK03
import Derived.Test.YthpnkcamjcohgaaDoorLPartsK43
import Derived.Test.YthpnkcamjcohgaaDoorLPartsK23
/-! The laws' own comparison of lists. -/
namespace Go.Proofs.YthpnkcamjcohgaaDoor
set_option linter.unusedVariables false
set_option linter.unusedSimpArgs false
open Go.RowKit

theorem likeInts_c (p q : Option Addr) (c d : Nat) (xs ys : List Int) (w : World) (hx : IntsAt w p xs) (hy : IntsAt w q ys) (hl : xs.length ≤ 1099511627776) (hl2 : ys.length ≤ 1099511627776) :
    Calls Tryd.prog 20 #[.slice p xs.length c, .slice q ys.length d] w fun e w' => isB e (xs = ys) ∧ ∃ n, w' = w.drewN n := by
  by_cases hlen : xs.length = ys.length
  · have HL := Lib.hid hlen
    have hl3 : (((xs.length : Int)) != ys.length) = false := by simp [hlen]
    clear hlen
    go_enter Tryd.func20, Tryd.ntmps20
    go_wp2
    go_loopw [5] (fun i wr => ∃ k : Nat, k ≤ xs.length ∧ i = .int .i64 k ∧ Hid (xs.take k = ys.take k) ∧ ∃ n, wr = w.drewN n) (fun i _ => xs.length - (intOf i).toNat)
    case atStart => exact ⟨0, Nat.zero_le _, rfl, rfl, 0, rfl⟩
    case round =>
      obtain ⟨k, hk, rfl, HE, n, rfl⟩ := hrel
      by_cases hlt : k < xs.length
      · have hlt2 : k < ys.length := by have := HL.out; omega
        obtain ⟨b, o, rfl, _, h1⟩ := hx k hlt
        obtain ⟨b2, o2, rfl, _, h2⟩ := hy k hlt2
        clear hx hy
        go_wp2
        go_quiet (fail)
        go_wp2
        · have hne : xs[k] ≠ ys[k] := by simpa using (by assumption : (xs[k] != ys[k]) = true)
          go_ret
          exact ⟨isB_f (fun h => hne (by subst h; rfl)), n + nq, World.drewN_drewN ..⟩
        · have he : xs[k] = ys[k] := by simpa using (by assumption : (xs[k] != ys[k]) = false)
          go_roundw
          case rel => exact ⟨k + 1, hlt, by go_num, by show _ = _; rw [List.take_succ_eq_append_getElem hlt, List.take_succ_eq_append_getElem hlt2, HE.out, he], n + nq, by simp⟩
          case measure => simp [intOf]; omega
      · clear hx hy
        go_wp2
        go_ret
        refine ⟨isB_t ?_, _, rfl⟩
        have h1 := HE.out
        have h2 := HL.out
        rwa [List.take_of_length_le (by omega), List.take_of_length_le (by omega)] at h1
  · have hl3 : (((xs.length : Int)) != ys.length) = true := by simp; omega
    clear hx hy
    have HL := Lib.hid hlen; clear hlen
    go_enter Tryd.func20, Tryd.ntmps20
    go_wp2
    go_ret
    exact ⟨isB_f (fun h => HL.out (by rw [h])), 0, rfl⟩

end Go.Proofs.YthpnkcamjcohgaaDoor

/-! A payload that is read back: plain laws. -/
namespace Go.Proofs.YthpnkcamjcohgaaDoor
set_option linter.unusedVariables false
set_option linter.unusedSimpArgs false
open Go.RowKit

end Go.Proofs.YthpnkcamjcohgaaDoor
