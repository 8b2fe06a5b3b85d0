
/- The laws' dice. -/
import Derived.Test.YtbnpdpmbbppnhaaDraw
namespace Go.Proofs.Ytbnpdpmbbppnhaa
set_option linter.unusedVariables false
set_option linter.unusedSimpArgs false
open Go.RowKit

/-- Block g holds dice. -/
def Dice (w : World) (g : Nat) : Prop := ∃ (p : Option Addr) (code : List Int) (c i : Nat) (h : Int), Blk w g #[.slice p code.length c, .int .i64 i, .int .u64 h] 157 ∧ U8At w p code ∧ (∀ b o, 0 < code.length → p = some ⟨b, o, none⟩ → b ≠ g) ∧ i ≤ code.length ∧ code.length ≤ 4096
theorem and_mask (a : Int) : 0 ≤ bits .and .u64 a 16777215 ∧ bits .and .u64 a 16777215 ≤ 16777215 := by
  have e : bits .and .u64 a 16777215 = IntKind.u64.wrap ((BitVec.ofInt 64 a &&& 16777215#64).toNat : Int) := rfl
  have h : (BitVec.ofInt 64 a &&& 16777215#64).toNat ≤ 16777215 := by
    rw [BitVec.toNat_and]
    exact Nat.and_le_right
  rw [e, IntKind.wrap_u64]
  omega
theorem big_c (p : Option Addr) (c n : Nat) (w : World) (hl : n ≤ maxLen) :
    Calls Try.prog 12 #[.slice p n c] w fun e w' => isB e (4096 < n) ∧ w = w' := by
  unfold maxLen at hl
  go_enter Try.func12, Try.ntmps12
  go_wp2
  go_ret
  exact ⟨isB_m (by simp; omega), rfl⟩

set_option maxRecDepth 100000 in
theorem roll_c (p : Option Addr) (c : Nat) (code : List Int) (sd : Int) (w : World) (hx : U8At w p code) (hl : code.length ≤ 4096) :
    Calls Try.prog 57 #[.slice p code.length c, .int .u64 sd] w fun e w' => (∃ g, e = .returned (.pointer (some ⟨g, 0, none⟩)) ∧ g = w.heap.size ∧ Dice w' g) ∧ Ext w w' := by
  go_enter Try.func57, Try.ntmps57
  go_wp2
  go_loopw [6] (fun i wr => ∃ (k : Nat) (h : Int), k ≤ code.length ∧ i = .int .i64 k ∧ Blk wr w.heap.size #[.slice p code.length c, .int .i64 0, .int .u64 h] 157 ∧ Ext w wr) (fun i _ => code.length - (intOf i).toNat)
  case atStart => exact ⟨0, _, Nat.zero_le _, rfl, Blk.new w _ _, (by repeat (first | exact Ext.refl _ | assumption | refine Ext.drew ?_ | refine Ext.drewN ?_ _ | refine Ext.iter ?_ _ _ | refine Ext.alloc ?_ _ | refine Ext.setCell ?_ (by first | exact Nat.le_refl _ | (simp <;> omega)) _ | refine Ext.trans2 (by assumption) ?_))⟩
  case round =>
    obtain ⟨k, h, hk, rfl, hb, hext⟩ := hrel
    by_cases hlt : k < code.length
    · obtain ⟨b, o, rfl, hbl, h1, h2, h3⟩ := (hx.ext hext) k hlt
      generalize code.getD k 0 = x at *
      clear hx
      have q0 := hb.cell (i := 2) (v := .int .u64 h) rfl
      have q1 := hb.lt
      have q2 := hb.free
      go_wp2_with fail
      go_region
      all_goals go_wp2
      all_goals go_roundw
      case rel => exact ⟨k + 1, _, hlt, by go_num, hb.set 2 _, (hext.setCell (Nat.le_refl _) _).drew⟩
      case measure => simp [intOf]; omega
    · have hd : Dice wr w.heap.size := ⟨p, code, c, 0, h, hb, hx.ext hext, fun b o hn e => by
        obtain ⟨b', o', e', hlt', _⟩ := hx 0 hn
        rw [e] at e'
        simp at e'
        omega, Nat.zero_le _, hl⟩
      clear hx
      go_wp2
      go_ret
      exact ⟨⟨_, rfl, rfl, hd⟩, hext⟩

/-- A number below n has been rolled; only the dice have turned. -/
def BelowR (g : Nat) (n : Int) (w : World) (e : Ending) (w' : World) : Prop := ∃ x : Int, e = .returned (.int .i64 x) ∧ 0 ≤ x ∧ x < n ∧ Dice w' g ∧ But g w w'
set_option maxRecDepth 100000 in
theorem below_c (g : Nat) (n : Int) (w : World) (h : Dice w g) (hn : 1 ≤ n ∧ n ≤ 1099511627776) :
    Calls Try.prog 58 #[.pointer (some ⟨g, 0, none⟩), .int .i64 n] w fun e w' => BelowR g n w e w' := by
  obtain ⟨p, code, c, i, h, hb, hu, hpg, hi, hcl⟩ := h
  have q0 := hb.cell (i := 0) (v := .slice p code.length c) rfl
  have q1 := hb.cell (i := 1) (v := .int .i64 i) rfl
  have q2 := hb.cell (i := 2) (v := .int .u64 h) rfl
  have q3 := hb.lt
  have q4 := hb.free
  have hm1 : ∀ y : Int, 0 ≤ y → 0 ≤ y % n ∧ y % n < n := fun y _ => ⟨Int.emod_nonneg _ (by omega), Int.emod_lt_of_pos _ (by omega)⟩
  have hm1 := Lib.hid hm1
  have hmk := fun a => and_mask a
  have HMK := Lib.hid hmk; clear hmk
  have hM := HMK.out (IntKind.u64.wrap (IntKind.u64.wrap (h * 6364136223846793005) + 1442695040888963407) / 8589934592)
  by_cases hlt : i < code.length
  · obtain ⟨b, o, rfl, hbl, u1, u2, u3⟩ := hu i hlt
    have hbg := hpg b o (by omega) rfl
    have HU := Lib.hid hu; have HP := Lib.hid hpg; clear hu hpg
    generalize code.getD i 0 = x at *
    have hd2 : (i : Int) < code.length := by omega
    go_enter Try.func58, Try.ntmps58
    go_wp2_with fail
    generalize bits BinOp.and IntKind.u64 (IntKind.u64.wrap (IntKind.u64.wrap (h * 6364136223846793005) + 1442695040888963407) / 8589934592) 16777215 = y at *
    generalize IntKind.u64.wrap (IntKind.u64.wrap (h * 6364136223846793005) + 1442695040888963407) / 8589934592 = y2 at *
    generalize IntKind.u64.wrap (IntKind.u64.wrap (h * 6364136223846793005) + 1442695040888963407) = H at *
    go_region
    go_wp2
    have e4 := IntWalk.i64_in x (by omega)
    have e5 := IntWalk.i64_in (y + x) (by omega)
    go_region
    clear e4 e5
    have hB2 := ((hb.set 2 (.int .u64 H)).set 1 (.int .i64 ((i : Int) + 1)))
    have hbt : But g w ((w.setCell ⟨g, 2, none⟩ (.int .u64 H)).setCell ⟨g, 1, none⟩ (.int .i64 ((i : Int) + 1))) := (But.set w g 2 _).trans (But.set _ g 1 _)
    have hfin : Dice ((w.setCell ⟨g, 2, none⟩ (.int .u64 H)).setCell ⟨g, 1, none⟩ (.int .i64 ((i : Int) + 1))) g := ⟨_, code, c, i + 1, _, hB2, (HU.out.but hbt HP.out), HP.out, by omega, hcl⟩
    have hfin := Lib.hid hfin
    have hbt := Lib.hid hbt
    go_wp2
    go_ret
    exact ⟨_, rfl, (hm1.out _ (by omega)).1, (hm1.out _ (by omega)).2, hfin.out, by repeat (first | exact hbt.out | refine But.drew ?_ | refine But.drewN ?_ _)⟩
  · have HU := Lib.hid hu; have HP := Lib.hid hpg; clear hu hpg
    have hd2 : ¬ (i : Int) < code.length := by omega
    go_enter Try.func58, Try.ntmps58
    go_wp2_with fail
    generalize bits BinOp.and IntKind.u64 (IntKind.u64.wrap (IntKind.u64.wrap (h * 6364136223846793005) + 1442695040888963407) / 8589934592) 16777215 = y at *
    generalize IntKind.u64.wrap (IntKind.u64.wrap (h * 6364136223846793005) + 1442695040888963407) / 8589934592 = y2 at *
    generalize IntKind.u64.wrap (IntKind.u64.wrap (h * 6364136223846793005) + 1442695040888963407) = H at *
    go_region
    have hB2 := hb.set 2 (.int .u64 H)
    have hbt := But.set w g 2 (.int .u64 H)
    have hfin : Dice (w.setCell ⟨g, 2, none⟩ (.int .u64 H)) g := ⟨_, code, c, i, _, hB2, (HU.out.but hbt HP.out), HP.out, by omega, hcl⟩
    have hfin := Lib.hid hfin
    have hbt := Lib.hid hbt
    go_wp2
    go_ret
    exact ⟨_, rfl, (hm1.out _ (by omega)).1, (hm1.out _ (by omega)).2, hfin.out, by repeat (first | exact hbt.out | refine But.drew ?_ | refine But.drewN ?_ _)⟩
end Go.Proofs.Ytbnpdpmbbppnhaa
