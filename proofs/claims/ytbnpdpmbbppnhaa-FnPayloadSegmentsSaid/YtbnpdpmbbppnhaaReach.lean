
/- A world in which only one old block has turned; taking a byte into the reach of each mode. -/
import Derived.Test.YtbnpdpmbbppnhaaWidths
import Derived.Test.YtbnpdpmbbppnhaaBut
namespace Go.Proofs.Ytbnpdpmbbppnhaa
set_option linter.unusedVariables false
set_option linter.unusedSimpArgs false
open Go.RowKit

/-- The next reach of mode m where it was x and the byte b comes before. -/
def nextR (m b x : Int) : Int := if charVal m b < 0 then 0 else min (x + 1) 255
/-- Of the modes below M the next reach is in the block, of the others the old one. -/
def RTab (x : Int → Int) (b : Int) (cs : Array Value) (M : Nat) : Prop := cs.size = 5 ∧ ∀ m : Nat, 1 ≤ m → m ≤ 4 → cs[m]? = some (.int .i64 (if m < M then nextR m b (x m) else x m))
theorem RTab.step {x : Int → Int} {b : Int} {cs : Array Value} {M : Nat} (h : RTab x b cs M) (hM : 1 ≤ M ∧ M ≤ 4) {v : Int} (hv : v = nextR M b (x M)) : RTab x b (cs.setIfInBounds M (.int .i64 v)) (M + 1) := by
  refine ⟨by simpa using h.1, fun m h1 h2 => ?_⟩
  by_cases e : m = M
  · subst e
    rw [Array.getElem?_setIfInBounds_self_of_lt (by rw [h.1]; omega), if_pos (by omega), hv]
  · rw [Array.getElem?_setIfInBounds_ne (by omega), h.2 m h1 h2]
    by_cases e2 : m < M
    · rw [if_pos e2, if_pos (by omega)]
    · rw [if_neg e2, if_neg (by omega)]

set_option maxRecDepth 100000 in
theorem take_c (g : Nat) (cs : Array Value) (t : TypeId) (x : Int → Int) (c : UInt8) (w : World) (hblk : Blk w g cs t) (hx : ∀ m : Int, 1 ≤ m → m ≤ 4 → 0 ≤ x m ∧ x m ≤ 255) (h0 : RTab x c.toNat cs 1) :
    Calls Try.prog 213 #[.pointer (some ⟨g, 0, none⟩), .int .u8 c.toNat] w fun e w' => (e = .returned (.tuple #[]) ∧ ∃ cs', Blk w' g cs' t ∧ RTab x c.toNat cs' 5) ∧ But g w w' := by
  have h8 : c.toNat < 256 := UInt8.toNat_lt _
  have hwr := wrapByte c
  have HZ := Lib.hid h0; clear h0
  have hna1 : ∀ (S : ByteArray) (p : Option Addr) (n : Nat) w, (nilAhead 379 253 (.agg #[.string S, .slice p n n]) (nthInv Try.f213 0)).run Try.prog w = .ok (some false) w := fun S p n w => by kernel_rfl
  conv at hna1 => intro S p n w; lhs; arg 2; arg 4; whnf
  have hme1 : ∀ (S : ByteArray) (p : Option Addr) (n : Nat) w, (method 379 253 (.agg #[.string S, .slice p n n]) (nthInv Try.f213 0)).run Try.prog w = .ok (275, (.agg #[.string S, .slice p n n])) w := fun S p n w => by kernel_rfl
  conv at hme1 => intro S p n w; lhs; arg 2; arg 4; whnf
  have hna2 : ∀  w, (nilAhead 379 255 (.agg #[]) (nthInv Try.f213 0)).run Try.prog w = .ok (some false) w := fun  w => by kernel_rfl
  conv at hna2 => intro  w; lhs; arg 2; arg 4; whnf
  have hme2 : ∀  w, (method 379 255 (.agg #[]) (nthInv Try.f213 0)).run Try.prog w = .ok (280, (.agg #[])) w := fun  w => by kernel_rfl
  conv at hme2 => intro  w; lhs; arg 2; arg 4; whnf
  have HA := fun m => Lib.hid (modeSet_ascii m)
  have HS := fun m => Lib.hid (modeSet_size m)
  go_enter Try.func213, Try.ntmps213
  go_wp2_with fail
  go_loopw [4] (fun i wr => ∃ (M : Nat) (cs : Array Value), 1 ≤ M ∧ M ≤ 5 ∧ i = .int .i64 M ∧ Blk wr g cs t ∧ Hid (RTab x c.toNat cs M) ∧ But g w wr) (fun i _ => (5 - intOf i).toNat)
  case atStart => exact ⟨1, _, by omega, by omega, rfl, hblk, HZ, But.refl _ _⟩
  case round =>
    obtain ⟨M, cs, hM1, hM2, rfl, hblk1, HW, hext⟩ := hrel
    by_cases hlt : M ≤ 4
    · have hq1 := hblk1.cell (HW.out.2 M hM1 hlt)
      rw [if_neg (by omega)] at hq1
      have hq2 := hblk1.free
      have hq3 := hblk1.lt
      have g1 : (M : Int) < 5 := by omega
      have hxM := hx M (by omega) (by omega)
      have hc0 := HW.out.2 M hM1 hlt
      rw [if_neg (by omega)] at hc0
      go_wp2_with (first
        | ((with_reducible refine wpList_invoke_of (nthInv Try.f213 0) ?_ 253 275 Try.func275 ?_); rfl; refine ⟨_, rfl, (by kernel_rfl), (by kernel_rfl), (by kernel_rfl), ?_⟩; simp only [List.map_toArray, List.map_cons, List.map_nil, List.append_toArray, List.cons_append, List.nil_append, Act.eval]; go_simp)
        | (go_at_call 275; (with_reducible refine (listedValue_c _ _ _ _ _ _ (HA _).out (by have := (HS M).out; omega)).mono ?_); rintro e w1 ⟨rfl, hb⟩; (obtain ⟨hc, hf, hk, hz⟩ := ecell hb; try (have hx := Ext.trans2 hb (by assumption); obtain ⟨hcx, hfx, hkx, hzx⟩ := ecell hx)); try simp at hz)
        | ((with_reducible refine wpList_invoke_of (nthInv Try.f213 0) ?_ 255 280 Try.func280 ?_); rfl; refine ⟨_, rfl, (by kernel_rfl), (by kernel_rfl), (by kernel_rfl), ?_⟩; simp only [List.map_toArray, List.map_cons, List.map_nil, List.append_toArray, List.cons_append, List.nil_append, Act.eval]; go_simp)
        | (go_at_call 280; (with_reducible refine (plainValue_c _ _).mono ?_); rintro e w1 ⟨rfl, hb⟩; (obtain ⟨hc, hf, hk, hz⟩ := ecell hb; try (have hx := Ext.trans2 hb (by assumption); obtain ⟨hcx, hfx, hkx, hzx⟩ := ecell hx)); try simp at hz)
        | (go_at_call 206; refine (modeOf_c _ _).mono ?_; rintro e w1 ⟨⟨v, ⟨h4, rfl⟩ | ⟨h4, rfl⟩, ⟨hm', p, n, rfl, hn, hi⟩ | ⟨hm', rfl⟩⟩, hb⟩ <;> go_prune; all_goals ((obtain ⟨hc, hf, hk, hz⟩ := ecell hb; try (have hx := Ext.trans2 hb (by assumption); obtain ⟨hcx, hfx, hkx, hzx⟩ := ecell hx)))))
      all_goals have hE : Ext wr w1 := (by repeat (first | exact Ext.refl _ | assumption | refine Ext.drew ?_ | refine Ext.drewN ?_ _ | refine Ext.iter ?_ _ _ | refine Ext.alloc ?_ _ | refine Ext.setCell ?_ (by first | exact Nat.le_refl _ | (simp <;> omega)) _ | refine Ext.trans2 (by assumption) ?_))
      all_goals have hq4 := (hblk1.ext hE).cell hc0
      all_goals have hq5 := (hblk1.ext hE).free
      all_goals have hq6 := (hblk1.ext hE)
      · have hcv : charVal M c.toNat < 0 := by rw [charVal_listed hm' (by omega)]; assumption
        refine ⟨⟨M + 1, _, by omega, by omega, by go_num, hq6.set _ _, Lib.hid (HW.out.step ⟨hM1, hlt⟩ (by rw [nextR, if_pos hcv])), (hext.trans (But.of hE)).trans (But.set _ _ _ _)⟩, by simp [intOf]; omega⟩
      · have hcv : ¬ charVal M c.toNat < 0 := by rw [charVal_listed hm' (by omega)]; omega
        have e1 := IntWalk.i64_in (x M + 1) (by omega)
        go_region
        all_goals clear e1
        all_goals go_wp2
        all_goals refine ⟨⟨M + 1, _, by omega, by omega, by go_num, (hq6.drewN _).set _ _, Lib.hid (HW.out.step ⟨hM1, hlt⟩ (by rw [nextR, if_neg hcv]; omega)), (hext.trans (But.of (hE.drewN _))).trans (But.set _ _ _ _)⟩, by simp [intOf]; omega⟩
      · have hcv : ¬ charVal M c.toNat < 0 := by simp [charVal, show (M : Int) = 4 by omega]; omega
        have e1 := IntWalk.i64_in (x M + 1) (by omega)
        go_region
        all_goals clear e1
        all_goals go_wp2
        all_goals refine ⟨⟨M + 1, _, by omega, by omega, by go_num, (hq6.drewN _).set _ _, Lib.hid (HW.out.step ⟨hM1, hlt⟩ (by rw [nextR, if_neg hcv]; omega)), (hext.trans (But.of (hE.drewN _))).trans (But.set _ _ _ _)⟩, by simp [intOf]; omega⟩
    · go_wp2
      go_end0
      obtain rfl : M = 5 := by omega
      exact ⟨⟨rfl, cs, hblk1, HW.out⟩, hext⟩
end Go.Proofs.Ytbnpdpmbbppnhaa
