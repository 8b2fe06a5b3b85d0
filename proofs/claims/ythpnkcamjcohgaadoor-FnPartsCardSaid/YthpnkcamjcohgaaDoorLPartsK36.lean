/- The drawing of inputs: the source of numbers. -/
import Derived.Test.YthpnkcamjcohgaaDoorLPartsK05
import Derived.Test.YthpnkcamjcohgaaDoorLPartsK02
import Derived.Test.YthpnkcamjcohgaaDoorLPartsK04
/-! The drawing of inputs: the source of numbers. -/
namespace Go.Proofs.YthpnkcamjcohgaaDoor
set_option linter.unusedVariables false
set_option linter.unusedSimpArgs false
open Go.RowKit

/-- A slice of bytes reads as xs. -/
def U8At (w : World) (p : Option Addr) (xs : List Int) : Prop :=
  ∀ i, i < xs.length → ∃ b o, p = some ⟨b, o, none⟩ ∧ b < w.heap.size ∧ w.cell? ⟨b, o + i, none⟩ = some (.int .u8 (xs.getD i 0)) ∧ 0 ≤ xs.getD i 0 ∧ xs.getD i 0 ≤ 255
theorem U8At.ext {w w' : World} {p : Option Addr} {xs : List Int} (h : U8At w p xs) (hb : Ext w w') : U8At w' p xs := fun i hi => by
  obtain ⟨b, o, h1, h2, h3, h4⟩ := h i hi
  exact ⟨b, o, h1, Nat.lt_of_lt_of_le h2 hb.below.size, by rw [(ecell hb).1 _ _ h2]; exact h3, h4⟩
theorem U8At.but {g : Nat} {w w' : World} {p : Option Addr} {xs : List Int} (h : U8At w p xs) (hb : But g w w') (hp : ∀ b o, 0 < xs.length → p = some ⟨b, o, none⟩ → b ≠ g) : U8At w' p xs := fun i hi => by
  obtain ⟨b, o, h1, h2, h3, h4⟩ := h i hi
  exact ⟨b, o, h1, Nat.lt_of_lt_of_le h2 hb.size, (World.cell?_of_block (a := ⟨b, o + i, none⟩) (hb.block b h2 (hp _ _ (by omega) h1))).trans h3, h4⟩
theorem open_bytes {w : World} {v : Value} (h : rd w (.sl (.i .u8)) [v]) : ∃ p cap xs, v = .slice p xs.length cap ∧ xs.length ≤ maxLen ∧ U8At w p xs := by
  rcases h with h | ⟨a, len, cap, h, hl, hm, hc⟩
  · simp at h
    exact ⟨none, 0, [], by simpa using h, by simp, fun i hi => by simp at hi⟩
  · simp at h
    obtain ⟨b, o, sp⟩ := a
    let f : Nat → Int := fun i => match w.cell? ((⟨b, o, sp⟩ : Addr).add i) with | some (.int _ n) => n | _ => 0
    have hf : ∀ i, i < len → w.cell? ((⟨b, o, sp⟩ : Addr).add i) = some (.int .u8 (f i)) ∧ 0 ≤ f i ∧ f i ≤ 255 := by
      intro i hi
      obtain ⟨cs', h1, h2, n, h3, h4⟩ := hc i hi
      have := h2 0 (by simp [Sh.size])
      simp [Sh.size, h3] at this
      simp only [f, this, true_and]
      have e1 : IntKind.u8.min = 0 := by decide
      have e2 : IntKind.u8.max = 255 := by decide
      simp only [Lit.wf, Bool.and_eq_true, decide_eq_true_eq, e1, e2] at h4
      exact h4
    refine ⟨some ⟨b, o, sp⟩, cap, (List.range len).map f, by simpa using h, by simp; omega, fun i hi => ?_⟩
    simp at hi
    have h0 := (cell_lt (hf 0 (by omega)).1).2
    have h1 : sp = none := by simpa [Addr.add] using h0
    subst h1
    have hi' := (hf i hi).1
    have hb := (cell_lt hi').1
    rw [addr_add] at hi' hb
    have e : ((List.range len).map f).getD i 0 = f i := by
      rw [List.getD_eq_getElem?_getD, List.getElem?_map, List.getElem?_range hi]; rfl
    rw [e]
    exact ⟨b, o, rfl, hb, hi', (hf i hi).2⟩

/-- Block g holds a source of numbers. -/
def Src (n0 : Nat) (w : World) (g : Nat) : Prop := g < n0 ∧ ∃ (p : Option Addr) (code : List Int) (c i : Nat) (sd : Int), Blk w g #[.slice p code.length c, .int .i64 i, .int .i64 sd] 149 ∧ U8At w p code ∧ (∀ b o, 0 < code.length → p = some ⟨b, o, none⟩ → b ≠ g ∧ b < n0) ∧ i ≤ code.length ∧ code.length ≤ 4096 ∧ 0 ≤ sd ∧ sd < 2147483647
theorem Src.ext {n0 : Nat} {w w' : World} {g : Nat} (h : Src n0 w g) (hb : Ext w w') : Src n0 w' g := by
  obtain ⟨hg, p, code, c, i, sd, h1, h2, h3⟩ := h
  exact ⟨hg, p, code, c, i, sd, h1.ext hb, h2.ext hb, h3⟩
theorem Src.lt {n0 : Nat} {w : World} {g : Nat} (h : Src n0 w g) : g < w.heap.size := by
  obtain ⟨_, _, _, _, _, _, h1, _⟩ := h
  exact h1.lt
theorem Src.low {n0 B : Nat} {w w' : World} {g : Nat} (h : Src n0 w g) (hb : Below B w w') (hB : n0 ≤ B) : Src n0 w' g := by
  obtain ⟨hg, p, code, c, i, sd, h1, h2, h3, h4⟩ := h
  refine ⟨hg, p, code, c, i, sd, h1.low hb (by omega), fun k hk => ?_, h3, h4⟩
  obtain ⟨b, o, e, hlt, hc⟩ := h2 k hk
  exact ⟨b, o, e, Nat.lt_of_lt_of_le hlt hb.size, by rw [World.cell?_of_block (a := ⟨b, o + k, none⟩) (hb.block b (by have := (h3 b o (by omega) e).2; show b < B; omega))]; exact hc.1, hc.2⟩
theorem Src.up {n0 n1 : Nat} {w : World} {g : Nat} (h : Src n0 w g) (hn : n0 ≤ n1) : Src n1 w g := by
  obtain ⟨hg, p, code, c, i, sd, h1, h2, h3, h4⟩ := h
  exact ⟨by omega, p, code, c, i, sd, h1, h2, fun b o h e => by have := h3 b o h e; omega, h4⟩
set_option maxRecDepth 100000 in
theorem From_c (p : Option Addr) (c : Nat) (code : List Int) (w : World) (hx : U8At w p code) (hl : code.length ≤ 4096) :
    Calls Tryd.prog 46 #[.slice p code.length c] w fun e w' => (∃ g, e = .returned (.pointer (some ⟨g, 0, none⟩)) ∧ g = w.heap.size ∧ Src (w.heap.size + 1) w' g) ∧ Ext w w' := by
  go_enter Tryd.func46, Tryd.ntmps46
  go_wp2
  have hb := Blk.new w #[.slice p code.length c, .int .i64 0, .int .i64 60617] 149
  go_loopw [4] (fun i wr => ∃ (k : Nat) (sd : Int), k ≤ code.length ∧ i = .int .i64 k ∧ Blk wr w.heap.size #[.slice p code.length c, .int .i64 0, .int .i64 sd] 149 ∧ 0 ≤ sd ∧ sd < 2147483647 ∧ Ext w wr) (fun i _ => code.length - (intOf i).toNat)
  case atStart => exact ⟨0, 60617, Nat.zero_le _, rfl, hb, by omega, by omega, (by repeat (first | exact Ext.refl _ | assumption | refine Ext.drew ?_ | refine Ext.drewN ?_ _ | refine Ext.iter ?_ _ _ | refine Ext.alloc ?_ _ | refine Ext.setCell ?_ (by first | exact Nat.le_refl _ | (simp <;> omega)) _ | refine Ext.trans2 (by assumption) ?_))⟩
  case round =>
    clear hb
    obtain ⟨k, sd, hk, rfl, hb, hs0, hs1, hext⟩ := hrel
    by_cases hlt : k < code.length ∧ k < 64
    · obtain ⟨hlt, h64⟩ := hlt
      obtain ⟨b, o, rfl, hbl, h1, h2, h3⟩ := (hx.ext hext) k hlt
      generalize code.getD k 0 = x at *
      clear hx
      have q0 := hb.cell (i := 2) (v := .int .i64 sd) rfl
      have q1 := hb.lt
      have q2 := hb.free
      have e1 := IntWalk.i64_in (sd * 43) (by omega)
      have e2 := IntWalk.i64_in (sd * 43 + x) (by omega)
      have e3 : IntKind.i64.wrap ((sd * 43 + x).tmod 2147483647) = (sd * 43 + x) % 2147483647 := by rw [Int.tmod_eq_emod_of_nonneg (by omega)]; exact IntWalk.i64_in _ (by omega)
      have e4 := IntWalk.i64_in x (by omega)
      have hd : (k : Int) < 64 := by omega
      go_wp2_with fail
      go_region
      all_goals clear e1 e2 e3 e4
      all_goals go_wp2
      all_goals go_roundw
      case rel => exact ⟨k + 1, _, hlt, by go_num, hb.set 2 _, by omega, by omega, (hext.setCell (Nat.le_refl _) _).drew⟩
      case measure => simp [intOf]; omega
    · have hsrc : Src (w.heap.size + 1) wr w.heap.size := ⟨by omega, p, code, c, 0, sd, hb, hx.ext hext, fun b o hn e => by
        obtain ⟨b', o', e', hlt', _⟩ := hx 0 hn
        rw [e] at e'
        simp at e'
        omega, Nat.zero_le _, hl, hs0, hs1⟩
      by_cases h1 : k < code.length
      · have hd : ¬ (k : Int) < 64 := by omega
        clear hx
        go_wp2
        go_ret
        exact ⟨⟨_, rfl, rfl, hsrc⟩, hext⟩
      · clear hx
        go_wp2
        go_ret
        exact ⟨⟨_, rfl, rfl, hsrc⟩, hext⟩

/-- A number below n has been drawn; only the source has turned. -/
def NextR (n0 g : Nat) (n : Int) (w : World) (e : Ending) (w' : World) : Prop := ∃ x : Int, e = .returned (.int .i64 x) ∧ 0 ≤ x ∧ (1 < n → x < n) ∧ (n ≤ 1 → x = 0) ∧ Src n0 w' g ∧ But g w w'
set_option maxRecDepth 100000 in
theorem Next_c (n0 g : Nat) (n : Int) (w : World) (h : Src n0 w g) (hn : n ≤ 1099511627776) :
    Calls Tryd.prog 49 #[.pointer (some ⟨g, 0, none⟩), .int .i64 n] w fun e w' => NextR n0 g n w e w' := by
  by_cases h1 : n ≤ 1
  · have HS := Lib.hid h; clear h
    go_enter Tryd.func49, Tryd.ntmps49
    go_wp2
    go_ret
    exact ⟨0, rfl, by omega, by omega, fun _ => rfl, HS.out, But.refl _ _⟩
  · obtain ⟨hgn, p, code, c, i, sd, hb, hu, hpg, hi, hcl, hs0, hs1⟩ := h
    have q0 := hb.cell (i := 0) (v := .slice p code.length c) rfl
    have q1 := hb.cell (i := 1) (v := .int .i64 i) rfl
    have q2 := hb.cell (i := 2) (v := .int .i64 sd) rfl
    have q3 := hb.lt
    have q4 := hb.free
    have e1 := IntWalk.i64_in (sd * 48271) (by omega)
    have e2 := IntWalk.i64_in (sd * 48271 + 11) (by omega)
    have e3 : IntKind.i64.wrap ((sd * 48271 + 11).tmod 2147483647) = (sd * 48271 + 11) % 2147483647 := by rw [Int.tmod_eq_emod_of_nonneg (by omega)]; exact IntWalk.i64_in _ (by omega)
    by_cases hlt : i < code.length
    · obtain ⟨b, o, rfl, hbl, u1, u2, u3⟩ := hu i hlt
      have hbg := (hpg b o (by omega) rfl).1
      have HU := Lib.hid hu; have HP := Lib.hid hpg; clear hu hpg
      generalize code.getD i 0 = x at *
      have hd2 : (i : Int) < code.length := by omega
      go_enter Tryd.func49, Tryd.ntmps49
      have hy : 0 ≤ (sd * 48271 + 11) % 2147483647 / 17 ∧ (sd * 48271 + 11) % 2147483647 / 17 < 2147483647 := by omega
      have hsd : 0 ≤ (sd * 48271 + 11) % 2147483647 ∧ (sd * 48271 + 11) % 2147483647 < 2147483647 := by omega
      go_wp2_with fail
      have e4 := IntWalk.i64_in x (by omega)
      have e5 := IntWalk.i64_in ((sd * 48271 + 11) % 2147483647 / 17 + x) (by omega)
      have e6 := IntWalk.i64_in ((i : Int) + 1) (by omega)
      have e7 : IntKind.i64.wrap ((i : Int) + 1 - 1) = i := by rw [show (i : Int) + 1 - 1 = i by omega]; exact IntWalk.i64_in _ (by omega)
      go_region
      go_wp2
      go_region
      clear e1 e2 e3 e5 e6
      have hB2 := ((hb.set 2 (.int .i64 ((sd * 48271 + 11) % 2147483647))).set 1 (.int .i64 ((i : Int) + 1)))
      have hbt : But g w ((w.setCell ⟨g, 2, none⟩ (.int .i64 ((sd * 48271 + 11) % 2147483647))).setCell ⟨g, 1, none⟩ (.int .i64 ((i : Int) + 1))) := (But.set w g 2 _).trans (But.set _ g 1 _)
      have hfin : Src n0 ((w.setCell ⟨g, 2, none⟩ (.int .i64 ((sd * 48271 + 11) % 2147483647))).setCell ⟨g, 1, none⟩ (.int .i64 ((i : Int) + 1))) g := ⟨hgn, _, code, c, i + 1, _, hB2, (HU.out.but hbt (fun b o h e => (HP.out b o h e).1)), HP.out, by omega, hcl, hsd.1, hsd.2⟩
      have hfin := Lib.hid hfin
      have hbt := Lib.hid hbt
      have hm1 : ∀ y : Int, 0 ≤ y → 0 ≤ y % n ∧ y % n < n := fun y _ => ⟨Int.emod_nonneg _ (by omega), Int.emod_lt_of_pos _ (by omega)⟩
      have hm1 := Lib.hid hm1
      go_wp2
      all_goals first
        | (go_ret
           exact ⟨_, rfl, (hm1.out _ (by omega)).1, fun _ => (hm1.out _ (by omega)).2, fun h => absurd h (by omega), hfin.out, by repeat (first | exact hbt.out | refine But.drew ?_ | refine But.drewN ?_ _)⟩)
        | (go_region
           go_wp2
           go_ret
           exact ⟨_, rfl, (hm1.out _ (by omega)).1, fun _ => (hm1.out _ (by omega)).2, fun h => absurd h (by omega), hfin.out, by repeat (first | exact hbt.out | refine But.drew ?_ | refine But.drewN ?_ _)⟩)
    · have HU := Lib.hid hu; have HP := Lib.hid hpg; clear hu hpg
      have hd2 : ¬ (i : Int) < code.length := by omega
      go_enter Tryd.func49, Tryd.ntmps49
      have hsd : 0 ≤ (sd * 48271 + 11) % 2147483647 ∧ (sd * 48271 + 11) % 2147483647 < 2147483647 := by omega
      go_wp2_with fail
      go_region
      clear e1 e2 e3
      have hB2 := hb.set 2 (.int .i64 ((sd * 48271 + 11) % 2147483647))
      have hbt := But.set w g 2 (.int .i64 ((sd * 48271 + 11) % 2147483647))
      have hfin : Src n0 (w.setCell ⟨g, 2, none⟩ (.int .i64 ((sd * 48271 + 11) % 2147483647))) g := ⟨hgn, _, code, c, i, _, hB2, (HU.out.but hbt (fun b o h e => (HP.out b o h e).1)), HP.out, by omega, hcl, hsd.1, hsd.2⟩
      have hfin := Lib.hid hfin
      have hbt := Lib.hid hbt
      have hm1 : ∀ y : Int, 0 ≤ y → 0 ≤ y % n ∧ y % n < n := fun y _ => ⟨Int.emod_nonneg _ (by omega), Int.emod_lt_of_pos _ (by omega)⟩
      have hm1 := Lib.hid hm1
      go_wp2
      go_ret
      exact ⟨_, rfl, (hm1.out _ (by omega)).1, fun _ => (hm1.out _ (by omega)).2, fun h => absurd h (by omega), hfin.out, by repeat (first | exact hbt.out | refine But.drew ?_ | refine But.drewN ?_ _)⟩
end Go.Proofs.YthpnkcamjcohgaaDoor

/-! The laws' dice. -/
namespace Go.Proofs.YthpnkcamjcohgaaDoor
set_option linter.unusedVariables false
set_option linter.unusedSimpArgs false
open Go.RowKit

/-- Block g holds dice. -/
def Dice (w : World) (g : Nat) : Prop := ∃ (p : Option Addr) (code : List Int) (c i : Nat) (h : Int), Blk w g #[.slice p code.length c, .int .i64 i, .int .u64 h] 110 ∧ U8At w p code ∧ (∀ b o, 0 < code.length → p = some ⟨b, o, none⟩ → b ≠ g) ∧ i ≤ code.length ∧ code.length ≤ 4096
theorem and_mask (a : Int) : 0 ≤ bits .and .u64 a 16777215 ∧ bits .and .u64 a 16777215 ≤ 16777215 := by
  have e : bits .and .u64 a 16777215 = IntKind.u64.wrap ((BitVec.ofInt 64 a &&& 16777215#64).toNat : Int) := rfl
  have h : (BitVec.ofInt 64 a &&& 16777215#64).toNat ≤ 16777215 := by
    rw [BitVec.toNat_and]
    exact Nat.and_le_right
  rw [e, IntKind.wrap_u64]
  omega
theorem big_c (p : Option Addr) (c n : Nat) (w : World) (hl : n ≤ maxLen) :
    Calls Tryd.prog 12 #[.slice p n c] w fun e w' => isB e (4096 < n) ∧ w = w' := by
  unfold maxLen at hl
  go_enter Tryd.func12, Tryd.ntmps12
  go_wp2
  go_ret
  exact ⟨isB_m (by simp; omega), rfl⟩

set_option maxRecDepth 100000 in
theorem roll_c (p : Option Addr) (c : Nat) (code : List Int) (sd : Int) (w : World) (hx : U8At w p code) (hl : code.length ≤ 4096) :
    Calls Tryd.prog 17 #[.slice p code.length c, .int .u64 sd] w fun e w' => (∃ g, e = .returned (.pointer (some ⟨g, 0, none⟩)) ∧ g = w.heap.size ∧ Dice w' g) ∧ Ext w w' := by
  go_enter Tryd.func17, Tryd.ntmps17
  go_wp2
  go_loopw [6] (fun i wr => ∃ (k : Nat) (h : Int), k ≤ code.length ∧ i = .int .i64 k ∧ Blk wr w.heap.size #[.slice p code.length c, .int .i64 0, .int .u64 h] 110 ∧ Ext w wr) (fun i _ => code.length - (intOf i).toNat)
  case atStart => exact ⟨0, _, Nat.zero_le _, rfl, Blk.new w _ _, (by repeat (first | exact Ext.refl _ | assumption | refine Ext.drew ?_ | refine Ext.drewN ?_ _ | refine Ext.iter ?_ _ _ | refine Ext.alloc ?_ _ | refine Ext.setCell ?_ (by first | exact Nat.le_refl _ | (simp <;> omega)) _ | refine Ext.trans2 (by assumption) ?_))⟩
  case round =>
    obtain ⟨k, h, hk, rfl, hb, hext⟩ := hrel
    by_cases hlt : k < code.length
    · obtain ⟨b, o, rfl, hbl, h1, h2, h3⟩ := (hx.ext hext) k hlt
      generalize code.getD k 0 = x at *
      clear hx
      have q0 := hb.cell (i := 2) (v := .int .u64 h) rfl
      have q1 := hb.lt
      have q2 := hb.free
      go_wp2_with fail
      go_region
      all_goals go_wp2
      all_goals go_roundw
      case rel => exact ⟨k + 1, _, hlt, by go_num, hb.set 2 _, (hext.setCell (Nat.le_refl _) _).drew⟩
      case measure => simp [intOf]; omega
    · have hd : Dice wr w.heap.size := ⟨p, code, c, 0, h, hb, hx.ext hext, fun b o hn e => by
        obtain ⟨b', o', e', hlt', _⟩ := hx 0 hn
        rw [e] at e'
        simp at e'
        omega, Nat.zero_le _, hl⟩
      clear hx
      go_wp2
      go_ret
      exact ⟨⟨_, rfl, rfl, hd⟩, hext⟩

/-- A number below n has been rolled; only the dice have turned. -/
def BelowR (g : Nat) (n : Int) (w : World) (e : Ending) (w' : World) : Prop := ∃ x : Int, e = .returned (.int .i64 x) ∧ 0 ≤ x ∧ x < n ∧ Dice w' g ∧ But g w w'
set_option maxRecDepth 100000 in
theorem below_c (g : Nat) (n : Int) (w : World) (h : Dice w g) (hn : 1 ≤ n ∧ n ≤ 1099511627776) :
    Calls Tryd.prog 18 #[.pointer (some ⟨g, 0, none⟩), .int .i64 n] w fun e w' => BelowR g n w e w' := by
  obtain ⟨p, code, c, i, h, hb, hu, hpg, hi, hcl⟩ := h
  have q0 := hb.cell (i := 0) (v := .slice p code.length c) rfl
  have q1 := hb.cell (i := 1) (v := .int .i64 i) rfl
  have q2 := hb.cell (i := 2) (v := .int .u64 h) rfl
  have q3 := hb.lt
  have q4 := hb.free
  have hm1 : ∀ y : Int, 0 ≤ y → 0 ≤ y % n ∧ y % n < n := fun y _ => ⟨Int.emod_nonneg _ (by omega), Int.emod_lt_of_pos _ (by omega)⟩
  have hm1 := Lib.hid hm1
  have hmk := fun a => and_mask a
  have HMK := Lib.hid hmk; clear hmk
  have hM := HMK.out (IntKind.u64.wrap (IntKind.u64.wrap (h * 6364136223846793005) + 1442695040888963407) / 8589934592)
  by_cases hlt : i < code.length
  · obtain ⟨b, o, rfl, hbl, u1, u2, u3⟩ := hu i hlt
    have hbg := hpg b o (by omega) rfl
    have HU := Lib.hid hu; have HP := Lib.hid hpg; clear hu hpg
    generalize code.getD i 0 = x at *
    have hd2 : (i : Int) < code.length := by omega
    go_enter Tryd.func18, Tryd.ntmps18
    go_wp2_with fail
    generalize bits BinOp.and IntKind.u64 (IntKind.u64.wrap (IntKind.u64.wrap (h * 6364136223846793005) + 1442695040888963407) / 8589934592) 16777215 = y at *
    generalize IntKind.u64.wrap (IntKind.u64.wrap (h * 6364136223846793005) + 1442695040888963407) / 8589934592 = y2 at *
    generalize IntKind.u64.wrap (IntKind.u64.wrap (h * 6364136223846793005) + 1442695040888963407) = H at *
    go_region
    go_wp2
    have e4 := IntWalk.i64_in x (by omega)
    have e5 := IntWalk.i64_in (y + x) (by omega)
    go_region
    clear e4 e5
    have hB2 := ((hb.set 2 (.int .u64 H)).set 1 (.int .i64 ((i : Int) + 1)))
    have hbt : But g w ((w.setCell ⟨g, 2, none⟩ (.int .u64 H)).setCell ⟨g, 1, none⟩ (.int .i64 ((i : Int) + 1))) := (But.set w g 2 _).trans (But.set _ g 1 _)
    have hfin : Dice ((w.setCell ⟨g, 2, none⟩ (.int .u64 H)).setCell ⟨g, 1, none⟩ (.int .i64 ((i : Int) + 1))) g := ⟨_, code, c, i + 1, _, hB2, (HU.out.but hbt HP.out), HP.out, by omega, hcl⟩
    have hfin := Lib.hid hfin
    have hbt := Lib.hid hbt
    go_wp2
    go_ret
    exact ⟨_, rfl, (hm1.out _ (by omega)).1, (hm1.out _ (by omega)).2, hfin.out, by repeat (first | exact hbt.out | refine But.drew ?_ | refine But.drewN ?_ _)⟩
  · have HU := Lib.hid hu; have HP := Lib.hid hpg; clear hu hpg
    have hd2 : ¬ (i : Int) < code.length := by omega
    go_enter Tryd.func18, Tryd.ntmps18
    go_wp2_with fail
    generalize bits BinOp.and IntKind.u64 (IntKind.u64.wrap (IntKind.u64.wrap (h * 6364136223846793005) + 1442695040888963407) / 8589934592) 16777215 = y at *
    generalize IntKind.u64.wrap (IntKind.u64.wrap (h * 6364136223846793005) + 1442695040888963407) / 8589934592 = y2 at *
    generalize IntKind.u64.wrap (IntKind.u64.wrap (h * 6364136223846793005) + 1442695040888963407) = H at *
    go_region
    have hB2 := hb.set 2 (.int .u64 H)
    have hbt := But.set w g 2 (.int .u64 H)
    have hfin : Dice (w.setCell ⟨g, 2, none⟩ (.int .u64 H)) g := ⟨_, code, c, i, _, hB2, (HU.out.but hbt HP.out), HP.out, by omega, hcl⟩
    have hfin := Lib.hid hfin
    have hbt := Lib.hid hbt
    go_wp2
    go_ret
    exact ⟨_, rfl, (hm1.out _ (by omega)).1, (hm1.out _ (by omega)).2, hfin.out, by repeat (first | exact hbt.out | refine But.drew ?_ | refine But.drewN ?_ _)⟩
end Go.Proofs.YthpnkcamjcohgaaDoor
