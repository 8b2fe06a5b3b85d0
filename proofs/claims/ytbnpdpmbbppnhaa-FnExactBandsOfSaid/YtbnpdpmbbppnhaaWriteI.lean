
/- How the program writes a segment. -/
import Derived.Test.YtbnpdpmbbppnhaaWrite
import Derived.Test.YtbnpdpmbbppnhaaWidths
namespace Go.Proofs.Ytbnpdpmbbppnhaa
set_option linter.unusedVariables false
set_option linter.unusedSimpArgs false
open Go.RowKit

theorem Blk.grew {w w' : World} {v v' : Value} {g : Nat} {cs : Array Value} {t : TypeId} (h : Blk w g cs t) (k : Grew v w w' v') (hne : v.ownBlock ≠ some g) : Blk w' g cs t :=
  (k.by_.block g h.lt (fun e => hne e.symm)).trans h
/-- What a grown row leaves alone: all blocks from n0 on, where the row lay below n0. -/
theorem gcell {v o : Value} {W wr : World} {n0 : Nat} (h : Grew v W wr o) (hv : ∀ k, v.ownBlock = some k → k < n0) :
    (∀ b o, n0 ≤ b → b < W.heap.size → wr.cell? ⟨b, o, none⟩ = W.cell? ⟨b, o, none⟩) ∧ (∀ b o, n0 ≤ b → b < W.heap.size → wr.frozen? ⟨b, o, none⟩ = W.frozen? ⟨b, o, none⟩) ∧ (∀ k, k < W.heap.size → k < wr.heap.size) ∧ W.heap.size ≤ wr.heap.size := by
  have hb : ∀ b, n0 ≤ b → b < W.heap.size → wr.heap[b]? = W.heap[b]? := fun b h1 h2 => h.by_.block b h2 fun e => by have := hv b e.symm; omega
  exact ⟨fun b o h1 h2 => World.cell?_of_block (a := ⟨b, o, none⟩) (hb b h1 h2), fun b o h1 h2 => World.frozen?_of_block (a := ⟨b, o, none⟩) (hb b h1 h2), fun k hk => Nat.lt_of_lt_of_le hk h.by_.size, h.by_.size⟩
theorem IntsAt.grew {v o : Value} {W wr : World} {n0 : Nat} {p : Option Addr} {xs : List Int} (hx : IntsAt W p xs) (h : Grew v W wr o) (hv : ∀ k, v.ownBlock = some k → k < n0) (hp : ∀ b o, p = some ⟨b, o, none⟩ → n0 ≤ b) : IntsAt wr p xs := fun i hi => by
  obtain ⟨b, o', e, hb, hc⟩ := hx i hi
  exact ⟨b, o', e, Nat.lt_of_lt_of_le hb h.by_.size, by rw [(gcell h hv).1 b _ (hp _ _ e) hb]; exact hc⟩

def iBase (m : Int) : Int := if m = 1 then 10 else if m = 2 then 45 else if m = 3 then 32 else 256
theorem iBase_bd (m : Int) : 0 ≤ iBase m ∧ iBase m ≤ 256 := by
  unfold iBase
  (repeat' split) <;> omega
theorem numF_i {m : Int} {t : ByteArray} {a j : Nat} (hm : 1 ≤ m ∧ m ≤ 4) (hj : j ≤ (grp m).toNat) : numF (iBase m) m t a j = numF (grpBase m) m t a j := by
  have : m = 1 ∨ m = 2 ∨ m = 3 ∨ m = 4 := by omega
  rcases this with rfl | rfl | rfl | rfl
  · rfl
  · rfl
  · exact numF_base j hj
  · rfl
theorem rB_next (m : Int) (t : ByteArray) (f a : Nat) (h : a < t.size) : rB m t f (a + gN m t a) = rB m t f (a + (grp m).toNat) := by
  by_cases e : gN m t a = (grp m).toNat
  · rw [e]
  · have : t.size ≤ a + gN m t a := by unfold gN at *; omega
    have h2 : t.size ≤ a + (grp m).toNat := by unfold gN at *; omega
    rw [rB_end _ _ _ _ this, rB_end _ _ _ _ h2]
theorem modeWidths_grp {m : Int} (hm : 1 ≤ m ∧ m ≤ 3) : ((modeWidths m).length : Int) = grp m := by
  have : m = 1 ∨ m = 2 ∨ m = 3 := by omega
  rcases this with rfl | rfl | rfl <;> rfl
theorem modeWidths_wid {m g : Int} (hm : 1 ≤ m ∧ m ≤ 3) (hg : 1 ≤ g ∧ g ≤ grp m) : (modeWidths m).getD (g - 1).toNat 0 = wid m g := by
  have : m = 1 ∨ m = 2 ∨ m = 3 := by omega
  rcases this with rfl | rfl | rfl
  · have hg2 : grp 1 = 3 := rfl
    have : g = 1 ∨ g = 2 ∨ g = 3 := by omega
    rcases this with rfl | rfl | rfl <;> rfl
  · have hg2 : grp 2 = 2 := rfl
    have : g = 1 ∨ g = 2 := by omega
    rcases this with rfl | rfl <;> rfl
  · have hg2 : grp 3 = 1 := rfl
    have : g = 1 := by omega
    subst this; rfl

theorem lGroup_c (m : Int) (cs : ByteArray) (p : Option Addr) (n c : Nat) (w : World) (hm : 1 ≤ m ∧ m ≤ 3) (hn : n = (modeWidths m).length) :
    Calls Try.prog 274 #[.agg #[.string cs, .slice p n c]] w fun e w' => e = .returned (.int .i64 (grp m)) ∧ Ext w w' := by
  have h1 := modeWidths_grp hm
  have h2 := grp_bd m
  have h3 : (n : Int) = grp m := by rw [hn]; exact h1
  rw [← h3]
  exact listedGroup_c cs p n c w (by omega)
theorem lBase_c (m : Int) (p : Option Addr) (n c : Nat) (w : World) (hm : 1 ≤ m ∧ m ≤ 3) :
    Calls Try.prog 272 #[.agg #[.string (modeSet m), .slice p n c]] w fun e w' => e = .returned (.int .i64 (iBase m)) ∧ Ext w w' := by
  have h : ((modeSet m).size : Int) = iBase m := by
    have : m = 1 ∨ m = 2 ∨ m = 3 := by omega
    rcases this with rfl | rfl | rfl <;> rfl
  have hs := modeSet_size m
  rw [← h]
  clear h
  go_enter Try.func272, Try.ntmps272
  go_wp2
  go_ret
  exact ⟨rfl, (by repeat (first | exact Ext.refl _ | assumption | refine Ext.drew ?_ | refine Ext.drewN ?_ _ | refine Ext.iter ?_ _ _ | refine Ext.alloc ?_ _ | refine Ext.setCell ?_ (by first | exact Nat.le_refl _ | (simp <;> omega)) _ | refine Ext.trans2 (by assumption) ?_))⟩
theorem lWidth_c (m g : Int) (cs : ByteArray) (p : Option Addr) (n c : Nat) (w : World) (hm : 1 ≤ m ∧ m ≤ 3) (hn : n = (modeWidths m).length) (hi : IntsAt w p (modeWidths m)) (hg : 1 ≤ g ∧ g ≤ grp m) :
    Calls Try.prog 276 #[.agg #[.string cs, .slice p n c], .int .i64 g] w fun e w' => e = .returned (.int .i64 (wid m g)) ∧ Ext w w' := by
  have h1 := modeWidths_grp hm
  have h2 := grp_bd m
  rw [← modeWidths_wid hm hg]
  exact listedWidth_c cs p _ n c g w hi hn (by omega) (by omega)
theorem lValue_c (m b : Int) (p : Option Addr) (n c : Nat) (w : World) (hm : 1 ≤ m ∧ m ≤ 3) (hb : 0 ≤ b ∧ b ≤ 255) :
    Calls Try.prog 275 #[.agg #[.string (modeSet m), .slice p n c], .int .i64 b] w fun e w' => e = .returned (.int .i64 (charVal m b)) ∧ Ext w w' := by
  rw [charVal_listed hm hb]
  exact listedValue_c _ p n c b w (modeSet_ascii m) (by have := modeSet_size m; omega)
theorem pGroup_c (m : Int) (w : World) (hm : m = 4) : Calls Try.prog 279 #[.agg #[]] w fun e w' => e = .returned (.int .i64 (grp m)) ∧ Ext w w' := by
  subst hm; exact plainGroup_c w
theorem pBase_c (m : Int) (w : World) (hm : m = 4) : Calls Try.prog 277 #[.agg #[]] w fun e w' => e = .returned (.int .i64 (iBase m)) ∧ Ext w w' := by
  subst hm
  go_enter Try.func277, Try.ntmps277
  go_wp2
  go_ret
  exact ⟨rfl, (by repeat (first | exact Ext.refl _ | assumption | refine Ext.drew ?_ | refine Ext.drewN ?_ _ | refine Ext.iter ?_ _ _ | refine Ext.alloc ?_ _ | refine Ext.setCell ?_ (by first | exact Nat.le_refl _ | (simp <;> omega)) _ | refine Ext.trans2 (by assumption) ?_))⟩
theorem pWidth_c (m g : Int) (w : World) (hm : m = 4) : Calls Try.prog 281 #[.agg #[], .int .i64 g] w fun e w' => e = .returned (.int .i64 (wid m g)) ∧ Ext w w' := by
  subst hm; exact plainWidth_c g w
theorem pValue_c (m b : Int) (w : World) (hm : m = 4) (hb : 0 ≤ b ∧ b ≤ 255) : Calls Try.prog 280 #[.agg #[], .int .i64 b] w fun e w' => e = .returned (.int .i64 (charVal m b)) ∧ Ext w w' := by
  rw [charVal_bytes hm hb]
  exact plainValue_c b w

set_option maxRecDepth 100000 in
theorem iAppendSegment1_c (B : Nat) (v : Value) (xs : List Int) (m : Int) (t : ByteArray) (w : World) (hown : RowI B w v xs) (hB : B ≤ w.heap.size) (hl : xs.length ≤ 500000) (hS : IsSeg m t) (hmm : 1 ≤ m ∧ m ≤ 3) :
    Calls Try.prog 166 #[v, vSeg m t] w fun e w' => GrewI B v w (xs ++ segBits m t) e w' := by
  have hm := hS.1
  have hsz := hS.2.1
  have hA := Lib.hid hS.2.2
  clear hS
  have hgb := iBase_bd m
  have hg := grp_bd m
  have hvl : ∀ k, v.ownBlock = some k → k < w.heap.size := fun k hk => (hown.lt k hk).2
  have HVL := Lib.hid hvl; clear hvl
  have HM2 := Lib.hid hmm
  clear hmm
  have hna : ∀ (S : ByteArray) (p : Option Addr) (n : Nat) w, (nilAhead 379 253 (.agg #[.string S, .slice p n n]) (nthInv Try.f166 2)).run Try.prog w = .ok (some false) w := fun S p n w => by kernel_rfl
  conv at hna => intro S p n w; lhs; arg 2; arg 4; whnf
  have hme : ∀ (S : ByteArray) (p : Option Addr) (n : Nat) w, (method 379 253 (.agg #[.string S, .slice p n n]) (nthInv Try.f166 2)).run Try.prog w = .ok (275, (.agg #[.string S, .slice p n n])) w := fun S p n w => by kernel_rfl
  conv at hme => intro S p n w; lhs; arg 2; arg 4; whnf
  go_enter Try.func166, Try.ntmps166
  go_wp2_with (first
    | (go_at_call 206; (with_reducible refine (modeOfB_c _ _).mono ?_); rintro e wm ⟨⟨vm, ⟨h4, rfl⟩ | ⟨h4, rfl⟩, hvm⟩, hb1⟩ <;> go_prune; obtain ⟨hc, hf, hk, hz⟩ := ecell hb1; simp at hz; replace hvm := Lib.hid hvm; have hown1 := (hown.alloc _).ext hb1; have hB1 : B ≤ wm.heap.size := (by omega))
    | (go_at_call 88; (with_reducible refine (iAppendNumber_c B _ _ m 3 _ hown1 hB1 (by omega) (by omega) (by omega)).mono ?_); rintro e w2 ⟨v2, rfl, hown2, hG2⟩; have hlen2 : (xs ++ bitsOf m 3).length ≤ 600000 := (by simp [bitsOf_len]; omega); obtain ⟨gc, gf, gk, gz⟩ := gcell hG2 HVL.out; have hB2 : B ≤ w2.heap.size := (by omega))
    | (go_at_call 88; (with_reducible refine (iAppendNumber_c B _ _ (t.size : Int) 8 _ hown2 hB2 (by omega) (by omega) (by omega)).mono ?_); rintro e w3 ⟨v3, rfl, hown3, hG3⟩; have hG23 := hG2.trans hG3; clear gc gf gk gz; obtain ⟨gc, gf, gk, gz⟩ := gcell hG23 HVL.out))
  obtain ⟨acc0, hacc0⟩ : ∃ acc, acc = bitsOf m 3 ++ bitsOf t.size 8 := ⟨_, rfl⟩
  have hal0 : acc0.length = 11 := by rw [hacc0]; simp [bitsOf_len]
  rw [List.append_assoc, ← hacc0] at hown3
  have HA0 := Lib.hid (show acc0 ++ rB m t t.size 0 = segBits m t by rw [hacc0]; rfl)
  have hx1 : Ext w wm := ((Ext.refl w).alloc _).trans hb1
  have hbx := (Blk.new w #[.int .i64 m, .string t] 107).ext hb1
  clear hacc0 gc gf gk gz hown1 hown2 hlen2 hB2 hown hc hf hk hz
  rcases hvm.out with ⟨⟨hm3, p1, n1, rfl, hnn, hi1⟩ | ⟨hm3, rfl⟩, hpb⟩ <;> first | (exfalso; have := HM2.out; omega) | skip; have HMN := Lib.hid hnn; have HMI1 := Lib.hid hi1; have HPB := Lib.hid (show ∀ b o, p1 = some ⟨b, o, none⟩ → w.heap.size ≤ b from fun b o e => by have := hpb b o _ n1 (by rw [e]); simp at this; omega); clear hnn hi1 hpb
  go_loopw [0, 7] (fun o i wr => ∃ (a f : Nat) (acc : List Int), i = .int .i64 a ∧ a ≤ t.size ∧ t.size ≤ a + f ∧ acc.length ≤ 11 + 11 * a ∧ RowI B wr o (xs ++ acc) ∧ Hid (acc ++ rB m t f a = segBits m t) ∧ Grew v wm wr o) (fun _ i _ => t.size - (intOf i).toNat)
  case atStart => exact ⟨0, t.size, acc0, rfl, by omega, by omega, by omega, hown3, HA0, hG23⟩
  case round =>
    clear hown3 HA0 hal0 hG23 hG2 hG3
    obtain ⟨a, f, acc, rfl, ha, hf1, hal, hown, hT, hGr⟩ := hrel
    obtain ⟨wo, rfl⟩ : ∃ wo : World, wo = wr := ⟨_, rfl⟩
    have hby := hbx.grew hGr (fun e => by have := HVL.out _ e; omega)
    have q0 := hby.cell (i := 0) (v := .int .i64 m) rfl
    have q1 := hby.cell (i := 1) (v := .string t) rfl
    have ql := hby.lt
    by_cases hlt : a < t.size
    · have hif : (if (t.size : Int) - a < grp m then (t.size : Int) - a else grp m) = (gN m t a : Int) := by unfold gN; split <;> omega
      have hn1 : 1 ≤ gN m t a ∧ gN m t a ≤ 3 ∧ a + gN m t a ≤ t.size ∧ gN m t a ≤ (grp m).toNat := by unfold gN; omega
      obtain ⟨f', rfl⟩ : ∃ f', f = f' + 1 := ⟨f - 1, by omega⟩
      have hT2 := hT.out
      rw [rB_step m t f' a hlt, ← rB_next m t f' a hlt, ← numF_i hm hn1.2.2.2] at hT2
      generalize hgn : gN m t a = n at *
      have HT2 := Lib.hid hT2; clear hT2 hT hgn
      have e0 := IntWalk.i64_in ((t.size : Int) - a) (by omega)
      go_wp2_with fail
      refine wp_region_canon (fun w' => Ext wo w') [(0, true), (2, true), (3, true), (4, true), (5, true), (6, true), (1, false), (7, true), (8, true)] (by kernel_rfl) (by kernel_rfl) (by decide) (by kernel_rfl) ?_ ?_
      · exact (by repeat (first | exact Ext.refl _ | assumption | refine Ext.drew ?_ | refine Ext.drewN ?_ _ | refine Ext.iter ?_ _ _ | refine Ext.alloc ?_ _ | refine Ext.setCell ?_ (by first | exact Nat.le_refl _ | (simp <;> omega)) _ | refine Ext.trans2 (by assumption) ?_))
      refine canon_intro fun ops eo => ?_
      have ho0 := canon_at eo 0 rfl
      have ho1 := canon_at eo 1 rfl
      have ho2 := canon_at eo 2 rfl
      have ho3 := canon_at eo 3 rfl
      have ho4 := canon_at eo 4 rfl
      have ho5 := canon_at eo 5 rfl
      have ho6 := canon_at eo 6 rfl
      have ho7 := canon_at eo 7 rfl
      have ho8 := canon_at eo 8 rfl
      clear eo
      all_goals (apply canon_st ho0 rfl; (intro w2 hS; first | (go_simp; first | done | rfl) | rfl | (obtain ⟨hc, hf, hk, hz⟩ := ecell hS; go_simp; first | done | rfl)); simp only [Act.put, List.setIfInBounds_toArray, List.set_cons_zero, List.set_cons_succ])
      all_goals clear ho0
      all_goals (apply canon_st ho2 rfl; (intro w2 hS; first | (go_simp; first | done | rfl) | rfl | (obtain ⟨hc, hf, hk, hz⟩ := ecell hS; go_simp; first | done | rfl)); simp only [Act.put, List.setIfInBounds_toArray, List.set_cons_zero, List.set_cons_succ])
      all_goals clear ho2
      all_goals (apply canon_st ho3 rfl; (intro w2 hS; first | (go_simp; first | done | rfl) | rfl | (obtain ⟨hc, hf, hk, hz⟩ := ecell hS; go_simp; first | done | rfl)); simp only [Act.put, List.setIfInBounds_toArray, List.set_cons_zero, List.set_cons_succ])
      all_goals clear ho3
      all_goals (apply canon_st ho4 rfl; (intro w2 hS; first | (go_simp; first | done | rfl) | rfl | (obtain ⟨hc, hf, hk, hz⟩ := ecell hS; go_simp; first | done | rfl)); simp only [Act.put, List.setIfInBounds_toArray, List.set_cons_zero, List.set_cons_succ])
      all_goals clear ho4
      all_goals (apply canon_st ho5 rfl; (intro w2 hS; first | (go_simp; first | done | rfl) | rfl | (obtain ⟨hc, hf, hk, hz⟩ := ecell hS; go_simp; first | done | rfl)); simp only [Act.put, List.setIfInBounds_toArray, List.set_cons_zero, List.set_cons_succ])
      all_goals clear ho5
      all_goals (apply canon_st ho6 rfl; (intro w2 hS; first | (go_simp; first | done | rfl) | rfl | (obtain ⟨hc, hf, hk, hz⟩ := ecell hS; go_simp; first | done | rfl)); simp only [Act.put, List.setIfInBounds_toArray, List.set_cons_zero, List.set_cons_succ])
      all_goals clear ho6
      all_goals first | (refine canon_inv ho1 (nthInv Try.f166 0) rfl 253 274 Try.func274 ⟨_, rfl, (by kernel_rfl), (by kernel_rfl), (by kernel_rfl), ?_⟩; simp only [List.map_toArray, List.map_cons, List.map_nil, List.append_toArray, List.cons_append, List.nil_append, Act.eval]; go_simp; (with_reducible refine (lGroup_c m _ _ _ _ _ HM2.out HMN.out).mono ?_); rintro e w1 ⟨rfl, hb⟩; (obtain ⟨hc, hf, hk, hz⟩ := ecell hb; try (have hx := Ext.trans2 hb (by assumption); obtain ⟨hcx, hfx, hkx, hzx⟩ := ecell hx)); (try simp at hz); (refine ⟨(by repeat (first | exact Ext.refl _ | assumption | refine Ext.drew ?_ | refine Ext.drewN ?_ _ | refine Ext.iter ?_ _ _ | refine Ext.alloc ?_ _ | refine Ext.setCell ?_ (by first | exact Nat.le_refl _ | (simp <;> omega)) _ | refine Ext.trans2 (by assumption) ?_)), ?_⟩; go_simp))
      all_goals clear ho1
      all_goals (apply canon_st ho7 rfl; (intro w2 hS; first | (go_simp; first | done | rfl) | rfl | (obtain ⟨hc, hf, hk, hz⟩ := ecell hS; go_simp; first | done | rfl)); simp only [Act.put, List.setIfInBounds_toArray, List.set_cons_zero, List.set_cons_succ])
      all_goals clear ho7
      all_goals (apply canon_st ho8 rfl; (intro w2 hS; first | (go_simp; first | done | rfl) | rfl | (obtain ⟨hc, hf, hk, hz⟩ := ecell hS; go_simp; first | done | rfl)); simp only [Act.put, List.setIfInBounds_toArray, List.set_cons_zero, List.set_cons_succ])
      all_goals clear ho8
      all_goals refine canon_done (NoPanic.normal ?_)
      clear e0 hif
      have hxg : Ext wo w1 := ((Ext.refl wo).drew).trans hb
      go_wp2_with fail
      clear hb
      go_loopw [9, 10] (fun v k wr' => ∃ q : Nat, a ≤ q ∧ q ≤ a + n ∧ v = .int .i64 (numF (iBase m) m t a (q - a)) ∧ k = .int .i64 q ∧ Ext wo wr') (fun _ k _ => a + n - (intOf k).toNat)
      case atStart => exact ⟨a, by omega, by omega, by simp [numF], rfl, hxg⟩
      case round =>
        clear hxg hc hf hk hz
        obtain ⟨q, hq1, hq2, rfl, rfl, hext2⟩ := hrel
        generalize hjq : q - a = j at *
        have hj : j ≤ n := by omega
        have HJ := Lib.hid (show a + j = q by omega)
        clear hjq
        have hnb := numF_small hA.out hgb (a := a) (j := j) (by omega) (by omega)
        obtain ⟨hc, hf, hk, hz⟩ := ecell hext2
        by_cases hlt2 : q < a + n
        · have hq3 : q < t.size := by omega
          have hcv := charVal_ok hA.out (show q < t.size by omega)
          have hch := charVal_hi m t q
          rw [byteAt_eq (show q < t.size by omega)] at hcv hch
          have h8 : (t[q]'(by omega)).toNat < 256 := UInt8.toNat_lt _
          have hp0 : 0 ≤ numF (iBase m) m t a j * iBase m := Int.mul_nonneg hnb.1 hgb.1
          have hp1 : numF (iBase m) m t a j * iBase m ≤ 16777216 * 256 := Int.mul_le_mul (by omega) hgb.2 hgb.1 (by omega)
          have hnx : numF (iBase m) m t a (j + 1) = numF (iBase m) m t a j * iBase m + charVal m (t[q]'(by omega)).toNat := by rw [numF, HJ.out, byteAt_eq (show q < t.size by omega)]
          have HN := Lib.hid hnx; clear hnx
          have e1 := IntWalk.i64_in (numF (iBase m) m t a j * iBase m) (by omega)
          have e2 := IntWalk.i64_in (numF (iBase m) m t a j * iBase m + charVal m (t[q]'(by omega)).toNat) (by omega)
          have e3 := wrapByte (t[q]'(by omega))
          have hd1 : (q : Int) < (a : Int) + n := by omega
          go_wp2_with fail
          refine wp_region_canon (fun w' => Ext wr w') [(0, true), (1, true), (4, true), (5, true), (6, true), (7, true), (8, true), (9, true), (10, true), (11, true), (12, true), (2, false), (3, true), (13, false), (14, true), (15, true)] (by kernel_rfl) (by kernel_rfl) (by decide) (by kernel_rfl) ?_ ?_
          · exact (by repeat (first | exact Ext.refl _ | assumption | refine Ext.drew ?_ | refine Ext.drewN ?_ _ | refine Ext.iter ?_ _ _ | refine Ext.alloc ?_ _ | refine Ext.setCell ?_ (by first | exact Nat.le_refl _ | (simp <;> omega)) _ | refine Ext.trans2 (by assumption) ?_))
          refine canon_intro fun ops eo => ?_
          have ho0 := canon_at eo 0 rfl
          have ho1 := canon_at eo 1 rfl
          have ho2 := canon_at eo 2 rfl
          have ho3 := canon_at eo 3 rfl
          have ho4 := canon_at eo 4 rfl
          have ho5 := canon_at eo 5 rfl
          have ho6 := canon_at eo 6 rfl
          have ho7 := canon_at eo 7 rfl
          have ho8 := canon_at eo 8 rfl
          have ho9 := canon_at eo 9 rfl
          have ho10 := canon_at eo 10 rfl
          have ho11 := canon_at eo 11 rfl
          have ho12 := canon_at eo 12 rfl
          have ho13 := canon_at eo 13 rfl
          have ho14 := canon_at eo 14 rfl
          have ho15 := canon_at eo 15 rfl
          clear eo
          all_goals (apply canon_st ho0 rfl; (intro w2 hS; first | (go_simp; first | done | rfl) | rfl | (obtain ⟨hc, hf, hk, hz⟩ := ecell hS; go_simp; first | done | rfl)); simp only [Act.put, List.setIfInBounds_toArray, List.set_cons_zero, List.set_cons_succ])
          all_goals clear ho0
          all_goals (apply canon_st ho1 rfl; (intro w2 hS; first | (go_simp; first | done | rfl) | rfl | (obtain ⟨hc, hf, hk, hz⟩ := ecell hS; go_simp; first | done | rfl)); simp only [Act.put, List.setIfInBounds_toArray, List.set_cons_zero, List.set_cons_succ])
          all_goals clear ho1
          all_goals (apply canon_st ho4 rfl; (intro w2 hS; first | (go_simp; first | done | rfl) | rfl | (obtain ⟨hc, hf, hk, hz⟩ := ecell hS; go_simp; first | done | rfl)); simp only [Act.put, List.setIfInBounds_toArray, List.set_cons_zero, List.set_cons_succ])
          all_goals clear ho4
          all_goals (apply canon_st ho5 rfl; (intro w2 hS; first | (go_simp; first | done | rfl) | rfl | (obtain ⟨hc, hf, hk, hz⟩ := ecell hS; go_simp; first | done | rfl)); simp only [Act.put, List.setIfInBounds_toArray, List.set_cons_zero, List.set_cons_succ])
          all_goals clear ho5
          all_goals (apply canon_st ho6 rfl; (intro w2 hS; first | (go_simp; first | done | rfl) | rfl | (obtain ⟨hc, hf, hk, hz⟩ := ecell hS; go_simp; first | done | rfl)); simp only [Act.put, List.setIfInBounds_toArray, List.set_cons_zero, List.set_cons_succ])
          all_goals clear ho6
          all_goals (apply canon_st ho7 rfl; (intro w2 hS; first | (go_simp; first | done | rfl) | rfl | (obtain ⟨hc, hf, hk, hz⟩ := ecell hS; go_simp; first | done | rfl)); simp only [Act.put, List.setIfInBounds_toArray, List.set_cons_zero, List.set_cons_succ])
          all_goals clear ho7
          all_goals (apply canon_st ho8 rfl; (intro w2 hS; first | (go_simp; first | done | rfl) | rfl | (obtain ⟨hc, hf, hk, hz⟩ := ecell hS; go_simp; first | done | rfl)); simp only [Act.put, List.setIfInBounds_toArray, List.set_cons_zero, List.set_cons_succ])
          all_goals clear ho8
          all_goals (apply canon_st ho9 rfl; (intro w2 hS; first | (go_simp; first | done | rfl) | rfl | (obtain ⟨hc, hf, hk, hz⟩ := ecell hS; go_simp; first | done | rfl)); simp only [Act.put, List.setIfInBounds_toArray, List.set_cons_zero, List.set_cons_succ])
          all_goals clear ho9
          all_goals (apply canon_st ho10 rfl; (intro w2 hS; first | (go_simp; first | done | rfl) | rfl | (obtain ⟨hc, hf, hk, hz⟩ := ecell hS; go_simp; first | done | rfl)); simp only [Act.put, List.setIfInBounds_toArray, List.set_cons_zero, List.set_cons_succ])
          all_goals clear ho10
          all_goals (apply canon_st ho11 rfl; (intro w2 hS; first | (go_simp; first | done | rfl) | rfl | (obtain ⟨hc, hf, hk, hz⟩ := ecell hS; go_simp; first | done | rfl)); simp only [Act.put, List.setIfInBounds_toArray, List.set_cons_zero, List.set_cons_succ])
          all_goals clear ho11
          all_goals (apply canon_st ho12 rfl; (intro w2 hS; first | (go_simp; first | done | rfl) | rfl | (obtain ⟨hc, hf, hk, hz⟩ := ecell hS; go_simp; first | done | rfl)); simp only [Act.put, List.setIfInBounds_toArray, List.set_cons_zero, List.set_cons_succ])
          all_goals clear ho12
          all_goals first | (refine canon_inv ho2 (nthInv Try.f166 1) rfl 253 272 Try.func272 ⟨_, rfl, (by kernel_rfl), (by kernel_rfl), (by kernel_rfl), ?_⟩; simp only [List.map_toArray, List.map_cons, List.map_nil, List.append_toArray, List.cons_append, List.nil_append, Act.eval]; go_simp; (with_reducible refine (lBase_c m _ _ _ _ HM2.out).mono ?_); rintro e w1 ⟨rfl, hb⟩; (obtain ⟨hc, hf, hk, hz⟩ := ecell hb; try (have hx := Ext.trans2 hb (by assumption); obtain ⟨hcx, hfx, hkx, hzx⟩ := ecell hx)); (try simp at hz); (refine ⟨(by repeat (first | exact Ext.refl _ | assumption | refine Ext.drew ?_ | refine Ext.drewN ?_ _ | refine Ext.iter ?_ _ _ | refine Ext.alloc ?_ _ | refine Ext.setCell ?_ (by first | exact Nat.le_refl _ | (simp <;> omega)) _ | refine Ext.trans2 (by assumption) ?_)), ?_⟩; go_simp)) | (refine canon_inv ho2 (nthInv Try.f166 2) rfl 253 275 Try.func275 ⟨_, rfl, (by kernel_rfl), (by kernel_rfl), (by kernel_rfl), ?_⟩; simp only [List.map_toArray, List.map_cons, List.map_nil, List.append_toArray, List.cons_append, List.nil_append, Act.eval]; go_simp; (with_reducible refine (lValue_c m _ _ _ _ _ HM2.out (by omega)).mono ?_); rintro e w1 ⟨rfl, hb⟩; (obtain ⟨hc, hf, hk, hz⟩ := ecell hb; try (have hx := Ext.trans2 hb (by assumption); obtain ⟨hcx, hfx, hkx, hzx⟩ := ecell hx)); (try simp at hz); (refine ⟨(by repeat (first | exact Ext.refl _ | assumption | refine Ext.drew ?_ | refine Ext.drewN ?_ _ | refine Ext.iter ?_ _ _ | refine Ext.alloc ?_ _ | refine Ext.setCell ?_ (by first | exact Nat.le_refl _ | (simp <;> omega)) _ | refine Ext.trans2 (by assumption) ?_)), ?_⟩; go_simp))
          all_goals clear ho2
          all_goals (apply canon_st ho3 rfl; (intro w2 hS; first | (go_simp; first | done | rfl) | rfl | (obtain ⟨hc, hf, hk, hz⟩ := ecell hS; go_simp; first | done | rfl)); simp only [Act.put, List.setIfInBounds_toArray, List.set_cons_zero, List.set_cons_succ])
          all_goals clear ho3
          all_goals first | (refine canon_inv ho13 (nthInv Try.f166 1) rfl 253 272 Try.func272 ⟨_, rfl, (by kernel_rfl), (by kernel_rfl), (by kernel_rfl), ?_⟩; simp only [List.map_toArray, List.map_cons, List.map_nil, List.append_toArray, List.cons_append, List.nil_append, Act.eval]; go_simp; (with_reducible refine (lBase_c m _ _ _ _ HM2.out).mono ?_); rintro e w1 ⟨rfl, hb⟩; (obtain ⟨hc, hf, hk, hz⟩ := ecell hb; try (have hx := Ext.trans2 hb (by assumption); obtain ⟨hcx, hfx, hkx, hzx⟩ := ecell hx)); (try simp at hz); (refine ⟨(by repeat (first | exact Ext.refl _ | assumption | refine Ext.drew ?_ | refine Ext.drewN ?_ _ | refine Ext.iter ?_ _ _ | refine Ext.alloc ?_ _ | refine Ext.setCell ?_ (by first | exact Nat.le_refl _ | (simp <;> omega)) _ | refine Ext.trans2 (by assumption) ?_)), ?_⟩; go_simp)) | (refine canon_inv ho13 (nthInv Try.f166 2) rfl 253 275 Try.func275 ⟨_, rfl, (by kernel_rfl), (by kernel_rfl), (by kernel_rfl), ?_⟩; simp only [List.map_toArray, List.map_cons, List.map_nil, List.append_toArray, List.cons_append, List.nil_append, Act.eval]; go_simp; (with_reducible refine (lValue_c m _ _ _ _ _ HM2.out (by omega)).mono ?_); rintro e w1 ⟨rfl, hb⟩; (obtain ⟨hc, hf, hk, hz⟩ := ecell hb; try (have hx := Ext.trans2 hb (by assumption); obtain ⟨hcx, hfx, hkx, hzx⟩ := ecell hx)); (try simp at hz); (refine ⟨(by repeat (first | exact Ext.refl _ | assumption | refine Ext.drew ?_ | refine Ext.drewN ?_ _ | refine Ext.iter ?_ _ _ | refine Ext.alloc ?_ _ | refine Ext.setCell ?_ (by first | exact Nat.le_refl _ | (simp <;> omega)) _ | refine Ext.trans2 (by assumption) ?_)), ?_⟩; go_simp))
          all_goals clear ho13
          all_goals (apply canon_st ho14 rfl; (intro w2 hS; first | (go_simp; first | done | rfl) | rfl | (obtain ⟨hc, hf, hk, hz⟩ := ecell hS; go_simp; first | done | rfl)); simp only [Act.put, List.setIfInBounds_toArray, List.set_cons_zero, List.set_cons_succ])
          all_goals clear ho14
          all_goals (apply canon_st ho15 rfl; (intro w2 hS; first | (go_simp; first | done | rfl) | rfl | (obtain ⟨hc, hf, hk, hz⟩ := ecell hS; go_simp; first | done | rfl)); simp only [Act.put, List.setIfInBounds_toArray, List.set_cons_zero, List.set_cons_succ])
          all_goals clear ho15
          all_goals refine canon_done (NoPanic.normal ?_)
          clear e1 e2 e3
          go_wp2_with fail
          go_roundw
          case rel => exact ⟨q + 1, by omega, by omega, by rw [show q + 1 - a = j + 1 by have := HJ.out; omega, HN.out], by go_num, (by repeat (first | exact Ext.refl _ | assumption | refine Ext.drew ?_ | refine Ext.drewN ?_ _ | refine Ext.iter ?_ _ _ | refine Ext.alloc ?_ _ | refine Ext.setCell ?_ (by first | exact Nat.le_refl _ | (simp <;> omega)) _ | refine Ext.trans2 (by assumption) ?_))⟩
          case measure => simp [intOf]; omega
        · obtain rfl : j = n := by have := HJ.out; omega
          have hd1 : ¬ (q : Int) < (a : Int) + j := by omega
          have HMI := Lib.hid ((HMI1.out.grew hGr HVL.out HPB.out).ext hext2)
          have hown2 := hown.ext hext2
          have hwd := wid_bd m j
          have hBw : B ≤ wr.heap.size := by omega
          have hyl : (xs ++ acc).length ≤ 1000000 := by simp; omega
          have ej := IntWalk.i64_in ((j : Int)) (by omega)
          go_wp2_with (first
            | ((with_reducible refine wpList_invoke_of (nthInv Try.f166 3) ?_ 253 276 Try.func276 ?_); rfl; refine ⟨_, rfl, (by kernel_rfl), (by kernel_rfl), (by kernel_rfl), ?_⟩; simp only [List.map_toArray, List.map_cons, List.map_nil, List.append_toArray, List.cons_append, List.nil_append, Act.eval]; go_simp)
            | (go_at_call 276; (with_reducible refine (lWidth_c m _ _ _ _ _ _ HM2.out HMN.out HMI.out (by omega)).mono ?_); rintro e w4 ⟨rfl, hb4⟩; have hown3 := hown2.ext hb4; have hB4 : B ≤ w4.heap.size := (by have := hb4.below.size; omega))
            | (go_at_call 88; (with_reducible refine (iAppendNumber_c B _ _ _ _ _ hown3 hB4 hyl (by omega) (by omega)).mono ?_); rintro e w5 ⟨v5, rfl, hown5, hG5⟩))
          have hGx := (hGr.trans (Grew.ext (hext2.trans hb4))).trans hG5
          refine ⟨⟨a + j, f', acc ++ bitsOf (numF (iBase m) m t a j) (wid m j), by go_num, by omega, by omega, ?_, ?_, Lib.hid ?_, hGx⟩, by simp [intOf]; omega⟩
          · simp [bitsOf_len]; omega
          · rw [← List.append_assoc]
            exact hown5
          · have := HT2.out
            rwa [← List.append_assoc] at this
    · have hd0 : ¬ (a : Int) < t.size := by omega
      have := hT.out
      rw [rB_end _ _ _ _ (by omega), List.append_nil] at this
      rw [this] at hown
      go_wp2
      go_ret
      exact ⟨_, rfl, hown, (Grew.ext hx1).trans hGr⟩
set_option maxRecDepth 100000 in
theorem iAppendSegment2_c (B : Nat) (v : Value) (xs : List Int) (m : Int) (t : ByteArray) (w : World) (hown : RowI B w v xs) (hB : B ≤ w.heap.size) (hl : xs.length ≤ 500000) (hS : IsSeg m t) (hmm : m = 4) :
    Calls Try.prog 166 #[v, vSeg m t] w fun e w' => GrewI B v w (xs ++ segBits m t) e w' := by
  have hm := hS.1
  have hsz := hS.2.1
  have hA := Lib.hid hS.2.2
  clear hS
  have hgb := iBase_bd m
  have hg := grp_bd m
  have hvl : ∀ k, v.ownBlock = some k → k < w.heap.size := fun k hk => (hown.lt k hk).2
  have HVL := Lib.hid hvl; clear hvl
  have HM2 := Lib.hid hmm
  clear hmm
  have hna : ∀  w, (nilAhead 379 255 (.agg #[]) (nthInv Try.f166 2)).run Try.prog w = .ok (some false) w := fun  w => by kernel_rfl
  conv at hna => intro  w; lhs; arg 2; arg 4; whnf
  have hme : ∀  w, (method 379 255 (.agg #[]) (nthInv Try.f166 2)).run Try.prog w = .ok (280, (.agg #[])) w := fun  w => by kernel_rfl
  conv at hme => intro  w; lhs; arg 2; arg 4; whnf
  go_enter Try.func166, Try.ntmps166
  go_wp2_with (first
    | (go_at_call 206; (with_reducible refine (modeOfB_c _ _).mono ?_); rintro e wm ⟨⟨vm, ⟨h4, rfl⟩ | ⟨h4, rfl⟩, hvm⟩, hb1⟩ <;> go_prune; obtain ⟨hc, hf, hk, hz⟩ := ecell hb1; simp at hz; replace hvm := Lib.hid hvm; have hown1 := (hown.alloc _).ext hb1; have hB1 : B ≤ wm.heap.size := (by omega))
    | (go_at_call 88; (with_reducible refine (iAppendNumber_c B _ _ m 3 _ hown1 hB1 (by omega) (by omega) (by omega)).mono ?_); rintro e w2 ⟨v2, rfl, hown2, hG2⟩; have hlen2 : (xs ++ bitsOf m 3).length ≤ 600000 := (by simp [bitsOf_len]; omega); obtain ⟨gc, gf, gk, gz⟩ := gcell hG2 HVL.out; have hB2 : B ≤ w2.heap.size := (by omega))
    | (go_at_call 88; (with_reducible refine (iAppendNumber_c B _ _ (t.size : Int) 8 _ hown2 hB2 (by omega) (by omega) (by omega)).mono ?_); rintro e w3 ⟨v3, rfl, hown3, hG3⟩; have hG23 := hG2.trans hG3; clear gc gf gk gz; obtain ⟨gc, gf, gk, gz⟩ := gcell hG23 HVL.out))
  obtain ⟨acc0, hacc0⟩ : ∃ acc, acc = bitsOf m 3 ++ bitsOf t.size 8 := ⟨_, rfl⟩
  have hal0 : acc0.length = 11 := by rw [hacc0]; simp [bitsOf_len]
  rw [List.append_assoc, ← hacc0] at hown3
  have HA0 := Lib.hid (show acc0 ++ rB m t t.size 0 = segBits m t by rw [hacc0]; rfl)
  have hx1 : Ext w wm := ((Ext.refl w).alloc _).trans hb1
  have hbx := (Blk.new w #[.int .i64 m, .string t] 107).ext hb1
  clear hacc0 gc gf gk gz hown1 hown2 hlen2 hB2 hown hc hf hk hz
  rcases hvm.out with ⟨⟨hm3, p1, n1, rfl, hnn, hi1⟩ | ⟨hm3, rfl⟩, hpb⟩ <;> first | (exfalso; have := HM2.out; omega) | skip; clear hpb
  go_loopw [0, 7] (fun o i wr => ∃ (a f : Nat) (acc : List Int), i = .int .i64 a ∧ a ≤ t.size ∧ t.size ≤ a + f ∧ acc.length ≤ 11 + 11 * a ∧ RowI B wr o (xs ++ acc) ∧ Hid (acc ++ rB m t f a = segBits m t) ∧ Grew v wm wr o) (fun _ i _ => t.size - (intOf i).toNat)
  case atStart => exact ⟨0, t.size, acc0, rfl, by omega, by omega, by omega, hown3, HA0, hG23⟩
  case round =>
    clear hown3 HA0 hal0 hG23 hG2 hG3
    obtain ⟨a, f, acc, rfl, ha, hf1, hal, hown, hT, hGr⟩ := hrel
    obtain ⟨wo, rfl⟩ : ∃ wo : World, wo = wr := ⟨_, rfl⟩
    have hby := hbx.grew hGr (fun e => by have := HVL.out _ e; omega)
    have q0 := hby.cell (i := 0) (v := .int .i64 m) rfl
    have q1 := hby.cell (i := 1) (v := .string t) rfl
    have ql := hby.lt
    by_cases hlt : a < t.size
    · have hif : (if (t.size : Int) - a < grp m then (t.size : Int) - a else grp m) = (gN m t a : Int) := by unfold gN; split <;> omega
      have hn1 : 1 ≤ gN m t a ∧ gN m t a ≤ 3 ∧ a + gN m t a ≤ t.size ∧ gN m t a ≤ (grp m).toNat := by unfold gN; omega
      obtain ⟨f', rfl⟩ : ∃ f', f = f' + 1 := ⟨f - 1, by omega⟩
      have hT2 := hT.out
      rw [rB_step m t f' a hlt, ← rB_next m t f' a hlt, ← numF_i hm hn1.2.2.2] at hT2
      generalize hgn : gN m t a = n at *
      have HT2 := Lib.hid hT2; clear hT2 hT hgn
      have e0 := IntWalk.i64_in ((t.size : Int) - a) (by omega)
      go_wp2_with fail
      refine wp_region_canon (fun w' => Ext wo w') [(0, true), (2, true), (3, true), (4, true), (5, true), (6, true), (1, false), (7, true), (8, true)] (by kernel_rfl) (by kernel_rfl) (by decide) (by kernel_rfl) ?_ ?_
      · exact (by repeat (first | exact Ext.refl _ | assumption | refine Ext.drew ?_ | refine Ext.drewN ?_ _ | refine Ext.iter ?_ _ _ | refine Ext.alloc ?_ _ | refine Ext.setCell ?_ (by first | exact Nat.le_refl _ | (simp <;> omega)) _ | refine Ext.trans2 (by assumption) ?_))
      refine canon_intro fun ops eo => ?_
      have ho0 := canon_at eo 0 rfl
      have ho1 := canon_at eo 1 rfl
      have ho2 := canon_at eo 2 rfl
      have ho3 := canon_at eo 3 rfl
      have ho4 := canon_at eo 4 rfl
      have ho5 := canon_at eo 5 rfl
      have ho6 := canon_at eo 6 rfl
      have ho7 := canon_at eo 7 rfl
      have ho8 := canon_at eo 8 rfl
      clear eo
      all_goals (apply canon_st ho0 rfl; (intro w2 hS; first | (go_simp; first | done | rfl) | rfl | (obtain ⟨hc, hf, hk, hz⟩ := ecell hS; go_simp; first | done | rfl)); simp only [Act.put, List.setIfInBounds_toArray, List.set_cons_zero, List.set_cons_succ])
      all_goals clear ho0
      all_goals (apply canon_st ho2 rfl; (intro w2 hS; first | (go_simp; first | done | rfl) | rfl | (obtain ⟨hc, hf, hk, hz⟩ := ecell hS; go_simp; first | done | rfl)); simp only [Act.put, List.setIfInBounds_toArray, List.set_cons_zero, List.set_cons_succ])
      all_goals clear ho2
      all_goals (apply canon_st ho3 rfl; (intro w2 hS; first | (go_simp; first | done | rfl) | rfl | (obtain ⟨hc, hf, hk, hz⟩ := ecell hS; go_simp; first | done | rfl)); simp only [Act.put, List.setIfInBounds_toArray, List.set_cons_zero, List.set_cons_succ])
      all_goals clear ho3
      all_goals (apply canon_st ho4 rfl; (intro w2 hS; first | (go_simp; first | done | rfl) | rfl | (obtain ⟨hc, hf, hk, hz⟩ := ecell hS; go_simp; first | done | rfl)); simp only [Act.put, List.setIfInBounds_toArray, List.set_cons_zero, List.set_cons_succ])
      all_goals clear ho4
      all_goals (apply canon_st ho5 rfl; (intro w2 hS; first | (go_simp; first | done | rfl) | rfl | (obtain ⟨hc, hf, hk, hz⟩ := ecell hS; go_simp; first | done | rfl)); simp only [Act.put, List.setIfInBounds_toArray, List.set_cons_zero, List.set_cons_succ])
      all_goals clear ho5
      all_goals (apply canon_st ho6 rfl; (intro w2 hS; first | (go_simp; first | done | rfl) | rfl | (obtain ⟨hc, hf, hk, hz⟩ := ecell hS; go_simp; first | done | rfl)); simp only [Act.put, List.setIfInBounds_toArray, List.set_cons_zero, List.set_cons_succ])
      all_goals clear ho6
      all_goals first | (refine canon_inv ho1 (nthInv Try.f166 0) rfl 255 279 Try.func279 ⟨_, rfl, (by kernel_rfl), (by kernel_rfl), (by kernel_rfl), ?_⟩; simp only [List.map_toArray, List.map_cons, List.map_nil, List.append_toArray, List.cons_append, List.nil_append, Act.eval]; go_simp; (with_reducible refine (pGroup_c m _ HM2.out).mono ?_); rintro e w1 ⟨rfl, hb⟩; (obtain ⟨hc, hf, hk, hz⟩ := ecell hb; try (have hx := Ext.trans2 hb (by assumption); obtain ⟨hcx, hfx, hkx, hzx⟩ := ecell hx)); (try simp at hz); (refine ⟨(by repeat (first | exact Ext.refl _ | assumption | refine Ext.drew ?_ | refine Ext.drewN ?_ _ | refine Ext.iter ?_ _ _ | refine Ext.alloc ?_ _ | refine Ext.setCell ?_ (by first | exact Nat.le_refl _ | (simp <;> omega)) _ | refine Ext.trans2 (by assumption) ?_)), ?_⟩; go_simp))
      all_goals clear ho1
      all_goals (apply canon_st ho7 rfl; (intro w2 hS; first | (go_simp; first | done | rfl) | rfl | (obtain ⟨hc, hf, hk, hz⟩ := ecell hS; go_simp; first | done | rfl)); simp only [Act.put, List.setIfInBounds_toArray, List.set_cons_zero, List.set_cons_succ])
      all_goals clear ho7
      all_goals (apply canon_st ho8 rfl; (intro w2 hS; first | (go_simp; first | done | rfl) | rfl | (obtain ⟨hc, hf, hk, hz⟩ := ecell hS; go_simp; first | done | rfl)); simp only [Act.put, List.setIfInBounds_toArray, List.set_cons_zero, List.set_cons_succ])
      all_goals clear ho8
      all_goals refine canon_done (NoPanic.normal ?_)
      clear e0 hif
      have hxg : Ext wo w1 := ((Ext.refl wo).drew).trans hb
      go_wp2_with fail
      clear hb
      go_loopw [9, 10] (fun v k wr' => ∃ q : Nat, a ≤ q ∧ q ≤ a + n ∧ v = .int .i64 (numF (iBase m) m t a (q - a)) ∧ k = .int .i64 q ∧ Ext wo wr') (fun _ k _ => a + n - (intOf k).toNat)
      case atStart => exact ⟨a, by omega, by omega, by simp [numF], rfl, hxg⟩
      case round =>
        clear hxg hc hf hk hz
        obtain ⟨q, hq1, hq2, rfl, rfl, hext2⟩ := hrel
        generalize hjq : q - a = j at *
        have hj : j ≤ n := by omega
        have HJ := Lib.hid (show a + j = q by omega)
        clear hjq
        have hnb := numF_small hA.out hgb (a := a) (j := j) (by omega) (by omega)
        obtain ⟨hc, hf, hk, hz⟩ := ecell hext2
        by_cases hlt2 : q < a + n
        · have hq3 : q < t.size := by omega
          have hcv := charVal_ok hA.out (show q < t.size by omega)
          have hch := charVal_hi m t q
          rw [byteAt_eq (show q < t.size by omega)] at hcv hch
          have h8 : (t[q]'(by omega)).toNat < 256 := UInt8.toNat_lt _
          have hp0 : 0 ≤ numF (iBase m) m t a j * iBase m := Int.mul_nonneg hnb.1 hgb.1
          have hp1 : numF (iBase m) m t a j * iBase m ≤ 16777216 * 256 := Int.mul_le_mul (by omega) hgb.2 hgb.1 (by omega)
          have hnx : numF (iBase m) m t a (j + 1) = numF (iBase m) m t a j * iBase m + charVal m (t[q]'(by omega)).toNat := by rw [numF, HJ.out, byteAt_eq (show q < t.size by omega)]
          have HN := Lib.hid hnx; clear hnx
          have e1 := IntWalk.i64_in (numF (iBase m) m t a j * iBase m) (by omega)
          have e2 := IntWalk.i64_in (numF (iBase m) m t a j * iBase m + charVal m (t[q]'(by omega)).toNat) (by omega)
          have e3 := wrapByte (t[q]'(by omega))
          have hd1 : (q : Int) < (a : Int) + n := by omega
          go_wp2_with fail
          refine wp_region_canon (fun w' => Ext wr w') [(0, true), (1, true), (4, true), (5, true), (6, true), (7, true), (8, true), (9, true), (10, true), (11, true), (12, true), (2, false), (3, true), (13, false), (14, true), (15, true)] (by kernel_rfl) (by kernel_rfl) (by decide) (by kernel_rfl) ?_ ?_
          · exact (by repeat (first | exact Ext.refl _ | assumption | refine Ext.drew ?_ | refine Ext.drewN ?_ _ | refine Ext.iter ?_ _ _ | refine Ext.alloc ?_ _ | refine Ext.setCell ?_ (by first | exact Nat.le_refl _ | (simp <;> omega)) _ | refine Ext.trans2 (by assumption) ?_))
          refine canon_intro fun ops eo => ?_
          have ho0 := canon_at eo 0 rfl
          have ho1 := canon_at eo 1 rfl
          have ho2 := canon_at eo 2 rfl
          have ho3 := canon_at eo 3 rfl
          have ho4 := canon_at eo 4 rfl
          have ho5 := canon_at eo 5 rfl
          have ho6 := canon_at eo 6 rfl
          have ho7 := canon_at eo 7 rfl
          have ho8 := canon_at eo 8 rfl
          have ho9 := canon_at eo 9 rfl
          have ho10 := canon_at eo 10 rfl
          have ho11 := canon_at eo 11 rfl
          have ho12 := canon_at eo 12 rfl
          have ho13 := canon_at eo 13 rfl
          have ho14 := canon_at eo 14 rfl
          have ho15 := canon_at eo 15 rfl
          clear eo
          all_goals (apply canon_st ho0 rfl; (intro w2 hS; first | (go_simp; first | done | rfl) | rfl | (obtain ⟨hc, hf, hk, hz⟩ := ecell hS; go_simp; first | done | rfl)); simp only [Act.put, List.setIfInBounds_toArray, List.set_cons_zero, List.set_cons_succ])
          all_goals clear ho0
          all_goals (apply canon_st ho1 rfl; (intro w2 hS; first | (go_simp; first | done | rfl) | rfl | (obtain ⟨hc, hf, hk, hz⟩ := ecell hS; go_simp; first | done | rfl)); simp only [Act.put, List.setIfInBounds_toArray, List.set_cons_zero, List.set_cons_succ])
          all_goals clear ho1
          all_goals (apply canon_st ho4 rfl; (intro w2 hS; first | (go_simp; first | done | rfl) | rfl | (obtain ⟨hc, hf, hk, hz⟩ := ecell hS; go_simp; first | done | rfl)); simp only [Act.put, List.setIfInBounds_toArray, List.set_cons_zero, List.set_cons_succ])
          all_goals clear ho4
          all_goals (apply canon_st ho5 rfl; (intro w2 hS; first | (go_simp; first | done | rfl) | rfl | (obtain ⟨hc, hf, hk, hz⟩ := ecell hS; go_simp; first | done | rfl)); simp only [Act.put, List.setIfInBounds_toArray, List.set_cons_zero, List.set_cons_succ])
          all_goals clear ho5
          all_goals (apply canon_st ho6 rfl; (intro w2 hS; first | (go_simp; first | done | rfl) | rfl | (obtain ⟨hc, hf, hk, hz⟩ := ecell hS; go_simp; first | done | rfl)); simp only [Act.put, List.setIfInBounds_toArray, List.set_cons_zero, List.set_cons_succ])
          all_goals clear ho6
          all_goals (apply canon_st ho7 rfl; (intro w2 hS; first | (go_simp; first | done | rfl) | rfl | (obtain ⟨hc, hf, hk, hz⟩ := ecell hS; go_simp; first | done | rfl)); simp only [Act.put, List.setIfInBounds_toArray, List.set_cons_zero, List.set_cons_succ])
          all_goals clear ho7
          all_goals (apply canon_st ho8 rfl; (intro w2 hS; first | (go_simp; first | done | rfl) | rfl | (obtain ⟨hc, hf, hk, hz⟩ := ecell hS; go_simp; first | done | rfl)); simp only [Act.put, List.setIfInBounds_toArray, List.set_cons_zero, List.set_cons_succ])
          all_goals clear ho8
          all_goals (apply canon_st ho9 rfl; (intro w2 hS; first | (go_simp; first | done | rfl) | rfl | (obtain ⟨hc, hf, hk, hz⟩ := ecell hS; go_simp; first | done | rfl)); simp only [Act.put, List.setIfInBounds_toArray, List.set_cons_zero, List.set_cons_succ])
          all_goals clear ho9
          all_goals (apply canon_st ho10 rfl; (intro w2 hS; first | (go_simp; first | done | rfl) | rfl | (obtain ⟨hc, hf, hk, hz⟩ := ecell hS; go_simp; first | done | rfl)); simp only [Act.put, List.setIfInBounds_toArray, List.set_cons_zero, List.set_cons_succ])
          all_goals clear ho10
          all_goals (apply canon_st ho11 rfl; (intro w2 hS; first | (go_simp; first | done | rfl) | rfl | (obtain ⟨hc, hf, hk, hz⟩ := ecell hS; go_simp; first | done | rfl)); simp only [Act.put, List.setIfInBounds_toArray, List.set_cons_zero, List.set_cons_succ])
          all_goals clear ho11
          all_goals (apply canon_st ho12 rfl; (intro w2 hS; first | (go_simp; first | done | rfl) | rfl | (obtain ⟨hc, hf, hk, hz⟩ := ecell hS; go_simp; first | done | rfl)); simp only [Act.put, List.setIfInBounds_toArray, List.set_cons_zero, List.set_cons_succ])
          all_goals clear ho12
          all_goals first | (refine canon_inv ho2 (nthInv Try.f166 1) rfl 255 277 Try.func277 ⟨_, rfl, (by kernel_rfl), (by kernel_rfl), (by kernel_rfl), ?_⟩; simp only [List.map_toArray, List.map_cons, List.map_nil, List.append_toArray, List.cons_append, List.nil_append, Act.eval]; go_simp; (with_reducible refine (pBase_c m _ HM2.out).mono ?_); rintro e w1 ⟨rfl, hb⟩; (obtain ⟨hc, hf, hk, hz⟩ := ecell hb; try (have hx := Ext.trans2 hb (by assumption); obtain ⟨hcx, hfx, hkx, hzx⟩ := ecell hx)); (try simp at hz); (refine ⟨(by repeat (first | exact Ext.refl _ | assumption | refine Ext.drew ?_ | refine Ext.drewN ?_ _ | refine Ext.iter ?_ _ _ | refine Ext.alloc ?_ _ | refine Ext.setCell ?_ (by first | exact Nat.le_refl _ | (simp <;> omega)) _ | refine Ext.trans2 (by assumption) ?_)), ?_⟩; go_simp)) | (refine canon_inv ho2 (nthInv Try.f166 2) rfl 255 280 Try.func280 ⟨_, rfl, (by kernel_rfl), (by kernel_rfl), (by kernel_rfl), ?_⟩; simp only [List.map_toArray, List.map_cons, List.map_nil, List.append_toArray, List.cons_append, List.nil_append, Act.eval]; go_simp; (with_reducible refine (pValue_c m _ _ HM2.out (by omega)).mono ?_); rintro e w1 ⟨rfl, hb⟩; (obtain ⟨hc, hf, hk, hz⟩ := ecell hb; try (have hx := Ext.trans2 hb (by assumption); obtain ⟨hcx, hfx, hkx, hzx⟩ := ecell hx)); (try simp at hz); (refine ⟨(by repeat (first | exact Ext.refl _ | assumption | refine Ext.drew ?_ | refine Ext.drewN ?_ _ | refine Ext.iter ?_ _ _ | refine Ext.alloc ?_ _ | refine Ext.setCell ?_ (by first | exact Nat.le_refl _ | (simp <;> omega)) _ | refine Ext.trans2 (by assumption) ?_)), ?_⟩; go_simp))
          all_goals clear ho2
          all_goals (apply canon_st ho3 rfl; (intro w2 hS; first | (go_simp; first | done | rfl) | rfl | (obtain ⟨hc, hf, hk, hz⟩ := ecell hS; go_simp; first | done | rfl)); simp only [Act.put, List.setIfInBounds_toArray, List.set_cons_zero, List.set_cons_succ])
          all_goals clear ho3
          all_goals first | (refine canon_inv ho13 (nthInv Try.f166 1) rfl 255 277 Try.func277 ⟨_, rfl, (by kernel_rfl), (by kernel_rfl), (by kernel_rfl), ?_⟩; simp only [List.map_toArray, List.map_cons, List.map_nil, List.append_toArray, List.cons_append, List.nil_append, Act.eval]; go_simp; (with_reducible refine (pBase_c m _ HM2.out).mono ?_); rintro e w1 ⟨rfl, hb⟩; (obtain ⟨hc, hf, hk, hz⟩ := ecell hb; try (have hx := Ext.trans2 hb (by assumption); obtain ⟨hcx, hfx, hkx, hzx⟩ := ecell hx)); (try simp at hz); (refine ⟨(by repeat (first | exact Ext.refl _ | assumption | refine Ext.drew ?_ | refine Ext.drewN ?_ _ | refine Ext.iter ?_ _ _ | refine Ext.alloc ?_ _ | refine Ext.setCell ?_ (by first | exact Nat.le_refl _ | (simp <;> omega)) _ | refine Ext.trans2 (by assumption) ?_)), ?_⟩; go_simp)) | (refine canon_inv ho13 (nthInv Try.f166 2) rfl 255 280 Try.func280 ⟨_, rfl, (by kernel_rfl), (by kernel_rfl), (by kernel_rfl), ?_⟩; simp only [List.map_toArray, List.map_cons, List.map_nil, List.append_toArray, List.cons_append, List.nil_append, Act.eval]; go_simp; (with_reducible refine (pValue_c m _ _ HM2.out (by omega)).mono ?_); rintro e w1 ⟨rfl, hb⟩; (obtain ⟨hc, hf, hk, hz⟩ := ecell hb; try (have hx := Ext.trans2 hb (by assumption); obtain ⟨hcx, hfx, hkx, hzx⟩ := ecell hx)); (try simp at hz); (refine ⟨(by repeat (first | exact Ext.refl _ | assumption | refine Ext.drew ?_ | refine Ext.drewN ?_ _ | refine Ext.iter ?_ _ _ | refine Ext.alloc ?_ _ | refine Ext.setCell ?_ (by first | exact Nat.le_refl _ | (simp <;> omega)) _ | refine Ext.trans2 (by assumption) ?_)), ?_⟩; go_simp))
          all_goals clear ho13
          all_goals (apply canon_st ho14 rfl; (intro w2 hS; first | (go_simp; first | done | rfl) | rfl | (obtain ⟨hc, hf, hk, hz⟩ := ecell hS; go_simp; first | done | rfl)); simp only [Act.put, List.setIfInBounds_toArray, List.set_cons_zero, List.set_cons_succ])
          all_goals clear ho14
          all_goals (apply canon_st ho15 rfl; (intro w2 hS; first | (go_simp; first | done | rfl) | rfl | (obtain ⟨hc, hf, hk, hz⟩ := ecell hS; go_simp; first | done | rfl)); simp only [Act.put, List.setIfInBounds_toArray, List.set_cons_zero, List.set_cons_succ])
          all_goals clear ho15
          all_goals refine canon_done (NoPanic.normal ?_)
          clear e1 e2 e3
          go_wp2_with fail
          go_roundw
          case rel => exact ⟨q + 1, by omega, by omega, by rw [show q + 1 - a = j + 1 by have := HJ.out; omega, HN.out], by go_num, (by repeat (first | exact Ext.refl _ | assumption | refine Ext.drew ?_ | refine Ext.drewN ?_ _ | refine Ext.iter ?_ _ _ | refine Ext.alloc ?_ _ | refine Ext.setCell ?_ (by first | exact Nat.le_refl _ | (simp <;> omega)) _ | refine Ext.trans2 (by assumption) ?_))⟩
          case measure => simp [intOf]; omega
        · obtain rfl : j = n := by have := HJ.out; omega
          have hd1 : ¬ (q : Int) < (a : Int) + j := by omega
          skip
          have hown2 := hown.ext hext2
          have hwd := wid_bd m j
          have hBw : B ≤ wr.heap.size := by omega
          have hyl : (xs ++ acc).length ≤ 1000000 := by simp; omega
          have ej := IntWalk.i64_in ((j : Int)) (by omega)
          go_wp2_with (first
            | ((with_reducible refine wpList_invoke_of (nthInv Try.f166 3) ?_ 255 281 Try.func281 ?_); rfl; refine ⟨_, rfl, (by kernel_rfl), (by kernel_rfl), (by kernel_rfl), ?_⟩; simp only [List.map_toArray, List.map_cons, List.map_nil, List.append_toArray, List.cons_append, List.nil_append, Act.eval]; go_simp)
            | (go_at_call 281; (with_reducible refine (pWidth_c m _ _ HM2.out).mono ?_); rintro e w4 ⟨rfl, hb4⟩; have hown3 := hown2.ext hb4; have hB4 : B ≤ w4.heap.size := (by have := hb4.below.size; omega))
            | (go_at_call 88; (with_reducible refine (iAppendNumber_c B _ _ _ _ _ hown3 hB4 hyl (by omega) (by omega)).mono ?_); rintro e w5 ⟨v5, rfl, hown5, hG5⟩))
          have hGx := (hGr.trans (Grew.ext (hext2.trans hb4))).trans hG5
          refine ⟨⟨a + j, f', acc ++ bitsOf (numF (iBase m) m t a j) (wid m j), by go_num, by omega, by omega, ?_, ?_, Lib.hid ?_, hGx⟩, by simp [intOf]; omega⟩
          · simp [bitsOf_len]; omega
          · rw [← List.append_assoc]
            exact hown5
          · have := HT2.out
            rwa [← List.append_assoc] at this
    · have hd0 : ¬ (a : Int) < t.size := by omega
      have := hT.out
      rw [rB_end _ _ _ _ (by omega), List.append_nil] at this
      rw [this] at hown
      go_wp2
      go_ret
      exact ⟨_, rfl, hown, (Grew.ext hx1).trans hGr⟩
end Go.Proofs.Ytbnpdpmbbppnhaa
