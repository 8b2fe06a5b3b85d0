
/- How the program reads a segment. -/
import Derived.Test.YtbnpdpmbbppnhaaReadSeg
import Derived.Test.YtbnpdpmbbppnhaaBytes
import Derived.Test.YtbnpdpmbbppnhaaSegMath3
/-! How the program reads a segment. -/
namespace Go.Proofs.Ytbnpdpmbbppnhaa
set_option linter.unusedVariables false
set_option linter.unusedSimpArgs false
open Go.RowKit

def chr (m v : Int) : UInt8 := if m = 4 then UInt8.ofNat v.toNat else (modeSet m).data.toList.getD v.toNat 0
/-- g divided j times by b. -/
def gq (g b : Int) : Nat → Int
  | 0 => g
  | j + 1 => gq g b j / b
theorem gq_bd {g b : Int} (hg : 0 ≤ g ∧ g ≤ 1099511627776) (hb : 1 ≤ b) : ∀ j, 0 ≤ gq g b j ∧ gq g b j ≤ 1099511627776 := by
  intro j
  induction j with
  | zero => exact hg
  | succ j ih =>
    have h1 : 0 ≤ gq g b j / b := Int.ediv_nonneg ih.1 (by omega)
    have h2 : gq g b j / b ≤ gq g b j := Int.ediv_le_self _ ih.1
    simp only [gq]
    omega
/-- The bytes of a group of n. -/
def dig (m g : Int) (n : Nat) : List UInt8 := (List.range n).map fun i => chr m (gq g (iBase m) (n - 1 - i) % iBase m)
theorem dig_len (m g : Int) (n : Nat) : (dig m g n).length = n := by simp [dig]
/-- The groups from the bit a on, for c bytes. -/
def rdG (m : Int) (xs : List Int) : Nat → Nat → Nat → Option (ByteArray × Nat)
  | 0, a, c => if c = 0 then some (ByteArray.empty, a) else none
  | f + 1, a, c => if c = 0 then some (ByteArray.empty, a) else
    if 0 < gq (numAt xs a (wid m (min (grp m).toNat c : Nat)).toNat) (iBase m) (min (grp m).toNat c) then none
    else (rdG m xs f (a + (wid m (min (grp m).toNat c : Nat)).toNat) (c - min (grp m).toNat c)).map fun r => (⟨(dig m (numAt xs a (wid m (min (grp m).toNat c : Nat)).toNat) (min (grp m).toNat c)).toArray⟩ ++ r.1, r.2)
theorem rdG_zero (m : Int) (xs : List Int) (f a : Nat) : rdG m xs f a 0 = some (ByteArray.empty, a) := by
  cases f <;> rfl
/-- A segment that is written from the bit a on. -/
def rdS (xs : List Int) (a : Nat) : Option (Int × ByteArray × Nat) :=
  if xs.length < a + 11 then none
  else if ¬ (1 ≤ numAt xs a 3 ∧ numAt xs a 3 ≤ 4) ∨ numAt xs (a + 3) 8 = 0 ∨ (xs.length : Int) < a + 11 + textW (numAt xs a 3) (numAt xs (a + 3) 8) then none
  else (rdG (numAt xs a 3) xs (numAt xs (a + 3) 8).toNat (a + 11) (numAt xs (a + 3) 8).toNat).map fun r => (numAt xs a 3, r.1, r.2)

theorem iBase_pos (m : Int) : 1 ≤ iBase m := by
  unfold iBase
  (repeat' split) <;> omega
theorem iBase_size {m : Int} (hm : 1 ≤ m ∧ m ≤ 3) : ((modeSet m).size : Int) = iBase m := by
  have : m = 1 ∨ m = 2 ∨ m = 3 := by omega
  rcases this with rfl | rfl | rfl <;> rfl
theorem lChar_c (m v : Int) (p : Option Addr) (n c : Nat) (w : World) (hm : 1 ≤ m ∧ m ≤ 3) (hv : 0 ≤ v ∧ v < iBase m) :
    Calls Try.prog 273 #[.agg #[.string (modeSet m), .slice p n c], .int .i64 v] w fun e w' => e = .returned (.int .u8 (chr m v).toNat) ∧ Ext w w' := by
  have hs := modeSet_size m
  have hz := iBase_size hm
  obtain ⟨k, rfl⟩ : ∃ k : Nat, v = k := ⟨v.toNat, by omega⟩
  have hk : k < (modeSet m).size := by omega
  have hc : chr m (k : Int) = (modeSet m)[k]'hk := by
    unfold chr
    rw [if_neg (by omega), Int.toNat_natCast, List.getD_eq_getElem?_getD, List.getElem?_eq_getElem (by simpa using hk)]
    exact bget _ k hk
  rw [hc]
  clear hc hz
  generalize modeSet m = S at *
  go_enter Try.func273, Try.ntmps273
  go_wp2
  go_ret
  exact ⟨rfl, (by repeat (first | exact Ext.refl _ | assumption | refine Ext.drew ?_ | refine Ext.drewN ?_ _ | refine Ext.iter ?_ _ _ | refine Ext.alloc ?_ _ | refine Ext.setCell ?_ (by first | exact Nat.le_refl _ | (simp <;> omega)) _ | refine Ext.trans2 (by assumption) ?_))⟩
theorem pChar_c (m v : Int) (w : World) (hm : m = 4) (hv : 0 ≤ v ∧ v < 256) :
    Calls Try.prog 278 #[.agg #[], .int .i64 v] w fun e w' => e = .returned (.int .u8 (chr m v).toNat) ∧ Ext w w' := by
  have hc : ((chr m v).toNat : Int) = v := by
    unfold chr
    rw [if_pos hm, UInt8.toNat_ofNat_of_lt' (show v.toNat < 256 by omega), Int.toNat_of_nonneg hv.1]
  rw [hc]
  clear hc hm
  go_enter Try.func278, Try.ntmps278
  go_wp2
  go_ret
  exact ⟨rfl, (by repeat (first | exact Ext.refl _ | assumption | refine Ext.drew ?_ | refine Ext.drewN ?_ _ | refine Ext.iter ?_ _ _ | refine Ext.alloc ?_ _ | refine Ext.setCell ?_ (by first | exact Nat.le_refl _ | (simp <;> omega)) _ | refine Ext.trans2 (by assumption) ?_))⟩

/-- The last j bytes of a group stand in the cells. -/
def PTab (m g : Int) (n : Nat) (cs : Array Value) (j : Nat) : Prop := cs.size = n ∧ ∀ q, q < n → n ≤ q + j → cs[q]? = some (.int .u8 (chr m (gq g (iBase m) (n - 1 - q) % iBase m)).toNat)
theorem PTab.step {m g : Int} {n : Nat} {cs : Array Value} {j : Nat} (h : PTab m g n cs j) (hj : j < n) : PTab m g n (cs.setIfInBounds (n - 1 - j) (.int .u8 (chr m (gq g (iBase m) j % iBase m)).toNat)) (j + 1) := by
  refine ⟨by simpa using h.1, fun q h1 h2 => ?_⟩
  by_cases e : q = n - 1 - j
  · subst e
    rw [Array.getElem?_setIfInBounds_self_of_lt (by rw [h.1]; omega), show n - 1 - (n - 1 - j) = j by omega]
  · rw [Array.getElem?_setIfInBounds_ne (by omega)]
    exact h.2 q h1 (by omega)
theorem PTab.all {m g : Int} {n : Nat} {cs : Array Value} (h : PTab m g n cs n) : cs.toList = Lib.strCells ⟨(dig m g n).toArray⟩ := by
  apply List.ext_getElem?
  intro q
  by_cases hq : q < n
  · have := h.2 q hq (by omega)
    rw [Array.getElem?_toList, this]
    simp [Lib.strCells, dig, hq]
  · rw [List.getElem?_eq_none (by rw [Array.length_toList, h.1]; omega), List.getElem?_eq_none (by simp [Lib.strCells, dig]; omega)]
end Go.Proofs.Ytbnpdpmbbppnhaa

/-! The walk of readSegment. -/
namespace Go.Proofs.Ytbnpdpmbbppnhaa
set_option linter.unusedVariables false
set_option linter.unusedSimpArgs false
open Go.RowKit

section
variable {ops : Array Oper} {Q : Exit → Act → World → Prop} {rest : List Oper} {a : Act} {dst : Option Tmp} {s x : Operand} {ty : TypeId} {pos : String} {after : Array Edge} {B : Nat} {w0 : World} {v : Value} {xs : ByteArray}
theorem appendBB {t : ByteArray} {g c : Nat} {cs : Array Value} (hown : RowB B w0 v xs) (hb : Blk w0 g cs 5) (hcs : cs.toList = Lib.strCells t) (hlen : xs.size + t.size < 1099511627776) (hB : B ≤ w0.heap.size)
    (h : ∀ v' w', RowB B w' v' (xs ++ t) → Below B w0 w' → wpList Try.prog ops Q rest (a.put dst v') w') (hs : a.eval s = v) (n : Nat) (hn : t.size = n) (hx : a.eval x = .slice (some ⟨g, 0, none⟩) n c) :
    wpList Try.prog ops Q (⟨dst, .call { callee := .builtin .append, args := #[s, x], argTypes := #[22, 22] }, ty, pos, after, none⟩ :: rest) a w0 := by
  subst hn
  obtain ⟨i0, hi, hz0, hz1, hz2⟩ := info_parts infoByte
  refine wpList_append_own _ rfl s x 22 rfl B 5 i0 (.int .u8 0) 1 1 Try.underlying22 hi hz0 hz1 hz2 rfl (by decide) v xs.size (Lib.strCells xs) hs hown ⟨g, 0, none⟩ t.size c (Lib.strCells t) hx (by rw [Lib.strCells_length, Nat.mul_one]) ?_ (Lib.strCells_oneCell t) (by unfold maxLen; omega) (by omega) hB ?_
  · intro j u hj
    rw [addr_add, Nat.zero_add]
    refine hb.cell ?_
    rw [← Array.getElem?_toList, hcs]
    exact hj
  · intro v' w' h1 h2 _
    refine h v' w' ?_ ?_
    · unfold RowB
      rw [strCells_append, ByteArray.size_append]
      exact h1
    · exact Below.grown (Below.refl B w0) h2 hB (fun k hk => (hown.lt k hk).1)
end

theorem make_cap {ops : Array Oper} {rest : List Oper} {dst : Option Tmp} {ty : TypeId} {pos : String} {after : Array Edge} {a : Act} {w : World} {Q : Exit → Act → World → Prop} {t e : TypeId} {z : Value} {size bytes : Nat} {l c : Operand}
    (ht : Try.prog.underlying t = some (.slice e)) (hinfo : (Try.prog.info? e).map (fun i => (i.zero, i.size, i.bytes)) = some (some z, size, bytes)) (n : Nat)
    (hl : a.eval l = .int .i64 0) (hc : a.eval c = .int .i64 n) (hb : bytes * n ≤ 281474976710656) (hn : n ≤ 281474976710656)
    (h : wpList Try.prog ops Q rest (a.put dst (.slice (some ⟨w.heap.size, 0, none⟩) 0 n)) (w.alloc (.cells (madeCells z.cells (n * size)) e))) :
    wpList Try.prog ops Q (⟨dst, .makeSlice t l c, ty, pos, after, none⟩ :: rest) a w := by
  obtain ⟨i, hi, hzz⟩ := Option.map_eq_some_iff.1 hinfo
  simp only [Prod.mk.injEq] at hzz
  obtain ⟨hz, hs, hb'⟩ := hzz
  subst hs
  refine wpList_plain rfl fun K hK' => ?_
  have hb2 : (i.bytes : Int) * (n : Int) ≤ 281474976710656 := by
    have h : ((i.bytes * n : Nat) : Int) ≤ 281474976710656 := by rw [hb']; omega
    rwa [Int.natCast_mul] at h
  have hr := run_make (P := Try.prog) w t e i z ht hi hz .i64 .i64 0 n (by omega) (by omega) hb2 (by omega)
  simp only [Int.toNat_natCast] at hr
  unfold Oper.wp
  simp [execOp, hl, hc, hr, Result.andThen]
  exact hK' _ _ h

/-- The answer of readSegment. -/
def rdR (xs : List Int) (a : Nat) (e : Ending) : Prop :=
  (∃ (m : Int) (t : ByteArray) (b : Nat), rdS xs a = some (m, t, b) ∧ e = .returned (.tuple #[vSeg m t, .int .i64 b, .bool true])) ∨ (rdS xs a = none ∧ e = .returned (.tuple #[vSeg 0 ⟨#[]⟩, .int .i64 0, .bool false]))

set_option maxRecDepth 100000 in
theorem readSegment1_c (p : Option Addr) (c : Nat) (xs : List Int) (a : Nat) (w : World) (hx : IntsAt w p xs) (hc : xs.length ≤ c) (hl : xs.length ≤ 1048576) (hb : ∀ x ∈ xs, x = 0 ∨ x = 1) (ha : a ≤ xs.length)
    (hn : rdS xs a = none) (hs : xs.length < a + 11) :
    Calls Try.prog 157 #[.slice p xs.length c, .int .i64 a] w fun e w' => rdR xs a e ∧ Ext w w' := by
  have HN := Lib.hid hn; clear hn
  have hd : (xs.length : Int) < a + 3 + 8 := by omega
  go_enter Try.func157, Try.ntmps157
  go_wp2
  exact bodyPost_ret (v := .tuple #[vSeg 0 ⟨#[]⟩, .int .i64 0, .bool false]) (by simp [results, Try.results157, go_sem]) rfl ⟨.inr ⟨HN.out, rfl⟩, (by repeat (first | exact Ext.refl _ | assumption | refine Ext.drew ?_ | refine Ext.drewN ?_ _ | refine Ext.iter ?_ _ _ | refine Ext.alloc ?_ _ | refine Ext.setCell ?_ (by first | exact Nat.le_refl _ | (simp <;> omega)) _ | refine Ext.trans2 (by assumption) ?_))⟩

set_option maxHeartbeats 1600000 in
set_option maxRecDepth 100000 in
theorem readSegmentM1_c (p : Option Addr) (c : Nat) (xs : List Int) (a : Nat) (w : World) (hx : IntsAt w p xs) (hc : xs.length ≤ c) (hl : xs.length ≤ 1048576) (hb : ∀ x ∈ xs, x = 0 ∨ x = 1) (ha : a + 11 ≤ xs.length)
    (h0 : numAt xs (a + 3) 8 ≠ 0) (ht : (a : Int) + 11 + textW (numAt xs a 3) (numAt xs (a + 3) 8) ≤ xs.length) (hm : 1 ≤ numAt xs a 3 ∧ numAt xs a 3 ≤ 3) :
    Calls Try.prog 157 #[.slice p xs.length c, .int .i64 a] w fun e w' => rdR xs a e ∧ Ext w w' := by
  have b1 := numAt_bd hb a 3 (by omega)
  have b2 := numAt_bd hb (a + 3) 8 (by omega)
  have htw := textW_bd (numAt xs a 3) (numAt xs (a + 3) 8) (by omega)
  have HX := Lib.hid hx; have HB := Lib.hid hb; clear hx hb
  have n1 : ∀ W, IntsAt W p xs → Calls Try.prog 100 #[.slice p xs.length c, .int .i64 a, .int .i64 3] W fun e w' => e = .returned (.int .i64 (numAt xs a 3)) ∧ W = w' := fun W h => numberAt_c p c xs a 3 W h hc hl HB.out (by omega) (by omega)
  have n2 : ∀ W, IntsAt W p xs → Calls Try.prog 100 #[.slice p xs.length c, .int .i64 ((a : Int) + 3), .int .i64 8] W fun e w' => e = .returned (.int .i64 (numAt xs (a + 3) 8)) ∧ W = w' := fun W h => numberAt_c p c xs (a + 3) 8 W h hc hl HB.out (by omega) (by omega)
  have N1 := Lib.hid n1; have N2 := Lib.hid n2; clear n1 n2
  have hSS : rdS xs a = (rdG (numAt xs a 3) xs (numAt xs (a + 3) 8).toNat (a + 11) (numAt xs (a + 3) 8).toNat).map fun r => (numAt xs a 3, r.1, r.2) := by
    have hm' := hm
    unfold rdS
    rw [if_neg (by omega), if_neg (by omega)]
  generalize hme : numAt xs a 3 = m at *
  generalize hce : numAt xs (a + 3) 8 = cI at *
  obtain ⟨cn, rfl⟩ : ∃ cn : Nat, cI = cn := ⟨cI.toNat, by omega⟩
  have hc0 : ((cn : Int) == 0) = false := by simpa using h0
  have hcp : 1 ≤ cn := by omega
  clear h0
  rw [Int.toNat_natCast] at hSS
  replace hSS := Lib.hid hSS
  have HME := Lib.hid hme; have HCE := Lib.hid hce; clear hme hce
  have hI1 : Try.prog.underlying 22 = some (.slice 5) := by kernel_rfl
  have hI2 := infoByte
  have hna : ∀ (S : ByteArray) (p : Option Addr) (n : Nat) w, (nilAhead 379 253 (.agg #[.string S, .slice p n n]) (nthInv Try.f157 4)).run Try.prog w = .ok (some false) w := fun S p n w => by kernel_rfl
  conv at hna => intro S p n w; lhs; arg 2; arg 4; whnf
  have hme : ∀ (S : ByteArray) (p : Option Addr) (n : Nat) w, (method 379 253 (.agg #[.string S, .slice p n n]) (nthInv Try.f157 4)).run Try.prog w = .ok (273, (.agg #[.string S, .slice p n n])) w := fun S p n w => by kernel_rfl
  conv at hme => intro S p n w; lhs; arg 2; arg 4; whnf
  go_enter Try.func157, Try.ntmps157
  go_wp2_with (first
    | (at_make; go_loud (refine make_cap hI1 hI2 cn rfl rfl (by omega) (by omega) ?_))
    | (go_at_call 100; (with_reducible refine (N1.out _ (HX.out.ext (by repeat (first | exact Ext.refl _ | assumption | refine Ext.drew ?_ | refine Ext.drewN ?_ _ | refine Ext.iter ?_ _ _ | refine Ext.alloc ?_ _ | refine Ext.setCell ?_ (by first | exact Nat.le_refl _ | (simp <;> omega)) _ | refine Ext.trans2 (by assumption) ?_)))).mono ?_); rintro e w1 ⟨rfl, rfl⟩)
    | (go_at_call 100; (with_reducible refine (N2.out _ (HX.out.ext (by repeat (first | exact Ext.refl _ | assumption | refine Ext.drew ?_ | refine Ext.drewN ?_ _ | refine Ext.iter ?_ _ _ | refine Ext.alloc ?_ _ | refine Ext.setCell ?_ (by first | exact Nat.le_refl _ | (simp <;> omega)) _ | refine Ext.trans2 (by assumption) ?_)))).mono ?_); rintro e w1 ⟨rfl, rfl⟩)
    | (go_at_call 206; (with_reducible refine (modeOfB_c _ _).mono ?_); rintro e wm ⟨⟨vm, ⟨h4, rfl⟩ | ⟨h4, rfl⟩, hvm⟩, hb1⟩ <;> go_prune; obtain ⟨hc1, hf1, hk1, hz1⟩ := ecell hb1; simp at hz1; have hvm0 := Lib.hid (show ModeV wm m vm from hvm.1); replace hvm := Lib.hid hvm)
    | (go_at_call 207; (with_reducible refine (iTextWidth_c m cn _ _ (by omega) hvm0.out (by omega)).mono ?_); rintro e w2 ⟨rfl, hb2⟩))
  have hx2 : Ext w w2 := ((((Ext.refl w).alloc _).trans hb1).trans hb2)
  have hrb := ((Blk.new w #[.int .i64 0, .string ⟨#[]⟩] 107).ext hb1).ext hb2
  have hvm2 := hvm0.out.ext hb2
  have hI3 := hI1; have hI4 := hI2
  clear hI1 hI2 hc1 hf1 hk1 hz1
  rcases hvm2 with ⟨hm3, p1, k1, rfl, hnn, hi1⟩ | ⟨hm3, rfl⟩ <;> first | (exfalso; omega) | skip; have HMN := Lib.hid hnn; have HMI1 := Lib.hid hi1; clear hnn hi1
  have hrow := RowB.room (B := w2.heap.size) (w := w2) (Nat.le_refl _) #[.int .u8 0] cn rfl (by unfold maxLen; omega)
  have HR := Lib.hid (show (rdG m xs cn (a + 11) cn).map (fun r => (ByteArray.empty ++ r.1, r.2)) = rdG m xs cn (a + 11) cn by
    cases rdG m xs cn (a + 11) cn with
    | none => rfl
    | some r => simp)
  go_loopw [1, 9, 12] (fun at_ ct tx wr => ∃ (a' c' f : Nat) (acc : ByteArray), at_ = .int .i64 a' ∧ ct = .int .i64 c' ∧ c' ≤ f ∧ acc.size + c' ≤ 255 ∧ (a' : Int) + textW m c' ≤ xs.length ∧ RowB w2.heap.size wr tx acc ∧ Ext w2 wr ∧ Hid ((rdG m xs f a' c').map (fun r => (acc ++ r.1, r.2)) = rdG m xs cn (a + 11) cn)) (fun _ ct _ _ => (intOf ct).toNat)
  case atStart => exact ⟨a + 11, cn, cn, ByteArray.empty, by go_num, rfl, Nat.le_refl _, by show 0 + cn ≤ 255; omega, by go_num, hrow, (by repeat (first | exact Ext.refl _ | assumption | refine Ext.drew ?_ | refine Ext.drewN ?_ _ | refine Ext.iter ?_ _ _ | refine Ext.alloc ?_ _ | refine Ext.setCell ?_ (by first | exact Nat.le_refl _ | (simp <;> omega)) _ | refine Ext.trans2 (by assumption) ?_)), HR⟩
  case round =>
    clear hrow HR
    obtain ⟨a', c', f, acc, rfl, rfl, hcf, hac, hal, hown, hext, hR⟩ := hrel
    obtain ⟨wo, rfl⟩ : ∃ wo : World, wo = wr := ⟨_, rfl⟩
    have hxo := hx2.trans hext
    by_cases hlt : 0 < c'
    · have hd : 0 < (c' : Int) := by omega
      have hg := grp_bd m
      obtain ⟨f', rfl⟩ : ∃ f', f = f' + 1 := ⟨f - 1, by omega⟩
      have hif : (if (c' : Int) < grp m then (c' : Int) else grp m) = ((min (grp m).toNat c' : Nat) : Int) := by split <;> omega
      have hmin : min (grp m) (c' : Int) = ((min (grp m).toNat c' : Nat) : Int) := by omega
      have hn1 : 1 ≤ min (grp m).toNat c' ∧ min (grp m).toNat c' ≤ 3 ∧ min (grp m).toNat c' ≤ c' ∧ min (grp m).toNat c' ≤ (grp m).toNat := by omega
      have hR2 := hR.out
      rw [rdG, if_neg (by omega)] at hR2
      have hstep : textW m c' = wid m (min (grp m).toNat c' : Nat) + textW m ((c' - min (grp m).toNat c' : Nat) : Int) := by
        by_cases e : (grp m).toNat ≤ c'
        · rw [Nat.min_eq_left e, textW_step (by omega) e, Int.toNat_of_nonneg (by omega)]
        · rw [Nat.min_eq_right (by omega), Nat.sub_self, textW_last (by omega) (by omega) (by omega)]
          simp [textW]
      generalize hge : min (grp m).toNat c' = n at *
      have hwd := wid_bd m n
      have hwp : 1 ≤ wid m n := by
        have : m = 1 ∨ m = 2 ∨ m = 3 ∨ m = 4 := by omega
        have hg1 : (grp 1).toNat = 3 := rfl
        have hg2 : (grp 2).toNat = 2 := rfl
        unfold wid
        rcases this with rfl | rfl | rfl | rfl <;> (repeat' split) <;> omega
      have htr := textW_bd m ((c' - n : Nat) : Int) (by omega)
      obtain ⟨wd, hwde⟩ : ∃ wd : Nat, wid m n = wd := ⟨(wid m n).toNat, by omega⟩
      have hnb := numAt_bd HB.out a' wd (by omega)
      have hN := Lib.hid (show ∀ W, IntsAt W p xs → Calls Try.prog 100 #[.slice p xs.length c, .int .i64 a', .int .i64 wd] W fun e w' => e = .returned (.int .i64 (numAt xs a' wd)) ∧ W = w' from fun W h => numberAt_c p c xs a' wd W h hc hl HB.out (by omega) (by omega))
      rw [hwde, Int.toNat_natCast] at hR2
      have hg40 : numAt xs a' wd ≤ 1099511627776 := by
        have h40 : 2 ^ wd ≤ 2 ^ 40 := Nat.pow_le_pow_right (by omega) (by omega)
        have e : ((2 ^ wd : Nat) : Int) = (2 : Int) ^ wd := by simp
        omega
      have hgn0 := hnb.1
      generalize numAt xs a' wd = G at *
      have HR2 := Lib.hid hR2; have HST := Lib.hid hstep; have HWD := Lib.hid hwde
      have hst2 : textW m c' = wd + textW m ((c' - n : Nat) : Int) := by rw [hstep, hwde]
      have hal2 : (a' : Int) + wd + textW m ((c' - n : Nat) : Int) ≤ xs.length := by omega
      clear hR2 hR hstep hst2 hge hnb
      rw [hwde] at hwd hwp
      clear hwde
      have HMI := Lib.hid (HMI1.out.ext hext)
      go_wp2_with (first
        | ((with_reducible refine wpList_invoke_of (nthInv Try.f157 0) ?_ 253 274 Try.func274 ?_); rfl; refine ⟨_, rfl, (by kernel_rfl), (by kernel_rfl), (by kernel_rfl), ?_⟩; simp only [List.map_toArray, List.map_cons, List.map_nil, List.append_toArray, List.cons_append, List.nil_append, Act.eval]; go_simp)
        | (go_at_call 274; (with_reducible refine (lGroup_c m _ _ _ _ _ hm3 HMN.out).mono ?_); rintro e w3 ⟨rfl, hb3⟩)
        | ((with_reducible refine wpList_invoke_of (nthInv Try.f157 1) ?_ 253 276 Try.func276 ?_); rfl; refine ⟨_, rfl, (by kernel_rfl), (by kernel_rfl), (by kernel_rfl), ?_⟩; simp only [List.map_toArray, List.map_cons, List.map_nil, List.append_toArray, List.cons_append, List.nil_append, Act.eval]; go_simp)
        | (go_at_call 276; (with_reducible refine (lWidth_c m n _ _ _ _ _ hm3 HMN.out (HMI.out.ext (by repeat (first | exact Ext.refl _ | assumption | refine Ext.drew ?_ | refine Ext.drewN ?_ _ | refine Ext.iter ?_ _ _ | refine Ext.alloc ?_ _ | refine Ext.setCell ?_ (by first | exact Nat.le_refl _ | (simp <;> omega)) _ | refine Ext.trans2 (by assumption) ?_))) (by omega)).mono ?_); rw [HWD.out]; rintro e w4 ⟨rfl, hb4⟩)
        | (go_at_call 100; (with_reducible refine (hN.out _ (HX.out.ext (by repeat (first | exact Ext.refl _ | assumption | refine Ext.drew ?_ | refine Ext.drewN ?_ _ | refine Ext.iter ?_ _ _ | refine Ext.alloc ?_ _ | refine Ext.setCell ?_ (by first | exact Nat.le_refl _ | (simp <;> omega)) _ | refine Ext.trans2 (by assumption) ?_)))).mono ?_); rintro e w5 ⟨rfl, rfl⟩)
        | (at_make; go_loud (refine make_blk hI3 hI4 n rfl rfl (by omega) (by omega) ?_)))
      have hx4 : Ext wo w4 := (by repeat (first | exact Ext.refl _ | assumption | refine Ext.drew ?_ | refine Ext.drewN ?_ _ | refine Ext.iter ?_ _ _ | refine Ext.alloc ?_ _ | refine Ext.setCell ?_ (by first | exact Nat.le_refl _ | (simp <;> omega)) _ | refine Ext.trans2 (by assumption) ?_))
      have hpb := Blk.new w4 (madeCells #[.int .u8 0] n) 5
      have hown4 := (hown.ext hx4).alloc (.cells (madeCells #[.int .u8 0] n) 5)
      have hbp := iBase_pos m
      have hbd := iBase_bd m
      have hgb := fun j => gq_bd (g := G) (b := iBase m) ⟨hgn0, hg40⟩ hbp j
      have HGB := Lib.hid hgb; clear hgb
      clear hif hmin
      go_loopw [14, 16] (fun gg i wr => ∃ (j : Nat) (cs : Array Value), j ≤ n ∧ gg = .int .i64 (gq G (iBase m) j) ∧ i = .int .i64 ((n : Int) - 1 - j) ∧ Blk wr w4.heap.size cs 5 ∧ Hid (PTab m G n cs j) ∧ Ext w4 wr) (fun _ i _ => (intOf i + 1).toNat)
      case atStart => exact ⟨0, _, Nat.zero_le _, rfl, by go_num, hpb, Lib.hid ⟨size_madeCells _ _, fun q h1 h2 => by omega⟩, (by repeat (first | exact Ext.refl _ | assumption | refine Ext.drew ?_ | refine Ext.drewN ?_ _ | refine Ext.iter ?_ _ _ | refine Ext.alloc ?_ _ | refine Ext.setCell ?_ (by first | exact Nat.le_refl _ | (simp <;> omega)) _ | refine Ext.trans2 (by assumption) ?_))⟩
      case round =>
        clear hpb
        obtain ⟨j, cs, hj, rfl, rfl, hpb, hT, hext2⟩ := hrel
        have hgj := HGB.out j
        by_cases hjl : j < n
        · have hT2 := Lib.hid (hT.out.step hjl)
          have hmod : 0 ≤ gq G (iBase m) j % iBase m ∧ gq G (iBase m) j % iBase m < iBase m := ⟨Int.emod_nonneg _ (by omega), Int.emod_lt_of_pos _ (by omega)⟩
          have e1 : (gq G (iBase m) j).tmod (iBase m) = gq G (iBase m) j % iBase m := Int.tmod_eq_emod_of_nonneg hgj.1
          have hne0 : ¬ iBase m = 0 := by omega
          have hdv := Lib.hid (show gq G (iBase m) (j + 1) = gq G (iBase m) j / iBase m from rfl)
          generalize gq G (iBase m) j = gj at *
          have hd1 : (j : Int) ≤ (n : Int) - 1 := by omega
          have hd2 : (n : Int) - 1 - j < n := by omega
          obtain ⟨z0, hz0⟩ : ∃ v, cs[n - 1 - j]? = some v := ⟨_, Array.getElem?_eq_getElem (by rw [hT.out.1]; omega)⟩
          have q0 := hpb.cell hz0
          have q1 := hpb.lt
          have q2 := hpb.free
          have hpos : 0 < iBase m := by omega
          go_wp2_with fail
          refine wp_region_canon (fun w' => Ext w4 w') [(0, true), (1, true), (2, true), (3, true), (4, true), (7, true), (8, true), (9, true), (5, false), (6, true), (10, false), (11, true), (12, false)] (by kernel_rfl) (by kernel_rfl) (by decide) (by kernel_rfl) ?_ ?_
          · exact (by repeat (first | exact Ext.refl _ | assumption | refine Ext.drew ?_ | refine Ext.drewN ?_ _ | refine Ext.iter ?_ _ _ | refine Ext.alloc ?_ _ | refine Ext.setCell ?_ (by first | exact Nat.le_refl _ | (simp <;> omega)) _ | refine Ext.trans2 (by assumption) ?_))
          refine canon_intro fun ops eo => ?_
          have ho0 := canon_at eo 0 rfl
          have ho1 := canon_at eo 1 rfl
          have ho2 := canon_at eo 2 rfl
          have ho3 := canon_at eo 3 rfl
          have ho4 := canon_at eo 4 rfl
          have ho5 := canon_at eo 5 rfl
          have ho6 := canon_at eo 6 rfl
          have ho7 := canon_at eo 7 rfl
          have ho8 := canon_at eo 8 rfl
          have ho9 := canon_at eo 9 rfl
          have ho10 := canon_at eo 10 rfl
          have ho11 := canon_at eo 11 rfl
          have ho12 := canon_at eo 12 rfl
          clear eo
          all_goals (apply canon_st ho0 rfl; (intro w2 hS; first | (go_simp; first | done | rfl) | rfl | (obtain ⟨hc, hf, hk, hz⟩ := ecell hS; go_simp; first | done | rfl)); simp only [Act.put, List.setIfInBounds_toArray, List.set_cons_zero, List.set_cons_succ])
          all_goals clear ho0
          all_goals (apply canon_st ho1 rfl; (intro w2 hS; first | (go_simp; first | done | rfl) | rfl | (obtain ⟨hc, hf, hk, hz⟩ := ecell hS; go_simp; first | done | rfl)); simp only [Act.put, List.setIfInBounds_toArray, List.set_cons_zero, List.set_cons_succ])
          all_goals clear ho1
          all_goals (apply canon_st ho2 rfl; (intro w2 hS; first | (go_simp; first | done | rfl) | rfl | (obtain ⟨hc, hf, hk, hz⟩ := ecell hS; go_simp; first | done | rfl)); simp only [Act.put, List.setIfInBounds_toArray, List.set_cons_zero, List.set_cons_succ])
          all_goals clear ho2
          all_goals (apply canon_st ho3 rfl; (intro w2 hS; first | (go_simp; first | done | rfl) | rfl | (obtain ⟨hc, hf, hk, hz⟩ := ecell hS; go_simp; first | done | rfl)); simp only [Act.put, List.setIfInBounds_toArray, List.set_cons_zero, List.set_cons_succ])
          all_goals clear ho3
          all_goals (apply canon_st ho4 rfl; (intro w2 hS; first | (go_simp; first | done | rfl) | rfl | (obtain ⟨hc, hf, hk, hz⟩ := ecell hS; go_simp; first | done | rfl)); simp only [Act.put, List.setIfInBounds_toArray, List.set_cons_zero, List.set_cons_succ])
          all_goals clear ho4
          all_goals (apply canon_st ho7 rfl; (intro w2 hS; first | (go_simp; first | done | rfl) | rfl | (obtain ⟨hc, hf, hk, hz⟩ := ecell hS; go_simp; first | done | rfl)); simp only [Act.put, List.setIfInBounds_toArray, List.set_cons_zero, List.set_cons_succ])
          all_goals clear ho7
          all_goals (apply canon_st ho8 rfl; (intro w2 hS; first | (go_simp; first | done | rfl) | rfl | (obtain ⟨hc, hf, hk, hz⟩ := ecell hS; go_simp; first | done | rfl)); simp only [Act.put, List.setIfInBounds_toArray, List.set_cons_zero, List.set_cons_succ])
          all_goals clear ho8
          all_goals (apply canon_st ho9 rfl; (intro w2 hS; first | (go_simp; first | done | rfl) | rfl | (obtain ⟨hc, hf, hk, hz⟩ := ecell hS; go_simp; first | done | rfl)); simp only [Act.put, List.setIfInBounds_toArray, List.set_cons_zero, List.set_cons_succ])
          all_goals clear ho9
          all_goals first | (refine canon_inv ho5 (nthInv Try.f157 3) rfl 253 272 Try.func272 ⟨_, rfl, (by kernel_rfl), (by kernel_rfl), (by kernel_rfl), ?_⟩; simp only [List.map_toArray, List.map_cons, List.map_nil, List.append_toArray, List.cons_append, List.nil_append, Act.eval]; go_simp; (with_reducible refine (lBase_c m _ _ _ _ hm3).mono ?_); rintro e w1 ⟨rfl, hb⟩; (obtain ⟨hc, hf, hk, hz⟩ := ecell hb; try (have hx := Ext.trans2 hb (by assumption); obtain ⟨hcx, hfx, hkx, hzx⟩ := ecell hx)); (try simp at hz); (refine ⟨(by repeat (first | exact Ext.refl _ | assumption | refine Ext.drew ?_ | refine Ext.drewN ?_ _ | refine Ext.iter ?_ _ _ | refine Ext.alloc ?_ _ | refine Ext.setCell ?_ (by first | exact Nat.le_refl _ | (simp <;> omega)) _ | refine Ext.trans2 (by assumption) ?_)), ?_⟩; go_simp)) | (refine canon_inv ho5 (nthInv Try.f157 4) rfl 253 273 Try.func273 ⟨_, rfl, (by kernel_rfl), (by kernel_rfl), (by kernel_rfl), ?_⟩; simp only [List.map_toArray, List.map_cons, List.map_nil, List.append_toArray, List.cons_append, List.nil_append, Act.eval]; go_simp; (with_reducible refine (lChar_c m _ _ _ _ _ hm3 (by omega)).mono ?_); rintro e w1 ⟨rfl, hb⟩; (obtain ⟨hc, hf, hk, hz⟩ := ecell hb; try (have hx := Ext.trans2 hb (by assumption); obtain ⟨hcx, hfx, hkx, hzx⟩ := ecell hx)); (try simp at hz); (refine ⟨(by repeat (first | exact Ext.refl _ | assumption | refine Ext.drew ?_ | refine Ext.drewN ?_ _ | refine Ext.iter ?_ _ _ | refine Ext.alloc ?_ _ | refine Ext.setCell ?_ (by first | exact Nat.le_refl _ | (simp <;> omega)) _ | refine Ext.trans2 (by assumption) ?_)), ?_⟩; go_simp)) | (refine canon_ef ho5 rfl (fun K hK => ?_); (have hE5 : Ext wr w1 := (by repeat (first | exact Ext.refl _ | assumption | refine Ext.drew ?_ | refine Ext.drewN ?_ _ | refine Ext.iter ?_ _ _ | refine Ext.alloc ?_ _ | refine Ext.setCell ?_ (by first | exact Nat.le_refl _ | (simp <;> omega)) _ | refine Ext.trans2 (by assumption) ?_)); have y0 := (hpb.ext hE5).cell hz0; have y1 := (hpb.ext hE5).free; have y2 := (hpb.ext hE5).lt; go_simp); all_goals (refine hK _ _ ⟨(by repeat (first | exact Ext.refl _ | assumption | refine Ext.drew ?_ | refine Ext.drewN ?_ _ | refine Ext.iter ?_ _ _ | refine Ext.alloc ?_ _ | refine Ext.setCell ?_ (by first | exact Nat.le_refl _ | (simp <;> omega)) _ | refine Ext.trans2 (by assumption) ?_)), ?_⟩; clear hK K; go_simp))
          all_goals clear ho5
          all_goals (apply canon_st ho6 rfl; (intro w2 hS; first | (go_simp; first | done | rfl) | rfl | (obtain ⟨hc, hf, hk, hz⟩ := ecell hS; go_simp; first | done | rfl)); simp only [Act.put, List.setIfInBounds_toArray, List.set_cons_zero, List.set_cons_succ])
          all_goals clear ho6
          all_goals first | (refine canon_inv ho10 (nthInv Try.f157 3) rfl 253 272 Try.func272 ⟨_, rfl, (by kernel_rfl), (by kernel_rfl), (by kernel_rfl), ?_⟩; simp only [List.map_toArray, List.map_cons, List.map_nil, List.append_toArray, List.cons_append, List.nil_append, Act.eval]; go_simp; (with_reducible refine (lBase_c m _ _ _ _ hm3).mono ?_); rintro e w1 ⟨rfl, hb⟩; (obtain ⟨hc, hf, hk, hz⟩ := ecell hb; try (have hx := Ext.trans2 hb (by assumption); obtain ⟨hcx, hfx, hkx, hzx⟩ := ecell hx)); (try simp at hz); (refine ⟨(by repeat (first | exact Ext.refl _ | assumption | refine Ext.drew ?_ | refine Ext.drewN ?_ _ | refine Ext.iter ?_ _ _ | refine Ext.alloc ?_ _ | refine Ext.setCell ?_ (by first | exact Nat.le_refl _ | (simp <;> omega)) _ | refine Ext.trans2 (by assumption) ?_)), ?_⟩; go_simp)) | (refine canon_inv ho10 (nthInv Try.f157 4) rfl 253 273 Try.func273 ⟨_, rfl, (by kernel_rfl), (by kernel_rfl), (by kernel_rfl), ?_⟩; simp only [List.map_toArray, List.map_cons, List.map_nil, List.append_toArray, List.cons_append, List.nil_append, Act.eval]; go_simp; (with_reducible refine (lChar_c m _ _ _ _ _ hm3 (by omega)).mono ?_); rintro e w1 ⟨rfl, hb⟩; (obtain ⟨hc, hf, hk, hz⟩ := ecell hb; try (have hx := Ext.trans2 hb (by assumption); obtain ⟨hcx, hfx, hkx, hzx⟩ := ecell hx)); (try simp at hz); (refine ⟨(by repeat (first | exact Ext.refl _ | assumption | refine Ext.drew ?_ | refine Ext.drewN ?_ _ | refine Ext.iter ?_ _ _ | refine Ext.alloc ?_ _ | refine Ext.setCell ?_ (by first | exact Nat.le_refl _ | (simp <;> omega)) _ | refine Ext.trans2 (by assumption) ?_)), ?_⟩; go_simp)) | (refine canon_ef ho10 rfl (fun K hK => ?_); (have hE5 : Ext wr w1 := (by repeat (first | exact Ext.refl _ | assumption | refine Ext.drew ?_ | refine Ext.drewN ?_ _ | refine Ext.iter ?_ _ _ | refine Ext.alloc ?_ _ | refine Ext.setCell ?_ (by first | exact Nat.le_refl _ | (simp <;> omega)) _ | refine Ext.trans2 (by assumption) ?_)); have y0 := (hpb.ext hE5).cell hz0; have y1 := (hpb.ext hE5).free; have y2 := (hpb.ext hE5).lt; go_simp); all_goals (refine hK _ _ ⟨(by repeat (first | exact Ext.refl _ | assumption | refine Ext.drew ?_ | refine Ext.drewN ?_ _ | refine Ext.iter ?_ _ _ | refine Ext.alloc ?_ _ | refine Ext.setCell ?_ (by first | exact Nat.le_refl _ | (simp <;> omega)) _ | refine Ext.trans2 (by assumption) ?_)), ?_⟩; clear hK K; go_simp))
          all_goals clear ho10
          all_goals (apply canon_st ho11 rfl; (intro w2 hS; first | (go_simp; first | done | rfl) | rfl | (obtain ⟨hc, hf, hk, hz⟩ := ecell hS; go_simp; first | done | rfl)); simp only [Act.put, List.setIfInBounds_toArray, List.set_cons_zero, List.set_cons_succ])
          all_goals clear ho11
          all_goals first | (refine canon_inv ho12 (nthInv Try.f157 3) rfl 253 272 Try.func272 ⟨_, rfl, (by kernel_rfl), (by kernel_rfl), (by kernel_rfl), ?_⟩; simp only [List.map_toArray, List.map_cons, List.map_nil, List.append_toArray, List.cons_append, List.nil_append, Act.eval]; go_simp; (with_reducible refine (lBase_c m _ _ _ _ hm3).mono ?_); rintro e w1 ⟨rfl, hb⟩; (obtain ⟨hc, hf, hk, hz⟩ := ecell hb; try (have hx := Ext.trans2 hb (by assumption); obtain ⟨hcx, hfx, hkx, hzx⟩ := ecell hx)); (try simp at hz); (refine ⟨(by repeat (first | exact Ext.refl _ | assumption | refine Ext.drew ?_ | refine Ext.drewN ?_ _ | refine Ext.iter ?_ _ _ | refine Ext.alloc ?_ _ | refine Ext.setCell ?_ (by first | exact Nat.le_refl _ | (simp <;> omega)) _ | refine Ext.trans2 (by assumption) ?_)), ?_⟩; go_simp)) | (refine canon_inv ho12 (nthInv Try.f157 4) rfl 253 273 Try.func273 ⟨_, rfl, (by kernel_rfl), (by kernel_rfl), (by kernel_rfl), ?_⟩; simp only [List.map_toArray, List.map_cons, List.map_nil, List.append_toArray, List.cons_append, List.nil_append, Act.eval]; go_simp; (with_reducible refine (lChar_c m _ _ _ _ _ hm3 (by omega)).mono ?_); rintro e w1 ⟨rfl, hb⟩; (obtain ⟨hc, hf, hk, hz⟩ := ecell hb; try (have hx := Ext.trans2 hb (by assumption); obtain ⟨hcx, hfx, hkx, hzx⟩ := ecell hx)); (try simp at hz); (refine ⟨(by repeat (first | exact Ext.refl _ | assumption | refine Ext.drew ?_ | refine Ext.drewN ?_ _ | refine Ext.iter ?_ _ _ | refine Ext.alloc ?_ _ | refine Ext.setCell ?_ (by first | exact Nat.le_refl _ | (simp <;> omega)) _ | refine Ext.trans2 (by assumption) ?_)), ?_⟩; go_simp)) | (refine canon_ef ho12 rfl (fun K hK => ?_); (have hE5 : Ext wr w1 := (by repeat (first | exact Ext.refl _ | assumption | refine Ext.drew ?_ | refine Ext.drewN ?_ _ | refine Ext.iter ?_ _ _ | refine Ext.alloc ?_ _ | refine Ext.setCell ?_ (by first | exact Nat.le_refl _ | (simp <;> omega)) _ | refine Ext.trans2 (by assumption) ?_)); have y0 := (hpb.ext hE5).cell hz0; have y1 := (hpb.ext hE5).free; have y2 := (hpb.ext hE5).lt; go_simp); all_goals (refine hK _ _ ⟨(by repeat (first | exact Ext.refl _ | assumption | refine Ext.drew ?_ | refine Ext.drewN ?_ _ | refine Ext.iter ?_ _ _ | refine Ext.alloc ?_ _ | refine Ext.setCell ?_ (by first | exact Nat.le_refl _ | (simp <;> omega)) _ | refine Ext.trans2 (by assumption) ?_)), ?_⟩; clear hK K; go_simp))
          all_goals clear ho12
          all_goals refine canon_done (NoPanic.normal ?_)
          clear e1
          go_wp2_with (first
            | ((with_reducible refine wpList_invoke_of (nthInv Try.f157 5) ?_ 253 272 Try.func272 ?_); rfl; refine ⟨_, rfl, (by kernel_rfl), (by kernel_rfl), (by kernel_rfl), ?_⟩; simp only [List.map_toArray, List.map_cons, List.map_nil, List.append_toArray, List.cons_append, List.nil_append, Act.eval]; go_simp)
            | (go_at_call 272; (with_reducible refine (lBase_c m _ _ _ _ hm3).mono ?_); rintro e w6 ⟨rfl, hb6⟩))
          refine ⟨⟨j + 1, _, by omega, by rw [hdv.out], by go_num, ((hpb.ext hE5).set _ _).ext hb6, hT2, (((hext2.trans hE5).setCell (Nat.le_refl _) _).trans hb6)⟩, by show (((n : Int) - 1 - j - 1) + 1).toNat < (((n : Int) - 1 - j) + 1).toNat; omega⟩
        · obtain rfl : j = n := by omega
          have hd1 : ¬ (0 : Int) ≤ (j : Int) - 1 - j := by omega
          have hR2 := HR2.out
          by_cases hgz : 0 < gq G (iBase m) j
          · rw [if_pos hgz] at hR2
            have hnone := Lib.hid (hSS.out.trans (by rw [← hR2]; rfl) : rdS xs a = none)
            clear hR2
            have hres := hrb.ext ((hext.trans hx4).trans hext2); have y0 := hres.cell (i := 0) (v := .int .i64 0) rfl; have y1 := hres.cell (i := 1) (v := .string ⟨#[]⟩) rfl; have y2 := hres.free; have y3 := hres.lt
            go_wp2_with fail
            have k0 := (hres.set 0 (.int .i64 0)).cell (i := 0) (v := .int .i64 0) rfl
            have k1 := ((hres.set 0 (.int .i64 0)).set 1 (.string ⟨#[]⟩)).cell (i := 1) (v := .string ⟨#[]⟩) rfl
            exact bodyPost_ret (v := .tuple #[vSeg 0 ⟨#[]⟩, .int .i64 0, .bool false]) (by simp [results, Try.results157, go_sem, k0, k1]) rfl ⟨.inr ⟨hnone.out, rfl⟩, (by repeat (first | exact Ext.refl _ | assumption | refine Ext.drew ?_ | refine Ext.drewN ?_ _ | refine Ext.iter ?_ _ _ | refine Ext.alloc ?_ _ | refine Ext.setCell ?_ (by first | exact Nat.le_refl _ | (simp <;> omega)) _ | refine Ext.trans2 (by assumption) ?_))⟩
          · rw [if_neg hgz] at hR2
            have hR3 := Lib.hid hR2
            clear hR2
            have hcs := hT.out.all
            have hrow2 := hown.ext (hx4.trans hext2)
            have hdl : (⟨(dig m G j).toArray⟩ : ByteArray).size = j := dig_len m G j
            have hsz : acc.size + (⟨(dig m G j).toArray⟩ : ByteArray).size < 1099511627776 := by rw [hdl]; omega
            have hbw := (hext.trans hx4).trans hext2
            go_wp2_with (at_builtin; go_loud (refine appendBB hrow2 hpb hcs hsz hbw.size ?_ rfl _ hdl rfl); intro v1 w7 hown7 hb7)
            refine ⟨⟨a' + wd, c' - j, f', acc ++ ⟨(dig m G j).toArray⟩, by go_num, by rw [Int.ofNat_sub hn1.2.2.1], by omega, by rw [ByteArray.size_append, hdl]; omega, by rw [Int.natCast_add]; omega, hown7, hbw.trans3 hb7, Lib.hid ?_⟩, by show ((c' : Int) - j).toNat < (c' : Int).toNat; omega⟩
            rw [← hR3.out]
            cases rdG m xs f' (a' + wd) (c' - j) with
            | none => rfl
            | some r => simp [ByteArray.append_assoc]
    · obtain rfl : c' = 0 := by omega
      have hcv := hown.conv
      have hR2 := hR.out
      rw [rdG_zero] at hR2
      have hsome := Lib.hid (hSS.out.trans (by rw [← hR2]; rfl) : rdS xs a = some (m, acc ++ ByteArray.empty, a'))
      have hres := hrb.ext (hext); have y0 := hres.cell (i := 0) (v := .int .i64 0) rfl; have y1 := hres.cell (i := 1) (v := .string ⟨#[]⟩) rfl; have y2 := hres.free; have y3 := hres.lt
      clear hR2
      go_wp2_with fail
      have k0 := (hres.set 0 (.int .i64 m)).cell (i := 0) (v := .int .i64 m) rfl
      have k1 := ((hres.set 0 (.int .i64 m)).set 1 (.string acc)).cell (i := 1) (v := .string acc) rfl
      exact bodyPost_ret (v := .tuple #[vSeg m acc, .int .i64 a', .bool true]) (by simp [results, Try.results157, go_sem, k0, k1]) rfl ⟨.inl ⟨m, acc, a', by simpa using hsome.out, rfl⟩, (by repeat (first | exact Ext.refl _ | assumption | refine Ext.drew ?_ | refine Ext.drewN ?_ _ | refine Ext.iter ?_ _ _ | refine Ext.alloc ?_ _ | refine Ext.setCell ?_ (by first | exact Nat.le_refl _ | (simp <;> omega)) _ | refine Ext.trans2 (by assumption) ?_))⟩
set_option maxHeartbeats 1600000 in
set_option maxRecDepth 100000 in
theorem readSegmentM2_c (p : Option Addr) (c : Nat) (xs : List Int) (a : Nat) (w : World) (hx : IntsAt w p xs) (hc : xs.length ≤ c) (hl : xs.length ≤ 1048576) (hb : ∀ x ∈ xs, x = 0 ∨ x = 1) (ha : a + 11 ≤ xs.length)
    (h0 : numAt xs (a + 3) 8 ≠ 0) (ht : (a : Int) + 11 + textW (numAt xs a 3) (numAt xs (a + 3) 8) ≤ xs.length) (hm : 4 ≤ numAt xs a 3 ∧ numAt xs a 3 ≤ 4) :
    Calls Try.prog 157 #[.slice p xs.length c, .int .i64 a] w fun e w' => rdR xs a e ∧ Ext w w' := by
  have b1 := numAt_bd hb a 3 (by omega)
  have b2 := numAt_bd hb (a + 3) 8 (by omega)
  have htw := textW_bd (numAt xs a 3) (numAt xs (a + 3) 8) (by omega)
  have HX := Lib.hid hx; have HB := Lib.hid hb; clear hx hb
  have n1 : ∀ W, IntsAt W p xs → Calls Try.prog 100 #[.slice p xs.length c, .int .i64 a, .int .i64 3] W fun e w' => e = .returned (.int .i64 (numAt xs a 3)) ∧ W = w' := fun W h => numberAt_c p c xs a 3 W h hc hl HB.out (by omega) (by omega)
  have n2 : ∀ W, IntsAt W p xs → Calls Try.prog 100 #[.slice p xs.length c, .int .i64 ((a : Int) + 3), .int .i64 8] W fun e w' => e = .returned (.int .i64 (numAt xs (a + 3) 8)) ∧ W = w' := fun W h => numberAt_c p c xs (a + 3) 8 W h hc hl HB.out (by omega) (by omega)
  have N1 := Lib.hid n1; have N2 := Lib.hid n2; clear n1 n2
  have hSS : rdS xs a = (rdG (numAt xs a 3) xs (numAt xs (a + 3) 8).toNat (a + 11) (numAt xs (a + 3) 8).toNat).map fun r => (numAt xs a 3, r.1, r.2) := by
    have hm' := hm
    unfold rdS
    rw [if_neg (by omega), if_neg (by omega)]
  generalize hme : numAt xs a 3 = m at *
  generalize hce : numAt xs (a + 3) 8 = cI at *
  obtain ⟨cn, rfl⟩ : ∃ cn : Nat, cI = cn := ⟨cI.toNat, by omega⟩
  have hc0 : ((cn : Int) == 0) = false := by simpa using h0
  have hcp : 1 ≤ cn := by omega
  clear h0
  rw [Int.toNat_natCast] at hSS
  replace hSS := Lib.hid hSS
  have HME := Lib.hid hme; have HCE := Lib.hid hce; clear hme hce
  have hI1 : Try.prog.underlying 22 = some (.slice 5) := by kernel_rfl
  have hI2 := infoByte
  have hna : ∀  w, (nilAhead 379 255 (.agg #[]) (nthInv Try.f157 4)).run Try.prog w = .ok (some false) w := fun  w => by kernel_rfl
  conv at hna => intro  w; lhs; arg 2; arg 4; whnf
  have hme : ∀  w, (method 379 255 (.agg #[]) (nthInv Try.f157 4)).run Try.prog w = .ok (278, (.agg #[])) w := fun  w => by kernel_rfl
  conv at hme => intro  w; lhs; arg 2; arg 4; whnf
  go_enter Try.func157, Try.ntmps157
  go_wp2_with (first
    | (at_make; go_loud (refine make_cap hI1 hI2 cn rfl rfl (by omega) (by omega) ?_))
    | (go_at_call 100; (with_reducible refine (N1.out _ (HX.out.ext (by repeat (first | exact Ext.refl _ | assumption | refine Ext.drew ?_ | refine Ext.drewN ?_ _ | refine Ext.iter ?_ _ _ | refine Ext.alloc ?_ _ | refine Ext.setCell ?_ (by first | exact Nat.le_refl _ | (simp <;> omega)) _ | refine Ext.trans2 (by assumption) ?_)))).mono ?_); rintro e w1 ⟨rfl, rfl⟩)
    | (go_at_call 100; (with_reducible refine (N2.out _ (HX.out.ext (by repeat (first | exact Ext.refl _ | assumption | refine Ext.drew ?_ | refine Ext.drewN ?_ _ | refine Ext.iter ?_ _ _ | refine Ext.alloc ?_ _ | refine Ext.setCell ?_ (by first | exact Nat.le_refl _ | (simp <;> omega)) _ | refine Ext.trans2 (by assumption) ?_)))).mono ?_); rintro e w1 ⟨rfl, rfl⟩)
    | (go_at_call 206; (with_reducible refine (modeOfB_c _ _).mono ?_); rintro e wm ⟨⟨vm, ⟨h4, rfl⟩ | ⟨h4, rfl⟩, hvm⟩, hb1⟩ <;> go_prune; obtain ⟨hc1, hf1, hk1, hz1⟩ := ecell hb1; simp at hz1; have hvm0 := Lib.hid (show ModeV wm m vm from hvm.1); replace hvm := Lib.hid hvm)
    | (go_at_call 207; (with_reducible refine (iTextWidth_c m cn _ _ (by omega) hvm0.out (by omega)).mono ?_); rintro e w2 ⟨rfl, hb2⟩))
  have hx2 : Ext w w2 := ((((Ext.refl w).alloc _).trans hb1).trans hb2)
  have hrb := ((Blk.new w #[.int .i64 0, .string ⟨#[]⟩] 107).ext hb1).ext hb2
  have hvm2 := hvm0.out.ext hb2
  have hI3 := hI1; have hI4 := hI2
  clear hI1 hI2 hc1 hf1 hk1 hz1
  rcases hvm2 with ⟨hm3, p1, k1, rfl, hnn, hi1⟩ | ⟨hm3, rfl⟩ <;> first | (exfalso; omega) | skip
  have hrow := RowB.room (B := w2.heap.size) (w := w2) (Nat.le_refl _) #[.int .u8 0] cn rfl (by unfold maxLen; omega)
  have HR := Lib.hid (show (rdG m xs cn (a + 11) cn).map (fun r => (ByteArray.empty ++ r.1, r.2)) = rdG m xs cn (a + 11) cn by
    cases rdG m xs cn (a + 11) cn with
    | none => rfl
    | some r => simp)
  go_loopw [1, 9, 12] (fun at_ ct tx wr => ∃ (a' c' f : Nat) (acc : ByteArray), at_ = .int .i64 a' ∧ ct = .int .i64 c' ∧ c' ≤ f ∧ acc.size + c' ≤ 255 ∧ (a' : Int) + textW m c' ≤ xs.length ∧ RowB w2.heap.size wr tx acc ∧ Ext w2 wr ∧ Hid ((rdG m xs f a' c').map (fun r => (acc ++ r.1, r.2)) = rdG m xs cn (a + 11) cn)) (fun _ ct _ _ => (intOf ct).toNat)
  case atStart => exact ⟨a + 11, cn, cn, ByteArray.empty, by go_num, rfl, Nat.le_refl _, by show 0 + cn ≤ 255; omega, by go_num, hrow, (by repeat (first | exact Ext.refl _ | assumption | refine Ext.drew ?_ | refine Ext.drewN ?_ _ | refine Ext.iter ?_ _ _ | refine Ext.alloc ?_ _ | refine Ext.setCell ?_ (by first | exact Nat.le_refl _ | (simp <;> omega)) _ | refine Ext.trans2 (by assumption) ?_)), HR⟩
  case round =>
    clear hrow HR
    obtain ⟨a', c', f, acc, rfl, rfl, hcf, hac, hal, hown, hext, hR⟩ := hrel
    obtain ⟨wo, rfl⟩ : ∃ wo : World, wo = wr := ⟨_, rfl⟩
    have hxo := hx2.trans hext
    by_cases hlt : 0 < c'
    · have hd : 0 < (c' : Int) := by omega
      have hg := grp_bd m
      obtain ⟨f', rfl⟩ : ∃ f', f = f' + 1 := ⟨f - 1, by omega⟩
      have hif : (if (c' : Int) < grp m then (c' : Int) else grp m) = ((min (grp m).toNat c' : Nat) : Int) := by split <;> omega
      have hmin : min (grp m) (c' : Int) = ((min (grp m).toNat c' : Nat) : Int) := by omega
      have hn1 : 1 ≤ min (grp m).toNat c' ∧ min (grp m).toNat c' ≤ 3 ∧ min (grp m).toNat c' ≤ c' ∧ min (grp m).toNat c' ≤ (grp m).toNat := by omega
      have hR2 := hR.out
      rw [rdG, if_neg (by omega)] at hR2
      have hstep : textW m c' = wid m (min (grp m).toNat c' : Nat) + textW m ((c' - min (grp m).toNat c' : Nat) : Int) := by
        by_cases e : (grp m).toNat ≤ c'
        · rw [Nat.min_eq_left e, textW_step (by omega) e, Int.toNat_of_nonneg (by omega)]
        · rw [Nat.min_eq_right (by omega), Nat.sub_self, textW_last (by omega) (by omega) (by omega)]
          simp [textW]
      generalize hge : min (grp m).toNat c' = n at *
      have hwd := wid_bd m n
      have hwp : 1 ≤ wid m n := by
        have : m = 1 ∨ m = 2 ∨ m = 3 ∨ m = 4 := by omega
        have hg1 : (grp 1).toNat = 3 := rfl
        have hg2 : (grp 2).toNat = 2 := rfl
        unfold wid
        rcases this with rfl | rfl | rfl | rfl <;> (repeat' split) <;> omega
      have htr := textW_bd m ((c' - n : Nat) : Int) (by omega)
      obtain ⟨wd, hwde⟩ : ∃ wd : Nat, wid m n = wd := ⟨(wid m n).toNat, by omega⟩
      have hnb := numAt_bd HB.out a' wd (by omega)
      have hN := Lib.hid (show ∀ W, IntsAt W p xs → Calls Try.prog 100 #[.slice p xs.length c, .int .i64 a', .int .i64 wd] W fun e w' => e = .returned (.int .i64 (numAt xs a' wd)) ∧ W = w' from fun W h => numberAt_c p c xs a' wd W h hc hl HB.out (by omega) (by omega))
      rw [hwde, Int.toNat_natCast] at hR2
      have hg40 : numAt xs a' wd ≤ 1099511627776 := by
        have h40 : 2 ^ wd ≤ 2 ^ 40 := Nat.pow_le_pow_right (by omega) (by omega)
        have e : ((2 ^ wd : Nat) : Int) = (2 : Int) ^ wd := by simp
        omega
      have hgn0 := hnb.1
      generalize numAt xs a' wd = G at *
      have HR2 := Lib.hid hR2; have HST := Lib.hid hstep; have HWD := Lib.hid hwde
      have hst2 : textW m c' = wd + textW m ((c' - n : Nat) : Int) := by rw [hstep, hwde]
      have hal2 : (a' : Int) + wd + textW m ((c' - n : Nat) : Int) ≤ xs.length := by omega
      clear hR2 hR hstep hst2 hge hnb
      rw [hwde] at hwd hwp
      clear hwde
      skip
      go_wp2_with (first
        | ((with_reducible refine wpList_invoke_of (nthInv Try.f157 0) ?_ 255 279 Try.func279 ?_); rfl; refine ⟨_, rfl, (by kernel_rfl), (by kernel_rfl), (by kernel_rfl), ?_⟩; simp only [List.map_toArray, List.map_cons, List.map_nil, List.append_toArray, List.cons_append, List.nil_append, Act.eval]; go_simp)
        | (go_at_call 279; (with_reducible refine (pGroup_c m _ (by omega)).mono ?_); rintro e w3 ⟨rfl, hb3⟩)
        | ((with_reducible refine wpList_invoke_of (nthInv Try.f157 1) ?_ 255 281 Try.func281 ?_); rfl; refine ⟨_, rfl, (by kernel_rfl), (by kernel_rfl), (by kernel_rfl), ?_⟩; simp only [List.map_toArray, List.map_cons, List.map_nil, List.append_toArray, List.cons_append, List.nil_append, Act.eval]; go_simp)
        | (go_at_call 281; (with_reducible refine (pWidth_c m n _ (by omega)).mono ?_); rw [HWD.out]; rintro e w4 ⟨rfl, hb4⟩)
        | (go_at_call 100; (with_reducible refine (hN.out _ (HX.out.ext (by repeat (first | exact Ext.refl _ | assumption | refine Ext.drew ?_ | refine Ext.drewN ?_ _ | refine Ext.iter ?_ _ _ | refine Ext.alloc ?_ _ | refine Ext.setCell ?_ (by first | exact Nat.le_refl _ | (simp <;> omega)) _ | refine Ext.trans2 (by assumption) ?_)))).mono ?_); rintro e w5 ⟨rfl, rfl⟩)
        | (at_make; go_loud (refine make_blk hI3 hI4 n rfl rfl (by omega) (by omega) ?_)))
      have hx4 : Ext wo w4 := (by repeat (first | exact Ext.refl _ | assumption | refine Ext.drew ?_ | refine Ext.drewN ?_ _ | refine Ext.iter ?_ _ _ | refine Ext.alloc ?_ _ | refine Ext.setCell ?_ (by first | exact Nat.le_refl _ | (simp <;> omega)) _ | refine Ext.trans2 (by assumption) ?_))
      have hpb := Blk.new w4 (madeCells #[.int .u8 0] n) 5
      have hown4 := (hown.ext hx4).alloc (.cells (madeCells #[.int .u8 0] n) 5)
      have hbp := iBase_pos m
      have hbd := iBase_bd m
      have hgb := fun j => gq_bd (g := G) (b := iBase m) ⟨hgn0, hg40⟩ hbp j
      have HGB := Lib.hid hgb; clear hgb
      clear hif hmin
      go_loopw [14, 16] (fun gg i wr => ∃ (j : Nat) (cs : Array Value), j ≤ n ∧ gg = .int .i64 (gq G (iBase m) j) ∧ i = .int .i64 ((n : Int) - 1 - j) ∧ Blk wr w4.heap.size cs 5 ∧ Hid (PTab m G n cs j) ∧ Ext w4 wr) (fun _ i _ => (intOf i + 1).toNat)
      case atStart => exact ⟨0, _, Nat.zero_le _, rfl, by go_num, hpb, Lib.hid ⟨size_madeCells _ _, fun q h1 h2 => by omega⟩, (by repeat (first | exact Ext.refl _ | assumption | refine Ext.drew ?_ | refine Ext.drewN ?_ _ | refine Ext.iter ?_ _ _ | refine Ext.alloc ?_ _ | refine Ext.setCell ?_ (by first | exact Nat.le_refl _ | (simp <;> omega)) _ | refine Ext.trans2 (by assumption) ?_))⟩
      case round =>
        clear hpb
        obtain ⟨j, cs, hj, rfl, rfl, hpb, hT, hext2⟩ := hrel
        have hgj := HGB.out j
        by_cases hjl : j < n
        · have hT2 := Lib.hid (hT.out.step hjl)
          have hmod : 0 ≤ gq G (iBase m) j % iBase m ∧ gq G (iBase m) j % iBase m < iBase m := ⟨Int.emod_nonneg _ (by omega), Int.emod_lt_of_pos _ (by omega)⟩
          have e1 : (gq G (iBase m) j).tmod (iBase m) = gq G (iBase m) j % iBase m := Int.tmod_eq_emod_of_nonneg hgj.1
          have hne0 : ¬ iBase m = 0 := by omega
          have hdv := Lib.hid (show gq G (iBase m) (j + 1) = gq G (iBase m) j / iBase m from rfl)
          generalize gq G (iBase m) j = gj at *
          have hd1 : (j : Int) ≤ (n : Int) - 1 := by omega
          have hd2 : (n : Int) - 1 - j < n := by omega
          obtain ⟨z0, hz0⟩ : ∃ v, cs[n - 1 - j]? = some v := ⟨_, Array.getElem?_eq_getElem (by rw [hT.out.1]; omega)⟩
          have q0 := hpb.cell hz0
          have q1 := hpb.lt
          have q2 := hpb.free
          have hpos : 0 < iBase m := by omega
          go_wp2_with fail
          refine wp_region_canon (fun w' => Ext w4 w') [(0, true), (1, true), (2, true), (3, true), (4, true), (7, true), (8, true), (9, true), (5, false), (6, true), (10, false), (11, true), (12, false)] (by kernel_rfl) (by kernel_rfl) (by decide) (by kernel_rfl) ?_ ?_
          · exact (by repeat (first | exact Ext.refl _ | assumption | refine Ext.drew ?_ | refine Ext.drewN ?_ _ | refine Ext.iter ?_ _ _ | refine Ext.alloc ?_ _ | refine Ext.setCell ?_ (by first | exact Nat.le_refl _ | (simp <;> omega)) _ | refine Ext.trans2 (by assumption) ?_))
          refine canon_intro fun ops eo => ?_
          have ho0 := canon_at eo 0 rfl
          have ho1 := canon_at eo 1 rfl
          have ho2 := canon_at eo 2 rfl
          have ho3 := canon_at eo 3 rfl
          have ho4 := canon_at eo 4 rfl
          have ho5 := canon_at eo 5 rfl
          have ho6 := canon_at eo 6 rfl
          have ho7 := canon_at eo 7 rfl
          have ho8 := canon_at eo 8 rfl
          have ho9 := canon_at eo 9 rfl
          have ho10 := canon_at eo 10 rfl
          have ho11 := canon_at eo 11 rfl
          have ho12 := canon_at eo 12 rfl
          clear eo
          all_goals (apply canon_st ho0 rfl; (intro w2 hS; first | (go_simp; first | done | rfl) | rfl | (obtain ⟨hc, hf, hk, hz⟩ := ecell hS; go_simp; first | done | rfl)); simp only [Act.put, List.setIfInBounds_toArray, List.set_cons_zero, List.set_cons_succ])
          all_goals clear ho0
          all_goals (apply canon_st ho1 rfl; (intro w2 hS; first | (go_simp; first | done | rfl) | rfl | (obtain ⟨hc, hf, hk, hz⟩ := ecell hS; go_simp; first | done | rfl)); simp only [Act.put, List.setIfInBounds_toArray, List.set_cons_zero, List.set_cons_succ])
          all_goals clear ho1
          all_goals (apply canon_st ho2 rfl; (intro w2 hS; first | (go_simp; first | done | rfl) | rfl | (obtain ⟨hc, hf, hk, hz⟩ := ecell hS; go_simp; first | done | rfl)); simp only [Act.put, List.setIfInBounds_toArray, List.set_cons_zero, List.set_cons_succ])
          all_goals clear ho2
          all_goals (apply canon_st ho3 rfl; (intro w2 hS; first | (go_simp; first | done | rfl) | rfl | (obtain ⟨hc, hf, hk, hz⟩ := ecell hS; go_simp; first | done | rfl)); simp only [Act.put, List.setIfInBounds_toArray, List.set_cons_zero, List.set_cons_succ])
          all_goals clear ho3
          all_goals (apply canon_st ho4 rfl; (intro w2 hS; first | (go_simp; first | done | rfl) | rfl | (obtain ⟨hc, hf, hk, hz⟩ := ecell hS; go_simp; first | done | rfl)); simp only [Act.put, List.setIfInBounds_toArray, List.set_cons_zero, List.set_cons_succ])
          all_goals clear ho4
          all_goals (apply canon_st ho7 rfl; (intro w2 hS; first | (go_simp; first | done | rfl) | rfl | (obtain ⟨hc, hf, hk, hz⟩ := ecell hS; go_simp; first | done | rfl)); simp only [Act.put, List.setIfInBounds_toArray, List.set_cons_zero, List.set_cons_succ])
          all_goals clear ho7
          all_goals (apply canon_st ho8 rfl; (intro w2 hS; first | (go_simp; first | done | rfl) | rfl | (obtain ⟨hc, hf, hk, hz⟩ := ecell hS; go_simp; first | done | rfl)); simp only [Act.put, List.setIfInBounds_toArray, List.set_cons_zero, List.set_cons_succ])
          all_goals clear ho8
          all_goals (apply canon_st ho9 rfl; (intro w2 hS; first | (go_simp; first | done | rfl) | rfl | (obtain ⟨hc, hf, hk, hz⟩ := ecell hS; go_simp; first | done | rfl)); simp only [Act.put, List.setIfInBounds_toArray, List.set_cons_zero, List.set_cons_succ])
          all_goals clear ho9
          all_goals first | (refine canon_inv ho5 (nthInv Try.f157 3) rfl 255 277 Try.func277 ⟨_, rfl, (by kernel_rfl), (by kernel_rfl), (by kernel_rfl), ?_⟩; simp only [List.map_toArray, List.map_cons, List.map_nil, List.append_toArray, List.cons_append, List.nil_append, Act.eval]; go_simp; (with_reducible refine (pBase_c m _ (by omega)).mono ?_); rintro e w1 ⟨rfl, hb⟩; (obtain ⟨hc, hf, hk, hz⟩ := ecell hb; try (have hx := Ext.trans2 hb (by assumption); obtain ⟨hcx, hfx, hkx, hzx⟩ := ecell hx)); (try simp at hz); (refine ⟨(by repeat (first | exact Ext.refl _ | assumption | refine Ext.drew ?_ | refine Ext.drewN ?_ _ | refine Ext.iter ?_ _ _ | refine Ext.alloc ?_ _ | refine Ext.setCell ?_ (by first | exact Nat.le_refl _ | (simp <;> omega)) _ | refine Ext.trans2 (by assumption) ?_)), ?_⟩; go_simp)) | (refine canon_inv ho5 (nthInv Try.f157 4) rfl 255 278 Try.func278 ⟨_, rfl, (by kernel_rfl), (by kernel_rfl), (by kernel_rfl), ?_⟩; simp only [List.map_toArray, List.map_cons, List.map_nil, List.append_toArray, List.cons_append, List.nil_append, Act.eval]; go_simp; (with_reducible refine (pChar_c m _ _ (by omega) (by omega)).mono ?_); rintro e w1 ⟨rfl, hb⟩; (obtain ⟨hc, hf, hk, hz⟩ := ecell hb; try (have hx := Ext.trans2 hb (by assumption); obtain ⟨hcx, hfx, hkx, hzx⟩ := ecell hx)); (try simp at hz); (refine ⟨(by repeat (first | exact Ext.refl _ | assumption | refine Ext.drew ?_ | refine Ext.drewN ?_ _ | refine Ext.iter ?_ _ _ | refine Ext.alloc ?_ _ | refine Ext.setCell ?_ (by first | exact Nat.le_refl _ | (simp <;> omega)) _ | refine Ext.trans2 (by assumption) ?_)), ?_⟩; go_simp)) | (refine canon_ef ho5 rfl (fun K hK => ?_); (have hE5 : Ext wr w1 := (by repeat (first | exact Ext.refl _ | assumption | refine Ext.drew ?_ | refine Ext.drewN ?_ _ | refine Ext.iter ?_ _ _ | refine Ext.alloc ?_ _ | refine Ext.setCell ?_ (by first | exact Nat.le_refl _ | (simp <;> omega)) _ | refine Ext.trans2 (by assumption) ?_)); have y0 := (hpb.ext hE5).cell hz0; have y1 := (hpb.ext hE5).free; have y2 := (hpb.ext hE5).lt; go_simp); all_goals (refine hK _ _ ⟨(by repeat (first | exact Ext.refl _ | assumption | refine Ext.drew ?_ | refine Ext.drewN ?_ _ | refine Ext.iter ?_ _ _ | refine Ext.alloc ?_ _ | refine Ext.setCell ?_ (by first | exact Nat.le_refl _ | (simp <;> omega)) _ | refine Ext.trans2 (by assumption) ?_)), ?_⟩; clear hK K; go_simp))
          all_goals clear ho5
          all_goals (apply canon_st ho6 rfl; (intro w2 hS; first | (go_simp; first | done | rfl) | rfl | (obtain ⟨hc, hf, hk, hz⟩ := ecell hS; go_simp; first | done | rfl)); simp only [Act.put, List.setIfInBounds_toArray, List.set_cons_zero, List.set_cons_succ])
          all_goals clear ho6
          all_goals first | (refine canon_inv ho10 (nthInv Try.f157 3) rfl 255 277 Try.func277 ⟨_, rfl, (by kernel_rfl), (by kernel_rfl), (by kernel_rfl), ?_⟩; simp only [List.map_toArray, List.map_cons, List.map_nil, List.append_toArray, List.cons_append, List.nil_append, Act.eval]; go_simp; (with_reducible refine (pBase_c m _ (by omega)).mono ?_); rintro e w1 ⟨rfl, hb⟩; (obtain ⟨hc, hf, hk, hz⟩ := ecell hb; try (have hx := Ext.trans2 hb (by assumption); obtain ⟨hcx, hfx, hkx, hzx⟩ := ecell hx)); (try simp at hz); (refine ⟨(by repeat (first | exact Ext.refl _ | assumption | refine Ext.drew ?_ | refine Ext.drewN ?_ _ | refine Ext.iter ?_ _ _ | refine Ext.alloc ?_ _ | refine Ext.setCell ?_ (by first | exact Nat.le_refl _ | (simp <;> omega)) _ | refine Ext.trans2 (by assumption) ?_)), ?_⟩; go_simp)) | (refine canon_inv ho10 (nthInv Try.f157 4) rfl 255 278 Try.func278 ⟨_, rfl, (by kernel_rfl), (by kernel_rfl), (by kernel_rfl), ?_⟩; simp only [List.map_toArray, List.map_cons, List.map_nil, List.append_toArray, List.cons_append, List.nil_append, Act.eval]; go_simp; (with_reducible refine (pChar_c m _ _ (by omega) (by omega)).mono ?_); rintro e w1 ⟨rfl, hb⟩; (obtain ⟨hc, hf, hk, hz⟩ := ecell hb; try (have hx := Ext.trans2 hb (by assumption); obtain ⟨hcx, hfx, hkx, hzx⟩ := ecell hx)); (try simp at hz); (refine ⟨(by repeat (first | exact Ext.refl _ | assumption | refine Ext.drew ?_ | refine Ext.drewN ?_ _ | refine Ext.iter ?_ _ _ | refine Ext.alloc ?_ _ | refine Ext.setCell ?_ (by first | exact Nat.le_refl _ | (simp <;> omega)) _ | refine Ext.trans2 (by assumption) ?_)), ?_⟩; go_simp)) | (refine canon_ef ho10 rfl (fun K hK => ?_); (have hE5 : Ext wr w1 := (by repeat (first | exact Ext.refl _ | assumption | refine Ext.drew ?_ | refine Ext.drewN ?_ _ | refine Ext.iter ?_ _ _ | refine Ext.alloc ?_ _ | refine Ext.setCell ?_ (by first | exact Nat.le_refl _ | (simp <;> omega)) _ | refine Ext.trans2 (by assumption) ?_)); have y0 := (hpb.ext hE5).cell hz0; have y1 := (hpb.ext hE5).free; have y2 := (hpb.ext hE5).lt; go_simp); all_goals (refine hK _ _ ⟨(by repeat (first | exact Ext.refl _ | assumption | refine Ext.drew ?_ | refine Ext.drewN ?_ _ | refine Ext.iter ?_ _ _ | refine Ext.alloc ?_ _ | refine Ext.setCell ?_ (by first | exact Nat.le_refl _ | (simp <;> omega)) _ | refine Ext.trans2 (by assumption) ?_)), ?_⟩; clear hK K; go_simp))
          all_goals clear ho10
          all_goals (apply canon_st ho11 rfl; (intro w2 hS; first | (go_simp; first | done | rfl) | rfl | (obtain ⟨hc, hf, hk, hz⟩ := ecell hS; go_simp; first | done | rfl)); simp only [Act.put, List.setIfInBounds_toArray, List.set_cons_zero, List.set_cons_succ])
          all_goals clear ho11
          all_goals first | (refine canon_inv ho12 (nthInv Try.f157 3) rfl 255 277 Try.func277 ⟨_, rfl, (by kernel_rfl), (by kernel_rfl), (by kernel_rfl), ?_⟩; simp only [List.map_toArray, List.map_cons, List.map_nil, List.append_toArray, List.cons_append, List.nil_append, Act.eval]; go_simp; (with_reducible refine (pBase_c m _ (by omega)).mono ?_); rintro e w1 ⟨rfl, hb⟩; (obtain ⟨hc, hf, hk, hz⟩ := ecell hb; try (have hx := Ext.trans2 hb (by assumption); obtain ⟨hcx, hfx, hkx, hzx⟩ := ecell hx)); (try simp at hz); (refine ⟨(by repeat (first | exact Ext.refl _ | assumption | refine Ext.drew ?_ | refine Ext.drewN ?_ _ | refine Ext.iter ?_ _ _ | refine Ext.alloc ?_ _ | refine Ext.setCell ?_ (by first | exact Nat.le_refl _ | (simp <;> omega)) _ | refine Ext.trans2 (by assumption) ?_)), ?_⟩; go_simp)) | (refine canon_inv ho12 (nthInv Try.f157 4) rfl 255 278 Try.func278 ⟨_, rfl, (by kernel_rfl), (by kernel_rfl), (by kernel_rfl), ?_⟩; simp only [List.map_toArray, List.map_cons, List.map_nil, List.append_toArray, List.cons_append, List.nil_append, Act.eval]; go_simp; (with_reducible refine (pChar_c m _ _ (by omega) (by omega)).mono ?_); rintro e w1 ⟨rfl, hb⟩; (obtain ⟨hc, hf, hk, hz⟩ := ecell hb; try (have hx := Ext.trans2 hb (by assumption); obtain ⟨hcx, hfx, hkx, hzx⟩ := ecell hx)); (try simp at hz); (refine ⟨(by repeat (first | exact Ext.refl _ | assumption | refine Ext.drew ?_ | refine Ext.drewN ?_ _ | refine Ext.iter ?_ _ _ | refine Ext.alloc ?_ _ | refine Ext.setCell ?_ (by first | exact Nat.le_refl _ | (simp <;> omega)) _ | refine Ext.trans2 (by assumption) ?_)), ?_⟩; go_simp)) | (refine canon_ef ho12 rfl (fun K hK => ?_); (have hE5 : Ext wr w1 := (by repeat (first | exact Ext.refl _ | assumption | refine Ext.drew ?_ | refine Ext.drewN ?_ _ | refine Ext.iter ?_ _ _ | refine Ext.alloc ?_ _ | refine Ext.setCell ?_ (by first | exact Nat.le_refl _ | (simp <;> omega)) _ | refine Ext.trans2 (by assumption) ?_)); have y0 := (hpb.ext hE5).cell hz0; have y1 := (hpb.ext hE5).free; have y2 := (hpb.ext hE5).lt; go_simp); all_goals (refine hK _ _ ⟨(by repeat (first | exact Ext.refl _ | assumption | refine Ext.drew ?_ | refine Ext.drewN ?_ _ | refine Ext.iter ?_ _ _ | refine Ext.alloc ?_ _ | refine Ext.setCell ?_ (by first | exact Nat.le_refl _ | (simp <;> omega)) _ | refine Ext.trans2 (by assumption) ?_)), ?_⟩; clear hK K; go_simp))
          all_goals clear ho12
          all_goals refine canon_done (NoPanic.normal ?_)
          clear e1
          go_wp2_with (first
            | ((with_reducible refine wpList_invoke_of (nthInv Try.f157 5) ?_ 255 277 Try.func277 ?_); rfl; refine ⟨_, rfl, (by kernel_rfl), (by kernel_rfl), (by kernel_rfl), ?_⟩; simp only [List.map_toArray, List.map_cons, List.map_nil, List.append_toArray, List.cons_append, List.nil_append, Act.eval]; go_simp)
            | (go_at_call 277; (with_reducible refine (pBase_c m _ (by omega)).mono ?_); rintro e w6 ⟨rfl, hb6⟩))
          refine ⟨⟨j + 1, _, by omega, by rw [hdv.out], by go_num, ((hpb.ext hE5).set _ _).ext hb6, hT2, (((hext2.trans hE5).setCell (Nat.le_refl _) _).trans hb6)⟩, by show (((n : Int) - 1 - j - 1) + 1).toNat < (((n : Int) - 1 - j) + 1).toNat; omega⟩
        · obtain rfl : j = n := by omega
          have hd1 : ¬ (0 : Int) ≤ (j : Int) - 1 - j := by omega
          have hR2 := HR2.out
          by_cases hgz : 0 < gq G (iBase m) j
          · rw [if_pos hgz] at hR2
            have hnone := Lib.hid (hSS.out.trans (by rw [← hR2]; rfl) : rdS xs a = none)
            clear hR2
            have hres := hrb.ext ((hext.trans hx4).trans hext2); have y0 := hres.cell (i := 0) (v := .int .i64 0) rfl; have y1 := hres.cell (i := 1) (v := .string ⟨#[]⟩) rfl; have y2 := hres.free; have y3 := hres.lt
            go_wp2_with fail
            have k0 := (hres.set 0 (.int .i64 0)).cell (i := 0) (v := .int .i64 0) rfl
            have k1 := ((hres.set 0 (.int .i64 0)).set 1 (.string ⟨#[]⟩)).cell (i := 1) (v := .string ⟨#[]⟩) rfl
            exact bodyPost_ret (v := .tuple #[vSeg 0 ⟨#[]⟩, .int .i64 0, .bool false]) (by simp [results, Try.results157, go_sem, k0, k1]) rfl ⟨.inr ⟨hnone.out, rfl⟩, (by repeat (first | exact Ext.refl _ | assumption | refine Ext.drew ?_ | refine Ext.drewN ?_ _ | refine Ext.iter ?_ _ _ | refine Ext.alloc ?_ _ | refine Ext.setCell ?_ (by first | exact Nat.le_refl _ | (simp <;> omega)) _ | refine Ext.trans2 (by assumption) ?_))⟩
          · rw [if_neg hgz] at hR2
            have hR3 := Lib.hid hR2
            clear hR2
            have hcs := hT.out.all
            have hrow2 := hown.ext (hx4.trans hext2)
            have hdl : (⟨(dig m G j).toArray⟩ : ByteArray).size = j := dig_len m G j
            have hsz : acc.size + (⟨(dig m G j).toArray⟩ : ByteArray).size < 1099511627776 := by rw [hdl]; omega
            have hbw := (hext.trans hx4).trans hext2
            go_wp2_with (at_builtin; go_loud (refine appendBB hrow2 hpb hcs hsz hbw.size ?_ rfl _ hdl rfl); intro v1 w7 hown7 hb7)
            refine ⟨⟨a' + wd, c' - j, f', acc ++ ⟨(dig m G j).toArray⟩, by go_num, by rw [Int.ofNat_sub hn1.2.2.1], by omega, by rw [ByteArray.size_append, hdl]; omega, by rw [Int.natCast_add]; omega, hown7, hbw.trans3 hb7, Lib.hid ?_⟩, by show ((c' : Int) - j).toNat < (c' : Int).toNat; omega⟩
            rw [← hR3.out]
            cases rdG m xs f' (a' + wd) (c' - j) with
            | none => rfl
            | some r => simp [ByteArray.append_assoc]
    · obtain rfl : c' = 0 := by omega
      have hcv := hown.conv
      have hR2 := hR.out
      rw [rdG_zero] at hR2
      have hsome := Lib.hid (hSS.out.trans (by rw [← hR2]; rfl) : rdS xs a = some (m, acc ++ ByteArray.empty, a'))
      have hres := hrb.ext (hext); have y0 := hres.cell (i := 0) (v := .int .i64 0) rfl; have y1 := hres.cell (i := 1) (v := .string ⟨#[]⟩) rfl; have y2 := hres.free; have y3 := hres.lt
      clear hR2
      go_wp2_with fail
      have k0 := (hres.set 0 (.int .i64 m)).cell (i := 0) (v := .int .i64 m) rfl
      have k1 := ((hres.set 0 (.int .i64 m)).set 1 (.string acc)).cell (i := 1) (v := .string acc) rfl
      exact bodyPost_ret (v := .tuple #[vSeg m acc, .int .i64 a', .bool true]) (by simp [results, Try.results157, go_sem, k0, k1]) rfl ⟨.inl ⟨m, acc, a', by simpa using hsome.out, rfl⟩, (by repeat (first | exact Ext.refl _ | assumption | refine Ext.drew ?_ | refine Ext.drewN ?_ _ | refine Ext.iter ?_ _ _ | refine Ext.alloc ?_ _ | refine Ext.setCell ?_ (by first | exact Nat.le_refl _ | (simp <;> omega)) _ | refine Ext.trans2 (by assumption) ?_))⟩
end Go.Proofs.Ytbnpdpmbbppnhaa

/-! readSegment, whole. -/
namespace Go.Proofs.Ytbnpdpmbbppnhaa
set_option linter.unusedVariables false
set_option linter.unusedSimpArgs false
open Go.RowKit

set_option maxHeartbeats 1600000 in
set_option maxRecDepth 100000 in
theorem readSegment2_c (p : Option Addr) (c : Nat) (xs : List Int) (a : Nat) (w : World) (hx : IntsAt w p xs) (hc : xs.length ≤ c) (hl : xs.length ≤ 1048576) (hb : ∀ x ∈ xs, x = 0 ∨ x = 1) (ha : a + 11 ≤ xs.length)
    (hbad : ¬ (1 ≤ numAt xs a 3 ∧ numAt xs a 3 ≤ 4) ∨ numAt xs (a + 3) 8 = 0 ∨ (xs.length : Int) < a + 11 + textW (numAt xs a 3) (numAt xs (a + 3) 8)) :
    Calls Try.prog 157 #[.slice p xs.length c, .int .i64 a] w fun e w' => rdR xs a e ∧ Ext w w' := by
  have hnone : rdS xs a = none := by
    unfold rdS
    rw [if_neg (by omega), if_pos hbad]
  have HN := Lib.hid hnone; clear hnone
  have b1 := numAt_bd hb a 3 (by omega)
  have b2 := numAt_bd hb (a + 3) 8 (by omega)
  have htw := textW_bd (numAt xs a 3) (numAt xs (a + 3) 8) (by omega)
  have n1 : ∀ W, IntsAt W p xs → Calls Try.prog 100 #[.slice p xs.length c, .int .i64 a, .int .i64 3] W fun e w' => e = .returned (.int .i64 (numAt xs a 3)) ∧ W = w' := fun W h => numberAt_c p c xs a 3 W h hc hl hb (by omega) (by omega)
  have n2 : ∀ W, IntsAt W p xs → Calls Try.prog 100 #[.slice p xs.length c, .int .i64 ((a : Int) + 3), .int .i64 8] W fun e w' => e = .returned (.int .i64 (numAt xs (a + 3) 8)) ∧ W = w' := fun W h => numberAt_c p c xs (a + 3) 8 W h hc hl hb (by omega) (by omega)
  have HX := Lib.hid hx; clear hx hb
  have N1 := Lib.hid n1; have N2 := Lib.hid n2; clear n1 n2
  generalize hme : numAt xs a 3 = m at *
  generalize hce : numAt xs (a + 3) 8 = cI at *
  clear hme hce
  have hd1 : (a : Int) + 3 + 8 ≤ xs.length := by omega
  go_enter Try.func157, Try.ntmps157
  by_cases h0 : cI = 0
  · subst h0
    go_wp2_with (first
    | (go_at_call 100; (with_reducible refine (N1.out _ (HX.out.ext (by repeat (first | exact Ext.refl _ | assumption | refine Ext.drew ?_ | refine Ext.drewN ?_ _ | refine Ext.iter ?_ _ _ | refine Ext.alloc ?_ _ | refine Ext.setCell ?_ (by first | exact Nat.le_refl _ | (simp <;> omega)) _ | refine Ext.trans2 (by assumption) ?_)))).mono ?_); rintro e w1 ⟨rfl, rfl⟩)
    | (go_at_call 100; (with_reducible refine (N2.out _ (HX.out.ext (by repeat (first | exact Ext.refl _ | assumption | refine Ext.drew ?_ | refine Ext.drewN ?_ _ | refine Ext.iter ?_ _ _ | refine Ext.alloc ?_ _ | refine Ext.setCell ?_ (by first | exact Nat.le_refl _ | (simp <;> omega)) _ | refine Ext.trans2 (by assumption) ?_)))).mono ?_); rintro e w1 ⟨rfl, rfl⟩)
    | (go_at_call 206; (with_reducible refine (modeOfB_c _ _).mono ?_); rintro e wm ⟨⟨vm, ⟨h4, rfl⟩ | ⟨h4, rfl⟩, hvm⟩, hb1⟩ <;> (obtain ⟨hc1, hf1, hk1, hz1⟩ := ecell hb1; simp at hz1; have hres := (Blk.new w #[.int .i64 0, .string ⟨#[]⟩] 107).ext hb1; have y0 := hres.cell (i := 0) (v := .int .i64 0) rfl; have y1 := hres.cell (i := 1) (v := .string ⟨#[]⟩) rfl; have y2 := hres.free; have y3 := hres.lt; have k0 := (hres.set 0 (.int .i64 0)).cell (i := 0) (v := .int .i64 0) rfl; have k1 := ((hres.set 0 (.int .i64 0)).set 1 (.string ⟨#[]⟩)).cell (i := 1) (v := .string ⟨#[]⟩) rfl)))
    all_goals (first | exact bodyPost_ret (v := .tuple #[vSeg 0 ⟨#[]⟩, .int .i64 0, .bool false]) (by simp [results, Try.results157, go_sem, k0, k1]) rfl ⟨.inr ⟨HN.out, rfl⟩, (by repeat (first | exact Ext.refl _ | assumption | refine Ext.drew ?_ | refine Ext.drewN ?_ _ | refine Ext.iter ?_ _ _ | refine Ext.alloc ?_ _ | refine Ext.setCell ?_ (by first | exact Nat.le_refl _ | (simp <;> omega)) _ | refine Ext.trans2 (by assumption) ?_))⟩)
  · have hc0 : (cI == 0) = false := by simpa using h0
    have hcp : 1 ≤ cI := by omega
    go_wp2_with (first
    | (go_at_call 100; (with_reducible refine (N1.out _ (HX.out.ext (by repeat (first | exact Ext.refl _ | assumption | refine Ext.drew ?_ | refine Ext.drewN ?_ _ | refine Ext.iter ?_ _ _ | refine Ext.alloc ?_ _ | refine Ext.setCell ?_ (by first | exact Nat.le_refl _ | (simp <;> omega)) _ | refine Ext.trans2 (by assumption) ?_)))).mono ?_); rintro e w1 ⟨rfl, rfl⟩)
    | (go_at_call 100; (with_reducible refine (N2.out _ (HX.out.ext (by repeat (first | exact Ext.refl _ | assumption | refine Ext.drew ?_ | refine Ext.drewN ?_ _ | refine Ext.iter ?_ _ _ | refine Ext.alloc ?_ _ | refine Ext.setCell ?_ (by first | exact Nat.le_refl _ | (simp <;> omega)) _ | refine Ext.trans2 (by assumption) ?_)))).mono ?_); rintro e w1 ⟨rfl, rfl⟩)
    | (go_at_call 206; (with_reducible refine (modeOfB_c _ _).mono ?_); rintro e wm ⟨⟨vm, ⟨h4, rfl⟩ | ⟨h4, rfl⟩, hvm⟩, hb1⟩ <;> (obtain ⟨hc1, hf1, hk1, hz1⟩ := ecell hb1; simp at hz1; have hres := (Blk.new w #[.int .i64 0, .string ⟨#[]⟩] 107).ext hb1; have y0 := hres.cell (i := 0) (v := .int .i64 0) rfl; have y1 := hres.cell (i := 1) (v := .string ⟨#[]⟩) rfl; have y2 := hres.free; have y3 := hres.lt; have k0 := (hres.set 0 (.int .i64 0)).cell (i := 0) (v := .int .i64 0) rfl; have k1 := ((hres.set 0 (.int .i64 0)).set 1 (.string ⟨#[]⟩)).cell (i := 1) (v := .string ⟨#[]⟩) rfl); have hvm0 := Lib.hid (show ModeV wm m vm from hvm.1); replace hvm := Lib.hid hvm)
    | (go_at_call 207; (with_reducible refine (iTextWidth_c m cI _ _ (by omega) hvm0.out (by omega)).mono ?_); rintro e w2 ⟨rfl, hb2⟩; have hres2 := hres.ext hb2; have z0 := hres2.cell (i := 0) (v := .int .i64 0) rfl; have z1 := hres2.cell (i := 1) (v := .string ⟨#[]⟩) rfl; have z2 := hres2.free; have z3 := hres2.lt; have l0 := (hres2.set 0 (.int .i64 0)).cell (i := 0) (v := .int .i64 0) rfl; have l1 := ((hres2.set 0 (.int .i64 0)).set 1 (.string ⟨#[]⟩)).cell (i := 1) (v := .string ⟨#[]⟩) rfl))
    all_goals (first | (have := l0; exact bodyPost_ret (v := .tuple #[vSeg 0 ⟨#[]⟩, .int .i64 0, .bool false]) (by simp [results, Try.results157, go_sem, l0, l1]) rfl ⟨.inr ⟨HN.out, rfl⟩, (by repeat (first | exact Ext.refl _ | assumption | refine Ext.drew ?_ | refine Ext.drewN ?_ _ | refine Ext.iter ?_ _ _ | refine Ext.alloc ?_ _ | refine Ext.setCell ?_ (by first | exact Nat.le_refl _ | (simp <;> omega)) _ | refine Ext.trans2 (by assumption) ?_))⟩) | exact bodyPost_ret (v := .tuple #[vSeg 0 ⟨#[]⟩, .int .i64 0, .bool false]) (by simp [results, Try.results157, go_sem, k0, k1]) rfl ⟨.inr ⟨HN.out, rfl⟩, (by repeat (first | exact Ext.refl _ | assumption | refine Ext.drew ?_ | refine Ext.drewN ?_ _ | refine Ext.iter ?_ _ _ | refine Ext.alloc ?_ _ | refine Ext.setCell ?_ (by first | exact Nat.le_refl _ | (simp <;> omega)) _ | refine Ext.trans2 (by assumption) ?_))⟩)

theorem readSegment_c (p : Option Addr) (c : Nat) (xs : List Int) (a : Nat) (w : World) (hx : IntsAt w p xs) (hc : xs.length ≤ c) (hl : xs.length ≤ 1048576) (hb : ∀ x ∈ xs, x = 0 ∨ x = 1) (ha : a ≤ xs.length) :
    Calls Try.prog 157 #[.slice p xs.length c, .int .i64 a] w fun e w' => rdR xs a e ∧ Ext w w' := by
  by_cases h1 : xs.length < a + 11
  · exact readSegment1_c p c xs a w hx hc hl hb ha (by unfold rdS; rw [if_pos h1]) h1
  · by_cases h2 : ¬ (1 ≤ numAt xs a 3 ∧ numAt xs a 3 ≤ 4) ∨ numAt xs (a + 3) 8 = 0 ∨ (xs.length : Int) < a + 11 + textW (numAt xs a 3) (numAt xs (a + 3) 8)
    · exact readSegment2_c p c xs a w hx hc hl hb (by omega) h2
    · by_cases h3 : numAt xs a 3 ≤ 3
      · exact readSegmentM1_c p c xs a w hx hc hl hb (by omega) (by omega) (by omega) (by omega)
      · exact readSegmentM2_c p c xs a w hx hc hl hb (by omega) (by omega) (by omega) (by omega)
end Go.Proofs.Ytbnpdpmbbppnhaa
