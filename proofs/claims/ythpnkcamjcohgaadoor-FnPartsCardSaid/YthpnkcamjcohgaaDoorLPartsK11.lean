/- A world in which only one old block has turned; taking a byte into the reach of each mode. -/
import Derived.Test.YthpnkcamjcohgaaDoorLPartsK09
import Derived.Test.YthpnkcamjcohgaaDoorLPartsK05
/-! A world in which only one old block has turned; taking a byte into the reach of each mode. -/
namespace Go.Proofs.YthpnkcamjcohgaaDoor
set_option linter.unusedVariables false
set_option linter.unusedSimpArgs false
open Go.RowKit

/-- The next reach of mode m where it was x and the byte b comes before. -/
def nextR (m b x : Int) : Int := if charVal m b < 0 then 0 else min (x + 1) 255
/-- Of the modes below M the next reach is in the block, of the others the old one. -/
def RTab (x : Int → Int) (b : Int) (cs : Array Value) (M : Nat) : Prop := cs.size = 5 ∧ ∀ m : Nat, 1 ≤ m → m ≤ 4 → cs[m]? = some (.int .i64 (if m < M then nextR m b (x m) else x m))
theorem RTab.step {x : Int → Int} {b : Int} {cs : Array Value} {M : Nat} (h : RTab x b cs M) (hM : 1 ≤ M ∧ M ≤ 4) {v : Int} (hv : v = nextR M b (x M)) : RTab x b (cs.setIfInBounds M (.int .i64 v)) (M + 1) := by
  refine ⟨by simpa using h.1, fun m h1 h2 => ?_⟩
  by_cases e : m = M
  · subst e
    rw [Array.getElem?_setIfInBounds_self_of_lt (by rw [h.1]; omega), if_pos (by omega), hv]
  · rw [Array.getElem?_setIfInBounds_ne (by omega), h.2 m h1 h2]
    by_cases e2 : m < M
    · rw [if_pos e2, if_pos (by omega)]
    · rw [if_neg e2, if_neg (by omega)]

set_option maxRecDepth 100000 in
theorem take_c (g : Nat) (cs : Array Value) (t : TypeId) (x : Int → Int) (c : UInt8) (w : World) (hblk : Blk w g cs t) (hx : ∀ m : Int, 1 ≤ m → m ≤ 4 → 0 ≤ x m ∧ x m ≤ 255) (h0 : RTab x c.toNat cs 1) :
    Calls Tryd.prog 130 #[.pointer (some ⟨g, 0, none⟩), .int .u8 c.toNat] w fun e w' => (e = .returned (.tuple #[]) ∧ ∃ cs', Blk w' g cs' t ∧ RTab x c.toNat cs' 5) ∧ But g w w' := by
  have h8 : c.toNat < 256 := UInt8.toNat_lt _
  have hwr := wrapByte c
  have HZ := Lib.hid h0; clear h0
  have hna1 : ∀ (S : ByteArray) (p : Option Addr) (n : Nat) w, (nilAhead 377 239 (.agg #[.string S, .slice p n n]) (nthInv Tryd.f130 0)).run Tryd.prog w = .ok (some false) w := fun S p n w => by kernel_rfl
  conv at hna1 => intro S p n w; lhs; arg 2; arg 4; whnf
  have hme1 : ∀ (S : ByteArray) (p : Option Addr) (n : Nat) w, (method 377 239 (.agg #[.string S, .slice p n n]) (nthInv Tryd.f130 0)).run Tryd.prog w = .ok (229, (.agg #[.string S, .slice p n n])) w := fun S p n w => by kernel_rfl
  conv at hme1 => intro S p n w; lhs; arg 2; arg 4; whnf
  have hna2 : ∀  w, (nilAhead 377 241 (.agg #[]) (nthInv Tryd.f130 0)).run Tryd.prog w = .ok (some false) w := fun  w => by kernel_rfl
  conv at hna2 => intro  w; lhs; arg 2; arg 4; whnf
  have hme2 : ∀  w, (method 377 241 (.agg #[]) (nthInv Tryd.f130 0)).run Tryd.prog w = .ok (234, (.agg #[])) w := fun  w => by kernel_rfl
  conv at hme2 => intro  w; lhs; arg 2; arg 4; whnf
  have HA := fun m => Lib.hid (modeSet_ascii m)
  have HS := fun m => Lib.hid (modeSet_size m)
  go_enter Tryd.func130, Tryd.ntmps130
  go_wp2_with fail
  go_loopw [4] (fun i wr => ∃ (M : Nat) (cs : Array Value), 1 ≤ M ∧ M ≤ 5 ∧ i = .int .i64 M ∧ Blk wr g cs t ∧ Hid (RTab x c.toNat cs M) ∧ But g w wr) (fun i _ => (5 - intOf i).toNat)
  case atStart => exact ⟨1, _, by omega, by omega, rfl, hblk, HZ, But.refl _ _⟩
  case round =>
    obtain ⟨M, cs, hM1, hM2, rfl, hblk1, HW, hext⟩ := hrel
    by_cases hlt : M ≤ 4
    · have hq1 := hblk1.cell (HW.out.2 M hM1 hlt)
      rw [if_neg (by omega)] at hq1
      have hq2 := hblk1.free
      have hq3 := hblk1.lt
      have g1 : (M : Int) < 5 := by omega
      have hxM := hx M (by omega) (by omega)
      have hc0 := HW.out.2 M hM1 hlt
      rw [if_neg (by omega)] at hc0
      go_wp2_with (first
        | ((with_reducible refine wpList_invoke_of (nthInv Tryd.f130 0) ?_ 239 229 Tryd.func229 ?_); rfl; refine ⟨_, rfl, (by kernel_rfl), (by kernel_rfl), (by kernel_rfl), ?_⟩; simp only [List.map_toArray, List.map_cons, List.map_nil, List.append_toArray, List.cons_append, List.nil_append, Act.eval]; go_simp)
        | (go_at_call 229; (with_reducible refine (listedValue_c _ _ _ _ _ _ (HA _).out (by have := (HS M).out; omega)).mono ?_); rintro e w1 ⟨rfl, hb⟩; (obtain ⟨hc, hf, hk, hz⟩ := ecell hb; try (have hx := Ext.trans2 hb (by assumption); obtain ⟨hcx, hfx, hkx, hzx⟩ := ecell hx)); try simp at hz)
        | ((with_reducible refine wpList_invoke_of (nthInv Tryd.f130 0) ?_ 241 234 Tryd.func234 ?_); rfl; refine ⟨_, rfl, (by kernel_rfl), (by kernel_rfl), (by kernel_rfl), ?_⟩; simp only [List.map_toArray, List.map_cons, List.map_nil, List.append_toArray, List.cons_append, List.nil_append, Act.eval]; go_simp)
        | (go_at_call 234; (with_reducible refine (plainValue_c _ _).mono ?_); rintro e w1 ⟨rfl, hb⟩; (obtain ⟨hc, hf, hk, hz⟩ := ecell hb; try (have hx := Ext.trans2 hb (by assumption); obtain ⟨hcx, hfx, hkx, hzx⟩ := ecell hx)); try simp at hz)
        | (go_at_call 151; refine (modeOf_c _ _).mono ?_; rintro e w1 ⟨⟨v, ⟨h4, rfl⟩ | ⟨h4, rfl⟩, ⟨hm', p, n, rfl, hn, hi⟩ | ⟨hm', rfl⟩⟩, hb⟩ <;> go_prune; all_goals ((obtain ⟨hc, hf, hk, hz⟩ := ecell hb; try (have hx := Ext.trans2 hb (by assumption); obtain ⟨hcx, hfx, hkx, hzx⟩ := ecell hx)))))
      all_goals have hE : Ext wr w1 := (by repeat (first | exact Ext.refl _ | assumption | refine Ext.drew ?_ | refine Ext.drewN ?_ _ | refine Ext.iter ?_ _ _ | refine Ext.alloc ?_ _ | refine Ext.setCell ?_ (by first | exact Nat.le_refl _ | (simp <;> omega)) _ | refine Ext.trans2 (by assumption) ?_))
      all_goals have hq4 := (hblk1.ext hE).cell hc0
      all_goals have hq5 := (hblk1.ext hE).free
      all_goals have hq6 := (hblk1.ext hE)
      · have hcv : charVal M c.toNat < 0 := by rw [charVal_listed hm' (by omega)]; assumption
        refine ⟨⟨M + 1, _, by omega, by omega, by go_num, hq6.set _ _, Lib.hid (HW.out.step ⟨hM1, hlt⟩ (by rw [nextR, if_pos hcv])), (hext.trans (But.of hE)).trans (But.set _ _ _ _)⟩, by simp [intOf]; omega⟩
      · have hcv : ¬ charVal M c.toNat < 0 := by rw [charVal_listed hm' (by omega)]; omega
        have e1 := IntWalk.i64_in (x M + 1) (by omega)
        go_region
        all_goals clear e1
        all_goals go_wp2
        all_goals refine ⟨⟨M + 1, _, by omega, by omega, by go_num, (hq6.drewN _).set _ _, Lib.hid (HW.out.step ⟨hM1, hlt⟩ (by rw [nextR, if_neg hcv]; omega)), (hext.trans (But.of (hE.drewN _))).trans (But.set _ _ _ _)⟩, by simp [intOf]; omega⟩
      · have hcv : ¬ charVal M c.toNat < 0 := by simp [charVal, show (M : Int) = 4 by omega]; omega
        have e1 := IntWalk.i64_in (x M + 1) (by omega)
        go_region
        all_goals clear e1
        all_goals go_wp2
        all_goals refine ⟨⟨M + 1, _, by omega, by omega, by go_num, (hq6.drewN _).set _ _, Lib.hid (HW.out.step ⟨hM1, hlt⟩ (by rw [nextR, if_neg hcv]; omega)), (hext.trans (But.of (hE.drewN _))).trans (But.set _ _ _ _)⟩, by simp [intOf]; omega⟩
    · go_wp2
      go_end0
      obtain rfl : M = 5 := by omega
      exact ⟨⟨rfl, cs, hblk1, HW.out⟩, hext⟩
end Go.Proofs.YthpnkcamjcohgaaDoor

/-! The best segmentation: the table of choices. -/
namespace Go.Proofs.YthpnkcamjcohgaaDoor
set_option linter.unusedVariables false
set_option linter.unusedSimpArgs false
open Go.RowKit

def Cell.val (c : Cell) : Value := .agg #[.int .i64 c.len, .int .i64 c.cnt, .int .i64 c.size, .int .i64 c.mode]
def Cell.cells (c : Cell) : Array Value := #[.int .i64 c.len, .int .i64 c.cnt, .int .i64 c.size, .int .i64 c.mode]
/-- The table holds the choices of the rests of up to d bytes. -/
def DTab (s : ByteArray) (cs : Array Value) (d : Nat) : Prop := cs.size = (s.size + 1) * 4 ∧ ∀ j, j ≤ d → j ≤ s.size → ∀ k, k < 4 → cs[(s.size - j) * 4 + k]? = (cell s j).cells[k]?
theorem DTab.zero (s : ByteArray) : DTab s (madeCells Cell.zero.val.cells ((s.size + 1) * 4)) 0 := by
  refine ⟨size_madeCells _ _, fun j h1 h2 k hk => ?_⟩
  obtain rfl : j = 0 := by omega
  rw [made_get (by omega), cell_zero]
  have e : ((s.size - 0) * 4 + k) % Cell.zero.val.cells.size = k := by
    show ((s.size - 0) * 4 + k) % 4 = k
    omega
  rw [e]
  match k, hk with
  | 0, _ => rfl
  | 1, _ => rfl
  | 2, _ => rfl
  | 3, _ => rfl
theorem DTab.at4 {s : ByteArray} {cs : Array Value} {d t : Nat} (h : DTab s cs d) (hd : d < s.size) (h1 : 1 ≤ t) (h2 : t ≤ d + 1) :
    cs[(s.size - 1 - d + t) * 4]? = some (.int .i64 (cell s (d + 1 - t)).len) ∧ cs[(s.size - 1 - d + t) * 4 + 1]? = some (.int .i64 (cell s (d + 1 - t)).cnt) ∧
    cs[(s.size - 1 - d + t) * 4 + 2]? = some (.int .i64 (cell s (d + 1 - t)).size) ∧ cs[(s.size - 1 - d + t) * 4 + 3]? = some (.int .i64 (cell s (d + 1 - t)).mode) := by
  have e : s.size - 1 - d + t = s.size - (d + 1 - t) := by omega
  rw [e]
  have := h.2 (d + 1 - t) (by omega) (by omega)
  exact ⟨this 0 (by omega), this 1 (by omega), this 2 (by omega), this 3 (by omega)⟩
def put4 (cs : Array Value) (o : Nat) (c : Cell) : Array Value :=
  (((cs.setIfInBounds o (.int .i64 c.len)).setIfInBounds (o + 1) (.int .i64 c.cnt)).setIfInBounds (o + 2) (.int .i64 c.size)).setIfInBounds (o + 3) (.int .i64 c.mode)
theorem put4_ne {cs : Array Value} {o i : Nat} {c : Cell} (h : i < o ∨ o + 4 ≤ i) : (put4 cs o c)[i]? = cs[i]? := by
  unfold put4
  rw [Array.getElem?_setIfInBounds_ne (by omega), Array.getElem?_setIfInBounds_ne (by omega), Array.getElem?_setIfInBounds_ne (by omega), Array.getElem?_setIfInBounds_ne (by omega)]
theorem put4_at {cs : Array Value} {o k : Nat} {c : Cell} (h : o + 4 ≤ cs.size) (hk : k < 4) : (put4 cs o c)[o + k]? = c.cells[k]? := by
  unfold put4
  match k, hk with
  | 3, _ => rw [Array.getElem?_setIfInBounds_self_of_lt (by simp; omega)]; rfl
  | 2, _ => rw [Array.getElem?_setIfInBounds_ne (by omega), Array.getElem?_setIfInBounds_self_of_lt (by simp; omega)]; rfl
  | 1, _ => rw [Array.getElem?_setIfInBounds_ne (by omega), Array.getElem?_setIfInBounds_ne (by omega), Array.getElem?_setIfInBounds_self_of_lt (by simp; omega)]; rfl
  | 0, _ => rw [Array.getElem?_setIfInBounds_ne (by omega), Array.getElem?_setIfInBounds_ne (by omega), Array.getElem?_setIfInBounds_ne (by omega), Nat.add_zero, Array.getElem?_setIfInBounds_self_of_lt (by omega)]; rfl
theorem DTab.put {s : ByteArray} {cs : Array Value} {d : Nat} (h : DTab s cs d) (hd : d < s.size) : DTab s (put4 cs ((s.size - 1 - d) * 4) (cell s (d + 1))) (d + 1) := by
  refine ⟨by simp [put4, h.1], fun j h1 h2 k hk => ?_⟩
  by_cases e : j = d + 1
  · subst e
    rw [show s.size - (d + 1) = s.size - 1 - d by omega]
    exact put4_at (by rw [h.1]; omega) hk
  · rw [put4_ne (by omega)]
    exact h.2 j (by omega) h2 k hk
theorem Blk.put4 {w : World} {g : Nat} {t : TypeId} {cs : Array Value} (h : Blk w g cs t) (o : Nat) (x : Cell) :
    Blk ((((w.setCell ⟨g, o, none⟩ (.int .i64 x.len)).setCell ⟨g, o + 1, none⟩ (.int .i64 x.cnt)).setCell ⟨g, o + 2, none⟩ (.int .i64 x.size)).setCell ⟨g, o + 3, none⟩ (.int .i64 x.mode)) g (put4 cs o x) t :=
  (((h.set o (.int .i64 x.len)).set (o + 1) (.int .i64 x.cnt)).set (o + 2) (.int .i64 x.size)).set (o + 3) (.int .i64 x.mode)
section
variable {w wr w' : World} {gT gF gw gb : Nat} {csT csF csw : Array Value}
end
theorem Blk.set4 {w : World} {g : Nat} {t : TypeId} {a b c d : Value} (h : Blk w g #[a, b, c, d] t) (x : Cell) :
    Blk ((((w.setCell ⟨g, 0, none⟩ (.int .i64 x.len)).setCell ⟨g, 1, none⟩ (.int .i64 x.cnt)).setCell ⟨g, 2, none⟩ (.int .i64 x.size)).setCell ⟨g, 3, none⟩ (.int .i64 x.mode)) g x.cells t := by
  have := (((h.set 0 (.int .i64 x.len)).set 1 (.int .i64 x.cnt)).set 2 (.int .i64 x.size)).set 3 (.int .i64 x.mode)
  simpa [Cell.cells] using this
theorem Cell.upd_t {b x : Cell} (h : (b.cnt == 0) = true ∨ x.better b = true) : b.upd x = x := by
  rw [Cell.upd, if_pos (by simpa using h)]
theorem Cell.upd_f {b x : Cell} (h : (b.cnt == 0) = false ∧ x.better b = false) : b.upd x = b := by
  rw [Cell.upd, if_neg (by simp at h; simp [h])]
theorem foldM_at (s : ByteArray) (L : Nat → Cell) (d M : Nat) (h : 1 ≤ M) : foldM s L d M = foldT L d M (foldM s L d (M - 1)) (farF M s d) := by
  obtain ⟨k, rfl⟩ : ∃ k, M = k + 1 := ⟨M - 1, by omega⟩
  rfl
end Go.Proofs.YthpnkcamjcohgaaDoor
