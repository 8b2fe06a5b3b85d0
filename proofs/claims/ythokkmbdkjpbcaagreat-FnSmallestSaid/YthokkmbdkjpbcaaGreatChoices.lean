
/- A world in which only one old block has turned; taking a byte into the reach of each mode. -/
import Derived.Test.YthokkmbdkjpbcaaGreatWidths
import Derived.Test.YthokkmbdkjpbcaaGreatStructs
/-! A world in which only one old block has turned; taking a byte into the reach of each mode. -/
namespace Go.Proofs.YthokkmbdkjpbcaaGreat
set_option linter.unusedVariables false
set_option linter.unusedSimpArgs false
open Go.RowKit

/-- The next reach of mode m where it was x and the byte b comes before. -/
def nextR (m b x : Int) : Int := if charVal m b < 0 then 0 else min (x + 1) 255
/-- Of the modes below M the next reach is in the block, of the others the old one. -/
def RTab (x : Int → Int) (b : Int) (cs : Array Value) (M : Nat) : Prop := cs.size = 5 ∧ ∀ m : Nat, 1 ≤ m → m ≤ 4 → cs[m]? = some (.int .i64 (if m < M then nextR m b (x m) else x m))
theorem RTab.step {x : Int → Int} {b : Int} {cs : Array Value} {M : Nat} (h : RTab x b cs M) (hM : 1 ≤ M ∧ M ≤ 4) {v : Int} (hv : v = nextR M b (x M)) : RTab x b (cs.setIfInBounds M (.int .i64 v)) (M + 1) := by
  refine ⟨by simpa using h.1, fun m h1 h2 => ?_⟩
  by_cases e : m = M
  · subst e
    rw [Array.getElem?_setIfInBounds_self_of_lt (by rw [h.1]; omega), if_pos (by omega), hv]
  · rw [Array.getElem?_setIfInBounds_ne (by omega), h.2 m h1 h2]
    by_cases e2 : m < M
    · rw [if_pos e2, if_pos (by omega)]
    · rw [if_neg e2, if_neg (by omega)]

set_option maxRecDepth 100000 in
theorem take_c (g : Nat) (cs : Array Value) (t : TypeId) (x : Int → Int) (c : UInt8) (w : World) (hblk : Blk w g cs t) (hx : ∀ m : Int, 1 ≤ m → m ≤ 4 → 0 ≤ x m ∧ x m ≤ 255) (h0 : RTab x c.toNat cs 1) :
    Calls Tryz.prog 74 #[.pointer (some ⟨g, 0, none⟩), .int .u8 c.toNat] w fun e w' => (e = .returned (.tuple #[]) ∧ ∃ cs', Blk w' g cs' t ∧ RTab x c.toNat cs' 5) ∧ But g w w' := by
  have h8 : c.toNat < 256 := UInt8.toNat_lt _
  have hwr := wrapByte c
  have HZ := Lib.hid h0; clear h0
  have hna1 : ∀ (S : ByteArray) (p : Option Addr) (n : Nat) w, (nilAhead 266 132 (.agg #[.string S, .slice p n n]) (nthInv Tryz.f74 0)).run Tryz.prog w = .ok (some false) w := fun S p n w => by kernel_rfl
  conv at hna1 => intro S p n w; lhs; arg 2; arg 4; whnf
  have hme1 : ∀ (S : ByteArray) (p : Option Addr) (n : Nat) w, (method 266 132 (.agg #[.string S, .slice p n n]) (nthInv Tryz.f74 0)).run Tryz.prog w = .ok (129, (.agg #[.string S, .slice p n n])) w := fun S p n w => by kernel_rfl
  conv at hme1 => intro S p n w; lhs; arg 2; arg 4; whnf
  have hna2 : ∀  w, (nilAhead 266 134 (.agg #[]) (nthInv Tryz.f74 0)).run Tryz.prog w = .ok (some false) w := fun  w => by kernel_rfl
  conv at hna2 => intro  w; lhs; arg 2; arg 4; whnf
  have hme2 : ∀  w, (method 266 134 (.agg #[]) (nthInv Tryz.f74 0)).run Tryz.prog w = .ok (134, (.agg #[])) w := fun  w => by kernel_rfl
  conv at hme2 => intro  w; lhs; arg 2; arg 4; whnf
  have HA := fun m => Lib.hid (modeSet_ascii m)
  have HS := fun m => Lib.hid (modeSet_size m)
  go_enter Tryz.func74, Tryz.ntmps74
  go_wp2_with fail
  go_loopw [4] (fun i wr => ∃ (M : Nat) (cs : Array Value), 1 ≤ M ∧ M ≤ 5 ∧ i = .int .i64 M ∧ Blk wr g cs t ∧ Hid (RTab x c.toNat cs M) ∧ But g w wr) (fun i _ => (5 - intOf i).toNat)
  case atStart => exact ⟨1, _, by omega, by omega, rfl, hblk, HZ, But.refl _ _⟩
  case round =>
    obtain ⟨M, cs, hM1, hM2, rfl, hblk1, HW, hext⟩ := hrel
    by_cases hlt : M ≤ 4
    · have hq1 := hblk1.cell (HW.out.2 M hM1 hlt)
      rw [if_neg (by omega)] at hq1
      have hq2 := hblk1.free
      have hq3 := hblk1.lt
      have g1 : (M : Int) < 5 := by omega
      have hxM := hx M (by omega) (by omega)
      have hc0 := HW.out.2 M hM1 hlt
      rw [if_neg (by omega)] at hc0
      go_wp2_with (first
        | ((with_reducible refine wpList_invoke_of (nthInv Tryz.f74 0) ?_ 132 129 Tryz.func129 ?_); rfl; refine ⟨_, rfl, (by kernel_rfl), (by kernel_rfl), (by kernel_rfl), ?_⟩; simp only [List.map_toArray, List.map_cons, List.map_nil, List.append_toArray, List.cons_append, List.nil_append, Act.eval]; go_simp)
        | (go_at_call 129; (with_reducible refine (listedValue_c _ _ _ _ _ _ (HA _).out (by have := (HS M).out; omega)).mono ?_); rintro e w1 ⟨rfl, hb⟩; (obtain ⟨hc, hf, hk, hz⟩ := ecell hb; try (have hx := Ext.trans2 hb (by assumption); obtain ⟨hcx, hfx, hkx, hzx⟩ := ecell hx)); try simp at hz)
        | ((with_reducible refine wpList_invoke_of (nthInv Tryz.f74 0) ?_ 134 134 Tryz.func134 ?_); rfl; refine ⟨_, rfl, (by kernel_rfl), (by kernel_rfl), (by kernel_rfl), ?_⟩; simp only [List.map_toArray, List.map_cons, List.map_nil, List.append_toArray, List.cons_append, List.nil_append, Act.eval]; go_simp)
        | (go_at_call 134; (with_reducible refine (plainValue_c _ _).mono ?_); rintro e w1 ⟨rfl, hb⟩; (obtain ⟨hc, hf, hk, hz⟩ := ecell hb; try (have hx := Ext.trans2 hb (by assumption); obtain ⟨hcx, hfx, hkx, hzx⟩ := ecell hx)); try simp at hz)
        | (go_at_call 84; refine (modeOf_c _ _).mono ?_; rintro e w1 ⟨⟨v, ⟨h4, rfl⟩ | ⟨h4, rfl⟩, ⟨hm', p, n, rfl, hn, hi⟩ | ⟨hm', rfl⟩⟩, hb⟩ <;> go_prune; all_goals ((obtain ⟨hc, hf, hk, hz⟩ := ecell hb; try (have hx := Ext.trans2 hb (by assumption); obtain ⟨hcx, hfx, hkx, hzx⟩ := ecell hx)))))
      all_goals have hE : Ext wr w1 := (by repeat (first | exact Ext.refl _ | assumption | refine Ext.drew ?_ | refine Ext.drewN ?_ _ | refine Ext.iter ?_ _ _ | refine Ext.alloc ?_ _ | refine Ext.setCell ?_ (by first | exact Nat.le_refl _ | (simp <;> omega)) _ | refine Ext.trans2 (by assumption) ?_))
      all_goals have hq4 := (hblk1.ext hE).cell hc0
      all_goals have hq5 := (hblk1.ext hE).free
      all_goals have hq6 := (hblk1.ext hE)
      · have hcv : charVal M c.toNat < 0 := by rw [charVal_listed hm' (by omega)]; assumption
        refine ⟨⟨M + 1, _, by omega, by omega, by go_num, hq6.set _ _, Lib.hid (HW.out.step ⟨hM1, hlt⟩ (by rw [nextR, if_pos hcv])), (hext.trans (But.of hE)).trans (But.set _ _ _ _)⟩, by simp [intOf]; omega⟩
      · have hcv : ¬ charVal M c.toNat < 0 := by rw [charVal_listed hm' (by omega)]; omega
        have e1 := IntWalk.i64_in (x M + 1) (by omega)
        go_region
        all_goals clear e1
        all_goals go_wp2
        all_goals refine ⟨⟨M + 1, _, by omega, by omega, by go_num, (hq6.drewN _).set _ _, Lib.hid (HW.out.step ⟨hM1, hlt⟩ (by rw [nextR, if_neg hcv]; omega)), (hext.trans (But.of (hE.drewN _))).trans (But.set _ _ _ _)⟩, by simp [intOf]; omega⟩
      · have hcv : ¬ charVal M c.toNat < 0 := by simp [charVal, show (M : Int) = 4 by omega]; omega
        have e1 := IntWalk.i64_in (x M + 1) (by omega)
        go_region
        all_goals clear e1
        all_goals go_wp2
        all_goals refine ⟨⟨M + 1, _, by omega, by omega, by go_num, (hq6.drewN _).set _ _, Lib.hid (HW.out.step ⟨hM1, hlt⟩ (by rw [nextR, if_neg hcv]; omega)), (hext.trans (But.of (hE.drewN _))).trans (But.set _ _ _ _)⟩, by simp [intOf]; omega⟩
    · go_wp2
      go_end0
      obtain rfl : M = 5 := by omega
      exact ⟨⟨rfl, cs, hblk1, HW.out⟩, hext⟩
end Go.Proofs.YthokkmbdkjpbcaaGreat

/-! The best segmentation: the table of choices. -/
namespace Go.Proofs.YthokkmbdkjpbcaaGreat
set_option linter.unusedVariables false
set_option linter.unusedSimpArgs false
open Go.RowKit

def Cell.val (c : Cell) : Value := .agg #[.int .i64 c.len, .int .i64 c.cnt, .int .i64 c.size, .int .i64 c.mode]
theorem better_c (a b : Cell) (w : World) :
    Calls Tryz.prog 75 #[a.val, b.val] w fun e w' => e = .returned (.bool (a.better b)) ∧ Ext w w' := by
  unfold Cell.better Cell.val
  by_cases h1 : a.len = b.len
  · by_cases h2 : a.cnt = b.cnt
    · by_cases h3 : a.size = b.size
      · simp only [h1, h2, h3, ne_eq, not_true_eq_false, if_false]
        go_enter Tryz.func75, Tryz.ntmps75
        go_wp2
        go_ret
        exact ⟨rfl, (by repeat (first | exact Ext.refl _ | assumption | refine Ext.drew ?_ | refine Ext.drewN ?_ _ | refine Ext.iter ?_ _ _ | refine Ext.alloc ?_ _ | refine Ext.setCell ?_ (by first | exact Nat.le_refl _ | (simp <;> omega)) _ | refine Ext.trans2 (by assumption) ?_))⟩
      · simp only [h1, h2, h3, ne_eq, not_true_eq_false, not_false_eq_true, if_true, if_false]
        go_enter Tryz.func75, Tryz.ntmps75
        go_wp2
        go_ret
        exact ⟨rfl, (by repeat (first | exact Ext.refl _ | assumption | refine Ext.drew ?_ | refine Ext.drewN ?_ _ | refine Ext.iter ?_ _ _ | refine Ext.alloc ?_ _ | refine Ext.setCell ?_ (by first | exact Nat.le_refl _ | (simp <;> omega)) _ | refine Ext.trans2 (by assumption) ?_))⟩
    · simp only [h1, h2, ne_eq, not_true_eq_false, not_false_eq_true, if_true, if_false]
      go_enter Tryz.func75, Tryz.ntmps75
      go_wp2
      go_ret
      exact ⟨rfl, (by repeat (first | exact Ext.refl _ | assumption | refine Ext.drew ?_ | refine Ext.drewN ?_ _ | refine Ext.iter ?_ _ _ | refine Ext.alloc ?_ _ | refine Ext.setCell ?_ (by first | exact Nat.le_refl _ | (simp <;> omega)) _ | refine Ext.trans2 (by assumption) ?_))⟩
  · simp only [h1, ne_eq, not_true_eq_false, not_false_eq_true, if_true, if_false]
    go_enter Tryz.func75, Tryz.ntmps75
    go_wp2
    go_ret
    exact ⟨rfl, (by repeat (first | exact Ext.refl _ | assumption | refine Ext.drew ?_ | refine Ext.drewN ?_ _ | refine Ext.iter ?_ _ _ | refine Ext.alloc ?_ _ | refine Ext.setCell ?_ (by first | exact Nat.le_refl _ | (simp <;> omega)) _ | refine Ext.trans2 (by assumption) ?_))⟩

def Cell.cells (c : Cell) : Array Value := #[.int .i64 c.len, .int .i64 c.cnt, .int .i64 c.size, .int .i64 c.mode]
/-- The table holds the choices of the rests of up to d bytes. -/
def DTab (s : ByteArray) (cs : Array Value) (d : Nat) : Prop := cs.size = (s.size + 1) * 4 ∧ ∀ j, j ≤ d → j ≤ s.size → ∀ k, k < 4 → cs[(s.size - j) * 4 + k]? = (cell s j).cells[k]?
theorem DTab.zero (s : ByteArray) : DTab s (madeCells Cell.zero.val.cells ((s.size + 1) * 4)) 0 := by
  refine ⟨size_madeCells _ _, fun j h1 h2 k hk => ?_⟩
  obtain rfl : j = 0 := by omega
  rw [made_get (by omega), cell_zero]
  have e : ((s.size - 0) * 4 + k) % Cell.zero.val.cells.size = k := by
    show ((s.size - 0) * 4 + k) % 4 = k
    omega
  rw [e]
  match k, hk with
  | 0, _ => rfl
  | 1, _ => rfl
  | 2, _ => rfl
  | 3, _ => rfl
theorem DTab.at4 {s : ByteArray} {cs : Array Value} {d t : Nat} (h : DTab s cs d) (hd : d < s.size) (h1 : 1 ≤ t) (h2 : t ≤ d + 1) :
    cs[(s.size - 1 - d + t) * 4]? = some (.int .i64 (cell s (d + 1 - t)).len) ∧ cs[(s.size - 1 - d + t) * 4 + 1]? = some (.int .i64 (cell s (d + 1 - t)).cnt) ∧
    cs[(s.size - 1 - d + t) * 4 + 2]? = some (.int .i64 (cell s (d + 1 - t)).size) ∧ cs[(s.size - 1 - d + t) * 4 + 3]? = some (.int .i64 (cell s (d + 1 - t)).mode) := by
  have e : s.size - 1 - d + t = s.size - (d + 1 - t) := by omega
  rw [e]
  have := h.2 (d + 1 - t) (by omega) (by omega)
  exact ⟨this 0 (by omega), this 1 (by omega), this 2 (by omega), this 3 (by omega)⟩
def put4 (cs : Array Value) (o : Nat) (c : Cell) : Array Value :=
  (((cs.setIfInBounds o (.int .i64 c.len)).setIfInBounds (o + 1) (.int .i64 c.cnt)).setIfInBounds (o + 2) (.int .i64 c.size)).setIfInBounds (o + 3) (.int .i64 c.mode)
theorem put4_ne {cs : Array Value} {o i : Nat} {c : Cell} (h : i < o ∨ o + 4 ≤ i) : (put4 cs o c)[i]? = cs[i]? := by
  unfold put4
  rw [Array.getElem?_setIfInBounds_ne (by omega), Array.getElem?_setIfInBounds_ne (by omega), Array.getElem?_setIfInBounds_ne (by omega), Array.getElem?_setIfInBounds_ne (by omega)]
theorem put4_at {cs : Array Value} {o k : Nat} {c : Cell} (h : o + 4 ≤ cs.size) (hk : k < 4) : (put4 cs o c)[o + k]? = c.cells[k]? := by
  unfold put4
  match k, hk with
  | 3, _ => rw [Array.getElem?_setIfInBounds_self_of_lt (by simp; omega)]; rfl
  | 2, _ => rw [Array.getElem?_setIfInBounds_ne (by omega), Array.getElem?_setIfInBounds_self_of_lt (by simp; omega)]; rfl
  | 1, _ => rw [Array.getElem?_setIfInBounds_ne (by omega), Array.getElem?_setIfInBounds_ne (by omega), Array.getElem?_setIfInBounds_self_of_lt (by simp; omega)]; rfl
  | 0, _ => rw [Array.getElem?_setIfInBounds_ne (by omega), Array.getElem?_setIfInBounds_ne (by omega), Array.getElem?_setIfInBounds_ne (by omega), Nat.add_zero, Array.getElem?_setIfInBounds_self_of_lt (by omega)]; rfl
theorem DTab.put {s : ByteArray} {cs : Array Value} {d : Nat} (h : DTab s cs d) (hd : d < s.size) : DTab s (put4 cs ((s.size - 1 - d) * 4) (cell s (d + 1))) (d + 1) := by
  refine ⟨by simp [put4, h.1], fun j h1 h2 k hk => ?_⟩
  by_cases e : j = d + 1
  · subst e
    rw [show s.size - (d + 1) = s.size - 1 - d by omega]
    exact put4_at (by rw [h.1]; omega) hk
  · rw [put4_ne (by omega)]
    exact h.2 j (by omega) h2 k hk
theorem Blk.put4 {w : World} {g : Nat} {t : TypeId} {cs : Array Value} (h : Blk w g cs t) (o : Nat) (x : Cell) :
    Blk ((((w.setCell ⟨g, o, none⟩ (.int .i64 x.len)).setCell ⟨g, o + 1, none⟩ (.int .i64 x.cnt)).setCell ⟨g, o + 2, none⟩ (.int .i64 x.size)).setCell ⟨g, o + 3, none⟩ (.int .i64 x.mode)) g (put4 cs o x) t :=
  (((h.set o (.int .i64 x.len)).set (o + 1) (.int .i64 x.cnt)).set (o + 2) (.int .i64 x.size)).set (o + 3) (.int .i64 x.mode)
/-- What stays in the loops over the beginnings. -/
structure Env (w : World) (gT gF gw gb : Nat) (csT csF csw : Array Value) (wr : World) : Prop where
  t : Blk wr gT csT 82
  f : Blk wr gF csF 103
  wd : Blk wr gw csw 117
  e : Ext w wr
  n : gT ≠ gb ∧ gF ≠ gb ∧ gw ≠ gb ∧ w.heap.size ≤ gb
section
variable {w wr w' : World} {gT gF gw gb : Nat} {csT csF csw : Array Value}
theorem Env.ext (h : Env w gT gF gw gb csT csF csw wr) (hb : Ext wr w') : Env w gT gF gw gb csT csF csw w' := ⟨h.t.ext hb, h.f.ext hb, h.wd.ext hb, h.e.trans hb, h.n⟩
theorem Env.set (h : Env w gT gF gw gb csT csF csw wr) (i : Nat) (v : Value) : Env w gT gF gw gb csT csF csw (wr.setCell ⟨gb, i, none⟩ v) :=
  ⟨h.t.far h.n.1 v, h.f.far h.n.2.1 v, h.wd.far h.n.2.2.1 v, h.e.setCell h.n.2.2.2 v, h.n⟩
end
theorem Blk.set4 {w : World} {g : Nat} {t : TypeId} {a b c d : Value} (h : Blk w g #[a, b, c, d] t) (x : Cell) :
    Blk ((((w.setCell ⟨g, 0, none⟩ (.int .i64 x.len)).setCell ⟨g, 1, none⟩ (.int .i64 x.cnt)).setCell ⟨g, 2, none⟩ (.int .i64 x.size)).setCell ⟨g, 3, none⟩ (.int .i64 x.mode)) g x.cells t := by
  have := (((h.set 0 (.int .i64 x.len)).set 1 (.int .i64 x.cnt)).set 2 (.int .i64 x.size)).set 3 (.int .i64 x.mode)
  simpa [Cell.cells] using this
theorem Cell.upd_t {b x : Cell} (h : (b.cnt == 0) = true ∨ x.better b = true) : b.upd x = x := by
  rw [Cell.upd, if_pos (by simpa using h)]
theorem Cell.upd_f {b x : Cell} (h : (b.cnt == 0) = false ∧ x.better b = false) : b.upd x = b := by
  rw [Cell.upd, if_neg (by simp at h; simp [h])]
theorem foldM_at (s : ByteArray) (L : Nat → Cell) (d M : Nat) (h : 1 ≤ M) : foldM s L d M = foldT L d M (foldM s L d (M - 1)) (farF M s d) := by
  obtain ⟨k, rfl⟩ : ∃ k, M = k + 1 := ⟨M - 1, by omega⟩
  rfl
theorem nextR_far (m : Int) (s : ByteArray) (d : Nat) (h : d < s.size) : nextR m (byteAt s (s.size - (d + 1))) (farF m s d) = farF m s (d + 1) := by
  have := farF_le m s d
  simp only [nextR, farF]
  split <;> omega

set_option maxHeartbeats 2000000 in
set_option maxRecDepth 100000 in
theorem choices_c (s : ByteArray) (w : World) (hs : s.size ≤ 1048576) :
    Calls Tryz.prog 55 #[.string s] w fun e w' => (∃ g cs, e = .returned (.slice (some ⟨g, 0, none⟩) (s.size + 1) (s.size + 1)) ∧ w.heap.size ≤ g ∧ Blk w' g cs 82 ∧ DTab s cs s.size) ∧ Ext w w' := by
  have hI1 : Tryz.prog.underlying 83 = some (.slice 82) := by kernel_rfl
  have hI2 : (Tryz.prog.info? 82).map (fun i => (i.zero, i.size, i.bytes)) = some (some Cell.zero.val, 4, 32) := by kernel_rfl
  go_enter Tryz.func55, Tryz.ntmps55
  go_wp2_with (first
    | (at_make; go_loud (refine make_blk hI1 hI2 (s.size + 1) ?_ ?_ (by omega) (by omega) ?_; rfl; rfl))
    | (go_at_call 73; refine (widths_c _).mono ?_; rintro e w1 ⟨⟨gw, csw, rfl, hgw, hblkw, hW⟩, hb⟩; replace hW := Lib.hid hW))
  have hbT := (Blk.new w (madeCells Cell.zero.val.cells ((s.size + 1) * 4)) 82).ext hb
  have hD := Lib.hid (DTab.zero s)
  have hgT := hbT.lt
  have hgw2 := hblkw.lt
  have hgw3 : w.heap.size < gw := by rw [World.size_alloc] at hgw; omega
  have hx : Ext w w1 := ((Ext.refl w).alloc _).trans hb
  clear hb hI1 hI2 hgw
  go_loopw [6] (fun i wr => ∃ (d : Nat) (csT csF : Array Value), d ≤ s.size ∧ i = .int .i64 ((s.size : Int) - 1 - d) ∧ Blk wr w.heap.size csT 82 ∧ Blk wr w1.heap.size csF 103 ∧ Blk wr gw csw 117 ∧ Ext w wr ∧ Hid (DTab s csT d) ∧ Hid (∀ b, RTab (fun m => farF m s d) b csF 1)) (fun i _ => (intOf i + 1).toNat)
  case atStart => exact ⟨0, _, _, Nat.zero_le _, by go_num, hbT.alloc _, Blk.new _ _ _, hblkw.alloc _, hx.alloc _, hD, Lib.hid fun b => ⟨rfl, fun m h1 h2 => by match m, h1, h2 with | 1, _, _ => rfl | 2, _, _ => rfl | 3, _, _ => rfl | 4, _, _ => rfl⟩⟩
  case round =>
    obtain ⟨d, csT, csF, hd, rfl, hbT, hbF, hbW, hext, hD, hF⟩ := hrel
    by_cases hlt : d < s.size
    · have hb8 : byteAt s (s.size - (d + 1)) = (s[s.size - 1 - d]'(by omega)).toNat := by
        rw [byteAt_eq (by omega)]
        simp only [show s.size - (d + 1) = s.size - 1 - d by omega]
      have hb8 := Lib.hid hb8
      have hfl := hbF.lt
      go_wp2_with (first
        | (go_at_call 74; go_loud (refine (take_c _ _ _ (fun m => farF m s d) _ _ (hbF.alloc _) (fun m _ _ => by have := farF_le m s d; omega) (hF.out _)).mono ?_); rintro e w2 ⟨⟨rfl, csF2, hbF2, hF2⟩, hbut⟩; replace hF2 := Lib.hid hF2))
      have henv : Env w w.heap.size w1.heap.size gw wr.heap.size csT csF2 csw w2 := ⟨(hbT.alloc _).but hbut (by omega), hbF2, (hbW.alloc _).but hbut (by omega), (hext.alloc _).but hbut (by omega), by omega, by omega, by have := hbW.lt; omega, hext.below.size⟩
      have hbest := (Blk.new wr Cell.zero.cells 82).but hbut (by omega)
      have HF := Lib.hid (show csF2.size = 5 ∧ ∀ m : Nat, 1 ≤ m → m ≤ 4 → csF2[m]? = some (.int .i64 (farF m s (d + 1))) by
        refine ⟨hF2.out.1, ?_⟩
        intro m h1 h2
        rw [hF2.out.2 m h1 h2, if_pos (by omega), ← nextR_far m s d hlt, hb8.out])
      clear hbut hbF2 hF2 hb8 hext hbW hbT hbF hF hblkw
      generalize hgb : wr.heap.size = gb at *
      clear hgb
      go_loopw [8] (fun i wr' => ∃ M : Nat, 1 ≤ M ∧ M ≤ 5 ∧ i = .int .i64 M ∧ Env w w.heap.size w1.heap.size gw gb csT csF2 csw wr' ∧ Blk wr' gb (foldM s (cell s) (d + 1) (M - 1)).cells 82) (fun i _ => (5 - intOf i).toNat)
      case atStart => exact ⟨1, by omega, by omega, rfl, henv, hbest⟩
      case round =>
        clear henv hbest
        obtain ⟨M, hM1, hM2, rfl, henv, hbest⟩ := hrel
        by_cases hlt2 : M ≤ 4
        · have hdec : (M : Int) ≤ 4 := by omega
          go_wp2_with fail
          go_loopw [9] (fun i wr' => ∃ t : Nat, 1 ≤ t ∧ t ≤ farF M s (d + 1) + 1 ∧ i = .int .i64 t ∧ Env w w.heap.size w1.heap.size gw gb csT csF2 csw wr' ∧ Blk wr' gb (foldT (cell s) (d + 1) M (foldM s (cell s) (d + 1) (M - 1)) (t - 1)).cells 82) (fun i _ => (256 - intOf i).toNat)
          case atStart => exact ⟨1, by omega, by omega, rfl, henv, hbest⟩
          case round =>
            clear henv hbest
            obtain ⟨t, ht1, ht2, rfl, henv, hbest⟩ := hrel
            have hfb := farF_le M s (d + 1)
            have hfc := henv.f.cell (HF.out.2 M hM1 hlt2)
            by_cases hlt3 : t ≤ farF M s (d + 1)
            · obtain ⟨k0, k1, k2, k3⟩ := hD.out.at4 hlt ht1 (t := t) (by omega)
              have k0 := henv.t.cell k0
              have k1 := henv.t.cell k1
              have k2 := henv.t.cell k2
              have k3 := henv.t.cell k3
              have g1 : (M : Int) < 5 := by omega
              have g2 : (t : Int) < 256 := by omega
              have hok := cell_ok s (d + 1 - t)
              have hsw := segW_bd M t (by omega)
              have hwc := henv.wd.cell (hW.out.2 M t hM1 ht1 (by omega) (by omega))
              have hq1 := hbest.free
              have hq2 := hbest.lt
              go_wp2_with (first | fail)
              have hX := (Ext.refl wr).alloc (.cells (cell s (d + 1 - t)).cells 82)
              have henv := henv.ext hX
              have hbest := hbest.ext hX
              have hrest := Blk.new wr (cell s (d + 1 - t)).cells 82
              have hrlt : gb < wr.heap.size := hq2
              clear hq1 hq2 k0 k1 k2 k3 hwc hfc hX
              simp only [Cell.cells] at henv hbest hrest
              generalize wr.alloc (.cells #[.int .i64 (cell s (d + 1 - t)).len, .int .i64 (cell s (d + 1 - t)).cnt, .int .i64 (cell s (d + 1 - t)).size, .int .i64 (cell s (d + 1 - t)).mode] 82) = w5 at *
              generalize wr.heap.size = gr at *
              generalize hxc : cell s (d + 1 - t) = xc at *
              have k0 := hrest.cell (i := 0) rfl
              have k1 := hrest.cell (i := 1) rfl
              have k2 := hrest.cell (i := 2) rfl
              have k3 := hrest.cell (i := 3) rfl
              have k4 := hrest.lt
              have k5 := henv.wd.lt
              have hwc := henv.wd.cell (hW.out.2 M t hM1 ht1 (by omega) (by omega))
              have hj : ((d + 1 - t : Nat) : Int) = d + 1 - t := by omega
              simp only [Cell.ok, hj] at hok
              have e1 := IntWalk.i64_in (segW M t + xc.len) (by omega)
              have e2 := IntWalk.i64_in (xc.cnt + 1) (by omega)
              refine wp_region_canon (fun w' => Ext w5 w') [(0, true), (1, true), (2, true), (3, true), (4, true), (5, true), (6, true), (7, true), (8, true), (9, true), (10, true), (11, true), (12, true), (13, true), (14, true), (15, true), (16, false), (17, false)] (by kernel_rfl) (by kernel_rfl) (by decide) (by kernel_rfl) ?_ ?_
              · exact (by repeat (first | exact Ext.refl _ | assumption | refine Ext.drew ?_ | refine Ext.drewN ?_ _ | refine Ext.iter ?_ _ _ | refine Ext.alloc ?_ _ | refine Ext.setCell ?_ (by first | exact Nat.le_refl _ | (simp <;> omega)) _ | refine Ext.trans2 (by assumption) ?_))
              refine canon_intro fun ops eo => ?_
              have ho0 := canon_at eo 0 rfl
              have ho1 := canon_at eo 1 rfl
              have ho2 := canon_at eo 2 rfl
              have ho3 := canon_at eo 3 rfl
              have ho4 := canon_at eo 4 rfl
              have ho5 := canon_at eo 5 rfl
              have ho6 := canon_at eo 6 rfl
              have ho7 := canon_at eo 7 rfl
              have ho8 := canon_at eo 8 rfl
              have ho9 := canon_at eo 9 rfl
              have ho10 := canon_at eo 10 rfl
              have ho11 := canon_at eo 11 rfl
              have ho12 := canon_at eo 12 rfl
              have ho13 := canon_at eo 13 rfl
              have ho14 := canon_at eo 14 rfl
              have ho15 := canon_at eo 15 rfl
              have ho16 := canon_at eo 16 rfl
              have ho17 := canon_at eo 17 rfl
              clear eo
              all_goals (apply canon_st ho0 rfl; (intro w2 hS; first | (go_simp; first | done | rfl) | rfl | (obtain ⟨hc, hf, hk, hz⟩ := ecell hS; go_simp; first | done | rfl)); simp only [Act.put, List.setIfInBounds_toArray, List.set_cons_zero, List.set_cons_succ])
              all_goals clear ho0
              all_goals (apply canon_st ho1 rfl; (intro w2 hS; first | (go_simp; first | done | rfl) | rfl | (obtain ⟨hc, hf, hk, hz⟩ := ecell hS; go_simp; first | done | rfl)); simp only [Act.put, List.setIfInBounds_toArray, List.set_cons_zero, List.set_cons_succ])
              all_goals clear ho1
              all_goals (apply canon_st ho2 rfl; (intro w2 hS; first | (go_simp; first | done | rfl) | rfl | (obtain ⟨hc, hf, hk, hz⟩ := ecell hS; go_simp; first | done | rfl)); simp only [Act.put, List.setIfInBounds_toArray, List.set_cons_zero, List.set_cons_succ])
              all_goals clear ho2
              all_goals (apply canon_st ho3 rfl; (intro w2 hS; first | (go_simp; first | done | rfl) | rfl | (obtain ⟨hc, hf, hk, hz⟩ := ecell hS; go_simp; first | done | rfl)); simp only [Act.put, List.setIfInBounds_toArray, List.set_cons_zero, List.set_cons_succ])
              all_goals clear ho3
              all_goals (apply canon_st ho4 rfl; (intro w2 hS; first | (go_simp; first | done | rfl) | rfl | (obtain ⟨hc, hf, hk, hz⟩ := ecell hS; go_simp; first | done | rfl)); simp only [Act.put, List.setIfInBounds_toArray, List.set_cons_zero, List.set_cons_succ])
              all_goals clear ho4
              all_goals (apply canon_st ho5 rfl; (intro w2 hS; first | (go_simp; first | done | rfl) | rfl | (obtain ⟨hc, hf, hk, hz⟩ := ecell hS; go_simp; first | done | rfl)); simp only [Act.put, List.setIfInBounds_toArray, List.set_cons_zero, List.set_cons_succ])
              all_goals clear ho5
              all_goals (apply canon_st ho6 rfl; (intro w2 hS; first | (go_simp; first | done | rfl) | rfl | (obtain ⟨hc, hf, hk, hz⟩ := ecell hS; go_simp; first | done | rfl)); simp only [Act.put, List.setIfInBounds_toArray, List.set_cons_zero, List.set_cons_succ])
              all_goals clear ho6
              all_goals (apply canon_st ho7 rfl; (intro w2 hS; first | (go_simp; first | done | rfl) | rfl | (obtain ⟨hc, hf, hk, hz⟩ := ecell hS; go_simp; first | done | rfl)); simp only [Act.put, List.setIfInBounds_toArray, List.set_cons_zero, List.set_cons_succ])
              all_goals clear ho7
              all_goals (apply canon_st ho8 rfl; (intro w2 hS; first | (go_simp; first | done | rfl) | rfl | (obtain ⟨hc, hf, hk, hz⟩ := ecell hS; go_simp; first | done | rfl)); simp only [Act.put, List.setIfInBounds_toArray, List.set_cons_zero, List.set_cons_succ])
              all_goals clear ho8
              all_goals (apply canon_st ho9 rfl; (intro w2 hS; first | (go_simp; first | done | rfl) | rfl | (obtain ⟨hc, hf, hk, hz⟩ := ecell hS; go_simp; first | done | rfl)); simp only [Act.put, List.setIfInBounds_toArray, List.set_cons_zero, List.set_cons_succ])
              all_goals clear ho9
              all_goals (apply canon_st ho10 rfl; (intro w2 hS; first | (go_simp; first | done | rfl) | rfl | (obtain ⟨hc, hf, hk, hz⟩ := ecell hS; go_simp; first | done | rfl)); simp only [Act.put, List.setIfInBounds_toArray, List.set_cons_zero, List.set_cons_succ])
              all_goals clear ho10
              all_goals (apply canon_st ho11 rfl; (intro w2 hS; first | (go_simp; first | done | rfl) | rfl | (obtain ⟨hc, hf, hk, hz⟩ := ecell hS; go_simp; first | done | rfl)); simp only [Act.put, List.setIfInBounds_toArray, List.set_cons_zero, List.set_cons_succ])
              all_goals clear ho11
              all_goals (apply canon_st ho12 rfl; (intro w2 hS; first | (go_simp; first | done | rfl) | rfl | (obtain ⟨hc, hf, hk, hz⟩ := ecell hS; go_simp; first | done | rfl)); simp only [Act.put, List.setIfInBounds_toArray, List.set_cons_zero, List.set_cons_succ])
              all_goals clear ho12
              all_goals (apply canon_st ho13 rfl; (intro w2 hS; first | (go_simp; first | done | rfl) | rfl | (obtain ⟨hc, hf, hk, hz⟩ := ecell hS; go_simp; first | done | rfl)); simp only [Act.put, List.setIfInBounds_toArray, List.set_cons_zero, List.set_cons_succ])
              all_goals clear ho13
              all_goals (apply canon_st ho14 rfl; (intro w2 hS; first | (go_simp; first | done | rfl) | rfl | (obtain ⟨hc, hf, hk, hz⟩ := ecell hS; go_simp; first | done | rfl)); simp only [Act.put, List.setIfInBounds_toArray, List.set_cons_zero, List.set_cons_succ])
              all_goals clear ho14
              all_goals (apply canon_st ho15 rfl; (intro w2 hS; first | (go_simp; first | done | rfl) | rfl | (obtain ⟨hc, hf, hk, hz⟩ := ecell hS; go_simp; first | done | rfl)); simp only [Act.put, List.setIfInBounds_toArray, List.set_cons_zero, List.set_cons_succ])
              all_goals clear ho15
              all_goals first | (refine canon_ef ho16 rfl (fun K hK => ?_); go_simp; (skip); all_goals (refine hK _ _ ⟨(by repeat (first | exact Ext.refl _ | assumption | refine Ext.drew ?_ | refine Ext.drewN ?_ _ | refine Ext.iter ?_ _ _ | refine Ext.alloc ?_ _ | refine Ext.setCell ?_ (by first | exact Nat.le_refl _ | (simp <;> omega)) _ | refine Ext.trans2 (by assumption) ?_)), ?_⟩; clear hK K; go_simp))
              all_goals clear ho16
              all_goals first | (refine canon_ef ho17 rfl (fun K hK => ?_); go_simp; (skip); all_goals (refine hK _ _ ⟨(by repeat (first | exact Ext.refl _ | assumption | refine Ext.drew ?_ | refine Ext.drewN ?_ _ | refine Ext.iter ?_ _ _ | refine Ext.alloc ?_ _ | refine Ext.setCell ?_ (by first | exact Nat.le_refl _ | (simp <;> omega)) _ | refine Ext.trans2 (by assumption) ?_)), ?_⟩; clear hK K; go_simp))
              all_goals clear ho17
              all_goals refine canon_done (NoPanic.normal ?_)
              have hup : foldT (cell s) (d + 1) M (foldM s (cell s) (d + 1) (M - 1)) t = (foldT (cell s) (d + 1) M (foldM s (cell s) (d + 1) (M - 1)) (t - 1)).upd ⟨segW M t + xc.len, xc.cnt + 1, t, M⟩ := by
                obtain ⟨q, rfl⟩ : ∃ q, t = q + 1 := ⟨t - 1, by omega⟩
                rw [← hxc]
                rfl
              clear e1 e2 k0 k1 k2 k3 hwc hrest hsw
              generalize foldT (cell s) (d + 1) M (foldM s (cell s) (d + 1) (M - 1)) (t - 1) = b at *
              have q0 := hbest.cell (i := 0) rfl
              have q1 := hbest.cell (i := 1) rfl
              have q2 := hbest.cell (i := 2) rfl
              have q3 := hbest.cell (i := 3) rfl
              have q4 := hbest.lt
              have q5 := hbest.free
              have HU := Lib.hid hup; clear hup
              by_cases hc0 : b.cnt = 0
              · go_wp2
                go_roundw
                case rel =>
                  have hu := HU.out.trans (Cell.upd_t (.inl (by simpa using hc0)))
                  exact ⟨t + 1, by omega, by omega, by go_num, ((((henv.set _ _).set _ _).set _ _).set _ _).ext ((Ext.refl _).alloc _).drew, by rw [show t + 1 - 1 = t from rfl, hu]; exact (hbest.set4 ⟨segW M t + xc.len, xc.cnt + 1, t, M⟩).ext ((Ext.refl _).alloc _).drew⟩
                case measure => simp [intOf]; omega
              · go_wp2_with (first
                  | (go_at_call 75; go_loud (refine (better_c ⟨segW M t + xc.len, xc.cnt + 1, t, M⟩ b _).mono ?_); rintro e w6 ⟨rfl, hb⟩; (obtain ⟨hc, hf, hk, hz⟩ := ecell hb; try (have hx := Ext.trans2 hb (by assumption); obtain ⟨hcx, hfx, hkx, hzx⟩ := ecell hx))))
                · have hu := HU.out.trans (Cell.upd_t (by assumption))
                  go_roundw
                  case rel =>
                    have hE : Ext w5 w6 := (((Ext.refl w5).alloc _).drew).trans hb
                    have e5 := henv.ext hE
                    have h5 := (hbest.ext hE).set4 ⟨segW M t + xc.len, xc.cnt + 1, t, M⟩
                    refine ⟨t + 1, by omega, by omega, by go_num, (((e5.set _ _).set _ _).set _ _).set _ _, ?_⟩
                    rw [show t + 1 - 1 = t from rfl, hu]
                    exact h5
                  case measure => simp [intOf]; omega
                · have hu := HU.out.trans (Cell.upd_f (by assumption))
                  go_roundw
                  case rel =>
                    have hE : Ext w5 w6 := (((Ext.refl w5).alloc _).drew).trans hb
                    have h5 := hbest.ext hE
                    change Blk w6 gb b.cells _ at h5
                    rw [← hu] at h5
                    exact ⟨t + 1, by omega, by omega, by go_num, henv.ext hE, h5⟩
                  case measure => simp [intOf]; omega
            · go_wp2
              refine ⟨⟨M + 1, by omega, by omega, by go_num, henv, ?_⟩, by simp [intOf]; omega⟩
              obtain rfl : t = farF M s (d + 1) + 1 := by omega
              rw [show M + 1 - 1 = M from rfl, foldM_at s _ _ M hM1]
              exact hbest
        · obtain rfl : M = 5 := by omega
          rw [show 5 - 1 = 4 from rfl, ← cell_succ] at hbest
          have hcs : (cell s (d + 1)).cells = #[.int .i64 (cell s (d + 1)).len, .int .i64 (cell s (d + 1)).cnt, .int .i64 (cell s (d + 1)).size, .int .i64 (cell s (d + 1)).mode] := rfl
          rw [hcs] at hbest
          have q0 := hbest.cell (i := 0) rfl
          have q1 := hbest.cell (i := 1) rfl
          have q2 := hbest.cell (i := 2) rfl
          have q3 := hbest.cell (i := 3) rfl
          have q4 := henv.t.lt
          have q5 := henv.t.free
          obtain ⟨z0, hz0⟩ := (show ∃ v, csT[(s.size - 1 - d) * 4]? = some v from ⟨_, Array.getElem?_eq_getElem (by rw [hD.out.1]; omega)⟩)
          obtain ⟨z1, hz1⟩ := (show ∃ v, csT[(s.size - 1 - d) * 4 + 1]? = some v from ⟨_, Array.getElem?_eq_getElem (by rw [hD.out.1]; omega)⟩)
          obtain ⟨z2, hz2⟩ := (show ∃ v, csT[(s.size - 1 - d) * 4 + 2]? = some v from ⟨_, Array.getElem?_eq_getElem (by rw [hD.out.1]; omega)⟩)
          obtain ⟨z3, hz3⟩ := (show ∃ v, csT[(s.size - 1 - d) * 4 + 3]? = some v from ⟨_, Array.getElem?_eq_getElem (by rw [hD.out.1]; omega)⟩)
          have hz0 := henv.t.cell hz0
          have hz1 := henv.t.cell hz1
          have hz2 := henv.t.cell hz2
          have hz3 := henv.t.cell hz3
          go_wp2
          have n1 : w1.heap.size ≠ w.heap.size := by omega
          have n2 : gw ≠ w.heap.size := by omega
          refine ⟨⟨d + 1, _, csF2, hlt, by go_num, henv.t.put4 _ (cell s (d + 1)), (((henv.f.far n1 _).far n1 _).far n1 _).far n1 _, (((henv.wd.far n2 _).far n2 _).far n2 _).far n2 _,
            (((henv.e.setCell (Nat.le_refl _) _).setCell (Nat.le_refl _) _).setCell (Nat.le_refl _) _).setCell (Nat.le_refl _) _, Lib.hid (hD.out.put hlt), Lib.hid fun b => ⟨HF.out.1, fun m h1 h2 => by rw [if_neg (by omega)]; exact HF.out.2 m h1 h2⟩⟩, by simp [intOf]; omega⟩
    · go_wp2
      go_ret
      obtain rfl : d = s.size := by omega
      exact ⟨⟨_, csT, rfl, Nat.le_refl _, hbT, hD.out⟩, hext⟩
end Go.Proofs.YthokkmbdkjpbcaaGreat
