
/- A grid is sampled from its print: plain law. -/
import Derived.Test.YtamgbmoeanmfaaaRaster
import Derived.Test.YtamgbmoeanmfaaaPGrid
import Derived.Test.YtamgbmoeanmfaaaDrawPrint
import Derived.Test.YtamgbmoeanmfaaaBack
/-! A grid is sampled from its print: plain law. -/
/-! A grid is sampled from its print: plain law. -/
namespace Go.Proofs.Ytamgbmoeanmfaaa
set_option linter.unusedVariables false
set_option linter.unusedSimpArgs false
open Go.RowKit

/-- The row and the column of the pixel that is sampled for module i. -/
def smY (q t : Int) (C i : Nat) : Int := (((i / C : Nat) : Int) + q) * t + t / 2
def smX (q p : Int) (C i : Nat) : Int := (((i % C : Nat) : Int) + q) * p + p / 2
/-- The first n sampled modules. -/
def smp (L : List Int) (q t p : Int) (C V : Nat) (lim : Int) (n : Nat) : List Int := (List.range n).map fun i => if L.getD (smY q t C i * V + smX q p C i).toNat 0 < lim then 1 else 0
theorem smp_len (L : List Int) (q t p : Int) (C V : Nat) (lim : Int) (n : Nat) : (smp L q t p C V lim n).length = n := by simp [smp]
theorem smp_succ (L : List Int) (q t p : Int) (C V : Nat) (lim : Int) (n : Nat) : smp L q t p C V lim (n + 1) = smp L q t p C V lim n ++ [if L.getD (smY q t C n * V + smX q p C n).toNat 0 < lim then 1 else 0] := by simp [smp, List.range_succ]
theorem pxl_get (f : Int → Int → Int) (v n k : Nat) (h : k < n) : (pxl f v n).getD k 0 = f ((k / v : Nat) : Int) ((k % v : Nat) : Int) := by simp [pxl, h]
/-- The middle of a box. -/
theorem mid_box {r q t : Int} {R H : Nat} (hr : 0 ≤ r ∧ r < R) (hq : 0 ≤ q) (ht : 1 ≤ t) (hH : szF R q t = H) :
    0 ≤ (r + q) * t + t / 2 ∧ (r + q) * t + t / 2 < H ∧ ((r + q) * t + t / 2) / t - q = r ∧ ((r + q) * t + t / 2) % t = t / 2 := by
  have h1 : 0 ≤ (r + q) * t := Int.mul_nonneg (by omega) (by omega)
  have h2 : (r + q + 1) * t ≤ (R + 2 * q) * t := Int.mul_le_mul_of_nonneg_right (by omega) (by omega)
  have h3 : (r + q + 1) * t = (r + q) * t + t := by rw [Int.add_mul, Int.one_mul]
  unfold szF at hH
  have h4 : ((r + q) * t + t / 2) / t = r + q := by
    rw [Int.add_comm, Int.add_mul_ediv_right _ _ (by omega), Int.ediv_eq_zero_of_lt (by omega) (by omega), Int.zero_add]
  refine ⟨by omega, by omega, by omega, ?_⟩
  rw [Int.add_comm, Int.add_mul_emod_self_right, Int.emod_eq_of_lt (by omega) (by omega)]
theorem yx_at {y x : Int} {V H : Nat} (hy : 0 ≤ y ∧ y < H) (hx : 0 ≤ x ∧ x < V) : (y * V + x).toNat < H * V ∧ (((y * V + x).toNat / V : Nat) : Int) = y ∧ (((y * V + x).toNat % V : Nat) : Int) = x := by
  obtain ⟨a, rfl⟩ : ∃ a : Nat, y = a := ⟨y.toNat, by omega⟩
  obtain ⟨c, rfl⟩ : ∃ c : Nat, x = c := ⟨x.toNat, by omega⟩
  have e : ((a : Int) * V + c).toNat = a * V + c := by
    have : ((a : Int) * V + c) = ((a * V + c : Nat) : Int) := by simp
    rw [this, Int.toNat_natCast]
  have hc : c < V := by omega
  have h1 : (a * V + c) / V = a := by rw [Nat.add_comm, Nat.add_mul_div_right _ _ (by omega), Nat.div_eq_of_lt hc, Nat.zero_add]
  have h2 : (a * V + c) % V = c := by rw [Nat.add_comm, Nat.add_mul_mod_self_right, Nat.mod_eq_of_lt hc]
  have h3 : (a + 1) * V ≤ H * V := Nat.mul_le_mul_right _ (by omega)
  rw [Nat.add_mul, Nat.one_mul] at h3
  rw [e, h1, h2]
  exact ⟨by omega, rfl, rfl⟩
theorem pxV_mid {p t q b d l y x r c : Int} {R C : Nat} {xs : List Int} (hb : p / 2 + 1 - p ≤ b ∧ b ≤ p / 2) (h1 : y / t - q = r) (h2 : x / p - q = c) (h3 : x % p = p / 2) :
    (dkP R C xs r c → pxV p t q b d l R C xs y x = d) ∧ (¬ dkP R C xs r c → pxV p t q b d l R C xs y x = l) := by
  unfold pxV dpP
  rw [h1, h2, h3]
  constructor
  · intro h
    exact if_pos (Or.inl ⟨h, fun hh => by omega⟩)
  · intro h
    refine if_neg fun hh => ?_
    rcases hh with hh | hh
    · exact h hh.1
    · omega
theorem smp_back {p t q b d l lim : Int} {R C H V : Nat} {xs : List Int} (hl : xs.length = R * C) (hC : 1 ≤ C) (hpr : IsPrint p t q b d l) (hb : p / 2 + 1 - p ≤ b ∧ b ≤ p / 2) (hH : szF R q t = H) (hV : szF C q p = V)
    (h01 : ∀ x ∈ xs, x = 0 ∨ x = 1) (hlim : d < lim ∧ lim ≤ l) : smp (pxl (pxV p t q b d l R C xs) V (H * V)) q t p C V lim (R * C) = xs := by
  apply List.ext_getElem (by rw [smp_len, hl])
  intro i h1 h2
  rw [smp_len] at h1
  have hr : i / C < R := (Nat.div_lt_iff_lt_mul (by omega)).2 h1
  have hc : i % C < C := Nat.mod_lt _ (by omega)
  have hi : ((i / C : Nat) * C + (i % C : Nat)) = i := by rw [Nat.mul_comm]; exact Nat.div_add_mod i C
  have hm := h01 _ (List.getElem_mem h2)
  simp only [smp, List.getElem_map, List.getElem_range]
  unfold smY smX
  generalize i / C = r at *
  generalize i % C = c at *
  obtain ⟨y1, y2, y3, y4⟩ := mid_box (r := (r : Int)) (q := q) (t := t) (R := R) (H := H) (by omega) hpr.2.2.1.1 hpr.2.1.1 hH
  obtain ⟨x1, x2, x3, x4⟩ := mid_box (r := (c : Int)) (q := q) (t := p) (R := C) (H := V) (by omega) hpr.2.2.1.1 hpr.1.1 hV
  obtain ⟨a1, a2, a3⟩ := yx_at ⟨y1, y2⟩ ⟨x1, x2⟩
  have hdk : dkP R C xs (r : Int) (c : Int) ↔ xs[i] = 1 := by
    unfold dkP
    have e : ((r : Int) * C + (c : Int)).toNat = i := by
      have : ((r : Int) * C + (c : Int)) = ((r * C + c : Nat) : Int) := by simp
      rw [this, Int.toNat_natCast, hi]
    rw [e, List.getD_eq_getElem?_getD, List.getElem?_eq_getElem h2]
    simp only [Option.getD_some]
    exact ⟨fun h => h.2.2, fun h => ⟨by omega, by omega, h⟩⟩
  obtain ⟨d1, d2⟩ := pxV_mid (d := d) (l := l) (R := R) (C := C) (xs := xs) hb y3 x3 x4
  rw [pxl_get _ _ _ _ a1, a2, a3]
  rcases hm with h | h
  · rw [d2 (fun hh => by have := hdk.1 hh; omega), if_neg (by omega), h]
  · rw [d1 (hdk.2 h), if_pos (by omega), h]
end Go.Proofs.Ytamgbmoeanmfaaa

/-! Sampling a print: contracts. -/
namespace Go.Proofs.Ytamgbmoeanmfaaa
set_option linter.unusedVariables false
set_option linter.unusedSimpArgs false
open Go.RowKit

abbrev vRas (r c : Int) (p : Option Addr) (n k : Nat) : Value := .agg #[.int .i64 r, .int .i64 c, .slice p n k]
theorem RowI.madeN {B : Nat} {w : World} (hB : B ≤ w.heap.size) (n : Nat) (hn : n ≤ maxLen) : RowI B (w.alloc (.cells (madeCells #[.int .i64 0] n) 2)) (.slice (some ⟨w.heap.size, 0, none⟩) n n) (List.replicate n 0) := by
  unfold RowI
  rw [List.length_replicate]
  refine ⟨by simp, .inr ⟨_, _, _, rfl, hB, (MapKept.heap_alloc w _).1, Nat.le_refl _, hn, by simp [size_madeCells], ?_⟩⟩
  rw [List.take_of_length_le (by simp [size_madeCells])]
  apply List.ext_getElem?
  intro i
  rw [Array.getElem?_toList]
  by_cases h : i < n
  · rw [made_get h]
    simp [h, Nat.mod_one]
  · rw [Array.getElem?_eq_none (by rw [size_madeCells]; omega), List.getElem?_eq_none (by simp; omega)]
/-- The first j of M cells are filled. -/
def fillTo (x : Int) (M j : Nat) : List Int := List.replicate j x ++ List.replicate (M - j) 0
theorem fillTo_len (x : Int) (M j : Nat) (h : j ≤ M) : (fillTo x M j).length = M := by simp [fillTo]; omega
theorem fillTo_set (x : Int) (M j : Nat) (h : j < M) : (fillTo x M j).set j x = fillTo x M (j + 1) := by
  unfold fillTo
  rw [show M - j = (M - (j + 1)) + 1 by omega, List.replicate_succ, List.set_append]
  simp [List.replicate_succ']
theorem fillTo_all (x : Int) (M : Nat) : fillTo x M M = List.replicate M x := by simp [fillTo]
theorem fillTo_zero (x : Int) (M : Nat) : fillTo x M 0 = List.replicate M 0 := by simp [fillTo]
set_option maxHeartbeats 800000 in
set_option maxRecDepth 100000 in
theorem blank_c (R C : Nat) (x : Int) (w : World) (hR : 1 ≤ R ∧ R ≤ 40000) (hC : 1 ≤ C ∧ C ≤ 40000) (h4 : R * C ≤ 40000) :
    Calls Try.prog 55 #[.int .i64 R, .int .i64 C, .int .i64 x] w fun e w' => (∃ p k, e = .returned (vGrid R C p (R * C) k) ∧ RowI w.heap.size w' (.slice p (R * C) k) (List.replicate (R * C) x)) ∧ Ext w w' := by
  obtain ⟨M, hM⟩ : ∃ M : Nat, R * C = M := ⟨_, rfl⟩
  have e1 : (R : Int) * (C : Int) = (M : Int) := by rw [← hM]; simp
  rw [hM] at h4 ⊢
  have e2 := IntWalk.i64_in (M : Int) (by omega)
  replace hM := Lib.hid hM
  have hI1 : Try.prog.underlying 24 = some (.slice 2) := by kernel_rfl
  have hI2 := infoInt
  have hfl := Lib.hid (fun j h => fillTo_len x M j h)
  have hfs := Lib.hid (fun j h => fillTo_set x M j h)
  have hfa := Lib.hid (fillTo_all x M)
  have hres := ((Blk.new w #[.int .i64 0, .int .i64 0, .slice none 0 0] 26).alloc (.cells (madeCells #[.int .i64 0] M) 2)).alloc (.cells #[.int .i64 R, .int .i64 C, .slice (some ⟨w.heap.size + 1, 0, none⟩) M M] 26)
  have hbx := Blk.new ((w.alloc (.cells #[.int .i64 0, .int .i64 0, .slice none 0 0] 26)).alloc (.cells (madeCells #[.int .i64 0] M) 2)) #[.int .i64 R, .int .i64 C, .slice (some ⟨w.heap.size + 1, 0, none⟩) M M] 26
  have hrow := (RowI.madeN (B := w.heap.size + 1) (w := w.alloc (.cells #[.int .i64 0, .int .i64 0, .slice none 0 0] 26)) (by simp) M (by unfold maxLen; omega)).alloc (.cells #[.int .i64 R, .int .i64 C, .slice (some ⟨w.heap.size + 1, 0, none⟩) M M] 26)
  have hx0 : Ext w (((w.alloc (.cells #[.int .i64 0, .int .i64 0, .slice none 0 0] 26)).alloc (.cells (madeCells #[.int .i64 0] M) 2)).alloc (.cells #[.int .i64 R, .int .i64 C, .slice (some ⟨w.heap.size + 1, 0, none⟩) M M] 26)) := (((Ext.refl w).alloc _).alloc _).alloc _
  simp only [World.size_alloc] at hrow hbx
  rw [← fillTo_zero x M] at hrow
  generalize hF : fillTo x M = F at *
  replace hF := Lib.hid hF
  go_enter Try.func55, Try.ntmps55
  go_wp2_with (at_make; go_loud (refine make_blk hI1 hI2 M rfl rfl (by omega) (by omega) ?_))
  generalize (((w.alloc (.cells #[.int .i64 0, .int .i64 0, .slice none 0 0] 26)).alloc (.cells (madeCells #[.int .i64 0] M) 2)).alloc (.cells #[.int .i64 R, .int .i64 C, .slice (some ⟨w.heap.size + 1, 0, none⟩) M M] 26)) = w0 at *
  have f0 := hbx.cell (i := 0) (v := .int .i64 R) rfl; have f1 := hbx.cell (i := 1) (v := .int .i64 C) rfl; have f2 := hbx.cell (i := 2) (v := .slice (some ⟨w.heap.size + 1, 0, none⟩) M M) rfl; have fl := hbx.lt
  go_loopw [8, 19] (fun _ i wr => ∃ j : Nat, j ≤ M ∧ i = .int .i64 j ∧ RowI (w.heap.size + 1) wr (.slice (some ⟨w.heap.size + 1, 0, none⟩) M M) (F j) ∧ Blk wr w.heap.size #[.int .i64 0, .int .i64 0, .slice none 0 0] 26 ∧ Blk wr (w.heap.size + 1 + 1) #[.int .i64 R, .int .i64 C, .slice (some ⟨w.heap.size + 1, 0, none⟩) M M] 26 ∧ Ext w wr) (fun _ i _ => M - (intOf i).toNat)
  case atStart => exact ⟨0, Nat.zero_le _, rfl, hrow, hres, hbx, hx0⟩
  case round =>
    clear hrow hres hbx hx0 f0 f1 f2 fl
    obtain ⟨j, hj, rfl, hown, hres, hbx, hext⟩ := hrel
    have f0 := hbx.cell (i := 0) (v := .int .i64 R) rfl; have f1 := hbx.cell (i := 1) (v := .int .i64 C) rfl; have f2 := hbx.cell (i := 2) (v := .slice (some ⟨w.heap.size + 1, 0, none⟩) M M) rfl; have fl := hbx.lt
    by_cases hlt : j < M
    · obtain ⟨g, cc, hv, hgB, hgl, hce, hfr, -, hst⟩ := hown.stored (k := j) (by have := hfl.out j hj; omega)
      simp only [Value.slice.injEq, Option.some.injEq, Addr.mk.injEq, and_true, true_and] at hv
      obtain ⟨rfl, -, -⟩ := hv
      have hst1 := hst x
      rw [hfs.out j hlt] at hst1
      replace hst1 := Lib.hid hst1
      clear hst hown
      go_wp2
      go_roundw
      case rel => exact ⟨j + 1, hlt, by go_num, hst1.out, hres.far (by omega) _, hbx.far (by omega) _, hext.setCell (by show _ ≤ _; simp only; omega) _⟩
      case measure => simp [intOf]; omega
    · obtain rfl : j = M := by omega
      have r0 := hres.cell (i := 0) (v := .int .i64 0) rfl; have r1 := hres.cell (i := 1) (v := .int .i64 0) rfl; have r2 := hres.cell (i := 2) (v := .slice none 0 0) rfl; have rl := hres.lt; have rf := hres.free
      have hN := ((hres.set 0 (.int .i64 R)).set 1 (.int .i64 C)).set 2 (.slice (some ⟨w.heap.size + 1, 0, none⟩) j j)
      have c0 := hN.cell (i := 0) (v := .int .i64 R) rfl; have c1 := hN.cell (i := 1) (v := .int .i64 C) rfl; have c2 := hN.cell (i := 2) (v := .slice (some ⟨w.heap.size + 1, 0, none⟩) j j) rfl
      rw [hfa.out] at hown
      have hne : ∀ i : Nat, (Value.slice (some ⟨w.heap.size + 1, 0, none⟩) j j).ownBlock ≠ some w.heap.size := fun _ e => by have := (hown.lt _ e).1; omega
      have hrF := ((hown.setOther (hne 0) (i := 0) (u := .int .i64 R)).setOther (hne 0) (i := 1) (u := .int .i64 C)).setOther (hne 0) (i := 2) (u := .slice (some ⟨w.heap.size + 1, 0, none⟩) j j)
      go_wp2
      exact bodyPost_ret (v := .agg #[.int .i64 R, .int .i64 C, .slice (some ⟨w.heap.size + 1, 0, none⟩) j j]) (by simp [results, Try.results55, go_sem, c0, c1, c2]) rfl ⟨⟨_, _, rfl, hrF.mono (Nat.le_succ _)⟩, ((hext.setCell (Nat.le_refl _) _).setCell (Nat.le_refl _) _).setCell (Nat.le_refl _) _⟩
set_option maxRecDepth 100000 in
theorem rPixel_c (H V : Nat) (a : Option Addr) (k : Nat) (ys : List Int) (y x : Int) (w : World) (hx : IntsAt w a ys) (hl : ys.length = H * V) (h4 : H * V ≤ 40000) (hy : 0 ≤ y ∧ y < H) (hxx : 0 ≤ x ∧ x < V) :
    Calls Try.prog 56 #[vRas H V a ys.length k, .int .i64 y, .int .i64 x] w fun e w' => e = .returned (.int .i64 (ys.getD (y * V + x).toNat 0)) ∧ Ext w w' := by
  obtain ⟨a1, -, -⟩ := yx_at hy hxx
  have h0 : 0 ≤ y * V := Int.mul_nonneg hy.1 (by omega)
  obtain ⟨K, hKe⟩ : ∃ K : Nat, (y * V + x).toNat = K := ⟨_, rfl⟩
  have hKi : y * V + x = K := by omega
  rw [hKe] at a1 ⊢
  obtain ⟨b, o, rfl, hbl, z1⟩ := hx K (by omega)
  have hKl : K < ys.length := by omega
  obtain ⟨M, hM⟩ : ∃ M : Int, y * V = M := ⟨_, rfl⟩
  have e2 := IntWalk.i64_in M (by omega)
  have e3 : IntKind.i64.wrap (M + x) = (K : Int) := by rw [show M + x = (K : Int) by omega]; exact IntWalk.i64_in _ (by omega)
  replace hKe := Lib.hid hKe
  replace hKi := Lib.hid hKi
  replace hl := Lib.hid hl
  generalize ys.getD K 0 = z at *
  clear hx
  go_enter Try.func56, Try.ntmps56
  go_wp2
  go_ret
  exact ⟨rfl, (by repeat (first | exact Ext.refl _ | assumption | refine Ext.drew ?_ | refine Ext.drewN ?_ _ | refine Ext.iter ?_ _ _ | refine Ext.alloc ?_ _ | refine Ext.setCell ?_ (by first | exact Nat.le_refl _ | (simp <;> omega)) _ | refine Ext.trans2 (by assumption) ?_))⟩
set_option maxHeartbeats 800000 in
set_option maxRecDepth 100000 in
theorem iIsRaster_t (H V : Nat) (a : Option Addr) (k : Nat) (ys : List Int) (w : World) (hx : IntsAt w a ys) (hl : ys.length = H * V) (h4 : rasOK H V) (hys : ∀ x ∈ ys, 0 ≤ x ∧ x ≤ 255) :
    Calls Try.prog 54 #[vRas H V a ys.length k] w fun e w' => e = .returned (.bool true) ∧ Ext w w' := by
  have HX := Lib.hid hx; clear hx
  have hb := Blk.new w #[.int .i64 H, .int .i64 V, .slice a ys.length k] 32
  have hx0 : Ext w (w.alloc (.cells #[.int .i64 H, .int .i64 V, .slice a ys.length k] 32)) := (Ext.refl w).alloc _
  obtain ⟨M, hM⟩ : ∃ M : Nat, H * V = M := ⟨_, rfl⟩
  have e1 : (H : Int) * (V : Int) = (M : Int) := by rw [← hM]; simp
  have hM4 : M ≤ 40000 := by have := h4.2.2; rw [e1] at this; omega
  have e2 := IntWalk.i64_in (M : Int) (by omega)
  have hn : ((ys.length : Int) != (M : Int)) = false := by simp; omega
  have hlm : ys.length ≤ 40000 := by omega
  replace hl := Lib.hid hl; replace hM := Lib.hid hM; replace hys := Lib.hid hys; replace h4 := Lib.hid h4
  go_enter Try.func54, Try.ntmps54
  go_wp2_with (go_at_call 88; (with_reducible refine (iRasSize_c _ _ _).mono ?_); rintro e w1 ⟨⟨hP, rfl⟩ | ⟨hP, rfl⟩, rfl⟩ <;> first | exact absurd h4.out hP | skip)
  generalize w.alloc (.cells #[.int .i64 H, .int .i64 V, .slice a ys.length k] 32) = w0 at *
  clear e1 e2 hn
  go_loopw [4, 25] (fun _ i wr => ∃ j : Nat, j ≤ ys.length ∧ i = .int .i64 j ∧ Ext w0 wr) (fun _ i _ => ys.length - (intOf i).toNat)
  case atStart => exact ⟨0, Nat.zero_le _, rfl, (by repeat (first | exact Ext.refl _ | assumption | refine Ext.drew ?_ | refine Ext.drewN ?_ _ | refine Ext.iter ?_ _ _ | refine Ext.alloc ?_ _ | refine Ext.setCell ?_ (by first | exact Nat.le_refl _ | (simp <;> omega)) _ | refine Ext.trans2 (by assumption) ?_))⟩
  case round =>
    obtain ⟨j, hj, rfl, hext⟩ := hrel
    have hbr := hb.ext hext
    have f0 := hbr.cell (i := 0) (v := .int .i64 H) rfl; have f1 := hbr.cell (i := 1) (v := .int .i64 V) rfl; have f2 := hbr.cell (i := 2) (v := .slice a ys.length k) rfl; have fl := hbr.lt
    by_cases hlt : j < ys.length
    · obtain ⟨b, o, rfl, hbl, z1⟩ := (HX.out.ext (hx0.trans hext)) j hlt
      have hat := at_all (P := fun x => 0 ≤ x ∧ x ≤ 255) hlt hys.out
      generalize ys.getD j 0 = x at *
      have hat := Lib.hid hat
      go_wp2_with (go_at_call 50; (with_reducible refine (inRange_c _ _ _ _).mono ?_); rintro e w1 ⟨⟨hP, rfl⟩ | ⟨hP, rfl⟩, rfl⟩ <;> first | exact absurd hat.out hP | skip)
      go_roundw
      case rel => exact ⟨j + 1, hlt, by go_num, hext⟩
      case measure => simp [intOf]; omega
    · obtain rfl : j = ys.length := by omega
      go_wp2
      go_ret
      exact ⟨rfl, hx0.trans hext⟩
/-- Where the sampling stands after j modules. -/
def smTo (S : Nat → List Int) (M j : Nat) : List Int := S j ++ List.replicate (M - j) 0
theorem smTo_set {S : Nat → List Int} {M j : Nat} {x : Int} (h : j < M) (hS : (S j).length = j) (hs : S (j + 1) = S j ++ [x]) : (smTo S M j).set j x = smTo S M (j + 1) := by
  unfold smTo
  rw [show M - j = (M - (j + 1)) + 1 by omega, List.replicate_succ, List.set_append, hs]
  simp [hS]
theorem smTo_zero' {S : Nat → List Int} {M j : Nat} (h : j < M) (hS : (S j).length = j) (hs : S (j + 1) = S j ++ [0]) : smTo S M j = smTo S M (j + 1) := by
  unfold smTo
  rw [show M - j = (M - (j + 1)) + 1 by omega, List.replicate_succ, hs]
  simp
set_option maxHeartbeats 6400000 in
set_option maxRecDepth 100000 in
theorem sample_c (R C H V : Nat) (a : Option Addr) (k : Nat) (ys : List Int) (p t q b d l lim : Int) (w : World) (hx : IntsAt w a ys) (hys : ∀ x ∈ ys, 0 ≤ x ∧ x ≤ 255) (hl : ys.length = H * V) (n2 : IsPrint p t q b d l)
    (i1 : psIn R C) (hrc : R * C ≤ 40000) (h4 : rasOK H V) (hH : szF R q t = H) (hV : szF C q p = V) (hpsr : psR R C p t q b d l = (szF R q t, szF C q p, 0)) :
    Calls Try.prog 16 #[vRas H V a ys.length k, .int .i64 R, .int .i64 C, vPrint p t q b d l, .int .i64 lim] w fun e w' => (∃ po co, e = .returned (.tuple #[vGrid R C po (R * C) co, .int .i64 0]) ∧ RowI w.heap.size w' (.slice po (R * C) co) (smp ys q t p C V lim (R * C))) ∧ Ext w w' := by
  have HX := Lib.hid hx; clear hx
  have hG := ((Blk.new w #[.int .i64 H, .int .i64 V, .slice a ys.length k] 32).alloc (.cells #[.int .i64 p, .int .i64 t, .int .i64 q, .int .i64 b, .int .i64 d, .int .i64 l] 28)).alloc (.cells #[.int .i64 0, .int .i64 0, .slice none 0 0] 26)
  have hB := (Blk.new (w.alloc (.cells #[.int .i64 H, .int .i64 V, .slice a ys.length k] 32)) #[.int .i64 p, .int .i64 t, .int .i64 q, .int .i64 b, .int .i64 d, .int .i64 l] 28).alloc (.cells #[.int .i64 0, .int .i64 0, .slice none 0 0] 26)
  have hZ := Blk.new ((w.alloc (.cells #[.int .i64 H, .int .i64 V, .slice a ys.length k] 32)).alloc (.cells #[.int .i64 p, .int .i64 t, .int .i64 q, .int .i64 b, .int .i64 d, .int .i64 l] 28)) #[.int .i64 0, .int .i64 0, .slice none 0 0] 26
  have hxn : Ext w (((w.alloc (.cells #[.int .i64 H, .int .i64 V, .slice a ys.length k] 32)).alloc (.cells #[.int .i64 p, .int .i64 t, .int .i64 q, .int .i64 b, .int .i64 d, .int .i64 l] 28)).alloc (.cells #[.int .i64 0, .int .i64 0, .slice none 0 0] 26)) := (((Ext.refl w).alloc _).alloc _).alloc _
  simp only [World.size_alloc] at hB hZ
  have hV4 : H * V ≤ 40000 := Int.ofNat_le.1 (show ((H * V : Nat) : Int) ≤ ((40000 : Nat) : Int) by rw [Int.natCast_mul]; exact h4.2.2)
  have hir := Lib.hid (fun W (h : IntsAt W a ys) => iIsRaster_t H V a k ys W h hl h4 hys)
  have hps := Lib.hid (fun W => iPrintSize_c R C p t q b d l W)
  rw [hpsr] at hps
  rw [hH, hV] at hps
  have hpx := Lib.hid (fun W y x (h0 : IntsAt W a ys) h1 h2 => rPixel_c H V a k ys y x W h0 hl hV4 h1 h2)
  have hR := i1.1; have hC := i1.2
  have hbl := Lib.hid (fun W => blank_c R C 0 W (by omega) (by omega) hrc)
  obtain ⟨M, hM⟩ : ∃ M : Nat, R * C = M := ⟨_, rfl⟩
  have hM4 : M ≤ 40000 := by rw [← hM]; exact hrc
  rw [hM] at hbl ⊢
  obtain ⟨SM, hSM⟩ : ∃ SM : Nat → List Int, (fun j => smTo (smp ys q t p C V lim) M j) = SM := ⟨_, rfl⟩
  have hlen := Lib.hid (fun j (h : j ≤ M) => (show (SM j).length = M by rw [← hSM]; simp [smTo, smp_len]; omega))
  have hst1 := Lib.hid (fun j (h : j < M) (hc : ys.getD (smY q t C j * V + smX q p C j).toNat 0 < lim) => (show (SM j).set j 1 = SM (j + 1) by rw [← hSM]; exact smTo_set h (smp_len _ _ _ _ _ _ _ _) (by rw [smp_succ, if_pos hc])))
  have hst0 := Lib.hid (fun j (h : j < M) (hc : ¬ ys.getD (smY q t C j * V + smX q p C j).toNat 0 < lim) => (show SM j = SM (j + 1) by rw [← hSM]; exact smTo_zero' h (smp_len _ _ _ _ _ _ _ _) (by rw [smp_succ, if_neg hc])))
  have hS0 : SM 0 = List.replicate M 0 := by rw [← hSM]; simp [smTo, smp]
  have hSA : SM M = smp ys q t p C V lim M := by rw [← hSM]; simp [smTo]
  have hmr := Lib.hid (fun r (h : 0 ≤ r ∧ r < (R : Int)) => mid_box h n2.2.2.1.1 n2.2.1.1 hH)
  have hmc := Lib.hid (fun c (h : 0 ≤ c ∧ c < (C : Int)) => mid_box h n2.2.2.1.1 n2.1.1 hV)
  have hdv := Lib.hid (fun j (h : j < M) => (show j / C < R ∧ j % C < C from ⟨(Nat.div_lt_iff_lt_mul (by omega)).2 (by rw [hM]; exact h), Nat.mod_lt _ (by omega)⟩))
  have hbp := n2.1; have hbt := n2.2.1; have hbq := n2.2.2.1
  have hHb := h4.1; have hVb := h4.2.1
  replace n2 := Lib.hid n2; replace hl := Lib.hid hl; replace hM := Lib.hid hM; replace hSM := Lib.hid hSM; replace hS0 := Lib.hid hS0; replace hSA := Lib.hid hSA
  replace hys := Lib.hid hys; replace h4 := Lib.hid h4; clear hH hV hpsr i1
  go_enter Try.func16, Try.ntmps16
  go_upto_region 1 with fail
  generalize (((w.alloc (.cells #[.int .i64 H, .int .i64 V, .slice a ys.length k] 32)).alloc (.cells #[.int .i64 p, .int .i64 t, .int .i64 q, .int .i64 b, .int .i64 d, .int .i64 l] 28)).alloc (.cells #[.int .i64 0, .int .i64 0, .slice none 0 0] 26)) = w0 at *
  have g0 := hG.cell (i := 0) (v := .int .i64 H) rfl; have g1 := hG.cell (i := 1) (v := .int .i64 V) rfl; have g2 := hG.cell (i := 2) (v := .slice a ys.length k) rfl; have f0 := hB.cell (i := 0) (v := .int .i64 p) rfl; have f1 := hB.cell (i := 1) (v := .int .i64 t) rfl; have f2 := hB.cell (i := 2) (v := .int .i64 q) rfl; have f3 := hB.cell (i := 3) (v := .int .i64 b) rfl; have f4 := hB.cell (i := 4) (v := .int .i64 d) rfl; have f5 := hB.cell (i := 5) (v := .int .i64 l) rfl; have z0 := hZ.cell (i := 0) (v := .int .i64 0) rfl; have z1 := hZ.cell (i := 1) (v := .int .i64 0) rfl; have z2 := hZ.cell (i := 2) (v := .slice none 0 0) rfl; have zl := hZ.lt; have zf := hZ.free
  go_wp2_with (first
    | (go_at_call 54; (with_reducible refine (hir.out _ (HX.out.ext hxn)).mono ?_); rintro e w1 ⟨rfl, hx1⟩; have hG1 := hG.ext hx1; have hB1 := hB.ext hx1; have hZ1 := hZ.ext hx1; replace hxn := hxn.trans hx1; clear hG hB hZ; have hG := hG1; have hB := hB1; have hZ := hZ1; clear hG1 hB1 hZ1; have g0 := hG.cell (i := 0) (v := .int .i64 H) rfl; have g1 := hG.cell (i := 1) (v := .int .i64 V) rfl; have g2 := hG.cell (i := 2) (v := .slice a ys.length k) rfl; have f0 := hB.cell (i := 0) (v := .int .i64 p) rfl; have f1 := hB.cell (i := 1) (v := .int .i64 t) rfl; have f2 := hB.cell (i := 2) (v := .int .i64 q) rfl; have f3 := hB.cell (i := 3) (v := .int .i64 b) rfl; have f4 := hB.cell (i := 4) (v := .int .i64 d) rfl; have f5 := hB.cell (i := 5) (v := .int .i64 l) rfl; have z0 := hZ.cell (i := 0) (v := .int .i64 0) rfl; have z1 := hZ.cell (i := 1) (v := .int .i64 0) rfl; have z2 := hZ.cell (i := 2) (v := .slice none 0 0) rfl; have zl := hZ.lt; have zf := hZ.free; clear hx1)
    | (go_at_call 12; (with_reducible refine (iIsPrint_c p t q b d l _).mono ?_); rintro e w1 ⟨⟨hP, rfl⟩ | ⟨hP, rfl⟩, hx1⟩ <;> (first | exact absurd n2.out hP | (have hG1 := hG.ext hx1; have hB1 := hB.ext hx1; have hZ1 := hZ.ext hx1; replace hxn := hxn.trans hx1; clear hG hB hZ; have hG := hG1; have hB := hB1; have hZ := hZ1; clear hG1 hB1 hZ1; have g0 := hG.cell (i := 0) (v := .int .i64 H) rfl; have g1 := hG.cell (i := 1) (v := .int .i64 V) rfl; have g2 := hG.cell (i := 2) (v := .slice a ys.length k) rfl; have f0 := hB.cell (i := 0) (v := .int .i64 p) rfl; have f1 := hB.cell (i := 1) (v := .int .i64 t) rfl; have f2 := hB.cell (i := 2) (v := .int .i64 q) rfl; have f3 := hB.cell (i := 3) (v := .int .i64 b) rfl; have f4 := hB.cell (i := 4) (v := .int .i64 d) rfl; have f5 := hB.cell (i := 5) (v := .int .i64 l) rfl; have z0 := hZ.cell (i := 0) (v := .int .i64 0) rfl; have z1 := hZ.cell (i := 1) (v := .int .i64 0) rfl; have z2 := hZ.cell (i := 2) (v := .slice none 0 0) rfl; have zl := hZ.lt; have zf := hZ.free; clear hx1)))
    | (go_at_call 14; (with_reducible refine (hps.out _).mono ?_); rintro e w1 ⟨rfl, hx1⟩; have hG1 := hG.ext hx1; have hB1 := hB.ext hx1; have hZ1 := hZ.ext hx1; replace hxn := hxn.trans hx1; clear hG hB hZ; have hG := hG1; have hB := hB1; have hZ := hZ1; clear hG1 hB1 hZ1; have g0 := hG.cell (i := 0) (v := .int .i64 H) rfl; have g1 := hG.cell (i := 1) (v := .int .i64 V) rfl; have g2 := hG.cell (i := 2) (v := .slice a ys.length k) rfl; have f0 := hB.cell (i := 0) (v := .int .i64 p) rfl; have f1 := hB.cell (i := 1) (v := .int .i64 t) rfl; have f2 := hB.cell (i := 2) (v := .int .i64 q) rfl; have f3 := hB.cell (i := 3) (v := .int .i64 b) rfl; have f4 := hB.cell (i := 4) (v := .int .i64 d) rfl; have f5 := hB.cell (i := 5) (v := .int .i64 l) rfl; have z0 := hZ.cell (i := 0) (v := .int .i64 0) rfl; have z1 := hZ.cell (i := 1) (v := .int .i64 0) rfl; have z2 := hZ.cell (i := 2) (v := .slice none 0 0) rfl; have zl := hZ.lt; have zf := hZ.free; clear hx1)
    | (go_at_call 55; (with_reducible refine (hbl.out _).mono ?_); rintro e w1 ⟨⟨po, co, rfl, hrow⟩, hx1⟩; (have hrow := hrow.mono (B' := w.heap.size + 1 + 1 + 1) (by have := hZ.lt; omega)); have hG1 := hG.ext hx1; have hB1 := hB.ext hx1; have hZ1 := hZ.ext hx1; replace hxn := hxn.trans hx1; clear hG hB hZ; have hG := hG1; have hB := hB1; have hZ := hZ1; clear hG1 hB1 hZ1; have g0 := hG.cell (i := 0) (v := .int .i64 H) rfl; have g1 := hG.cell (i := 1) (v := .int .i64 V) rfl; have g2 := hG.cell (i := 2) (v := .slice a ys.length k) rfl; have f0 := hB.cell (i := 0) (v := .int .i64 p) rfl; have f1 := hB.cell (i := 1) (v := .int .i64 t) rfl; have f2 := hB.cell (i := 2) (v := .int .i64 q) rfl; have f3 := hB.cell (i := 3) (v := .int .i64 b) rfl; have f4 := hB.cell (i := 4) (v := .int .i64 d) rfl; have f5 := hB.cell (i := 5) (v := .int .i64 l) rfl; have z0 := hZ.cell (i := 0) (v := .int .i64 0) rfl; have z1 := hZ.cell (i := 1) (v := .int .i64 0) rfl; have z2 := hZ.cell (i := 2) (v := .slice none 0 0) rfl; have zl := hZ.lt; have zf := hZ.free; clear hx1))
  obtain ⟨ga, cc0, hv0, -, -, -, -, -, -⟩ := hrow.stored (k := 0) (by rw [List.length_replicate, ← hM.out]; exact Nat.mul_pos (by omega) (by omega))
  simp only [Value.slice.injEq] at hv0
  obtain ⟨rfl, -, -⟩ := hv0
  rw [← hS0.out] at hrow
  have hX0 := Blk.new w1 #[.int .i64 R, .int .i64 C, .slice (some ⟨ga, 0, none⟩) M co] 26
  have hG0 := hG.alloc (.cells #[.int .i64 R, .int .i64 C, .slice (some ⟨ga, 0, none⟩) M co] 26); have hB0 := hB.alloc (.cells #[.int .i64 R, .int .i64 C, .slice (some ⟨ga, 0, none⟩) M co] 26); have hZ0 := hZ.alloc (.cells #[.int .i64 R, .int .i64 C, .slice (some ⟨ga, 0, none⟩) M co] 26); have hxn0 := hxn.alloc (.cells #[.int .i64 R, .int .i64 C, .slice (some ⟨ga, 0, none⟩) M co] 26)
  have hrow0 := hrow.alloc (.cells #[.int .i64 R, .int .i64 C, .slice (some ⟨ga, 0, none⟩) M co] 26)
  have hgx : w.heap.size + 1 + 1 < w1.heap.size := by have := hZ.lt; omega
  have hnx : (Value.slice (some ⟨ga, 0, none⟩) M co).ownBlock ≠ some w1.heap.size := fun e => by have := (hrow.lt _ e).2; omega
  clear hG hB hZ hxn hrow
  generalize w1.alloc (.cells #[.int .i64 R, .int .i64 C, .slice (some ⟨ga, 0, none⟩) M co] 26) = wa at *
  generalize w1.heap.size = gx at *
  have x0 := hX0.cell (i := 0) (v := .int .i64 R) rfl; have x1 := hX0.cell (i := 1) (v := .int .i64 C) rfl; have x2 := hX0.cell (i := 2) (v := .slice (some ⟨ga, 0, none⟩) M co) rfl; have xl := hX0.lt
  go_loopw [16, 17, 18, 57] (fun _ _ _ i wr => ∃ j : Nat, j ≤ M ∧ i = .int .i64 j ∧ RowI (w.heap.size + 1 + 1 + 1) wr (.slice (some ⟨ga, 0, none⟩) M co) (SM j) ∧ Blk wr w.heap.size #[.int .i64 H, .int .i64 V, .slice a ys.length k] 32 ∧ Blk wr (w.heap.size + 1) #[.int .i64 p, .int .i64 t, .int .i64 q, .int .i64 b, .int .i64 d, .int .i64 l] 28 ∧ Blk wr (w.heap.size + 1 + 1) #[.int .i64 0, .int .i64 0, .slice none 0 0] 26 ∧ Blk wr gx #[.int .i64 R, .int .i64 C, .slice (some ⟨ga, 0, none⟩) M co] 26 ∧ Ext w wr) (fun _ _ _ i _ => M - (intOf i).toNat)
  case atStart => exact ⟨0, Nat.zero_le _, rfl, hrow0, hG0, hB0, hZ0, hX0, hxn0⟩
  case round =>
    clear hrow0 hG0 hB0 hZ0 hX0 hxn0 x0 x1 x2 xl
    obtain ⟨j, hj, rfl, hown, hGr, hBr, hZr, hXr, hext⟩ := hrel
    have x0 := hXr.cell (i := 0) (v := .int .i64 R) rfl; have x1 := hXr.cell (i := 1) (v := .int .i64 C) rfl; have x2 := hXr.cell (i := 2) (v := .slice (some ⟨ga, 0, none⟩) M co) rfl; have xl := hXr.lt
    by_cases hlt : j < M
    · obtain ⟨d1, d2⟩ := hdv.out j hlt
      have hc1 := hst1.out j hlt
      have hc0 := hst0.out j hlt
      have hln := hlen.out j hj
      obtain ⟨rj, hrj⟩ : ∃ rj : Nat, j / C = rj := ⟨_, rfl⟩
      obtain ⟨cj, hcj⟩ : ∃ cj : Nat, j % C = cj := ⟨_, rfl⟩
      have q1 : ((j : Nat) : Int).tdiv (C : Int) = (rj : Int) := by rw [Int.tdiv_eq_ediv_of_nonneg (by omega), ← hrj]; simp
      have q2 : ((j : Nat) : Int).tmod (C : Int) = (cj : Int) := by rw [Int.tmod_eq_emod_of_nonneg (by omega), ← hcj]; simp
      unfold smY smX at hc1 hc0
      rw [hrj, hcj] at hc1 hc0
      rw [hrj] at d1
      rw [hcj] at d2
      obtain ⟨m1, m2, -, -⟩ := hmr.out rj (by omega)
      obtain ⟨m3, m4, -, -⟩ := hmc.out cj (by omega)
      have m5 : 0 ≤ ((rj : Int) + q) * t := Int.mul_nonneg (by omega) (by omega)
      have m6 : 0 ≤ ((cj : Int) + q) * p := Int.mul_nonneg (by omega) (by omega)
      obtain ⟨Y, hY⟩ : ∃ Y : Int, ((rj : Int) + q) * t = Y := ⟨_, rfl⟩
      obtain ⟨X, hX⟩ : ∃ X : Int, ((cj : Int) + q) * p = X := ⟨_, rfl⟩
      rw [hY] at hc1 hc0 m1 m2 m5
      rw [hX] at hc1 hc0 m3 m4 m6
      have hpx1 := fun W h0 => hpx.out W (Y + t / 2) (X + p / 2) h0 ⟨m1, m2⟩ ⟨m3, m4⟩
      generalize ys.getD ((Y + t / 2) * ↑V + (X + p / 2)).toNat 0 = z at *
      replace hpx1 := Lib.hid hpx1
      replace hc1 := Lib.hid hc1
      replace hc0 := Lib.hid hc0
      replace hln := Lib.hid hln
      have k1 := IntWalk.i64_in (rj : Int) (by omega)
      have k2 := IntWalk.i64_in (cj : Int) (by omega)
      have k3 := IntWalk.i64_in ((rj : Int) + q) (by omega)
      have k4 := IntWalk.i64_in ((cj : Int) + q) (by omega)
      have k5 := IntWalk.i64_in Y (by omega)
      have k6 := IntWalk.i64_in X (by omega)
      have k7 := IntWalk.i64_in (Y + t / 2) (by omega)
      have k8 := IntWalk.i64_in (X + p / 2) (by omega)
      have ncb : ((C : Int) == 0) = false := by simp; omega
      have ncz : ¬ ((C : Int) = 0) := by omega
      replace hrj := Lib.hid hrj
      replace hcj := Lib.hid hcj
      obtain ⟨wo, hwo⟩ : ∃ wo : World, wo = wr := ⟨_, rfl⟩
      subst hwo
      go_wp2
      go_quiet (fail)
      have hGq := hGr.drewN nq; have hBq := hBr.drewN nq; have hZq := hZr.drewN nq; have hXq := hXr.drewN nq; have hxq := hext.drewN nq; have hoq := hown.drewN nq
      clear hGr hBr hZr hXr hext hown
      generalize wo.drewN nq = wq at *
      have g0 := hGq.cell (i := 0) (v := .int .i64 H) rfl; have g1 := hGq.cell (i := 1) (v := .int .i64 V) rfl; have g2 := hGq.cell (i := 2) (v := .slice a ys.length k) rfl; have f0 := hBq.cell (i := 0) (v := .int .i64 p) rfl; have f1 := hBq.cell (i := 1) (v := .int .i64 t) rfl; have f2 := hBq.cell (i := 2) (v := .int .i64 q) rfl; have f3 := hBq.cell (i := 3) (v := .int .i64 b) rfl; have f4 := hBq.cell (i := 4) (v := .int .i64 d) rfl; have f5 := hBq.cell (i := 5) (v := .int .i64 l) rfl
      by_cases hz : z < lim
      · go_wp2_with (go_at_call 56; (with_reducible refine (hpx1.out _ (HX.out.ext hxq)).mono ?_); rintro e w2 ⟨rfl, hx2⟩; have hG2 := hGq.ext hx2; have hB2 := hBq.ext hx2; have hZ2 := hZq.ext hx2; have hX2 := hXq.ext hx2; have hx2' := hxq.trans hx2; have hown2 := hoq.ext hx2; have x0 := hX2.cell (i := 0) (v := .int .i64 R) rfl; have x1 := hX2.cell (i := 1) (v := .int .i64 C) rfl; have x2 := hX2.cell (i := 2) (v := .slice (some ⟨ga, 0, none⟩) M co) rfl; have xl := hX2.lt; obtain ⟨gb, cc1, hv1, hgB, hgl, hce, hfr, -, hst⟩ := hown2.stored (k := j) (by have := hln.out; omega); simp only [Value.slice.injEq, Option.some.injEq, Addr.mk.injEq, and_true, true_and] at hv1; obtain ⟨hge, -, -⟩ := hv1; rw [← hge] at hgl hce hfr hst hgB; have hst2 := hst 1; rw [hc1.out hz] at hst2; replace hst2 := Lib.hid hst2; clear hst hown2 hge)
        go_roundw
        case rel => exact ⟨j + 1, hlt, by go_num, hst2.out, hG2.far (by omega) _, hB2.far (by omega) _, hZ2.far (by omega) _, hX2.far (by intro e; exact hnx (by rw [e]; rfl)) _, hx2'.setCell (by show _ ≤ _; simp only; omega) _⟩
        case measure => simp [intOf]; omega
      · go_wp2_with (go_at_call 56; go_loud (with_reducible refine (hpx1.out _ (HX.out.ext hxq)).mono ?_); rintro e w2 ⟨rfl, hx2⟩; have hG2 := hGq.ext hx2; have hB2 := hBq.ext hx2; have hZ2 := hZq.ext hx2; have hX2 := hXq.ext hx2; have hx2' := hxq.trans hx2; have hown2 := hoq.ext hx2; have x0 := hX2.cell (i := 0) (v := .int .i64 R) rfl; have x1 := hX2.cell (i := 1) (v := .int .i64 C) rfl; have x2 := hX2.cell (i := 2) (v := .slice (some ⟨ga, 0, none⟩) M co) rfl; have xl := hX2.lt)
        go_roundw
        case rel => exact ⟨j + 1, hlt, by go_num, by rw [← hc0.out hz]; exact hown2, hG2, hB2, hZ2, hX2, hx2'⟩
        case measure => simp [intOf]; omega
    · obtain rfl : j = M := by omega
      have z0 := hZr.cell (i := 0) (v := .int .i64 0) rfl; have z1 := hZr.cell (i := 1) (v := .int .i64 0) rfl; have z2 := hZr.cell (i := 2) (v := .slice none 0 0) rfl; have zl := hZr.lt; have zf := hZr.free
      have hF := ((hZr.set 0 (.int .i64 R)).set 1 (.int .i64 C)).set 2 (.slice (some ⟨ga, 0, none⟩) j co)
      have c0 := hF.cell (i := 0) (v := .int .i64 R) rfl; have c1 := hF.cell (i := 1) (v := .int .i64 C) rfl; have c2 := hF.cell (i := 2) (v := .slice (some ⟨ga, 0, none⟩) j co) rfl
      rw [hSA.out] at hown
      have hne : ∀ i : Nat, (Value.slice (some ⟨ga, 0, none⟩) j co).ownBlock ≠ some (w.heap.size + 1 + 1) := fun _ e => by have := (hown.lt _ e).1; omega
      have hrF := ((hown.setOther (hne 0) (i := 0) (u := .int .i64 R)).setOther (hne 0) (i := 1) (u := .int .i64 C)).setOther (hne 0) (i := 2) (u := .slice (some ⟨ga, 0, none⟩) j co)
      go_wp2
      exact bodyPost_ret (v := .tuple #[.agg #[.int .i64 R, .int .i64 C, .slice (some ⟨ga, 0, none⟩) j co], .int .i64 0]) (by simp [results, Try.results16, go_sem, c0, c1, c2]) rfl ⟨⟨_, _, rfl, hrF.mono (by omega)⟩, ((hext.setCell (by show _ ≤ _; simp only; omega) _).setCell (by show _ ≤ _; simp only; omega) _).setCell (by show _ ≤ _; simp only; omega) _⟩
end Go.Proofs.Ytamgbmoeanmfaaa

/-! Draws and comparisons of the law FnPrinted. -/
namespace Go.Proofs.Ytamgbmoeanmfaaa
set_option linter.unusedVariables false
set_option linter.unusedSimpArgs false
open Go.RowKit

set_option maxRecDepth 100000 in
theorem likeRaster_t (r c : Int) (p q : Option Addr) (k m : Nat) (xs : List Int) (w : World) (hx : IntsAt w p xs) (hy : IntsAt w q xs) (hl : xs.length ≤ 1048576) :
    Calls Try.prog 11 #[vRas r c p xs.length k, vRas r c q xs.length m] w fun e w' => e = .returned (.bool true) ∧ Ext w w' := by
  have HL := Lib.hid (likeInts_c p q k m xs xs ((w.alloc (.cells #[.int .i64 r, .int .i64 c, .slice p xs.length k] 32)).alloc (.cells #[.int .i64 r, .int .i64 c, .slice q xs.length m] 32)) (hx.ext (((Ext.refl w).alloc _).alloc _)) (hy.ext (((Ext.refl w).alloc _).alloc _)) (by omega) (by omega))
  clear hx hy
  go_enter Try.func11, Try.ntmps11
  go_wp2_with (go_at_call 49; (with_reducible refine HL.out.mono ?_); rintro e w1 ⟨⟨_, rfl⟩ | ⟨hne, rfl⟩, n1, rfl⟩ <;> first | (exact absurd rfl hne) | (exact absurd trivial hne) | skip)
  go_ret
  exact ⟨rfl, (by repeat (first | exact Ext.refl _ | assumption | refine Ext.drew ?_ | refine Ext.drewN ?_ _ | refine Ext.iter ?_ _ _ | refine Ext.alloc ?_ _ | refine Ext.setCell ?_ (by first | exact Nat.le_refl _ | (simp <;> omega)) _ | refine Ext.trans2 (by assumption) ?_))⟩
set_option maxRecDepth 100000 in
theorem likeGrid_t (r c : Int) (p q : Option Addr) (k m : Nat) (xs : List Int) (w : World) (hx : IntsAt w p xs) (hy : IntsAt w q xs) (hl : xs.length ≤ 1048576) :
    Calls Try.prog 20 #[vGrid r c p xs.length k, vGrid r c q xs.length m] w fun e w' => e = .returned (.bool true) ∧ Ext w w' := by
  have HL := Lib.hid (likeInts_c p q k m xs xs ((w.alloc (.cells #[.int .i64 r, .int .i64 c, .slice p xs.length k] 26)).alloc (.cells #[.int .i64 r, .int .i64 c, .slice q xs.length m] 26)) (hx.ext (((Ext.refl w).alloc _).alloc _)) (hy.ext (((Ext.refl w).alloc _).alloc _)) (by omega) (by omega))
  clear hx hy
  go_enter Try.func20, Try.ntmps20
  go_wp2_with (go_at_call 49; (with_reducible refine HL.out.mono ?_); rintro e w1 ⟨⟨_, rfl⟩ | ⟨hne, rfl⟩, n1, rfl⟩ <;> first | (exact absurd rfl hne) | (exact absurd trivial hne) | skip)
  go_ret
  exact ⟨rfl, (by repeat (first | exact Ext.refl _ | assumption | refine Ext.drew ?_ | refine Ext.drewN ?_ _ | refine Ext.iter ?_ _ _ | refine Ext.alloc ?_ _ | refine Ext.setCell ?_ (by first | exact Nat.le_refl _ | (simp <;> omega)) _ | refine Ext.trans2 (by assumption) ?_))⟩
theorem two_sets {w w0 : World} {b B : Nat} {t1 t2 : TypeId} {z0 z1 z2 y0 y1 y2 y3 y4 y5 : Value} {a : Option Addr} {xs : List Int} (h1 : Blk w b #[z0, z1, z2] t1) (h2 : Blk w (b + 1) #[y0, y1, y2, y3, y4, y5] t2) (h3 : Ext w0 w) (hb : w0.heap.size ≤ b) (h4 : OwnInts B w a xs) (hB : b + 1 < B) (v0 v1 v2 u0 u1 u2 u3 u4 u5 : Value) :
    Blk (((((((((w.setCell ⟨b, 0, none⟩ v0).setCell ⟨b, 1, none⟩ v1).setCell ⟨b, 2, none⟩ v2).setCell ⟨b + 1, 0, none⟩ u0).setCell ⟨b + 1, 1, none⟩ u1).setCell ⟨b + 1, 2, none⟩ u2).setCell ⟨b + 1, 3, none⟩ u3).setCell ⟨b + 1, 4, none⟩ u4).setCell ⟨b + 1, 5, none⟩ u5) b #[v0, v1, v2] t1 ∧ Blk (((((((((w.setCell ⟨b, 0, none⟩ v0).setCell ⟨b, 1, none⟩ v1).setCell ⟨b, 2, none⟩ v2).setCell ⟨b + 1, 0, none⟩ u0).setCell ⟨b + 1, 1, none⟩ u1).setCell ⟨b + 1, 2, none⟩ u2).setCell ⟨b + 1, 3, none⟩ u3).setCell ⟨b + 1, 4, none⟩ u4).setCell ⟨b + 1, 5, none⟩ u5) (b + 1) #[u0, u1, u2, u3, u4, u5] t2 ∧ Ext w0 (((((((((w.setCell ⟨b, 0, none⟩ v0).setCell ⟨b, 1, none⟩ v1).setCell ⟨b, 2, none⟩ v2).setCell ⟨b + 1, 0, none⟩ u0).setCell ⟨b + 1, 1, none⟩ u1).setCell ⟨b + 1, 2, none⟩ u2).setCell ⟨b + 1, 3, none⟩ u3).setCell ⟨b + 1, 4, none⟩ u4).setCell ⟨b + 1, 5, none⟩ u5) ∧ OwnInts B (((((((((w.setCell ⟨b, 0, none⟩ v0).setCell ⟨b, 1, none⟩ v1).setCell ⟨b, 2, none⟩ v2).setCell ⟨b + 1, 0, none⟩ u0).setCell ⟨b + 1, 1, none⟩ u1).setCell ⟨b + 1, 2, none⟩ u2).setCell ⟨b + 1, 3, none⟩ u3).setCell ⟨b + 1, 4, none⟩ u4).setCell ⟨b + 1, 5, none⟩ u5) a xs := by
  refine ⟨?_, ?_, (Ext.setCell (Ext.setCell (Ext.setCell (Ext.setCell (Ext.setCell (Ext.setCell (Ext.setCell (Ext.setCell (Ext.setCell h3 (p := ⟨b, 0, none⟩) hb v0) (p := ⟨b, 1, none⟩) hb v1) (p := ⟨b, 2, none⟩) hb v2) (p := ⟨b + 1, 0, none⟩) (Nat.le_succ_of_le hb) u0) (p := ⟨b + 1, 1, none⟩) (Nat.le_succ_of_le hb) u1) (p := ⟨b + 1, 2, none⟩) (Nat.le_succ_of_le hb) u2) (p := ⟨b + 1, 3, none⟩) (Nat.le_succ_of_le hb) u3) (p := ⟨b + 1, 4, none⟩) (Nat.le_succ_of_le hb) u4) (p := ⟨b + 1, 5, none⟩) (Nat.le_succ_of_le hb) u5), (OwnInts.setFar (OwnInts.setFar (OwnInts.setFar (OwnInts.setFar (OwnInts.setFar (OwnInts.setFar (OwnInts.setFar (OwnInts.setFar (OwnInts.setFar h4 (g := b) (i := 0) (v := v0) (by omega)) (g := b) (i := 1) (v := v1) (by omega)) (g := b) (i := 2) (v := v2) (by omega)) (g := b + 1) (i := 0) (v := u0) hB) (g := b + 1) (i := 1) (v := u1) hB) (g := b + 1) (i := 2) (v := u2) hB) (g := b + 1) (i := 3) (v := u3) hB) (g := b + 1) (i := 4) (v := u4) hB) (g := b + 1) (i := 5) (v := u5) hB)⟩
  · have := (((((((((h1.set 0 v0).set 1 v1).set 2 v2).far (g' := b + 1) (i := 0) (by omega) u0).far (g' := b + 1) (i := 1) (by omega) u1).far (g' := b + 1) (i := 2) (by omega) u2).far (g' := b + 1) (i := 3) (by omega) u3).far (g' := b + 1) (i := 4) (by omega) u4).far (g' := b + 1) (i := 5) (by omega) u5)
    simpa using this
  · have := (((((((((h2.far (g' := b) (i := 0) (by omega) v0).far (g' := b) (i := 1) (by omega) v1).far (g' := b) (i := 2) (by omega) v2).set 0 u0).set 1 u1).set 2 u2).set 3 u3).set 4 u4).set 5 u5)
    simpa using this
/-- A grid and a print have been drawn. -/
def DpgR (w : World) (e : Ending) (w' : World) : Prop := ∃ (r c : Int) (a : Option Addr) (k : Nat) (xs : List Int) (p t q b d l : Int), e = .returned (.tuple #[vGrid r c a xs.length k, vPrint p t q b d l]) ∧ xs.length ≤ 100 ∧ xs.length ≤ k ∧ OwnInts w.heap.size w' a xs ∧ Ext w w'
set_option maxHeartbeats 1600000 in
set_option maxRecDepth 100000 in
theorem DrawPrintGrid_c (p : Option Addr) (c : Nat) (code : List Int) (w : World) (hx : U8At w p code) (hl : code.length ≤ 4096) :
    Calls Try.prog 8 #[.slice p code.length c] w fun e w' => DpgR w e w' := by
  have HX := Lib.hid hx; clear hx
  have hb := (Blk.new w #[.int .i64 0, .int .i64 0, .slice none 0 0] 26).alloc (.cells #[.int .i64 0, .int .i64 0, .int .i64 0, .int .i64 0, .int .i64 0, .int .i64 0] 28)
  have hp := Blk.new (w.alloc (.cells #[.int .i64 0, .int .i64 0, .slice none 0 0] 26)) #[.int .i64 0, .int .i64 0, .int .i64 0, .int .i64 0, .int .i64 0, .int .i64 0] 28
  simp only [World.size_alloc] at hp
  go_enter Try.func8, Try.ntmps8
  go_wp2_with (go_at_call 37; (with_reducible refine (From_c p c code _ (HX.out.ext (by repeat (first | exact Ext.refl _ | assumption | refine Ext.drew ?_ | refine Ext.drewN ?_ _ | refine Ext.iter ?_ _ _ | refine Ext.alloc ?_ _ | refine Ext.setCell ?_ (by first | exact Nat.le_refl _ | (simp <;> omega)) _ | refine Ext.trans2 (by assumption) ?_))) hl).mono ?_); rintro e w1 ⟨⟨g, rfl, hg, hs1⟩, hW1⟩; replace hg := Lib.hid hg)
  replace hg := hg.out
  have hn1 : g < w1.heap.size := hs1.lt
  rw [← hg] at hs1
  simp only [World.size_alloc] at hg
  have hgw : w.heap.size + 1 < g := by omega
  have hb1 := hb.ext hW1
  have hp1 := hp.ext hW1
  have hE1 : Ext w w1 := (((Ext.refl w).alloc _).alloc _).trans hW1
  clear hb hp hW1 hg HX
  refine (l16Draw_c (g + 1) g _ hs1 (by omega)).mono ?_
  rintro e w2 ⟨r, c, a, k, xs, rfl, hlx, hkx, ho2, hs2, hb2⟩
  have hz2 := hb2.size
  have hbr2 := (hb1.but hb2 (by omega)).alloc (.cells #[.int .i64 r, .int .i64 c, .slice a xs.length k] 26)
  have hpr2 := (hp1.but hb2 (by omega)).alloc (.cells #[.int .i64 r, .int .i64 c, .slice a xs.length k] 26)
  have hgr2 := Blk.new w2 #[.int .i64 r, .int .i64 c, .slice a xs.length k] 26
  have hE2 := (hE1.but hb2 (by omega)).alloc (.cells #[.int .i64 r, .int .i64 c, .slice a xs.length k] 26)
  have hs2' := hs2.ext ((Ext.refl _).alloc (.cells #[.int .i64 r, .int .i64 c, .slice a xs.length k] 26))
  have ho2' := ho2.ext ((Ext.refl _).alloc (.cells #[.int .i64 r, .int .i64 c, .slice a xs.length k] 26))
  have hf : w2.heap.size < (w2.alloc (.cells #[.int .i64 r, .int .i64 c, .slice a xs.length k] 26)).heap.size := by simp
  have hfg : w2.heap.size ≠ g := by omega
  have hfw : w.heap.size + 1 < w2.heap.size := by omega
  have hgo : g < w1.heap.size := hn1
  clear hs1 hs2 hb2 hb1 hp1 hE1 ho2
  go_wp2_with fail
  generalize w2.alloc (.cells #[.int .i64 r, .int .i64 c, .slice a xs.length k] 26) = w3 at *
  generalize w2.heap.size = f at *
  have g0 := hgr2.cell (i := 0) (v := .int .i64 r) rfl; have g1 := hgr2.cell (i := 1) (v := .int .i64 c) rfl; have g2 := hgr2.cell (i := 2) (v := .slice a xs.length k) rfl
  refine wp_region_ct (fun w' => True) (.st 1 (.two 0 (.one 2 (.one 3 (.one 4 .done))) 2 (.one 0 (.one 3 (.one 4 .done))))) (by kernel_rfl) (by kernel_rfl) (by decide) (by kernel_rfl) ?_ ?_
  · exact trivial
  refine ct_intro fun ops eo => ?_
  have ho0 := canon_at eo 0 rfl
  have ho1 := canon_at eo 1 rfl
  have ho2 := canon_at eo 2 rfl
  have ho3 := canon_at eo 3 rfl
  have ho4 := canon_at eo 4 rfl
  clear eo
  all_goals (apply ct_st ho1 rfl; (intro w2 hS; first | (go_simp; first | done | rfl) | rfl | (skip; go_simp; first | done | rfl)); simp only [Act.put, List.setIfInBounds_toArray, List.set_cons_zero, List.set_cons_succ])
  all_goals clear ho1
  all_goals
    refine ct_two ?_ ?_
    focus
      all_goals first | (refine ct_op ho0 rfl (fun K hK => ?_); go_simp; ((go_at_call 39; (with_reducible refine (l21Draw_c (g + 1) g _ (hs2'.ext (by repeat (first | exact Ext.refl _ | assumption | refine Ext.drew ?_ | refine Ext.drewN ?_ _ | refine Ext.iter ?_ _ _ | refine Ext.alloc ?_ _ | refine Ext.setCell ?_ (by first | exact Nat.le_refl _ | (simp <;> omega)) _ | refine Ext.trans2 (by assumption) ?_))) (by simp; omega)).mono ?_); rintro e w4 ⟨p1, t1, q1, b1, d1, l1, rfl, hbd, hs4, hb4⟩; have hb4' : But g w3 w4 := (But.of (by repeat (first | exact Ext.refl _ | assumption | refine Ext.drew ?_ | refine Ext.drewN ?_ _ | refine Ext.iter ?_ _ _ | refine Ext.alloc ?_ _ | refine Ext.setCell ?_ (by first | exact Nat.le_refl _ | (simp <;> omega)) _ | refine Ext.trans2 (by assumption) ?_))).trans hb4; have hgr4 := hgr2.but hb4' hfg; have hbr4 := hbr2.but hb4' (by omega); have hpr4 := hpr2.but hb4' (by omega); have hE4 := hE2.but hb4' (by omega); have hl4 := hbr4.lt; have hlp4 := hpr4.lt; have hf4 := hbr4.free; have hfp4 := hpr4.free; have hz4 := hb4'.size; have ow4 := ho2'.but hb4' (by omega); have m0 := hbr4.cell (i := 0) (v := .int .i64 0) rfl; have m1 := hbr4.cell (i := 1) (v := .int .i64 0) rfl; have m2 := hbr4.cell (i := 2) (v := .slice none 0 0) rfl; have n0 := hpr4.cell (i := 0) (v := .int .i64 0) rfl; have n1 := hpr4.cell (i := 1) (v := .int .i64 0) rfl; have n2 := hpr4.cell (i := 2) (v := .int .i64 0) rfl; have n3 := hpr4.cell (i := 3) (v := .int .i64 0) rfl; have n4 := hpr4.cell (i := 4) (v := .int .i64 0) rfl; have n5 := hpr4.cell (i := 5) (v := .int .i64 0) rfl; have y0 := hgr4.cell (i := 0) (v := .int .i64 r) rfl; have y1 := hgr4.cell (i := 1) (v := .int .i64 c) rfl; have y2 := hgr4.cell (i := 2) (v := .slice a xs.length k) rfl)); all_goals (refine hK _ _ ⟨trivial, ?_⟩; clear hK K; go_simp)) | (refine ct_op ho0 rfl (fun K hK => ?_); go_simp; (skip); all_goals (refine hK _ _ ⟨trivial, ?_⟩; clear hK K; go_simp))
      all_goals clear ho0
      all_goals refine ct_one ?_
      all_goals first | (refine ct_op ho2 rfl (fun K hK => ?_); go_simp; ((go_at_call 39; (with_reducible refine (l21Draw_c (g + 1) g _ (hs2'.ext (by repeat (first | exact Ext.refl _ | assumption | refine Ext.drew ?_ | refine Ext.drewN ?_ _ | refine Ext.iter ?_ _ _ | refine Ext.alloc ?_ _ | refine Ext.setCell ?_ (by first | exact Nat.le_refl _ | (simp <;> omega)) _ | refine Ext.trans2 (by assumption) ?_))) (by simp; omega)).mono ?_); rintro e w4 ⟨p1, t1, q1, b1, d1, l1, rfl, hbd, hs4, hb4⟩; have hb4' : But g w3 w4 := (But.of (by repeat (first | exact Ext.refl _ | assumption | refine Ext.drew ?_ | refine Ext.drewN ?_ _ | refine Ext.iter ?_ _ _ | refine Ext.alloc ?_ _ | refine Ext.setCell ?_ (by first | exact Nat.le_refl _ | (simp <;> omega)) _ | refine Ext.trans2 (by assumption) ?_))).trans hb4; have hgr4 := hgr2.but hb4' hfg; have hbr4 := hbr2.but hb4' (by omega); have hpr4 := hpr2.but hb4' (by omega); have hE4 := hE2.but hb4' (by omega); have hl4 := hbr4.lt; have hlp4 := hpr4.lt; have hf4 := hbr4.free; have hfp4 := hpr4.free; have hz4 := hb4'.size; have ow4 := ho2'.but hb4' (by omega); have m0 := hbr4.cell (i := 0) (v := .int .i64 0) rfl; have m1 := hbr4.cell (i := 1) (v := .int .i64 0) rfl; have m2 := hbr4.cell (i := 2) (v := .slice none 0 0) rfl; have n0 := hpr4.cell (i := 0) (v := .int .i64 0) rfl; have n1 := hpr4.cell (i := 1) (v := .int .i64 0) rfl; have n2 := hpr4.cell (i := 2) (v := .int .i64 0) rfl; have n3 := hpr4.cell (i := 3) (v := .int .i64 0) rfl; have n4 := hpr4.cell (i := 4) (v := .int .i64 0) rfl; have n5 := hpr4.cell (i := 5) (v := .int .i64 0) rfl; have y0 := hgr4.cell (i := 0) (v := .int .i64 r) rfl; have y1 := hgr4.cell (i := 1) (v := .int .i64 c) rfl; have y2 := hgr4.cell (i := 2) (v := .slice a xs.length k) rfl)); all_goals (refine hK _ _ ⟨trivial, ?_⟩; clear hK K; go_simp)) | (refine ct_op ho2 rfl (fun K hK => ?_); go_simp; (skip); all_goals (refine hK _ _ ⟨trivial, ?_⟩; clear hK K; go_simp))
      all_goals clear ho2
      all_goals refine ct_one ?_
      all_goals first | (refine ct_op ho3 rfl (fun K hK => ?_); go_simp; ((go_at_call 39; (with_reducible refine (l21Draw_c (g + 1) g _ (hs2'.ext (by repeat (first | exact Ext.refl _ | assumption | refine Ext.drew ?_ | refine Ext.drewN ?_ _ | refine Ext.iter ?_ _ _ | refine Ext.alloc ?_ _ | refine Ext.setCell ?_ (by first | exact Nat.le_refl _ | (simp <;> omega)) _ | refine Ext.trans2 (by assumption) ?_))) (by simp; omega)).mono ?_); rintro e w4 ⟨p1, t1, q1, b1, d1, l1, rfl, hbd, hs4, hb4⟩; have hb4' : But g w3 w4 := (But.of (by repeat (first | exact Ext.refl _ | assumption | refine Ext.drew ?_ | refine Ext.drewN ?_ _ | refine Ext.iter ?_ _ _ | refine Ext.alloc ?_ _ | refine Ext.setCell ?_ (by first | exact Nat.le_refl _ | (simp <;> omega)) _ | refine Ext.trans2 (by assumption) ?_))).trans hb4; have hgr4 := hgr2.but hb4' hfg; have hbr4 := hbr2.but hb4' (by omega); have hpr4 := hpr2.but hb4' (by omega); have hE4 := hE2.but hb4' (by omega); have hl4 := hbr4.lt; have hlp4 := hpr4.lt; have hf4 := hbr4.free; have hfp4 := hpr4.free; have hz4 := hb4'.size; have ow4 := ho2'.but hb4' (by omega); have m0 := hbr4.cell (i := 0) (v := .int .i64 0) rfl; have m1 := hbr4.cell (i := 1) (v := .int .i64 0) rfl; have m2 := hbr4.cell (i := 2) (v := .slice none 0 0) rfl; have n0 := hpr4.cell (i := 0) (v := .int .i64 0) rfl; have n1 := hpr4.cell (i := 1) (v := .int .i64 0) rfl; have n2 := hpr4.cell (i := 2) (v := .int .i64 0) rfl; have n3 := hpr4.cell (i := 3) (v := .int .i64 0) rfl; have n4 := hpr4.cell (i := 4) (v := .int .i64 0) rfl; have n5 := hpr4.cell (i := 5) (v := .int .i64 0) rfl; have y0 := hgr4.cell (i := 0) (v := .int .i64 r) rfl; have y1 := hgr4.cell (i := 1) (v := .int .i64 c) rfl; have y2 := hgr4.cell (i := 2) (v := .slice a xs.length k) rfl)); all_goals (refine hK _ _ ⟨trivial, ?_⟩; clear hK K; go_simp)) | (refine ct_op ho3 rfl (fun K hK => ?_); go_simp; (skip); all_goals (refine hK _ _ ⟨trivial, ?_⟩; clear hK K; go_simp))
      all_goals clear ho3
      all_goals refine ct_one ?_
      all_goals first | (refine ct_op ho4 rfl (fun K hK => ?_); go_simp; ((go_at_call 39; (with_reducible refine (l21Draw_c (g + 1) g _ (hs2'.ext (by repeat (first | exact Ext.refl _ | assumption | refine Ext.drew ?_ | refine Ext.drewN ?_ _ | refine Ext.iter ?_ _ _ | refine Ext.alloc ?_ _ | refine Ext.setCell ?_ (by first | exact Nat.le_refl _ | (simp <;> omega)) _ | refine Ext.trans2 (by assumption) ?_))) (by simp; omega)).mono ?_); rintro e w4 ⟨p1, t1, q1, b1, d1, l1, rfl, hbd, hs4, hb4⟩; have hb4' : But g w3 w4 := (But.of (by repeat (first | exact Ext.refl _ | assumption | refine Ext.drew ?_ | refine Ext.drewN ?_ _ | refine Ext.iter ?_ _ _ | refine Ext.alloc ?_ _ | refine Ext.setCell ?_ (by first | exact Nat.le_refl _ | (simp <;> omega)) _ | refine Ext.trans2 (by assumption) ?_))).trans hb4; have hgr4 := hgr2.but hb4' hfg; have hbr4 := hbr2.but hb4' (by omega); have hpr4 := hpr2.but hb4' (by omega); have hE4 := hE2.but hb4' (by omega); have hl4 := hbr4.lt; have hlp4 := hpr4.lt; have hf4 := hbr4.free; have hfp4 := hpr4.free; have hz4 := hb4'.size; have ow4 := ho2'.but hb4' (by omega); have m0 := hbr4.cell (i := 0) (v := .int .i64 0) rfl; have m1 := hbr4.cell (i := 1) (v := .int .i64 0) rfl; have m2 := hbr4.cell (i := 2) (v := .slice none 0 0) rfl; have n0 := hpr4.cell (i := 0) (v := .int .i64 0) rfl; have n1 := hpr4.cell (i := 1) (v := .int .i64 0) rfl; have n2 := hpr4.cell (i := 2) (v := .int .i64 0) rfl; have n3 := hpr4.cell (i := 3) (v := .int .i64 0) rfl; have n4 := hpr4.cell (i := 4) (v := .int .i64 0) rfl; have n5 := hpr4.cell (i := 5) (v := .int .i64 0) rfl; have y0 := hgr4.cell (i := 0) (v := .int .i64 r) rfl; have y1 := hgr4.cell (i := 1) (v := .int .i64 c) rfl; have y2 := hgr4.cell (i := 2) (v := .slice a xs.length k) rfl)); all_goals (refine hK _ _ ⟨trivial, ?_⟩; clear hK K; go_simp)) | (refine ct_op ho4 rfl (fun K hK => ?_); go_simp; (skip); all_goals (refine hK _ _ ⟨trivial, ?_⟩; clear hK K; go_simp))
      all_goals clear ho4
      all_goals refine ct_done (NoPanic.normal ?_)
    rotate_right 1
    focus
      all_goals first | (refine ct_op ho2 rfl (fun K hK => ?_); go_simp; ((go_at_call 39; (with_reducible refine (l21Draw_c (g + 1) g _ (hs2'.ext (by repeat (first | exact Ext.refl _ | assumption | refine Ext.drew ?_ | refine Ext.drewN ?_ _ | refine Ext.iter ?_ _ _ | refine Ext.alloc ?_ _ | refine Ext.setCell ?_ (by first | exact Nat.le_refl _ | (simp <;> omega)) _ | refine Ext.trans2 (by assumption) ?_))) (by simp; omega)).mono ?_); rintro e w4 ⟨p1, t1, q1, b1, d1, l1, rfl, hbd, hs4, hb4⟩; have hb4' : But g w3 w4 := (But.of (by repeat (first | exact Ext.refl _ | assumption | refine Ext.drew ?_ | refine Ext.drewN ?_ _ | refine Ext.iter ?_ _ _ | refine Ext.alloc ?_ _ | refine Ext.setCell ?_ (by first | exact Nat.le_refl _ | (simp <;> omega)) _ | refine Ext.trans2 (by assumption) ?_))).trans hb4; have hgr4 := hgr2.but hb4' hfg; have hbr4 := hbr2.but hb4' (by omega); have hpr4 := hpr2.but hb4' (by omega); have hE4 := hE2.but hb4' (by omega); have hl4 := hbr4.lt; have hlp4 := hpr4.lt; have hf4 := hbr4.free; have hfp4 := hpr4.free; have hz4 := hb4'.size; have ow4 := ho2'.but hb4' (by omega); have m0 := hbr4.cell (i := 0) (v := .int .i64 0) rfl; have m1 := hbr4.cell (i := 1) (v := .int .i64 0) rfl; have m2 := hbr4.cell (i := 2) (v := .slice none 0 0) rfl; have n0 := hpr4.cell (i := 0) (v := .int .i64 0) rfl; have n1 := hpr4.cell (i := 1) (v := .int .i64 0) rfl; have n2 := hpr4.cell (i := 2) (v := .int .i64 0) rfl; have n3 := hpr4.cell (i := 3) (v := .int .i64 0) rfl; have n4 := hpr4.cell (i := 4) (v := .int .i64 0) rfl; have n5 := hpr4.cell (i := 5) (v := .int .i64 0) rfl; have y0 := hgr4.cell (i := 0) (v := .int .i64 r) rfl; have y1 := hgr4.cell (i := 1) (v := .int .i64 c) rfl; have y2 := hgr4.cell (i := 2) (v := .slice a xs.length k) rfl)); all_goals (refine hK _ _ ⟨trivial, ?_⟩; clear hK K; go_simp)) | (refine ct_op ho2 rfl (fun K hK => ?_); go_simp; (skip); all_goals (refine hK _ _ ⟨trivial, ?_⟩; clear hK K; go_simp))
      all_goals clear ho2
      all_goals refine ct_one ?_
      all_goals first | (refine ct_op ho0 rfl (fun K hK => ?_); go_simp; ((go_at_call 39; (with_reducible refine (l21Draw_c (g + 1) g _ (hs2'.ext (by repeat (first | exact Ext.refl _ | assumption | refine Ext.drew ?_ | refine Ext.drewN ?_ _ | refine Ext.iter ?_ _ _ | refine Ext.alloc ?_ _ | refine Ext.setCell ?_ (by first | exact Nat.le_refl _ | (simp <;> omega)) _ | refine Ext.trans2 (by assumption) ?_))) (by simp; omega)).mono ?_); rintro e w4 ⟨p1, t1, q1, b1, d1, l1, rfl, hbd, hs4, hb4⟩; have hb4' : But g w3 w4 := (But.of (by repeat (first | exact Ext.refl _ | assumption | refine Ext.drew ?_ | refine Ext.drewN ?_ _ | refine Ext.iter ?_ _ _ | refine Ext.alloc ?_ _ | refine Ext.setCell ?_ (by first | exact Nat.le_refl _ | (simp <;> omega)) _ | refine Ext.trans2 (by assumption) ?_))).trans hb4; have hgr4 := hgr2.but hb4' hfg; have hbr4 := hbr2.but hb4' (by omega); have hpr4 := hpr2.but hb4' (by omega); have hE4 := hE2.but hb4' (by omega); have hl4 := hbr4.lt; have hlp4 := hpr4.lt; have hf4 := hbr4.free; have hfp4 := hpr4.free; have hz4 := hb4'.size; have ow4 := ho2'.but hb4' (by omega); have m0 := hbr4.cell (i := 0) (v := .int .i64 0) rfl; have m1 := hbr4.cell (i := 1) (v := .int .i64 0) rfl; have m2 := hbr4.cell (i := 2) (v := .slice none 0 0) rfl; have n0 := hpr4.cell (i := 0) (v := .int .i64 0) rfl; have n1 := hpr4.cell (i := 1) (v := .int .i64 0) rfl; have n2 := hpr4.cell (i := 2) (v := .int .i64 0) rfl; have n3 := hpr4.cell (i := 3) (v := .int .i64 0) rfl; have n4 := hpr4.cell (i := 4) (v := .int .i64 0) rfl; have n5 := hpr4.cell (i := 5) (v := .int .i64 0) rfl; have y0 := hgr4.cell (i := 0) (v := .int .i64 r) rfl; have y1 := hgr4.cell (i := 1) (v := .int .i64 c) rfl; have y2 := hgr4.cell (i := 2) (v := .slice a xs.length k) rfl)); all_goals (refine hK _ _ ⟨trivial, ?_⟩; clear hK K; go_simp)) | (refine ct_op ho0 rfl (fun K hK => ?_); go_simp; (skip); all_goals (refine hK _ _ ⟨trivial, ?_⟩; clear hK K; go_simp))
      all_goals clear ho0
      all_goals refine ct_one ?_
      all_goals first | (refine ct_op ho3 rfl (fun K hK => ?_); go_simp; ((go_at_call 39; (with_reducible refine (l21Draw_c (g + 1) g _ (hs2'.ext (by repeat (first | exact Ext.refl _ | assumption | refine Ext.drew ?_ | refine Ext.drewN ?_ _ | refine Ext.iter ?_ _ _ | refine Ext.alloc ?_ _ | refine Ext.setCell ?_ (by first | exact Nat.le_refl _ | (simp <;> omega)) _ | refine Ext.trans2 (by assumption) ?_))) (by simp; omega)).mono ?_); rintro e w4 ⟨p1, t1, q1, b1, d1, l1, rfl, hbd, hs4, hb4⟩; have hb4' : But g w3 w4 := (But.of (by repeat (first | exact Ext.refl _ | assumption | refine Ext.drew ?_ | refine Ext.drewN ?_ _ | refine Ext.iter ?_ _ _ | refine Ext.alloc ?_ _ | refine Ext.setCell ?_ (by first | exact Nat.le_refl _ | (simp <;> omega)) _ | refine Ext.trans2 (by assumption) ?_))).trans hb4; have hgr4 := hgr2.but hb4' hfg; have hbr4 := hbr2.but hb4' (by omega); have hpr4 := hpr2.but hb4' (by omega); have hE4 := hE2.but hb4' (by omega); have hl4 := hbr4.lt; have hlp4 := hpr4.lt; have hf4 := hbr4.free; have hfp4 := hpr4.free; have hz4 := hb4'.size; have ow4 := ho2'.but hb4' (by omega); have m0 := hbr4.cell (i := 0) (v := .int .i64 0) rfl; have m1 := hbr4.cell (i := 1) (v := .int .i64 0) rfl; have m2 := hbr4.cell (i := 2) (v := .slice none 0 0) rfl; have n0 := hpr4.cell (i := 0) (v := .int .i64 0) rfl; have n1 := hpr4.cell (i := 1) (v := .int .i64 0) rfl; have n2 := hpr4.cell (i := 2) (v := .int .i64 0) rfl; have n3 := hpr4.cell (i := 3) (v := .int .i64 0) rfl; have n4 := hpr4.cell (i := 4) (v := .int .i64 0) rfl; have n5 := hpr4.cell (i := 5) (v := .int .i64 0) rfl; have y0 := hgr4.cell (i := 0) (v := .int .i64 r) rfl; have y1 := hgr4.cell (i := 1) (v := .int .i64 c) rfl; have y2 := hgr4.cell (i := 2) (v := .slice a xs.length k) rfl)); all_goals (refine hK _ _ ⟨trivial, ?_⟩; clear hK K; go_simp)) | (refine ct_op ho3 rfl (fun K hK => ?_); go_simp; (skip); all_goals (refine hK _ _ ⟨trivial, ?_⟩; clear hK K; go_simp))
      all_goals clear ho3
      all_goals refine ct_one ?_
      all_goals first | (refine ct_op ho4 rfl (fun K hK => ?_); go_simp; ((go_at_call 39; (with_reducible refine (l21Draw_c (g + 1) g _ (hs2'.ext (by repeat (first | exact Ext.refl _ | assumption | refine Ext.drew ?_ | refine Ext.drewN ?_ _ | refine Ext.iter ?_ _ _ | refine Ext.alloc ?_ _ | refine Ext.setCell ?_ (by first | exact Nat.le_refl _ | (simp <;> omega)) _ | refine Ext.trans2 (by assumption) ?_))) (by simp; omega)).mono ?_); rintro e w4 ⟨p1, t1, q1, b1, d1, l1, rfl, hbd, hs4, hb4⟩; have hb4' : But g w3 w4 := (But.of (by repeat (first | exact Ext.refl _ | assumption | refine Ext.drew ?_ | refine Ext.drewN ?_ _ | refine Ext.iter ?_ _ _ | refine Ext.alloc ?_ _ | refine Ext.setCell ?_ (by first | exact Nat.le_refl _ | (simp <;> omega)) _ | refine Ext.trans2 (by assumption) ?_))).trans hb4; have hgr4 := hgr2.but hb4' hfg; have hbr4 := hbr2.but hb4' (by omega); have hpr4 := hpr2.but hb4' (by omega); have hE4 := hE2.but hb4' (by omega); have hl4 := hbr4.lt; have hlp4 := hpr4.lt; have hf4 := hbr4.free; have hfp4 := hpr4.free; have hz4 := hb4'.size; have ow4 := ho2'.but hb4' (by omega); have m0 := hbr4.cell (i := 0) (v := .int .i64 0) rfl; have m1 := hbr4.cell (i := 1) (v := .int .i64 0) rfl; have m2 := hbr4.cell (i := 2) (v := .slice none 0 0) rfl; have n0 := hpr4.cell (i := 0) (v := .int .i64 0) rfl; have n1 := hpr4.cell (i := 1) (v := .int .i64 0) rfl; have n2 := hpr4.cell (i := 2) (v := .int .i64 0) rfl; have n3 := hpr4.cell (i := 3) (v := .int .i64 0) rfl; have n4 := hpr4.cell (i := 4) (v := .int .i64 0) rfl; have n5 := hpr4.cell (i := 5) (v := .int .i64 0) rfl; have y0 := hgr4.cell (i := 0) (v := .int .i64 r) rfl; have y1 := hgr4.cell (i := 1) (v := .int .i64 c) rfl; have y2 := hgr4.cell (i := 2) (v := .slice a xs.length k) rfl)); all_goals (refine hK _ _ ⟨trivial, ?_⟩; clear hK K; go_simp)) | (refine ct_op ho4 rfl (fun K hK => ?_); go_simp; (skip); all_goals (refine hK _ _ ⟨trivial, ?_⟩; clear hK K; go_simp))
      all_goals clear ho4
      all_goals refine ct_done (NoPanic.normal ?_)
  all_goals
    obtain ⟨r1, r2, r3, r4⟩ := two_sets hbr4 hpr4 hE4 (Nat.le_refl _) ow4 (by omega) (.int .i64 r) (.int .i64 c) (.slice a xs.length k) (.int .i64 p1) (.int .i64 t1) (.int .i64 q1) (.int .i64 b1) (.int .i64 d1) (.int .i64 l1)
    clear m0 m1 m2 n0 n1 n2 n3 n4 n5 hgr4 hbr4 hpr4 hE4 ow4 hl4 hlp4 hf4 hfp4 y0 y1 y2
    have c0 := r1.cell (i := 0) (v := .int .i64 r) rfl; have c1 := r1.cell (i := 1) (v := .int .i64 c) rfl; have c2 := r1.cell (i := 2) (v := .slice a xs.length k) rfl
    have e0 := r2.cell (i := 0) (v := .int .i64 p1) rfl; have e1 := r2.cell (i := 1) (v := .int .i64 t1) rfl; have e2 := r2.cell (i := 2) (v := .int .i64 q1) rfl; have e3 := r2.cell (i := 3) (v := .int .i64 b1) rfl; have e4 := r2.cell (i := 4) (v := .int .i64 d1) rfl; have e5 := r2.cell (i := 5) (v := .int .i64 l1) rfl
    generalize ((((((((w4.setCell ⟨w.heap.size, 0, none⟩ (.int .i64 r)).setCell ⟨w.heap.size, 1, none⟩ (.int .i64 c)).setCell ⟨w.heap.size, 2, none⟩ (.slice a xs.length k)).setCell ⟨w.heap.size + 1, 0, none⟩ (.int .i64 p1)).setCell ⟨w.heap.size + 1, 1, none⟩ (.int .i64 t1)).setCell ⟨w.heap.size + 1, 2, none⟩ (.int .i64 q1)).setCell ⟨w.heap.size + 1, 3, none⟩ (.int .i64 b1)).setCell ⟨w.heap.size + 1, 4, none⟩ (.int .i64 d1)).setCell ⟨w.heap.size + 1, 5, none⟩ (.int .i64 l1) = w5 at *
    go_wp2_with fail
    exact bodyPost_ret (v := .tuple #[vGrid r c a xs.length k, vPrint p1 t1 q1 b1 d1 l1]) (by simp [results, Try.results8, go_sem, c0, c1, c2, e0, e1, e2, e3, e4, e5]) rfl ⟨r, c, a, k, xs, p1, t1, q1, b1, d1, l1, rfl, hlx, hkx, r4.mono (by omega), r3⟩
end Go.Proofs.Ytamgbmoeanmfaaa
