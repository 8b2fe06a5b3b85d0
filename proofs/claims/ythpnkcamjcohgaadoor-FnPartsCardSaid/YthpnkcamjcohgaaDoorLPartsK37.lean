/- Drawn texts; names of modes. -/
import Derived.Test.YthpnkcamjcohgaaDoorLPartsK36
import Derived.Test.YthpnkcamjcohgaaDoorLPartsK01
import Derived.Test.YthpnkcamjcohgaaDoorLPartsK03
import Derived.Test.YthpnkcamjcohgaaDoorLPartsK06
import Derived.Test.YthpnkcamjcohgaaDoorLPartsK05
/-! Drawn texts; names of modes. -/
namespace Go.Proofs.YthpnkcamjcohgaaDoor
set_option linter.unusedVariables false
set_option linter.unusedSimpArgs false
open Go.RowKit

theorem RowB.but {g B : Nat} {a b : World} {v : Value} {s : ByteArray} (h : RowB B a v s) (k : But g a b) (hg : g < B) : RowB B b v s := by
  refine ⟨h.1, ?_⟩
  rcases h.2 with h2 | ⟨g', cap, cur, hv, hg', hh, r⟩
  · exact .inl h2
  · exact .inr ⟨g', cap, cur, hv, hg', by rw [k.block g' (Array.getElem?_eq_some_iff.1 hh).1 (by omega)]; exact hh, r⟩

/-- A text of at most most bytes has been drawn. -/
def TextR (n0 g : Nat) (most : Int) (w : World) (e : Ending) (w' : World) : Prop := ∃ t : ByteArray, e = .returned (.string t) ∧ (t.size : Int) ≤ most ∧ Src n0 w' g ∧ But g w w'
set_option maxRecDepth 100000 in
theorem DrawText_c (n0 g : Nat) (m most : Int) (w : World) (h : Src n0 w g) (hn0 : n0 ≤ w.heap.size) (hm : 1 ≤ m ∧ m ≤ 4) (hmost : 0 ≤ most ∧ most ≤ 100000) :
    Calls Tryd.prog 92 #[.pointer (some ⟨g, 0, none⟩), .int .i64 m, .int .i64 most] w fun e w' => TextR n0 g most w e w' := by
  have HS := Lib.hid h
  have hg : g < n0 := h.1
  clear h
  go_enter Tryd.func92, Tryd.ntmps92
  go_wp2_with (go_at_call 49; (with_reducible refine (Next_c n0 g _ _ (HS.out.ext (by repeat (first | exact Ext.refl _ | assumption | refine Ext.drew ?_ | refine Ext.drewN ?_ _ | refine Ext.iter ?_ _ _ | refine Ext.alloc ?_ _ | refine Ext.setCell ?_ (by first | exact Nat.le_refl _ | (simp <;> omega)) _ | refine Ext.trans2 (by assumption) ?_))) (by omega)).mono ?_); rintro e w1 ⟨x, rfl, hx0, hx1, hx2, hs1, hb1⟩)
  have hx1 : x ≤ most := by
    by_cases h1 : 1 < most + 1
    · have := hx1 h1; omega
    · have := hx2 (by omega); omega
  clear hx2
  have hrow := (RowB.made (w := w) (Nat.le_refl _)).but hb1 (by omega)
  have hbut := (But.of (g := g) ((Ext.refl w).alloc (.cells #[] 5))).trans hb1
  clear hb1
  go_loopw [7, 8] (fun o i wr => ∃ (k : Nat) (t : ByteArray), i = .int .i64 k ∧ (t.size : Int) + k ≤ most ∧ RowB w.heap.size wr o t ∧ Src n0 wr g ∧ But g w wr) (fun _ i _ => (intOf i).toNat)
  case atStart => exact ⟨x.toNat, ByteArray.empty, by rw [Int.toNat_of_nonneg hx0], by show (0 : Int) + _ ≤ _; omega, hrow, hs1, hbut⟩
  case round =>
    clear hrow hs1 hbut hx1 hx0
    obtain ⟨k, t, rfl, hk, hown, hs, hbut⟩ := hrel
    have hsz := hbut.size
    by_cases hlt : 0 < k
    · have hd : 0 < (k : Int) := by omega
      have HS2 := Lib.hid hs; clear hs
      by_cases h4 : m = 4
      · have hd4 : (m == 4) = true := by simp [h4]
        have HM := Lib.hid h4; clear h4
        go_wp2_with (first
          | (go_at_call 49; (with_reducible refine (Next_c n0 g _ _ HS2.out (by omega)).mono ?_); rintro e w2 ⟨y, rfl, hy0, hy1, -, hs2, hb2⟩; have hy1 := hy1 (by omega); have hs2 := Lib.hid hs2; have hown2 := hown.but hb2 (by omega); have hbut2 := Lib.hid (hbut.trans hb2); have hsz2 := hb2.size)
          | (at_builtin; go_loud (refine append1B (n := UInt8.ofNat y.toNat) hown2 (by omega) (by omega) (by rw [UInt8.toNat_ofNat_of_lt' (show y.toNat < 256 by omega), Int.toNat_of_nonneg hy0]) ?_ rfl rfl); intro v1 w3 hown3 hb3))
        go_roundw
        case rel => exact ⟨k - 1, t.push (UInt8.ofNat y.toNat), by go_num, by rw [ByteArray.size_push]; omega, hown3, hs2.out.low hb3 hn0, hbut2.out.below hb3 (Nat.le_refl _)⟩
        case measure => simp [intOf]; omega
      · have hd4 : (m == 4) = false := by simp [h4]
        have hms := modeSet_size m
        have hms0 : 0 < (modeSet m).size := by
          have : m = 1 ∨ m = 2 ∨ m = 3 := by omega
          rcases this with rfl | rfl | rfl <;> decide
        go_wp2_with (first
          | (go_at_call 127; (with_reducible refine (set_c _ _).mono ?_); rintro e w' ⟨rfl, rfl⟩)
          | (go_at_call 49; (with_reducible refine (Next_c n0 g _ _ HS2.out (by omega)).mono ?_); rintro e w2 ⟨y, rfl, hy0, hy1, hy2, hs2, hb2⟩; obtain ⟨yn, rfl⟩ : ∃ yn : Nat, y = yn := ⟨y.toNat, by omega⟩; have hyb : yn < (modeSet m).size := (by by_cases h1 : (1 : Int) < (modeSet m).size; (have := hy1 h1; omega); (have := hy2 (by omega); omega)); clear hy1 hy2; have hs2 := Lib.hid hs2; have hown2 := hown.but hb2 (by omega); have hbut2 := Lib.hid (hbut.trans hb2); have hsz2 := hb2.size)
          | (at_builtin; go_loud (refine append1B (n := (modeSet m)[yn]'hyb) hown2 (by omega) (by omega) rfl ?_ rfl rfl); intro v1 w3 hown3 hb3))
        go_roundw
        case rel => exact ⟨k - 1, t.push ((modeSet m)[yn]'hyb), by go_num, by rw [ByteArray.size_push]; omega, hown3, hs2.out.low hb3 hn0, hbut2.out.below hb3 (Nat.le_refl _)⟩
        case measure => simp [intOf]; omega
    · have hd : ¬ 0 < (k : Int) := by omega
      have HS2 := Lib.hid hs; clear hs
      have hcv := hown.conv
      go_wp2
      go_ret
      exact ⟨t, rfl, by omega, HS2.out, hbut⟩

end Go.Proofs.YthpnkcamjcohgaaDoor

/-! A string of zero bytes. -/
namespace Go.Proofs.YthpnkcamjcohgaaDoor
set_option linter.unusedVariables false
set_option linter.unusedSimpArgs false
open Go.RowKit

theorem zeroStr (g n : Nat) (w : World) (hb : Blk w g (madeCells #[.int .u8 0] n) 5) : (convert 29 9 (.slice (some ⟨g, 0, none⟩) n n)).run Tryd.prog w = .ok (.string ⟨(List.replicate n (0 : UInt8)).toArray⟩) w := by
  have := run_convert_bytes_back (P := Tryd.prog) w 29 9 5 ⟨g, 0, none⟩ n (List.replicate n 0) (by kernel_rfl) (by kernel_rfl) (by kernel_rfl) (fun j hj => by
    have hj2 : j < n := by simpa using hj
    rw [addr_add, Nat.zero_add]
    refine hb.cell ?_
    rw [made_get hj2]
    simp [Nat.mod_one])
  simpa using this
end Go.Proofs.YthpnkcamjcohgaaDoor
