/- A field of a size, and drawn fields. -/
import Derived.Test.YthpnkcamjcohgaaDoorLPartsK18
import Derived.Test.YthpnkcamjcohgaaDoorLPartsK36
import Derived.Test.YthpnkcamjcohgaaDoorLPartsK38
import Derived.Test.YthpnkcamjcohgaaDoorLPartsK39
import Derived.Test.YthpnkcamjcohgaaDoorLPartsK22
/-! A field of a size, and drawn fields. -/
namespace Go.Proofs.YthpnkcamjcohgaaDoor
set_option linter.unusedVariables false
set_option linter.unusedSimpArgs false
open Go.RowKit

/-- A field and a code given back. -/
def FoR (w : World) (e : Ending) (w' : World) : Prop := ∃ p k q c : Int, e = .returned (.tuple #[vFld p k q, .int .i64 c]) ∧ ((0 ≤ p ∧ p ≤ 2000) ∧ (0 ≤ k ∧ k ≤ 10) ∧ (0 ≤ q ∧ q ≤ 2000)) ∧ Ext w w'
set_option maxHeartbeats 800000 in
set_option maxRecDepth 100000 in
theorem FieldOf_c (n : Int) (w : World) (hn : 3 ≤ n ∧ n ≤ 1000) : Calls Tryd.prog 126 #[.int .i64 n] w fun e w' => FoR w e w' := by
  have hb := Blk.new w #[.int .i64 0, .int .i64 0, .int .i64 0] 32
  have hx0 : Ext w (w.alloc (.cells #[.int .i64 0, .int .i64 0, .int .i64 0] 32)) := (Ext.refl w).alloc _
  go_enter Tryd.func126, Tryd.ntmps126
  go_wp2_with (first
    | (go_at_call 98; (with_reducible refine (l01In_c _ _ _ _).mono ?_); rintro e w1 ⟨⟨hP, rfl⟩ | ⟨hP, rfl⟩, rfl⟩ <;> first | (exfalso; omega) | skip)
    | (go_at_call 99; (with_reducible refine (l02Prime_c _ _ (by omega)).mono ?_); rintro e w1 ⟨⟨hP2, rfl⟩ | ⟨hP2, rfl⟩, rfl⟩ <;> clear hP2))
  · generalize hw0 : w.alloc (.cells #[.int .i64 0, .int .i64 0, .int .i64 0] 32) = w0 at *
    clear hw0
    have hn1 : 1 ≤ n := by omega
    have hn2 : n ≤ 1000 := hn.2
    go_loopw [4] (fun i wr => ∃ d : Nat, 1 ≤ d ∧ (d : Int) ≤ n ∧ i = .int .i64 d ∧ Ext w0 wr) (fun i _ => (n - intOf i).toNat)
    case atStart => exact ⟨1, by omega, by omega, rfl, (by repeat (first | exact Ext.refl _ | assumption | refine Ext.drew ?_ | refine Ext.drewN ?_ _ | refine Ext.iter ?_ _ _ | refine Ext.alloc ?_ _ | refine Ext.setCell ?_ (by first | exact Nat.le_refl _ | (simp <;> omega)) _ | refine Ext.trans2 (by assumption) ?_))⟩
    case round =>
      obtain ⟨d, hd1, hdn, rfl, hext⟩ := hrel
      by_cases hlt : (d : Int) < n
      · have hbr := hb.ext hext
        have fb := Blk.new wr #[.int .i64 n, .int .i64 1, .int .i64 d] 32
        have hwl := hbr.lt
        go_wp2_with (go_at_call 100; (with_reducible refine (runsP_c n d d _ (by omega) (by omega)).mono ?_); rintro e w1 ⟨⟨hP3, rfl⟩ | ⟨hP3, rfl⟩, hx1⟩ <;> clear hP3 <;> (have hb1 := (hbr.alloc (.cells #[.int .i64 n, .int .i64 1, .int .i64 d] 32)).ext hx1; have fb1 := fb.ext hx1; have f0 := fb1.cell (i := 0) (v := .int .i64 n) rfl; have f1 := fb1.cell (i := 1) (v := .int .i64 1) rfl; have f2 := fb1.cell (i := 2) (v := .int .i64 d) rfl; have fl := fb1.lt; have q0 := hb1.cell (i := 0) (v := .int .i64 0) rfl; have q1 := hb1.cell (i := 1) (v := .int .i64 0) rfl; have q2 := hb1.cell (i := 2) (v := .int .i64 0) rfl; have ql := hb1.lt; have qf0 := hb1.free 0; have qf1 := hb1.free 1; have qf2 := hb1.free 2))
        · have hF := ((hb1.set 0 (.int .i64 n)).set 1 (.int .i64 1)).set 2 (.int .i64 d)
          have c0 := hF.cell (i := 0) (v := .int .i64 n) rfl
          have c1 := hF.cell (i := 1) (v := .int .i64 1) rfl
          have c2 := hF.cell (i := 2) (v := .int .i64 d) rfl
          exact bodyPost_ret (v := .tuple #[vFld n 1 d, .int .i64 0]) (by simp [results, Tryd.results126, go_sem, c0, c1, c2, vFld]) rfl ⟨n, 1, d, 0, rfl, ⟨by omega, by omega, by omega⟩, (by repeat (first | exact Ext.refl _ | assumption | refine Ext.drew ?_ | refine Ext.drewN ?_ _ | refine Ext.iter ?_ _ _ | refine Ext.alloc ?_ _ | refine Ext.setCell ?_ (by first | exact Nat.le_refl _ | (simp <;> omega)) _ | refine Ext.trans2 (by assumption) ?_))⟩
        · go_roundw
          case rel => exact ⟨d + 1, by omega, by omega, by go_num, (by repeat (first | exact Ext.refl _ | assumption | refine Ext.drew ?_ | refine Ext.drewN ?_ _ | refine Ext.iter ?_ _ _ | refine Ext.alloc ?_ _ | refine Ext.setCell ?_ (by first | exact Nat.le_refl _ | (simp <;> omega)) _ | refine Ext.trans2 (by assumption) ?_))⟩
          case measure => simp [intOf]; omega
      · go_wp2
        go_loopw [6] (fun i wr => ∃ P : Int, 3 ≤ P ∧ P ≤ 9 ∧ i = .int .i64 P ∧ Ext w0 wr) (fun i _ => (9 - intOf i).toNat)
        case atStart => exact ⟨3, by omega, by omega, rfl, (by repeat (first | exact Ext.refl _ | assumption | refine Ext.drew ?_ | refine Ext.drewN ?_ _ | refine Ext.iter ?_ _ _ | refine Ext.alloc ?_ _ | refine Ext.setCell ?_ (by first | exact Nat.le_refl _ | (simp <;> omega)) _ | refine Ext.trans2 (by assumption) ?_))⟩
        case round =>
          obtain ⟨P, hP3, hP9, rfl, hext⟩ := hrel
          by_cases hlt : P ≤ 8
          · obtain ⟨S, hS⟩ : ∃ S : Int, (2 : Int) ^ P.toNat = S := ⟨_, rfl⟩
            have hS1 : S ≤ 256 ∧ 8 ≤ S := by
              have : P = 3 ∨ P = 4 ∨ P = 5 ∨ P = 6 ∨ P = 7 ∨ P = 8 := by omega
              rcases this with rfl | rfl | rfl | rfl | rfl | rfl <;> (subst hS; decide)
            by_cases hns : n = S
            · subst hns
              obtain ⟨wo, rfl⟩ : ∃ wo : World, wo = wr := ⟨_, rfl⟩
              go_wp2
              go_loopw [7] (fun i wr => ∃ d : Int, n ≤ d ∧ d ≤ 2 * n ∧ i = .int .i64 d ∧ Ext wo wr) (fun i _ => (2 * n - intOf i).toNat)
              case atStart => exact ⟨n, by omega, by omega, rfl, (by repeat (first | exact Ext.refl _ | assumption | refine Ext.drew ?_ | refine Ext.drewN ?_ _ | refine Ext.iter ?_ _ _ | refine Ext.alloc ?_ _ | refine Ext.setCell ?_ (by first | exact Nat.le_refl _ | (simp <;> omega)) _ | refine Ext.trans2 (by assumption) ?_))⟩
              case round =>
                obtain ⟨d, hd1, hdn, rfl, hext3⟩ := hrel
                by_cases hlt : d < 2 * n
                · have hbr := hb.ext (hext.trans hext3)
                  have fb := Blk.new wr #[.int .i64 2, .int .i64 P, .int .i64 d] 32
                  have hwl := hbr.lt
                  go_wp2_with (go_at_call 56; (with_reducible refine (sIsField_c _ _ _ _).mono ?_); rintro e w1 ⟨⟨hP3, rfl⟩ | ⟨hP3, rfl⟩, hx1⟩ <;> clear hP3 <;> (have hb1 := (hbr.alloc (.cells #[.int .i64 2, .int .i64 P, .int .i64 d] 32)).ext hx1; have fb1 := fb.ext hx1; have f0 := fb1.cell (i := 0) (v := .int .i64 2) rfl; have f1 := fb1.cell (i := 1) (v := .int .i64 P) rfl; have f2 := fb1.cell (i := 2) (v := .int .i64 d) rfl; have fl := fb1.lt; have q0 := hb1.cell (i := 0) (v := .int .i64 0) rfl; have q1 := hb1.cell (i := 1) (v := .int .i64 0) rfl; have q2 := hb1.cell (i := 2) (v := .int .i64 0) rfl; have ql := hb1.lt; have qf0 := hb1.free 0; have qf1 := hb1.free 1; have qf2 := hb1.free 2))
                  · have hF := ((hb1.set 0 (.int .i64 2)).set 1 (.int .i64 P)).set 2 (.int .i64 d)
                    have c0 := hF.cell (i := 0) (v := .int .i64 2) rfl
                    have c1 := hF.cell (i := 1) (v := .int .i64 P) rfl
                    have c2 := hF.cell (i := 2) (v := .int .i64 d) rfl
                    exact bodyPost_ret (v := .tuple #[vFld 2 P d, .int .i64 0]) (by simp [results, Tryd.results126, go_sem, c0, c1, c2, vFld]) rfl ⟨2, P, d, 0, rfl, ⟨by omega, by omega, by omega⟩, (by repeat (first | exact Ext.refl _ | assumption | refine Ext.drew ?_ | refine Ext.drewN ?_ _ | refine Ext.iter ?_ _ _ | refine Ext.alloc ?_ _ | refine Ext.setCell ?_ (by first | exact Nat.le_refl _ | (simp <;> omega)) _ | refine Ext.trans2 (by assumption) ?_))⟩
                  · go_roundw
                    case rel => exact ⟨d + 1, by omega, by omega, by go_num, (by repeat (first | exact Ext.refl _ | assumption | refine Ext.drew ?_ | refine Ext.drewN ?_ _ | refine Ext.iter ?_ _ _ | refine Ext.alloc ?_ _ | refine Ext.setCell ?_ (by first | exact Nat.le_refl _ | (simp <;> omega)) _ | refine Ext.trans2 (by assumption) ?_))⟩
                    case measure => simp [intOf]; omega
                · go_wp2
                  go_roundw
                  case rel => exact ⟨P + 1, by omega, by omega, by go_num, (by repeat (first | exact Ext.refl _ | assumption | refine Ext.drew ?_ | refine Ext.drewN ?_ _ | refine Ext.iter ?_ _ _ | refine Ext.alloc ?_ _ | refine Ext.setCell ?_ (by first | exact Nat.le_refl _ | (simp <;> omega)) _ | refine Ext.trans2 (by assumption) ?_))⟩
                  case measure => simp [intOf]; omega
            · go_wp2
              go_roundw
              case rel => exact ⟨P + 1, by omega, by omega, by go_num, (by repeat (first | exact Ext.refl _ | assumption | refine Ext.drew ?_ | refine Ext.drewN ?_ _ | refine Ext.iter ?_ _ _ | refine Ext.alloc ?_ _ | refine Ext.setCell ?_ (by first | exact Nat.le_refl _ | (simp <;> omega)) _ | refine Ext.trans2 (by assumption) ?_))⟩
              case measure => simp [intOf]; omega
          · have hbr := hb.ext hext
            have q0 := hbr.cell (i := 0) (v := .int .i64 0) rfl; have q1 := hbr.cell (i := 1) (v := .int .i64 0) rfl; have q2 := hbr.cell (i := 2) (v := .int .i64 0) rfl; have ql := hbr.lt; have qf0 := hbr.free 0; have qf1 := hbr.free 1; have qf2 := hbr.free 2
            go_wp2
            have hF := ((hbr.set 0 (.int .i64 0)).set 1 (.int .i64 0)).set 2 (.int .i64 0)
            have c0 := hF.cell (i := 0) (v := .int .i64 0) rfl
            have c1 := hF.cell (i := 1) (v := .int .i64 0) rfl
            have c2 := hF.cell (i := 2) (v := .int .i64 0) rfl
            exact bodyPost_ret (v := .tuple #[vFld 0 0 0, .int .i64 4]) (by simp [results, Tryd.results126, go_sem, c0, c1, c2, vFld]) rfl ⟨0, 0, 0, 4, rfl, ⟨by omega, by omega, by omega⟩, (by repeat (first | exact Ext.refl _ | assumption | refine Ext.drew ?_ | refine Ext.drewN ?_ _ | refine Ext.iter ?_ _ _ | refine Ext.alloc ?_ _ | refine Ext.setCell ?_ (by first | exact Nat.le_refl _ | (simp <;> omega)) _ | refine Ext.trans2 (by assumption) ?_))⟩
  · generalize hw0 : w.alloc (.cells #[.int .i64 0, .int .i64 0, .int .i64 0] 32) = w0 at *
    clear hw0
    have hn2 : n ≤ 1000 := hn.2
    go_loopw [6] (fun i wr => ∃ P : Int, 3 ≤ P ∧ P ≤ 9 ∧ i = .int .i64 P ∧ Ext w0 wr) (fun i _ => (9 - intOf i).toNat)
    case atStart => exact ⟨3, by omega, by omega, rfl, (by repeat (first | exact Ext.refl _ | assumption | refine Ext.drew ?_ | refine Ext.drewN ?_ _ | refine Ext.iter ?_ _ _ | refine Ext.alloc ?_ _ | refine Ext.setCell ?_ (by first | exact Nat.le_refl _ | (simp <;> omega)) _ | refine Ext.trans2 (by assumption) ?_))⟩
    case round =>
      obtain ⟨P, hP3, hP9, rfl, hext⟩ := hrel
      by_cases hlt : P ≤ 8
      · obtain ⟨S, hS⟩ : ∃ S : Int, (2 : Int) ^ P.toNat = S := ⟨_, rfl⟩
        have hS1 : S ≤ 256 ∧ 8 ≤ S := by
          have : P = 3 ∨ P = 4 ∨ P = 5 ∨ P = 6 ∨ P = 7 ∨ P = 8 := by omega
          rcases this with rfl | rfl | rfl | rfl | rfl | rfl <;> (subst hS; decide)
        by_cases hns : n = S
        · subst hns
          obtain ⟨wo, rfl⟩ : ∃ wo : World, wo = wr := ⟨_, rfl⟩
          go_wp2
          go_loopw [7] (fun i wr => ∃ d : Int, n ≤ d ∧ d ≤ 2 * n ∧ i = .int .i64 d ∧ Ext wo wr) (fun i _ => (2 * n - intOf i).toNat)
          case atStart => exact ⟨n, by omega, by omega, rfl, (by repeat (first | exact Ext.refl _ | assumption | refine Ext.drew ?_ | refine Ext.drewN ?_ _ | refine Ext.iter ?_ _ _ | refine Ext.alloc ?_ _ | refine Ext.setCell ?_ (by first | exact Nat.le_refl _ | (simp <;> omega)) _ | refine Ext.trans2 (by assumption) ?_))⟩
          case round =>
            obtain ⟨d, hd1, hdn, rfl, hext3⟩ := hrel
            by_cases hlt : d < 2 * n
            · have hbr := hb.ext (hext.trans hext3)
              have fb := Blk.new wr #[.int .i64 2, .int .i64 P, .int .i64 d] 32
              have hwl := hbr.lt
              go_wp2_with (go_at_call 56; (with_reducible refine (sIsField_c _ _ _ _).mono ?_); rintro e w1 ⟨⟨hP3, rfl⟩ | ⟨hP3, rfl⟩, hx1⟩ <;> clear hP3 <;> (have hb1 := (hbr.alloc (.cells #[.int .i64 2, .int .i64 P, .int .i64 d] 32)).ext hx1; have fb1 := fb.ext hx1; have f0 := fb1.cell (i := 0) (v := .int .i64 2) rfl; have f1 := fb1.cell (i := 1) (v := .int .i64 P) rfl; have f2 := fb1.cell (i := 2) (v := .int .i64 d) rfl; have fl := fb1.lt; have q0 := hb1.cell (i := 0) (v := .int .i64 0) rfl; have q1 := hb1.cell (i := 1) (v := .int .i64 0) rfl; have q2 := hb1.cell (i := 2) (v := .int .i64 0) rfl; have ql := hb1.lt; have qf0 := hb1.free 0; have qf1 := hb1.free 1; have qf2 := hb1.free 2))
              · have hF := ((hb1.set 0 (.int .i64 2)).set 1 (.int .i64 P)).set 2 (.int .i64 d)
                have c0 := hF.cell (i := 0) (v := .int .i64 2) rfl
                have c1 := hF.cell (i := 1) (v := .int .i64 P) rfl
                have c2 := hF.cell (i := 2) (v := .int .i64 d) rfl
                exact bodyPost_ret (v := .tuple #[vFld 2 P d, .int .i64 0]) (by simp [results, Tryd.results126, go_sem, c0, c1, c2, vFld]) rfl ⟨2, P, d, 0, rfl, ⟨by omega, by omega, by omega⟩, (by repeat (first | exact Ext.refl _ | assumption | refine Ext.drew ?_ | refine Ext.drewN ?_ _ | refine Ext.iter ?_ _ _ | refine Ext.alloc ?_ _ | refine Ext.setCell ?_ (by first | exact Nat.le_refl _ | (simp <;> omega)) _ | refine Ext.trans2 (by assumption) ?_))⟩
              · go_roundw
                case rel => exact ⟨d + 1, by omega, by omega, by go_num, (by repeat (first | exact Ext.refl _ | assumption | refine Ext.drew ?_ | refine Ext.drewN ?_ _ | refine Ext.iter ?_ _ _ | refine Ext.alloc ?_ _ | refine Ext.setCell ?_ (by first | exact Nat.le_refl _ | (simp <;> omega)) _ | refine Ext.trans2 (by assumption) ?_))⟩
                case measure => simp [intOf]; omega
            · go_wp2
              go_roundw
              case rel => exact ⟨P + 1, by omega, by omega, by go_num, (by repeat (first | exact Ext.refl _ | assumption | refine Ext.drew ?_ | refine Ext.drewN ?_ _ | refine Ext.iter ?_ _ _ | refine Ext.alloc ?_ _ | refine Ext.setCell ?_ (by first | exact Nat.le_refl _ | (simp <;> omega)) _ | refine Ext.trans2 (by assumption) ?_))⟩
              case measure => simp [intOf]; omega
        · go_wp2
          go_roundw
          case rel => exact ⟨P + 1, by omega, by omega, by go_num, (by repeat (first | exact Ext.refl _ | assumption | refine Ext.drew ?_ | refine Ext.drewN ?_ _ | refine Ext.iter ?_ _ _ | refine Ext.alloc ?_ _ | refine Ext.setCell ?_ (by first | exact Nat.le_refl _ | (simp <;> omega)) _ | refine Ext.trans2 (by assumption) ?_))⟩
          case measure => simp [intOf]; omega
      · have hbr := hb.ext hext
        have q0 := hbr.cell (i := 0) (v := .int .i64 0) rfl; have q1 := hbr.cell (i := 1) (v := .int .i64 0) rfl; have q2 := hbr.cell (i := 2) (v := .int .i64 0) rfl; have ql := hbr.lt; have qf0 := hbr.free 0; have qf1 := hbr.free 1; have qf2 := hbr.free 2
        go_wp2
        have hF := ((hbr.set 0 (.int .i64 0)).set 1 (.int .i64 0)).set 2 (.int .i64 0)
        have c0 := hF.cell (i := 0) (v := .int .i64 0) rfl
        have c1 := hF.cell (i := 1) (v := .int .i64 0) rfl
        have c2 := hF.cell (i := 2) (v := .int .i64 0) rfl
        exact bodyPost_ret (v := .tuple #[vFld 0 0 0, .int .i64 4]) (by simp [results, Tryd.results126, go_sem, c0, c1, c2, vFld]) rfl ⟨0, 0, 0, 4, rfl, ⟨by omega, by omega, by omega⟩, (by repeat (first | exact Ext.refl _ | assumption | refine Ext.drew ?_ | refine Ext.drewN ?_ _ | refine Ext.iter ?_ _ _ | refine Ext.alloc ?_ _ | refine Ext.setCell ?_ (by first | exact Nat.le_refl _ | (simp <;> omega)) _ | refine Ext.trans2 (by assumption) ?_))⟩
end Go.Proofs.YthpnkcamjcohgaaDoor

/-! Drawn fields. -/
namespace Go.Proofs.YthpnkcamjcohgaaDoor
set_option linter.unusedVariables false
set_option linter.unusedSimpArgs false
open Go.RowKit

/-- A field has been drawn; only the source has turned. -/
def DfR (B : Int) (n0 g : Nat) (w : World) (e : Ending) (w' : World) : Prop := ∃ p k q : Int, e = .returned (vFld p k q) ∧ ((-3 ≤ p ∧ p ≤ 2000) ∧ (0 ≤ k ∧ k ≤ 10) ∧ (0 ≤ q ∧ q ≤ B)) ∧ Src n0 w' g ∧ But g w w'
/-- The sizes that are drawn. -/
def szA : Array Value := #[.int .i64 8, .int .i64 16, .int .i64 32, .int .i64 64, .int .i64 7, .int .i64 11, .int .i64 13, .int .i64 17, .int .i64 31, .int .i64 256, .int .i64 101, .int .i64 3]
theorem szA_get (j : Nat) (hj : j < 12) : ∃ n : Int, szA[j]? = some (.int .i64 n) ∧ 3 ≤ n ∧ n ≤ 1000 := by
  match j, hj with
  | 0, _ => exact ⟨8, rfl, by omega⟩
  | 1, _ => exact ⟨16, rfl, by omega⟩
  | 2, _ => exact ⟨32, rfl, by omega⟩
  | 3, _ => exact ⟨64, rfl, by omega⟩
  | 4, _ => exact ⟨7, rfl, by omega⟩
  | 5, _ => exact ⟨11, rfl, by omega⟩
  | 6, _ => exact ⟨13, rfl, by omega⟩
  | 7, _ => exact ⟨17, rfl, by omega⟩
  | 8, _ => exact ⟨31, rfl, by omega⟩
  | 9, _ => exact ⟨256, rfl, by omega⟩
  | 10, _ => exact ⟨101, rfl, by omega⟩
  | 11, _ => exact ⟨3, rfl, by omega⟩
set_option maxHeartbeats 800000 in
set_option maxRecDepth 100000 in
theorem l02Draw_c (n0 g : Nat) (w : World) (h : Src n0 w g) (hn0 : n0 ≤ w.heap.size) :
    Calls Tryd.prog 91 #[.pointer (some ⟨g, 0, none⟩)] w fun e w' => DfR 2000 n0 g w e w' := by
  have hg : g < n0 := h.1
  have HS := Lib.hid h; clear h
  have hb := Blk.new w #[.int .i64 0, .int .i64 0, .int .i64 0] 32
  have hr0 : But g w (w.alloc (.cells #[.int .i64 0, .int .i64 0, .int .i64 0] 32)) := But.of ((Ext.refl w).alloc _)
  go_enter Tryd.func91, Tryd.ntmps91
  go_wp2_with fail
  refine (Next_c n0 g 12 _ (HS.out.low (by (repeat (first | exact Below.refl _ _ | refine Below.setCell ?_ (by show _ ≤ _; simp <;> omega) _ | refine Below.alloc ?_ (by first | omega | (simp [World.setCell] <;> omega)) _))) hn0) (by omega)).mono ?_
  rintro e w1 ⟨x, rfl, hx0, hx1, -, hs1, hb1⟩
  replace hx1 := hx1 (by omega)
  obtain ⟨j, rfl⟩ : ∃ j : Nat, x = j := ⟨x.toNat, by omega⟩
  obtain ⟨n, hn, hn3⟩ := szA_get j (by omega)
  have hz1 := hb1.size
  simp only [World.size_alloc] at hz1
  have hsz := (Blk.new (w.alloc (.cells #[.int .i64 0, .int .i64 0, .int .i64 0] 32)) szA 2).but hb1 (by simp; omega)
  have s0 := hsz.cell hn
  have sl := hsz.lt
  simp only [World.size_alloc] at s0 sl
  have hbr1 := (hb.alloc (.cells szA 2)).but hb1 (by omega)
  have hr1 := (hr0.trans (But.of ((Ext.refl _).alloc _))).trans hb1
  have hj12 : (j : Int) < 12 := by omega
  clear hsz hn hb1 hx1 hx0
  go_wp2_with (go_at_call 126; (with_reducible refine (FieldOf_c n _ hn3).mono ?_); rintro e w2 ⟨p, k, q, c, rfl, hbd, hx2⟩; have hbr2 := hbr1.ext hx2; have r0 := hbr2.cell (i := 0) (v := .int .i64 0) rfl; have r1 := hbr2.cell (i := 1) (v := .int .i64 0) rfl; have r2 := hbr2.cell (i := 2) (v := .int .i64 0) rfl; have rl := hbr2.lt; have rf := hbr2.free; have hz2 := hx2.below.size)
  have hF := (((hbr2.set 0 (.int .i64 p)).set 1 (.int .i64 k)).set 2 (.int .i64 q)).alloc (.cells #[.int .i64 p, .int .i64 k, .int .i64 q] 32)
  have c0 := hF.cell (i := 0) (v := .int .i64 p) rfl
  have c1 := hF.cell (i := 1) (v := .int .i64 k) rfl
  have c2 := hF.cell (i := 2) (v := .int .i64 q) rfl
  exact bodyPost_ret (v := vFld p k q) (by simp [results, Tryd.results91, go_sem, c0, c1, c2, vFld]) rfl ⟨p, k, q, rfl, ⟨by omega, by omega, by omega⟩, (hs1.ext hx2).low (by (repeat (first | exact Below.refl _ _ | refine Below.setCell ?_ (by show _ ≤ _; simp <;> omega) _ | refine Below.alloc ?_ (by first | omega | (simp [World.setCell] <;> omega)) _))) hn0, (hr1.trans (But.of hx2)).below (by (repeat (first | exact Below.refl _ _ | refine Below.setCell ?_ (by show _ ≤ _; simp <;> omega) _ | refine Below.alloc ?_ (by first | omega | (simp [World.setCell] <;> omega)) _))) (Nat.le_refl _)⟩
set_option maxHeartbeats 1600000 in
set_option maxRecDepth 100000 in
theorem l02DrawAny_c (n0 g : Nat) (w : World) (h : Src n0 w g) (hn0 : n0 ≤ w.heap.size) :
    Calls Tryd.prog 47 #[.pointer (some ⟨g, 0, none⟩)] w fun e w' => DfR 2001 n0 g w e w' := by
  have hg : g < n0 := h.1
  have HS := Lib.hid h; clear h
  have hb := Blk.new w #[.int .i64 0, .int .i64 0, .int .i64 0] 32
  have hr0 : But g w (w.alloc (.cells #[.int .i64 0, .int .i64 0, .int .i64 0] 32)) := But.of ((Ext.refl w).alloc _)
  go_enter Tryd.func47, Tryd.ntmps47
  go_wp2_with fail
  refine (l02Draw_c n0 g _ (HS.out.low (by (repeat (first | exact Below.refl _ _ | refine Below.setCell ?_ (by show _ ≤ _; simp <;> omega) _ | refine Below.alloc ?_ (by first | omega | (simp [World.setCell] <;> omega)) _))) hn0) (by simp; omega)).mono ?_
  rintro e w1 ⟨p, k, q, rfl, hbd, hs1, hb1⟩
  have hz1 := hb1.size
  simp only [World.size_alloc] at hz1
  have hbr1 := (hb.but hb1 (by omega)).alloc (.cells #[.int .i64 p, .int .i64 k, .int .i64 q] 32)
  have hfl1 := Blk.new w1 #[.int .i64 p, .int .i64 k, .int .i64 q] 32
  have hr1 := (hr0.trans hb1).trans (But.of ((Ext.refl _).alloc (.cells #[.int .i64 p, .int .i64 k, .int .i64 q] 32)))
  have hs1' := hs1.ext ((Ext.refl _).alloc (.cells #[.int .i64 p, .int .i64 k, .int .i64 q] 32))
  have hf : w1.heap.size < (w1.alloc (.cells #[.int .i64 p, .int .i64 k, .int .i64 q] 32)).heap.size := by simp
  clear hs1 hb1 hb hr0
  go_wp2_with fail
  generalize w1.alloc (.cells #[.int .i64 p, .int .i64 k, .int .i64 q] 32) = w2 at *
  generalize w1.heap.size = f at *
  refine (Next_c n0 g 20 _ hs1' (by omega)).mono ?_
  rintro e w3 ⟨y, rfl, hy0, hy1, -, hs3, hb3⟩
  replace hy1 := hy1 (by omega)
  have hz3 := hb3.size
  have hbr3 := hbr1.but hb3 (by omega)
  have hfl3 := hfl1.but hb3 (by omega)
  have hr3 := hr1.trans hb3
  have hfz : f < w3.heap.size := by omega
  clear hs1' hb3 hr1 hbr1 hfl1 hf
  replace hs3 := Lib.hid hs3
  replace hr3 := Lib.hid hr3
  have x0 := hfl3.cell (i := 0) (v := .int .i64 p) rfl
  have x1 := hfl3.cell (i := 1) (v := .int .i64 k) rfl
  have x2 := hfl3.cell (i := 2) (v := .int .i64 q) rfl
  have x3 := hfl3.free
  have r0 := hbr3.cell (i := 0) (v := .int .i64 0) rfl
  have r1 := hbr3.cell (i := 1) (v := .int .i64 0) rfl
  have r2 := hbr3.cell (i := 2) (v := .int .i64 0) rfl
  have r3 := hbr3.free
  have hne : ¬ f = w.heap.size := by omega
  have hne2 : ¬ w.heap.size = f := by omega
  have hfw : w.heap.size + 1 ≤ f := hz1
  have hwz : w.heap.size < w3.heap.size := by omega
  have hy : y = 0 ∨ y = 1 ∨ y = 2 ∨ y = 3 ∨ 4 ≤ y := by omega
  rcases hy with rfl | rfl | rfl | rfl | hy
  · have hqw : IntKind.i64.wrap (q + 1) = q + 1 := by rw [IntKind.wrap_i64]; omega
    go_wp2_with fail
    have hF := (((hbr3.far hne2 (.int .i64 (q + 1)) (i := 2)).set 0 (.int .i64 p)).set 1 (.int .i64 k)).set 2 (.int .i64 (q + 1))
    have c0 := hF.cell (i := 0) (v := .int .i64 p) rfl
    have c1 := hF.cell (i := 1) (v := .int .i64 k) rfl
    have c2 := hF.cell (i := 2) (v := .int .i64 (q + 1)) rfl
    exact bodyPost_ret (v := vFld p k (q + 1)) (by simp [results, Tryd.results47, go_sem, c0, c1, c2, vFld]) rfl ⟨p, k, (q + 1), rfl, ⟨by omega, by omega, by omega⟩, hs3.out.low (by (repeat (first | exact Below.refl _ _ | refine Below.setCell ?_ (by show _ ≤ _; simp <;> omega) _ | refine Below.alloc ?_ (by first | omega | (simp [World.setCell] <;> omega)) _))) hn0, hr3.out.below (by (repeat (first | exact Below.refl _ _ | refine Below.setCell ?_ (by show _ ≤ _; simp <;> omega) _ | refine Below.alloc ?_ (by first | omega | (simp [World.setCell] <;> omega)) _))) (Nat.le_refl _)⟩
  · go_wp2_with fail
    refine (Next_c n0 g 4 _ (hs3.out.low (by (repeat (first | exact Below.refl _ _ | refine Below.setCell ?_ (by show _ ≤ _; simp <;> omega) _ | refine Below.alloc ?_ (by first | omega | (simp [World.setCell] <;> omega)) _))) hn0) (by omega)).mono ?_
    rintro e w4 ⟨z, rfl, hz0, hz9, -, hs4, hb4⟩
    replace hz9 := hz9 (by omega)
    obtain ⟨j, rfl⟩ : ∃ j : Nat, z = j := ⟨z.toNat, by omega⟩
    have hj9 : (j : Int) < 4 := hz9
    have hz4 := hb4.size
    simp only [World.size_alloc] at hz4
    have hw3g : w3.heap.size ≠ g := by omega
    have hsz := (Blk.new w3 #[.int .i64 0, .int .i64 1, .int .i64 2, .int .i64 9] 2).but hb4 hw3g
    obtain ⟨v, hv, hvb⟩ : ∃ v : Int, (#[.int .i64 0, .int .i64 1, .int .i64 2, .int .i64 9] : Array Value)[j]? = some (.int .i64 v) ∧ 0 ≤ v ∧ v ≤ 9 := by
      have : j = 0 ∨ j = 1 ∨ j = 2 ∨ j = 3 := by omega
      rcases this with rfl | rfl | rfl | rfl
      all_goals exact ⟨_, rfl, by omega, by omega⟩
    have s0 := hsz.cell hv
    have sl := hsz.lt
    have hbr4 := (hbr3.alloc (.cells #[.int .i64 0, .int .i64 1, .int .i64 2, .int .i64 9] 2)).but hb4 (by omega)
    have hfl4 := (hfl3.alloc (.cells #[.int .i64 0, .int .i64 1, .int .i64 2, .int .i64 9] 2)).but hb4 (by omega)
    have hr4 := (hr3.out.trans (But.of ((Ext.refl _).alloc (.cells #[.int .i64 0, .int .i64 1, .int .i64 2, .int .i64 9] 2)))).trans hb4
    replace hs4 := Lib.hid hs4
    replace hr4 := Lib.hid hr4
    clear hb4 hv hsz x0 x1 x2 x3 r0 r1 r2 r3 hz9 hz0 hbr3 hfl3
    have x0 := hfl4.cell (i := 0) (v := .int .i64 p) rfl
    have x1 := hfl4.cell (i := 1) (v := .int .i64 k) rfl
    have x2 := hfl4.cell (i := 2) (v := .int .i64 q) rfl
    have x3 := hfl4.free
    have x4 := hfl4.lt
    have r0 := hbr4.cell (i := 0) (v := .int .i64 0) rfl
    have r1 := hbr4.cell (i := 1) (v := .int .i64 0) rfl
    have r2 := hbr4.cell (i := 2) (v := .int .i64 0) rfl
    have r3 := hbr4.free
    have r4 := hbr4.lt
    go_wp2_with fail
    have hF := (((hbr4.far hne2 (.int .i64 v) (i := 1)).set 0 (.int .i64 p)).set 1 (.int .i64 v)).set 2 (.int .i64 q)
    have c0 := hF.cell (i := 0) (v := .int .i64 p) rfl
    have c1 := hF.cell (i := 1) (v := .int .i64 v) rfl
    have c2 := hF.cell (i := 2) (v := .int .i64 q) rfl
    exact bodyPost_ret (v := vFld p v q) (by simp [results, Tryd.results47, go_sem, c0, c1, c2, vFld]) rfl ⟨p, v, q, rfl, ⟨by omega, by omega, by omega⟩, hs4.out.low (by (repeat (first | exact Below.refl _ _ | refine Below.setCell ?_ (by show _ ≤ _; simp <;> omega) _ | refine Below.alloc ?_ (by first | omega | (simp [World.setCell] <;> omega)) _))) hn0, hr4.out.below (by (repeat (first | exact Below.refl _ _ | refine Below.setCell ?_ (by show _ ≤ _; simp <;> omega) _ | refine Below.alloc ?_ (by first | omega | (simp [World.setCell] <;> omega)) _))) (Nat.le_refl _)⟩
  · go_wp2_with fail
    refine (Next_c n0 g 6 _ (hs3.out.low (by (repeat (first | exact Below.refl _ _ | refine Below.setCell ?_ (by show _ ≤ _; simp <;> omega) _ | refine Below.alloc ?_ (by first | omega | (simp [World.setCell] <;> omega)) _))) hn0) (by omega)).mono ?_
    rintro e w4 ⟨z, rfl, hz0, hz9, -, hs4, hb4⟩
    replace hz9 := hz9 (by omega)
    obtain ⟨j, rfl⟩ : ∃ j : Nat, z = j := ⟨z.toNat, by omega⟩
    have hj9 : (j : Int) < 6 := hz9
    have hz4 := hb4.size
    simp only [World.size_alloc] at hz4
    have hw3g : w3.heap.size ≠ g := by omega
    have hsz := (Blk.new w3 #[.int .i64 1, .int .i64 4, .int .i64 9, .int .i64 1021, .int .i64 1031, .int .i64 (-3)] 2).but hb4 hw3g
    obtain ⟨v, hv, hvb⟩ : ∃ v : Int, (#[.int .i64 1, .int .i64 4, .int .i64 9, .int .i64 1021, .int .i64 1031, .int .i64 (-3)] : Array Value)[j]? = some (.int .i64 v) ∧ (-3) ≤ v ∧ v ≤ 1031 := by
      have : j = 0 ∨ j = 1 ∨ j = 2 ∨ j = 3 ∨ j = 4 ∨ j = 5 := by omega
      rcases this with rfl | rfl | rfl | rfl | rfl | rfl
      all_goals exact ⟨_, rfl, by omega, by omega⟩
    have s0 := hsz.cell hv
    have sl := hsz.lt
    have hbr4 := (hbr3.alloc (.cells #[.int .i64 1, .int .i64 4, .int .i64 9, .int .i64 1021, .int .i64 1031, .int .i64 (-3)] 2)).but hb4 (by omega)
    have hfl4 := (hfl3.alloc (.cells #[.int .i64 1, .int .i64 4, .int .i64 9, .int .i64 1021, .int .i64 1031, .int .i64 (-3)] 2)).but hb4 (by omega)
    have hr4 := (hr3.out.trans (But.of ((Ext.refl _).alloc (.cells #[.int .i64 1, .int .i64 4, .int .i64 9, .int .i64 1021, .int .i64 1031, .int .i64 (-3)] 2)))).trans hb4
    replace hs4 := Lib.hid hs4
    replace hr4 := Lib.hid hr4
    clear hb4 hv hsz x0 x1 x2 x3 r0 r1 r2 r3 hz9 hz0 hbr3 hfl3
    have x0 := hfl4.cell (i := 0) (v := .int .i64 p) rfl
    have x1 := hfl4.cell (i := 1) (v := .int .i64 k) rfl
    have x2 := hfl4.cell (i := 2) (v := .int .i64 q) rfl
    have x3 := hfl4.free
    have x4 := hfl4.lt
    have r0 := hbr4.cell (i := 0) (v := .int .i64 0) rfl
    have r1 := hbr4.cell (i := 1) (v := .int .i64 0) rfl
    have r2 := hbr4.cell (i := 2) (v := .int .i64 0) rfl
    have r3 := hbr4.free
    have r4 := hbr4.lt
    go_wp2_with fail
    have hF := (((hbr4.far hne2 (.int .i64 v) (i := 0)).set 0 (.int .i64 v)).set 1 (.int .i64 k)).set 2 (.int .i64 q)
    have c0 := hF.cell (i := 0) (v := .int .i64 v) rfl
    have c1 := hF.cell (i := 1) (v := .int .i64 k) rfl
    have c2 := hF.cell (i := 2) (v := .int .i64 q) rfl
    exact bodyPost_ret (v := vFld v k q) (by simp [results, Tryd.results47, go_sem, c0, c1, c2, vFld]) rfl ⟨v, k, q, rfl, ⟨by omega, by omega, by omega⟩, hs4.out.low (by (repeat (first | exact Below.refl _ _ | refine Below.setCell ?_ (by show _ ≤ _; simp <;> omega) _ | refine Below.alloc ?_ (by first | omega | (simp [World.setCell] <;> omega)) _))) hn0, hr4.out.below (by (repeat (first | exact Below.refl _ _ | refine Below.setCell ?_ (by show _ ≤ _; simp <;> omega) _ | refine Below.alloc ?_ (by first | omega | (simp [World.setCell] <;> omega)) _))) (Nat.le_refl _)⟩
  · go_wp2_with fail
    refine (Next_c n0 g 4 _ (hs3.out.low (by (repeat (first | exact Below.refl _ _ | refine Below.setCell ?_ (by show _ ≤ _; simp <;> omega) _ | refine Below.alloc ?_ (by first | omega | (simp [World.setCell] <;> omega)) _))) hn0) (by omega)).mono ?_
    rintro e w4 ⟨z, rfl, hz0, hz9, -, hs4, hb4⟩
    replace hz9 := hz9 (by omega)
    have hz4 := hb4.size
    simp only [World.size_alloc] at hz4
    have hw3g : w3.heap.size ≠ g := by omega
    have hsz := (Blk.new w3 #[.int .i64 1021, .int .i64 1, .int .i64 10, .int .i64 2, .int .i64 4, .int .i64 31, .int .i64 2, .int .i64 4, .int .i64 25, .int .i64 7, .int .i64 1, .int .i64 5] 32).but hb4 hw3g
    have hbr4 := (hbr3.alloc (.cells #[.int .i64 1021, .int .i64 1, .int .i64 10, .int .i64 2, .int .i64 4, .int .i64 31, .int .i64 2, .int .i64 4, .int .i64 25, .int .i64 7, .int .i64 1, .int .i64 5] 32)).but hb4 (by omega)
    have hr4 := (hr3.out.trans (But.of ((Ext.refl _).alloc (.cells #[.int .i64 1021, .int .i64 1, .int .i64 10, .int .i64 2, .int .i64 4, .int .i64 31, .int .i64 2, .int .i64 4, .int .i64 25, .int .i64 7, .int .i64 1, .int .i64 5] 32)))).trans hb4
    replace hs4 := Lib.hid hs4
    replace hr4 := Lib.hid hr4
    clear hb4 x0 x1 x2 x3 r0 r1 r2 r3 hbr3 hfl3
    have r0 := hbr4.cell (i := 0) (v := .int .i64 0) rfl
    have r1 := hbr4.cell (i := 1) (v := .int .i64 0) rfl
    have r2 := hbr4.cell (i := 2) (v := .int .i64 0) rfl
    have r3 := hbr4.free
    have r4 := hbr4.lt
    have sl := hsz.lt
    have : z = 0 ∨ z = 1 ∨ z = 2 ∨ z = 3 := by omega
    rcases this with rfl | rfl | rfl | rfl
    · have s0 := hsz.cell (i := 0) (v := .int .i64 1021) rfl
      have s1 := hsz.cell (i := 1) (v := .int .i64 1) rfl
      have s2 := hsz.cell (i := 2) (v := .int .i64 10) rfl
      clear hsz
      go_wp2_with fail
      have hF := ((hbr4.set 0 (.int .i64 1021)).set 1 (.int .i64 1)).set 2 (.int .i64 10)
      have c0 := hF.cell (i := 0) (v := .int .i64 1021) rfl
      have c1 := hF.cell (i := 1) (v := .int .i64 1) rfl
      have c2 := hF.cell (i := 2) (v := .int .i64 10) rfl
      exact bodyPost_ret (v := vFld 1021 1 10) (by simp [results, Tryd.results47, go_sem, c0, c1, c2, vFld]) rfl ⟨1021, 1, 10, rfl, ⟨by omega, by omega, by omega⟩, hs4.out.low (by (repeat (first | exact Below.refl _ _ | refine Below.setCell ?_ (by show _ ≤ _; simp <;> omega) _ | refine Below.alloc ?_ (by first | omega | (simp [World.setCell] <;> omega)) _))) hn0, hr4.out.below (by (repeat (first | exact Below.refl _ _ | refine Below.setCell ?_ (by show _ ≤ _; simp <;> omega) _ | refine Below.alloc ?_ (by first | omega | (simp [World.setCell] <;> omega)) _))) (Nat.le_refl _)⟩
    · have s0 := hsz.cell (i := 3) (v := .int .i64 2) rfl
      have s1 := hsz.cell (i := 4) (v := .int .i64 4) rfl
      have s2 := hsz.cell (i := 5) (v := .int .i64 31) rfl
      clear hsz
      go_wp2_with fail
      have hF := ((hbr4.set 0 (.int .i64 2)).set 1 (.int .i64 4)).set 2 (.int .i64 31)
      have c0 := hF.cell (i := 0) (v := .int .i64 2) rfl
      have c1 := hF.cell (i := 1) (v := .int .i64 4) rfl
      have c2 := hF.cell (i := 2) (v := .int .i64 31) rfl
      exact bodyPost_ret (v := vFld 2 4 31) (by simp [results, Tryd.results47, go_sem, c0, c1, c2, vFld]) rfl ⟨2, 4, 31, rfl, ⟨by omega, by omega, by omega⟩, hs4.out.low (by (repeat (first | exact Below.refl _ _ | refine Below.setCell ?_ (by show _ ≤ _; simp <;> omega) _ | refine Below.alloc ?_ (by first | omega | (simp [World.setCell] <;> omega)) _))) hn0, hr4.out.below (by (repeat (first | exact Below.refl _ _ | refine Below.setCell ?_ (by show _ ≤ _; simp <;> omega) _ | refine Below.alloc ?_ (by first | omega | (simp [World.setCell] <;> omega)) _))) (Nat.le_refl _)⟩
    · have s0 := hsz.cell (i := 6) (v := .int .i64 2) rfl
      have s1 := hsz.cell (i := 7) (v := .int .i64 4) rfl
      have s2 := hsz.cell (i := 8) (v := .int .i64 25) rfl
      clear hsz
      go_wp2_with fail
      have hF := ((hbr4.set 0 (.int .i64 2)).set 1 (.int .i64 4)).set 2 (.int .i64 25)
      have c0 := hF.cell (i := 0) (v := .int .i64 2) rfl
      have c1 := hF.cell (i := 1) (v := .int .i64 4) rfl
      have c2 := hF.cell (i := 2) (v := .int .i64 25) rfl
      exact bodyPost_ret (v := vFld 2 4 25) (by simp [results, Tryd.results47, go_sem, c0, c1, c2, vFld]) rfl ⟨2, 4, 25, rfl, ⟨by omega, by omega, by omega⟩, hs4.out.low (by (repeat (first | exact Below.refl _ _ | refine Below.setCell ?_ (by show _ ≤ _; simp <;> omega) _ | refine Below.alloc ?_ (by first | omega | (simp [World.setCell] <;> omega)) _))) hn0, hr4.out.below (by (repeat (first | exact Below.refl _ _ | refine Below.setCell ?_ (by show _ ≤ _; simp <;> omega) _ | refine Below.alloc ?_ (by first | omega | (simp [World.setCell] <;> omega)) _))) (Nat.le_refl _)⟩
    · have s0 := hsz.cell (i := 9) (v := .int .i64 7) rfl
      have s1 := hsz.cell (i := 10) (v := .int .i64 1) rfl
      have s2 := hsz.cell (i := 11) (v := .int .i64 5) rfl
      clear hsz
      go_wp2_with fail
      have hF := ((hbr4.set 0 (.int .i64 7)).set 1 (.int .i64 1)).set 2 (.int .i64 5)
      have c0 := hF.cell (i := 0) (v := .int .i64 7) rfl
      have c1 := hF.cell (i := 1) (v := .int .i64 1) rfl
      have c2 := hF.cell (i := 2) (v := .int .i64 5) rfl
      exact bodyPost_ret (v := vFld 7 1 5) (by simp [results, Tryd.results47, go_sem, c0, c1, c2, vFld]) rfl ⟨7, 1, 5, rfl, ⟨by omega, by omega, by omega⟩, hs4.out.low (by (repeat (first | exact Below.refl _ _ | refine Below.setCell ?_ (by show _ ≤ _; simp <;> omega) _ | refine Below.alloc ?_ (by first | omega | (simp [World.setCell] <;> omega)) _))) hn0, hr4.out.below (by (repeat (first | exact Below.refl _ _ | refine Below.setCell ?_ (by show _ ≤ _; simp <;> omega) _ | refine Below.alloc ?_ (by first | omega | (simp [World.setCell] <;> omega)) _))) (Nat.le_refl _)⟩
  · have hd0 : (y == 0) = false := by simp; omega
    have hd1 : (y == 1) = false := by simp; omega
    have hd2 : (y == 2) = false := by simp; omega
    have hd3 : (y == 3) = false := by simp; omega
    go_wp2_with fail
    have hF := ((hbr3.set 0 (.int .i64 p)).set 1 (.int .i64 k)).set 2 (.int .i64 q)
    have c0 := hF.cell (i := 0) (v := .int .i64 p) rfl
    have c1 := hF.cell (i := 1) (v := .int .i64 k) rfl
    have c2 := hF.cell (i := 2) (v := .int .i64 q) rfl
    exact bodyPost_ret (v := vFld p k q) (by simp [results, Tryd.results47, go_sem, c0, c1, c2, vFld]) rfl ⟨p, k, q, rfl, ⟨by omega, by omega, by omega⟩, hs3.out.low (by (repeat (first | exact Below.refl _ _ | refine Below.setCell ?_ (by show _ ≤ _; simp <;> omega) _ | refine Below.alloc ?_ (by first | omega | (simp [World.setCell] <;> omega)) _))) hn0, hr3.out.below (by (repeat (first | exact Below.refl _ _ | refine Below.setCell ?_ (by show _ ≤ _; simp <;> omega) _ | refine Below.alloc ?_ (by first | omega | (simp [World.setCell] <;> omega)) _))) (Nat.le_refl _)⟩
end Go.Proofs.YthpnkcamjcohgaaDoor

/-! Drawn payloads. -/
namespace Go.Proofs.YthpnkcamjcohgaaDoor
set_option linter.unusedVariables false
set_option linter.unusedSimpArgs false
open Go.RowKit

end Go.Proofs.YthpnkcamjcohgaaDoor
