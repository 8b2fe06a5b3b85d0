/- Drawn messages and segmentations. -/
import Derived.Test.YthpnkcamjcohgaaDoorLPartsK37
import Derived.Test.YthpnkcamjcohgaaDoorLPartsK21
import Derived.Test.YthpnkcamjcohgaaDoorLPartsK14
namespace Go.Proofs.YthpnkcamjcohgaaDoor
set_option linter.unusedVariables false
set_option linter.unusedSimpArgs false
open Go.RowKit

/-- A message has been drawn. -/
def MsgR (n0 g : Nat) (w : World) (e : Ending) (w' : World) : Prop := ∃ t : ByteArray, e = .returned (.string t) ∧ t.size ≤ 500 ∧ Src n0 w' g ∧ But g w w'
set_option maxRecDepth 100000 in
theorem Draw10_c (n0 g : Nat) (w : World) (h : Src n0 w g) (hn0 : n0 ≤ w.heap.size) :
    Calls Tryd.prog 48 #[.pointer (some ⟨g, 0, none⟩)] w fun e w' => MsgR n0 g w e w' := by
  have hg : g < n0 := h.1
  have hI1 : Tryd.prog.underlying 29 = some (.slice 5) := by kernel_rfl
  have hI2 := infoByte
  go_enter Tryd.func48, Tryd.ntmps48
  go_wp2_with (go_at_call 49; (with_reducible refine (Next_c n0 g _ _ (by assumption) (by omega)).mono ?_); rintro e w1 ⟨x, rfl, hx0, hx1, -, hs1, hb1⟩; replace hx1 := hx1 (by omega))
  have hz1 := hb1.size
  clear h
  go_loopw [3, 4] (fun o i wr => ∃ (k : Nat) (t : ByteArray), i = .int .i64 k ∧ (t.size : Int) + 10 * k ≤ 40 ∧ o = .string t ∧ Src n0 wr g ∧ But g w wr ∧ w.heap.size ≤ wr.heap.size) (fun _ i _ => (intOf i).toNat)
  case atStart => exact ⟨x.toNat, ByteArray.empty, by rw [Int.toNat_of_nonneg hx0], by show (0 : Int) + _ ≤ _; omega, rfl, hs1, hb1, hz1⟩
  case round =>
    clear hs1 hb1 hz1 hx0 hx1
    obtain ⟨k, t, rfl, hk, rfl, hs, hbut, hz⟩ := hrel
    by_cases hlt : 0 < k
    · have hd : 0 < (k : Int) := by omega
      clear hI1 hI2
      go_wp2_with (first
        | (go_at_call 49; (with_reducible refine (Next_c n0 g _ _ hs (by omega)).mono ?_); rintro e w2 ⟨y, rfl, hy0, hy1, -, hs2, hb2⟩; replace hy1 := hy1 (by omega); have hz2 := hb2.size)
        | (go_at_call 92; (with_reducible refine (DrawText_c n0 g _ _ _ hs2 (by omega) (by omega) (by omega)).mono ?_); rintro e w3 ⟨u, rfl, hu, hs3, hb3⟩; have hz3 := hb3.size))
      go_roundw
      case rel => exact ⟨k - 1, t ++ u, by go_num, by rw [ByteArray.size_append]; omega, rfl, hs3, (hbut.trans hb2).trans hb3, by omega⟩
      case measure => simp [intOf]; omega
    · have hd : ¬ 0 < (k : Int) := by omega
      go_wp2_with (go_at_call 49; (with_reducible refine (Next_c n0 g 60 _ hs (by omega)).mono ?_); rintro e w2 ⟨y, rfl, hy0, hy1, -, hs2, hb2⟩; replace hy1 := hy1 (by omega); have hz2 := hb2.size)
      · refine (Next_c n0 g 2 _ hs2 (by omega)).mono ?_
        rintro e w3 ⟨z, rfl, hy0, hy1, -, hs3, hb3⟩
        replace hy1 := hy1 (by omega)
        have hz3 := hb3.size
        have hcv0 := zeroStr w3.heap.size 400 (w3.alloc (.cells (madeCells #[.int .u8 0] 400) 5)) (Blk.new _ _ _)
        have hcv1 := zeroStr w3.heap.size 401 (w3.alloc (.cells (madeCells #[.int .u8 0] 401) 5)) (Blk.new _ _ _)
        have hsz0 : (⟨(List.replicate 400 (0 : UInt8)).toArray⟩ : ByteArray).size = 400 := by show (List.replicate 400 (0 : UInt8)).toArray.size = 400; simp
        have hsz1 : (⟨(List.replicate 401 (0 : UInt8)).toArray⟩ : ByteArray).size = 401 := by show (List.replicate 401 (0 : UInt8)).toArray.size = 401; simp
        generalize (⟨(List.replicate 400 (0 : UInt8)).toArray⟩ : ByteArray) = z400 at *
        generalize (⟨(List.replicate 401 (0 : UInt8)).toArray⟩ : ByteArray) = z401 at *
        have HS0 := Lib.hid hsz0; have HS1 := Lib.hid hsz1; clear hsz0 hsz1
        have hE := (((hbut.trans hb2).trans hb3))
        have : z = 0 ∨ z = 1 := by omega
        clear hs2 hb2 hb3 hbut hs
        rcases this with rfl | rfl
        · go_wp2_with (at_make; go_loud (refine make_blk hI1 hI2 400 rfl rfl (by omega) (by omega) ?_))
          go_ret
          exact ⟨z400, rfl, by rw [HS0.out]; omega, hs3.ext ((Ext.refl _).alloc _), hE.trans (But.of ((Ext.refl _).alloc _))⟩
        · go_wp2_with (at_make; go_loud (refine make_blk hI1 hI2 401 rfl rfl (by omega) (by omega) ?_))
          go_ret
          exact ⟨z401, rfl, by rw [HS1.out]; omega, hs3.ext ((Ext.refl _).alloc _), hE.trans (But.of ((Ext.refl _).alloc _))⟩
      · have hE := hbut.trans hb2
        clear hI1 hI2 hbut hb2 hs
        go_loop [3] (fun o => ∃ u : ByteArray, o = .string u ∧ u.size ≤ 260) (fun o => match o with | .string u => 260 - u.size | _ => 0)
        case atStart => exact ⟨ByteArray.empty, rfl, by simp⟩
        case round =>
          obtain ⟨u, rfl, hu⟩ := hrel
          by_cases hlt2 : u.size < 260
          · have hd2 : (u.size : Int) < 260 := by omega
            go_wp2
            go_round
            case rel => exact ⟨_, rfl, by rw [ByteArray.size_append]; show u.size + 1 ≤ 260; omega⟩
            case measure => simp only [ByteArray.size_append]; show 260 - (u.size + 1) < 260 - u.size; omega
          · have hd2 : ¬ (u.size : Int) < 260 := by omega
            go_wp2
            go_ret
            exact ⟨u, rfl, by omega, hs2, hE⟩
      · go_ret
        exact ⟨t, rfl, by omega, hs2, hbut.trans hb2⟩

theorem SAt.but {α : Type} {f : α → List Value} {k g : Nat} {w w' : World} {p : Option Addr} {xs : List α} (h : SAt f k w p xs) (hb : But g w w') (hp : ∀ b o, 0 < xs.length → p = some ⟨b, o, none⟩ → b ≠ g) : SAt f k w' p xs := fun i hi => by
  obtain ⟨b, o, h1, h2, h3⟩ := h i hi
  exact ⟨b, o, h1, Nat.lt_of_lt_of_le h2 hb.size, fun j v hv => (World.cell?_of_block (a := ⟨b, o + i * k + j, none⟩) (hb.block b h2 (hp b o (by omega) h1))).trans (h3 j v hv)⟩
theorem SOwn.but {α : Type} {f : α → List Value} {k g B : Nat} {w w' : World} {p : Option Addr} {xs : List α} (h : SOwn f k B w p xs) (hb : But g w w') (hg : g < B) : SOwn f k B w' p xs := fun i hi => by
  obtain ⟨b, o, h1, hB, h2, h3, h4⟩ := h i hi
  have hk := hb.block b h2 (by omega)
  exact ⟨b, o, h1, hB, Nat.lt_of_lt_of_le h2 hb.size, fun j v hv => (World.cell?_of_block (a := ⟨b, o + i * k + j, none⟩) hk).trans (h3 j v hv), fun j => (World.frozen?_of_block (a := ⟨b, j, none⟩) hk).trans (h4 j)⟩

end Go.Proofs.YthpnkcamjcohgaaDoor
