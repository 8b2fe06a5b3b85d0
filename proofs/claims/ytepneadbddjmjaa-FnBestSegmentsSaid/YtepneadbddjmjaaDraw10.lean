/- Drawn messages and segmentations. -/
import Derived.Test.YtepneadbddjmjaaChars
import Derived.Test.YtepneadbddjmjaaWBest
import Derived.Test.YtepneadbddjmjaaSegMath3
namespace Go.Proofs.Ytepneadbddjmjaa
set_option linter.unusedVariables false
set_option linter.unusedSimpArgs false
open Go.RowKit

theorem zeroStr (g n : Nat) (w : World) (hb : Blk w g (madeCells #[.int .u8 0] n) 5) : (convert 53 9 (.slice (some ⟨g, 0, none⟩) n n)).run Try.prog w = .ok (.string ⟨(List.replicate n (0 : UInt8)).toArray⟩) w := by
  have := run_convert_bytes_back (P := Try.prog) w 53 9 5 ⟨g, 0, none⟩ n (List.replicate n 0) (by kernel_rfl) (by kernel_rfl) (by kernel_rfl) (fun j hj => by
    have hj2 : j < n := by simpa using hj
    rw [addr_add, Nat.zero_add]
    refine hb.cell ?_
    rw [made_get hj2]
    simp [Nat.mod_one])
  simpa using this

/-- A message has been drawn. -/
def MsgR (n0 g : Nat) (w : World) (e : Ending) (w' : World) : Prop := ∃ t : ByteArray, e = .returned (.string t) ∧ t.size ≤ 500 ∧ Src n0 w' g ∧ But g w w'
set_option maxRecDepth 100000 in
theorem Draw10_c (n0 g : Nat) (w : World) (h : Src n0 w g) (hn0 : n0 ≤ w.heap.size) :
    Calls Try.prog 90 #[.pointer (some ⟨g, 0, none⟩)] w fun e w' => MsgR n0 g w e w' := by
  have hg : g < n0 := h.1
  have hI1 : Try.prog.underlying 53 = some (.slice 5) := by kernel_rfl
  have hI2 := infoByte
  go_enter Try.func90, Try.ntmps90
  go_wp2_with (go_at_call 80; (with_reducible refine (Next_c n0 g _ _ (by assumption) (by omega)).mono ?_); rintro e w1 ⟨x, rfl, hx0, hx1, -, hs1, hb1⟩; replace hx1 := hx1 (by omega))
  have hz1 := hb1.size
  clear h
  go_loopw [3, 4] (fun o i wr => ∃ (k : Nat) (t : ByteArray), i = .int .i64 k ∧ (t.size : Int) + 10 * k ≤ 40 ∧ o = .string t ∧ Src n0 wr g ∧ But g w wr ∧ w.heap.size ≤ wr.heap.size) (fun _ i _ => (intOf i).toNat)
  case atStart => exact ⟨x.toNat, ByteArray.empty, by rw [Int.toNat_of_nonneg hx0], by show (0 : Int) + _ ≤ _; omega, rfl, hs1, hb1, hz1⟩
  case round =>
    clear hs1 hb1 hz1 hx0 hx1
    obtain ⟨k, t, rfl, hk, rfl, hs, hbut, hz⟩ := hrel
    by_cases hlt : 0 < k
    · have hd : 0 < (k : Int) := by omega
      clear hI1 hI2
      go_wp2_with (first
        | (go_at_call 80; (with_reducible refine (Next_c n0 g _ _ hs (by omega)).mono ?_); rintro e w2 ⟨y, rfl, hy0, hy1, -, hs2, hb2⟩; replace hy1 := hy1 (by omega); have hz2 := hb2.size)
        | (go_at_call 84; (with_reducible refine (DrawText_c n0 g _ _ _ hs2 (by omega) (by omega) (by omega)).mono ?_); rintro e w3 ⟨u, rfl, hu, hs3, hb3⟩; have hz3 := hb3.size))
      go_roundw
      case rel => exact ⟨k - 1, t ++ u, by go_num, by rw [ByteArray.size_append]; omega, rfl, hs3, (hbut.trans hb2).trans hb3, by omega⟩
      case measure => simp [intOf]; omega
    · have hd : ¬ 0 < (k : Int) := by omega
      go_wp2_with (go_at_call 80; (with_reducible refine (Next_c n0 g 60 _ hs (by omega)).mono ?_); rintro e w2 ⟨y, rfl, hy0, hy1, -, hs2, hb2⟩; replace hy1 := hy1 (by omega); have hz2 := hb2.size)
      · refine (Next_c n0 g 2 _ hs2 (by omega)).mono ?_
        rintro e w3 ⟨z, rfl, hy0, hy1, -, hs3, hb3⟩
        replace hy1 := hy1 (by omega)
        have hz3 := hb3.size
        have hcv0 := zeroStr w3.heap.size 400 (w3.alloc (.cells (madeCells #[.int .u8 0] 400) 5)) (Blk.new _ _ _)
        have hcv1 := zeroStr w3.heap.size 401 (w3.alloc (.cells (madeCells #[.int .u8 0] 401) 5)) (Blk.new _ _ _)
        have hsz0 : (⟨(List.replicate 400 (0 : UInt8)).toArray⟩ : ByteArray).size = 400 := by show (List.replicate 400 (0 : UInt8)).toArray.size = 400; simp
        have hsz1 : (⟨(List.replicate 401 (0 : UInt8)).toArray⟩ : ByteArray).size = 401 := by show (List.replicate 401 (0 : UInt8)).toArray.size = 401; simp
        generalize (⟨(List.replicate 400 (0 : UInt8)).toArray⟩ : ByteArray) = z400 at *
        generalize (⟨(List.replicate 401 (0 : UInt8)).toArray⟩ : ByteArray) = z401 at *
        have HS0 := Lib.hid hsz0; have HS1 := Lib.hid hsz1; clear hsz0 hsz1
        have hE := (((hbut.trans hb2).trans hb3))
        have : z = 0 ∨ z = 1 := by omega
        clear hs2 hb2 hb3 hbut hs
        rcases this with rfl | rfl
        · go_wp2_with (at_make; go_loud (refine make_blk hI1 hI2 400 rfl rfl (by omega) (by omega) ?_))
          go_ret
          exact ⟨z400, rfl, by rw [HS0.out]; omega, hs3.ext ((Ext.refl _).alloc _), hE.trans (But.of ((Ext.refl _).alloc _))⟩
        · go_wp2_with (at_make; go_loud (refine make_blk hI1 hI2 401 rfl rfl (by omega) (by omega) ?_))
          go_ret
          exact ⟨z401, rfl, by rw [HS1.out]; omega, hs3.ext ((Ext.refl _).alloc _), hE.trans (But.of ((Ext.refl _).alloc _))⟩
      · have hE := hbut.trans hb2
        clear hI1 hI2 hbut hb2 hs
        go_loop [3] (fun o => ∃ u : ByteArray, o = .string u ∧ u.size ≤ 260) (fun o => match o with | .string u => 260 - u.size | _ => 0)
        case atStart => exact ⟨ByteArray.empty, rfl, by simp⟩
        case round =>
          obtain ⟨u, rfl, hu⟩ := hrel
          by_cases hlt2 : u.size < 260
          · have hd2 : (u.size : Int) < 260 := by omega
            go_wp2
            go_round
            case rel => exact ⟨_, rfl, by rw [ByteArray.size_append]; show u.size + 1 ≤ 260; omega⟩
            case measure => simp only [ByteArray.size_append]; show 260 - (u.size + 1) < 260 - u.size; omega
          · have hd2 : ¬ (u.size : Int) < 260 := by omega
            go_wp2
            go_ret
            exact ⟨u, rfl, by omega, hs2, hE⟩
      · go_ret
        exact ⟨t, rfl, by omega, hs2, hbut.trans hb2⟩

def MsgE (w : World) (e : Ending) (w' : World) : Prop := ∃ t : ByteArray, e = .returned (.string t) ∧ t.size ≤ 500 ∧ Ext w w'
theorem DrawBestSegments_c (p : Option Addr) (c : Nat) (code : List Int) (w : World) (hx : U8At w p code) (hl : code.length ≤ 4096) :
    Calls Try.prog 59 #[.slice p code.length c] w fun e w' => MsgE w e w' := by
  go_enter Try.func59, Try.ntmps59
  go_wp2_with (first
    | (go_at_call 79; (with_reducible refine (From_c p c code _ hx hl).mono ?_); rintro e w1 ⟨⟨g, rfl, rfl, hs1⟩, hb1⟩; have hn1 : w.heap.size + 1 ≤ w1.heap.size := (hs1.lt))
    | (go_at_call 90; (with_reducible refine (Draw10_c _ _ _ hs1 hn1).mono ?_); rintro e w2 ⟨t, rfl, ht, hs2, hb2⟩))
  go_ret
  exact ⟨t, rfl, ht, hb1.but hb2 (Nat.le_refl _)⟩

/-- A message and segments have been drawn. -/
def SegmE (w : World) (e : Ending) (w' : World) : Prop := ∃ (t : ByteArray) (q : Option Addr) (cc : Nat) (xs : List Sg), e = .returned (.tuple #[.string t, .slice q xs.length cc]) ∧ t.size ≤ 600 ∧ xs.length ≤ 400 ∧ (∀ x ∈ xs, x.2.size ≤ 1048576) ∧ SAt segF 2 w' q xs ∧ Ext w w'
theorem bsL_size (s : ByteArray) : ∀ x ∈ bsL s, x.2.size ≤ 255 := by
  unfold bsL
  split
  · intro x hx
    exact (bests_ok s s.size (Nat.le_refl _) x hx).2.1.2
  · intro x hx
    simp at hx
theorem SAt.but {α : Type} {f : α → List Value} {k g : Nat} {w w' : World} {p : Option Addr} {xs : List α} (h : SAt f k w p xs) (hb : But g w w') (hp : ∀ b o, 0 < xs.length → p = some ⟨b, o, none⟩ → b ≠ g) : SAt f k w' p xs := fun i hi => by
  obtain ⟨b, o, h1, h2, h3⟩ := h i hi
  exact ⟨b, o, h1, Nat.lt_of_lt_of_le h2 hb.size, fun j v hv => (World.cell?_of_block (a := ⟨b, o + i * k + j, none⟩) (hb.block b h2 (hp b o (by omega) h1))).trans (h3 j v hv)⟩
theorem SOwn.but {α : Type} {f : α → List Value} {k g B : Nat} {w w' : World} {p : Option Addr} {xs : List α} (h : SOwn f k B w p xs) (hb : But g w w') (hg : g < B) : SOwn f k B w' p xs := fun i hi => by
  obtain ⟨b, o, h1, hB, h2, h3, h4⟩ := h i hi
  have hk := hb.block b h2 (by omega)
  exact ⟨b, o, h1, hB, Nat.lt_of_lt_of_le h2 hb.size, fun j v hv => (World.cell?_of_block (a := ⟨b, o + i * k + j, none⟩) hk).trans (h3 j v hv), fun j => (World.frozen?_of_block (a := ⟨b, j, none⟩) hk).trans (h4 j)⟩

set_option maxRecDepth 100000 in
theorem DrawIsSegmentation_c (p : Option Addr) (c : Nat) (code : List Int) (w : World) (hx : U8At w p code) (hl : code.length ≤ 4096) :
    Calls Try.prog 60 #[.slice p code.length c] w fun e w' => SegmE w e w' := by
  go_enter Try.func60, Try.ntmps60
  go_wp2_with (first
    | (go_at_call 79; (with_reducible refine (From_c p c code _ hx hl).mono ?_); rintro e w1 ⟨⟨g, rfl, rfl, hs1⟩, hb1⟩; have hn1 : w.heap.size + 1 ≤ w1.heap.size := (hs1.lt))
    | (go_at_call 90; (with_reducible refine (Draw10_c _ _ _ hs1 hn1).mono ?_); rintro e w2 ⟨t, rfl, ht, hs2, hb2⟩; have hz2 := hb2.size; have hlen := bsL_len t; have hsz := Lib.hid (bsL_size t))
    | (go_at_call 28; (with_reducible refine (sBestSegments_c t _ (by omega)).mono ?_); rintro e w3 ⟨⟨q, cc, rfl, oq3⟩, hx3⟩; have hs3 := hs2.ext hx3; have hz3 := hx3.below.size; generalize bsL t = L at *; have hW3 : Ext w w3 := (hb1.but hb2 (Nat.le_refl _)).trans hx3)
    | (go_at_call 80; (with_reducible refine (Next_c _ _ 3 _ hs3 (by omega)).mono ?_); rintro e w4 ⟨y, rfl, hy0, hy1, -, hs4, hb4⟩; have hz4 := hb4.size; have oq4 := oq3.but hb4 (by omega); have hW4 : Ext w w4 := hW3.but hb4 (Nat.le_refl _)))
  · refine (Next_c _ _ 4 _ hs4 (by omega)).mono ?_
    rintro e w5 ⟨z, rfl, hy50, hy51, -, hs5, hb5⟩
    replace hy51 := hy51 (by omega)
    have hz5 := hb5.size
    have oq5 := oq4.but hb5 (by omega)
    have hW5 : Ext w w5 := hW4.but hb5 (Nat.le_refl _)
    have hLn : 0 < L.length := by
      rename_i h1 h2
      first | omega | (simp at h1 h2; omega)
    cases L with
    | nil => simp at hLn
    | cons x R =>
      have hcl := oq5.cells segF_len
      rw [List.flatMap_cons] at hcl
      have hcl0 : OwnCells w2.heap.size w5 q ([] ++ (segF x ++ R.flatMap segF)) := hcl
      obtain ⟨b, o, rfl, hbB, hbl, c0, f0⟩ := hcl0.at (j := 0) (n := 0) rfl (by simp [segF])
      rw [Nat.add_zero] at c0 f0
      have hcl1 := hcl0.setAt (j := 0) (n := 0) rfl rfl (by simp [segF]) (.int .i64 (1 + z))
      have hs6 := hs5.low ((Below.refl (w.heap.size + 1) w5).setCell (p := ⟨b, o + 0, none⟩) (by show w.heap.size + 1 ≤ b; omega) (.int .i64 (1 + z))) (Nat.le_refl _)
      have hW6 := hW5.setCell (p := ⟨b, o + 0, none⟩) (by show w.heap.size ≤ b; omega) (.int .i64 (1 + z))
      have hsat : SAt segF 2 (w5.setCell ⟨b, o + 0, none⟩ (.int .i64 (1 + z))) (some ⟨b, o, none⟩) ((1 + z, x.2) :: R) := OwnCells.sat segF_len (by omega) (by rw [List.flatMap_cons]; exact hcl1)
      have hsz2 := Lib.hid (show ∀ y ∈ ((1 + z, x.2) :: R : List Sg), y.2.size ≤ 1048576 from fun y hy => by
        rcases List.mem_cons.1 hy with rfl | hy
        · have := hsz.out x (by simp); simp only; omega
        · have := hsz.out y (by simp [hy]); omega)
      simp only [Nat.add_zero] at hs6 hW6 hsat
      clear hcl hcl0 hcl1 oq3 oq4 oq5
      go_wp2_with (go_at_call 80; (with_reducible refine (Next_c _ _ 8 _ hs6 (by omega)).mono ?_); rintro e w7 ⟨z7, rfl, -, -, -, hs7, hb7⟩; have hsat7 := hsat.but hb7 (fun b' o' _ e => by simp at e; omega); have hW7 : Ext w w7 := hW6.but hb7 (Nat.le_refl _))
      all_goals
        go_ret2
        exact ⟨_, _, _, _, rfl, by first | omega | (rw [ByteArray.size_append]; show t.size + 1 ≤ 600; omega), by simp only [List.length_cons] at hlen ⊢; exact hlen, hsz2.out, hsat7, hW7⟩
  all_goals
    refine (Next_c _ _ 8 _ hs4 (by omega)).mono ?_
    rintro e w7 ⟨z7, rfl, -, -, -, hs7, hb7⟩
    have hsat7 := (oq4.but hb7 (by omega)).sat
    have hW7 : Ext w w7 := hW4.but hb7 (Nat.le_refl _)
    have hsz2 := Lib.hid (show ∀ y ∈ L, y.2.size ≤ 1048576 from fun y hy => by have := hsz.out y hy; omega)
    go_wp2_with fail
    all_goals
      go_ret2
      exact ⟨_, _, _, _, rfl, by first | omega | (rw [ByteArray.size_append]; show t.size + 1 ≤ 600; omega), hlen, hsz2.out, hsat7, hW7⟩
end Go.Proofs.Ytepneadbddjmjaa
