/- ReadBatch, the program's side. -/
import Derived.Test.YthpnkcamjcohgaaDoorLBatchTextLK42
namespace Go.Proofs.YthpnkcamjcohgaaDoor
set_option linter.unusedVariables false
set_option linter.unusedSimpArgs false
open Go.RowKit

/-- The library's cut of a string at a byte. -/
def SnE (ps : List ByteArray) (e : Ending) (w' : World) : Prop := ∃ (g c : Nat), e = .returned (.slice (some ⟨g, 0, none⟩) ps.length c) ∧ ps.length ≤ c ∧ SAt wdF 1 w' (some ⟨g, 0, none⟩) ps
theorem SAt.wdh {w : World} {g o : Nat} {xs : List ByteArray} (h : SAt wdF 1 w (some ⟨g, o, none⟩) xs) {i : Nat} (hi : i < xs.length) : g < w.heap.size ∧ w.cell? ⟨g, o + i, none⟩ = some (.string (xs[i]'hi)) := by
  obtain ⟨b', o', e, h1, h2⟩ := h.wd hi
  simp only [Option.some.injEq, Addr.mk.injEq, and_true] at e
  obtain ⟨rfl, rfl⟩ := e
  exact ⟨h1, h2⟩
theorem cellsOf_at {ps : List ByteArray} {N i : Nat} (h : i < ps.length) : (Lib.cellsOf ps N)[i]? = some (.string (ps[i]'h)) := by
  unfold Lib.cellsOf
  rw [List.getElem?_toArray, List.getElem?_append_left (by simpa using h)]
  simp [h]
theorem splitN_c (s : ByteArray) (y : UInt8) (n : Nat) (w : World) (hs : s.size ≤ 1048576) (hn : 1 ≤ n ∧ n ≤ 1000) (hM : MaxC w) :
    Calls Tryd.prog 67 #[.string s, .string ⟨#[y]⟩, .int .i64 n] w fun e w' => SnE (Lib.splitB ⟨#[y]⟩ 0 (min n (s.size + 1) - 1) s) e w' ∧ Ext w w' := by
  obtain ⟨m, hm⟩ := hM
  refine (Tryd.strings_SplitN s ⟨#[y]⟩ n m w (by omega) hm (Nat.le_refl 1) hn.1 (by omega)).mono ?_
  rintro e w' ⟨rfl, rfl⟩
  have hl := Lib.splitB_length_le ⟨#[y]⟩ 0 (min n (s.size + 1) - 1) s
  generalize Lib.splitB ⟨#[y]⟩ 0 (min n (s.size + 1) - 1) s = ps at *
  refine ⟨⟨w.heap.size, _, rfl, by omega, fun i hi => ⟨_, _, rfl, by simp, fun j v hv => ?_⟩⟩, (Ext.refl w).alloc _⟩
  have hj : j = 0 := by
    have := (List.getElem?_eq_some_iff.1 hv).1
    simp [wdF] at this
    exact this
  subst hj
  have hv2 : v = .string (ps[i]'hi) := by simpa [wdF] using hv.symm
  subst hv2
  have : (w.alloc (.cells (Lib.cellsOf ps (min n (s.size + 1))) 9)).heap[w.heap.size]? = some (.cells (Lib.cellsOf ps (min n (s.size + 1))) 9) := (MapKept.heap_alloc w _).1
  simp only [World.cell?, this]
  show (Lib.cellsOf ps _)[0 + i * 1 + 0]? = _
  rw [show 0 + i * 1 + 0 = i by omega, cellsOf_at hi]
abbrev num4 (a b c d : Nat) : Array Value := #[.int .i64 a, .int .i64 b, .int .i64 c, .int .i64 d]
/-- The first k words are numbers that lie in the array. -/
def Rd4 (a1 a2 a3 a4 : ByteArray) (k v0 v1 v2 v3 : Nat) : Prop := (0 < k → a1 = dec v0) ∧ (1 < k → a2 = dec v1) ∧ (2 < k → a3 = dec v2) ∧ (3 < k → a4 = dec v3)
set_option maxHeartbeats 3200000 in
set_option maxRecDepth 100000 in
theorem iReadBatch_c (s : ByteArray) (w : World) (hs : s.size ≤ 1048576) (hT : Tab10 w) (hM : MaxC w) (hE : ErrC w) :
    Calls Tryd.prog 23 #[.string s] w fun e w' => RbE s e ∧ Ext w w' := by
  have hsn : ∀ W, MaxC W → Calls Tryd.prog 67 #[.string s, .string ⟨#[47]⟩, .int .i64 6] W fun e w' => SnE (Lib.splitB ⟨#[47]⟩ 0 (min 6 (s.size + 1) - 1) s) e w' ∧ Ext W w' := fun W h => splitN_c s 47 6 W hs ⟨by decide, by decide⟩ h
  have h5 := splitB_spl 47 s 6 5 (by decide)
  have hme := splitB_eq 47 s 6 5 (by decide)
  generalize Lib.splitB ⟨#[47]⟩ 0 (min 6 (s.size + 1) - 1) s = ps at *
  replace hsn := Lib.hid hsn
  have hb0 := Blk.new w (bat5 ⟨#[]⟩ 0 0 0 0) 51
  have hx0 : Ext w (w.alloc (.cells (bat5 ⟨#[]⟩ 0 0 0 0) 51)) := (Ext.refl w).alloc _
  have hM0 := hM.ext hx0
  by_cases hl5 : ps.length = 5
  · have hmap : ps.map (·.data.toList) = spl 47 s.data.toList := hme (h5.1 hl5)
    obtain ⟨hpz, -, -⟩ := pieces_le hmap
    obtain ⟨x0, a1, a2, a3, a4, rfl⟩ : ∃ x0 a1 a2 a3 a4, ps = [x0, a1, a2, a3, a4] := by
      match ps, hl5 with
      | [x0, a1, a2, a3, a4], _ => exact ⟨x0, a1, a2, a3, a4, rfl⟩
    have hx0s : x0.size ≤ 1048576 := Nat.le_trans (hpz x0 (by simp)) hs
    have z1s : a1.size ≤ 1048576 := Nat.le_trans (hpz a1 (by simp)) hs
    have z2s : a2.size ≤ 1048576 := Nat.le_trans (hpz a2 (by simp)) hs
    have z3s : a3.size ≤ 1048576 := Nat.le_trans (hpz a3 (by simp)) hs
    have z4s : a4.size ≤ 1048576 := Nat.le_trans (hpz a4 (by simp)) hs
    have hbig : ∀ m : Nat, m ≤ 999999999 → m ≤ 9223372036854775807 := fun m h => by omega
    have hnn : ∀ (a : ByteArray) (f st c wd : Int), batOK a f st c wd → s = batT a f st c wd → ∃ na nb nd ne : Nat, (na ≤ 9223372036854775807 ∧ nb ≤ 9223372036854775807 ∧ nd ≤ 9223372036854775807 ∧ ne ≤ 9223372036854775807) ∧ a1 = dec na ∧ a2 = dec nb ∧ a3 = dec nd ∧ a4 = dec ne := fun a f st c wd hok e => by
      have hp := rb_pieces hmap hok e
      simp only [List.cons.injEq, and_true] at hp
      obtain ⟨na, nb, nd, ne, rfl, rfl, rfl, rfl, ba, bb, bd, be⟩ := bat_nat hok.2.2
      obtain ⟨-, rfl, rfl, rfl, rfl⟩ := hp
      exact ⟨na, nb, nd, ne, ⟨by omega, by omega, by omega, by omega⟩, rfl, rfl, rfl, rfl⟩
    have no1 := Lib.hid (fun (h : ∀ m : Nat, m ≤ 9223372036854775807 → a1 ≠ dec m) a f st c wd (hok : batOK a f st c wd) (e : s = batT a f st c wd) => by
      obtain ⟨na, nb, nd, ne, ⟨g1, g2, g3, g4⟩, e1, e2, e3, e4⟩ := hnn a f st c wd hok e
      exact h na g1 e1)
    have no2 := Lib.hid (fun (h : ∀ m : Nat, m ≤ 9223372036854775807 → a2 ≠ dec m) a f st c wd (hok : batOK a f st c wd) (e : s = batT a f st c wd) => by
      obtain ⟨na, nb, nd, ne, ⟨g1, g2, g3, g4⟩, e1, e2, e3, e4⟩ := hnn a f st c wd hok e
      exact h nb g2 e2)
    have no3 := Lib.hid (fun (h : ∀ m : Nat, m ≤ 9223372036854775807 → a3 ≠ dec m) a f st c wd (hok : batOK a f st c wd) (e : s = batT a f st c wd) => by
      obtain ⟨na, nb, nd, ne, ⟨g1, g2, g3, g4⟩, e1, e2, e3, e4⟩ := hnn a f st c wd hok e
      exact h nd g3 e3)
    have no4 := Lib.hid (fun (h : ∀ m : Nat, m ≤ 9223372036854775807 → a4 ≠ dec m) a f st c wd (hok : batOK a f st c wd) (e : s = batT a f st c wd) => by
      obtain ⟨na, nb, nd, ne, ⟨g1, g2, g3, g4⟩, e1, e2, e3, e4⟩ := hnn a f st c wd hok e
      exact h ne g4 e4)
    have r1 := Lib.hid (fun W (h : ErrC W) => readDecimal_c a1 W z1s h)
    have r2 := Lib.hid (fun W (h : ErrC W) => readDecimal_c a2 W z2s h)
    have r3 := Lib.hid (fun W (h : ErrC W) => readDecimal_c a3 W z3s h)
    have r4 := Lib.hid (fun W (h : ErrC W) => readDecimal_c a4 W z4s h)
    replace hmap := Lib.hid hmap
    clear hpz hnn hl5 h5 hme hbig z1s z2s z3s z4s
    have hsn : ∀ W, MaxC W → Calls Tryd.prog 67 #[.string s, .string ⟨#[47]⟩, .int .i64 6] W fun e w' => (∃ (g c : Nat), e = .returned (.slice (some ⟨g, 0, none⟩) 5 c) ∧ 5 ≤ c ∧ SAt wdF 1 w' (some ⟨g, 0, none⟩) [x0, a1, a2, a3, a4]) ∧ Ext W w' := hsn.out
    replace hsn := Lib.hid hsn
    go_enter Tryd.func23, Tryd.ntmps23
    go_upto_region 2 with (go_at_call 67; (with_reducible refine (hsn.out _ hM0).mono ?_); rintro e w1 ⟨⟨g, c, rfl, hc5, hsat⟩, hx1⟩)
    have s0 : w1.cell? ⟨g, 0, none⟩ = some (.string x0) := by have h := (SAt.wdh hsat (i := 0) (by simp)).2; rw [Nat.zero_add] at h; exact h
    have s1 : w1.cell? ⟨g, 1, none⟩ = some (.string a1) := by have h := (SAt.wdh hsat (i := 1) (by simp)).2; rw [Nat.zero_add] at h; exact h
    have s2 : w1.cell? ⟨g, 2, none⟩ = some (.string a2) := by have h := (SAt.wdh hsat (i := 2) (by simp)).2; rw [Nat.zero_add] at h; exact h
    have s3 : w1.cell? ⟨g, 3, none⟩ = some (.string a3) := by have h := (SAt.wdh hsat (i := 3) (by simp)).2; rw [Nat.zero_add] at h; exact h
    have s4 : w1.cell? ⟨g, 4, none⟩ = some (.string a4) := by have h := (SAt.wdh hsat (i := 4) (by simp)).2; rw [Nat.zero_add] at h; exact h
    have hgl : g < w1.heap.size := (SAt.wdh hsat (i := 0) (by simp)).1
    have hb1 := hb0.ext hx1
    have hxw := hx0.trans hx1
    clear hsat hb0
    go_upto_region 5 with (fail)
    have hN0 := Blk.new w1 (num4 0 0 0 0) 116
    have hx2 : Ext w1 (w1.alloc (.cells (num4 0 0 0 0) 116)) := (Ext.refl w1).alloc _
    have hgN : g < w1.heap.size := hgl
    have hwN : w.heap.size < w1.heap.size := hb1.lt
    have hE1 := Lib.hid (hE.ext hxw)
    generalize w1.alloc (.cells #[.int .i64 0, .int .i64 0, .int .i64 0, .int .i64 0] 116) = w2 at *
    have hgz : w1.heap.size ≤ w1.heap.size := Nat.le_refl _
    obtain ⟨gN, hgNe⟩ : ∃ q, w1.heap.size = q := ⟨_, rfl⟩
    rw [hgNe] at hN0 hgN hwN ⊢
    have hgz : w1.heap.size ≤ gN := by omega
    replace hgNe := Lib.hid hgNe
    have hhS := Lib.hid (fun W (h : Ext w1 W) => (show W.cell? ⟨g, 0, none⟩ = some (.string x0) ∧ W.cell? ⟨g, 1, none⟩ = some (.string a1) ∧ W.cell? ⟨g, 2, none⟩ = some (.string a2) ∧ W.cell? ⟨g, 3, none⟩ = some (.string a3) ∧ W.cell? ⟨g, 4, none⟩ = some (.string a4) ∧ g < W.heap.size from ⟨by rw [(ecell h).1 _ _ hgl]; exact s0, by rw [(ecell h).1 _ _ hgl]; exact s1, by rw [(ecell h).1 _ _ hgl]; exact s2, by rw [(ecell h).1 _ _ hgl]; exact s3, by rw [(ecell h).1 _ _ hgl]; exact s4, (ecell h).2.2.1 _ hgl⟩))
    clear s0 s1 s2 s3 s4
    go_upto_region 6 with (fail)
    go_loopw [17] (fun i wr => ∃ k v0 v1 v2 v3 : Nat, k ≤ 4 ∧ i = .int .i64 k ∧ Blk wr gN (num4 v0 v1 v2 v3) 116 ∧ Hid (Rd4 a1 a2 a3 a4 k v0 v1 v2 v3) ∧ Ext w1 wr) (fun i _ => 4 - (intOf i).toNat)
    case atStart => exact ⟨0, 0, 0, 0, 0, by omega, rfl, hN0, Lib.hid ⟨fun h => absurd h (by omega), fun h => absurd h (by omega), fun h => absurd h (by omega), fun h => absurd h (by omega)⟩, hx2⟩
    case round =>
      obtain ⟨k, v0, v1, v2, v3, hk, rfl, hN, hrd, hext⟩ := hrel
      obtain ⟨s0, s1, s2, s3, s4, sl⟩ := hhS.out _ hext
      have hbr := hb1.ext hext
      have hxr := hxw.trans hext
      have hEr := hE1.out.ext hext
      have n0 := hN.cell (i := 0) (v := .int .i64 v0) rfl; have n1 := hN.cell (i := 1) (v := .int .i64 v1) rfl; have n2 := hN.cell (i := 2) (v := .int .i64 v2) rfl; have n3 := hN.cell (i := 3) (v := .int .i64 v3) rfl; have nl := hN.lt
      have hkc : k = 0 ∨ k = 1 ∨ k = 2 ∨ k = 3 ∨ k = 4 := by omega
      rcases hkc with rfl | rfl | rfl | rfl | rfl
      · clear n0 n1 n2 n3 nl
        go_upto_region 9 with (go_at_call 68; (with_reducible refine (r1.out _ hEr).mono ?_); rintro e w5 ⟨⟨n, bb, rfl, hR⟩, hx5⟩)
        have hx15 := hext.trans hx5
        rcases hR with ⟨rfl, m, rfl, hm, -⟩ | ⟨rfl, hR⟩
        · have hN5 := hN.ext hx5
          have q0 := hN5.cell (i := 0) (v := .int .i64 v0) rfl; have ql := hN5.lt; have qf := hN5.free
          replace hm := Lib.hid hm
          clear s0 s1 s2 s3 s4 sl hbr hEr hN
          go_wp2_with fail
          go_roundw
          case rel => exact ⟨1, m, v1, v2, v3, by omega, by go_num, hN5.set 0 (.int .i64 m), Lib.hid ⟨fun _ => hm.out, fun h => absurd h (by omega), fun h => absurd h (by omega), fun h => absurd h (by omega)⟩, hx15.setCell (p := ⟨gN, 0, none⟩) hgz _⟩
          case measure => simp [intOf]
        · have hb5 := hbr.ext hx5
          have z0 := hb5.cell (i := 0) (v := .string ⟨#[]⟩) rfl; have z1 := hb5.cell (i := 1) (v := .int .i64 0) rfl; have z2 := hb5.cell (i := 2) (v := .int .i64 0) rfl; have z3 := hb5.cell (i := 3) (v := .int .i64 0) rfl; have z4 := hb5.cell (i := 4) (v := .int .i64 0) rfl; have zl := hb5.lt; have zf := hb5.free
          have hno := Lib.hid (fun a f st c wd hok e => no1.out hR a f st c wd hok e)
          clear s0 s1 s2 s3 s4 sl hbr hEr hN
          go_wp2_with fail
          have hF := hb5.bat ⟨#[]⟩ 0 0 0 0
          have c0 := hF.cell (i := 0) (v := .string ⟨#[]⟩) rfl; have c1 := hF.cell (i := 1) (v := .int .i64 0) rfl; have c2 := hF.cell (i := 2) (v := .int .i64 0) rfl; have c3 := hF.cell (i := 3) (v := .int .i64 0) rfl; have c4 := hF.cell (i := 4) (v := .int .i64 0) rfl
          have hx9 := (hxr.trans hx5).bat (g := w.heap.size) (Nat.le_refl _) ⟨#[]⟩ 0 0 0 0
          unfold setBat at c0 c1 c2 c3 c4 hx9
          clear z0 z1 z2 z3 z4 zl zf
          exact bodyPost_ret (v := .tuple #[vBatch ⟨#[]⟩ 0 0 0 0, .bool false]) (by simp [results, Tryd.results23, go_sem, c0, c1, c2, c3, c4]) rfl ⟨RbE.no hno.out, hx9⟩
      · clear n0 n1 n2 n3 nl
        go_upto_region 9 with (go_at_call 68; (with_reducible refine (r2.out _ hEr).mono ?_); rintro e w5 ⟨⟨n, bb, rfl, hR⟩, hx5⟩)
        have hx15 := hext.trans hx5
        rcases hR with ⟨rfl, m, rfl, hm, -⟩ | ⟨rfl, hR⟩
        · have hN5 := hN.ext hx5
          have q0 := hN5.cell (i := 1) (v := .int .i64 v1) rfl; have ql := hN5.lt; have qf := hN5.free
          replace hm := Lib.hid hm
          clear s0 s1 s2 s3 s4 sl hbr hEr hN
          go_wp2_with fail
          go_roundw
          case rel => exact ⟨2, v0, m, v2, v3, by omega, by go_num, hN5.set 1 (.int .i64 m), Lib.hid ⟨fun _ => hrd.out.1 (by omega), fun _ => hm.out, fun h => absurd h (by omega), fun h => absurd h (by omega)⟩, hx15.setCell (p := ⟨gN, 1, none⟩) hgz _⟩
          case measure => simp [intOf]
        · have hb5 := hbr.ext hx5
          have z0 := hb5.cell (i := 0) (v := .string ⟨#[]⟩) rfl; have z1 := hb5.cell (i := 1) (v := .int .i64 0) rfl; have z2 := hb5.cell (i := 2) (v := .int .i64 0) rfl; have z3 := hb5.cell (i := 3) (v := .int .i64 0) rfl; have z4 := hb5.cell (i := 4) (v := .int .i64 0) rfl; have zl := hb5.lt; have zf := hb5.free
          have hno := Lib.hid (fun a f st c wd hok e => no2.out hR a f st c wd hok e)
          clear s0 s1 s2 s3 s4 sl hbr hEr hN
          go_wp2_with fail
          have hF := hb5.bat ⟨#[]⟩ 0 0 0 0
          have c0 := hF.cell (i := 0) (v := .string ⟨#[]⟩) rfl; have c1 := hF.cell (i := 1) (v := .int .i64 0) rfl; have c2 := hF.cell (i := 2) (v := .int .i64 0) rfl; have c3 := hF.cell (i := 3) (v := .int .i64 0) rfl; have c4 := hF.cell (i := 4) (v := .int .i64 0) rfl
          have hx9 := (hxr.trans hx5).bat (g := w.heap.size) (Nat.le_refl _) ⟨#[]⟩ 0 0 0 0
          unfold setBat at c0 c1 c2 c3 c4 hx9
          clear z0 z1 z2 z3 z4 zl zf
          exact bodyPost_ret (v := .tuple #[vBatch ⟨#[]⟩ 0 0 0 0, .bool false]) (by simp [results, Tryd.results23, go_sem, c0, c1, c2, c3, c4]) rfl ⟨RbE.no hno.out, hx9⟩
      · clear n0 n1 n2 n3 nl
        go_upto_region 9 with (go_at_call 68; (with_reducible refine (r3.out _ hEr).mono ?_); rintro e w5 ⟨⟨n, bb, rfl, hR⟩, hx5⟩)
        have hx15 := hext.trans hx5
        rcases hR with ⟨rfl, m, rfl, hm, -⟩ | ⟨rfl, hR⟩
        · have hN5 := hN.ext hx5
          have q0 := hN5.cell (i := 2) (v := .int .i64 v2) rfl; have ql := hN5.lt; have qf := hN5.free
          replace hm := Lib.hid hm
          clear s0 s1 s2 s3 s4 sl hbr hEr hN
          go_wp2_with fail
          go_roundw
          case rel => exact ⟨3, v0, v1, m, v3, by omega, by go_num, hN5.set 2 (.int .i64 m), Lib.hid ⟨fun _ => hrd.out.1 (by omega), fun _ => hrd.out.2.1 (by omega), fun _ => hm.out, fun h => absurd h (by omega)⟩, hx15.setCell (p := ⟨gN, 2, none⟩) hgz _⟩
          case measure => simp [intOf]
        · have hb5 := hbr.ext hx5
          have z0 := hb5.cell (i := 0) (v := .string ⟨#[]⟩) rfl; have z1 := hb5.cell (i := 1) (v := .int .i64 0) rfl; have z2 := hb5.cell (i := 2) (v := .int .i64 0) rfl; have z3 := hb5.cell (i := 3) (v := .int .i64 0) rfl; have z4 := hb5.cell (i := 4) (v := .int .i64 0) rfl; have zl := hb5.lt; have zf := hb5.free
          have hno := Lib.hid (fun a f st c wd hok e => no3.out hR a f st c wd hok e)
          clear s0 s1 s2 s3 s4 sl hbr hEr hN
          go_wp2_with fail
          have hF := hb5.bat ⟨#[]⟩ 0 0 0 0
          have c0 := hF.cell (i := 0) (v := .string ⟨#[]⟩) rfl; have c1 := hF.cell (i := 1) (v := .int .i64 0) rfl; have c2 := hF.cell (i := 2) (v := .int .i64 0) rfl; have c3 := hF.cell (i := 3) (v := .int .i64 0) rfl; have c4 := hF.cell (i := 4) (v := .int .i64 0) rfl
          have hx9 := (hxr.trans hx5).bat (g := w.heap.size) (Nat.le_refl _) ⟨#[]⟩ 0 0 0 0
          unfold setBat at c0 c1 c2 c3 c4 hx9
          clear z0 z1 z2 z3 z4 zl zf
          exact bodyPost_ret (v := .tuple #[vBatch ⟨#[]⟩ 0 0 0 0, .bool false]) (by simp [results, Tryd.results23, go_sem, c0, c1, c2, c3, c4]) rfl ⟨RbE.no hno.out, hx9⟩
      · clear n0 n1 n2 n3 nl
        go_upto_region 9 with (go_at_call 68; (with_reducible refine (r4.out _ hEr).mono ?_); rintro e w5 ⟨⟨n, bb, rfl, hR⟩, hx5⟩)
        have hx15 := hext.trans hx5
        rcases hR with ⟨rfl, m, rfl, hm, -⟩ | ⟨rfl, hR⟩
        · have hN5 := hN.ext hx5
          have q0 := hN5.cell (i := 3) (v := .int .i64 v3) rfl; have ql := hN5.lt; have qf := hN5.free
          replace hm := Lib.hid hm
          clear s0 s1 s2 s3 s4 sl hbr hEr hN
          go_wp2_with fail
          go_roundw
          case rel => exact ⟨4, v0, v1, v2, m, by omega, by go_num, hN5.set 3 (.int .i64 m), Lib.hid ⟨fun _ => hrd.out.1 (by omega), fun _ => hrd.out.2.1 (by omega), fun _ => hrd.out.2.2.1 (by omega), fun _ => hm.out⟩, hx15.setCell (p := ⟨gN, 3, none⟩) hgz _⟩
          case measure => simp [intOf]
        · have hb5 := hbr.ext hx5
          have z0 := hb5.cell (i := 0) (v := .string ⟨#[]⟩) rfl; have z1 := hb5.cell (i := 1) (v := .int .i64 0) rfl; have z2 := hb5.cell (i := 2) (v := .int .i64 0) rfl; have z3 := hb5.cell (i := 3) (v := .int .i64 0) rfl; have z4 := hb5.cell (i := 4) (v := .int .i64 0) rfl; have zl := hb5.lt; have zf := hb5.free
          have hno := Lib.hid (fun a f st c wd hok e => no4.out hR a f st c wd hok e)
          clear s0 s1 s2 s3 s4 sl hbr hEr hN
          go_wp2_with fail
          have hF := hb5.bat ⟨#[]⟩ 0 0 0 0
          have c0 := hF.cell (i := 0) (v := .string ⟨#[]⟩) rfl; have c1 := hF.cell (i := 1) (v := .int .i64 0) rfl; have c2 := hF.cell (i := 2) (v := .int .i64 0) rfl; have c3 := hF.cell (i := 3) (v := .int .i64 0) rfl; have c4 := hF.cell (i := 4) (v := .int .i64 0) rfl
          have hx9 := (hxr.trans hx5).bat (g := w.heap.size) (Nat.le_refl _) ⟨#[]⟩ 0 0 0 0
          unfold setBat at c0 c1 c2 c3 c4 hx9
          clear z0 z1 z2 z3 z4 zl zf
          exact bodyPost_ret (v := .tuple #[vBatch ⟨#[]⟩ 0 0 0 0, .bool false]) (by simp [results, Tryd.results23, go_sem, c0, c1, c2, c3, c4]) rfl ⟨RbE.no hno.out, hx9⟩
      · obtain ⟨t1, t2, t3, t4⟩ := hrd.out
        obtain rfl := t1 (by omega)
        obtain rfl := t2 (by omega)
        obtain rfl := t3 (by omega)
        obtain rfl := t4 (by omega)
        have hib := Lib.hid (fun W (h : Tab10 W) => iIsBatch_c x0 v0 v1 v2 v3 W hx0s h)
        have hyes := Lib.hid (fun (_ : True) => rb_yes (s := s) (p0 := x0) (n1 := v0) (n2 := v1) (n3 := v2) (n4 := v3) hmap.out)
        have hnot := Lib.hid (fun h => rb_not (s := s) (p0 := x0) (m1 := v0) (m2 := v1) (m3 := v2) (m4 := v3) hmap.out h)
        have hTr := Lib.hid (hT.ext hxr)
        clear r1 r2 r3 r4 no1 no2 no3 no4 hrd hhS t1 t2 t3 t4 hmap s1 s2 s3 s4
        go_upto_region 13 with (fail)
        refine wp_region_c3 (fun w' => Ext wr w') (.st 0 (.st 1 (.st 2 (.st 3 (.st 4 (.st 5 (.st 6 (.st 7 (.st 8 (.st 9 (.st 10 (.st 11 (.one 12 (.one 13 .done)))))))))))))) (by kernel_rfl) (by kernel_rfl) (by decide) (by kernel_rfl) ?_ ?_
        · exact (by repeat (first | exact Ext.refl _ | assumption | refine Ext.drew ?_ | refine Ext.drewN ?_ _ | refine Ext.iter ?_ _ _ | refine Ext.alloc ?_ _ | refine Ext.setCell ?_ (by first | exact Nat.le_refl _ | (simp <;> omega)) _ | refine Ext.trans2 (by assumption) ?_))
        refine c3_intro fun ops eo => ?_
        have ho0 := canon_at eo 0 rfl
        have ho1 := canon_at eo 1 rfl
        have ho2 := canon_at eo 2 rfl
        have ho3 := canon_at eo 3 rfl
        have ho4 := canon_at eo 4 rfl
        have ho5 := canon_at eo 5 rfl
        have ho6 := canon_at eo 6 rfl
        have ho7 := canon_at eo 7 rfl
        have ho8 := canon_at eo 8 rfl
        have ho9 := canon_at eo 9 rfl
        have ho10 := canon_at eo 10 rfl
        have ho11 := canon_at eo 11 rfl
        have ho12 := canon_at eo 12 rfl
        have ho13 := canon_at eo 13 rfl
        clear eo
        all_goals (apply c3_st ho0 rfl; (intro w2 hS; first | (go_simp; first | done | rfl) | rfl | (obtain ⟨hc', hf', hk', hz⟩ := ecell hS; go_simp; first | done | rfl)); simp only [Act.put, List.setIfInBounds_toArray, List.set_cons_zero, List.set_cons_succ])
        all_goals clear ho0
        all_goals (apply c3_st ho1 rfl; (intro w2 hS; first | (go_simp; first | done | rfl) | rfl | (obtain ⟨hc', hf', hk', hz⟩ := ecell hS; go_simp; first | done | rfl)); simp only [Act.put, List.setIfInBounds_toArray, List.set_cons_zero, List.set_cons_succ])
        all_goals clear ho1
        all_goals (apply c3_st ho2 rfl; (intro w2 hS; first | (go_simp; first | done | rfl) | rfl | (obtain ⟨hc', hf', hk', hz⟩ := ecell hS; go_simp; first | done | rfl)); simp only [Act.put, List.setIfInBounds_toArray, List.set_cons_zero, List.set_cons_succ])
        all_goals clear ho2
        all_goals (apply c3_st ho3 rfl; (intro w2 hS; first | (go_simp; first | done | rfl) | rfl | (obtain ⟨hc', hf', hk', hz⟩ := ecell hS; go_simp; first | done | rfl)); simp only [Act.put, List.setIfInBounds_toArray, List.set_cons_zero, List.set_cons_succ])
        all_goals clear ho3
        all_goals (apply c3_st ho4 rfl; (intro w2 hS; first | (go_simp; first | done | rfl) | rfl | (obtain ⟨hc', hf', hk', hz⟩ := ecell hS; go_simp; first | done | rfl)); simp only [Act.put, List.setIfInBounds_toArray, List.set_cons_zero, List.set_cons_succ])
        all_goals clear ho4
        all_goals (apply c3_st ho5 rfl; (intro w2 hS; first | (go_simp; first | done | rfl) | rfl | (obtain ⟨hc', hf', hk', hz⟩ := ecell hS; go_simp; first | done | rfl)); simp only [Act.put, List.setIfInBounds_toArray, List.set_cons_zero, List.set_cons_succ])
        all_goals clear ho5
        all_goals (apply c3_st ho6 rfl; (intro w2 hS; first | (go_simp; first | done | rfl) | rfl | (obtain ⟨hc', hf', hk', hz⟩ := ecell hS; go_simp; first | done | rfl)); simp only [Act.put, List.setIfInBounds_toArray, List.set_cons_zero, List.set_cons_succ])
        all_goals clear ho6
        all_goals (apply c3_st ho7 rfl; (intro w2 hS; first | (go_simp; first | done | rfl) | rfl | (obtain ⟨hc', hf', hk', hz⟩ := ecell hS; go_simp; first | done | rfl)); simp only [Act.put, List.setIfInBounds_toArray, List.set_cons_zero, List.set_cons_succ])
        all_goals clear ho7
        all_goals (apply c3_st ho8 rfl; (intro w2 hS; first | (go_simp; first | done | rfl) | rfl | (obtain ⟨hc', hf', hk', hz⟩ := ecell hS; go_simp; first | done | rfl)); simp only [Act.put, List.setIfInBounds_toArray, List.set_cons_zero, List.set_cons_succ])
        all_goals clear ho8
        all_goals (apply c3_st ho9 rfl; (intro w2 hS; first | (go_simp; first | done | rfl) | rfl | (obtain ⟨hc', hf', hk', hz⟩ := ecell hS; go_simp; first | done | rfl)); simp only [Act.put, List.setIfInBounds_toArray, List.set_cons_zero, List.set_cons_succ])
        all_goals clear ho9
        all_goals (apply c3_st ho10 rfl; (intro w2 hS; first | (go_simp; first | done | rfl) | rfl | (obtain ⟨hc', hf', hk', hz⟩ := ecell hS; go_simp; first | done | rfl)); simp only [Act.put, List.setIfInBounds_toArray, List.set_cons_zero, List.set_cons_succ])
        all_goals clear ho10
        all_goals (apply c3_st ho11 rfl; (intro w2 hS; first | (go_simp; first | done | rfl) | rfl | (obtain ⟨hc', hf', hk', hz⟩ := ecell hS; go_simp; first | done | rfl)); simp only [Act.put, List.setIfInBounds_toArray, List.set_cons_zero, List.set_cons_succ])
        all_goals clear ho11
        all_goals refine c3_one ?_
        all_goals first | (refine c3_op ho12 rfl (fun K hK => ?_); go_simp; (skip); all_goals ((with_reducible refine hK _ _ ?_); refine ⟨(by repeat (first | exact Ext.refl _ | assumption | refine Ext.drew ?_ | refine Ext.drewN ?_ _ | refine Ext.iter ?_ _ _ | refine Ext.alloc ?_ _ | refine Ext.setCell ?_ (by first | exact Nat.le_refl _ | (simp <;> omega)) _ | refine Ext.trans2 (by assumption) ?_)), ?_⟩; clear hK K; go_simp))
        all_goals clear ho12
        all_goals refine c3_one ?_
        all_goals first | (refine c3_op ho13 rfl (fun K hK => ?_); go_simp; (skip); all_goals ((with_reducible refine hK _ _ ?_); refine ⟨(by repeat (first | exact Ext.refl _ | assumption | refine Ext.drew ?_ | refine Ext.drewN ?_ _ | refine Ext.iter ?_ _ _ | refine Ext.alloc ?_ _ | refine Ext.setCell ?_ (by first | exact Nat.le_refl _ | (simp <;> omega)) _ | refine Ext.trans2 (by assumption) ?_)), ?_⟩; clear hK K; go_simp))
        all_goals clear ho13
        all_goals refine c3_done (NoPanic.normal ?_)
        have hg := (Blk.new wr (bat5 x0 v0 v1 v2 v3) 51).ext ((Ext.refl _).drew)
        have hx3 : Ext wr ((wr.alloc (.cells (bat5 x0 v0 v1 v2 v3) 51)).drew) := ((Ext.refl wr).alloc _).drew
        have hb3 := hbr.ext hx3
        have hxw3 := hxr.trans hx3
        have hT3 := Lib.hid (hTr.out.ext hx3)
        generalize (wr.alloc (.cells #[.string x0, .int .i64 v0, .int .i64 v1, .int .i64 v2, .int .i64 v3] 51)).drew = w3 at *
        generalize wr.heap.size = g9 at *
        clear hx3 hbr n0 n1 n2 n3 nl s0 sl hN hxr
        have d0 := hg.cell (i := 0) (v := .string x0) rfl; have d1 := hg.cell (i := 1) (v := .int .i64 v0) rfl; have d2 := hg.cell (i := 2) (v := .int .i64 v1) rfl; have d3 := hg.cell (i := 3) (v := .int .i64 v2) rfl; have d4 := hg.cell (i := 4) (v := .int .i64 v3) rfl; have dL := hg.lt
        go_wp2_with (go_at_call 65; (with_reducible refine (hib.out _ hT3.out).mono ?_); rintro e w4 ⟨⟨hP, rfl⟩ | ⟨hP, rfl⟩, hx4⟩ <;> (have hb4 := hb3.ext hx4; have g4 := hg.ext hx4; have f0 := g4.cell (i := 0) (v := .string x0) rfl; have f1 := g4.cell (i := 1) (v := .int .i64 v0) rfl; have f2 := g4.cell (i := 2) (v := .int .i64 v1) rfl; have f3 := g4.cell (i := 3) (v := .int .i64 v2) rfl; have f4 := g4.cell (i := 4) (v := .int .i64 v3) rfl; have fL := g4.lt; have z0 := hb4.cell (i := 0) (v := .string ⟨#[]⟩) rfl; have z1 := hb4.cell (i := 1) (v := .int .i64 0) rfl; have z2 := hb4.cell (i := 2) (v := .int .i64 0) rfl; have z3 := hb4.cell (i := 3) (v := .int .i64 0) rfl; have z4 := hb4.cell (i := 4) (v := .int .i64 0) rfl; have zl := hb4.lt; have zf := hb4.free))
        · have hF := hb4.bat x0 v0 v1 v2 v3
          have c0 := hF.cell (i := 0) (v := .string x0) rfl; have c1 := hF.cell (i := 1) (v := .int .i64 v0) rfl; have c2 := hF.cell (i := 2) (v := .int .i64 v1) rfl; have c3 := hF.cell (i := 3) (v := .int .i64 v2) rfl; have c4 := hF.cell (i := 4) (v := .int .i64 v3) rfl
          have hx9 := (hxw3.trans hx4).bat (g := w.heap.size) (Nat.le_refl _) x0 v0 v1 v2 v3
          unfold setBat at c0 c1 c2 c3 c4 hx9
          clear z0 z1 z2 z3 z4 zl zf f0 f1 f2 f3 f4 fL d0 d1 d2 d3 d4 dL
          exact bodyPost_ret (v := .tuple #[vBatch x0 v0 v1 v2 v3, .bool true]) (by simp [results, Tryd.results23, go_sem, c0, c1, c2, c3, c4]) rfl ⟨.inl ⟨x0, v0, v1, v2, v3, rfl, hP, hyes.out trivial⟩, hx9⟩
        · have hF := hb4.bat ⟨#[]⟩ 0 0 0 0
          have c0 := hF.cell (i := 0) (v := .string ⟨#[]⟩) rfl; have c1 := hF.cell (i := 1) (v := .int .i64 0) rfl; have c2 := hF.cell (i := 2) (v := .int .i64 0) rfl; have c3 := hF.cell (i := 3) (v := .int .i64 0) rfl; have c4 := hF.cell (i := 4) (v := .int .i64 0) rfl
          have hx9 := (hxw3.trans hx4).bat (g := w.heap.size) (Nat.le_refl _) ⟨#[]⟩ 0 0 0 0
          unfold setBat at c0 c1 c2 c3 c4 hx9
          clear z0 z1 z2 z3 z4 zl zf f0 f1 f2 f3 f4 fL d0 d1 d2 d3 d4 dL
          exact bodyPost_ret (v := .tuple #[vBatch ⟨#[]⟩ 0 0 0 0, .bool false]) (by simp [results, Tryd.results23, go_sem, c0, c1, c2, c3, c4]) rfl ⟨RbE.no (hnot.out hP), hx9⟩
  · have hno : ∀ (a : ByteArray) (f st c wd : Int), batOK a f st c wd → s ≠ batT a f st c wd := fun a f st c wd hok e => hl5 (h5.2 (by rw [e, bat_spl hok]; rfl))
    replace hno := Lib.hid hno
    have hlb : ((ps.length : Int) != 5) = true := by simp; omega
    clear h5 hme
    go_enter Tryd.func23, Tryd.ntmps23
    go_wp2_with (go_at_call 67; (with_reducible refine (hsn.out _ hM0).mono ?_); rintro e w1 ⟨⟨g, c, rfl, hc5, hsat⟩, hx1⟩; have hb1 := hb0.ext hx1; have z0 := hb1.cell (i := 0) (v := .string ⟨#[]⟩) rfl; have z1 := hb1.cell (i := 1) (v := .int .i64 0) rfl; have z2 := hb1.cell (i := 2) (v := .int .i64 0) rfl; have z3 := hb1.cell (i := 3) (v := .int .i64 0) rfl; have z4 := hb1.cell (i := 4) (v := .int .i64 0) rfl; have zl := hb1.lt; have zf := hb1.free)
    have hF := hb1.bat ⟨#[]⟩ 0 0 0 0
    have c0 := hF.cell (i := 0) (v := .string ⟨#[]⟩) rfl; have c1 := hF.cell (i := 1) (v := .int .i64 0) rfl; have c2 := hF.cell (i := 2) (v := .int .i64 0) rfl; have c3 := hF.cell (i := 3) (v := .int .i64 0) rfl; have c4 := hF.cell (i := 4) (v := .int .i64 0) rfl
    have hx9 := (hx0.trans hx1).bat (g := w.heap.size) (Nat.le_refl _) ⟨#[]⟩ 0 0 0 0
    unfold setBat at c0 c1 c2 c3 c4 hx9
    clear z0 z1 z2 z3 z4 zl zf
    exact bodyPost_ret (v := .tuple #[vBatch ⟨#[]⟩ 0 0 0 0, .bool false]) (by simp [results, Tryd.results23, go_sem, c0, c1, c2, c3, c4]) rfl ⟨RbE.no hno.out, hx9⟩
end Go.Proofs.YthpnkcamjcohgaaDoor
