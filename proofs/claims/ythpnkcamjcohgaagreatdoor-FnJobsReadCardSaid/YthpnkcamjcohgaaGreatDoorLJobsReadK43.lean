/- JobRaster, on both sides. -/
import Derived.Test.YthpnkcamjcohgaaGreatDoorLJobsReadK42
namespace Go.Proofs.YthpnkcamjcohgaaGreatDoor
set_option linter.unusedVariables false
set_option linter.unusedSimpArgs false
open Go.RowKit

open Classical in
/-- What JobRaster tells. -/
noncomputable def jrV (s : ByteArray) : Int × Int × List Int × Int :=
  if ¬ (rjV s).2.2.2 = true then (0, 0, [], 6) else
  if ¬ rasOKJ (rjV s).1 (rjV s).2.1 then (0, 0, [], 3) else
  ((rjV s).1, (rjV s).2.1, pixJ (rjV s).2.2.1 (rjV s).2.2.1.length, 0)
theorem jrV_len (s : ByteArray) : (jrV s).2.2.1.length ≤ 40000 := by
  have h := rjV_len s
  unfold jrV
  split
  · simp
  · split
    · simp
    · simp only
      rw [pixJ_len (Nat.le_refl _)]
      exact h
abbrev vRasJ (r c : Int) (p : Option Addr) (n k : Nat) : Value := .agg #[.int .i64 r, .int .i64 c, .slice p n k]
def JrE (B : Nat) (V : Int × Int × List Int × Int) (e : Ending) (w' : World) : Prop := ∃ p k, e = .returned (.tuple #[vRasJ V.1 V.2.1 p V.2.2.1.length k, .int .i64 V.2.2.2]) ∧ OwnInts B w' p V.2.2.1
theorem JrE.form {B : Nat} {V : Int × Int × List Int × Int} {e : Ending} {w' : World} (h : JrE B V e w') : ∃ p k, e = .returned (.tuple #[vRasJ V.1 V.2.1 p V.2.2.1.length k, .int .i64 V.2.2.2]) ∧ OwnInts B w' p V.2.2.1 := h
def setRs (w : World) (g : Nat) (r c : Int) (v : Value) : World := ((w.setCell ⟨g, 0, none⟩ (.int .i64 r)).setCell ⟨g, 1, none⟩ (.int .i64 c)).setCell ⟨g, 2, none⟩ v
theorem Blk.rs {w : World} {g : Nat} {t : TypeId} {r0 c0 : Int} {v0 : Value} (h : Blk w g #[.int .i64 r0, .int .i64 c0, v0] t) (r c : Int) (v : Value) : Blk (setRs w g r c v) g #[.int .i64 r, .int .i64 c, v] t := by
  have h0 : Blk (w.setCell ⟨g, 0, none⟩ (.int .i64 r)) g #[.int .i64 r, .int .i64 c0, v0] t := h.set 0 _
  have h1 : Blk ((w.setCell ⟨g, 0, none⟩ (.int .i64 r)).setCell ⟨g, 1, none⟩ (.int .i64 c)) g #[.int .i64 r, .int .i64 c, v0] t := h0.set 1 _
  exact h1.set 2 _
theorem Ext.rs {b w : World} (h : Ext b w) {g : Nat} (hg : b.heap.size ≤ g) (r c : Int) (v : Value) : Ext b (setRs w g r c v) :=
  ((h.setCell (p := ⟨g, 0, none⟩) hg _).setCell (p := ⟨g, 1, none⟩) hg _).setCell (p := ⟨g, 2, none⟩) hg _
theorem rjV_okJ {s : ByteArray} (h : (rjV s).2.2.2 = true) : ∃ R C : Nat, (rjV s).1 = R ∧ (rjV s).2.1 = C ∧ okJ R C (rjV s).2.2.1 := by
  rcases rjV_cases s with ⟨R, C, xs, hj, e⟩ | e
  · rw [e]; exact ⟨R, C, rfl, rfl, hj.1⟩
  · rw [e] at h; cases h
open Classical in
set_option maxHeartbeats 1600000 in
set_option maxRecDepth 100000 in
theorem iJobRaster_c (s : ByteArray) (w : World) (hs : s.size ≤ 1048576) (hT : Tab10 w) (hM : MaxC w) (hE : ErrC w) :
    Calls Tryz.prog 14 #[.string s] w fun e w' => JrE w.heap.size (jrV s) e w' ∧ Ext w w' := by
  have HT := Lib.hid hT; have HM := Lib.hid hM; have HE := Lib.hid hE; clear hT hM hE
  have hrj := Lib.hid (fun W (hx : Ext w W) => (iReadJob_c s W hs (HT.out.ext hx) (HM.out.ext hx) (HE.out.ext hx)).mono (fun e w' (h : RjE _ _ _ _ ∧ _) => (And.intro h.1.form h.2)))
  have hla := rjV_len s
  have hoa := Lib.hid (rjV_okJ (s := s))
  unfold jrV
  generalize rjV s = V at *
  obtain ⟨R1, C1, xs, ok⟩ := V
  simp only at hrj hla hoa ⊢
  obtain ⟨V, hV⟩ : ∃ V : Int × Int × List Int × Int, (if ¬ ok = true then (0, 0, [], 6) else if ¬ rasOKJ R1 C1 then (0, 0, [], 3) else (R1, C1, pixJ xs xs.length, 0)) = V := ⟨_, rfl⟩
  rw [hV]
  replace hV := Lib.hid hV
  have hb0 := Blk.new w #[.int .i64 0, .int .i64 0, .slice none 0 0] 37
  have hx0 : Ext w (w.alloc (.cells #[.int .i64 0, .int .i64 0, .slice none 0 0] 37)) := (Ext.refl w).alloc _
  go_enter Tryz.func14, Tryz.ntmps14
  go_upto_region 2 with (go_at_call 9; (with_reducible refine (hrj.out _ hx0).mono ?_); rintro e w1 ⟨⟨p1, k1, rfl, ho1⟩, hx1⟩)
  have hA := Blk.new w1 #[.int .i64 R1, .int .i64 C1, .slice p1 xs.length k1] 30
  have hxa : Ext w1 (w1.alloc (.cells #[.int .i64 R1, .int .i64 C1, .slice p1 xs.length k1] 30)) := (Ext.refl w1).alloc _
  have hi1 := Lib.hid (ho1.ints.ext hxa)
  have hx02 := (hx0.trans hx1).trans hxa
  have hb2 := (hb0.ext hx1).ext hxa
  have hlow : w.heap.size < w1.heap.size := (hb0.ext hx1).lt
  clear ho1 hxa hx1 hb0 hx0 hrj
  generalize w1.alloc (.cells #[.int .i64 R1, .int .i64 C1, .slice p1 xs.length k1] 30) = w2 at *
  generalize w1.heap.size = g1 at *
  have q0 := hA.cell (i := 0) (v := .int .i64 R1) rfl; have q1 := hA.cell (i := 1) (v := .int .i64 C1) rfl; have q2 := hA.cell (i := 2) (v := .slice p1 xs.length k1) rfl; have ql := hA.lt
  cases ok
  · have hV6 := Lib.hid (fun W => show JrE w.heap.size V (.returned (.tuple #[vRasJ 0 0 none 0 0, .int .i64 6])) W from ⟨none, 0, by rw [← hV.out, if_pos (fun h => by cases h)]; rfl, by rw [← hV.out, if_pos (fun h => by cases h)]; exact OwnInts.nil _ _ _⟩)
    have z0 := hb2.cell (i := 0) (v := .int .i64 0) rfl; have z1 := hb2.cell (i := 1) (v := .int .i64 0) rfl; have z2 := hb2.cell (i := 2) (v := .slice none 0 0) rfl; have zl := hb2.lt; have zf := hb2.free
    go_wp2
    have hF := hb2.rs 0 0 (.slice none 0 0)
    have c0 := hF.cell (i := 0) (v := .int .i64 0) rfl; have c1 := hF.cell (i := 1) (v := .int .i64 0) rfl; have c2 := hF.cell (i := 2) (v := .slice none 0 0) rfl
    have hx9 := hx02.rs (g := w.heap.size) (Nat.le_refl _) 0 0 (.slice none 0 0)
    unfold setRs at c0 c1 c2 hx9
    clear z0 z1 z2 zl zf
    exact bodyPost_ret (v := .tuple #[vRasJ 0 0 none 0 0, .int .i64 6]) (by simp [results, Tryz.results14, go_sem, c0, c1, c2]) rfl ⟨hV6.out _, hx9⟩
  · obtain ⟨R, C, rfl, rfl, hok⟩ := hoa.out rfl
    by_cases hrs : rasOKJ (R : Int) (C : Int)
    · have hR4 : 1 ≤ R ∧ R ≤ 400 := by have := hrs.1; omega
      have hC4 : 1 ≤ C ∧ C ≤ 400 := by have := hrs.2.1; omega
      have hrc := Lib.hid (fun W (h : IntsAt W p1 xs) (hg : Blk W g1 #[.int .i64 R, .int .i64 C, .slice p1 xs.length k1] 30) => rasterJ_c R C p1 g1 k1 xs W h hg hok.len hok.known hR4 hC4 hok.le)
      have hmf : ∀ (fn : Fn) (first cap : Array Value) (w : World), (Instr.makeFunc fn first cap).run Tryz.prog w = .ok (.func fn first cap) w := fun _ _ _ _ => rfl
      have hlen := hok.len
      replace hrs := Lib.hid hrs
      go_upto_region 6 with (go_at_call 36; (with_reducible refine (iRasSizeJ_c _ _ _).mono ?_); rintro e w3 ⟨⟨hP, rfl⟩ | ⟨hP, rfl⟩, rfl⟩ <;> first | (exact absurd hrs.out hP) | skip)
      have z0 := hb2.cell (i := 0) (v := .int .i64 0) rfl; have z1 := hb2.cell (i := 1) (v := .int .i64 0) rfl; have z2 := hb2.cell (i := 2) (v := .slice none 0 0) rfl; have zl := hb2.lt; have zf := hb2.free
      have hw2z := hx02.below.size
      obtain ⟨L, hL⟩ : ∃ L, pixJ xs (R * C) = L := ⟨_, rfl⟩
      rw [hL] at hrc
      rw [← hlen] at hL
      replace hL := Lib.hid hL
      go_wp2_with (go_at_call 37; (with_reducible refine (hrc.out _ hi1.out hA).mono ?_); rintro e w3 ⟨⟨v3, rfl, hv3⟩, hx3⟩; obtain ⟨p3, k3, rfl, -⟩ := hv3.ownC; have hb3 := hb2.ext hx3; have y0 := hb3.cell (i := 0) (v := .int .i64 0) rfl; have y1 := hb3.cell (i := 1) (v := .int .i64 0) rfl; have y2 := hb3.cell (i := 2) (v := .slice none 0 0) rfl; have yl := hb3.lt; have yf := hb3.free)
      have hF := hb3.rs R C (.slice p3 L.length k3)
      have hx9 := (hx02.trans hx3).rs (g := w.heap.size) (Nat.le_refl _) R C (.slice p3 L.length k3)
      have hlo3 : ∀ k, (Value.slice p3 L.length k3).ownBlock = some k → k ≠ w.heap.size := fun k hk => by have := (hv3.lt k hk).1; have := hb2.lt; omega
      have hown9 : RowI w2.heap.size (setRs w3 w.heap.size R C (.slice p3 L.length k3)) (.slice p3 L.length k3) L := ((hv3.setOther (fun e => hlo3 _ e rfl)).setOther (fun e => hlo3 _ e rfl)).setOther (fun e => hlo3 _ e rfl)
      obtain ⟨p9, c9, e9, hq9⟩ := hown9.own
      obtain ⟨rfl, rfl⟩ : p3 = p9 ∧ k3 = c9 := by simp at e9; exact e9
      have hq9 := Lib.hid (hq9.mono hw2z)
      have c0 := hF.cell (i := 0) (v := .int .i64 R) rfl; have c1 := hF.cell (i := 1) (v := .int .i64 C) rfl; have c2 := hF.cell (i := 2) (v := .slice p3 L.length k3) rfl
      clear e9 hown9
      unfold setRs at c0 c1 c2 hx9 hq9
      clear z0 z1 z2 zl zf y0 y1 y2 yl yf
      have hVe : V = ((R : Int), (C : Int), L, 0) := by rw [← hV.out, if_neg (by simp), if_neg (fun h => by exact h hrs.out), hL.out]
      have hVe := Lib.hid hVe
      exact bodyPost_ret (v := .tuple #[vRasJ R C p3 L.length k3, .int .i64 0]) (by simp [results, Tryz.results14, go_sem, c0, c1, c2]) rfl ⟨⟨p3, k3, by rw [hVe.out], by rw [hVe.out]; exact hq9.out⟩, hx9⟩
    · have hV3 := Lib.hid (fun W => show JrE w.heap.size V (.returned (.tuple #[vRasJ 0 0 none 0 0, .int .i64 3])) W from ⟨none, 0, by rw [← hV.out, if_neg (by simp), if_pos hrs]; rfl, by rw [← hV.out, if_neg (by simp), if_pos hrs]; exact OwnInts.nil _ _ _⟩)
      replace hrs := Lib.hid hrs
      go_upto_region 5 with (go_at_call 36; (with_reducible refine (iRasSizeJ_c _ _ _).mono ?_); rintro e w3 ⟨⟨hP, rfl⟩ | ⟨hP, rfl⟩, rfl⟩ <;> first | (exact absurd hP hrs.out) | skip)
      have z0 := hb2.cell (i := 0) (v := .int .i64 0) rfl; have z1 := hb2.cell (i := 1) (v := .int .i64 0) rfl; have z2 := hb2.cell (i := 2) (v := .slice none 0 0) rfl; have zl := hb2.lt; have zf := hb2.free
      go_wp2
      have hF := hb2.rs 0 0 (.slice none 0 0)
      have c0 := hF.cell (i := 0) (v := .int .i64 0) rfl; have c1 := hF.cell (i := 1) (v := .int .i64 0) rfl; have c2 := hF.cell (i := 2) (v := .slice none 0 0) rfl
      have hx9 := hx02.rs (g := w.heap.size) (Nat.le_refl _) 0 0 (.slice none 0 0)
      unfold setRs at c0 c1 c2 hx9
      clear z0 z1 z2 zl zf
      exact bodyPost_ret (v := .tuple #[vRasJ 0 0 none 0 0, .int .i64 3]) (by simp [results, Tryz.results14, go_sem, c0, c1, c2]) rfl ⟨hV3.out _, hx9⟩
open Classical in
set_option maxHeartbeats 1600000 in
set_option maxRecDepth 100000 in
theorem sJobRaster_c (s : ByteArray) (w : World) (hs : s.size ≤ 1048576) :
    Calls Tryz.prog 15 #[.string s] w fun e w' => JrE w.heap.size (jrV s) e w' ∧ Ext w w' := by
  have hrj := Lib.hid (fun W (hx : Ext w W) => (sReadJob_c s W hs).mono (fun e w' (h : RjE _ _ _ _ ∧ _) => (And.intro h.1.form h.2)))
  have hla := rjV_len s
  have hoa := Lib.hid (rjV_okJ (s := s))
  unfold jrV
  generalize rjV s = V at *
  obtain ⟨R1, C1, xs, ok⟩ := V
  simp only at hrj hla hoa ⊢
  obtain ⟨V, hV⟩ : ∃ V : Int × Int × List Int × Int, (if ¬ ok = true then (0, 0, [], 6) else if ¬ rasOKJ R1 C1 then (0, 0, [], 3) else (R1, C1, pixJ xs xs.length, 0)) = V := ⟨_, rfl⟩
  rw [hV]
  replace hV := Lib.hid hV
  have hb0 := Blk.new w #[.int .i64 0, .int .i64 0, .slice none 0 0] 37
  have hx0 : Ext w (w.alloc (.cells #[.int .i64 0, .int .i64 0, .slice none 0 0] 37)) := (Ext.refl w).alloc _
  go_enter Tryz.func15, Tryz.ntmps15
  go_upto_region 2 with (go_at_call 12; (with_reducible refine (hrj.out _ hx0).mono ?_); rintro e w1 ⟨⟨p1, k1, rfl, ho1⟩, hx1⟩)
  have hA := Blk.new w1 #[.int .i64 R1, .int .i64 C1, .slice p1 xs.length k1] 30
  have hxa : Ext w1 (w1.alloc (.cells #[.int .i64 R1, .int .i64 C1, .slice p1 xs.length k1] 30)) := (Ext.refl w1).alloc _
  have hi1 := Lib.hid (ho1.ints.ext hxa)
  have hx02 := (hx0.trans hx1).trans hxa
  have hb2 := (hb0.ext hx1).ext hxa
  have hlow : w.heap.size < w1.heap.size := (hb0.ext hx1).lt
  clear ho1 hxa hx1 hb0 hx0 hrj
  generalize w1.alloc (.cells #[.int .i64 R1, .int .i64 C1, .slice p1 xs.length k1] 30) = w2 at *
  generalize w1.heap.size = g1 at *
  have q0 := hA.cell (i := 0) (v := .int .i64 R1) rfl; have q1 := hA.cell (i := 1) (v := .int .i64 C1) rfl; have q2 := hA.cell (i := 2) (v := .slice p1 xs.length k1) rfl; have ql := hA.lt
  cases ok
  · have hV6 := Lib.hid (fun W => show JrE w.heap.size V (.returned (.tuple #[vRasJ 0 0 none 0 0, .int .i64 6])) W from ⟨none, 0, by rw [← hV.out, if_pos (fun h => by cases h)]; rfl, by rw [← hV.out, if_pos (fun h => by cases h)]; exact OwnInts.nil _ _ _⟩)
    have z0 := hb2.cell (i := 0) (v := .int .i64 0) rfl; have z1 := hb2.cell (i := 1) (v := .int .i64 0) rfl; have z2 := hb2.cell (i := 2) (v := .slice none 0 0) rfl; have zl := hb2.lt; have zf := hb2.free
    go_wp2
    have hF := hb2.rs 0 0 (.slice none 0 0)
    have c0 := hF.cell (i := 0) (v := .int .i64 0) rfl; have c1 := hF.cell (i := 1) (v := .int .i64 0) rfl; have c2 := hF.cell (i := 2) (v := .slice none 0 0) rfl
    have hx9 := hx02.rs (g := w.heap.size) (Nat.le_refl _) 0 0 (.slice none 0 0)
    unfold setRs at c0 c1 c2 hx9
    clear z0 z1 z2 zl zf
    exact bodyPost_ret (v := .tuple #[vRasJ 0 0 none 0 0, .int .i64 6]) (by simp [results, Tryz.results15, go_sem, c0, c1, c2]) rfl ⟨hV6.out _, hx9⟩
  · obtain ⟨R, C, rfl, rfl, hok⟩ := hoa.out rfl
    by_cases hrs : rasOKJ (R : Int) (C : Int)
    · have hR4 : 1 ≤ R ∧ R ≤ 400 := by have := hrs.1; omega
      have hC4 : 1 ≤ C ∧ C ≤ 400 := by have := hrs.2.1; omega
      have hz := Lib.hid hok.known
      have hlen := Lib.hid hok.len
      replace hrs := Lib.hid hrs
      go_upto_region 6 with (go_at_call 40; (with_reducible refine (sRasSizeJ_c _ _ _).mono ?_); rintro e w3 ⟨⟨hP, rfl⟩ | ⟨hP, rfl⟩, rfl⟩ <;> first | (exact absurd hrs.out hP) | skip)
      have hrow := RowI.made (B := w2.heap.size) (w := w2) (Nat.le_refl _)
      have hxr : Ext w2 (w2.alloc (.cells #[] 2)) := (Ext.refl w2).alloc _
      have hw2z := hx02.below.size
      go_upto_region 8 with (fail)
      generalize w2.alloc (.cells #[] 2) = w3 at *
      replace hP := Lib.hid hP
      clear q0 q1 q2 ql
      go_loopw [6, 7] (fun v i wr => ∃ j : Nat, j ≤ xs.length ∧ i = .int .i64 j ∧ RowI w2.heap.size wr v (pixJ xs j) ∧ Ext w2 wr) (fun _ i _ => xs.length - (intOf i).toNat)
      case atStart => exact ⟨0, Nat.zero_le _, rfl, hrow, hxr⟩
      case round =>
        clear hrow hxr
        obtain ⟨j, hj, rfl, hown, hext⟩ := hrel
        have hAr := hA.ext hext
        have q0 := hAr.cell (i := 0) (v := .int .i64 R) rfl; have q1 := hAr.cell (i := 1) (v := .int .i64 C) rfl; have q2 := hAr.cell (i := 2) (v := .slice p1 xs.length k1) rfl; have ql := hAr.lt
        by_cases hlt : j < xs.length
        · have hji : (j : Int) < xs.length := by omega
          obtain ⟨b, o, rfl, hbl, y⟩ := (hi1.out.ext hext) j hlt
          have hxj := z1_at hz.out hlt
          have hps := Lib.hid (pixJ_succ hlt)
          have hpl := pixJ_len (Nat.le_of_lt hlt)
          generalize xs.getD j 0 = x at *
          have e1 := IntWalk.i64_in (1 - x) (by rcases hxj with h | h <;> omega)
          have e2 := IntWalk.i64_in ((1 - x) * 255) (by rcases hxj with h | h <;> omega)
          generalize pixJ xs j = L at *
          replace hxj := Lib.hid hxj
          have hBj := hext.below.size
          go_wp2_with (at_builtin; go_loud (refine append1IG hown (by omega) (by first | exact hBj | (simp; omega)) ?_ rfl rfl); intro v4 w4 hown4 hg4)
          go_roundw
          case rel => exact ⟨j + 1, hlt, by go_num, by rw [hps.out, Int.mul_comm]; exact hown4, hg4.toExt hext (fun q hq => (hown.lt q hq).1)⟩
          case measure => simp [intOf]; omega
        · obtain rfl : j = xs.length := by omega
          have hbr := hb2.ext hext
          have z0 := hbr.cell (i := 0) (v := .int .i64 0) rfl; have z1 := hbr.cell (i := 1) (v := .int .i64 0) rfl; have z2 := hbr.cell (i := 2) (v := .slice none 0 0) rfl; have zl := hbr.lt; have zf := hbr.free
          obtain ⟨L, hL⟩ : ∃ L, pixJ xs xs.length = L := ⟨_, rfl⟩
          rw [hL] at hown
          replace hL := Lib.hid hL
          obtain ⟨p3, k3, rfl, -⟩ := hown.ownC
          go_wp2
          have hF := hbr.rs R C (.slice p3 L.length k3)
          have hx9 := (hx02.trans hext).rs (g := w.heap.size) (Nat.le_refl _) R C (.slice p3 L.length k3)
          have hlo3 : ∀ k, (Value.slice p3 L.length k3).ownBlock = some k → k ≠ w.heap.size := fun k hk => by have := (hown.lt k hk).1; have := hb2.lt; omega
          have hown9 := ((hown.setOther (g := w.heap.size) (i := 0) (u := .int .i64 R) (fun e => hlo3 _ e rfl)).setOther (g := w.heap.size) (i := 1) (u := .int .i64 C) (fun e => hlo3 _ e rfl)).setOther (g := w.heap.size) (i := 2) (u := .slice p3 L.length k3) (fun e => hlo3 _ e rfl)
          obtain ⟨p9, c9, e9, hq9⟩ := hown9.own
          obtain ⟨rfl, rfl⟩ : p3 = p9 ∧ k3 = c9 := by simp at e9; exact e9
          have hq9 := Lib.hid (hq9.mono hw2z)
          have c0 := hF.cell (i := 0) (v := .int .i64 R) rfl; have c1 := hF.cell (i := 1) (v := .int .i64 C) rfl; have c2 := hF.cell (i := 2) (v := .slice p3 L.length k3) rfl
          clear e9 hown9
          unfold setRs at c0 c1 c2 hx9
          clear z0 z1 z2 zl zf
          have hVe : V = ((R : Int), (C : Int), L, 0) := by rw [← hV.out, if_neg (by simp), if_neg (fun h => by exact h hrs.out), hL.out]
          have hVe := Lib.hid hVe
          exact bodyPost_ret (v := .tuple #[vRasJ R C p3 L.length k3, .int .i64 0]) (by simp [results, Tryz.results15, go_sem, c0, c1, c2]) rfl ⟨⟨p3, k3, by rw [hVe.out], by rw [hVe.out]; exact hq9.out⟩, hx9⟩
    · have hV3 := Lib.hid (fun W => show JrE w.heap.size V (.returned (.tuple #[vRasJ 0 0 none 0 0, .int .i64 3])) W from ⟨none, 0, by rw [← hV.out, if_neg (by simp), if_pos hrs]; rfl, by rw [← hV.out, if_neg (by simp), if_pos hrs]; exact OwnInts.nil _ _ _⟩)
      replace hrs := Lib.hid hrs
      go_upto_region 5 with (go_at_call 40; (with_reducible refine (sRasSizeJ_c _ _ _).mono ?_); rintro e w3 ⟨⟨hP, rfl⟩ | ⟨hP, rfl⟩, rfl⟩ <;> first | (exact absurd hP hrs.out) | skip)
      have z0 := hb2.cell (i := 0) (v := .int .i64 0) rfl; have z1 := hb2.cell (i := 1) (v := .int .i64 0) rfl; have z2 := hb2.cell (i := 2) (v := .slice none 0 0) rfl; have zl := hb2.lt; have zf := hb2.free
      go_wp2
      have hF := hb2.rs 0 0 (.slice none 0 0)
      have c0 := hF.cell (i := 0) (v := .int .i64 0) rfl; have c1 := hF.cell (i := 1) (v := .int .i64 0) rfl; have c2 := hF.cell (i := 2) (v := .slice none 0 0) rfl
      have hx9 := hx02.rs (g := w.heap.size) (Nat.le_refl _) 0 0 (.slice none 0 0)
      unfold setRs at c0 c1 c2 hx9
      clear z0 z1 z2 zl zf
      exact bodyPost_ret (v := .tuple #[vRasJ 0 0 none 0 0, .int .i64 3]) (by simp [results, Tryz.results15, go_sem, c0, c1, c2]) rfl ⟨hV3.out _, hx9⟩
end Go.Proofs.YthpnkcamjcohgaaGreatDoor
