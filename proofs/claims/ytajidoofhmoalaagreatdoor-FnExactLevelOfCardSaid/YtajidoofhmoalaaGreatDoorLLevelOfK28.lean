/- The layout of a symbol, on both sides. -/
import Derived.Test.YtajidoofhmoalaaGreatDoorLLevelOfK27
import Derived.Test.YtajidoofhmoalaaGreatDoorLLevelOfK15
set_option linter.unusedVariables false
set_option linter.unusedSimpArgs false
namespace Go.Proofs.YtajidoofhmoalaaGreatDoor
open Go.RowKit

abbrev lay6 (a0 a1 a2 a3 a4 a5 : Int) : Array Value := #[.int .i64 a0, .int .i64 a1, .int .i64 a2, .int .i64 a3, .int .i64 a4, .int .i64 a5]
set_option maxRecDepth 100000 in
theorem sIndex_c (p : Option Addr) (k : Nat) (n : Int) (xs : List Int) (w : World) (hx : IntsAt w p xs) (hl : xs.length ≤ 1048576) :
    Calls Tryz.prog 204 #[.slice p xs.length k, .int .i64 n] w fun e w' => ∃ r : Int, e = .returned (.int .i64 r) ∧ (0 ≤ r ↔ n ∈ xs) ∧ w = w' := by
  have HX := Lib.hid hx; clear hx
  go_enter Tryz.func204, Tryz.ntmps204
  go_wp2
  go_loop [8] (fun i => ∃ j : Nat, j ≤ xs.length ∧ i = .int .i64 j ∧ Hid (¬ n ∈ xs.take j)) (fun i => xs.length - (intOf i).toNat)
  case atStart => exact ⟨0, Nat.zero_le _, rfl, Lib.hid (by simp)⟩
  case round =>
    obtain ⟨j, hj, rfl, hT⟩ := hrel
    by_cases hlt : j < xs.length
    · obtain ⟨b, o, rfl, hbl, z1⟩ := HX.out j hlt
      have hst : xs.getD j 0 ≠ n → ¬ n ∈ xs.take (j + 1) := fun h => by
        have := take_all (P := fun x => x ≠ n) hlt (fun x hm e => hT.out (by rw [← e]; exact hm)) h
        exact fun hm => this n hm rfl
      have hat : xs.getD j 0 = n → n ∈ xs := fun h => by
        rw [← h, List.getD_eq_getElem?_getD, List.getElem?_eq_getElem hlt]
        exact List.getElem_mem _
      generalize xs.getD j 0 = x at *
      have hst := Lib.hid hst
      have hat := Lib.hid hat
      by_cases h0 : n = x
      · have hd : (n == x) = true := by simpa using h0
        replace h0 := Lib.hid h0
        go_wp2
        go_ret
        exact ⟨j, rfl, ⟨fun _ => hat.out h0.out.symm, fun _ => by omega⟩, rfl⟩
      · have hd : (n == x) = false := by simpa using h0
        replace h0 := Lib.hid h0
        go_wp2
        go_round
        case rel => exact ⟨j + 1, hlt, by go_num, Lib.hid (hst.out (fun e => h0.out e.symm))⟩
        case measure => simp [intOf]; omega
    · obtain rfl : j = xs.length := by omega
      go_wp2
      go_ret
      exact ⟨-1, rfl, ⟨fun h => absurd h (by decide), fun h => absurd (by rwa [List.take_length]) hT.out⟩, rfl⟩
set_option maxRecDepth 100000 in
theorem sContains_c (p : Option Addr) (k : Nat) (n : Int) (xs : List Int) (w : World) (hx : IntsAt w p xs) (hl : xs.length ≤ 1048576) :
    Calls Tryz.prog 173 #[.slice p xs.length k, .int .i64 n] w fun e w' => isB e (n ∈ xs) ∧ w = w' := by
  have hin := Lib.hid (sIndex_c p k n xs w hx hl)
  clear hx
  go_enter Tryz.func173, Tryz.ntmps173
  go_wp2_with (go_at_call 204; (with_reducible refine hin.out.mono ?_); rintro e w1 ⟨r, rfl, hr, rfl⟩; replace hr := Lib.hid hr)
  go_ret
  exact ⟨isB_m (by rw [← hr.out]; simp), rfl⟩
set_option maxRecDepth 100000 in
theorem hasSize_c (nm : ByteArray) (K p k q co : Int) (ps pl : Option Addr) (cs nl cl : Nat) (ss : List Int) (n : Int) (w : World) (hs : IntsAt w ps ss) (hl1 : ss.length ≤ 1048576) :
    Calls Tryz.prog 128 #[vFam nm K p k q ps ss.length cs co pl nl cl, .int .i64 n] w fun e w' => isB e (n ∈ ss) ∧ Ext w w' := by
  have hx0 : Ext w (w.alloc (.cells #[.string nm, .int .i64 K, .int .i64 p, .int .i64 k, .int .i64 q, .slice ps ss.length cs, .int .i64 co, .slice pl nl cl] 35)) := (Ext.refl w).alloc _
  have hc := Lib.hid (sContains_c ps cs n ss _ (hs.ext hx0) hl1)
  clear hs
  go_enter Tryz.func128, Tryz.ntmps128
  go_wp2_with (go_at_call 173; (with_reducible refine hc.out.mono ?_); rintro e w1 ⟨⟨hP, rfl⟩ | ⟨hP, rfl⟩, rfl⟩)
  · go_ret
    exact ⟨isB_t hP, hx0⟩
  · go_ret
    exact ⟨isB_f hP, hx0⟩
end Go.Proofs.YtajidoofhmoalaaGreatDoor

namespace Go.Proofs.YtajidoofhmoalaaGreatDoor
open Go.RowKit

end Go.Proofs.YtajidoofhmoalaaGreatDoor

namespace Go.Proofs.YtajidoofhmoalaaGreatDoor
open Go.RowKit

set_option maxRecDepth 100000 in
theorem sz_c (p : Option Addr) (k n : Nat) (L : Int) (w : World) (hL : 0 ≤ L ∧ L ≤ 1048576) (hn : n ≤ 9223372036854775807) :
    Calls Tryz.prog 31 #[.slice p n k, .int .i64 L] w fun e w' => e = .returned (.int .i64 (if (n : Int) ≤ L then L - n else -1)) ∧ w = w' := by
  by_cases h : (n : Int) ≤ L
  · rw [if_pos h]
    have h2 : ¬ L - (n : Int) < 0 := by omega
    go_enter Tryz.func31, Tryz.ntmps31
    go_wp2
    go_ret
    exact ⟨rfl, rfl⟩
  · rw [if_neg h]
    have h2 : L - (n : Int) < 0 := by omega
    go_enter Tryz.func31, Tryz.ntmps31
    go_wp2
    go_ret
    exact ⟨rfl, rfl⟩
set_option maxRecDepth 100000 in
theorem toFieldF_c (p k q : Int) (w : World) :
    Calls Tryz.prog 35 #[vFld p k q] w fun e w' => e = .returned (vFld p k q) ∧ Ext w w' := by
  go_enter Tryz.func35, Tryz.ntmps35
  go_wp2
  exact bodyPost_ret (v := vFld p k q) (by simp [results, Tryz.results35, go_sem]) rfl ⟨rfl, (by repeat (first | exact Ext.refl _ | assumption | refine Ext.drew ?_ | refine Ext.drewN ?_ _ | refine Ext.iter ?_ _ _ | refine Ext.alloc ?_ _ | refine Ext.setCell ?_ (by first | exact Nat.le_refl _ | (simp <;> omega)) _ | refine Ext.trans2 (by assumption) ?_))⟩
set_option maxHeartbeats 800000 in
set_option maxRecDepth 100000 in
theorem eqFieldF_c (p k q : Int) (w : World) :
    Calls Tryz.prog 41 #[vFld p k q, vFld p k q] w fun e w' => e = .returned (.bool true) ∧ Ext w w' := by
  go_enter Tryz.func41, Tryz.ntmps41
  go_wp2
  go_ret
  exact ⟨rfl, (by repeat (first | exact Ext.refl _ | assumption | refine Ext.drew ?_ | refine Ext.drewN ?_ _ | refine Ext.iter ?_ _ _ | refine Ext.alloc ?_ _ | refine Ext.setCell ?_ (by first | exact Nat.le_refl _ | (simp <;> omega)) _ | refine Ext.trans2 (by assumption) ?_))⟩
set_option maxHeartbeats 800000 in
set_option maxRecDepth 100000 in
theorem eqFamily_c (nm : ByteArray) (K p k q co : Int) (ps pl ps' pl' : Option Addr) (cs cl cs' cl' : Nat) (ss ls : List Int) (w : World) (h1 : IntsAt w ps ss) (h2 : IntsAt w pl ls) (h3 : IntsAt w ps' ss) (h4 : IntsAt w pl' ls) (hl1 : ss.length ≤ 1048576) (hl2 : ls.length ≤ 1048576) :
    Calls Tryz.prog 14 #[vFam nm K p k q ps ss.length cs co pl ls.length cl, vFam nm K p k q ps' ss.length cs' co pl' ls.length cl'] w fun e w' => e = .returned (.bool true) ∧ Ext w w' := by
  have H1 := Lib.hid h1; have H2 := Lib.hid h2; have H3 := Lib.hid h3; have H4 := Lib.hid h4; clear h1 h2 h3 h4
  have hq : ∀ (a b : Option Addr) (i j : Nat) (xs : List Int) W, xs.length ≤ 1048576 → IntsAt W a xs → IntsAt W b xs → Calls Tryz.prog 26 #[.slice a xs.length i, .slice b xs.length j] W fun e w' => e = .returned (.bool true) ∧ ∃ n, w' = W.drewN n := fun a b i j xs W hl h1 h2 => (eqInt64S_c a b i j xs xs W h1 h2 (by omega) (by omega)).mono fun e w' h => by
    rcases h with ⟨⟨_, h⟩ | ⟨h, _⟩, n, hn⟩
    · exact ⟨h, n, hn⟩
    · exact absurd rfl h
  have q1 := Lib.hid (fun W (h1 : IntsAt W ps ss) (h2 : IntsAt W ps' ss) => hq ps ps' cs cs' ss W hl1 h1 h2)
  have q2 := Lib.hid (fun W (h1 : IntsAt W pl ls) (h2 : IntsAt W pl' ls) => hq pl pl' cl cl' ls W hl2 h1 h2)
  clear hq
  have hA := (Blk.new w #[.string nm, .int .i64 K, .int .i64 p, .int .i64 k, .int .i64 q, .slice ps ss.length cs, .int .i64 co, .slice pl ls.length cl] 35).alloc (.cells #[.string nm, .int .i64 K, .int .i64 p, .int .i64 k, .int .i64 q, .slice ps' ss.length cs', .int .i64 co, .slice pl' ls.length cl'] 35)
  have hB := Blk.new (w.alloc (.cells #[.string nm, .int .i64 K, .int .i64 p, .int .i64 k, .int .i64 q, .slice ps ss.length cs, .int .i64 co, .slice pl ls.length cl] 35)) #[.string nm, .int .i64 K, .int .i64 p, .int .i64 k, .int .i64 q, .slice ps' ss.length cs', .int .i64 co, .slice pl' ls.length cl'] 35
  have hx0 : Ext w ((w.alloc (.cells #[.string nm, .int .i64 K, .int .i64 p, .int .i64 k, .int .i64 q, .slice ps ss.length cs, .int .i64 co, .slice pl ls.length cl] 35)).alloc (.cells #[.string nm, .int .i64 K, .int .i64 p, .int .i64 k, .int .i64 q, .slice ps' ss.length cs', .int .i64 co, .slice pl' ls.length cl'] 35)) := ((Ext.refl w).alloc _).alloc _
  simp only [World.size_alloc] at hB
  go_enter Tryz.func14, Tryz.ntmps14
  go_wp2_with (first
    | (go_at_call 41; (with_reducible refine (eqFieldF_c _ _ _ _).mono ?_); rintro e w1 ⟨rfl, hx1⟩; have hA1 := hA.ext hx1; have hB1 := hB.ext hx1; have a5 := hA1.cell (i := 5) (v := .slice ps ss.length cs) rfl; have a6 := hA1.cell (i := 6) (v := .int .i64 co) rfl; have a7 := hA1.cell (i := 7) (v := .slice pl ls.length cl) rfl; have aL := hA1.lt; have b5 := hB1.cell (i := 5) (v := .slice ps' ss.length cs') rfl; have b6 := hB1.cell (i := 6) (v := .int .i64 co) rfl; have b7 := hB1.cell (i := 7) (v := .slice pl' ls.length cl') rfl; have bL := hB1.lt)
    | (go_at_call 26; (with_reducible refine (q1.out _ (H1.out.ext (hx0.trans (by repeat (first | exact Ext.refl _ | assumption | refine Ext.drew ?_ | refine Ext.drewN ?_ _ | refine Ext.iter ?_ _ _ | refine Ext.alloc ?_ _ | refine Ext.setCell ?_ (by first | exact Nat.le_refl _ | (simp <;> omega)) _ | refine Ext.trans2 (by assumption) ?_)))) (H3.out.ext (hx0.trans (by repeat (first | exact Ext.refl _ | assumption | refine Ext.drew ?_ | refine Ext.drewN ?_ _ | refine Ext.iter ?_ _ _ | refine Ext.alloc ?_ _ | refine Ext.setCell ?_ (by first | exact Nat.le_refl _ | (simp <;> omega)) _ | refine Ext.trans2 (by assumption) ?_))))).mono ?_); rintro e w2 ⟨rfl, n2, rfl⟩)
    | (go_at_call 26; (with_reducible refine (q2.out _ (H2.out.ext (hx0.trans (by repeat (first | exact Ext.refl _ | assumption | refine Ext.drew ?_ | refine Ext.drewN ?_ _ | refine Ext.iter ?_ _ _ | refine Ext.alloc ?_ _ | refine Ext.setCell ?_ (by first | exact Nat.le_refl _ | (simp <;> omega)) _ | refine Ext.trans2 (by assumption) ?_)))) (H4.out.ext (hx0.trans (by repeat (first | exact Ext.refl _ | assumption | refine Ext.drew ?_ | refine Ext.drewN ?_ _ | refine Ext.iter ?_ _ _ | refine Ext.alloc ?_ _ | refine Ext.setCell ?_ (by first | exact Nat.le_refl _ | (simp <;> omega)) _ | refine Ext.trans2 (by assumption) ?_))))).mono ?_); rintro e w2 ⟨rfl, n3, rfl⟩))
  go_ret
  exact ⟨rfl, hx0.trans (by repeat (first | exact Ext.refl _ | assumption | refine Ext.drew ?_ | refine Ext.drewN ?_ _ | refine Ext.iter ?_ _ _ | refine Ext.alloc ?_ _ | refine Ext.setCell ?_ (by first | exact Nat.le_refl _ | (simp <;> omega)) _ | refine Ext.trans2 (by assumption) ?_))⟩
def setFam (w : World) (g : Nat) (v0 v1 v2 v3 v4 v5 v6 v7 : Value) : World :=
  (((((((w.setCell ⟨g, 0, none⟩ v0).setCell ⟨g, 1, none⟩ v1).setCell ⟨g, 2, none⟩ v2).setCell ⟨g, 3, none⟩ v3).setCell ⟨g, 4, none⟩ v4).setCell ⟨g, 5, none⟩ v5).setCell ⟨g, 6, none⟩ v6).setCell ⟨g, 7, none⟩ v7
theorem Blk.fam {w : World} {g : Nat} {b0 b1 b2 b3 b4 b5 b6 b7 : Value} {t : TypeId} (h : Blk w g #[b0, b1, b2, b3, b4, b5, b6, b7] t) (v0 v1 v2 v3 v4 v5 v6 v7 : Value) : Blk (setFam w g v0 v1 v2 v3 v4 v5 v6 v7) g #[v0, v1, v2, v3, v4, v5, v6, v7] t := by
  have h0 : Blk (w.setCell ⟨g, 0, none⟩ v0) g #[v0, b1, b2, b3, b4, b5, b6, b7] t := h.set 0 v0
  have h1 : Blk ((w.setCell ⟨g, 0, none⟩ v0).setCell ⟨g, 1, none⟩ v1) g #[v0, v1, b2, b3, b4, b5, b6, b7] t := h0.set 1 v1
  have h2 : Blk (((w.setCell ⟨g, 0, none⟩ v0).setCell ⟨g, 1, none⟩ v1).setCell ⟨g, 2, none⟩ v2) g #[v0, v1, v2, b3, b4, b5, b6, b7] t := h1.set 2 v2
  have h3 : Blk ((((w.setCell ⟨g, 0, none⟩ v0).setCell ⟨g, 1, none⟩ v1).setCell ⟨g, 2, none⟩ v2).setCell ⟨g, 3, none⟩ v3) g #[v0, v1, v2, v3, b4, b5, b6, b7] t := h2.set 3 v3
  have h4 : Blk (((((w.setCell ⟨g, 0, none⟩ v0).setCell ⟨g, 1, none⟩ v1).setCell ⟨g, 2, none⟩ v2).setCell ⟨g, 3, none⟩ v3).setCell ⟨g, 4, none⟩ v4) g #[v0, v1, v2, v3, v4, b5, b6, b7] t := h3.set 4 v4
  have h5 : Blk ((((((w.setCell ⟨g, 0, none⟩ v0).setCell ⟨g, 1, none⟩ v1).setCell ⟨g, 2, none⟩ v2).setCell ⟨g, 3, none⟩ v3).setCell ⟨g, 4, none⟩ v4).setCell ⟨g, 5, none⟩ v5) g #[v0, v1, v2, v3, v4, v5, b6, b7] t := h4.set 5 v5
  have h6 : Blk (((((((w.setCell ⟨g, 0, none⟩ v0).setCell ⟨g, 1, none⟩ v1).setCell ⟨g, 2, none⟩ v2).setCell ⟨g, 3, none⟩ v3).setCell ⟨g, 4, none⟩ v4).setCell ⟨g, 5, none⟩ v5).setCell ⟨g, 6, none⟩ v6) g #[v0, v1, v2, v3, v4, v5, v6, b7] t := h5.set 6 v6
  have h7 : Blk ((((((((w.setCell ⟨g, 0, none⟩ v0).setCell ⟨g, 1, none⟩ v1).setCell ⟨g, 2, none⟩ v2).setCell ⟨g, 3, none⟩ v3).setCell ⟨g, 4, none⟩ v4).setCell ⟨g, 5, none⟩ v5).setCell ⟨g, 6, none⟩ v6).setCell ⟨g, 7, none⟩ v7) g #[v0, v1, v2, v3, v4, v5, v6, v7] t := h6.set 7 v7
  exact h7
theorem Ext.fam {a w : World} (h : Ext a w) {g : Nat} (hg : a.heap.size ≤ g) (v0 v1 v2 v3 v4 v5 v6 v7 : Value) : Ext a (setFam w g v0 v1 v2 v3 v4 v5 v6 v7) :=
  (((((((h.setCell (p := ⟨g, 0, none⟩) hg _).setCell (p := ⟨g, 1, none⟩) hg _).setCell (p := ⟨g, 2, none⟩) hg _).setCell (p := ⟨g, 3, none⟩) hg _).setCell (p := ⟨g, 4, none⟩) hg _).setCell (p := ⟨g, 5, none⟩) hg _).setCell (p := ⟨g, 6, none⟩) hg _).setCell (p := ⟨g, 7, none⟩) hg _
theorem IntsAt.farN {w : World} {q : Option Addr} {xs : List Int} {w' : World} {g : Nat} (h : IntsAt w q xs) (hb : But g w w') (hne : ∀ b o, 0 < xs.length → q = some ⟨b, o, none⟩ → b ≠ g) : IntsAt w' q xs := fun i hi => by
  obtain ⟨b, o, h1, h2, h3⟩ := h i hi
  obtain ⟨hc, hf, hk, _⟩ := bucell hb
  exact ⟨b, o, h1, hk _ h2, by rw [hc _ _ h2 (hne b o (by omega) h1)]; exact h3⟩
theorem But.fam (w : World) (g : Nat) (v0 v1 v2 v3 v4 v5 v6 v7 : Value) : But g w (setFam w g v0 v1 v2 v3 v4 v5 v6 v7) := by
  unfold setFam
  exact (((((((But.set w g 0 _).setG _).setG _).setG _).setG _).setG _).setG _).setG _
set_option maxHeartbeats 3200000 in
set_option maxRecDepth 100000 in
theorem toFamily_c (nm : ByteArray) (K p k q co : Int) (ps pl : Option Addr) (cs cl : Nat) (ss ls : List Int) (w : World) (h1 : IntsAt w ps ss) (h2 : IntsAt w pl ls) (hl1 : ss.length ≤ 1048576) (hl2 : ls.length ≤ 1048576) :
    Calls Tryz.prog 11 #[vFam nm K p k q ps ss.length cs co pl ls.length cl] w fun e w' => (∃ ps' pl', e = .returned (vFam nm K p k q ps' ss.length ss.length co pl' ls.length ls.length) ∧ IntsAt w' ps' ss ∧ IntsAt w' pl' ls) ∧ Ext w w' := by
  have H1 := Lib.hid h1; have H2 := Lib.hid h2; clear h1 h2
  have t1 := Lib.hid (fun W (h : IntsAt W ps ss) => toInt64S_c ps cs ss W h hl1)
  have t2 := Lib.hid (fun W (h : IntsAt W pl ls) => toInt64S_c pl cl ls W h hl2)
  have hA := ((Blk.new w #[.string nm, .int .i64 K, .int .i64 p, .int .i64 k, .int .i64 q, .slice ps ss.length cs, .int .i64 co, .slice pl ls.length cl] 26).alloc (.cells #[.string ⟨#[]⟩, .int .i64 0, .int .i64 0, .int .i64 0, .int .i64 0, .slice none 0 0, .int .i64 0, .slice none 0 0] 35)).alloc (.cells #[.string nm, .int .i64 K, .int .i64 0, .int .i64 0, .int .i64 0, .slice none 0 0, .int .i64 0, .slice none 0 0] 35)
  have hR := (Blk.new (w.alloc (.cells #[.string nm, .int .i64 K, .int .i64 p, .int .i64 k, .int .i64 q, .slice ps ss.length cs, .int .i64 co, .slice pl ls.length cl] 26)) #[.string ⟨#[]⟩, .int .i64 0, .int .i64 0, .int .i64 0, .int .i64 0, .slice none 0 0, .int .i64 0, .slice none 0 0] 35).alloc (.cells #[.string nm, .int .i64 K, .int .i64 0, .int .i64 0, .int .i64 0, .slice none 0 0, .int .i64 0, .slice none 0 0] 35)
  have hO := Blk.new ((w.alloc (.cells #[.string nm, .int .i64 K, .int .i64 p, .int .i64 k, .int .i64 q, .slice ps ss.length cs, .int .i64 co, .slice pl ls.length cl] 26)).alloc (.cells #[.string ⟨#[]⟩, .int .i64 0, .int .i64 0, .int .i64 0, .int .i64 0, .slice none 0 0, .int .i64 0, .slice none 0 0] 35)) #[.string nm, .int .i64 K, .int .i64 0, .int .i64 0, .int .i64 0, .slice none 0 0, .int .i64 0, .slice none 0 0] 35
  have hx0 := (((Ext.refl w).alloc (.cells #[.string nm, .int .i64 K, .int .i64 p, .int .i64 k, .int .i64 q, .slice ps ss.length cs, .int .i64 co, .slice pl ls.length cl] 26)).alloc (.cells #[.string ⟨#[]⟩, .int .i64 0, .int .i64 0, .int .i64 0, .int .i64 0, .slice none 0 0, .int .i64 0, .slice none 0 0] 35)).alloc (.cells #[.string nm, .int .i64 K, .int .i64 0, .int .i64 0, .int .i64 0, .slice none 0 0, .int .i64 0, .slice none 0 0] 35)
  simp only [World.size_alloc] at hR hO
  go_enter Tryz.func11, Tryz.ntmps11
  go_upto_region 4 with (fail)
  generalize ((w.alloc (.cells #[.string nm, .int .i64 K, .int .i64 p, .int .i64 k, .int .i64 q, .slice ps ss.length cs, .int .i64 co, .slice pl ls.length cl] 26)).alloc (.cells #[.string ⟨#[]⟩, .int .i64 0, .int .i64 0, .int .i64 0, .int .i64 0, .slice none 0 0, .int .i64 0, .slice none 0 0] 35)).alloc (.cells #[.string nm, .int .i64 K, .int .i64 0, .int .i64 0, .int .i64 0, .slice none 0 0, .int .i64 0, .slice none 0 0] 35) = w0 at *
  have hz0 := hO.lt
  have nAO : w.heap.size ≠ w.heap.size + 1 + 1 := by omega
  have nRO : w.heap.size + 1 ≠ w.heap.size + 1 + 1 := by omega
  have bA : w.heap.size ≤ w.heap.size := by omega
  have bR : w.heap.size ≤ w.heap.size + 1 := by omega
  have bO : w.heap.size ≤ w.heap.size + 1 + 1 := by omega
  have a2 := hA.cell (i := 2) (v := .int .i64 p) rfl; have a3 := hA.cell (i := 3) (v := .int .i64 k) rfl; have a4 := hA.cell (i := 4) (v := .int .i64 q) rfl; have aL := hA.lt
  go_upto_region 5 with (go_at_call 35; (with_reducible refine (toFieldF_c _ _ _ _).mono ?_); rintro e w1 ⟨rfl, hx1⟩; have hO1 := hO.ext hx1; have o2 := hO1.cell (i := 2) (v := .int .i64 0) rfl; have o3 := hO1.cell (i := 3) (v := .int .i64 0) rfl; have o4 := hO1.cell (i := 4) (v := .int .i64 0) rfl; have ol := hO1.lt; have of := hO1.free)
  clear a2 a3 a4 aL
  have hB1 : But (w.heap.size + 1 + 1) w1 (((w1.setCell ⟨w.heap.size + 1 + 1, 2, none⟩ (.int .i64 p)).setCell ⟨w.heap.size + 1 + 1, 3, none⟩ (.int .i64 k)).setCell ⟨w.heap.size + 1 + 1, 4, none⟩ (.int .i64 q)) := ((But.set w1 (w.heap.size + 1 + 1) 2 _).setG _).setG _
  have hx2 := (((hx0.trans hx1).setCell (p := ⟨w.heap.size + 1 + 1, 2, none⟩) bO (.int .i64 p)).setCell (p := ⟨w.heap.size + 1 + 1, 3, none⟩) bO (.int .i64 k)).setCell (p := ⟨w.heap.size + 1 + 1, 4, none⟩) bO (.int .i64 q)
  have hO2 : Blk (((w1.setCell ⟨w.heap.size + 1 + 1, 2, none⟩ (.int .i64 p)).setCell ⟨w.heap.size + 1 + 1, 3, none⟩ (.int .i64 k)).setCell ⟨w.heap.size + 1 + 1, 4, none⟩ (.int .i64 q)) (w.heap.size + 1 + 1) #[.string nm, .int .i64 K, .int .i64 p, .int .i64 k, .int .i64 q, .slice none 0 0, .int .i64 0, .slice none 0 0] 35 := ((hO1.set 2 (.int .i64 p)).set 3 (.int .i64 k)).set 4 (.int .i64 q)
  have hA2 := (hA.ext hx1).but hB1 nAO
  have hR2 := (hR.ext hx1).but hB1 nRO
  clear hO hO1 hA hR o2 o3 o4 ol of hB1 hx0 hx1
  generalize ((w1.setCell ⟨w.heap.size + 1 + 1, 2, none⟩ (.int .i64 p)).setCell ⟨w.heap.size + 1 + 1, 3, none⟩ (.int .i64 k)).setCell ⟨w.heap.size + 1 + 1, 4, none⟩ (.int .i64 q) = w2 at *
  have a5 := hA2.cell (i := 5) (v := .slice ps ss.length cs) rfl; have aL := hA2.lt
  go_upto_region 6 with (go_at_call 36; (with_reducible refine (t1.out _ (H1.out.ext hx2)).mono ?_); rintro e w3 ⟨⟨qs, rfl, oqs⟩, hx3⟩; have hO3 := hO2.ext hx3; have o5 := hO3.cell (i := 5) (v := .slice none 0 0) rfl; have ol := hO3.lt; have of := hO3.free)
  clear a5 aL
  have hB3 : But (w.heap.size + 1 + 1) w3 (w3.setCell ⟨w.heap.size + 1 + 1, 5, none⟩ (.slice qs ss.length ss.length)) := But.set w3 (w.heap.size + 1 + 1) 5 _
  have hx4 := (hx2.trans hx3).setCell (p := ⟨w.heap.size + 1 + 1, 5, none⟩) bO (.slice qs ss.length ss.length)
  have hz2 := hO2.lt
  have hns : ∀ b o, 0 < ss.length → qs = some ⟨b, o, none⟩ → b ≠ w.heap.size + 1 ∧ b ≠ w.heap.size + 1 + 1 := fun b o hn e => by have := oqs.lt0 (fun h => by rw [h] at hn; exact absurd hn (by simp)) e; omega
  have oqs := Lib.hid (oqs.setFar (g := w.heap.size + 1 + 1) (i := 5) (v := .slice qs ss.length ss.length) hz2).ints
  have hO4 : Blk _ (w.heap.size + 1 + 1) #[.string nm, .int .i64 K, .int .i64 p, .int .i64 k, .int .i64 q, .slice qs ss.length ss.length, .int .i64 0, .slice none 0 0] 35 := hO3.set 5 (.slice qs ss.length ss.length)
  have hA4 := (hA2.ext hx3).but hB3 nAO
  have hR4 := (hR2.ext hx3).but hB3 nRO
  clear hO2 hO3 hA2 hR2 o5 ol of hB3 hx2 hx3
  generalize w3.setCell ⟨w.heap.size + 1 + 1, 5, none⟩ (.slice qs ss.length ss.length) = w4 at *
  have a4 := hA4.cell (i := 6) (v := .int .i64 co) rfl; have aL := hA4.lt; have a7 := hA4.cell (i := 7) (v := .slice pl ls.length cl) rfl
  have o6 := hO4.cell (i := 6) (v := .int .i64 0) rfl; have ol := hO4.lt; have of := hO4.free
  go_upto_region 7 with (fail)
  have hB5 : But (w.heap.size + 1 + 1) w4 (w4.setCell ⟨w.heap.size + 1 + 1, 6, none⟩ (.int .i64 co)) := But.set w4 (w.heap.size + 1 + 1) 6 _
  have hx5 := hx4.setCell (p := ⟨w.heap.size + 1 + 1, 6, none⟩) bO (.int .i64 co)
  have hO5 : Blk _ (w.heap.size + 1 + 1) #[.string nm, .int .i64 K, .int .i64 p, .int .i64 k, .int .i64 q, .slice qs ss.length ss.length, .int .i64 co, .slice none 0 0] 35 := hO4.set 6 (.int .i64 co)
  have hA5 := hA4.but hB5 nAO
  have hR5 := hR4.but hB5 nRO
  have oqs := Lib.hid (oqs.out.farN hB5 (fun b o hn e => (hns b o hn e).2))
  clear hO4 hA4 hR4 a4 aL a7 o6 ol of hB5 hx4
  generalize w4.setCell ⟨w.heap.size + 1 + 1, 6, none⟩ (.int .i64 co) = w5 at *
  have a7 := hA5.cell (i := 7) (v := .slice pl ls.length cl) rfl; have aL := hA5.lt
  go_upto_region 8 with (go_at_call 36; (with_reducible refine (t2.out _ (H2.out.ext hx5)).mono ?_); rintro e w6 ⟨⟨ql, rfl, oql⟩, hx6⟩; have hO6 := hO5.ext hx6; have o7 := hO6.cell (i := 7) (v := .slice none 0 0) rfl; have ol := hO6.lt; have of := hO6.free)
  clear a7 aL
  have hB6 : But (w.heap.size + 1 + 1) w6 (w6.setCell ⟨w.heap.size + 1 + 1, 7, none⟩ (.slice ql ls.length ls.length)) := But.set w6 (w.heap.size + 1 + 1) 7 _
  have hx7 := (hx5.trans hx6).setCell (p := ⟨w.heap.size + 1 + 1, 7, none⟩) bO (.slice ql ls.length ls.length)
  have hz5 := hO5.lt
  have oqs := Lib.hid ((oqs.out.ext hx6).farN hB6 (fun b o hn e => (hns b o hn e).2))
  have hnl : ∀ b o, 0 < ls.length → ql = some ⟨b, o, none⟩ → b ≠ w.heap.size + 1 ∧ b ≠ w.heap.size + 1 + 1 := fun b o hn e => by have := oql.lt0 (fun h => by rw [h] at hn; exact absurd hn (by simp)) e; omega
  have oql := Lib.hid (oql.setFar (g := w.heap.size + 1 + 1) (i := 7) (v := .slice ql ls.length ls.length) hz5).ints
  have hO7 : Blk _ (w.heap.size + 1 + 1) #[.string nm, .int .i64 K, .int .i64 p, .int .i64 k, .int .i64 q, .slice qs ss.length ss.length, .int .i64 co, .slice ql ls.length ls.length] 35 := hO6.set 7 (.slice ql ls.length ls.length)
  have hR7 := (hR5.ext hx6).but hB6 nRO
  clear hO5 hO6 hA5 hR5 o7 ol of hB6 hx5 hx6
  generalize w6.setCell ⟨w.heap.size + 1 + 1, 7, none⟩ (.slice ql ls.length ls.length) = w7 at *
  have o0 := hO7.cell (i := 0) (v := .string nm) rfl; have o1 := hO7.cell (i := 1) (v := .int .i64 K) rfl; have o2 := hO7.cell (i := 2) (v := .int .i64 p) rfl; have o3 := hO7.cell (i := 3) (v := .int .i64 k) rfl; have o4 := hO7.cell (i := 4) (v := .int .i64 q) rfl; have o5 := hO7.cell (i := 5) (v := .slice qs ss.length ss.length) rfl; have o6 := hO7.cell (i := 6) (v := .int .i64 co) rfl; have o7 := hO7.cell (i := 7) (v := .slice ql ls.length ls.length) rfl; have ol := hO7.lt
  have r0 := hR7.cell (i := 0) (v := .string ⟨#[]⟩) rfl; have r1 := hR7.cell (i := 1) (v := .int .i64 0) rfl; have r2 := hR7.cell (i := 2) (v := .int .i64 0) rfl; have r3 := hR7.cell (i := 3) (v := .int .i64 0) rfl; have r4 := hR7.cell (i := 4) (v := .int .i64 0) rfl; have r5 := hR7.cell (i := 5) (v := .slice none 0 0) rfl; have r6 := hR7.cell (i := 6) (v := .int .i64 0) rfl; have r7 := hR7.cell (i := 7) (v := .slice none 0 0) rfl; have rl := hR7.lt; have rf := hR7.free
  go_wp2_with fail
  have hF := hR7.fam (.string nm) (.int .i64 K) (.int .i64 p) (.int .i64 k) (.int .i64 q) (.slice qs ss.length ss.length) (.int .i64 co) (.slice ql ls.length ls.length)
  have hB9 := But.fam w7 (w.heap.size + 1) (.string nm) (.int .i64 K) (.int .i64 p) (.int .i64 k) (.int .i64 q) (.slice qs ss.length ss.length) (.int .i64 co) (.slice ql ls.length ls.length)
  have hx9 := hx7.fam bR (.string nm) (.int .i64 K) (.int .i64 p) (.int .i64 k) (.int .i64 q) (.slice qs ss.length ss.length) (.int .i64 co) (.slice ql ls.length ls.length)
  have oqs9 := oqs.out.farN hB9 (fun b o hn e => (hns b o hn e).1)
  have oql9 := oql.out.farN hB9 (fun b o hn e => (hnl b o hn e).1)
  have c0 := hF.cell (i := 0) (v := .string nm) rfl; have c1 := hF.cell (i := 1) (v := .int .i64 K) rfl; have c2 := hF.cell (i := 2) (v := .int .i64 p) rfl; have c3 := hF.cell (i := 3) (v := .int .i64 k) rfl; have c4 := hF.cell (i := 4) (v := .int .i64 q) rfl; have c5 := hF.cell (i := 5) (v := .slice qs ss.length ss.length) rfl; have c6 := hF.cell (i := 6) (v := .int .i64 co) rfl; have c7 := hF.cell (i := 7) (v := .slice ql ls.length ls.length) rfl
  unfold setFam at c0 c1 c2 c3 c4 c5 c6 c7 hx9 oqs9 oql9
  clear o0 o1 o2 o3 o4 o5 o6 o7 ol r0 r1 r2 r3 r4 r5 r6 r7 rl rf
  exact bodyPost_ret (v := vFam nm K p k q qs ss.length ss.length co ql ls.length ls.length) (by simp [results, Tryz.results11, go_sem, c0, c1, c2, c3, c4, c5, c6, c7]) rfl ⟨⟨qs, ql, rfl, oqs9, oql9⟩, hx9⟩
end Go.Proofs.YtajidoofhmoalaaGreatDoor
