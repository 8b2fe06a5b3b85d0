/- The level and the mask of a symbol: plain values. -/
import Derived.Test.YtojdediohjghnaaGreatDoorLSurvivesDamageK27
import Derived.Test.YtojdediohjghnaaGreatDoorLSurvivesDamageK28
import Derived.Test.YtojdediohjghnaaGreatDoorLSurvivesDamageK00
import Derived.LaidEql
import Derived.Stop.Asserts
import Derived.RowKitTokens
import Derived.Test.YtojdediohjghnaaGreatDoorLSurvivesDamageK02
set_option linter.unusedVariables false
set_option linter.unusedSimpArgs false
namespace Go.Proofs.YtojdediohjghnaaGreatDoor
open Go.RowKit

open Classical in
noncomputable def lvL (K r c : Int) (xs : List Int) (nl : Nat) : Int :=
 if K = 2 then topS (vtR xs c.toNat (rowN c.toNat) nl r.toNat) nl else if (rfV r c xs).2 = 0 then (rfV r c xs).1 / 8 else -1
noncomputable def lvM (K r c : Int) (xs : List Int) : Int := if K = 2 then 0 else (rfV r c xs).1 % 8
def lvG (K p k q co : Int) (ls : List Int) (r c : Int) (xs : List Int) : Prop :=
 (0 ≤ lvL K r c xs ls.length ∧ lvL K r c xs ls.length ≤ (ls.length : Int) - 1) ∧ layOK p k q (lyD K p k co r (ls.getD (lvL K r c xs ls.length).toNat 0)) (lyC K p k co r (ls.getD (lvL K r c xs ls.length).toNat 0)) (lyN K p k co r)
theorem lvL_st {K r c : Int} {xs : List Int} {nl : Nat} (h : K = 2) : lvL K r c xs nl = topS (vtR xs c.toNat (rowN c.toNat) nl r.toNat) nl := if_pos h
theorem lvL_mx {K r c : Int} {xs : List Int} {nl : Nat} (h : ¬ K = 2) (h0 : (rfV r c xs).2 = 0) : lvL K r c xs nl = (rfV r c xs).1 / 8 := by
 unfold lvL
 rw [if_neg h, if_pos h0]
theorem lvL_no {K r c : Int} {xs : List Int} {nl : Nat} (h : ¬ K = 2) (h0 : ¬ (rfV r c xs).2 = 0) : lvL K r c xs nl = -1 := by
 unfold lvL
 rw [if_neg h, if_neg h0]
theorem lvM_st {K r c : Int} {xs : List Int} (h : K = 2) : lvM K r c xs = 0 := if_pos h
theorem lvM_mx {K r c : Int} {xs : List Int} (h : ¬ K = 2) : lvM K r c xs = (rfV r c xs).1 % 8 := if_neg h
theorem rfV_bd (r c : Int) (xs : List Int) : 0 ≤ (rfV r c xs).1 ∧ (rfV r c xs).1 < 32 := by
 unfold rfV
 split
 ·exact ⟨by decide, by decide⟩
 ·rcases shareV_cd (cellsL r.toNat xs aPl) (cellsL r.toNat xs (bPl r)) with h | h
  ·rw [h]; exact ⟨by decide, by decide⟩
  ·exact h.2
theorem lvM_bd (K r c : Int) (xs : List Int) : 0 ≤ lvM K r c xs ∧ lvM K r c xs < 8 := by
 have := rfV_bd r c xs
 unfold lvM
 split <;> omega
theorem mem_idx {l : List Int} {x : Int} (h : x ∈ l) : ∃ i, i < l.length ∧ l.getD i 0 = x := by
 obtain ⟨i, hi, e⟩ := List.getElem_of_mem h
 exact ⟨i, hi, by rw [List.getD_eq_getElem?_getD, List.getElem?_eq_getElem hi]; exact e⟩
theorem famS {nm : ByteArray} {K p k q co r : Int} {ss ls : List Int} (h : famOK nm K p k q ss co ls) (hr : r ∈ ss) : (K = 1 ∧ sizOK r) ∨ (K = 2 ∧ (3 ≤ r ∧ r ≤ 24) ∧ (1 ≤ co ∧ co ≤ 8)) := by
 obtain ⟨i, hi, rfl⟩ := mem_idx hr
 exact fam_size h hi
theorem stk_nat {nm : ByteArray} {p k q co r c : Int} {ss ls xs : List Int} (hF : famOK nm 2 p k q ss co ls) (hG : gridOK r c xs) (hin : r ∈ ss) (hc : c = colsV 2 co r) : ∃ R C cO : Nat, r = R ∧ c = C ∧ co = cO ∧ xs.length = R * C ∧ 1 ≤ R ∧ R ≤ 24 ∧ 26 ≤ C ∧ C ≤ 200 ∧ R * C ≤ 40000 ∧ rowN C = cO + 2 := by
 obtain ⟨R, C, rfl, rfl, h1, h2, h3, h4⟩ := grid_nat hG
 rcases famS hF hin with ⟨h5, _⟩ | ⟨_, h5, h6⟩
 ·exact absurd h5 (by decide)
 ·rw [colsV_st rfl] at hc
  refine ⟨R, C, co.toNat, rfl, rfl, by omega, h4, h1, by omega, by omega, by omega, h3, ?_⟩
  unfold rowN
  omega
theorem IntsAt.where_ {w : World} {p : Option Addr} {xs : List Int} (h : IntsAt w p xs) (hl : 0 < xs.length) : ∃ b o, p = some ⟨b, o, none⟩ := by
 obtain ⟨b, o, e, _⟩ := h 0 hl
 exact ⟨b, o, e⟩
end Go.Proofs.YtojdediohjghnaaGreatDoor
/- The level and the mask of a symbol, on the reference's side. -/
namespace Go.Proofs.YtojdediohjghnaaGreatDoor
open Go.RowKit

def LvS (g : Prop) (L M : Int) (e : Ending) : Prop := (g ∧ e = .returned (.tuple #[.int .i64 L, .int .i64 M, .bool true])) ∨ (¬ g ∧ e = .returned (.tuple #[.int .i64 0, .int .i64 0, .bool false]))
set_option maxHeartbeats 3200000 in
set_option maxRecDepth 100000 in
theorem l19Level_c (nm : ByteArray) (K p k q co r c : Int) (ps pl pg : Option Addr) (cs cl cg : Nat) (ss ls xs : List Int) (w : World) (hs : IntsAt w ps ss) (hlv : IntsAt w pl ls) (hx : IntsAt w pg xs) (hn : nm.size ≤ 1048576) (hl1 : ss.length ≤ 1048576) (hl2 : ls.length ≤ 1048576) (hl3 : xs.length ≤ 1048576) (hcap : xs.length ≤ cg) (hF : famOK nm K p k q ss co ls) (hG : gridOK r c xs) (hin : r ∈ ss) (hcc : c = colsV K co r) :
  Calls Tryz.prog 20 #[vFam nm K p k q ps ss.length cs co pl ls.length cl, vGrid r c pg xs.length cg] w fun e w' => LvS (lvG K p k q co ls r c xs) (lvL K r c xs ls.length) (lvM K r c xs) e ∧ Ext w w' := by
 have hx' := hx; have HS := Lib.hid hs; have HV := Lib.hid hlv; have HX := Lib.hid hx; clear hs hlv hx
 have hxA : Ext w ((w.alloc (.cells #[.string nm, .int .i64 K, .int .i64 p, .int .i64 k, .int .i64 q, .slice ps ss.length cs, .int .i64 co, .slice pl ls.length cl] 35)).alloc (.cells #[.int .i64 r, .int .i64 c, .slice pg xs.length cg] 37)) := ((Ext.refl w).alloc _).alloc _
 have hbA := (Blk.new w #[.string nm, .int .i64 K, .int .i64 p, .int .i64 k, .int .i64 q, .slice ps ss.length cs, .int .i64 co, .slice pl ls.length cl] 35).alloc (.cells #[.int .i64 r, .int .i64 c, .slice pg xs.length cg] 37)
 have hbB := Blk.new1 w (.cells #[.string nm, .int .i64 K, .int .i64 p, .int .i64 k, .int .i64 q, .slice ps ss.length cs, .int .i64 co, .slice pl ls.length cl] 35) #[.int .i64 r, .int .i64 c, .slice pg xs.length cg] 37
 have hG2 : ∀ l : Nat, lvL K r c xs ls.length = l → (lvG K p k q co ls r c xs ↔ (0 ≤ (l : Int) ∧ (l : Int) ≤ (ls.length : Int) - 1) ∧ layOK p k q (lyD K p k co r (ls.getD (l : Int).toNat 0)) (lyC K p k co r (ls.getD (l : Int).toNat 0)) (lyN K p k co r)) := fun l h => by unfold lvG; rw [h]
 have hG3 : ¬ (0 ≤ lvL K r c xs ls.length ∧ lvL K r c xs ls.length ≤ (ls.length : Int) - 1) → ¬ lvG K p k q co ls r c xs := fun h h2 => h h2.1
 have hsz := Lib.hid (famS hF hin)
 have hnl : ls.length ≤ 4 := hF.2.2.1.2
 rcases (famK hF).1 with hK | hK
 ·have hK2 : ¬ K = 2 := by omega
  have hrb := rfV_bd r c xs
  have hrf := Lib.hid (fun W (h : IntsAt W pg xs) => sReadFormat_c r c pg cg xs W h hl3)
  rw [lvM_mx hK2]
  by_cases h0 : (rfV r c xs).2 = 0
  ·have hLx := lvL_mx (nl := ls.length) hK2 h0
   rw [h0] at hrf
   generalize hLe : lvL K r c xs ls.length = L at *
   clear hLe
   generalize (rfV r c xs).1 = f at *
   subst hLx
   generalize lvG K p k q co ls r c xs = G at *
   obtain ⟨L, hLL⟩ : ∃ L, f / 8 = L := ⟨_, rfl⟩
   obtain ⟨M, hMM⟩ : ∃ M, f % 8 = M := ⟨_, rfl⟩
   rw [hLL] at hG2 hG3 ⊢
   rw [hMM]
   replace hF := Lib.hid hF; replace hG2 := Lib.hid hG2; replace hG3 := Lib.hid hG3
   have hLb : -1 ≤ L ∧ L ≤ 8 := by omega
   replace hLL := Lib.hid hLL; replace hMM := Lib.hid hMM
   have hKb : (K == 2) = false := by simpa using hK2
   clear hG hcc hin h0 hK2 hK
   go_enter Tryz.func20, Tryz.ntmps20
   go_upto_region 2 with (fail)
   obtain ⟨gF, hgF⟩ : ∃ g, w.heap.size = g := ⟨_, rfl⟩
   obtain ⟨gG, hgG⟩ : ∃ g, w.heap.size + 1 = g := ⟨_, rfl⟩
   rw [hgG] at hbB ⊢
   rw [hgF] at hbA ⊢
   clear hgF hgG
   generalize ((w.alloc (.cells #[.string nm, .int .i64 K, .int .i64 p, .int .i64 k, .int .i64 q, .slice ps ss.length cs, .int .i64 co, .slice pl ls.length cl] 35)).alloc (.cells #[.int .i64 r, .int .i64 c, .slice pg xs.length cg] 37)) = w0 at *
   obtain ⟨a0, a1, a2, a3, a4, a5, a6, a7⟩ := hbA.c8; have aL := hbA.lt; obtain ⟨c0, c1, c2⟩ := hbB.c3; have cL := hbB.lt

   go_upto_region 8 with (go_at_call 36; go_loud ((with_reducible refine (hrf.out _ (HX.out.ext hxA)).mono ?_); rintro e w3 ⟨rfl, hx3⟩; replace hbA := hbA.ext hx3; replace hbB := hbB.ext hx3; replace hxA := hxA.trans hx3; clear a0 a1 a2 a3 a4 a5 a6 a7 aL c0 c1 c2 cL; obtain ⟨a0, a1, a2, a3, a4, a5, a6, a7⟩ := hbA.c8; have aL := hbA.lt; obtain ⟨c0, c1, c2⟩ := hbB.c3; have cL := hbB.lt))
   rw [hLL.out, hMM.out]
   by_cases hin2 : 0 ≤ L ∧ L ≤ (ls.length : Int) - 1
   ·obtain ⟨l, rfl⟩ : ∃ l : Nat, L = l := ⟨L.toNat, by omega⟩
    have hll : l < ls.length := by omega
    have hlx := (hF.out.2.2.2.1 l hll).1
    have hly := Lib.hid (fun W (h : IntsAt W pl ls) => sLay_c nm K p k q co ps pl ss.length cs cl l ls r W h hll hl2 hlx (fam_fld hF.out) hsz.out)
    have hbd := ly_bd (K := K) (co := co) (n := r) (x := ls.getD l 0) (fam_fld hF.out) hsz.out
    have hil := Lib.hid (fun W => sIsLayout_c p k q _ _ _ W hbd.1 hbd.2.1 hbd.2.2)
    have hgg := Lib.hid (hG2.out l rfl)
    rw [Int.toNat_natCast] at hgg
    clear hbd hlx hG2 hsz
    generalize ls.getD l 0 = x at *
    generalize lyD K p k co r x = D at *
    generalize lyC K p k co r x = C9 at *
    generalize lyN K p k co r = N9 at *
    by_cases hlo : layOK p k q D C9 N9
    ·go_wp2_with (first
      | (go_at_call 37; (with_reducible refine (l01In_c _ _ _ _).mono ?_); rintro e w5 ⟨⟨hP, rfl⟩ | ⟨hP, rfl⟩, rfl⟩ <;> (first | (exfalso; omega) | skip))
      | (go_at_call 22; go_loud ((with_reducible refine (hly.out _ (HV.out.ext hxA)).mono ?_); rintro e w6 ⟨rfl, hx6⟩; have hxB := hxA.trans hx6))
      | (go_at_call 38; go_loud ((with_reducible refine (hil.out _).mono ?_); rintro e w7 ⟨⟨hP7, rfl⟩ | ⟨hP7, rfl⟩, hx7⟩ <;> (first | exact absurd hlo hP7 | skip))))
     exact bodyPost_ret (v := .tuple #[.int .i64 l, .int .i64 M, .bool true]) (by simp [results, Tryz.results20, go_sem]) rfl ⟨.inl ⟨hgg.out.2 ⟨hin2, hlo⟩, rfl⟩, hxB.trans hx7⟩
    ·go_wp2_with (first
      | (go_at_call 37; (with_reducible refine (l01In_c _ _ _ _).mono ?_); rintro e w5 ⟨⟨hP, rfl⟩ | ⟨hP, rfl⟩, rfl⟩ <;> (first | (exfalso; omega) | skip))
      | (go_at_call 22; go_loud ((with_reducible refine (hly.out _ (HV.out.ext hxA)).mono ?_); rintro e w6 ⟨rfl, hx6⟩; have hxB := hxA.trans hx6))
      | (go_at_call 38; go_loud ((with_reducible refine (hil.out _).mono ?_); rintro e w7 ⟨⟨hP7, rfl⟩ | ⟨hP7, rfl⟩, hx7⟩ <;> (first | exact absurd hP7 hlo | skip))))
     exact bodyPost_ret (v := .tuple #[.int .i64 0, .int .i64 0, .bool false]) (by simp [results, Tryz.results20, go_sem]) rfl ⟨.inr ⟨fun h => hlo (hgg.out.1 h).2, rfl⟩, hxB.trans hx7⟩
   ·go_wp2_with (go_at_call 37; (with_reducible refine (l01In_c _ _ _ _).mono ?_); rintro e w5 ⟨⟨hP, rfl⟩ | ⟨hP, rfl⟩, rfl⟩ <;> (first | exact absurd hP hin2 | skip))
    exact bodyPost_ret (v := .tuple #[.int .i64 0, .int .i64 0, .bool false]) (by simp [results, Tryz.results20, go_sem]) rfl ⟨.inr ⟨hG3.out hin2, rfl⟩, hxA⟩
  ·skip
   have hLx := lvL_no (nl := ls.length) hK2 h0
   rw [hLx] at hG3 ⊢
   generalize lvG K p k q co ls r c xs = G at *
   have hnG := Lib.hid (hG3 (by omega))
   have h0b : ((rfV r c xs).2 != 0) = true := by simpa using h0
   replace hF := Lib.hid hF
   have hKb : (K == 2) = false := by simpa using hK2
   generalize (rfV r c xs).1 = f at *
   generalize (rfV r c xs).2 = cd at *
   clear hG hcc hin h0 hK2 hK hG2 hG3 hsz
   go_enter Tryz.func20, Tryz.ntmps20
   go_upto_region 2 with (fail)
   obtain ⟨gF, hgF⟩ : ∃ g, w.heap.size = g := ⟨_, rfl⟩
   obtain ⟨gG, hgG⟩ : ∃ g, w.heap.size + 1 = g := ⟨_, rfl⟩
   rw [hgG] at hbB ⊢
   rw [hgF] at hbA ⊢
   clear hgF hgG
   generalize ((w.alloc (.cells #[.string nm, .int .i64 K, .int .i64 p, .int .i64 k, .int .i64 q, .slice ps ss.length cs, .int .i64 co, .slice pl ls.length cl] 35)).alloc (.cells #[.int .i64 r, .int .i64 c, .slice pg xs.length cg] 37)) = w0 at *
   obtain ⟨a0, a1, a2, a3, a4, a5, a6, a7⟩ := hbA.c8; have aL := hbA.lt; obtain ⟨c0, c1, c2⟩ := hbB.c3; have cL := hbB.lt

   go_wp2_with (go_at_call 36; go_loud ((with_reducible refine (hrf.out _ (HX.out.ext hxA)).mono ?_); rintro e w3 ⟨rfl, hx3⟩))
   exact bodyPost_ret (v := .tuple #[.int .i64 0, .int .i64 0, .bool false]) (by simp [results, Tryz.results20, go_sem]) rfl ⟨.inr ⟨hnG.out, rfl⟩, hxA.trans hx3⟩
 ·obtain ⟨R, C, cO, rfl, rfl, rfl, hlen, hR1, hR2, hC1, hC2, hRC, hrN⟩ := stk_nat (hK ▸ hF) hG hin (hK ▸ hcc)
  obtain ⟨b, o, rfl⟩ := hx'.where_ (by rw [hlen]; exact Nat.mul_pos hR1 (by omega))
  have hco8 : (1 ≤ cO ∧ cO ≤ 8) ∧ 3 ≤ R ∧ R ≤ 24 := by rcases hsz.out with ⟨h, _⟩ | ⟨_, h2, h⟩ <;> omega
  clear hsz
  subst hK
  have hLx : lvL 2 (R : Int) (C : Int) xs ls.length = topS (vtR xs C (cO + 2) ls.length R) ls.length := by rw [lvL_st rfl, Int.toNat_natCast, Int.toNat_natCast, hrN]
  have hlev := Lib.hid (fun W (h : IntsAt W (some ⟨b, o, none⟩) xs) => l17Level_c nm 2 p k q ps pl ss.length cs ls.length cl R C cO b o cg xs W hnl h hlen hrN (by omega) hcap hRC)
  rw [hrN] at hlev
  rw [lvM_st rfl]
  have hLb := topS_bd (vtR xs C (cO + 2) ls.length R) ls.length
  generalize hLe : lvL 2 (R : Int) (C : Int) xs ls.length = L at *
  clear hLe
  rw [← hLx] at hlev hLb
  clear hLx
  generalize lvG 2 p k q cO ls R C xs = G at *
  replace hF := Lib.hid hF; replace hG2 := Lib.hid hG2; replace hG3 := Lib.hid hG3
  clear hG hcc hin hx' hlen hRC hrN
  go_enter Tryz.func20, Tryz.ntmps20
  go_upto_region 2 with (fail)
  obtain ⟨gF, hgF⟩ : ∃ g, w.heap.size = g := ⟨_, rfl⟩
  obtain ⟨gG, hgG⟩ : ∃ g, w.heap.size + 1 = g := ⟨_, rfl⟩
  rw [hgG] at hbB ⊢
  rw [hgF] at hbA ⊢
  clear hgF hgG
  generalize ((w.alloc (.cells #[.string nm, .int .i64 2, .int .i64 p, .int .i64 k, .int .i64 q, .slice ps ss.length cs, .int .i64 cO, .slice pl ls.length cl] 35)).alloc (.cells #[.int .i64 R, .int .i64 C, .slice (some ⟨b, o, none⟩) xs.length cg] 37)) = w0 at *
  obtain ⟨a0, a1, a2, a3, a4, a5, a6, a7⟩ := hbA.c8; have aL := hbA.lt; obtain ⟨c0, c1, c2⟩ := hbB.c3; have cL := hbB.lt

  go_upto_region 8 with (go_at_call 35; go_loud ((with_reducible refine (hlev.out _ (HX.out.ext hxA)).mono ?_); rintro e w3 ⟨rfl, hx3⟩; replace hbA := hbA.ext hx3; replace hbB := hbB.ext hx3; replace hxA := hxA.trans hx3; clear a0 a1 a2 a3 a4 a5 a6 a7 aL c0 c1 c2 cL; obtain ⟨a0, a1, a2, a3, a4, a5, a6, a7⟩ := hbA.c8; have aL := hbA.lt; obtain ⟨c0, c1, c2⟩ := hbB.c3; have cL := hbB.lt))
  by_cases hin2 : 0 ≤ L ∧ L ≤ (ls.length : Int) - 1
  ·obtain ⟨l, rfl⟩ : ∃ l : Nat, L = l := ⟨L.toNat, by omega⟩
   have hll : l < ls.length := by omega
   have hlx := (hF.out.2.2.2.1 l hll).1
   have hly := Lib.hid (fun W (h : IntsAt W pl ls) => sLay_c nm 2 p k q cO ps pl ss.length cs cl l ls R W h hll hl2 hlx (fam_fld hF.out) (.inr ⟨rfl, ⟨by omega, by omega⟩, ⟨by omega, by omega⟩⟩))
   have hbd := ly_bd (K := 2) (co := cO) (n := R) (x := ls.getD l 0) (fam_fld hF.out) (.inr ⟨rfl, ⟨by omega, by omega⟩, ⟨by omega, by omega⟩⟩)
   have hil := Lib.hid (fun W => sIsLayout_c p k q _ _ _ W hbd.1 hbd.2.1 hbd.2.2)
   have hgg := Lib.hid (hG2.out l rfl)
   rw [Int.toNat_natCast] at hgg
   clear hbd hlx hG2
   generalize ls.getD l 0 = x at *
   generalize lyD 2 p k (cO : Int) (R : Int) x = D at *
   generalize lyC 2 p k (cO : Int) (R : Int) x = C9 at *
   generalize lyN 2 p k (cO : Int) (R : Int) = N9 at *
   by_cases hlo : layOK p k q D C9 N9
   ·go_wp2_with (first
     | (go_at_call 37; (with_reducible refine (l01In_c _ _ _ _).mono ?_); rintro e w5 ⟨⟨hP, rfl⟩ | ⟨hP, rfl⟩, rfl⟩ <;> (first | (exfalso; omega) | skip))
     | (go_at_call 22; go_loud ((with_reducible refine (hly.out _ (HV.out.ext hxA)).mono ?_); rintro e w6 ⟨rfl, hx6⟩; have hxB := hxA.trans hx6))
     | (go_at_call 38; go_loud ((with_reducible refine (hil.out _).mono ?_); rintro e w7 ⟨⟨hP7, rfl⟩ | ⟨hP7, rfl⟩, hx7⟩ <;> (first | exact absurd hlo hP7 | skip))))
    exact bodyPost_ret (v := .tuple #[.int .i64 l, .int .i64 0, .bool true]) (by simp [results, Tryz.results20, go_sem]) rfl ⟨.inl ⟨hgg.out.2 ⟨hin2, hlo⟩, rfl⟩, hxB.trans hx7⟩
   ·go_wp2_with (first
     | (go_at_call 37; (with_reducible refine (l01In_c _ _ _ _).mono ?_); rintro e w5 ⟨⟨hP, rfl⟩ | ⟨hP, rfl⟩, rfl⟩ <;> (first | (exfalso; omega) | skip))
     | (go_at_call 22; go_loud ((with_reducible refine (hly.out _ (HV.out.ext hxA)).mono ?_); rintro e w6 ⟨rfl, hx6⟩; have hxB := hxA.trans hx6))
     | (go_at_call 38; go_loud ((with_reducible refine (hil.out _).mono ?_); rintro e w7 ⟨⟨hP7, rfl⟩ | ⟨hP7, rfl⟩, hx7⟩ <;> (first | exact absurd hP7 hlo | skip))))
    exact bodyPost_ret (v := .tuple #[.int .i64 0, .int .i64 0, .bool false]) (by simp [results, Tryz.results20, go_sem]) rfl ⟨.inr ⟨fun h => hlo (hgg.out.1 h).2, rfl⟩, hxB.trans hx7⟩
  ·go_wp2_with (go_at_call 37; (with_reducible refine (l01In_c _ _ _ _).mono ?_); rintro e w5 ⟨⟨hP, rfl⟩ | ⟨hP, rfl⟩, rfl⟩ <;> (first | exact absurd hP hin2 | skip))
   exact bodyPost_ret (v := .tuple #[.int .i64 0, .int .i64 0, .bool false]) (by simp [results, Tryz.results20, go_sem]) rfl ⟨.inr ⟨hG3.out hin2, rfl⟩, hxA⟩
end Go.Proofs.YtojdediohjghnaaGreatDoor
/- The level of a symbol, on the reference's side. -/
namespace Go.Proofs.YtojdediohjghnaaGreatDoor
open Go.RowKit

theorem szC_zero {nm : ByteArray} {K p k q co r c : Int} {ss ls xs : List Int} (h : szC nm K p k q ss co ls r c xs = 0) : (famOK nm K p k q ss co ls ∧ gridOK r c xs) ∧ r ∈ ss ∧ c = colsV K co r := by
 unfold szC at h
 by_cases h1 : famOK nm K p k q ss co ls ∧ gridOK r c xs
 ·rw [if_pos h1] at h
  by_cases h2 : r ∈ ss ∧ c = colsV K co r
  ·exact ⟨h1, h2⟩
  ·rw [if_neg h2] at h
   exact absurd h (by decide)
 ·rw [if_neg h1] at h
  exact absurd h (by decide)
open Classical in
noncomputable def lvR (nm : ByteArray) (K p k q : Int) (ss : List Int) (co : Int) (ls : List Int) (r c : Int) (xs : List Int) : Int × Int :=
 if szC nm K p k q ss co ls r c xs = 0 then (if lvG K p k q co ls r c xs then (lvL K r c xs ls.length, 0) else (0, 7)) else (0, szC nm K p k q ss co ls r c xs)
theorem lvR_ok {nm : ByteArray} {K p k q co r c : Int} {ss ls xs : List Int} (h : szC nm K p k q ss co ls r c xs = 0) (hg : lvG K p k q co ls r c xs) : lvR nm K p k q ss co ls r c xs = (lvL K r c xs ls.length, 0) := by
 unfold lvR
 rw [if_pos h, if_pos hg]
theorem lvR_dm {nm : ByteArray} {K p k q co r c : Int} {ss ls xs : List Int} (h : szC nm K p k q ss co ls r c xs = 0) (hg : ¬ lvG K p k q co ls r c xs) : lvR nm K p k q ss co ls r c xs = (0, 7) := by
 unfold lvR
 rw [if_pos h, if_neg hg]
theorem lvR_no {nm : ByteArray} {K p k q co r c : Int} {ss ls xs : List Int} (h : ¬ szC nm K p k q ss co ls r c xs = 0) : lvR nm K p k q ss co ls r c xs = (0, szC nm K p k q ss co ls r c xs) := if_neg h
end Go.Proofs.YtojdediohjghnaaGreatDoor
/- The code of a failure of reading, through the library's errors.As (after the kit's worked example on errors.As). -/
namespace Go.Proofs.YtojdediohjghnaaGreatDoor
open Go.RowKit Go.Extern.Stop Go.Stop Go.Extern

abbrev vErr (n c : Int) : Value := .iface 126 (.agg #[.int .i64 n, .iface 85 (.agg #[.int .i64 c])])
def LaidE (w : World) : Prop := w.cell? ⟨0, 0, none⟩ = some (.iface 186 (.agg #[.pointer (some ⟨1, 61, none⟩)]))
theorem LaidE.lt {w : World} (h : LaidE w) : 0 < w.heap.size := by
 rcases Nat.eq_zero_or_pos w.heap.size with h0 | h0
 ·unfold LaidE at h
  simp [World.cell?, h0] at h
 ·exact h0
theorem LaidE.ext {w w' : World} (h : LaidE w) (hx : Ext w w') : LaidE w' := by
 have h1 := (ecell hx).1 0 0 h.lt
 unfold LaidE at *
 rw [h1]
 exact h
theorem eValueOf (t : Addr) (w : World) : (ReflectliteValue.unpack (.iface 87 (.pointer (some t)))).run Tryz.prog w
  = .ok (.agg #[.pointer (some ⟨1, 87, none⟩), .pointer (some ⟨w.heap.size, 0, none⟩), .int .u64 150]) (w.alloc (.cells #[.pointer (some t)] 87)) := by kernel_rfl
theorem eType (a : Addr) (w : World) : (ReflectliteValue.methodAny (ReflectliteValue.valueError "reflectlite.Value.Type" 0) (fun t _ _ _ => ReflectliteType.toType t) #[.agg #[.pointer (some ⟨1, 87, none⟩), .pointer (some a), .int .u64 150]]).run Tryz.prog w
  = .ok (.iface 186 (.agg #[.pointer (some ⟨1, 87, none⟩)])) w := by kernel_rfl
theorem eMKind (h : Value) (w : World) : (Go.method 422 186 (.agg #[h]) "Kind").run Tryz.prog w = .ok (263, h) w := by kernel_rfl
theorem eKindP (w : World) : ((ReflectliteType.abiMethod fun t => (fun a : Nat => Value.int IntKind.u8 (a : Int)) <$> Rtype.kind t) #[.pointer (some ⟨1, 87, none⟩)]).run Tryz.prog w = .ok (.int .u8 22) w := by kernel_rfl
theorem eKindF (w : World) : ((ReflectliteType.abiMethod fun t => (fun a : Nat => Value.int IntKind.u8 (a : Int)) <$> Rtype.kind t) #[.pointer (some ⟨1, 85, none⟩)]).run Tryz.prog w = .ok (.int .u8 25) w := by kernel_rfl
theorem rlm (z : Sem Value) (f : TypeId → Addr → Nat → Nat → Sem Value) (v : Value) :
  ReflectliteValue.method z f #[v] = (do match ← ReflectliteValue.parts v with | none => z | some (t, a, fl) => f t a fl (fl % 32)) := rfl
theorem ePartsP (a : Addr) (w : World) : (ReflectliteValue.parts (.agg #[.pointer (some ⟨1, 87, none⟩), .pointer (some a), .int .u64 150])).run Tryz.prog w = .ok (some (87, a, 150)) w := by kernel_rfl
theorem eIsNil (a p : Addr) (W : World) (ha : W.cell? a = some (.pointer (some p))) :
  (ReflectliteValue.method (ReflectliteValue.valueError "reflectlite.Value.IsNil" 0) ReflectliteValue.isNil #[.agg #[.pointer (some ⟨1, 87, none⟩), .pointer (some a), .int .u64 150]]).run Tryz.prog W = .ok (.bool false) W := by
 rw [rlm]
 simp only [Sem.run_bind, ePartsP, Result.andThen]
 simp [ReflectliteValue.isNil, loadVar, isAgg, underlying, Tryz.underlying87, ha, Result.andThen]
theorem eMElem (h : Value) (w : World) : (Go.method 422 186 (.agg #[h]) "Elem").run Tryz.prog w = .ok (275, .agg #[h]) w := by kernel_rfl
theorem eMImpl (h : Value) (w : World) : (Go.method 422 186 (.agg #[h]) "Implements").run Tryz.prog w = .ok (276, .agg #[h]) w := by kernel_rfl
theorem eMAsgn (h : Value) (w : World) : (Go.method 422 186 (.agg #[h]) "AssignableTo").run Tryz.prog w = .ok (273, .agg #[h]) w := by kernel_rfl
theorem eElem (w : World) : (ReflectliteType.method ReflectliteType.elem #[.agg #[.pointer (some ⟨1, 87, none⟩)]]).run Tryz.prog w = .ok (.iface 186 (.agg #[.pointer (some ⟨1, 85, none⟩)])) w := by kernel_rfl
theorem eImpl (w : World) : (ReflectliteType.relation "Implements" ReflectliteType.implements_ #[.agg #[.pointer (some ⟨1, 85, none⟩)], .iface 186 (.agg #[.pointer (some ⟨1, 61, none⟩)])]).run Tryz.prog w = .ok (.bool true) w := by kernel_rfl
theorem eTypeOfF (v : Value) (w : World) : (ReflectliteType.typeOf #[.iface 85 v]).run Tryz.prog w = .ok (.iface 186 (.agg #[.pointer (some ⟨1, 85, none⟩)])) w := by kernel_rfl
theorem eTypeOfS (v : Value) (w : World) : (ReflectliteType.typeOf #[.iface 126 v]).run Tryz.prog w = .ok (.iface 186 (.agg #[.pointer (some ⟨1, 126, none⟩)])) w := by kernel_rfl
theorem eAsgnF (w : World) : (ReflectliteType.relation "AssignableTo" ReflectliteType.assignableTo #[.agg #[.pointer (some ⟨1, 85, none⟩)], .iface 186 (.agg #[.pointer (some ⟨1, 85, none⟩)])]).run Tryz.prog w = .ok (.bool true) w := by kernel_rfl
theorem eAsgnS (w : World) : (ReflectliteType.relation "AssignableTo" ReflectliteType.assignableTo #[.agg #[.pointer (some ⟨1, 126, none⟩)], .iface 186 (.agg #[.pointer (some ⟨1, 85, none⟩)])]).run Tryz.prog w = .ok (.bool false) w := by kernel_rfl
theorem eValueOfF (c : Int) (w : World) : (ReflectliteValue.unpack (.iface 85 (.agg #[.int .i64 c]))).run Tryz.prog w
  = .ok (.agg #[.pointer (some ⟨1, 85, none⟩), .pointer (some ⟨w.heap.size, 0, none⟩), .int .u64 153]) (w.alloc (.cells #[.int .i64 c] 85)) := by kernel_rfl
theorem eElemOf (w : World) : (Rtype.elem? 87).run Tryz.prog w = .ok (some 85) w := by kernel_rfl
theorem eMk (p : Addr) (w : World) : (ReflectliteValue.mk 85 p ReflectliteValue.flagAddr).run Tryz.prog w = .ok (.agg #[.pointer (some ⟨1, 85, none⟩), .pointer (some p), .int .u64 409]) w := by kernel_rfl
theorem eElemV (a p : Addr) (W : World) (ha : W.cell? a = some (.pointer (some p))) :
  (ReflectliteValue.method (ReflectliteValue.valueError "reflectlite.Value.Elem" 0) ReflectliteValue.elem #[.agg #[.pointer (some ⟨1, 87, none⟩), .pointer (some a), .int .u64 150]]).run Tryz.prog W
   = .ok (.agg #[.pointer (some ⟨1, 85, none⟩), .pointer (some p), .int .u64 409]) W := by
 rw [rlm]
 simp only [Sem.run_bind, ePartsP, Result.andThen]
 simp [ReflectliteValue.elem, loadVar, isAgg, underlying, Tryz.underlying87, ha, Result.andThen, eElemOf, eMk]
theorem rls (v x : Value) : ReflectliteValue.set #[v, x] = (do
  let (some (dst, a, fl), some (src, b, _)) := (← ReflectliteValue.parts v, ← ReflectliteValue.parts x)
   | unsupported (.noEntry "extern/(internal/reflectlite.Value).Set.zeroValue")
  if fl / ReflectliteValue.flagAddr % 2 == 0 then unsupported (.noEntry "extern/(internal/reflectlite.Value).Set.unaddressable")
  let val ← loadVar src b
  if ← Rtype.directlyAssignable dst src then storeVar dst a val
  else if ← Rtype.implements dst src then
   if (← Rtype.kind src) == 20 then
    match val with
    | .nilIface => unsupported (.noEntry "extern/reflectlite: a nil value of one interface type handed on as a value of another")
    | _ => storeVar dst a val
   else storeVar dst a (.iface src val)
  else panicString ("reflectlite.Set: value of type " ++ (← Rtype.spelt src) ++ " is not assignable to type " ++ (← Rtype.spelt dst))
  pure (.tuple #[])) := rfl
theorem ePartsFa (a : Addr) (w : World) : (ReflectliteValue.parts (.agg #[.pointer (some ⟨1, 85, none⟩), .pointer (some a), .int .u64 409])).run Tryz.prog w = .ok (some (85, a, 409)) w := by kernel_rfl
theorem ePartsF (a : Addr) (w : World) : (ReflectliteValue.parts (.agg #[.pointer (some ⟨1, 85, none⟩), .pointer (some a), .int .u64 153])).run Tryz.prog w = .ok (some (85, a, 153)) w := by kernel_rfl
theorem eDirect (w : World) : (Rtype.directlyAssignable 85 85).run Tryz.prog w = .ok true w := by kernel_rfl
theorem eSet (t b : Nat) (c : Int) (old : Value) (W : World) (hb : W.cell? ⟨b, 0, none⟩ = some (.int .i64 c)) (ht : W.cell? ⟨t, 0, none⟩ = some old) (hf : W.frozen? ⟨t, 0, none⟩ = false) :
  (ReflectliteValue.set #[.agg #[.pointer (some ⟨1, 85, none⟩), .pointer (some ⟨t, 0, none⟩), .int .u64 409], .agg #[.pointer (some ⟨1, 85, none⟩), .pointer (some ⟨b, 0, none⟩), .int .u64 153]]).run Tryz.prog W
   = .ok (.tuple #[]) (W.setCell ⟨t, 0, none⟩ (.int .i64 c)) := by
 have hsz : ∀ w, (sizeOf 85).run Tryz.prog w = .ok 1 w := fun w => by kernel_rfl
 have hlc : (loadCells ⟨b, 0, none⟩ 1).run Tryz.prog W = .ok #[.int .i64 c] W := by simp [loadCells, loadCellsFrom, Addr.add, hb, Result.andThen]
 rw [rls]
 simp only [Sem.run_bind, ePartsFa, ePartsF, Result.andThen]
 simp [ReflectliteValue.flagAddr, loadVar, isAgg, underlying, Tryz.underlying85, hsz, hlc, Result.andThen, eDirect, storeVar, Value.cells, storeCells, Addr.add]
 rw [run_store Tryz.prog W ⟨t, 0, none⟩ _ _ (by rfl)]
 simp [ht, hf]
theorem eNoAs (v : Value) (xT : TypeId) (w : World) : (Instr.typeAssert (.iface 126 v) xT 191 true).run Tryz.prog w = .ok (.tuple #[.nilIface, .bool false]) w := run_typeAssert_lacksB Tryz.underlying191 (by kernel_rfl) (by kernel_rfl) v xT w
theorem eHasU (v : Value) (xT : TypeId) (w : World) : (Instr.typeAssert (.iface 126 v) xT 194 true).run Tryz.prog w = .ok (.tuple #[.iface 126 v, .bool true]) w := run_typeAssert_hasB Tryz.underlying194 (by kernel_rfl) v xT w
theorem eMUnwrap (v : Value) (w : World) : (Go.method 422 126 v "Unwrap").run Tryz.prog w = .ok (268, v) w := by kernel_rfl
end Go.Proofs.YtojdediohjghnaaGreatDoor
/- The code of a failure of reading. -/
namespace Go.Proofs.YtojdediohjghnaaGreatDoor
open Go.RowKit Go.Extern.Stop Go.Stop Go.Extern

theorem unwrap_c (v : Value) (n : Int) (w : World) : Calls Tryz.prog 268 #[.agg #[.int .i64 n, v]] w fun e w' => e = .returned v ∧ Ext w w' := by
 go_enter Tryz.func268, Tryz.ntmps268
 go_wp2
 go_ret
 exact ⟨rfl, eX⟩
set_option maxHeartbeats 4000000 in
theorem as_c (n c : Int) (t : Nat) (a : Nat) (old : Value) (w : World) (ht : w.cell? ⟨t, 0, none⟩ = some old) (htl : t < w.heap.size) (hf : w.frozen? ⟨t, 0, none⟩ = false) (ha : w.cell? ⟨a, 0, none⟩ = some (.pointer (some ⟨t, 0, none⟩))) (hal : a < w.heap.size) :
  Calls Tryz.prog 84 #[.iface 126 (.agg #[.int .i64 n, .iface 85 (.agg #[.int .i64 c])]), .iface 87 (.pointer (some ⟨t, 0, none⟩)), .agg #[.pointer (some ⟨1, 87, none⟩), .pointer (some ⟨a, 0, none⟩), .int .u64 150], .iface 186 (.agg #[.pointer (some ⟨1, 85, none⟩)])] w fun e w' => e = .returned (.bool true) ∧ ∃ w1 o, Ext w w1 ∧ w' = (w1.setCell ⟨t, 0, none⟩ (.int .i64 c)).alloc o := by
 have g1 := @run_callFunc_extern Tryz.prog 127 _ ReflectliteType.typeOf Tryz.func127 (by kernel_rfl) (by kernel_rfl) (by kernel_rfl) (by kernel_rfl)
 have g2 := @run_callFunc_extern Tryz.prog 273 _ (ReflectliteType.relation "AssignableTo" ReflectliteType.assignableTo) Tryz.func273 (by kernel_rfl) (by kernel_rfl) (by kernel_rfl) (by kernel_rfl)
 have g3 := @run_callFunc_extern Tryz.prog 128 _ (ReflectliteValue.method (ReflectliteValue.valueError "reflectlite.Value.Elem" 0) ReflectliteValue.elem) Tryz.func128 (by kernel_rfl) (by kernel_rfl) (by kernel_rfl) (by kernel_rfl)
 have g4 := @run_callFunc_extern Tryz.prog 129 _ ReflectliteValue.set Tryz.func129 (by kernel_rfl) (by kernel_rfl) (by kernel_rfl) (by kernel_rfl)
 have g5 := @run_callFunc_extern Tryz.prog 81 _ (fun args => ReflectliteValue.unpack (args.getD 0 (.tuple #[]))) Tryz.func81 (by kernel_rfl) (by kernel_rfl) (by kernel_rfl) (by kernel_rfl)
 have t1 := eTypeOfS
 have t2 := eTypeOfF
 have m1 := eMAsgn
 have s1 := eAsgnS
 have s2 := eAsgnF
 have n1 := eNoAs
 have u1 := eHasU
 have m2 := eMUnwrap
 have hx0 : Ext w (w.alloc (.cells #[.pointer (some ⟨1, 87, none⟩), .pointer (some ⟨a, 0, none⟩), .int .u64 150] 130)) := (Ext.refl w).alloc _
 have hb0 := Blk.new w #[.pointer (some ⟨1, 87, none⟩), .pointer (some ⟨a, 0, none⟩), .int .u64 150] 130
 have v1 := eValueOfF c
 go_enter Tryz.func84, Tryz.ntmps84
 go_wp2
 refine wp_loop_rounds 2 ?_
 rw [rounds_succ]
 go_wp2_with (go_at_call 268; (with_reducible refine (unwrap_c _ _ _).mono ?_); rintro e w5 ⟨rfl, hx5⟩)
 have hx := hx0.trans hx5
 obtain ⟨c1, c2, c3, c4⟩ := ecell hx
 have hb5 := hb0.ext hx5
 obtain ⟨b0, b1, b2⟩ := hb5.c3
 have bl := hb5.lt
 have el := eElemV ⟨a, 0, none⟩ ⟨t, 0, none⟩ w5 ((c1 a 0 hal).trans ha)
 have htl5 := c3 t htl
 have st := eSet t w5.heap.size c old (w5.alloc (.cells #[.int .i64 c] 85)) ((Blk.new w5 #[.int .i64 c] 85).cell (i := 0) rfl) (by rw [World.cell?_alloc_lt _ _ ⟨t, 0, none⟩ htl5]; exact (c1 t 0 htl).trans ht) (by rw [World.frozen?_alloc_old _ _ ⟨t, 0, none⟩ (Nat.ne_of_lt htl5)]; exact (c2 t 0 htl).trans hf)
 rw [rounds_succ]
 go_wp2
 go_ret
 exact ⟨rfl, _, _, hx, rfl⟩
set_option maxHeartbeats 4000000 in
theorem As_c (n c : Int) (t : Nat) (old : Value) (w : World) (hL : LaidE w) (ht : w.cell? ⟨t, 0, none⟩ = some old) (htl : t < w.heap.size) (hf : w.frozen? ⟨t, 0, none⟩ = false) :
  Calls Tryz.prog 46 #[.iface 126 (.agg #[.int .i64 n, .iface 85 (.agg #[.int .i64 c])]), .iface 87 (.pointer (some ⟨t, 0, none⟩))] w fun e w' => e = .returned (.bool true) ∧ ∃ w1 o, Ext w w1 ∧ w' = (w1.setCell ⟨t, 0, none⟩ (.int .i64 c)).alloc o := by
 have g1 := @run_callFunc_extern Tryz.prog 82 _ (ReflectliteValue.methodAny (ReflectliteValue.valueError "reflectlite.Value.Type" 0) (fun t _ _ _ => ReflectliteType.toType t)) Tryz.func82 (by kernel_rfl) (by kernel_rfl) (by kernel_rfl) (by kernel_rfl)
 have g2 := @run_callFunc_extern Tryz.prog 83 _ (ReflectliteValue.method (ReflectliteValue.valueError "reflectlite.Value.IsNil" 0) ReflectliteValue.isNil) Tryz.func83 (by kernel_rfl) (by kernel_rfl) (by kernel_rfl) (by kernel_rfl)
 have g3 := @run_callFunc_extern Tryz.prog 263 _ (ReflectliteType.abiMethod fun t => do pure (.int .u8 (← Rtype.kind t))) Tryz.func263 (by kernel_rfl) (by kernel_rfl) (by kernel_rfl) (by kernel_rfl)
 have g4 := @run_callFunc_extern Tryz.prog 275 _ (ReflectliteType.method ReflectliteType.elem) Tryz.func275 (by kernel_rfl) (by kernel_rfl) (by kernel_rfl) (by kernel_rfl)
 have g6 := @run_callFunc_extern Tryz.prog 276 _ (ReflectliteType.relation "Implements" ReflectliteType.implements_) Tryz.func276 (by kernel_rfl) (by kernel_rfl) (by kernel_rfl) (by kernel_rfl)
 have g5 := @run_callFunc_extern Tryz.prog 81 _ (fun args => ReflectliteValue.unpack (args.getD 0 (.tuple #[]))) Tryz.func81 (by kernel_rfl) (by kernel_rfl) (by kernel_rfl) (by kernel_rfl)
 have f6 := eValueOf
 have f7 := eType
 have mK := eMKind
 have mE := eMElem
 have mI := eMImpl
 have kP := eKindP
 have kF := eKindF
 have eP := eElem
 have iF := eImpl
 have hx1 : Ext w (w.alloc (.cells #[.pointer (some ⟨t, 0, none⟩)] 87)) := (Ext.refl w).alloc _
 have hx2 := hx1.alloc (.cells #[.pointer (some ⟨1, 87, none⟩), .pointer (some ⟨w.heap.size, 0, none⟩), .int .u64 150] 130)
 have hb1 := (Blk.new w #[.pointer (some ⟨t, 0, none⟩)] 87).alloc (.cells #[.pointer (some ⟨1, 87, none⟩), .pointer (some ⟨w.heap.size, 0, none⟩), .int .u64 150] 130)
 have c1 := hb1.cell (i := 0) (v := .pointer (some ⟨t, 0, none⟩)) rfl
 have n8 := eIsNil ⟨w.heap.size, 0, none⟩ ⟨t, 0, none⟩ _ c1
 have hg : World.cell? _ _ = _ := hL.ext hx2
 have hc := Lib.hid (as_c n c t w.heap.size old _ (((ecell hx2).1 t 0 htl).trans ht) ((ecell hx2).2.2.1 t htl) (((ecell hx2).2.1 t 0 htl).trans hf) c1 hb1.lt)
 go_enter Tryz.func46, Tryz.ntmps46
 go_wp2_with (go_at_call 84; (with_reducible refine (hc.out).mono ?_); rintro e w5 ⟨rfl, w6, o, hx6, rfl⟩)
 go_ret
 exact ⟨rfl, _, _, hx2.trans hx6, rfl⟩
theorem codeOf_c (n c : Int) (w : World) (hL : LaidE w) :
  Calls Tryz.prog 26 #[vErr n c] w fun e w' => e = .returned (.int .i64 c) ∧ Ext w w' := by
 have hx1 : Ext w (w.alloc (.cells #[.int .i64 0] 85)) := (Ext.refl w).alloc _
 have hb1 := Blk.new w #[.int .i64 0] 85
 have hc := Lib.hid (As_c n c w.heap.size (.int .i64 0) _ (hL.ext hx1) (hb1.cell (i := 0) rfl) hb1.lt (hb1.free 0))
 go_enter Tryz.func26, Tryz.ntmps26
 go_wp2_with (go_at_call 46; (with_reducible refine (hc.out).mono ?_); rintro e w5 ⟨rfl, w6, o, hx6, rfl⟩; have hb6 := ((hb1.ext hx6).set 0 (.int .i64 c)).alloc o; have c6 := hb6.cell (i := 0) (v := .int .i64 c) rfl)
 go_ret
 exact ⟨rfl, ((hx1.trans hx6).setCell (p := ⟨w.heap.size, 0, none⟩) (Nat.le_refl _) _).alloc _⟩
end Go.Proofs.YtojdediohjghnaaGreatDoor
