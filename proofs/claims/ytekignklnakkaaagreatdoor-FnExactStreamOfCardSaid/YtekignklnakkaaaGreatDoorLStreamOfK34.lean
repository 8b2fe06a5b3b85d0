/- The level and the mask of a symbol: plain values. -/
import Derived.Test.YtekignklnakkaaaGreatDoorLStreamOfK31
import Derived.Test.YtekignklnakkaaaGreatDoorLStreamOfK33
set_option linter.unusedVariables false
set_option linter.unusedSimpArgs false
namespace Go.Proofs.YtekignklnakkaaaGreatDoor
open Go.RowKit

open Classical in
noncomputable def lvL (K r c : Int) (xs : List Int) (nl : Nat) : Int :=
  if K = 2 then topS (vtR xs c.toNat (rowN c.toNat) nl r.toNat) nl else if (rfV r c xs).2 = 0 then (rfV r c xs).1 / 8 else -1
noncomputable def lvM (K r c : Int) (xs : List Int) : Int := if K = 2 then 0 else (rfV r c xs).1 % 8
def lvG (K p k q co : Int) (ls : List Int) (r c : Int) (xs : List Int) : Prop :=
  (0 ≤ lvL K r c xs ls.length ∧ lvL K r c xs ls.length ≤ (ls.length : Int) - 1) ∧ layOK p k q (lyD K p k co r (ls.getD (lvL K r c xs ls.length).toNat 0)) (lyC K p k co r (ls.getD (lvL K r c xs ls.length).toNat 0)) (lyN K p k co r)
theorem lvL_st {K r c : Int} {xs : List Int} {nl : Nat} (h : K = 2) : lvL K r c xs nl = topS (vtR xs c.toNat (rowN c.toNat) nl r.toNat) nl := if_pos h
theorem lvL_mx {K r c : Int} {xs : List Int} {nl : Nat} (h : ¬ K = 2) (h0 : (rfV r c xs).2 = 0) : lvL K r c xs nl = (rfV r c xs).1 / 8 := by
  unfold lvL
  rw [if_neg h, if_pos h0]
theorem lvL_no {K r c : Int} {xs : List Int} {nl : Nat} (h : ¬ K = 2) (h0 : ¬ (rfV r c xs).2 = 0) : lvL K r c xs nl = -1 := by
  unfold lvL
  rw [if_neg h, if_neg h0]
theorem lvM_st {K r c : Int} {xs : List Int} (h : K = 2) : lvM K r c xs = 0 := if_pos h
theorem lvM_mx {K r c : Int} {xs : List Int} (h : ¬ K = 2) : lvM K r c xs = (rfV r c xs).1 % 8 := if_neg h
theorem rfV_bd (r c : Int) (xs : List Int) : 0 ≤ (rfV r c xs).1 ∧ (rfV r c xs).1 < 32 := by
  unfold rfV
  split
  · exact ⟨by decide, by decide⟩
  · rcases shareV_cd (cellsL r.toNat xs aPl) (cellsL r.toNat xs (bPl r)) with h | h
    · rw [h]; exact ⟨by decide, by decide⟩
    · exact h.2
theorem lvM_bd (K r c : Int) (xs : List Int) : 0 ≤ lvM K r c xs ∧ lvM K r c xs < 8 := by
  have := rfV_bd r c xs
  unfold lvM
  split <;> omega
theorem mem_idx {l : List Int} {x : Int} (h : x ∈ l) : ∃ i, i < l.length ∧ l.getD i 0 = x := by
  obtain ⟨i, hi, e⟩ := List.getElem_of_mem h
  exact ⟨i, hi, by rw [List.getD_eq_getElem?_getD, List.getElem?_eq_getElem hi]; exact e⟩
theorem famS {nm : ByteArray} {K p k q co r : Int} {ss ls : List Int} (h : famOK nm K p k q ss co ls) (hr : r ∈ ss) : (K = 1 ∧ sizOK r) ∨ (K = 2 ∧ (3 ≤ r ∧ r ≤ 24) ∧ (1 ≤ co ∧ co ≤ 8)) := by
  obtain ⟨i, hi, rfl⟩ := mem_idx hr
  exact fam_size h hi
theorem stk_nat {nm : ByteArray} {p k q co r c : Int} {ss ls xs : List Int} (hF : famOK nm 2 p k q ss co ls) (hG : gridOK r c xs) (hin : r ∈ ss) (hc : c = colsV 2 co r) : ∃ R C cO : Nat, r = R ∧ c = C ∧ co = cO ∧ xs.length = R * C ∧ 1 ≤ R ∧ R ≤ 24 ∧ 26 ≤ C ∧ C ≤ 200 ∧ R * C ≤ 40000 ∧ rowN C = cO + 2 := by
  obtain ⟨R, C, rfl, rfl, h1, h2, h3, h4⟩ := grid_nat hG
  rcases famS hF hin with ⟨h5, _⟩ | ⟨_, h5, h6⟩
  · exact absurd h5 (by decide)
  · rw [colsV_st rfl] at hc
    refine ⟨R, C, co.toNat, rfl, rfl, by omega, h4, h1, by omega, by omega, by omega, h3, ?_⟩
    unfold rowN
    omega
theorem IntsAt.where_ {w : World} {p : Option Addr} {xs : List Int} (h : IntsAt w p xs) (hl : 0 < xs.length) : ∃ b o, p = some ⟨b, o, none⟩ := by
  obtain ⟨b, o, e, _⟩ := h 0 hl
  exact ⟨b, o, e⟩
end Go.Proofs.YtekignklnakkaaaGreatDoor
/- The level and the mask of a symbol, on the reference's side. -/
namespace Go.Proofs.YtekignklnakkaaaGreatDoor
open Go.RowKit

def LvS (g : Prop) (L M : Int) (e : Ending) : Prop := (g ∧ e = .returned (.tuple #[.int .i64 L, .int .i64 M, .bool true])) ∨ (¬ g ∧ e = .returned (.tuple #[.int .i64 0, .int .i64 0, .bool false]))
set_option maxHeartbeats 3200000 in
set_option maxRecDepth 100000 in
theorem l19Level_c (nm : ByteArray) (K p k q co r c : Int) (ps pl pg : Option Addr) (cs cl cg : Nat) (ss ls xs : List Int) (w : World) (hs : IntsAt w ps ss) (hlv : IntsAt w pl ls) (hx : IntsAt w pg xs) (hn : nm.size ≤ 1048576) (hl1 : ss.length ≤ 1048576) (hl2 : ls.length ≤ 1048576) (hl3 : xs.length ≤ 1048576) (hcap : xs.length ≤ cg) (hF : famOK nm K p k q ss co ls) (hG : gridOK r c xs) (hin : r ∈ ss) (hcc : c = colsV K co r) :
    Calls Tryz.prog 29 #[vFam nm K p k q ps ss.length cs co pl ls.length cl, vGrid r c pg xs.length cg] w fun e w' => LvS (lvG K p k q co ls r c xs) (lvL K r c xs ls.length) (lvM K r c xs) e ∧ Ext w w' := by
  have hx' := hx; have HS := Lib.hid hs; have HV := Lib.hid hlv; have HX := Lib.hid hx; clear hs hlv hx
  have hxA : Ext w ((w.alloc (.cells #[.string nm, .int .i64 K, .int .i64 p, .int .i64 k, .int .i64 q, .slice ps ss.length cs, .int .i64 co, .slice pl ls.length cl] 35)).alloc (.cells #[.int .i64 r, .int .i64 c, .slice pg xs.length cg] 37)) := ((Ext.refl w).alloc _).alloc _
  have hbA := (Blk.new w #[.string nm, .int .i64 K, .int .i64 p, .int .i64 k, .int .i64 q, .slice ps ss.length cs, .int .i64 co, .slice pl ls.length cl] 35).alloc (.cells #[.int .i64 r, .int .i64 c, .slice pg xs.length cg] 37)
  have hbB := Blk.new1 w (.cells #[.string nm, .int .i64 K, .int .i64 p, .int .i64 k, .int .i64 q, .slice ps ss.length cs, .int .i64 co, .slice pl ls.length cl] 35) #[.int .i64 r, .int .i64 c, .slice pg xs.length cg] 37
  have hG2 : ∀ l : Nat, lvL K r c xs ls.length = l → (lvG K p k q co ls r c xs ↔ (0 ≤ (l : Int) ∧ (l : Int) ≤ (ls.length : Int) - 1) ∧ layOK p k q (lyD K p k co r (ls.getD (l : Int).toNat 0)) (lyC K p k co r (ls.getD (l : Int).toNat 0)) (lyN K p k co r)) := fun l h => by unfold lvG; rw [h]
  have hG3 : ¬ (0 ≤ lvL K r c xs ls.length ∧ lvL K r c xs ls.length ≤ (ls.length : Int) - 1) → ¬ lvG K p k q co ls r c xs := fun h h2 => h h2.1
  have hsz := Lib.hid (famS hF hin)
  have hnl : ls.length ≤ 4 := hF.2.2.1.2
  rcases (famK hF).1 with hK | hK
  · have hK2 : ¬ K = 2 := by omega
    have hrb := rfV_bd r c xs
    have hrf := Lib.hid (fun W (h : IntsAt W pg xs) => sReadFormat_c r c pg cg xs W h hl3)
    rw [lvM_mx hK2]
    by_cases h0 : (rfV r c xs).2 = 0
    · have hLx := lvL_mx (nl := ls.length) hK2 h0
      rw [h0] at hrf
      generalize hLe : lvL K r c xs ls.length = L at *
      clear hLe
      generalize (rfV r c xs).1 = f at *
      subst hLx
      generalize lvG K p k q co ls r c xs = G at *
      obtain ⟨L, hLL⟩ : ∃ L, f / 8 = L := ⟨_, rfl⟩
      obtain ⟨M, hMM⟩ : ∃ M, f % 8 = M := ⟨_, rfl⟩
      rw [hLL] at hG2 hG3 ⊢
      rw [hMM]
      replace hF := Lib.hid hF; replace hG2 := Lib.hid hG2; replace hG3 := Lib.hid hG3
      have hLb : -1 ≤ L ∧ L ≤ 8 := by omega
      replace hLL := Lib.hid hLL; replace hMM := Lib.hid hMM
      have hKb : (K == 2) = false := by simpa using hK2
      clear hG hcc hin h0 hK2 hK
      go_enter Tryz.func29, Tryz.ntmps29
      go_upto_region 2 with (fail)
      obtain ⟨gF, hgF⟩ : ∃ g, w.heap.size = g := ⟨_, rfl⟩
      obtain ⟨gG, hgG⟩ : ∃ g, w.heap.size + 1 = g := ⟨_, rfl⟩
      rw [hgG] at hbB ⊢
      rw [hgF] at hbA ⊢
      clear hgF hgG
      generalize ((w.alloc (.cells #[.string nm, .int .i64 K, .int .i64 p, .int .i64 k, .int .i64 q, .slice ps ss.length cs, .int .i64 co, .slice pl ls.length cl] 35)).alloc (.cells #[.int .i64 r, .int .i64 c, .slice pg xs.length cg] 37)) = w0 at *
      obtain ⟨a0, a1, a2, a3, a4, a5, a6, a7⟩ := hbA.c8; have aL := hbA.lt; obtain ⟨c0, c1, c2⟩ := hbB.c3; have cL := hbB.lt

      go_upto_region 8 with (go_at_call 46; go_loud ((with_reducible refine (hrf.out _ (HX.out.ext hxA)).mono ?_); rintro e w3 ⟨rfl, hx3⟩; replace hbA := hbA.ext hx3; replace hbB := hbB.ext hx3; replace hxA := hxA.trans hx3; clear a0 a1 a2 a3 a4 a5 a6 a7 aL c0 c1 c2 cL; obtain ⟨a0, a1, a2, a3, a4, a5, a6, a7⟩ := hbA.c8; have aL := hbA.lt; obtain ⟨c0, c1, c2⟩ := hbB.c3; have cL := hbB.lt))
      rw [hLL.out, hMM.out]
      by_cases hin2 : 0 ≤ L ∧ L ≤ (ls.length : Int) - 1
      · obtain ⟨l, rfl⟩ : ∃ l : Nat, L = l := ⟨L.toNat, by omega⟩
        have hll : l < ls.length := by omega
        have hlx := (hF.out.2.2.2.1 l hll).1
        have hly := Lib.hid (fun W (h : IntsAt W pl ls) => sLay_c nm K p k q co ps pl ss.length cs cl l ls r W h hll hl2 hlx (fam_fld hF.out) hsz.out)
        have hbd := ly_bd (K := K) (co := co) (n := r) (x := ls.getD l 0) (fam_fld hF.out) hsz.out
        have hil := Lib.hid (fun W => sIsLayout_c p k q _ _ _ W hbd.1 hbd.2.1 hbd.2.2)
        have hgg := Lib.hid (hG2.out l rfl)
        rw [Int.toNat_natCast] at hgg
        clear hbd hlx hG2 hsz
        generalize ls.getD l 0 = x at *
        generalize lyD K p k co r x = D at *
        generalize lyC K p k co r x = C9 at *
        generalize lyN K p k co r = N9 at *
        by_cases hlo : layOK p k q D C9 N9
        · go_wp2_with (first
            | (go_at_call 47; (with_reducible refine (l01In_c _ _ _ _).mono ?_); rintro e w5 ⟨⟨hP, rfl⟩ | ⟨hP, rfl⟩, rfl⟩ <;> (first | (exfalso; omega) | skip))
            | (go_at_call 31; go_loud ((with_reducible refine (hly.out _ (HV.out.ext hxA)).mono ?_); rintro e w6 ⟨rfl, hx6⟩; have hxB := hxA.trans hx6))
            | (go_at_call 48; go_loud ((with_reducible refine (hil.out _).mono ?_); rintro e w7 ⟨⟨hP7, rfl⟩ | ⟨hP7, rfl⟩, hx7⟩ <;> (first | exact absurd hlo hP7 | skip))))
          exact bodyPost_ret (v := .tuple #[.int .i64 l, .int .i64 M, .bool true]) (by simp [results, Tryz.results29, go_sem]) rfl ⟨.inl ⟨hgg.out.2 ⟨hin2, hlo⟩, rfl⟩, hxB.trans hx7⟩
        · go_wp2_with (first
            | (go_at_call 47; (with_reducible refine (l01In_c _ _ _ _).mono ?_); rintro e w5 ⟨⟨hP, rfl⟩ | ⟨hP, rfl⟩, rfl⟩ <;> (first | (exfalso; omega) | skip))
            | (go_at_call 31; go_loud ((with_reducible refine (hly.out _ (HV.out.ext hxA)).mono ?_); rintro e w6 ⟨rfl, hx6⟩; have hxB := hxA.trans hx6))
            | (go_at_call 48; go_loud ((with_reducible refine (hil.out _).mono ?_); rintro e w7 ⟨⟨hP7, rfl⟩ | ⟨hP7, rfl⟩, hx7⟩ <;> (first | exact absurd hP7 hlo | skip))))
          exact bodyPost_ret (v := .tuple #[.int .i64 0, .int .i64 0, .bool false]) (by simp [results, Tryz.results29, go_sem]) rfl ⟨.inr ⟨fun h => hlo (hgg.out.1 h).2, rfl⟩, hxB.trans hx7⟩
      · go_wp2_with (go_at_call 47; (with_reducible refine (l01In_c _ _ _ _).mono ?_); rintro e w5 ⟨⟨hP, rfl⟩ | ⟨hP, rfl⟩, rfl⟩ <;> (first | exact absurd hP hin2 | skip))
        exact bodyPost_ret (v := .tuple #[.int .i64 0, .int .i64 0, .bool false]) (by simp [results, Tryz.results29, go_sem]) rfl ⟨.inr ⟨hG3.out hin2, rfl⟩, hxA⟩
    · skip
      have hLx := lvL_no (nl := ls.length) hK2 h0
      rw [hLx] at hG3 ⊢
      generalize lvG K p k q co ls r c xs = G at *
      have hnG := Lib.hid (hG3 (by omega))
      have h0b : ((rfV r c xs).2 != 0) = true := by simpa using h0
      replace hF := Lib.hid hF
      have hKb : (K == 2) = false := by simpa using hK2
      generalize (rfV r c xs).1 = f at *
      generalize (rfV r c xs).2 = cd at *
      clear hG hcc hin h0 hK2 hK hG2 hG3 hsz
      go_enter Tryz.func29, Tryz.ntmps29
      go_upto_region 2 with (fail)
      obtain ⟨gF, hgF⟩ : ∃ g, w.heap.size = g := ⟨_, rfl⟩
      obtain ⟨gG, hgG⟩ : ∃ g, w.heap.size + 1 = g := ⟨_, rfl⟩
      rw [hgG] at hbB ⊢
      rw [hgF] at hbA ⊢
      clear hgF hgG
      generalize ((w.alloc (.cells #[.string nm, .int .i64 K, .int .i64 p, .int .i64 k, .int .i64 q, .slice ps ss.length cs, .int .i64 co, .slice pl ls.length cl] 35)).alloc (.cells #[.int .i64 r, .int .i64 c, .slice pg xs.length cg] 37)) = w0 at *
      obtain ⟨a0, a1, a2, a3, a4, a5, a6, a7⟩ := hbA.c8; have aL := hbA.lt; obtain ⟨c0, c1, c2⟩ := hbB.c3; have cL := hbB.lt

      go_wp2_with (go_at_call 46; go_loud ((with_reducible refine (hrf.out _ (HX.out.ext hxA)).mono ?_); rintro e w3 ⟨rfl, hx3⟩))
      exact bodyPost_ret (v := .tuple #[.int .i64 0, .int .i64 0, .bool false]) (by simp [results, Tryz.results29, go_sem]) rfl ⟨.inr ⟨hnG.out, rfl⟩, hxA.trans hx3⟩
  · obtain ⟨R, C, cO, rfl, rfl, rfl, hlen, hR1, hR2, hC1, hC2, hRC, hrN⟩ := stk_nat (hK ▸ hF) hG hin (hK ▸ hcc)
    obtain ⟨b, o, rfl⟩ := hx'.where_ (by rw [hlen]; exact Nat.mul_pos hR1 (by omega))
    have hco8 : (1 ≤ cO ∧ cO ≤ 8) ∧ 3 ≤ R ∧ R ≤ 24 := by rcases hsz.out with ⟨h, _⟩ | ⟨_, h2, h⟩ <;> omega
    clear hsz
    subst hK
    have hLx : lvL 2 (R : Int) (C : Int) xs ls.length = topS (vtR xs C (cO + 2) ls.length R) ls.length := by rw [lvL_st rfl, Int.toNat_natCast, Int.toNat_natCast, hrN]
    have hlev := Lib.hid (fun W (h : IntsAt W (some ⟨b, o, none⟩) xs) => l17Level_c nm 2 p k q ps pl ss.length cs ls.length cl R C cO b o cg xs W hnl h hlen hrN (by omega) hcap hRC)
    rw [hrN] at hlev
    rw [lvM_st rfl]
    have hLb := topS_bd (vtR xs C (cO + 2) ls.length R) ls.length
    generalize hLe : lvL 2 (R : Int) (C : Int) xs ls.length = L at *
    clear hLe
    rw [← hLx] at hlev hLb
    clear hLx
    generalize lvG 2 p k q cO ls R C xs = G at *
    replace hF := Lib.hid hF; replace hG2 := Lib.hid hG2; replace hG3 := Lib.hid hG3
    clear hG hcc hin hx' hlen hRC hrN
    go_enter Tryz.func29, Tryz.ntmps29
    go_upto_region 2 with (fail)
    obtain ⟨gF, hgF⟩ : ∃ g, w.heap.size = g := ⟨_, rfl⟩
    obtain ⟨gG, hgG⟩ : ∃ g, w.heap.size + 1 = g := ⟨_, rfl⟩
    rw [hgG] at hbB ⊢
    rw [hgF] at hbA ⊢
    clear hgF hgG
    generalize ((w.alloc (.cells #[.string nm, .int .i64 2, .int .i64 p, .int .i64 k, .int .i64 q, .slice ps ss.length cs, .int .i64 cO, .slice pl ls.length cl] 35)).alloc (.cells #[.int .i64 R, .int .i64 C, .slice (some ⟨b, o, none⟩) xs.length cg] 37)) = w0 at *
    obtain ⟨a0, a1, a2, a3, a4, a5, a6, a7⟩ := hbA.c8; have aL := hbA.lt; obtain ⟨c0, c1, c2⟩ := hbB.c3; have cL := hbB.lt

    go_upto_region 8 with (go_at_call 45; go_loud ((with_reducible refine (hlev.out _ (HX.out.ext hxA)).mono ?_); rintro e w3 ⟨rfl, hx3⟩; replace hbA := hbA.ext hx3; replace hbB := hbB.ext hx3; replace hxA := hxA.trans hx3; clear a0 a1 a2 a3 a4 a5 a6 a7 aL c0 c1 c2 cL; obtain ⟨a0, a1, a2, a3, a4, a5, a6, a7⟩ := hbA.c8; have aL := hbA.lt; obtain ⟨c0, c1, c2⟩ := hbB.c3; have cL := hbB.lt))
    by_cases hin2 : 0 ≤ L ∧ L ≤ (ls.length : Int) - 1
    · obtain ⟨l, rfl⟩ : ∃ l : Nat, L = l := ⟨L.toNat, by omega⟩
      have hll : l < ls.length := by omega
      have hlx := (hF.out.2.2.2.1 l hll).1
      have hly := Lib.hid (fun W (h : IntsAt W pl ls) => sLay_c nm 2 p k q cO ps pl ss.length cs cl l ls R W h hll hl2 hlx (fam_fld hF.out) (.inr ⟨rfl, ⟨by omega, by omega⟩, ⟨by omega, by omega⟩⟩))
      have hbd := ly_bd (K := 2) (co := cO) (n := R) (x := ls.getD l 0) (fam_fld hF.out) (.inr ⟨rfl, ⟨by omega, by omega⟩, ⟨by omega, by omega⟩⟩)
      have hil := Lib.hid (fun W => sIsLayout_c p k q _ _ _ W hbd.1 hbd.2.1 hbd.2.2)
      have hgg := Lib.hid (hG2.out l rfl)
      rw [Int.toNat_natCast] at hgg
      clear hbd hlx hG2
      generalize ls.getD l 0 = x at *
      generalize lyD 2 p k (cO : Int) (R : Int) x = D at *
      generalize lyC 2 p k (cO : Int) (R : Int) x = C9 at *
      generalize lyN 2 p k (cO : Int) (R : Int) = N9 at *
      by_cases hlo : layOK p k q D C9 N9
      · go_wp2_with (first
          | (go_at_call 47; (with_reducible refine (l01In_c _ _ _ _).mono ?_); rintro e w5 ⟨⟨hP, rfl⟩ | ⟨hP, rfl⟩, rfl⟩ <;> (first | (exfalso; omega) | skip))
          | (go_at_call 31; go_loud ((with_reducible refine (hly.out _ (HV.out.ext hxA)).mono ?_); rintro e w6 ⟨rfl, hx6⟩; have hxB := hxA.trans hx6))
          | (go_at_call 48; go_loud ((with_reducible refine (hil.out _).mono ?_); rintro e w7 ⟨⟨hP7, rfl⟩ | ⟨hP7, rfl⟩, hx7⟩ <;> (first | exact absurd hlo hP7 | skip))))
        exact bodyPost_ret (v := .tuple #[.int .i64 l, .int .i64 0, .bool true]) (by simp [results, Tryz.results29, go_sem]) rfl ⟨.inl ⟨hgg.out.2 ⟨hin2, hlo⟩, rfl⟩, hxB.trans hx7⟩
      · go_wp2_with (first
          | (go_at_call 47; (with_reducible refine (l01In_c _ _ _ _).mono ?_); rintro e w5 ⟨⟨hP, rfl⟩ | ⟨hP, rfl⟩, rfl⟩ <;> (first | (exfalso; omega) | skip))
          | (go_at_call 31; go_loud ((with_reducible refine (hly.out _ (HV.out.ext hxA)).mono ?_); rintro e w6 ⟨rfl, hx6⟩; have hxB := hxA.trans hx6))
          | (go_at_call 48; go_loud ((with_reducible refine (hil.out _).mono ?_); rintro e w7 ⟨⟨hP7, rfl⟩ | ⟨hP7, rfl⟩, hx7⟩ <;> (first | exact absurd hP7 hlo | skip))))
        exact bodyPost_ret (v := .tuple #[.int .i64 0, .int .i64 0, .bool false]) (by simp [results, Tryz.results29, go_sem]) rfl ⟨.inr ⟨fun h => hlo (hgg.out.1 h).2, rfl⟩, hxB.trans hx7⟩
    · go_wp2_with (go_at_call 47; (with_reducible refine (l01In_c _ _ _ _).mono ?_); rintro e w5 ⟨⟨hP, rfl⟩ | ⟨hP, rfl⟩, rfl⟩ <;> (first | exact absurd hP hin2 | skip))
      exact bodyPost_ret (v := .tuple #[.int .i64 0, .int .i64 0, .bool false]) (by simp [results, Tryz.results29, go_sem]) rfl ⟨.inr ⟨hG3.out hin2, rfl⟩, hxA⟩
end Go.Proofs.YtekignklnakkaaaGreatDoor
