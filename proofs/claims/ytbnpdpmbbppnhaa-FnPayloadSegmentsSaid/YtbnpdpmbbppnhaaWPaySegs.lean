
/- The walk of the law FnPayloadSegments. -/
import Derived.Test.YtbnpdpmbbppnhaaDecode
namespace Go.Proofs.Ytbnpdpmbbppnhaa
set_option linter.unusedVariables false
set_option linter.unusedSimpArgs false
open Go.RowKit

theorem jn_no1 {xs : List Sg} (h : xs.length ≤ 400 ∧ segsOK xs ∧ (joined xs).size ≤ 400) (h2 : ¬ xs.length ≤ 400 ∨ (segsOK xs ∧ ¬ (joined xs).size ≤ 400)) : False := by
  rcases h2 with h2 | h2
  · exact h2 h.1
  · exact h2.2 h.2.2
theorem jn_no2 {xs : List Sg} (h : xs.length ≤ 400 ∧ segsOK xs ∧ (joined xs).size ≤ 400) (h2 : xs.length ≤ 400 ∧ ¬ segsOK xs) : False := h2.2 h.2.1
set_option maxHeartbeats 800000 in
set_option maxRecDepth 100000 in
theorem payloadSegments_law (p : Option Addr) (c : Nat) (code : List Int) (w : World) (hx : U8At w p code) (hl : code.length ≤ maxLen) :
    Calls Try.prog 3 #[.slice p code.length c] w fun e w' => e = .returned (.bool true) ∧ Ext w w' := by
  have HX := Lib.hid hx; clear hx
  by_cases h4 : code.length ≤ 4096
  · go_enter Try.func3, Try.ntmps3
    go_wp2_with (first
      | (go_at_call 12; (with_reducible refine (big_c _ _ _ _ hl).mono ?_); rintro e w1 ⟨⟨hP, rfl⟩ | ⟨hP, rfl⟩, rfl⟩ <;> first | (exfalso; omega) | skip)
      | (go_at_call 13; (with_reducible refine (DrawDecodePayload_c _ _ _ _ HX.out h4).mono ?_); rintro e w2 ⟨fp, fk, fq, pt, c2, xs, rfl, hl2, hw2, hi2, hx2⟩))
    have hbx := Blk.new w2 #[.int .i64 fp, .int .i64 fk, .int .i64 fq] 25
    have hi3 := Lib.hid (hi2.ext ((Ext.refl w2).alloc (.cells #[.int .i64 fp, .int .i64 fk, .int .i64 fq] 25)))
    have hx3 := Lib.hid (hx2.alloc (.cells #[.int .i64 fp, .int .i64 fk, .int .i64 fq] 25))
    generalize w2.alloc (.cells #[.int .i64 fp, .int .i64 fk, .int .i64 fq] 25) = w3 at *
    generalize w2.heap.size = f at *
    have hlx : xs.length ≤ 1048576 := by omega
    have hid := Lib.hid (fun W (h : IntsAt W pt xs) => iDecodePayload_c fp fk fq pt c2 xs W h hlx)
    have hsd := Lib.hid (fun W (h : IntsAt W pt xs) => sDecodePayload_c fp fk fq pt c2 xs W h hlx)
    have hps := Lib.hid (fun W (h : IntsAt W pt xs) => iPayloadSegs_c fp fk fq pt c2 xs W h hlx)
    obtain ⟨hO, hsz, hlen, hnil⟩ := psg_ok fp fk fq xs
    have hT : dpT fp fk fq xs = joined (psgR fp fk fq xs).1 := rfl
    rw [hT] at hid hsd
    clear hT hi2 hx2 hw2 hl2
    generalize psgR fp fk fq xs = Y at *
    obtain ⟨L, C⟩ := Y
    have hjn := Lib.hid (fun p1 c1 W (h : SAt segF 2 W p1 L) => iJoinSegments_c p1 c1 L W h (fun x hx => by have := (hO x hx).2.1.2; omega) (show L.length ≤ 1048576 by have : L.length ≤ 400 := hlen; omega))
    have HO := Lib.hid (show L.length ≤ 400 ∧ segsOK L ∧ (joined L).size ≤ 400 from ⟨hlen, hO, hsz⟩)
    clear hO hsz hlen
    have f0 := hbx.cell (i := 0) (v := .int .i64 fp) rfl
    have f1 := hbx.cell (i := 1) (v := .int .i64 fk) rfl
    have f2 := hbx.cell (i := 2) (v := .int .i64 fq) rfl
    by_cases h0 : C = 0
    · subst h0
      clear hnil
      go_wp2_with (first
        | (go_at_call 14; (with_reducible refine (hid.out _ hi3.out).mono ?_); rintro e w4 ⟨rfl, hx4⟩; have hb4 := hbx.ext hx4; have f0 := hb4.cell (i := 0) (v := .int .i64 fp) rfl; have f1 := hb4.cell (i := 1) (v := .int .i64 fk) rfl; have f2 := hb4.cell (i := 2) (v := .int .i64 fq) rfl; have hi4 := Lib.hid (hi3.out.ext hx4))
        | (go_at_call 15; (with_reducible refine (hsd.out _ hi4.out).mono ?_); rintro e w5 ⟨rfl, hx5⟩; have hb5 := hb4.ext hx5; have f0 := hb5.cell (i := 0) (v := .int .i64 fp) rfl; have f1 := hb5.cell (i := 1) (v := .int .i64 fk) rfl; have f2 := hb5.cell (i := 2) (v := .int .i64 fq) rfl; have hi5 := Lib.hid (hi4.out.ext hx5))
        | (go_at_call 16; (with_reducible refine (hps.out _ hi5.out).mono ?_); rintro e w6 ⟨⟨v, rfl, hrow⟩, hx6⟩; obtain ⟨p1, c1, rfl, ho⟩ := hrow.own segF_len; replace ho := Lib.hid ho.sat)
        | (go_at_call 17; (with_reducible refine (hjn.out _ _ _ ho.out).mono ?_); rintro e w7 ⟨⟨hP, rfl⟩ | ⟨hP, rfl⟩ | ⟨hP, rfl⟩, hx7⟩ <;> first | (exfalso; exact jn_no1 HO.out hP) | (exfalso; exact jn_no2 HO.out hP) | skip))
      go_ret
      exact ⟨rfl, ((hx3.out.trans hx4).trans hx5).trans (hx6.trans hx7)⟩
    · have hn : L = [] := hnil h0
      subst hn
      have h0' : (C == 0) = false := by simpa using h0
      clear hnil
      go_wp2_with (first
        | (go_at_call 14; (with_reducible refine (hid.out _ hi3.out).mono ?_); rintro e w4 ⟨rfl, hx4⟩; have hb4 := hbx.ext hx4; have f0 := hb4.cell (i := 0) (v := .int .i64 fp) rfl; have f1 := hb4.cell (i := 1) (v := .int .i64 fk) rfl; have f2 := hb4.cell (i := 2) (v := .int .i64 fq) rfl; have hi4 := Lib.hid (hi3.out.ext hx4))
        | (go_at_call 15; (with_reducible refine (hsd.out _ hi4.out).mono ?_); rintro e w5 ⟨rfl, hx5⟩; have hb5 := hb4.ext hx5; have f0 := hb5.cell (i := 0) (v := .int .i64 fp) rfl; have f1 := hb5.cell (i := 1) (v := .int .i64 fk) rfl; have f2 := hb5.cell (i := 2) (v := .int .i64 fq) rfl; have hi5 := Lib.hid (hi4.out.ext hx5))
        | (go_at_call 16; (with_reducible refine (hps.out _ hi5.out).mono ?_); rintro e w6 ⟨⟨v, rfl, hrow⟩, hx6⟩; obtain ⟨p1, c1, rfl, ho⟩ := hrow.own segF_len; replace ho := Lib.hid ho.sat)
        | (go_at_call 17; (with_reducible refine (hjn.out _ _ _ ho.out).mono ?_); rintro e w7 ⟨⟨hP, rfl⟩ | ⟨hP, rfl⟩ | ⟨hP, rfl⟩, hx7⟩ <;> first | (exfalso; exact jn_no1 HO.out hP) | (exfalso; exact jn_no2 HO.out hP) | skip))
      go_ret
      exact ⟨rfl, ((hx3.out.trans hx4).trans hx5).trans hx6⟩
  · go_enter Try.func3, Try.ntmps3
    go_wp2_with (first
      | (go_at_call 12; (with_reducible refine (big_c _ _ _ _ hl).mono ?_); rintro e w1 ⟨⟨hP, rfl⟩ | ⟨hP, rfl⟩, rfl⟩ <;> first | (exfalso; omega) | skip))
    go_ret
    exact ⟨rfl, (by repeat (first | exact Ext.refl _ | assumption | refine Ext.drew ?_ | refine Ext.drewN ?_ _ | refine Ext.iter ?_ _ _ | refine Ext.alloc ?_ _ | refine Ext.setCell ?_ (by first | exact Nat.le_refl _ | (simp <;> omega)) _ | refine Ext.trans2 (by assumption) ?_))⟩
end Go.Proofs.Ytbnpdpmbbppnhaa
