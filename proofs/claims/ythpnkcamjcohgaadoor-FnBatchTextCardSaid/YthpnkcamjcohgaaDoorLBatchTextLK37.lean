/- Numbers in decimal, read on both sides. -/
import Derived.Test.YthpnkcamjcohgaaDoorLBatchTextLK36
import Derived.Test.YthpnkcamjcohgaaDoorLBatchTextLK27
import Derived.Test.YthpnkcamjcohgaaDoorLBatchTextLK28
import Derived.Test.YthpnkcamjcohgaaDoorLBatchTextLK02
import Derived.Deep.DeepCutAuto
namespace Go.Proofs.YthpnkcamjcohgaaDoor
set_option linter.unusedVariables false
set_option linter.unusedSimpArgs false
open Go.RowKit

/-- The library's two errors of numbers are there. -/
def ErrC (w : World) : Prop := (∃ tp p, w.var? Tryd.prog "strconv.ErrSyntax" = some #[.iface tp p]) ∧ ∃ tp p, w.var? Tryd.prog "strconv.ErrRange" = some #[.iface tp p]
theorem var_ext {w w' : World} {n : String} {cs : Array Value} (h : w.var? Tryd.prog n = some cs) (hb : Ext w w') : w'.var? Tryd.prog n = some cs := by
  unfold World.var? at *
  cases hg : Tryd.prog.globalNamed n with
  | none => simp [hg] at h
  | some g =>
    simp only [hg, Option.bind_some] at h ⊢
    have hlt : g < w.heap.size := by
      rcases Nat.lt_or_ge g w.heap.size with h' | h'
      · exact h'
      · rw [Array.getElem?_eq_none h'] at h; simp at h
    rw [hb.below.block g hlt]
    exact h
theorem ErrC.ext {w w' : World} (h : ErrC w) (hb : Ext w w') : ErrC w' := by
  obtain ⟨⟨t1, p1, h1⟩, t2, p2, h2⟩ := h
  exact ⟨⟨t1, p1, var_ext h1 hb⟩, t2, p2, var_ext h2 hb⟩
theorem ext_bytes (w : World) (e : TypeId) (t : ByteArray) : Ext w (Lib.bytesWorld w e t) := Lib.bytesWorld_below w e t
/-- What readDecimal tells. -/
def RdR (s : ByteArray) (n : Int) (b : Bool) : Prop := (b = true ∧ ∃ m : Nat, n = m ∧ s = dec m ∧ m ≤ 9223372036854775807) ∨ (b = false ∧ ∀ m : Nat, m ≤ 9223372036854775807 → s ≠ dec m)
def RdE (s : ByteArray) (e : Ending) : Prop := ∃ (n : Int) (b : Bool), e = .returned (.tuple #[.int .i64 n, .bool b]) ∧ RdR s n b
theorem RdR.no {s : ByteArray} {n : Int} (h : ¬ Numl s.data.toList) : RdR s n false := .inr ⟨rfl, fun m _ e => h (is_dec.1 ⟨m, e⟩)⟩
theorem RdR.yes {s : ByteArray} {v : Nat} (h : Numl s.data.toList) (hv : v = nvF 0 s.data.toList) (hb : v ≤ 9223372036854775807) : RdR s v true :=
  .inl ⟨rfl, v, rfl, by rw [hv]; exact dec_eq (num_dec _ _ rfl h).symm, hb⟩
set_option maxRecDepth 100000 in
theorem readDecimal_c (s : ByteArray) (w : World) (hs : s.size ≤ 1048576) (hE : ErrC w) :
    Calls Tryd.prog 68 #[.string s] w fun e w' => RdE s e ∧ Ext w w' := by
  by_cases h0 : s.size = 0
  · have e0 : s = ByteArray.empty := by
      apply ByteArray.ext
      exact Array.eq_empty_of_size_eq_zero h0
    subst e0
    have hR : RdR ByteArray.empty 0 false := RdR.no (fun h => h.1 rfl)
    go_enter Tryd.func68, Tryd.ntmps68
    go_wp2
    go_ret2
    exact ⟨⟨0, false, rfl, hR⟩, Ext.refl w⟩
  · have hp : 0 < s.size := by omega
    obtain ⟨c, r, hcr⟩ : ∃ c r, s.data.toList = c :: r := by
      cases hl : s.data.toList with
      | nil => exact absurd (by have : s.data.toList.length = 0 := by rw [hl]; rfl
                                simpa using this) h0
      | cons c r => exact ⟨c, r, rfl⟩
    have hc : s[0]'hp = c := by
      have h1 : s.data.toList[0]? = some c := by rw [hcr]; rfl
      have h2 : s.data[0]? = some c := by simpa using h1
      exact (Array.getElem?_eq_some_iff.1 h2).2
    have hne : s.toList.isEmpty = false := by rw [ByteArray.toList_eq, hcr]; rfl
    have hlr : r.length + 1 = s.size := by
      have : s.data.toList.length = s.size := by simp
      rw [hcr] at this
      simpa using this
    by_cases hz : 1 < s.size ∧ c.toNat = 48
    · have hR : RdR s 0 false := RdR.no (fun h => h.2.2 (by rw [hcr]; simp; omega) (by
        rw [hcr]
        show some c = some 48
        rw [show c = 48 from UInt8.toNat_inj.1 hz.2]))
      have g1 : (1 : Int) < s.size := by omega
      have g2 : ((c.toNat : Int) == 48) = true := by rw [hz.2]; rfl
      go_enter Tryd.func68, Tryd.ntmps68
      go_wp2
      go_ret2
      exact ⟨⟨0, false, rfl, hR⟩, Ext.refl w⟩
    · by_cases hsg : c.toNat = 43 ∨ c.toNat = 45
      · have hR : RdR s 0 false := RdR.no (fun h => by
          have := h.2.1 c (by rw [hcr]; simp)
          unfold isDg at this
          omega)
        have g2 : ((c.toNat : Int) == 48) = false := by apply beq_eq_false_iff_ne.2; omega
        rcases hsg with hsg | hsg
        · have g3 : ((c.toNat : Int) == 43) = true := by rw [hsg]; rfl
          by_cases g1 : (1 : Int) < s.size
          · go_enter Tryd.func68, Tryd.ntmps68
            go_wp2
            go_ret2
            exact ⟨⟨0, false, rfl, hR⟩, Ext.refl w⟩
          · go_enter Tryd.func68, Tryd.ntmps68
            go_wp2
            go_ret2
            exact ⟨⟨0, false, rfl, hR⟩, Ext.refl w⟩
        · have g3 : ((c.toNat : Int) == 43) = false := by rw [hsg]; rfl
          have g4 : ((c.toNat : Int) == 45) = true := by rw [hsg]; rfl
          by_cases g1 : (1 : Int) < s.size
          · go_enter Tryd.func68, Tryd.ntmps68
            go_wp2
            go_ret2
            exact ⟨⟨0, false, rfl, hR⟩, Ext.refl w⟩
          · go_enter Tryd.func68, Tryd.ntmps68
            go_wp2
            go_ret2
            exact ⟨⟨0, false, rfl, hR⟩, Ext.refl w⟩
      · have g3 : ((c.toNat : Int) == 43) = false := by apply beq_eq_false_iff_ne.2; omega
        have g4 : ((c.toNat : Int) == 45) = false := by apply beq_eq_false_iff_ne.2; omega
        have hnum : (∀ b ∈ s.data.toList, isDg b) → Numl s.data.toList := fun h => ⟨by rw [hcr]; simp, h, fun hl e => by
          rw [hcr] at e hl
          have e2 : c = 48 := by simpa using e
          exact hz ⟨by simp at hl; omega, by rw [e2]; rfl⟩⟩
        have hpi := parseI s c r hcr (by omega)
        have hcase : ∃ (n : Int) (b : Bool), RdR s n b ∧ ∀ W, ErrC W → Calls Tryd.prog 109 #[.string s, .int .i64 10, .int .i64 64] W fun e w' => (∃ v, e = .returned (.tuple #[.int .i64 n, v]) ∧ ((b = true ∧ v = .nilIface) ∨ (b = false ∧ ∃ t N, v = .iface t (.pointer (some ⟨N, 0, none⟩))))) ∧ Ext W w' := by
          rcases hpi with ⟨v, h1, h2, h3, h4⟩ | ⟨h1, h2⟩
          · refine ⟨v, true, RdR.yes (hnum h2) h3 h4, fun W _ => (Tryd.strconv_ParseInt_10_at64_ok s (by omega) v h1 W).mono ?_⟩
            rintro e w' ⟨rfl, hw⟩
            refine ⟨⟨.nilIface, rfl, .inl ⟨rfl, rfl⟩⟩, ?_⟩
            rcases hw with rfl | ⟨t, rfl⟩
            · exact Ext.refl _
            · exact ext_bytes _ _ _
          · have hR : ∀ n, RdR s n false := fun n => .inr ⟨rfl, fun m hm e => h2 (by
              have hN : Numl s.data.toList := is_dec.1 ⟨m, e⟩
              exact ⟨hN.2.1, by rw [e, dec_val]; exact hm⟩)⟩
            cases hp : Lib.parseIntB 64 s.data.toList with
            | ok v => exact absurd hp (h1 v)
            | range =>
              refine ⟨Lib.intSat 64 s.data.toList, false, hR _, fun W hE => ?_⟩
              obtain ⟨-, t2, p2, hv2⟩ := hE
              refine (Tryd.strconv_ParseInt_10_at64_range_var s (by omega) hp t2 p2 W hv2).mono ?_
              rintro e w' ⟨N, rfl, -, -, hb⟩
              exact ⟨⟨_, rfl, .inr ⟨rfl, _, N, rfl⟩⟩, hb⟩
            | _ =>
              refine ⟨0, false, hR _, fun W hE => ?_⟩
              obtain ⟨⟨t1, p1, hv1⟩, -⟩ := hE
              refine (Tryd.strconv_ParseInt_10_at64_syntax_var s (by omega) hp t1 p1 W hv1).mono ?_
              rintro e w' ⟨N, rfl, -, -, hb⟩
              exact ⟨⟨_, rfl, .inr ⟨rfl, _, N, rfl⟩⟩, hb⟩
        obtain ⟨n, b, hR, hpc⟩ := hcase
        replace hpc := Lib.hid hpc; replace hR := Lib.hid hR
        clear hpi hnum hcr hlr
        by_cases g1 : (1 : Int) < s.size
        · have g2 : ((c.toNat : Int) == 48) = false := by apply beq_eq_false_iff_ne.2; intro e; exact hz ⟨by omega, by omega⟩
          go_enter Tryd.func68, Tryd.ntmps68
          go_upto_region 4 with (go_at_call 109; (with_reducible refine (hpc.out _ hE).mono ?_); rintro e w1 ⟨⟨v, rfl, hv⟩, hx1⟩; rcases hv with ⟨hb, rfl⟩ | ⟨hb, t, N, rfl⟩ <;> subst hb)
          all_goals
            go_quiet (fail)
            go_wp2
            go_ret2
            exact ⟨⟨n, _, rfl, hR.out⟩, hx1.trans (by repeat (first | exact Ext.refl _ | assumption | refine Ext.drew ?_ | refine Ext.drewN ?_ _ | refine Ext.iter ?_ _ _ | refine Ext.alloc ?_ _ | refine Ext.setCell ?_ (by first | exact Nat.le_refl _ | (simp <;> omega)) _ | refine Ext.trans2 (by assumption) ?_))⟩
        · go_enter Tryd.func68, Tryd.ntmps68
          go_upto_region 4 with (go_at_call 109; (with_reducible refine (hpc.out _ hE).mono ?_); rintro e w1 ⟨⟨v, rfl, hv⟩, hx1⟩; rcases hv with ⟨hb, rfl⟩ | ⟨hb, t, N, rfl⟩ <;> subst hb)
          all_goals
            go_quiet (fail)
            go_wp2
            go_ret2
            exact ⟨⟨n, _, rfl, hR.out⟩, hx1.trans (by repeat (first | exact Ext.refl _ | assumption | refine Ext.drew ?_ | refine Ext.drewN ?_ _ | refine Ext.iter ?_ _ _ | refine Ext.alloc ?_ _ | refine Ext.setCell ?_ (by first | exact Nat.le_refl _ | (simp <;> omega)) _ | refine Ext.trans2 (by assumption) ?_))⟩
theorem str_eq {a b : ByteArray} : (a.toList == b.toList) = true ↔ a = b := by
  rw [beq_iff_eq, ByteArray.toList_eq, ByteArray.toList_eq]
  exact ⟨fun h => ByteArray.ext (Array.toList_inj.1 h), fun h => by rw [h]⟩
/-- What l01Value tells. -/
def VaR (s : ByteArray) (n : Int) (b : Bool) : Prop := (b = true ∧ ∃ m : Nat, n = m ∧ s = dec m ∧ m ≤ 999999999999 ∧ s.size ≤ 12) ∨ (b = false ∧ ∀ m : Nat, s = dec m → 12 < s.size)
def VaE (s : ByteArray) (e : Ending) : Prop := ∃ (n : Int) (b : Bool), e = .returned (.tuple #[.int .i64 n, .bool b]) ∧ VaR s n b
theorem VaR.no {s : ByteArray} {n : Int} (h : s.size ≤ 12 → ¬ Numl s.data.toList) : VaR s n false := .inr ⟨rfl, fun m e => Nat.lt_of_not_le fun h2 => h h2 (is_dec.1 ⟨m, e⟩)⟩
theorem nvF_bd : ∀ (l : List UInt8) (a : Nat), (∀ b ∈ l, isDg b) → nvF a l + 1 ≤ (a + 1) * 10 ^ l.length
  | [], a, _ => by
    show a + 1 ≤ (a + 1) * 1
    omega
  | b :: l, a, h => by
    have hb := h b (by simp)
    unfold isDg at hb
    have ih := nvF_bd l (10 * a + (b.toNat - 48)) (fun c hc => h c (by simp [hc]))
    have h2 : (10 * a + (b.toNat - 48) + 1) * 10 ^ l.length ≤ (a + 1) * 10 * 10 ^ l.length := Nat.mul_le_mul_right _ (by omega)
    show nvF (10 * a + (b.toNat - 48)) l + 1 ≤ _
    rw [List.length_cons, Nat.pow_succ, Nat.mul_comm (10 ^ l.length) 10, ← Nat.mul_assoc]
    exact Nat.le_trans ih h2
theorem nvF_take {l : List UInt8} {k : Nat} (hk : k < l.length) : nvF 0 (l.take (k + 1)) = 10 * nvF 0 (l.take k) + ((l[k]'hk).toNat - 48) := by
  rw [List.take_succ_eq_append_getElem hk, nvF_app]; rfl
theorem get_data {s : ByteArray} {k : Nat} (h : k < s.size) (h2 : k < s.data.toList.length) : s.data.toList[k]'h2 = s[k]'h := by
  simp; rfl
set_option maxHeartbeats 800000 in
set_option maxRecDepth 100000 in
theorem sValue_c (s : ByteArray) (w : World) (hs : s.size ≤ 1048576) :
    Calls Tryd.prog 110 #[.string s] w fun e w' => VaE s e ∧ Ext w w' := by
  by_cases h1 : s.size < 1
  · have hR : VaR s 0 false := VaR.no (fun _ h => h.1 (List.length_eq_zero_iff.1 (by have : s.data.toList.length = s.size := by simp
                                                                                     omega)))
    have g1 : (s.size : Int) < 1 := by omega
    go_enter Tryd.func110, Tryd.ntmps110
    go_wp2
    go_ret2
    exact ⟨⟨0, false, rfl, hR⟩, Ext.refl w⟩
  · by_cases h12 : 12 < s.size
    · have hR : VaR s 0 false := VaR.no (fun h _ => by omega)
      have g1 : ¬ (s.size : Int) < 1 := by omega
      have g2 : (12 : Int) < s.size := by omega
      go_enter Tryd.func110, Tryd.ntmps110
      go_wp2
      go_ret2
      exact ⟨⟨0, false, rfl, hR⟩, Ext.refl w⟩
    · have g1 : ¬ (s.size : Int) < 1 := by omega
      have g2 : ¬ (12 : Int) < s.size := by omega
      have hll : s.data.toList.length = s.size := by simp
      obtain ⟨L, hL⟩ : ∃ L, s.data.toList = L := ⟨_, rfl⟩
      have hst : ∀ (k : Nat) (h : k < s.size), nvF 0 (L.take (k + 1)) = 10 * nvF 0 (L.take k) + ((s[k]'h).toNat - 48) ∧ L.take (k + 1) = L.take k ++ [s[k]'h] ∧ s[k]'h ∈ L := fun k h => by
        have h2 : k < L.length := by rw [← hL, hll]; exact h
        have e : L[k]'h2 = s[k]'h := by
          have := get_data h (by rw [hll]; exact h)
          simp only [hL] at this
          exact this
        have := nvF_take h2
        rw [e] at this
        exact ⟨this, by rw [List.take_succ_eq_append_getElem h2, e], by rw [← e]; exact List.getElem_mem h2⟩
      have hbd : ∀ (k : Nat), k ≤ s.size → (∀ b ∈ L.take k, isDg b) → nvF 0 (L.take k) ≤ 999999999999 := fun k hk h => by
        have h2 := nvF_bd (L.take k) 0 h
        have h3 : (L.take k).length ≤ 12 := by rw [List.length_take]; omega
        have h4 : (10 : Nat) ^ (L.take k).length ≤ 10 ^ 12 := Nat.pow_le_pow_right (by omega) h3
        omega
      have hno : (∃ b ∈ L, ¬ isDg b) → VaR s 0 false := fun ⟨b, hb, hd⟩ => VaR.no (fun _ h => hd (h.2.1 b (by rw [hL]; exact hb)))
      have hall : L.take s.size = L := by rw [← hll, hL]; exact List.take_length
      have hval : (∀ b ∈ L, isDg b) → nvF 0 L ≤ 999999999999 → ∀ (b : Bool), (b = true ↔ dec (nvF 0 L) = s) → VaR s (nvF 0 L) b := fun hd hb b h => by
        cases b with
        | true => exact .inl ⟨rfl, nvF 0 L, rfl, (h.1 rfl).symm, hb, by omega⟩
        | false => exact .inr ⟨rfl, fun m e => by
            have e2 : nvF 0 L = m := by rw [← hL, e, dec_val]
            exact absurd (h.2 (by rw [e2, e])) (by decide)⟩
      replace hst := Lib.hid hst; replace hbd := Lib.hid hbd; replace hno := Lib.hid hno; replace hall := Lib.hid hall; replace hval := Lib.hid hval
      clear hL hll
      go_enter Tryd.func110, Tryd.ntmps110
      go_upto_region 5 with (fail)
      go_loop [4, 5] (fun v i => ∃ k : Nat, k ≤ s.size ∧ i = .int .i64 k ∧ v = .int .i64 (nvF 0 (L.take k)) ∧ Hid (∀ b ∈ L.take k, isDg b)) (fun _ i => s.size - (intOf i).toNat)
      case atStart => exact ⟨0, Nat.zero_le _, rfl, rfl, Lib.hid (by simp)⟩
      case round =>
        obtain ⟨k, hk, rfl, rfl, hdg⟩ := hrel
        have hbk := hbd.out k hk hdg.out
        by_cases hlt : k < s.size
        · obtain ⟨e1, e2, e3⟩ := hst.out k hlt
          have h8 : (s[k]'hlt).toNat < 256 := UInt8.toNat_lt _
          by_cases a1 : ((s[k]'hlt).toNat : Int) < 48
          · have hR := Lib.hid (hno.out ⟨_, e3, fun h => by unfold isDg at h; omega⟩)
            clear e1 e2 e3
            go_wp2
            go_ret2
            exact ⟨⟨0, false, rfl, hR.out⟩, Ext.refl w⟩
          · by_cases a2 : (57 : Int) < ((s[k]'hlt).toNat : Int)
            · have hR := Lib.hid (hno.out ⟨_, e3, fun h => by unfold isDg at h; omega⟩)
              clear e1 e2 e3
              go_wp2
              go_ret2
              exact ⟨⟨0, false, rfl, hR.out⟩, Ext.refl w⟩
            · have hd2 : ∀ b ∈ L.take (k + 1), isDg b := fun b hb => by
                rw [e2] at hb
                rcases List.mem_append.1 hb with hb | hb
                · exact hdg.out b hb
                · rw [List.mem_singleton.1 hb]; unfold isDg; omega
              have hd3 := hbd.out (k + 1) hlt hd2
              replace hd2 := Lib.hid hd2
              have e4 : ((nvF 0 (L.take (k + 1)) : Nat) : Int) = 10 * (nvF 0 (L.take k) : Int) + (((s[k]'hlt).toNat : Int) - 48) := by omega
              have u1 : IntKind.u8.wrap (((s[k]'hlt).toNat : Int) - 48) = ((s[k]'hlt).toNat : Int) - 48 := IntWalk.u8_in _ (by omega)
              replace e4 := Lib.hid e4
              clear e1 e2 e3
              generalize nvF 0 (L.take k) = N at *
              go_wp2
              go_round
              case rel => exact ⟨k + 1, hlt, by go_num, by rw [e4.out], hd2⟩
              case measure => simp [intOf]; omega
        · obtain rfl : k = s.size := by omega
          have hdg2 := hdg.out
          rw [hall.out] at hdg2 hbk ⊢
          have hdc := Lib.hid (fun W => sDec_c (nvF 0 L) W (by omega))
          have hv := Lib.hid (hval.out hdg2 hbk)
          generalize nvF 0 L = N at *
          clear hdg2
          replace hbk := Lib.hid hbk
          go_wp2_with (go_at_call 73; (with_reducible refine (hdc.out _).mono ?_); rintro e w1 ⟨rfl, hx1⟩)
          go_ret2
          exact ⟨⟨N, _, rfl, hv.out _ str_eq⟩, hx1⟩
end Go.Proofs.YthpnkcamjcohgaaDoor
