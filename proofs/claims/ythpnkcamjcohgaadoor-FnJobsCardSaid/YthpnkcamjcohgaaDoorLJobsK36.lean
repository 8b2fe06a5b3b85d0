/- Numbers in decimal, read on both sides. -/
import Derived.Test.YthpnkcamjcohgaaDoorLJobsK18
import Derived.Test.YthpnkcamjcohgaaDoorLJobsK24
import Derived.Test.YthpnkcamjcohgaaDoorLJobsK27
import Derived.Test.YthpnkcamjcohgaaDoorLJobsK02
import Derived.Deep.DeepCutAuto
namespace Go.Proofs.YthpnkcamjcohgaaDoor
set_option linter.unusedVariables false
set_option linter.unusedSimpArgs false
open Go.RowKit

/-- The library's two errors of numbers are there. -/
def ErrC (w : World) : Prop := (∃ tp p, w.var? Tryd.prog "strconv.ErrSyntax" = some #[.iface tp p]) ∧ ∃ tp p, w.var? Tryd.prog "strconv.ErrRange" = some #[.iface tp p]
theorem var_ext {w w' : World} {n : String} {cs : Array Value} (h : w.var? Tryd.prog n = some cs) (hb : Ext w w') : w'.var? Tryd.prog n = some cs := by
  unfold World.var? at *
  cases hg : Tryd.prog.globalNamed n with
  | none => simp [hg] at h
  | some g =>
    simp only [hg, Option.bind_some] at h ⊢
    have hlt : g < w.heap.size := by
      rcases Nat.lt_or_ge g w.heap.size with h' | h'
      · exact h'
      · rw [Array.getElem?_eq_none h'] at h; simp at h
    rw [hb.below.block g hlt]
    exact h
theorem ErrC.ext {w w' : World} (h : ErrC w) (hb : Ext w w') : ErrC w' := by
  obtain ⟨⟨t1, p1, h1⟩, t2, p2, h2⟩ := h
  exact ⟨⟨t1, p1, var_ext h1 hb⟩, t2, p2, var_ext h2 hb⟩
theorem ext_bytes (w : World) (e : TypeId) (t : ByteArray) : Ext w (Lib.bytesWorld w e t) := Lib.bytesWorld_below w e t
/-- What readDecimal tells. -/
def RdR (s : ByteArray) (n : Int) (b : Bool) : Prop := (b = true ∧ ∃ m : Nat, n = m ∧ s = dec m ∧ m ≤ 9223372036854775807) ∨ (b = false ∧ ∀ m : Nat, m ≤ 9223372036854775807 → s ≠ dec m)
def RdE (s : ByteArray) (e : Ending) : Prop := ∃ (n : Int) (b : Bool), e = .returned (.tuple #[.int .i64 n, .bool b]) ∧ RdR s n b
theorem RdR.no {s : ByteArray} {n : Int} (h : ¬ Numl s.data.toList) : RdR s n false := .inr ⟨rfl, fun m _ e => h (is_dec.1 ⟨m, e⟩)⟩
theorem RdR.yes {s : ByteArray} {v : Nat} (h : Numl s.data.toList) (hv : v = nvF 0 s.data.toList) (hb : v ≤ 9223372036854775807) : RdR s v true :=
  .inl ⟨rfl, v, rfl, by rw [hv]; exact dec_eq (num_dec _ _ rfl h).symm, hb⟩
set_option maxRecDepth 100000 in
theorem readDecimal_c (s : ByteArray) (w : World) (hs : s.size ≤ 1048576) (hE : ErrC w) :
    Calls Tryd.prog 68 #[.string s] w fun e w' => RdE s e ∧ Ext w w' := by
  by_cases h0 : s.size = 0
  · have e0 : s = ByteArray.empty := by
      apply ByteArray.ext
      exact Array.eq_empty_of_size_eq_zero h0
    subst e0
    have hR : RdR ByteArray.empty 0 false := RdR.no (fun h => h.1 rfl)
    go_enter Tryd.func68, Tryd.ntmps68
    go_wp2
    go_ret2
    exact ⟨⟨0, false, rfl, hR⟩, Ext.refl w⟩
  · have hp : 0 < s.size := by omega
    obtain ⟨c, r, hcr⟩ : ∃ c r, s.data.toList = c :: r := by
      cases hl : s.data.toList with
      | nil => exact absurd (by have : s.data.toList.length = 0 := by rw [hl]; rfl
                                simpa using this) h0
      | cons c r => exact ⟨c, r, rfl⟩
    have hc : s[0]'hp = c := by
      have h1 : s.data.toList[0]? = some c := by rw [hcr]; rfl
      have h2 : s.data[0]? = some c := by simpa using h1
      exact (Array.getElem?_eq_some_iff.1 h2).2
    have hne : s.toList.isEmpty = false := by rw [ByteArray.toList_eq, hcr]; rfl
    have hlr : r.length + 1 = s.size := by
      have : s.data.toList.length = s.size := by simp
      rw [hcr] at this
      simpa using this
    by_cases hz : 1 < s.size ∧ c.toNat = 48
    · have hR : RdR s 0 false := RdR.no (fun h => h.2.2 (by rw [hcr]; simp; omega) (by
        rw [hcr]
        show some c = some 48
        rw [show c = 48 from UInt8.toNat_inj.1 hz.2]))
      have g1 : (1 : Int) < s.size := by omega
      have g2 : ((c.toNat : Int) == 48) = true := by rw [hz.2]; rfl
      go_enter Tryd.func68, Tryd.ntmps68
      go_wp2
      go_ret2
      exact ⟨⟨0, false, rfl, hR⟩, Ext.refl w⟩
    · by_cases hsg : c.toNat = 43 ∨ c.toNat = 45
      · have hR : RdR s 0 false := RdR.no (fun h => by
          have := h.2.1 c (by rw [hcr]; simp)
          unfold isDg at this
          omega)
        have g2 : ((c.toNat : Int) == 48) = false := by apply beq_eq_false_iff_ne.2; omega
        rcases hsg with hsg | hsg
        · have g3 : ((c.toNat : Int) == 43) = true := by rw [hsg]; rfl
          by_cases g1 : (1 : Int) < s.size
          · go_enter Tryd.func68, Tryd.ntmps68
            go_wp2
            go_ret2
            exact ⟨⟨0, false, rfl, hR⟩, Ext.refl w⟩
          · go_enter Tryd.func68, Tryd.ntmps68
            go_wp2
            go_ret2
            exact ⟨⟨0, false, rfl, hR⟩, Ext.refl w⟩
        · have g3 : ((c.toNat : Int) == 43) = false := by rw [hsg]; rfl
          have g4 : ((c.toNat : Int) == 45) = true := by rw [hsg]; rfl
          by_cases g1 : (1 : Int) < s.size
          · go_enter Tryd.func68, Tryd.ntmps68
            go_wp2
            go_ret2
            exact ⟨⟨0, false, rfl, hR⟩, Ext.refl w⟩
          · go_enter Tryd.func68, Tryd.ntmps68
            go_wp2
            go_ret2
            exact ⟨⟨0, false, rfl, hR⟩, Ext.refl w⟩
      · have g3 : ((c.toNat : Int) == 43) = false := by apply beq_eq_false_iff_ne.2; omega
        have g4 : ((c.toNat : Int) == 45) = false := by apply beq_eq_false_iff_ne.2; omega
        have hnum : (∀ b ∈ s.data.toList, isDg b) → Numl s.data.toList := fun h => ⟨by rw [hcr]; simp, h, fun hl e => by
          rw [hcr] at e hl
          have e2 : c = 48 := by simpa using e
          exact hz ⟨by simp at hl; omega, by rw [e2]; rfl⟩⟩
        have hpi := parseI s c r hcr (by omega)
        have hcase : ∃ (n : Int) (b : Bool), RdR s n b ∧ ∀ W, ErrC W → Calls Tryd.prog 109 #[.string s, .int .i64 10, .int .i64 64] W fun e w' => (∃ v, e = .returned (.tuple #[.int .i64 n, v]) ∧ ((b = true ∧ v = .nilIface) ∨ (b = false ∧ ∃ t N, v = .iface t (.pointer (some ⟨N, 0, none⟩))))) ∧ Ext W w' := by
          rcases hpi with ⟨v, h1, h2, h3, h4⟩ | ⟨h1, h2⟩
          · refine ⟨v, true, RdR.yes (hnum h2) h3 h4, fun W _ => (Tryd.strconv_ParseInt_10_at64_ok s (by omega) v h1 W).mono ?_⟩
            rintro e w' ⟨rfl, hw⟩
            refine ⟨⟨.nilIface, rfl, .inl ⟨rfl, rfl⟩⟩, ?_⟩
            rcases hw with rfl | ⟨t, rfl⟩
            · exact Ext.refl _
            · exact ext_bytes _ _ _
          · have hR : ∀ n, RdR s n false := fun n => .inr ⟨rfl, fun m hm e => h2 (by
              have hN : Numl s.data.toList := is_dec.1 ⟨m, e⟩
              exact ⟨hN.2.1, by rw [e, dec_val]; exact hm⟩)⟩
            cases hp : Lib.parseIntB 64 s.data.toList with
            | ok v => exact absurd hp (h1 v)
            | range =>
              refine ⟨Lib.intSat 64 s.data.toList, false, hR _, fun W hE => ?_⟩
              obtain ⟨-, t2, p2, hv2⟩ := hE
              refine (Tryd.strconv_ParseInt_10_at64_range_var s (by omega) hp t2 p2 W hv2).mono ?_
              rintro e w' ⟨N, rfl, -, -, hb⟩
              exact ⟨⟨_, rfl, .inr ⟨rfl, _, N, rfl⟩⟩, hb⟩
            | _ =>
              refine ⟨0, false, hR _, fun W hE => ?_⟩
              obtain ⟨⟨t1, p1, hv1⟩, -⟩ := hE
              refine (Tryd.strconv_ParseInt_10_at64_syntax_var s (by omega) hp t1 p1 W hv1).mono ?_
              rintro e w' ⟨N, rfl, -, -, hb⟩
              exact ⟨⟨_, rfl, .inr ⟨rfl, _, N, rfl⟩⟩, hb⟩
        obtain ⟨n, b, hR, hpc⟩ := hcase
        replace hpc := Lib.hid hpc; replace hR := Lib.hid hR
        clear hpi hnum hcr hlr
        by_cases g1 : (1 : Int) < s.size
        · have g2 : ((c.toNat : Int) == 48) = false := by apply beq_eq_false_iff_ne.2; intro e; exact hz ⟨by omega, by omega⟩
          go_enter Tryd.func68, Tryd.ntmps68
          go_upto_region 4 with (go_at_call 109; (with_reducible refine (hpc.out _ hE).mono ?_); rintro e w1 ⟨⟨v, rfl, hv⟩, hx1⟩; rcases hv with ⟨hb, rfl⟩ | ⟨hb, t, N, rfl⟩ <;> subst hb)
          all_goals
            go_quiet (fail)
            go_wp2
            go_ret2
            exact ⟨⟨n, _, rfl, hR.out⟩, hx1.trans (by repeat (first | exact Ext.refl _ | assumption | refine Ext.drew ?_ | refine Ext.drewN ?_ _ | refine Ext.iter ?_ _ _ | refine Ext.alloc ?_ _ | refine Ext.setCell ?_ (by first | exact Nat.le_refl _ | (simp <;> omega)) _ | refine Ext.trans2 (by assumption) ?_))⟩
        · go_enter Tryd.func68, Tryd.ntmps68
          go_upto_region 4 with (go_at_call 109; (with_reducible refine (hpc.out _ hE).mono ?_); rintro e w1 ⟨⟨v, rfl, hv⟩, hx1⟩; rcases hv with ⟨hb, rfl⟩ | ⟨hb, t, N, rfl⟩ <;> subst hb)
          all_goals
            go_quiet (fail)
            go_wp2
            go_ret2
            exact ⟨⟨n, _, rfl, hR.out⟩, hx1.trans (by repeat (first | exact Ext.refl _ | assumption | refine Ext.drew ?_ | refine Ext.drewN ?_ _ | refine Ext.iter ?_ _ _ | refine Ext.alloc ?_ _ | refine Ext.setCell ?_ (by first | exact Nat.le_refl _ | (simp <;> omega)) _ | refine Ext.trans2 (by assumption) ?_))⟩
theorem str_eq {a b : ByteArray} : (a.toList == b.toList) = true ↔ a = b := by
  rw [beq_iff_eq, ByteArray.toList_eq, ByteArray.toList_eq]
  exact ⟨fun h => ByteArray.ext (Array.toList_inj.1 h), fun h => by rw [h]⟩
/-- What l01Value tells. -/
def VaR (s : ByteArray) (n : Int) (b : Bool) : Prop := (b = true ∧ ∃ m : Nat, n = m ∧ s = dec m ∧ m ≤ 999999999999 ∧ s.size ≤ 12) ∨ (b = false ∧ ∀ m : Nat, s = dec m → 12 < s.size)
theorem VaR.no {s : ByteArray} {n : Int} (h : s.size ≤ 12 → ¬ Numl s.data.toList) : VaR s n false := .inr ⟨rfl, fun m e => Nat.lt_of_not_le fun h2 => h h2 (is_dec.1 ⟨m, e⟩)⟩
theorem nvF_bd : ∀ (l : List UInt8) (a : Nat), (∀ b ∈ l, isDg b) → nvF a l + 1 ≤ (a + 1) * 10 ^ l.length
  | [], a, _ => by
    show a + 1 ≤ (a + 1) * 1
    omega
  | b :: l, a, h => by
    have hb := h b (by simp)
    unfold isDg at hb
    have ih := nvF_bd l (10 * a + (b.toNat - 48)) (fun c hc => h c (by simp [hc]))
    have h2 : (10 * a + (b.toNat - 48) + 1) * 10 ^ l.length ≤ (a + 1) * 10 * 10 ^ l.length := Nat.mul_le_mul_right _ (by omega)
    show nvF (10 * a + (b.toNat - 48)) l + 1 ≤ _
    rw [List.length_cons, Nat.pow_succ, Nat.mul_comm (10 ^ l.length) 10, ← Nat.mul_assoc]
    exact Nat.le_trans ih h2
theorem get_data {s : ByteArray} {k : Nat} (h : k < s.size) (h2 : k < s.data.toList.length) : s.data.toList[k]'h2 = s[k]'h := by
  simp; rfl
end Go.Proofs.YthpnkcamjcohgaaDoor
