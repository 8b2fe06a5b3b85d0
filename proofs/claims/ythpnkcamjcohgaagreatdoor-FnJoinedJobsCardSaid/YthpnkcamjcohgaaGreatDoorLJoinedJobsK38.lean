/- The line of a band, as the reference reads it. -/
import Derived.Test.YthpnkcamjcohgaaGreatDoorLJoinedJobsK37
import Derived.Test.YthpnkcamjcohgaaGreatDoorLJoinedJobsK34
namespace Go.Proofs.YthpnkcamjcohgaaGreatDoor
set_option linter.unusedVariables false
set_option linter.unusedSimpArgs false
open Go.RowKit

/-- What stands ahead of byte k; open digits from byte f on. -/
structure RSs (C : Nat) (l : List UInt8) (k c : Nat) (r : List Int) (f : Nat) : Prop where
  le : f ≤ k
  st : foldJ false C (l.take k) (some (1, [], [])) = some (c, r, (l.take k).drop f)
  dg : ∀ b ∈ (l.take k).drop f, isDg b
theorem RSs.start (C : Nat) (l : List UInt8) : RSs C l 0 1 [] 0 := ⟨Nat.le_refl _, rfl, fun b hb => by cases hb⟩
theorem take_succ_drop {l : List UInt8} {k f : Nat} (hk : k < l.length) (hf : f ≤ k) : (l.take (k + 1)).drop f = (l.take k).drop f ++ [l[k]'hk] := by
  rw [List.take_succ_eq_append_getElem hk, List.drop_append_of_le_length (by rw [List.length_take]; omega)]
theorem take_drop_nil (l : List UInt8) (k : Nat) : (l.take k).drop k = [] := List.drop_eq_nil_of_le (by rw [List.length_take]; omega)
theorem ne_of_dg {x : UInt8} (h : isDg x) : ¬ x = 120 ∧ ¬ (x = 97 ∨ x = 98) := by
  have := dg_ne h
  exact ⟨this.1, fun h => h.elim this.2.1 this.2.2.1⟩
theorem RSs.digit {C k c f : Nat} {l : List UInt8} {r : List Int} (h : RSs C l k c r f) (hk : k < l.length) {x : UInt8} (hx : l[k]'hk = x) (hd : isDg x) : RSs C l (k + 1) c r f := by
  refine ⟨Nat.le_succ_of_le h.le, ?_, fun b hb => ?_⟩
  · rw [foldJ_take hk, h.st, hx, stepJ_some, if_neg (ne_of_dg hd).1, if_neg (ne_of_dg hd).2, if_pos ⟨hd, fun e => by cases e⟩, take_succ_drop hk h.le, hx]
  · rw [take_succ_drop hk h.le, hx, List.mem_append, List.mem_singleton] at hb
    rcases hb with hb | rfl
    · exact h.dg b hb
    · exact hd
theorem VaR.numl {t : ByteArray} {n : Int} {d : List UInt8} (h : VaR t n false) (ht : t.data.toList = d) : ¬ (Numl d ∧ nvF 0 d ≤ 40000) := fun ⟨h1, h2⟩ => by
  subst ht
  rcases h with ⟨h, _⟩ | ⟨_, h⟩
  · cases h
  · have e := dec_eq (num_dec _ _ rfl h1).symm
    have h3 := h _ e
    rw [e] at h3
    have h4 : (dec ((nvF 0 t.data.toList : Nat) : Int)).size ≤ 6 := by rw [dec_size, Lib.itoa_nonneg]; exact dec_len 5 _ (by omega)
    omega
theorem RSs.fail {C k c f : Nat} {l : List UInt8} {r : List Int} (h : RSs C l k c r f) (hC : C ≤ 40000) (hk : k < l.length) {x : UInt8} (hx : l[k]'hk = x) (hd : ¬ isDg x) (hn : ¬ (Numl ((l.take k).drop f) ∧ 1 ≤ nvF 0 ((l.take k).drop f) ∧ nvF 0 ((l.take k).drop f) ≤ 40000 ∧ ((x = 120 ∧ r = []) ∨ ((x = 97 ∨ x = 98) ∧ nvF 0 ((l.take k).drop f) + r.length ≤ C)))) : ∀ n r, ¬ lineOK false C l n r := by
  refine lineOK_fail (k := k + 1) ?_
  rw [foldJ_take hk, h.st, hx, stepJ_some]
  by_cases h1 : x = 120
  · rw [if_pos h1, if_neg (fun hh => hn ⟨hh.1, hh.2.2.1, hh.2.2.2, .inl ⟨h1, hh.2.1⟩⟩)]
  · rw [if_neg h1]
    by_cases h2 : x = 97 ∨ x = 98
    · rw [if_pos h2, if_neg (fun hh => hn ⟨hh.1, hh.2.1, by omega, .inr ⟨h2, hh.2.2⟩⟩)]
    · rw [if_neg h2, if_neg (fun hh => hd hh.1)]
theorem RSs.xYes {C k c f m : Nat} {l : List UInt8} (h : RSs C l k c [] f) (hk : k < l.length) (hx : l[k]'hk = 120) (hn : Numl ((l.take k).drop f)) (hv : nvF 0 ((l.take k).drop f) = m) (h1 : 1 ≤ m) (h2 : m ≤ 40000) : RSs C l (k + 1) m [] (k + 1) := by
  refine ⟨Nat.le_refl _, ?_, fun b hb => by rw [take_drop_nil] at hb; cases hb⟩
  rw [foldJ_take hk, h.st, hx, stepJ_some, if_pos rfl, hv, if_pos ⟨hn, rfl, h1, h2⟩, take_drop_nil]
theorem RSs.abYes {C k c f m : Nat} {l : List UInt8} {r : List Int} (h : RSs C l k c r f) (hk : k < l.length) {x : UInt8} (hx : l[k]'hk = x) (hx2 : x = 97 ∨ x = 98) (hn : Numl ((l.take k).drop f)) (hv : nvF 0 ((l.take k).drop f) = m) (h1 : 1 ≤ m) (h2 : m + r.length ≤ C) : RSs C l (k + 1) c (r ++ List.replicate m ((x.toNat : Int) - 97)) (k + 1) := by
  refine ⟨Nat.le_refl _, ?_, fun b hb => by rw [take_drop_nil] at hb; cases hb⟩
  have hne : ¬ x = 120 := by rcases hx2 with rfl | rfl <;> decide
  rw [foldJ_take hk, h.st, hx, stepJ_some, if_neg hne, if_pos hx2, hv, if_pos ⟨hn, h1, h2⟩, take_drop_nil]
theorem RSs.done {C k c f : Nat} {l : List UInt8} {r : List Int} (h : RSs C l k c r f) (hk : k = l.length) : (r.length = C → lineOK false C l c r) ∧ (¬ r.length = C → ∀ n r, ¬ lineOK false C l n r) := by
  subst hk
  have h1 := h.st
  rw [List.take_length] at h1
  refine ⟨fun hc => ⟨⟨_, h1, fun e => by cases e⟩, hc⟩, fun hc n r' hh => ?_⟩
  obtain ⟨⟨d', h2, _⟩, h3⟩ := hh
  rw [h1] at h2
  simp only [Option.some.injEq, Prod.mk.injEq] at h2
  obtain ⟨-, rfl, -⟩ := h2
  exact hc h3
/-- What l30Line tells. -/
def RlR (B C : Nat) (l : List UInt8) (e : Ending) (w' : World) : Prop :=
  (∃ (n : Nat) (r : List Int) (v : Value), e = .returned (.tuple #[.int .i64 n, v, .bool true]) ∧ RowI B w' v r ∧ lineOK false C l n r ∧ n ≤ 40000) ∨
  (∃ (n : Int) (v : Value), e = .returned (.tuple #[.int .i64 n, v, .bool false]) ∧ ∀ n r, ¬ lineOK false C l n r)
theorem RlR.no {B C : Nat} {l : List UInt8} {w' : World} (n : Int) (v : Value) (h : ∀ n r, ¬ lineOK false C l n r) : RlR B C l (.returned (.tuple #[.int .i64 n, v, .bool false])) w' := .inr ⟨n, v, rfl, h⟩
theorem take_drop_ext (s : ByteArray) (f k : Nat) : (s.extract f k).data.toList = (s.data.toList.take k).drop f := by
  rw [ext_list, List.drop_take]
theorem rep_succ (r : List Int) (j : Nat) (v : Int) : (r ++ List.replicate j v) ++ [v] = r ++ List.replicate (j + 1) v := by
  rw [List.append_assoc, List.replicate_succ']
set_option maxHeartbeats 3200000 in
set_option maxRecDepth 100000 in
theorem l30Line_c (s : ByteArray) (C : Nat) (w : World) (hs : s.size ≤ 20000) (hC : C ≤ 40000) :
    Calls Tryz.prog 33 #[.string s, .int .i64 C] w fun e w' => RlR w.heap.size C s.data.toList e w' ∧ Ext w w' := by
  have hrow := RowI.made (B := w.heap.size) (w := w) (Nat.le_refl _)
  have hx0 : Ext w (w.alloc (.cells #[] 2)) := (Ext.refl w).alloc _
  have hsl := len_size s
  go_enter Tryz.func33, Tryz.ntmps33
  go_upto_region 5 with (fail)
  generalize w.alloc (.cells #[] 2) = w1 at *
  go_loopw [7, 8, 9, 10] (fun c v f i wr => ∃ (k cn fn : Nat) (r : List Int), k ≤ s.size ∧ i = .int .i64 k ∧ c = .int .i64 cn ∧ f = .int .i64 fn ∧ fn ≤ k ∧ RowI w.heap.size wr v r ∧ Ext w wr ∧ cn ≤ 40000 ∧ r.length ≤ C ∧ Hid (RSs C s.data.toList k cn r fn)) (fun _ _ _ i _ => s.size - (intOf i).toNat)
  case atStart => exact ⟨0, 1, 0, [], Nat.zero_le _, rfl, rfl, rfl, Nat.le_refl _, hrow, hx0, by omega, by simp, Lib.hid (RSs.start _ _)⟩
  case round =>
    clear hrow hx0
    obtain ⟨k, cn, fn, r, hk, rfl, rfl, rfl, hfk, hown, hext, hcn, hrC, hRS⟩ := hrel
    obtain ⟨p, c, rfl, -⟩ := hown.ownC
    by_cases hlt : k < s.size
    · have hki : (k : Int) < s.size := by omega
      have hkL : k < s.data.toList.length := by omega
      have hgd := get_data hlt hkL
      obtain ⟨x, hx⟩ : ∃ x, s[k]'hlt = x := ⟨_, rfl⟩
      rw [hx] at hgd
      have hx8 := byte_256 x
      by_cases hd : isDg x
      · have hyes := Lib.hid (hRS.out.digit hkL hgd hd)
        have d1 : (48 : Int) ≤ (x.toNat : Int) := by unfold isDg at hd; omega
        have d2 : (x.toNat : Int) ≤ 57 := by unfold isDg at hd; omega
        clear hd hgd
        go_wp2
        go_roundw
        case rel => exact ⟨k + 1, cn, fn, r, hlt, by go_num, rfl, rfl, by omega, hown, hext, hcn, hrC, hyes⟩
        case measure => simp [intOf]; omega
      · have htd := Lib.hid (take_drop_ext s fn k)
        have hez : (s.extract fn k).size ≤ 1048576 := by rw [ByteArray.size_extract]; omega
        have hvl := Lib.hid (fun W => sValue_c (s.extract fn k) W hez)
        have hnd : (x.toNat : Int) < 48 ∨ (¬ (x.toNat : Int) < 48 ∧ (57 : Int) < (x.toNat : Int)) := by unfold isDg at hd; omega
        have hfi : (fn : Int) ≤ k := by omega
        have hks : (k : Int) ≤ s.size := by omega
        replace hd := Lib.hid hd; replace hgd := Lib.hid hgd
        rcases hnd with d1 | ⟨d1, d2⟩
        all_goals
          go_upto_region 9 with (go_at_call 54; (with_reducible refine (hvl.out _).mono ?_); rintro e w2 ⟨⟨n, ok, rfl, hV⟩, hx2⟩)
          have hext2 := hext.trans hx2
          have hown2 := hown.ext hx2
          clear hvl hx2 hext hown
          cases ok
          · have hno := Lib.hid (hRS.out.fail hC hkL hgd.out hd.out (fun hh => hV.numl htd.out ⟨hh.1, hh.2.2.1⟩))
            replace hV := Lib.hid hV
            go_wp2
            go_ret3
            exact ⟨RlR.no _ _ hno.out, hext2⟩
          · obtain ⟨m, rfl, hN, hv⟩ : ∃ m : Nat, n = m ∧ Numl ((s.data.toList.take k).drop fn) ∧ nvF 0 ((s.data.toList.take k).drop fn) = m := by
              rcases hV with ⟨_, m, h1, h2, _⟩ | ⟨h, _⟩
              · exact ⟨m, h1, by rw [← htd.out, h2]; exact is_dec.1 ⟨m, rfl⟩, by rw [← htd.out, h2, dec_val]⟩
              · cases h
            clear hV
            replace hN := Lib.hid hN; replace hv := Lib.hid hv
            have hfl := Lib.hid (fun (h : ¬ (1 ≤ m ∧ m ≤ 40000 ∧ ((x = 120 ∧ r = []) ∨ ((x = 97 ∨ x = 98) ∧ m + r.length ≤ C)))) => hRS.out.fail hC hkL hgd.out hd.out (fun hh => h (by rw [hv.out] at hh; exact hh.2)))
            by_cases hm1 : m < 1
            · have hno := Lib.hid (hfl.out (fun hh => by omega))
              have g1 : (m : Int) < 1 := by omega
              go_wp2
              go_ret3
              exact ⟨RlR.no _ _ hno.out, hext2⟩
            · have g1 : ¬ (m : Int) < 1 := by omega
              by_cases hm4 : 40000 < m
              · have hno := Lib.hid (hfl.out (fun hh => by omega))
                have g2 : (40000 : Int) < m := by omega
                go_wp2
                go_ret3
                exact ⟨RlR.no _ _ hno.out, hext2⟩
              · have g2 : ¬ (40000 : Int) < m := by omega
                by_cases h120 : x = 120
                · have t1 : ((x.toNat : Int) == 120) = true := by rw [h120]; rfl
                  have t2 : ((x.toNat : Int) == 97) = false := by rw [h120]; rfl
                  have t3 : ((x.toNat : Int) == 98) = false := by rw [h120]; rfl
                  by_cases hr0 : r = []
                  · subst hr0
                    have hyes := Lib.hid (hRS.out.xYes hkL (hgd.out.trans h120) hN.out hv.out (by omega) (by omega))
                    replace h120 := Lib.hid h120
                    go_wp2
                    go_roundw
                    case rel => exact ⟨k + 1, m, k + 1, [], hlt, by go_num, rfl, by go_num, Nat.le_refl _, hown2, hext2, by omega, hrC, hyes⟩
                    case measure => simp [intOf]; omega
                  · have hno := Lib.hid (hfl.out (fun hh => hh.2.2.elim (fun h => hr0 h.2) (fun h => by rcases h.1 with h | h <;> rw [h120] at h <;> exact absurd h (by decide))))
                    have hr1 : ((r.length : Int) == 0) = false := by have := List.length_pos_iff.2 hr0; simp; exact hr0
                    replace h120 := Lib.hid h120
                    go_wp2
                    go_ret3
                    exact ⟨RlR.no _ _ hno.out, hext2⟩
                · have t1 : ((x.toNat : Int) == 120) = false := by simp; intro h; exact h120 (UInt8.toNat_inj.1 (by simpa using (by omega : x.toNat = 120)))
                  by_cases hab : x = 97 ∨ x = 98
                  · have hwx : IntKind.i64.wrap ((x.toNat : Int) - 97) = (x.toNat : Int) - 97 := IntWalk.i64_in _ (by omega)
                    by_cases hrm : m + r.length ≤ C
                    · have hyes := Lib.hid (hRS.out.abYes hkL hgd.out hab hN.out hv.out (by omega) hrm)
                      have hrl : (r ++ List.replicate m ((x.toNat : Int) - 97)).length ≤ C := by simp; omega
                      have g3 : (r.length : Int) + m ≤ C := by omega
                      have g4 := IntWalk.i64_in ((r.length : Int) + m) (by omega)
                      have hww := IntWalk.i64_in (x.toNat : Int) (by omega)
                      have hcase : (((x.toNat : Int) == 97) = true) ∨ (((x.toNat : Int) == 97) = false ∧ ((x.toNat : Int) == 98) = true) := by
                        rcases hab with h | h
                        · exact .inl (by rw [h]; rfl)
                        · exact .inr ⟨by rw [h]; rfl, by rw [h]; rfl⟩
                      replace hab := Lib.hid hab; replace h120 := Lib.hid h120; replace hfl := Lib.hid hfl
                      obtain ⟨wo, hwo⟩ : ∃ wo : World, wo = w2 := ⟨_, rfl⟩
                      clear hwo wo
                      rcases hcase with t2 | ⟨t2, t3⟩
                      all_goals
                        go_wp2
                        go_loopw [8, 11] (fun v n wi => ∃ j : Nat, j ≤ m ∧ n = .int .i64 ((m : Int) - j) ∧ RowI w.heap.size wi v (r ++ List.replicate j ((x.toNat : Int) - 97)) ∧ Ext w wi) (fun _ n _ => (intOf n).toNat)
                        case atStart => exact ⟨0, Nat.zero_le _, by simp, by simpa using hown2, hext2⟩
                        case round =>
                          clear hown2 hext2
                          obtain ⟨j, hj, rfl, hownj, hextj⟩ := hrel
                          by_cases hjm : j < m
                          · have hj1 : (0 : Int) < (m : Int) - j := by omega
                            have hj2 := IntWalk.i64_in ((m : Int) - j - 1) (by omega)
                            have hlj : (r ++ List.replicate j ((x.toNat : Int) - 97)).length < 1099511627776 := by simp; omega
                            obtain ⟨YS, hYS⟩ : ∃ YS, r ++ List.replicate j ((x.toNat : Int) - 97) = YS := ⟨_, rfl⟩
                            have hYS2 : Hid (YS ++ [(x.toNat : Int) - 97] = r ++ List.replicate (j + 1) ((x.toNat : Int) - 97)) := Lib.hid (by rw [← hYS]; exact rep_succ _ _ _)
                            rw [hYS] at hownj hlj
                            replace hYS := Lib.hid hYS
                            have hBj := hextj.below.size
                            go_wp2_with (at_builtin; go_loud (refine append1IG hownj (by omega) (by first | exact hBj | (simp; omega)) ?_ rfl rfl); intro v4 w4 hown4 hg4)
                            go_roundw
                            case rel => exact ⟨j + 1, hjm, by go_num, by rw [← hYS2.out]; exact hown4, hg4.toExt hextj (fun q hq => (hownj.lt q hq).1)⟩
                            case measure => simp [intOf]; omega
                          · obtain rfl : j = m := by omega
                            have hj0 : ¬ (0 : Int) < (j : Int) - j := by omega
                            go_wp2
                            go_roundw
                            case rel => exact ⟨k + 1, cn, k + 1, _, hlt, by go_num, rfl, by go_num, Nat.le_refl _, hownj, hextj, hcn, hrl, hyes⟩
                            case measure => simp [intOf]; omega
                    · have hno := Lib.hid (hfl.out (fun hh => hh.2.2.elim (fun h => h120 h.1) (fun h => hrm h.2)))
                      have g3 : ¬ (r.length : Int) + m ≤ C := by omega
                      have g4 := IntWalk.i64_in ((r.length : Int) + m) (by omega)
                      have hcase : (((x.toNat : Int) == 97) = true) ∨ (((x.toNat : Int) == 97) = false ∧ ((x.toNat : Int) == 98) = true) := by
                        rcases hab with h | h
                        · exact .inl (by rw [h]; rfl)
                        · exact .inr ⟨by rw [h]; rfl, by rw [h]; rfl⟩
                      replace hab := Lib.hid hab; replace h120 := Lib.hid h120
                      rcases hcase with t2 | ⟨t2, t3⟩
                      all_goals
                        go_wp2
                        go_ret3
                        exact ⟨RlR.no _ _ hno.out, hext2⟩
                  · have hno := Lib.hid (hfl.out (fun hh => hh.2.2.elim (fun h => h120 h.1) (fun h => hab h.1)))
                    have t2 : ((x.toNat : Int) == 97) = false := by simp; intro h; exact hab (.inl (UInt8.toNat_inj.1 (by simpa using (by omega : x.toNat = 97))))
                    have t3 : ((x.toNat : Int) == 98) = false := by simp; intro h; exact hab (.inr (UInt8.toNat_inj.1 (by simpa using (by omega : x.toNat = 98))))
                    replace hab := Lib.hid hab; replace h120 := Lib.hid h120
                    go_wp2
                    go_ret3
                    exact ⟨RlR.no _ _ hno.out, hext2⟩
    · obtain rfl : k = s.size := by omega
      have hdone := hRS.out.done hsl.symm
      have hB := hext.below.size
      by_cases hrl : r.length = C
      · have hyes := Lib.hid (hdone.1 hrl)
        have hri : ((r.length : Int) == (C : Int)) = true := by simp; omega
        replace hrl := Lib.hid hrl
        clear hdone
        go_wp2
        go_ret3
        exact ⟨.inl ⟨cn, r, _, rfl, hown, hyes.out, hcn⟩, hext⟩
      · have hno := Lib.hid (hdone.2 hrl)
        have hri : ((r.length : Int) == (C : Int)) = false := by simp; omega
        clear hdone
        go_wp2
        go_ret3
        exact ⟨RlR.no _ _ hno.out, hext⟩
end Go.Proofs.YthpnkcamjcohgaaGreatDoor
