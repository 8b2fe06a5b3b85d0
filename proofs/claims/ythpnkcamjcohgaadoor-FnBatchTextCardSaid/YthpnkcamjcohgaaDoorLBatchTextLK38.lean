/- The reference's cut of a string into words; words as numbers. -/
import Derived.Test.YthpnkcamjcohgaaDoorLBatchTextLK37
namespace Go.Proofs.YthpnkcamjcohgaaDoor
set_option linter.unusedVariables false
set_option linter.unusedSimpArgs false
open Go.RowKit

def wdF (x : ByteArray) : List Value := [.string x]
theorem wdF_len (x : ByteArray) : (wdF x).length = 1 := rfl
theorem wdF_one (x : ByteArray) : ∀ u ∈ wdF x, u.oneCell' = true := by
  intro u hu
  simp only [wdF, List.mem_singleton] at hu
  subst hu; rfl
/-- Words in a row. -/
def WdI (B : Nat) (wr : World) (o : Value) (acc : List ByteArray) : Prop := ∃ p c, o = .slice p acc.length c ∧ RowS 9 wdF 1 B wr o acc ∧ SAt wdF 1 wr p acc ∧ acc.length ≤ c
theorem WdI.of {B : Nat} {w : World} {v : Value} {acc : List ByteArray} (h : RowS 9 wdF 1 B w v acc) : WdI B w v acc := by
  obtain ⟨p, c, e, ho⟩ := h.own wdF_len
  refine ⟨p, c, e, h, ho.sat, ?_⟩
  rcases h.2 with ⟨h2, hn⟩ | ⟨g, cap, cur, hv2, _, _, hle, _⟩
  · rw [hn]; omega
  · rw [e] at hv2
    simp at hv2
    omega
/-- The words of a string at a byte. -/
def WdE (y : UInt8) (s : ByteArray) (e : Ending) (w' : World) : Prop := ∃ (p : Option Addr) (c : Nat) (ps : List ByteArray), e = .returned (.slice p ps.length c) ∧ ps.length ≤ c ∧ ps.map (·.data.toList) = spl y s.data.toList ∧ SAt wdF 1 w' p ps
theorem ext_list (s : ByteArray) (a b : Nat) : (s.extract a b).data.toList = (s.data.toList.drop a).take (b - a) := by
  rw [Lib.extract_data]
/-- The state of the cut. -/
def WdL (y : UInt8) (L : List UInt8) (N : Nat) (ps : List ByteArray) (f k : Nat) : Prop :=
  ps.length ≤ k ∧ ((k ≤ N ∧ f ≤ k ∧ ps.map (·.data.toList) ++ spl y (L.drop f) = spl y L ∧ y ∉ (L.drop f).take (k - f)) ∨ (k = N + 1 ∧ ps.map (·.data.toList) = spl y L))
theorem WdL.step {y : UInt8} {L : List UInt8} {N : Nat} {ps : List ByteArray} {f k : Nat} (h : WdL y L N ps f k) (hk : k < N) (hN : L.length = N) (hne : L[k]'(by omega) ≠ y) : WdL y L N ps f (k + 1) := by
  obtain ⟨h0, ⟨h1, h2, h3, h4⟩ | ⟨h1, _⟩⟩ := h
  · refine ⟨by omega, .inl ⟨hk, by omega, h3, ?_⟩⟩
    have hlt : k - f < (L.drop f).length := by rw [List.length_drop]; omega
    rw [show k + 1 - f = (k - f) + 1 by omega, List.take_succ_eq_append_getElem hlt]
    intro hm
    rcases List.mem_append.1 hm with hm | hm
    · exact h4 hm
    · have e := List.mem_singleton.1 hm
      rw [List.getElem_drop] at e
      apply hne
      rw [e]
      congr 1
      omega
  · omega
theorem WdL.cut {y : UInt8} {s : ByteArray} {ps : List ByteArray} {f k : Nat} (h : WdL y s.data.toList s.size ps f k) (hk : k < s.size) (hy : s.data.toList[k]'(by simpa using hk) = y) : WdL y s.data.toList s.size (ps ++ [s.extract f k]) (k + 1) (k + 1) := by
  have hN : s.data.toList.length = s.size := by simp
  obtain ⟨h0, ⟨h1, h2, h3, h4⟩ | ⟨h1, _⟩⟩ := h
  · refine ⟨by simp; omega, .inl ⟨hk, Nat.le_refl _, ?_, by simp⟩⟩
    rw [← h3, List.map_append, List.append_assoc]
    congr 1
    have hd : s.data.toList.drop f = (s.data.toList.drop f).take (k - f) ++ y :: s.data.toList.drop (k + 1) := by
      have hlt : k - f < (s.data.toList.drop f).length := by rw [List.length_drop]; omega
      have e1 := (List.take_append_drop (k - f) (s.data.toList.drop f)).symm
      have e2 : s.data.toList.drop k = s.data.toList[k]'(by simpa using hk) :: s.data.toList.drop (k + 1) := List.drop_eq_getElem_cons _
      rw [List.drop_drop, show f + (k - f) = k by omega, e2, hy] at e1
      exact e1
    show [(s.extract f k).data.toList] ++ _ = _
    rw [ext_list]
    conv => rhs; rw [hd]
    rw [spl_pre _ h4]
    rfl
  · omega
theorem WdL.last {y : UInt8} {s : ByteArray} {ps : List ByteArray} {f : Nat} (h : WdL y s.data.toList s.size ps f s.size) : WdL y s.data.toList s.size (ps ++ [s.extract f s.size]) (s.size + 1) (s.size + 1) := by
  have hN : s.data.toList.length = s.size := by simp
  obtain ⟨h0, ⟨h1, h2, h3, h4⟩ | ⟨h1, _⟩⟩ := h
  · refine ⟨by simp; omega, .inr ⟨rfl, ?_⟩⟩
    rw [← h3, List.map_append]
    congr 1
    show [(s.extract f s.size).data.toList] = _
    rw [ext_list]
    have e : (s.data.toList.drop f).take (s.size - f) = s.data.toList.drop f := List.take_of_length_le (by rw [List.length_drop]; omega)
    rw [e] at h4 ⊢
    rw [spl_none h4]
  · omega
theorem WdL.done {y : UInt8} {L : List UInt8} {N : Nat} {ps : List ByteArray} {f k : Nat} (h : WdL y L N ps f k) (hk : N < k) : ps.map (·.data.toList) = spl y L ∧ k = N + 1 := by
  obtain ⟨h0, ⟨h1, _⟩ | ⟨h1, h2⟩⟩ := h
  · omega
  · exact ⟨h2, h1⟩
set_option maxHeartbeats 1600000 in
set_option maxRecDepth 100000 in
theorem sSplit_c (s : ByteArray) (y : UInt8) (w : World) (hs : s.size ≤ 1048576) :
    Calls Tryd.prog 70 #[.string s, .int .u8 y.toNat] w fun e w' => WdE y s e w' ∧ Ext w w' := by
  have hI1 : Tryd.prog.underlying 69 = some (.slice 9) := by kernel_rfl
  have hI2 : (Tryd.prog.info? 9).map (fun i => (i.zero, i.size, i.bytes)) = some (some (.string ByteArray.empty), 1, 16) := by kernel_rfl
  have hL0 : WdL y s.data.toList s.size [] 0 0 := ⟨Nat.le_refl _, .inl ⟨Nat.zero_le _, Nat.le_refl _, rfl, by simp⟩⟩
  replace hL0 := Lib.hid hL0
  go_enter Tryd.func70, Tryd.ntmps70
  go_upto_region 4 with (fail)
  go_loopw [5, 6, 7] (fun o fr i wr => ∃ (ps : List ByteArray) (f k : Nat), i = .int .i64 k ∧ fr = .int .i64 f ∧ k ≤ s.size + 1 ∧ f ≤ k ∧ WdI w.heap.size wr o ps ∧ Hid (WdL y s.data.toList s.size ps f k) ∧ Ext w wr) (fun _ _ i _ => s.size + 1 - (intOf i).toNat)
  case atStart => exact ⟨[], 0, 0, rfl, rfl, by omega, Nat.le_refl _, WdI.of (RowS.made _ (Nat.le_refl _)), hL0, (by repeat (first | exact Ext.refl _ | assumption | refine Ext.drew ?_ | refine Ext.drewN ?_ _ | refine Ext.iter ?_ _ _ | refine Ext.alloc ?_ _ | refine Ext.setCell ?_ (by first | exact Nat.le_refl _ | (simp <;> omega)) _ | refine Ext.trans2 (by assumption) ?_))⟩
  case round =>
    obtain ⟨ps, f, k, rfl, rfl, hk, hfk, ⟨p, c, rfl, hown, hsat, hc⟩, hst, hext⟩ := hrel
    have hB := hext.below.size
    have hpl := hst.out.1
    by_cases hlt : k < s.size
    · have a1 : (k : Int) ≤ s.size := by omega
      have a2 : ((k : Int) == (s.size : Int)) = false := by apply beq_eq_false_iff_ne.2; omega
      have hgd := get_data hlt (by simpa using hlt)
      by_cases hy : s[k]'hlt = y
      · have hst2 := Lib.hid (hst.out.cut hlt (by rw [hgd]; exact hy))
        have a3 : (((s[k]'hlt).toNat : Int) == (y.toNat : Int)) = true := by rw [hy]; simp
        clear hgd
        replace hy := Lib.hid hy
        obtain ⟨ps2, hps2⟩ : ∃ ps2, ps ++ [s.extract f k] = ps2 := ⟨_, rfl⟩
        rw [hps2] at hst2
        replace hps2 := Lib.hid hps2
        go_wp2_with (first
          | (at_builtin; go_loud (refine append1S hI1 hI2 rfl (by omega) (by omega) wdF_len wdF_one (n := s.extract f k) hown (by omega) hB rfl ?_ rfl (by simp [Act.eval])); intro v1 w3 hown3 hlow3; rw [hps2.out] at hown3; obtain ⟨p3, c3, rfl, hown4, hsat4, hc4⟩ := WdI.of hown3))
        go_roundw
        case rel => exact ⟨ps2, k + 1, k + 1, by go_num, by go_num, by omega, Nat.le_refl _, ⟨p3, c3, rfl, hown4, hsat4, hc4⟩, hst2, hext.trans3 hlow3⟩
        case measure => simp [intOf]; omega
      · have hst2 := Lib.hid (hst.out.step hlt (by simp) (by rw [hgd]; exact hy))
        have a3 : (((s[k]'hlt).toNat : Int) == (y.toNat : Int)) = false := by
          apply beq_eq_false_iff_ne.2
          intro e
          exact hy (UInt8.toNat_inj.1 (by omega))
        clear hgd
        replace hy := Lib.hid hy
        go_wp2
        go_roundw
        case rel => exact ⟨ps, f, k + 1, by go_num, rfl, by omega, by omega, ⟨p, c, rfl, hown, hsat, hc⟩, hst2, hext⟩
        case measure => simp [intOf]; omega
    · by_cases hke : k = s.size
      · subst hke
        have a1 : ((s.size : Nat) : Int) ≤ s.size := Int.le_refl _
        have a2 : ((s.size : Int) == (s.size : Int)) = true := by simp
        have hst2 := Lib.hid hst.out.last
        obtain ⟨ps2, hps2⟩ : ∃ ps2, ps ++ [s.extract f s.size] = ps2 := ⟨_, rfl⟩
        rw [hps2] at hst2
        replace hps2 := Lib.hid hps2
        go_wp2_with (first
          | (at_builtin; go_loud (refine append1S hI1 hI2 rfl (by omega) (by omega) wdF_len wdF_one (n := s.extract f s.size) hown (by omega) hB rfl ?_ rfl (by simp [Act.eval])); intro v1 w3 hown3 hlow3; rw [hps2.out] at hown3; obtain ⟨p3, c3, rfl, hown4, hsat4, hc4⟩ := WdI.of hown3))
        go_roundw
        case rel => exact ⟨ps2, s.size + 1, s.size + 1, by go_num, by go_num, by omega, Nat.le_refl _, ⟨p3, c3, rfl, hown4, hsat4, hc4⟩, hst2, hext.trans3 hlow3⟩
        case measure => simp [intOf]
      · have hd := hst.out.done (by omega)
        have a1 : ¬ (k : Int) ≤ s.size := by omega
        replace hd := Lib.hid hd
        go_wp2
        go_ret
        exact ⟨⟨p, c, ps, rfl, hc, hd.out.1, hsat⟩, hext⟩
end Go.Proofs.YthpnkcamjcohgaaDoor
