
/- What was written is read again. -/
import Derived.Test.YtnfbgjgchcgonaaReadSeg2
import Derived.Test.YtnfbgjgchcgonaaWriteS
import Derived.Test.YtnfbgjgchcgonaaSegMath3
namespace Go.Proofs.Ytnfbgjgchcgonaa
set_option linter.unusedVariables false
set_option linter.unusedSimpArgs false
open Go.RowKit

theorem getD_mid (pre bs post : List Int) (k : Nat) (h : k < bs.length) : (pre ++ (bs ++ post)).getD (pre.length + k) 0 = bs.getD k 0 := by
  rw [List.getD_eq_getElem?_getD, List.getD_eq_getElem?_getD, List.getElem?_append_right (by omega), Nat.add_sub_cancel_left, List.getElem?_append_left h]
theorem numAt_app (pre post : List Int) (n wd : Int) (hn : 0 ≤ n ∧ n < 2 ^ wd.toNat) : ∀ k, k ≤ wd.toNat → numAt (pre ++ (bitsOf n wd ++ post)) pre.length k = n / 2 ^ (wd.toNat - k) := by
  intro k
  induction k with
  | zero =>
    intro _
    rw [Nat.sub_zero, Int.ediv_eq_zero_of_lt hn.1 hn.2]
    rfl
  | succ k ih =>
    intro hk
    have h1 : (bitsOf n wd).getD k 0 = n / 2 ^ (wd.toNat - 1 - k) % 2 := by
      rw [List.getD_eq_getElem?_getD, List.getElem?_eq_getElem (by rw [bitsOf_len]; omega)]
      simp [bitsOf]
    rw [numAt, ih (by omega), getD_mid _ _ _ _ (by rw [bitsOf_len]; omega), h1]
    have e : wd.toNat - k = (wd.toNat - 1 - k) + 1 := by omega
    have e2 : wd.toNat - (k + 1) = wd.toNat - 1 - k := by omega
    rw [e, e2, Int.pow_succ, ← Int.ediv_ediv_of_nonneg (Int.le_of_lt (Int.pow_pos (by omega)))]
    omega
theorem numAt_full (pre post : List Int) (n wd : Int) (hn : 0 ≤ n ∧ n < 2 ^ wd.toNat) : numAt (pre ++ (bitsOf n wd ++ post)) pre.length wd.toNat = n := by
  rw [numAt_app pre post n wd hn _ (Nat.le_refl _), Nat.sub_self]
  simp

theorem charVal_lt {m b : Int} (hm : 1 ≤ m ∧ m ≤ 4) (hb : 0 ≤ b ∧ b ≤ 255) : charVal m b < iBase m := by
  have h2 := idxB_le (modeSet m) b
  unfold charVal
  rw [if_neg (by omega)]
  by_cases h4 : m = 4
  · subst h4; simp [iBase]; omega
  · rw [if_neg h4]
    have := iBase_size (m := m) (by omega)
    omega
theorem idxB_at {s : ByteArray} {b : Int} (h : 0 ≤ idxB s b) : ((s.data.toList.getD (idxB s b).toNat 0).toNat : Int) = b := by
  unfold idxB at h ⊢
  cases hi : s.data.toList.findIdx? (fun c => (c.toNat : Int) == b) with
  | none => rw [hi] at h; simp at h
  | some i =>
    have hi2 := hi
    rw [List.findIdx?_eq_some_iff_getElem] at hi2
    obtain ⟨h1, h2, _⟩ := hi2
    show (((s.data.toList.getD ((i : Int)).toNat 0).toNat : Nat) : Int) = b
    rw [Int.toNat_natCast, List.getD_eq_getElem?_getD, List.getElem?_eq_getElem h1]
    simpa using h2
theorem chr_val {m : Int} {x : UInt8} (hm : 1 ≤ m ∧ m ≤ 4) (h : 0 ≤ charVal m x.toNat) : chr m (charVal m x.toNat) = x := by
  have hx := UInt8.toNat_lt x
  have e : charVal m x.toNat = if m = 4 then (x.toNat : Int) else idxB (modeSet m) x.toNat := by
    unfold charVal
    rw [if_neg (by omega)]
  rw [e] at h ⊢
  unfold chr
  by_cases h4 : m = 4
  · rw [if_pos h4, if_pos h4]
    simp
  · rw [if_neg h4] at h
    rw [if_neg h4, if_neg h4]
    have := idxB_at h
    exact UInt8.toNat_inj.1 (by omega)

theorem numF_lt {m : Int} {t : ByteArray} (hm : 1 ≤ m ∧ m ≤ 4) (h : AllIn m t) {a : Nat} : ∀ j, a + j ≤ t.size → 0 ≤ numF (iBase m) m t a j ∧ numF (iBase m) m t a j < iBase m ^ j := by
  intro j
  induction j with
  | zero => intro _; simp [numF]
  | succ j ih =>
    intro hj
    obtain ⟨h1, h2⟩ := ih (by omega)
    have hp := iBase_pos m
    have h3 := charVal_ok h (show a + j < t.size by omega)
    have h4 := charVal_lt hm (byteAt_bd t (a + j))
    have h5 : 0 ≤ numF (iBase m) m t a j * iBase m := Int.mul_nonneg h1 (by omega)
    have h6 : (numF (iBase m) m t a j + 1) * iBase m ≤ iBase m ^ j * iBase m := Int.mul_le_mul_of_nonneg_right (by omega) (by omega)
    have h7 : iBase m ^ (j + 1) = iBase m ^ j * iBase m := by rw [Int.pow_succ]
    rw [Int.add_mul, Int.one_mul] at h6
    simp only [numF]
    rw [h7]
    omega
theorem numF_wid {m : Int} {t : ByteArray} (hm : 1 ≤ m ∧ m ≤ 4) (h : AllIn m t) {a j : Nat} (hj : a + j ≤ t.size) (h1 : 1 ≤ j) (hg : j ≤ (grp m).toNat) : 0 ≤ numF (iBase m) m t a j ∧ numF (iBase m) m t a j < 2 ^ (wid m j).toNat := by
  obtain ⟨h2, h3⟩ := numF_lt hm h j hj
  refine ⟨h2, Int.lt_of_lt_of_le h3 ?_⟩
  have : m = 1 ∨ m = 2 ∨ m = 3 ∨ m = 4 := by omega
  rcases this with rfl | rfl | rfl | rfl
  · have e : (grp 1).toNat = 3 := rfl
    have : j = 1 ∨ j = 2 ∨ j = 3 := by omega
    rcases this with rfl | rfl | rfl <;> decide
  · have e : (grp 2).toNat = 2 := rfl
    have : j = 1 ∨ j = 2 := by omega
    rcases this with rfl | rfl <;> decide
  · have e : (grp 3).toNat = 1 := rfl
    obtain rfl : j = 1 := by omega
    decide
  · have e : (grp 4).toNat = 1 := rfl
    obtain rfl : j = 1 := by omega
    decide
theorem gq_num {m : Int} {t : ByteArray} (hm : 1 ≤ m ∧ m ≤ 4) (h : AllIn m t) {a n : Nat} (hn : a + n ≤ t.size) : ∀ j, j ≤ n → gq (numF (iBase m) m t a n) (iBase m) j = numF (iBase m) m t a (n - j) := by
  intro j
  induction j with
  | zero => intro _; rfl
  | succ j ih =>
    intro hj
    have hp := iBase_pos m
    obtain ⟨k, hk⟩ : ∃ k, n - j = k + 1 := ⟨n - j - 1, by omega⟩
    have h3 := charVal_ok h (show a + k < t.size by omega)
    have h4 := charVal_lt hm (byteAt_bd t (a + k))
    rw [gq, ih (by omega), hk, show n - (j + 1) = k by omega, numF, Int.add_ediv_of_dvd_left (Int.dvd_mul_left _ _), Int.mul_ediv_cancel _ (by omega), Int.ediv_eq_zero_of_lt h3 h4, Int.add_zero]
theorem dig_num {m : Int} {t : ByteArray} (hm : 1 ≤ m ∧ m ≤ 4) (h : AllIn m t) {a n : Nat} (hn : a + n ≤ t.size) : (⟨(dig m (numF (iBase m) m t a n) n).toArray⟩ : ByteArray) = t.extract a (a + n) := by
  have hp := iBase_pos m
  apply ByteArray.ext
  apply Array.ext
  · simp [dig]
    omega
  · intro i h1 h2
    have hi : i < n := by simpa [dig] using h1
    have h3 := charVal_ok h (show a + i < t.size by omega)
    have h4 := charVal_lt hm (byteAt_bd t (a + i))
    have e : dig m (numF (iBase m) m t a n) n = (List.range n).map fun i => chr m (gq (numF (iBase m) m t a n) (iBase m) (n - 1 - i) % iBase m) := rfl
    simp only [List.getElem_toArray, e, List.getElem_map, List.getElem_range]
    rw [gq_num hm h hn _ (by omega), show n - (n - 1 - i) = i + 1 by omega, numF, Int.mul_add_emod_self_right, Int.emod_eq_of_lt h3 h4]
    rw [byteAt_eq (show a + i < t.size by omega)] at h3 ⊢
    rw [chr_val hm h3]
    simp [ByteArray.data_extract]
    rfl
theorem rdG_rB {m : Int} {t : ByteArray} (hm : 1 ≤ m ∧ m ≤ 4) (h : AllIn m t) : ∀ f i (pre : List Int), t.size ≤ i + f → rdG m (pre ++ rB m t f i) f pre.length (t.size - i) = some (t.extract i t.size, pre.length + (rB m t f i).length) := by
  intro f
  induction f with
  | zero =>
    intro i pre hi
    have e : t.extract i t.size = ByteArray.empty := by
      apply ByteArray.ext; apply Array.ext' ; simp; omega
    rw [show t.size - i = 0 by omega, rdG_zero, e]
    rfl
  | succ f ih =>
    intro i pre hi
    by_cases hlt : i < t.size
    · have hg := grp_bd m
      have hgn : gN m t i = min (grp m).toNat (t.size - i) := rfl
      have hN := numF_wid hm h (a := i) (j := gN m t i) (by omega) (by omega) (by omega)
      rw [rdG, if_neg (by omega), ← hgn, rB_step m t f i hlt, ← numF_i hm (by omega : gN m t i ≤ (grp m).toNat), numAt_full _ _ _ _ hN, gq_num hm h (by omega) _ (Nat.le_refl _), Nat.sub_self, if_neg (by simp [numF]), dig_num hm h (by omega)]
      have hl := bitsOf_len (numF (iBase m) m t i (gN m t i)) (wid m (gN m t i))
      generalize bitsOf (numF (iBase m) m t i (gN m t i)) (wid m (gN m t i)) = bs at *
      have := ih (i + (grp m).toNat) (pre ++ bs) (by omega)
      rw [List.append_assoc, List.length_append, hl, show t.size - (i + (grp m).toNat) = t.size - i - gN m t i by omega] at this
      rw [this]
      simp only [Option.map_some, List.length_append, hl]
      congr 2
      · have e : i + gN m t i = i + (grp m).toNat ∨ t.size = i + gN m t i := by omega
        apply ByteArray.ext
        simp only [ByteArray.data_append, ByteArray.data_extract]
        rcases e with e | e
        · rw [e, Array.extract_append_extract]
          rw [Nat.min_eq_left (by omega), Nat.max_eq_right (by omega)]
        · have e3 : t.data.extract (i + (grp m).toNat) t.size = #[] := by
            rw [Array.extract_eq_empty_iff]
            omega
          rw [e3, Array.append_empty, ← e]
      · omega
    · have e : t.extract i t.size = ByteArray.empty := by
        apply ByteArray.ext; apply Array.ext' ; simp; omega
      rw [show t.size - i = 0 by omega, rdG_zero, e, rB_end _ _ _ _ (by omega)]
      simp

theorem segBits_bit {m : Int} {t : ByteArray} : ∀ x ∈ segBits m t, x = 0 ∨ x = 1 := by
  have hb : ∀ n wd : Int, ∀ x ∈ bitsOf n wd, x = 0 ∨ x = 1 := by
    intro n wd x hx
    simp only [bitsOf, List.mem_map] at hx
    obtain ⟨j, _, rfl⟩ := hx
    omega
  have hr : ∀ f a, ∀ x ∈ rB m t f a, x = 0 ∨ x = 1 := by
    intro f
    induction f with
    | zero => intro a x hx; simp [rB] at hx
    | succ f ih =>
      intro a x hx
      rw [rB] at hx
      split at hx
      · simp at hx
      · rcases List.mem_append.1 hx with h | h
        · exact hb _ _ _ h
        · exact ih _ _ h
  intro x hx
  simp only [segBits, List.mem_append] at hx
  rcases hx with (h | h) | h
  · exact hb _ _ _ h
  · exact hb _ _ _ h
  · exact hr _ _ _ h
/-- A segment that was written is read again. -/
theorem rdS_write {xs : List Int} {m : Int} {t : ByteArray} (hS : IsSeg m t) : rdS (xs ++ segBits m t) xs.length = some (m, t, (xs ++ segBits m t).length) := by
  obtain ⟨hm, ht, hA⟩ := hS
  have hl := segBits_length (t := t) hm
  have hlen : (xs ++ segBits m t).length = xs.length + (segBits m t).length := List.length_append
  have e1 : numAt (xs ++ segBits m t) xs.length 3 = m := by
    have := numAt_full xs (bitsOf t.size 8 ++ rB m t t.size 0) m 3 ⟨by omega, by show m < 8; omega⟩
    rwa [← List.append_assoc (bitsOf m 3)] at this
  have e2 : numAt (xs ++ segBits m t) (xs.length + 3) 8 = t.size := by
    have := numAt_full (xs ++ bitsOf m 3) (rB m t t.size 0) t.size 8 ⟨by omega, by show (t.size : Int) < 256; omega⟩
    rw [List.length_append, bitsOf_len] at this
    simp only [segBits]
    rw [← List.append_assoc, ← List.append_assoc] at *
    simpa using this
  have e3 : rdG m (xs ++ segBits m t) t.size (xs.length + 11) t.size = some (t, (xs ++ segBits m t).length) := by
    have := rdG_rB hm hA t.size 0 (xs ++ (bitsOf m 3 ++ bitsOf t.size 8)) (by omega)
    rw [List.append_assoc, ← segBits] at this
    simp only [List.length_append, bitsOf_len, Nat.sub_zero] at this
    rw [show xs.length + ((3 : Int).toNat + (8 : Int).toNat) = xs.length + 11 from rfl] at this
    rw [this]
    congr 2
    · apply ByteArray.ext; simp
    · rw [hlen]; simp [segBits, bitsOf_len]; omega
  have htw := textW_bd m t.size (by omega)
  unfold segLen at hl
  unfold rdS
  rw [e1, e2, Int.toNat_natCast, if_neg (by omega), if_neg (by rw [hlen]; omega), e3]
  rfl
end Go.Proofs.Ytnfbgjgchcgonaa
