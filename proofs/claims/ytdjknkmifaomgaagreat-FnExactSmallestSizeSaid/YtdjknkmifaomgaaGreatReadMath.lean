
/- What was written is read again. -/
import Derived.Test.YtdjknkmifaomgaaGreatReadSeg2
import Derived.Test.YtdjknkmifaomgaaGreatWriteS
import Derived.Test.YtdjknkmifaomgaaGreatSegMath3
/-! What was written is read again. -/
namespace Go.Proofs.YtdjknkmifaomgaaGreat
set_option linter.unusedVariables false
set_option linter.unusedSimpArgs false
open Go.RowKit

theorem getD_mid (pre bs post : List Int) (k : Nat) (h : k < bs.length) : (pre ++ (bs ++ post)).getD (pre.length + k) 0 = bs.getD k 0 := by
  rw [List.getD_eq_getElem?_getD, List.getD_eq_getElem?_getD, List.getElem?_append_right (by omega), Nat.add_sub_cancel_left, List.getElem?_append_left h]
theorem numAt_app (pre post : List Int) (n wd : Int) (hn : 0 ≤ n ∧ n < 2 ^ wd.toNat) : ∀ k, k ≤ wd.toNat → numAt (pre ++ (bitsOf n wd ++ post)) pre.length k = n / 2 ^ (wd.toNat - k) := by
  intro k
  induction k with
  | zero =>
    intro _
    rw [Nat.sub_zero, Int.ediv_eq_zero_of_lt hn.1 hn.2]
    rfl
  | succ k ih =>
    intro hk
    have h1 : (bitsOf n wd).getD k 0 = n / 2 ^ (wd.toNat - 1 - k) % 2 := by
      rw [List.getD_eq_getElem?_getD, List.getElem?_eq_getElem (by rw [bitsOf_len]; omega)]
      simp [bitsOf]
    rw [numAt, ih (by omega), getD_mid _ _ _ _ (by rw [bitsOf_len]; omega), h1]
    have e : wd.toNat - k = (wd.toNat - 1 - k) + 1 := by omega
    have e2 : wd.toNat - (k + 1) = wd.toNat - 1 - k := by omega
    rw [e, e2, Int.pow_succ, ← Int.ediv_ediv_of_nonneg (Int.le_of_lt (Int.pow_pos (by omega)))]
    omega
theorem numAt_full (pre post : List Int) (n wd : Int) (hn : 0 ≤ n ∧ n < 2 ^ wd.toNat) : numAt (pre ++ (bitsOf n wd ++ post)) pre.length wd.toNat = n := by
  rw [numAt_app pre post n wd hn _ (Nat.le_refl _), Nat.sub_self]
  simp

theorem charVal_lt {m b : Int} (hm : 1 ≤ m ∧ m ≤ 4) (hb : 0 ≤ b ∧ b ≤ 255) : charVal m b < iBase m := by
  have h2 := idxB_le (modeSet m) b
  unfold charVal
  rw [if_neg (by omega)]
  by_cases h4 : m = 4
  · subst h4; simp [iBase]; omega
  · rw [if_neg h4]
    have := iBase_size (m := m) (by omega)
    omega
theorem idxB_at {s : ByteArray} {b : Int} (h : 0 ≤ idxB s b) : ((s.data.toList.getD (idxB s b).toNat 0).toNat : Int) = b := by
  unfold idxB at h ⊢
  cases hi : s.data.toList.findIdx? (fun c => (c.toNat : Int) == b) with
  | none => rw [hi] at h; simp at h
  | some i =>
    have hi2 := hi
    rw [List.findIdx?_eq_some_iff_getElem] at hi2
    obtain ⟨h1, h2, _⟩ := hi2
    show (((s.data.toList.getD ((i : Int)).toNat 0).toNat : Nat) : Int) = b
    rw [Int.toNat_natCast, List.getD_eq_getElem?_getD, List.getElem?_eq_getElem h1]
    simpa using h2
theorem chr_val {m : Int} {x : UInt8} (hm : 1 ≤ m ∧ m ≤ 4) (h : 0 ≤ charVal m x.toNat) : chr m (charVal m x.toNat) = x := by
  have hx := UInt8.toNat_lt x
  have e : charVal m x.toNat = if m = 4 then (x.toNat : Int) else idxB (modeSet m) x.toNat := by
    unfold charVal
    rw [if_neg (by omega)]
  rw [e] at h ⊢
  unfold chr
  by_cases h4 : m = 4
  · rw [if_pos h4, if_pos h4]
    simp
  · rw [if_neg h4] at h
    rw [if_neg h4, if_neg h4]
    have := idxB_at h
    exact UInt8.toNat_inj.1 (by omega)

theorem numF_lt {m : Int} {t : ByteArray} (hm : 1 ≤ m ∧ m ≤ 4) (h : AllIn m t) {a : Nat} : ∀ j, a + j ≤ t.size → 0 ≤ numF (iBase m) m t a j ∧ numF (iBase m) m t a j < iBase m ^ j := by
  intro j
  induction j with
  | zero => intro _; simp [numF]
  | succ j ih =>
    intro hj
    obtain ⟨h1, h2⟩ := ih (by omega)
    have hp := iBase_pos m
    have h3 := charVal_ok h (show a + j < t.size by omega)
    have h4 := charVal_lt hm (byteAt_bd t (a + j))
    have h5 : 0 ≤ numF (iBase m) m t a j * iBase m := Int.mul_nonneg h1 (by omega)
    have h6 : (numF (iBase m) m t a j + 1) * iBase m ≤ iBase m ^ j * iBase m := Int.mul_le_mul_of_nonneg_right (by omega) (by omega)
    have h7 : iBase m ^ (j + 1) = iBase m ^ j * iBase m := by rw [Int.pow_succ]
    rw [Int.add_mul, Int.one_mul] at h6
    simp only [numF]
    rw [h7]
    omega
theorem numF_wid {m : Int} {t : ByteArray} (hm : 1 ≤ m ∧ m ≤ 4) (h : AllIn m t) {a j : Nat} (hj : a + j ≤ t.size) (h1 : 1 ≤ j) (hg : j ≤ (grp m).toNat) : 0 ≤ numF (iBase m) m t a j ∧ numF (iBase m) m t a j < 2 ^ (wid m j).toNat := by
  obtain ⟨h2, h3⟩ := numF_lt hm h j hj
  refine ⟨h2, Int.lt_of_lt_of_le h3 ?_⟩
  have : m = 1 ∨ m = 2 ∨ m = 3 ∨ m = 4 := by omega
  rcases this with rfl | rfl | rfl | rfl
  · have e : (grp 1).toNat = 3 := rfl
    have : j = 1 ∨ j = 2 ∨ j = 3 := by omega
    rcases this with rfl | rfl | rfl <;> decide
  · have e : (grp 2).toNat = 2 := rfl
    have : j = 1 ∨ j = 2 := by omega
    rcases this with rfl | rfl <;> decide
  · have e : (grp 3).toNat = 1 := rfl
    obtain rfl : j = 1 := by omega
    decide
  · have e : (grp 4).toNat = 1 := rfl
    obtain rfl : j = 1 := by omega
    decide
theorem gq_num {m : Int} {t : ByteArray} (hm : 1 ≤ m ∧ m ≤ 4) (h : AllIn m t) {a n : Nat} (hn : a + n ≤ t.size) : ∀ j, j ≤ n → gq (numF (iBase m) m t a n) (iBase m) j = numF (iBase m) m t a (n - j) := by
  intro j
  induction j with
  | zero => intro _; rfl
  | succ j ih =>
    intro hj
    have hp := iBase_pos m
    obtain ⟨k, hk⟩ : ∃ k, n - j = k + 1 := ⟨n - j - 1, by omega⟩
    have h3 := charVal_ok h (show a + k < t.size by omega)
    have h4 := charVal_lt hm (byteAt_bd t (a + k))
    rw [gq, ih (by omega), hk, show n - (j + 1) = k by omega, numF, Int.add_ediv_of_dvd_left (Int.dvd_mul_left _ _), Int.mul_ediv_cancel _ (by omega), Int.ediv_eq_zero_of_lt h3 h4, Int.add_zero]
theorem dig_num {m : Int} {t : ByteArray} (hm : 1 ≤ m ∧ m ≤ 4) (h : AllIn m t) {a n : Nat} (hn : a + n ≤ t.size) : (⟨(dig m (numF (iBase m) m t a n) n).toArray⟩ : ByteArray) = t.extract a (a + n) := by
  have hp := iBase_pos m
  apply ByteArray.ext
  apply Array.ext
  · simp [dig]
    omega
  · intro i h1 h2
    have hi : i < n := by simpa [dig] using h1
    have h3 := charVal_ok h (show a + i < t.size by omega)
    have h4 := charVal_lt hm (byteAt_bd t (a + i))
    have e : dig m (numF (iBase m) m t a n) n = (List.range n).map fun i => chr m (gq (numF (iBase m) m t a n) (iBase m) (n - 1 - i) % iBase m) := rfl
    simp only [List.getElem_toArray, e, List.getElem_map, List.getElem_range]
    rw [gq_num hm h hn _ (by omega), show n - (n - 1 - i) = i + 1 by omega, numF, Int.mul_add_emod_self_right, Int.emod_eq_of_lt h3 h4]
    rw [byteAt_eq (show a + i < t.size by omega)] at h3 ⊢
    rw [chr_val hm h3]
    simp [ByteArray.data_extract]
    rfl
theorem rdG_rB {m : Int} {t : ByteArray} (hm : 1 ≤ m ∧ m ≤ 4) (h : AllIn m t) : ∀ f i (pre : List Int), t.size ≤ i + f → rdG m (pre ++ rB m t f i) f pre.length (t.size - i) = some (t.extract i t.size, pre.length + (rB m t f i).length) := by
  intro f
  induction f with
  | zero =>
    intro i pre hi
    have e : t.extract i t.size = ByteArray.empty := by
      apply ByteArray.ext; apply Array.ext' ; simp; omega
    rw [show t.size - i = 0 by omega, rdG_zero, e]
    rfl
  | succ f ih =>
    intro i pre hi
    by_cases hlt : i < t.size
    · have hg := grp_bd m
      have hgn : gN m t i = min (grp m).toNat (t.size - i) := rfl
      have hN := numF_wid hm h (a := i) (j := gN m t i) (by omega) (by omega) (by omega)
      rw [rdG, if_neg (by omega), ← hgn, rB_step m t f i hlt, ← numF_i hm (by omega : gN m t i ≤ (grp m).toNat), numAt_full _ _ _ _ hN, gq_num hm h (by omega) _ (Nat.le_refl _), Nat.sub_self, if_neg (by simp [numF]), dig_num hm h (by omega)]
      have hl := bitsOf_len (numF (iBase m) m t i (gN m t i)) (wid m (gN m t i))
      generalize bitsOf (numF (iBase m) m t i (gN m t i)) (wid m (gN m t i)) = bs at *
      have := ih (i + (grp m).toNat) (pre ++ bs) (by omega)
      rw [List.append_assoc, List.length_append, hl, show t.size - (i + (grp m).toNat) = t.size - i - gN m t i by omega] at this
      rw [this]
      simp only [Option.map_some, List.length_append, hl]
      congr 2
      · have e : i + gN m t i = i + (grp m).toNat ∨ t.size = i + gN m t i := by omega
        apply ByteArray.ext
        simp only [ByteArray.data_append, ByteArray.data_extract]
        rcases e with e | e
        · rw [e, Array.extract_append_extract]
          rw [Nat.min_eq_left (by omega), Nat.max_eq_right (by omega)]
        · have e3 : t.data.extract (i + (grp m).toNat) t.size = #[] := by
            rw [Array.extract_eq_empty_iff]
            omega
          rw [e3, Array.append_empty, ← e]
      · omega
    · have e : t.extract i t.size = ByteArray.empty := by
        apply ByteArray.ext; apply Array.ext' ; simp; omega
      rw [show t.size - i = 0 by omega, rdG_zero, e, rB_end _ _ _ _ (by omega)]
      simp

theorem segBits_bit {m : Int} {t : ByteArray} : ∀ x ∈ segBits m t, x = 0 ∨ x = 1 := by
  have hb : ∀ n wd : Int, ∀ x ∈ bitsOf n wd, x = 0 ∨ x = 1 := by
    intro n wd x hx
    simp only [bitsOf, List.mem_map] at hx
    obtain ⟨j, _, rfl⟩ := hx
    omega
  have hr : ∀ f a, ∀ x ∈ rB m t f a, x = 0 ∨ x = 1 := by
    intro f
    induction f with
    | zero => intro a x hx; simp [rB] at hx
    | succ f ih =>
      intro a x hx
      rw [rB] at hx
      split at hx
      · simp at hx
      · rcases List.mem_append.1 hx with h | h
        · exact hb _ _ _ h
        · exact ih _ _ h
  intro x hx
  simp only [segBits, List.mem_append] at hx
  rcases hx with (h | h) | h
  · exact hb _ _ _ h
  · exact hb _ _ _ h
  · exact hr _ _ _ h
/-- A segment that was written is read again. -/
theorem rdS_write {xs : List Int} {m : Int} {t : ByteArray} (hS : IsSeg m t) : rdS (xs ++ segBits m t) xs.length = some (m, t, (xs ++ segBits m t).length) := by
  obtain ⟨hm, ht, hA⟩ := hS
  have hl := segBits_length (t := t) hm
  have hlen : (xs ++ segBits m t).length = xs.length + (segBits m t).length := List.length_append
  have e1 : numAt (xs ++ segBits m t) xs.length 3 = m := by
    have := numAt_full xs (bitsOf t.size 8 ++ rB m t t.size 0) m 3 ⟨by omega, by show m < 8; omega⟩
    rwa [← List.append_assoc (bitsOf m 3)] at this
  have e2 : numAt (xs ++ segBits m t) (xs.length + 3) 8 = t.size := by
    have := numAt_full (xs ++ bitsOf m 3) (rB m t t.size 0) t.size 8 ⟨by omega, by show (t.size : Int) < 256; omega⟩
    rw [List.length_append, bitsOf_len] at this
    simp only [segBits]
    rw [← List.append_assoc, ← List.append_assoc] at *
    simpa using this
  have e3 : rdG m (xs ++ segBits m t) t.size (xs.length + 11) t.size = some (t, (xs ++ segBits m t).length) := by
    have := rdG_rB hm hA t.size 0 (xs ++ (bitsOf m 3 ++ bitsOf t.size 8)) (by omega)
    rw [List.append_assoc, ← segBits] at this
    simp only [List.length_append, bitsOf_len, Nat.sub_zero] at this
    rw [show xs.length + ((3 : Int).toNat + (8 : Int).toNat) = xs.length + 11 from rfl] at this
    rw [this]
    congr 2
    · apply ByteArray.ext; simp
    · rw [hlen]; simp [segBits, bitsOf_len]; omega
  have htw := textW_bd m t.size (by omega)
  unfold segLen at hl
  unfold rdS
  rw [e1, e2, Int.toNat_natCast, if_neg (by omega), if_neg (by rw [hlen]; omega), e3]
  rfl
end Go.Proofs.YtdjknkmifaomgaaGreat

/-! A segment that is read has been written with just these bits. -/
namespace Go.Proofs.YtdjknkmifaomgaaGreat
set_option linter.unusedVariables false
set_option linter.unusedSimpArgs false
open Go.RowKit

theorem numAt_div {xs : List Int} (h : ∀ x ∈ xs, x = 0 ∨ x = 1) (a k : Nat) : ∀ j, a + (k + j) ≤ xs.length → numAt xs a (k + j) / 2 ^ j = numAt xs a k := by
  intro j
  induction j with
  | zero => intro _; simp
  | succ j ih =>
    intro hj
    have hx : xs.getD (a + (k + j)) 0 = 0 ∨ xs.getD (a + (k + j)) 0 = 1 := by
      rw [List.getD_eq_getElem?_getD, List.getElem?_eq_getElem (by omega)]
      exact h _ (List.getElem_mem _)
    rw [← ih (by omega), ← Nat.add_assoc, numAt, Int.pow_succ, Int.mul_comm (2 ^ j) 2, ← Int.ediv_ediv_of_nonneg (by omega)]
    congr 1
    omega
theorem bitsOf_numAt {xs : List Int} (h : ∀ x ∈ xs, x = 0 ∨ x = 1) (a k : Nat) (hk : a + k ≤ xs.length) : bitsOf (numAt xs a k) k = (xs.drop a).take k := by
  apply List.ext_getElem
  · rw [bitsOf_len, List.length_take, List.length_drop, Int.toNat_natCast]; omega
  · intro i h1 h2
    rw [bitsOf_len, Int.toNat_natCast] at h1
    have hx : xs.getD (a + i) 0 = 0 ∨ xs.getD (a + i) 0 = 1 := by
      rw [List.getD_eq_getElem?_getD, List.getElem?_eq_getElem (by omega)]
      exact h _ (List.getElem_mem _)
    have e : k = (i + 1) + (k - 1 - i) := by omega
    have h3 := numAt_div h a (i + 1) (k - 1 - i) (by omega)
    rw [← e] at h3
    simp only [bitsOf, List.getElem_map, List.getElem_range, Int.toNat_natCast, h3, numAt, List.getElem_take, List.getElem_drop]
    rw [List.getD_eq_getElem?_getD, List.getElem?_eq_getElem (by omega), Option.getD_some] at hx ⊢
    omega

theorem chr_back1 : ∀ v : Fin 10, charVal 1 (chr 1 (v.val : Int)).toNat = (v.val : Int) := by decide +kernel
theorem chr_back2 : ∀ v : Fin 45, charVal 2 (chr 2 (v.val : Int)).toNat = (v.val : Int) := by decide +kernel
theorem chr_back3 : ∀ v : Fin 32, charVal 3 (chr 3 (v.val : Int)).toNat = (v.val : Int) := by decide +kernel
theorem chr_back {m v : Int} (hm : 1 ≤ m ∧ m ≤ 4) (hv : 0 ≤ v ∧ v < iBase m) : charVal m (chr m v).toNat = v := by
  obtain ⟨k, rfl⟩ : ∃ k : Nat, v = k := ⟨v.toNat, by omega⟩
  have : m = 1 ∨ m = 2 ∨ m = 3 ∨ m = 4 := by omega
  rcases this with rfl | rfl | rfl | rfl
  · have h : k < 10 := by have := hv.2; have e : iBase 1 = 10 := rfl; omega
    exact chr_back1 ⟨k, h⟩
  · have h : k < 45 := by have := hv.2; have e : iBase 2 = 45 := rfl; omega
    exact chr_back2 ⟨k, h⟩
  · have h : k < 32 := by have := hv.2; have e : iBase 3 = 32 := rfl; omega
    exact chr_back3 ⟨k, h⟩
  · have h : k < 256 := by have := hv.2; have e : iBase 4 = 256 := rfl; omega
    have e : ((chr 4 (k : Int)).toNat : Int) = k := by
      unfold chr
      rw [if_pos rfl, Int.toNat_natCast, UInt8.toNat_ofNat_of_lt' (show k < 256 by omega)]
    rw [e]
    unfold charVal
    rw [if_neg (by omega), if_pos rfl]

theorem byteAt_app {s t : ByteArray} (k : Nat) (h : k < t.size) : byteAt (s ++ t) (s.size + k) = byteAt t k := by
  unfold byteAt
  congr 2
  rw [List.getD_eq_getElem?_getD, List.getD_eq_getElem?_getD, ByteArray.data_append, Array.toList_append, List.getElem?_append_right (by simp)]
  simp
theorem byteAt_appl {s t : ByteArray} (k : Nat) (h : k < s.size) : byteAt (s ++ t) k = byteAt s k := by
  unfold byteAt
  congr 2
  rw [List.getD_eq_getElem?_getD, List.getD_eq_getElem?_getD, ByteArray.data_append, Array.toList_append, List.getElem?_append_left (by simpa using h)]

/-- The group that is read is written as the same number. -/
theorem numF_dig {m G : Int} {n : Nat} (hm : 1 ≤ m ∧ m ≤ 4) (hG : 0 ≤ G ∧ G ≤ 1099511627776) (hz : gq G (iBase m) n = 0) (pre t : ByteArray) : ∀ j, j ≤ n → numF (iBase m) m (pre ++ ((⟨(dig m G n).toArray⟩ : ByteArray) ++ t)) pre.size j = gq G (iBase m) (n - j) := by
  intro j
  induction j with
  | zero => intro _; rw [Nat.sub_zero, hz]; rfl
  | succ j ih =>
    intro hj
    have hp := iBase_pos m
    obtain ⟨k, hk⟩ : ∃ k, n - j = k + 1 := ⟨n - j - 1, by omega⟩
    have hds : (⟨(dig m G n).toArray⟩ : ByteArray).size = n := dig_len m G n
    have hb : byteAt (pre ++ ((⟨(dig m G n).toArray⟩ : ByteArray) ++ t)) (pre.size + j) = ((chr m (gq G (iBase m) k % iBase m)).toNat : Int) := by
      rw [byteAt_app j (by rw [ByteArray.size_append, hds]; omega), byteAt_appl j (by rw [hds]; omega)]
      unfold byteAt
      congr 2
      have e : n - 1 - j = k := by omega
      simp [dig, show j < n by omega, e]
    have hm1 : 0 ≤ gq G (iBase m) k % iBase m ∧ gq G (iBase m) k % iBase m < iBase m := ⟨Int.emod_nonneg _ (by omega), Int.emod_lt_of_pos _ (by omega)⟩
    rw [numF, ih (by omega), hk, hb, chr_back hm hm1, show n - (j + 1) = k by omega, gq]
    have := Int.emod_add_mul_ediv (gq G (iBase m) k) (iBase m)
    rw [Int.mul_comm] at this
    omega
theorem dig_in {m G : Int} {n : Nat} (hm : 1 ≤ m ∧ m ≤ 4) : ∀ x ∈ dig m G n, 0 ≤ charVal m x.toNat := fun x hx => by
  have hp := iBase_pos m
  simp only [dig, List.mem_map, List.mem_range] at hx
  obtain ⟨i, _, rfl⟩ := hx
  have hm1 : 0 ≤ gq G (iBase m) (n - 1 - i) % iBase m ∧ gq G (iBase m) (n - 1 - i) % iBase m < iBase m := ⟨Int.emod_nonneg _ (by omega), Int.emod_lt_of_pos _ (by omega)⟩
  rw [chr_back hm hm1]
  exact hm1.1
theorem take_drop_app (xs : List Int) {a b c : Nat} (h1 : a ≤ b) (h2 : b ≤ c) : (xs.drop a).take (b - a) ++ (xs.drop b).take (c - b) = (xs.drop a).take (c - a) := by
  have e : xs.drop b = (xs.drop a).drop (b - a) := by rw [List.drop_drop]; congr 1; omega
  rw [e, show c - a = (b - a) + (c - b) by omega, List.take_add]

theorem rdG_back {xs : List Int} {m : Int} (hb : ∀ x ∈ xs, x = 0 ∨ x = 1) (hm : 1 ≤ m ∧ m ≤ 4) : ∀ (f a c : Nat) (t : ByteArray) (b : Nat), rdG m xs f a c = some (t, b) → (a : Int) + textW m c ≤ xs.length → c ≤ 1000000 →
    t.size = c ∧ a ≤ b ∧ b ≤ xs.length ∧ (∀ x ∈ t.data.toList, 0 ≤ charVal m x.toNat) ∧ ∀ (pre : ByteArray) (F : Nat), t.size ≤ F → rB m (pre ++ t) F pre.size = (xs.drop a).take (b - a) := by
  have hem : (∀ (a : Nat), (a : Int) ≤ xs.length → ((ByteArray.empty).size = 0 ∧ a ≤ a ∧ a ≤ xs.length ∧ (∀ x ∈ (ByteArray.empty).data.toList, 0 ≤ charVal m x.toNat) ∧ ∀ (pre : ByteArray) (F : Nat), (ByteArray.empty).size ≤ F → rB m (pre ++ ByteArray.empty) F pre.size = (xs.drop a).take (a - a))) := fun a ha =>
    ⟨rfl, Nat.le_refl _, by omega, fun x hx => by simp at hx, fun pre F _ => by rw [rB_end _ _ _ _ (by simp), Nat.sub_self, List.take_zero]⟩
  intro f
  induction f with
  | zero =>
    intro a c t b h ha hc
    rw [rdG] at h
    by_cases h0 : c = 0
    · rw [if_pos h0] at h
      simp only [Option.some.injEq, Prod.mk.injEq] at h
      obtain ⟨rfl, rfl⟩ := h
      subst h0
      have := textW_bd m ((0 : Nat) : Int) (by omega)
      exact hem a (by omega)
    · rw [if_neg h0] at h; simp at h
  | succ f ih =>
    intro a c t b h ha hc
    rw [rdG] at h
    by_cases h0 : c = 0
    · rw [if_pos h0] at h
      simp only [Option.some.injEq, Prod.mk.injEq] at h
      obtain ⟨rfl, rfl⟩ := h
      subst h0
      have := textW_bd m ((0 : Nat) : Int) (by omega)
      exact hem a (by omega)
    · rw [if_neg h0] at h
      have hg := grp_bd m
      have hn1 : 1 ≤ min (grp m).toNat c ∧ min (grp m).toNat c ≤ 3 ∧ min (grp m).toNat c ≤ c ∧ min (grp m).toNat c ≤ (grp m).toNat := by omega
      have hstep : textW m c = wid m (min (grp m).toNat c : Nat) + textW m ((c - min (grp m).toNat c : Nat) : Int) := by
        by_cases e : (grp m).toNat ≤ c
        · rw [Nat.min_eq_left e, textW_step (by omega) e, Int.toNat_of_nonneg (by omega)]
        · rw [Nat.min_eq_right (by omega), Nat.sub_self, textW_last (by omega) (by omega) (by omega)]
          simp [textW]
      have hgc : ∀ s : Nat, s = c → min (grp m).toNat s = min (grp m).toNat c := fun s h => by rw [h]
      generalize hge : min (grp m).toNat c = n at *
      have hwd := wid_bd m n
      have htr := textW_bd m ((c - n : Nat) : Int) (by omega)
      obtain ⟨wd, hwde⟩ : ∃ wd : Nat, wid m n = wd := ⟨(wid m n).toNat, by omega⟩
      rw [hwde, Int.toNat_natCast] at h
      have hnb := numAt_bd hb a wd (by omega)
      have hbits := bitsOf_numAt hb a wd (by omega)
      have hg40 : numAt xs a wd ≤ 1099511627776 := by
        have h40 : 2 ^ wd ≤ 2 ^ 40 := Nat.pow_le_pow_right (by omega) (by omega)
        have e : ((2 ^ wd : Nat) : Int) = (2 : Int) ^ wd := by simp
        omega
      have hgn0 := hnb.1
      generalize numAt xs a wd = G at *
      by_cases hz : 0 < gq G (iBase m) n
      · rw [if_pos hz] at h; simp at h
      · rw [if_neg hz] at h
        have hz0 : gq G (iBase m) n = 0 := by have := gq_bd ⟨hgn0, hg40⟩ (iBase_pos m) n; omega
        obtain ⟨⟨t', b'⟩, hr, he⟩ := Option.map_eq_some_iff.1 h
        simp only [Prod.mk.injEq] at he
        obtain ⟨rfl, rfl⟩ := he
        obtain ⟨h1, h2, h3, h4, h5⟩ := ih (a + wd) (c - n) t' b' hr (by rw [hstep, hwde] at ha; omega) (by omega)
        have hds : (⟨(dig m G n).toArray⟩ : ByteArray).size = n := dig_len m G n
        refine ⟨by rw [ByteArray.size_append, hds, h1]; omega, by omega, h3, fun x hx => ?_, fun pre F hF => ?_⟩
        · rw [ByteArray.data_append, Array.toList_append] at hx
          rcases List.mem_append.1 hx with hx | hx
          · exact dig_in hm x (by simpa using hx)
          · exact h4 x hx
        · rw [ByteArray.size_append, hds] at hF
          obtain ⟨F', rfl⟩ : ∃ F', F = F' + 1 := ⟨F - 1, by omega⟩
          have hTs : (pre ++ ((⟨(dig m G n).toArray⟩ : ByteArray) ++ t')).size = pre.size + c := by rw [ByteArray.size_append, ByteArray.size_append, hds, h1]; omega
          have hgN : gN m (pre ++ ((⟨(dig m G n).toArray⟩ : ByteArray) ++ t')) pre.size = n := by
            unfold gN
            rw [hTs]
            rw [← hge]
            congr 1
            omega
          have hrb := rB_next m (pre ++ ((⟨(dig m G n).toArray⟩ : ByteArray) ++ t')) F' pre.size (by omega)
          rw [rB_step _ _ _ _ (by omega), ← hrb, hgN, ← numF_i hm hn1.2.2.2, numF_dig hm ⟨hgn0, hg40⟩ hz0 _ _ n (Nat.le_refl _), Nat.sub_self]
          have h6 := h5 (pre ++ ⟨(dig m G n).toArray⟩) F' (by omega)
          rw [ByteArray.append_assoc, ByteArray.size_append, hds] at h6
          rw [h6, hwde]
          show bitsOf G wd ++ _ = _
          rw [hbits]
          have := take_drop_app xs (a := a) (b := a + wd) (c := b') (by omega) h2
          rwa [Nat.add_sub_cancel_left] at this

/-- A segment that is read: it is one, and its bits are those that were read. -/
theorem rdS_back {xs : List Int} {a : Nat} {m : Int} {t : ByteArray} {b : Nat} (hb : ∀ x ∈ xs, x = 0 ∨ x = 1) (h : rdS xs a = some (m, t, b)) : IsSeg m t ∧ a + 11 ≤ b ∧ b ≤ xs.length ∧ segBits m t = (xs.drop a).take (b - a) := by
  unfold rdS at h
  by_cases h1 : xs.length < a + 11
  · rw [if_pos h1] at h; simp at h
  · rw [if_neg h1] at h
    by_cases h2 : ¬ (1 ≤ numAt xs a 3 ∧ numAt xs a 3 ≤ 4) ∨ numAt xs (a + 3) 8 = 0 ∨ (xs.length : Int) < a + 11 + textW (numAt xs a 3) (numAt xs (a + 3) 8)
    · rw [if_pos h2] at h; simp at h
    · rw [if_neg h2] at h
      have b2 := numAt_bd hb (a + 3) 8 (by omega)
      have hbits1 := bitsOf_numAt hb a 3 (by omega)
      have hbits2 := bitsOf_numAt hb (a + 3) 8 (by omega)
      generalize numAt xs a 3 = m' at *
      obtain ⟨cn, hcn⟩ : ∃ cn : Nat, numAt xs (a + 3) 8 = cn := ⟨(numAt xs (a + 3) 8).toNat, by omega⟩
      rw [hcn] at h h2 b2 hbits2
      rw [Int.toNat_natCast] at h
      have hc8 : cn < 256 := by have := b2.2; omega
      obtain ⟨⟨t', b'⟩, hr, he⟩ := Option.map_eq_some_iff.1 h
      simp only [Prod.mk.injEq] at he
      obtain ⟨rfl, rfl, rfl⟩ := he
      have hm : 1 ≤ m' ∧ m' ≤ 4 := by omega
      obtain ⟨r1, r2, r3, r4, r5⟩ := rdG_back hb hm cn (a + 11) cn t' b' hr (by omega) (by omega)
      refine ⟨⟨hm, by omega, fun j hj => ?_⟩, r2, r3, ?_⟩
      · have := r4 (t'.data.toList[j]'(by simpa using hj)) (List.getElem_mem _)
        rwa [bget _ j hj] at this
      · have r6 := r5 ByteArray.empty t'.size (Nat.le_refl _)
        rw [ByteArray.empty_append] at r6
        have e0 : (ByteArray.empty).size = 0 := rfl
        rw [e0] at r6
        have e3 : bitsOf m' 3 = (xs.drop a).take 3 := hbits1
        have e8 : bitsOf (t'.size : Int) 8 = (xs.drop (a + 3)).take 8 := by rw [r1]; exact hbits2
        unfold segBits
        rw [r6, e3, e8]
        have t1 := take_drop_app xs (a := a) (b := a + 3) (c := a + 11) (by omega) (by omega)
        have t2 := take_drop_app xs (a := a) (b := a + 11) (c := b') (by omega) r2
        rw [show a + 3 - a = 3 by omega, show a + 11 - (a + 3) = 8 by omega, show a + 11 - a = 11 by omega] at t1
        rw [show a + 11 - a = 11 by omega] at t2
        rw [t1, t2]
end Go.Proofs.YtdjknkmifaomgaaGreat
