/- Parts of a message: plain laws. -/
import Derived.Test.YthpnkcamjcohgaaDoorLPartsK29
import Derived.Test.YthpnkcamjcohgaaDoorLPartsK30
/-! Parts of a message: plain laws. -/
namespace Go.Proofs.YthpnkcamjcohgaaDoor
set_option linter.unusedVariables false
set_option linter.unusedSimpArgs false
open Go.RowKit

/-- Texts in a row. -/
def catB : List ByteArray → ByteArray
  | [] => ByteArray.empty
  | x :: xs => x ++ catB xs
theorem catB_app (xs ys : List ByteArray) : catB (xs ++ ys) = catB xs ++ catB ys := by
  induction xs with
  | nil => show catB ys = ByteArray.empty ++ catB ys; rw [ByteArray.empty_append]
  | cons x xs ih => show x ++ catB (xs ++ ys) = x ++ catB xs ++ catB ys; rw [ih, ByteArray.append_assoc]
theorem catB_take {L : List ByteArray} {k : Nat} (h : k < L.length) : catB (L.take (k + 1)) = catB (L.take k) ++ L.getD k ByteArray.empty := by
  rw [List.take_succ_eq_append_getElem h, catB_app]
  congr 1
  show L[k] ++ ByteArray.empty = _
  rw [ByteArray.append_empty, List.getD_eq_getElem?_getD, List.getElem?_eq_getElem h]
  rfl
theorem catB_size (L : List ByteArray) : ∀ k, (catB (L.take k)).size ≤ (catB L).size := fun k => by
  conv => rhs; rw [← List.take_append_drop k L, catB_app, ByteArray.size_append]
  omega
theorem ext_join (r : ByteArray) (n : Nat) : r.extract 0 n ++ r.extract n r.size = r := by
  rw [ByteArray.extract_append_extract, Nat.min_eq_left (Nat.zero_le _)]
  apply ByteArray.ext
  rw [ByteArray.data_extract]
  apply Array.ext'
  rw [Array.toList_extract, List.extract_eq_take_drop]
  simp only [List.drop_zero, Nat.sub_zero]
  rw [List.take_of_length_le]
  show r.data.size ≤ max n r.size
  exact Nat.le_max_right _ _
theorem splitR_ok (room : Int) : ∀ (f : Nat) (r : ByteArray) (c : Nat) (L : List ByteArray), c ≤ 8 → splitR room f r c = some L → catB L = r ∧ c + L.length ≤ 8 ∧ (c = 0 → 1 ≤ L.length) ∧ ∀ x ∈ L, x.size ≤ r.size := by
  intro f
  induction f with
  | zero => intro r c L _ h; simp [splitR] at h
  | succ f ih =>
    intro r c L hc h
    unfold splitR at h
    split at h
    · rename_i h0
      simp at h
      subst h
      exact ⟨(bytes_nil h0.1).symm, by simp; omega, fun e => absurd e h0.2, by simp⟩
    · rename_i h0
      split at h
      · simp at h
      · rename_i h1
        rw [Option.map_eq_some_iff] at h
        obtain ⟨l, h2, rfl⟩ := h
        have h8 : c ≠ 8 := fun e => h1 (.inr e)
        obtain ⟨e1, e2, _, e4⟩ := ih _ _ _ (by omega) h2
        refine ⟨?_, by rw [List.length_cons]; omega, fun _ => by simp, fun x hx => ?_⟩
        · show _ ++ catB l = r
          rw [e1, ext_join]
        · rcases List.mem_cons.1 hx with rfl | hx
          · rw [ByteArray.size_extract]; omega
          · have := e4 x hx
            rw [ByteArray.size_extract] at this
            omega
/-- What SplitMessage tells where it tells parts. -/
theorem smV_ok {p k q : Int} {t : ByteArray} {cap : Int} {Y : List Pt} (h : smV p k q t cap = (Y, 0)) : ∃ L : List ByteArray, Y = mkP L.length (par t) 0 L ∧ catB L = t ∧ (1 ≤ L.length ∧ L.length ≤ 8) ∧ (∀ x ∈ L, x.size ≤ 400) ∧ t.size ≤ 400 := by
  unfold smV at h
  split at h
  · simp at h
  · split at h
    · simp at h
    · split at h
      · simp at h
      · rename_i h1
        cases hs : splitR (cap * fW (fldSize p k) - 17) 9 t 0 with
        | none => rw [hs] at h; simp [smO] at h
        | some L =>
          rw [hs] at h
          simp only [smO, Prod.mk.injEq, and_true] at h
          obtain ⟨e1, e2, e3, e4⟩ := splitR_ok _ _ _ _ _ (Nat.zero_le _) hs
          have h2 : t.size ≤ 400 := by
            rcases Nat.lt_or_ge 400 t.size with h3 | h3
            · exact absurd (.inl h3) h1
            · exact h3
          exact ⟨L, h.symm, e1, ⟨e3 rfl, by omega⟩, fun x hx => Nat.le_trans (e4 x hx) h2, h2⟩
theorem par_bd (s : ByteArray) : 0 ≤ par s ∧ par s ≤ 255 := parI_bd s s.size
theorem mkP_at (n y : Int) : ∀ (L : List ByteArray) (i j : Nat), j < L.length → (mkP n y i L)[j]? = some (((i + j : Nat) : Int), n, y, L.getD j ByteArray.empty)
  | [], i, j, h => by simp at h
  | x :: L, i, 0, h => by simp [mkP]
  | x :: L, i, j + 1, h => by
    have := mkP_at n y L (i + 1) j (by simpa using h)
    simp only [mkP, List.getElem?_cons_succ, List.getD_cons_succ]
    rw [this, show i + 1 + j = i + (j + 1) by omega]
/-- The key of an index below 8. -/
def keyB (i : Nat) : ByteArray := ⟨#[UInt8.ofNat (48 + i)]⟩
theorem keyB_inj {i j : Nat} (hi : i < 8) (hj : j < 8) (h : keyB i = keyB j) : i = j := by
  have h1 := congrArg (fun s : ByteArray => s.data.toList.map UInt8.toNat) h
  simp [keyB] at h1
  omega
/-- Some parts of a message: σ tells which. -/
structure PS (σ : Nat → Nat) (m n : Nat) (y : Int) (L : List ByteArray) (xs : List Pt) : Prop where
  len : xs.length = m
  at_ : ∀ j, j < m → xs[j]? = some ((σ j : Int), (n : Int), y, L.getD (σ j) ByteArray.empty) ∧ σ j < n
  inj : ∀ i j, i < m → j < m → σ i = σ j → i = j
  m1 : 1 ≤ m
  mn : m ≤ n
  n8 : n ≤ 8
  par : 0 ≤ y ∧ y ≤ 255
  Ln : L.length = n
  Ls : ∀ x ∈ L, x.size ≤ 400
/-- The texts that are known after j parts. -/
def fJ (σ : Nat → Nat) (L : List ByteArray) : Nat → ByteArray → Option Value
  | 0 => fun _ => none
  | j + 1 => fun z => if z = keyB (σ j) then some (.string (L.getD (σ j) ByteArray.empty)) else fJ σ L j z
theorem fJ_miss {σ : Nat → Nat} {L : List ByteArray} : ∀ {j i : Nat}, i < 8 → (∀ q, q < j → σ q < 8 ∧ σ q ≠ i) → fJ σ L j (keyB i) = none
  | 0, _, _, _ => rfl
  | j + 1, i, hi, h => by
    have h1 := h j (Nat.lt_succ_self _)
    show (if keyB i = keyB (σ j) then _ else fJ σ L j (keyB i)) = none
    rw [if_neg (fun e => h1.2 (keyB_inj hi h1.1 e).symm)]
    exact fJ_miss hi fun q hq => h q (by omega)
theorem fJ_hit {σ : Nat → Nat} {L : List ByteArray} : ∀ {m j : Nat}, j < m → (∀ q, q < m → σ q < 8) → fJ σ L m (keyB (σ j)) = some (.string (L.getD (σ j) ByteArray.empty))
  | m + 1, j, hj, h => by
    show (if keyB (σ j) = keyB (σ m) then _ else fJ σ L m (keyB (σ j))) = _
    by_cases e : keyB (σ j) = keyB (σ m)
    · rw [if_pos e, keyB_inj (h j hj) (h m (Nat.lt_succ_self _)) e]
    · rw [if_neg e]
      have hne : j ≠ m := fun h' => e (by rw [h'])
      exact fJ_hit (by omega) fun q hq => h q (by omega)
theorem ps_back {n : Nat} {y : Int} {L : List ByteArray} (hn : L.length = n) (h1 : 1 ≤ n) (h8 : n ≤ 8) (hp : 0 ≤ y ∧ y ≤ 255) (hs : ∀ x ∈ L, x.size ≤ 400) : PS (fun j => n - 1 - j) n n y L (mkP n y 0 L).reverse := by
  have hl : (mkP (n : Int) y 0 L).length = n := by rw [mkP_len, hn]
  refine ⟨by rw [List.length_reverse, hl], fun j hj => ⟨?_, by omega⟩, fun i j hi hj e => by omega, h1, Nat.le_refl _, h8, hp, hn, hs⟩
  rw [List.getElem?_reverse (by omega), hl, mkP_at _ _ L 0 (n - 1 - j) (by omega), Nat.zero_add]
theorem ps_some {n k : Nat} {y : Int} {L : List ByteArray} (hn : L.length = n) (h1 : 2 ≤ n) (h8 : n ≤ 8) (hk : k < n) (hp : 0 ≤ y ∧ y ≤ 255) (hs : ∀ x ∈ L, x.size ≤ 400) : PS (fun j => if j < k then j else j + 1) (n - 1) n y L ((mkP n y 0 L).take k ++ (mkP n y 0 L).drop (k + 1)) := by
  have hl : (mkP (n : Int) y 0 L).length = n := by rw [mkP_len, hn]
  refine ⟨by rw [List.length_append, List.length_take, List.length_drop, hl]; omega, fun j hj => ⟨?_, by split <;> omega⟩, fun i j hi hj e => by revert e; split <;> split <;> omega, by omega, by omega, h8, hp, hn, hs⟩
  by_cases hjk : j < k
  · rw [List.getElem?_append_left (by rw [List.length_take, hl]; omega), List.getElem?_take_of_lt hjk, mkP_at _ _ L 0 j (by omega), Nat.zero_add, if_pos hjk]
  · rw [List.getElem?_append_right (by rw [List.length_take, hl]; omega), List.length_take, hl, List.getElem?_drop, mkP_at _ _ L 0 _ (by omega), Nat.zero_add, if_neg hjk]
    rw [show k + 1 + (j - min k n) = j + 1 by omega]
theorem some_mis {n k : Nat} (hk : k < n) : ∀ i, i < n → ((∃ q, q < n - 1 ∧ (if q < k then q else q + 1) = i) ↔ i ≠ k) := fun i hi => by
  constructor
  · rintro ⟨q, hq, e⟩
    revert e
    split <;> omega
  · intro hne
    by_cases h : i < k
    · exact ⟨i, by omega, if_pos h⟩
    · exact ⟨i - 1, by omega, by rw [if_neg (by omega)]; omega⟩
end Go.Proofs.YthpnkcamjcohgaaDoor
