
/- The laws' own comparison of lists. -/
import Derived.Test.YthjklchmjeojjaaInts
import Derived.Test.YthjklchmjeojjaaDecode
import Derived.Test.YthjklchmjeojjaaPart
/-! The laws' own comparison of lists. -/
namespace Go.Proofs.Ythjklchmjeojjaa
set_option linter.unusedVariables false
set_option linter.unusedSimpArgs false
open Go.RowKit

theorem likeInts_c (p q : Option Addr) (c d : Nat) (xs ys : List Int) (w : World) (hx : IntsAt w p xs) (hy : IntsAt w q ys) (hl : xs.length ≤ 1099511627776) (hl2 : ys.length ≤ 1099511627776) :
    Calls Try.prog 36 #[.slice p xs.length c, .slice q ys.length d] w fun e w' => isB e (xs = ys) ∧ ∃ n, w' = w.drewN n := by
  by_cases hlen : xs.length = ys.length
  · have HL := Lib.hid hlen
    have hl3 : (((xs.length : Int)) != ys.length) = false := by simp [hlen]
    clear hlen
    go_enter Try.func36, Try.ntmps36
    go_wp2
    go_loopw [5] (fun i wr => ∃ k : Nat, k ≤ xs.length ∧ i = .int .i64 k ∧ Hid (xs.take k = ys.take k) ∧ ∃ n, wr = w.drewN n) (fun i _ => xs.length - (intOf i).toNat)
    case atStart => exact ⟨0, Nat.zero_le _, rfl, rfl, 0, rfl⟩
    case round =>
      obtain ⟨k, hk, rfl, HE, n, rfl⟩ := hrel
      by_cases hlt : k < xs.length
      · have hlt2 : k < ys.length := by have := HL.out; omega
        obtain ⟨b, o, rfl, _, h1⟩ := hx k hlt
        obtain ⟨b2, o2, rfl, _, h2⟩ := hy k hlt2
        clear hx hy
        go_wp2
        go_quiet (fail)
        go_wp2
        · have hne : xs[k] ≠ ys[k] := by simpa using (by assumption : (xs[k] != ys[k]) = true)
          go_ret
          exact ⟨isB_f (fun h => hne (by subst h; rfl)), n + nq, World.drewN_drewN ..⟩
        · have he : xs[k] = ys[k] := by simpa using (by assumption : (xs[k] != ys[k]) = false)
          go_roundw
          case rel => exact ⟨k + 1, hlt, by go_num, by show _ = _; rw [List.take_succ_eq_append_getElem hlt, List.take_succ_eq_append_getElem hlt2, HE.out, he], n + nq, by simp⟩
          case measure => simp [intOf]; omega
      · clear hx hy
        go_wp2
        go_ret
        refine ⟨isB_t ?_, _, rfl⟩
        have h1 := HE.out
        have h2 := HL.out
        rwa [List.take_of_length_le (by omega), List.take_of_length_le (by omega)] at h1
  · have hl3 : (((xs.length : Int)) != ys.length) = true := by simp; omega
    clear hx hy
    have HL := Lib.hid hlen; clear hlen
    go_enter Try.func36, Try.ntmps36
    go_wp2
    go_ret
    exact ⟨isB_f (fun h => HL.out (by rw [h])), 0, rfl⟩

end Go.Proofs.Ythjklchmjeojjaa

/-! A payload that is read back: plain laws. -/
namespace Go.Proofs.Ythjklchmjeojjaa
set_option linter.unusedVariables false
set_option linter.unusedSimpArgs false
open Go.RowKit

theorem rdG_rBp {m : Int} {t : ByteArray} (hm : 1 ≤ m ∧ m ≤ 4) (h : AllIn m t) (post : List Int) : ∀ f i (pre : List Int), t.size ≤ i + f → rdG m (pre ++ (rB m t f i ++ post)) f pre.length (t.size - i) = some (t.extract i t.size, pre.length + (rB m t f i).length) := by
  intro f
  induction f with
  | zero =>
    intro i pre hi
    have e : t.extract i t.size = ByteArray.empty := by
      apply ByteArray.ext; apply Array.ext' ; simp; omega
    rw [show t.size - i = 0 by omega, rdG_zero, e]
    rfl
  | succ f ih =>
    intro i pre hi
    by_cases hlt : i < t.size
    · have hg := grp_bd m
      have hgn : gN m t i = min (grp m).toNat (t.size - i) := rfl
      have hN := numF_wid hm h (a := i) (j := gN m t i) (by omega) (by omega) (by omega)
      rw [rdG, if_neg (by omega), ← hgn, rB_step m t f i hlt, List.append_assoc, ← numF_i hm (by omega : gN m t i ≤ (grp m).toNat), numAt_full _ _ _ _ hN, gq_num hm h (by omega) _ (Nat.le_refl _), Nat.sub_self, if_neg (by simp [numF]), dig_num hm h (by omega)]
      have hl := bitsOf_len (numF (iBase m) m t i (gN m t i)) (wid m (gN m t i))
      generalize bitsOf (numF (iBase m) m t i (gN m t i)) (wid m (gN m t i)) = bs at *
      have := ih (i + (grp m).toNat) (pre ++ bs) (by omega)
      rw [List.append_assoc, List.length_append, hl, show t.size - (i + (grp m).toNat) = t.size - i - gN m t i by omega] at this
      rw [this]
      simp only [Option.map_some, List.length_append, hl]
      congr 2
      · have e : i + gN m t i = i + (grp m).toNat ∨ t.size = i + gN m t i := by omega
        apply ByteArray.ext
        simp only [ByteArray.data_append, ByteArray.data_extract]
        rcases e with e | e
        · rw [e, Array.extract_append_extract]
          rw [Nat.min_eq_left (by omega), Nat.max_eq_right (by omega)]
        · have e3 : t.data.extract (i + (grp m).toNat) t.size = #[] := by
            rw [Array.extract_eq_empty_iff]
            omega
          rw [e3, Array.append_empty, ← e]
      · omega
    · have e : t.extract i t.size = ByteArray.empty := by
        apply ByteArray.ext; apply Array.ext' ; simp; omega
      rw [show t.size - i = 0 by omega, rdG_zero, e, rB_end _ _ _ _ (by omega)]
      simp
theorem numAt_mid (pre post : List Int) (n : Int) (wd : Nat) (hn : 0 ≤ n ∧ n < 2 ^ wd) : numAt (pre ++ (bitsOf n wd ++ post)) pre.length wd = n := by
  have := numAt_full pre post n wd (by simpa using hn)
  simpa using this
theorem numAt_seg (pre post : List Int) {m : Int} {t : ByteArray} (hm : 1 ≤ m ∧ m ≤ 4) : numAt (pre ++ (segBits m t ++ post)) pre.length 3 = m := by
  have := numAt_mid pre (bitsOf t.size 8 ++ (rB m t t.size 0 ++ post)) m 3 ⟨by omega, by show m < 8; omega⟩
  have e : pre ++ (bitsOf m (3 : Nat) ++ (bitsOf t.size 8 ++ (rB m t t.size 0 ++ post))) = pre ++ (segBits m t ++ post) := by simp [segBits]
  rwa [e] at this
/-- A segment that was written is read again, with more bits behind. -/
theorem rdS_writeP (pre post : List Int) {m : Int} {t : ByteArray} (hS : IsSeg m t) : rdS (pre ++ (segBits m t ++ post)) pre.length = some (m, t, pre.length + (segBits m t).length) := by
  obtain ⟨hm, ht, hA⟩ := hS
  have hl := segBits_length (t := t) hm
  have hlen : (pre ++ (segBits m t ++ post)).length = pre.length + ((segBits m t).length + post.length) := by simp
  have e1 := numAt_seg pre post (t := t) hm
  have e2 : numAt (pre ++ (segBits m t ++ post)) (pre.length + 3) 8 = t.size := by
    have := numAt_mid (pre ++ bitsOf m 3) (rB m t t.size 0 ++ post) t.size 8 ⟨by omega, by show (t.size : Int) < 256; omega⟩
    have e : (pre ++ bitsOf m 3) ++ (bitsOf t.size (8 : Nat) ++ (rB m t t.size 0 ++ post)) = pre ++ (segBits m t ++ post) := by simp [segBits]
    rw [e, List.length_append, bitsOf_len] at this
    exact this
  have e3 : rdG m (pre ++ (segBits m t ++ post)) t.size (pre.length + 11) t.size = some (t, pre.length + (segBits m t).length) := by
    have := rdG_rBp hm hA post t.size 0 (pre ++ (bitsOf m 3 ++ bitsOf t.size 8)) (by omega)
    have e : (pre ++ (bitsOf m 3 ++ bitsOf t.size 8)) ++ (rB m t t.size 0 ++ post) = pre ++ (segBits m t ++ post) := by simp [segBits]
    rw [e] at this
    simp only [List.length_append, bitsOf_len, Nat.sub_zero] at this
    rw [show pre.length + ((3 : Int).toNat + (8 : Int).toNat) = pre.length + 11 from rfl] at this
    rw [this]
    congr 2
    · apply ByteArray.ext; simp
    · simp [segBits, bitsOf_len]; omega
  have htw := textW_bd m t.size (by omega)
  unfold segLen at hl
  unfold rdS
  rw [e1, e2, Int.toNat_natCast, if_neg (by omega), if_neg (by rw [hlen]; omega), e3]
  rfl
theorem mBits_cons (x : Sg) (L : List Sg) : mBits (x :: L) = segBits x.1 x.2 ++ mBits L := rfl
theorem mBits_long (L : List Sg) : L.length ≤ (mBits L).length := by
  induction L with
  | nil => simp
  | cons x L ih =>
    rw [mBits_cons, List.length_append, List.length_cons]
    have : 1 ≤ (segBits x.1 x.2).length := by simp only [segBits, List.length_append, bitsOf_len]; show 1 ≤ 3 + _ + _; omega
    omega
theorem segs_mBits (post : List Int) (hpost : 3 ≤ post.length → ∃ r, post = 0 :: 0 :: 0 :: r) : ∀ (L : List Sg) (pre : List Int) (f tot : Nat), segsOK L → tot + (joined L).size ≤ 400 → L.length < f → segsR (pre ++ (mBits L ++ post)) f pre.length tot = (L, 0) := by
  intro L
  induction L with
  | nil =>
    intro pre f tot _ _ _
    refine segs_end fun ⟨h1, h2⟩ => ?_
    have h3 : 3 ≤ post.length := by simp [mBits] at h1; omega
    obtain ⟨r, rfl⟩ := hpost h3
    apply h2
    have e : pre ++ (mBits [] ++ 0 :: 0 :: 0 :: r) = pre ++ ([0, 0, 0] ++ r) := rfl
    rw [e]
    show ((0 * 2 + (pre ++ ([0, 0, 0] ++ r)).getD (pre.length + 0) 0) * 2 + (pre ++ ([0, 0, 0] ++ r)).getD (pre.length + 1) 0) * 2 + (pre ++ ([0, 0, 0] ++ r)).getD (pre.length + 2) 0 = 0
    rw [getD_mid _ _ _ 0 (by simp), getD_mid _ _ _ 1 (by simp), getD_mid _ _ _ 2 (by simp)]
    rfl
  | cons x L ih =>
    obtain ⟨m, t⟩ := x
    intro pre f tot hO hs hf
    obtain ⟨f, rfl⟩ : ∃ g, f = g + 1 := ⟨f - 1, by simp at hf; omega⟩
    have hS : IsSeg m t := hO (m, t) (List.mem_cons_self ..)
    have e : pre ++ (mBits ((m, t) :: L) ++ post) = pre ++ (segBits m t ++ (mBits L ++ post)) := by rw [mBits_cons, List.append_assoc]
    rw [joined_cons, ByteArray.size_append] at hs
    have hs' : tot + (t.size + (joined L).size) ≤ 400 := hs
    have h11 : 3 ≤ (segBits m t).length := by simp only [segBits, List.length_append, bitsOf_len]; show 3 ≤ 3 + _ + _; omega
    rw [e, segs_go ⟨by simp only [List.length_append]; omega, by rw [numAt_seg _ _ hS.1]; have := hS.1; omega⟩ (rdS_writeP pre (mBits L ++ post) hS) (by omega)]
    have := ih (pre ++ segBits m t) f (tot + t.size) (fun y hy => hO y (List.mem_cons_of_mem _ hy)) (by omega) (by simp at hf; omega)
    rw [List.append_assoc, List.length_append] at this
    rw [this]
    rfl
theorem patL_len (n : Nat) : (patL n).length = n := by simp [patL]
theorem segs_pad {L : List Sg} {pre : List Int} {room f : Nat} (hO : segsOK L) (hs : (joined L).size ≤ 400) (hf : L.length < f) : segsR (padL (pre ++ mBits L) room) f pre.length 0 = (L, 0) := by
  unfold padL
  rw [List.append_assoc, List.append_assoc]
  refine segs_mBits _ (fun h => ?_) L pre f 0 hO (by omega) hf
  generalize room - (pre ++ mBits L).length = r at *
  simp only [List.length_append, List.length_replicate, patL_len] at h
  rw [Nat.min_eq_right (by omega)]
  exact ⟨_, rfl⟩
theorem bits_takeW (W : Nat) {P : List Int} (hb : ∀ x ∈ P, x = 0 ∨ x = 1) : ∀ n, n * W ≤ P.length → bitsL W ((List.range n).map fun i => numAt P (i * W) W) = P.take (n * W) := by
  intro n
  induction n with
  | zero => intro _; simp [bitsL]
  | succ n ih =>
    intro h
    rw [Nat.add_mul, Nat.one_mul] at h
    rw [List.range_succ, List.map_append, bitsL_app, ih (by omega), Nat.add_mul, Nat.one_mul, List.take_add]
    congr 1
    have := bitsOf_numAt hb (n * W) W h
    simp [bitsL, this]
theorem elems_back {P : List Int} {W n : Nat} (hb : ∀ x ∈ P, x = 0 ∨ x = 1) (hW : 1 ≤ W) (hl : P.length = n * W) : (elemsL W P).length = n ∧ bitsL W (elemsL W P) = P := by
  have hd : P.length / W = n := by rw [hl, Nat.mul_div_cancel _ (by omega)]
  unfold elemsL
  rw [hd]
  refine ⟨by simp, ?_⟩
  rw [bits_takeW W hb n (by omega), ← hl, List.take_length]
theorem elems_bd {P : List Int} {W n : Nat} (hb : ∀ x ∈ P, x = 0 ∨ x = 1) (hW : 1 ≤ W) (hl : P.length = n * W) : ∀ x ∈ elemsL W P, 0 ≤ x ∧ x < 2 ^ W := fun x hx => by
  have hd : P.length / W = n := by rw [hl, Nat.mul_div_cancel _ (by omega)]
  unfold elemsL at hx
  rw [List.mem_map] at hx
  obtain ⟨i, hi, rfl⟩ := hx
  rw [List.mem_range, hd] at hi
  have : (i + 1) * W ≤ n * W := Nat.mul_le_mul_right _ hi
  rw [Nat.add_mul, Nat.one_mul] at this
  exact numAt_bd hb (i * W) W (by omega)
/-- Elements that were made of bits have these bits. -/
theorem eb_elems {p k q : Int} {P : List Int} {n : Nat} (hok : fldOK p k q) (hb : ∀ x ∈ P, x = 0 ∨ x = 1) (hl : P.length = n * fW (fldSize p k)) (hn : 1 ≤ n ∧ n ≤ 1500) (hr : P.length ≤ 8192) :
    ebC p k q (elemsL (fW (fldSize p k)) P) = 0 ∧ ebL p k q (elemsL (fW (fldSize p k)) P) = P := by
  obtain ⟨hs, hk⟩ := fldSize_bd hok
  have hbd := fW_bd hs
  obtain ⟨h1, h2⟩ := elems_back hb hbd.1 hl
  have h3 := elems_bd hb hbd.1 hl
  obtain ⟨e1, e2⟩ := eb_0 (q := q) hok (xs := elemsL (fW (fldSize p k)) P) ⟨by rw [h1]; exact hn, fun x hx => by have := h3 x hx; omega⟩ (by rw [h1]; omega) (fun x hx => (h3 x hx).2)
  exact ⟨e1, by rw [e2, h2]⟩
theorem joined_bests0 (t : ByteArray) : joined (bests t t.size) = t := by
  rw [bests_joined t _ (Nat.le_refl _), Nat.sub_self]
  simp
/-- A message is read from its payload. -/
theorem pay_back {p k q : Int} {t : ByteArray} {cap : Int} (h : epC p k q t cap = 0) :
    ebC p k q (epL p k q t cap) = 0 ∧ (ebL p k q (epL p k q t cap)).length = cap.toNat * fW (fldSize p k) ∧ elemsL (fW (fldSize p k)) (ebL p k q (epL p k q t cap)) = epL p k q t cap ∧ (psgR p k q (epL p k q t cap)).2 = 0 ∧ dpT p k q (epL p k q t cap) = t := by
  have hc := h
  unfold epC at h
  split at h
  · omega
  split at h
  · omega
  split at h
  · omega
  · rename_i h1 h2 h3
    have h1 := Classical.not_not.1 h1
    have h2 := Classical.not_not.1 h2
    obtain ⟨_, hl⟩ := ep_0 h1 h2 h3
    obtain ⟨hs, hk⟩ := fldSize_bd h1
    have hbd := fW_bd hs
    have ht : t.size ≤ 400 := by omega
    have hp : (padL (mBits (bests t t.size)) (cap * fW (fldSize p k)).toNat).length = (cap * fW (fldSize p k)).toNat := padL_len (by have := msg_len t; omega)
    have hbit := padL_bit (xs := mBits (bests t t.size)) (room := (cap * fW (fldSize p k)).toNat) mBits_bit
    have hcw : (cap * fW (fldSize p k)).toNat = cap.toNat * fW (fldSize p k) := by
      rw [Int.toNat_mul (by omega) (by omega), Int.toNat_natCast]
    have hr : (cap * fW (fldSize p k)).toNat ≤ 8192 := by omega
    obtain ⟨e1, e2⟩ := eb_elems h1 hbit (by rw [hp, hcw]) (n := cap.toNat) (by omega) (by rw [hp]; exact hr)
    rw [hl]
    have hO := bests_ok t t.size (Nat.le_refl _)
    have hj := joined_bests0 t
    have hsg := segs_pad (L := bests t t.size) (pre := []) (room := (cap * fW (fldSize p k)).toNat) (f := (padL (mBits (bests t t.size)) (cap * fW (fldSize p k)).toNat).length + 1) hO (by rw [hj]; exact ht) (by
      have h4 := mBits_long (bests t t.size)
      have h5 : (mBits (bests t t.size)).length ≤ (padL (mBits (bests t t.size)) (cap * fW (fldSize p k)).toNat).length := by unfold padL; simp only [List.length_append]; omega
      omega)
    have hR : psgR p k q (elemsL (fW (fldSize p k)) (padL (mBits (bests t t.size)) (cap * fW (fldSize p k)).toNat)) = (bests t t.size, 0) := by
      unfold psgR
      rw [if_pos e1, e2]
      exact hsg
    refine ⟨e1, by rw [e2, hp, hcw], by rw [e2], by rw [hR], ?_⟩
    unfold dpT
    rw [hR]
    exact hj
end Go.Proofs.Ythjklchmjeojjaa
