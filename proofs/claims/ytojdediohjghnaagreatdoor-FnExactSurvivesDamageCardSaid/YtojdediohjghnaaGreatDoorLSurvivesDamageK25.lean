/- Stacked symbols: plain laws on the votes for a level and on elements. -/
import Derived.Test.YtojdediohjghnaaGreatDoorLSurvivesDamageK01
import Derived.Test.YtojdediohjghnaaGreatDoorLSurvivesDamageK04
import Derived.Test.YtojdediohjghnaaGreatDoorLSurvivesDamageK24
set_option linter.unusedVariables false
set_option linter.unusedSimpArgs false
namespace Go.Proofs.YtojdediohjghnaaGreatDoor
open Go.RowKit

def rowsV (xs : List Int) (C m r : Nat) : List Int := rowV (rowL C xs r) ((r % 3 : Nat) : Int) m
theorem rowsV_len (xs : List Int) (C m r : Nat) : (rowsV xs C m r).length = m := rowV_len _ _ _
def votes (xs : List Int) (C m : Nat) : Nat → Int → Nat
 | 0, _ => 0
 | r + 1, v => votes xs C m r v + if r % 3 = 2 ∧ (rowsV xs C m r).getD (m - 1) 0 = v then 1 else 0
theorem votes_hit {xs : List Int} {C m r : Nat} {v : Int} (h : r % 3 = 2) (hv : (rowsV xs C m r).getD (m - 1) 0 = v) : votes xs C m (r + 1) v = votes xs C m r v + 1 := by
 show votes xs C m r v + (if _ then 1 else 0) = _
 rw [if_pos ⟨h, hv⟩]
theorem votes_miss {xs : List Int} {C m r : Nat} {v : Int} (h : ¬ (r % 3 = 2 ∧ (rowsV xs C m r).getD (m - 1) 0 = v)) : votes xs C m (r + 1) v = votes xs C m r v := by
 show votes xs C m r v + (if _ then 1 else 0) = _
 rw [if_neg h]
 rfl
theorem votes_bd (xs : List Int) (C m : Nat) (v : Int) : ∀ r, votes xs C m r v ≤ r
 | 0 => Nat.le_refl _
 | r + 1 => by
  have ih := votes_bd xs C m v r
  show votes xs C m r v + (if _ then 1 else 0) ≤ _
  split <;> omega
def vt (n : Nat) (V : Int → Nat) (k : Nat) : Nat := if k < n then V k else 0
theorem vt_in {n : Nat} {V : Int → Nat} {k : Nat} (h : k < n) : vt n V k = V k := if_pos h
theorem vt_out {n : Nat} {V : Int → Nat} {k : Nat} (h : ¬ k < n) : vt n V k = 0 := if_neg h
def topTo (V : Nat → Nat) : Nat → Nat
 | 0 => 0
 | k + 1 => if V (topTo V k) < V k then k else topTo V k
theorem topTo_lt (V : Nat → Nat) : ∀ k, topTo V k ≤ k - 1
 | 0 => Nat.le_refl _
 | k + 1 => by
  have ih := topTo_lt V k
  show (if _ then _ else _) ≤ _
  split <;> omega
theorem topTo_up {V : Nat → Nat} {k : Nat} (h : V (topTo V k) < V k) : topTo V (k + 1) = k := if_pos h
theorem topTo_no {V : Nat → Nat} {k : Nat} (h : ¬ V (topTo V k) < V k) : topTo V (k + 1) = topTo V k := if_neg h
theorem topTo_pad (V : Nat → Nat) (n : Nat) : ∀ d, (∀ j, n ≤ j → V j = 0) → topTo V (n + d) = topTo V n
 | 0, _ => rfl
 | d + 1, h => by
  rw [← Nat.add_assoc, topTo_no (by rw [h (n + d) (by omega)]; omega)]
  exact topTo_pad V n d h
def topS (V : Nat → Nat) : Nat → Int
 | 0 => -1
 | k + 1 => if 0 < V k ∧ (topS V k < 0 ∨ V (topS V k).toNat < V k) then (k : Int) else topS V k
theorem topS_up {V : Nat → Nat} {k : Nat} (h : 0 < V k ∧ (topS V k < 0 ∨ V (topS V k).toNat < V k)) : topS V (k + 1) = k := if_pos h
theorem topS_no {V : Nat → Nat} {k : Nat} (h : ¬ (0 < V k ∧ (topS V k < 0 ∨ V (topS V k).toNat < V k))) : topS V (k + 1) = topS V k := if_neg h
theorem topS_bd (V : Nat → Nat) : ∀ k, -1 ≤ topS V k ∧ topS V k < k
 | 0 => by simp [topS]
 | k + 1 => by
  have ih := topS_bd V k
  show -1 ≤ (if _ then _ else _) ∧ (if _ then _ else _) < _
  split <;> omega
theorem topS_eq (V : Nat → Nat) : ∀ k, 0 < k → topS V k = if 0 < V (topTo V k) then (topTo V k : Int) else -1
 | 0, h => absurd h (Nat.lt_irrefl _)
 | k + 1, _ => by
  rcases Nat.eq_zero_or_pos k with rfl | hk
  ·have hb : topTo V (0 + 1) = 0 := topTo_no (Nat.lt_irrefl _)
   rw [hb]
   by_cases h : 0 < V 0
   ·rw [topS_up ⟨h, .inl (show topS V 0 < 0 by simp [topS])⟩, if_pos h]
   ·rw [topS_no (fun e => h e.1), if_neg h]
    rfl
  ·have ih := topS_eq V k hk
   by_cases h0 : 0 < V (topTo V k)
   ·rw [if_pos h0] at ih
    by_cases h : V (topTo V k) < V k
    ·rw [topTo_up h, if_pos (by omega), topS_up ⟨by omega, .inr (by rw [ih]; simpa using h)⟩]
    ·rw [topTo_no h, if_pos h0, topS_no (fun e => by
      rcases e.2 with e2 | e2
      ·rw [ih] at e2; omega
      ·rw [ih] at e2; exact h (by simpa using e2)), ih]
   ·rw [if_neg h0] at ih
    by_cases h : 0 < V k
    ·rw [topTo_up (by omega), if_pos h, topS_up ⟨h, .inl (by rw [ih]; decide)⟩]
    ·rw [topTo_no (by omega), if_neg h0, topS_no (fun e => h e.1), ih]
def negTo (l : List Int) : Nat → List Int
 | 0 => []
 | k + 1 => if l.getD k 0 < 0 then negTo l k ++ [(k : Int)] else negTo l k
theorem negTo_up {l : List Int} {k : Nat} (h : l.getD k 0 < 0) : negTo l (k + 1) = negTo l k ++ [(k : Int)] := if_pos h
theorem negTo_no {l : List Int} {k : Nat} (h : ¬ l.getD k 0 < 0) : negTo l (k + 1) = negTo l k := if_neg h
theorem negTo_len (l : List Int) : ∀ k, (negTo l k).length ≤ k
 | 0 => Nat.le_refl _
 | k + 1 => by
  have ih := negTo_len l k
  by_cases h : l.getD k 0 < 0
  ·rw [negTo_up h, List.length_append]; simpa using ih
  ·rw [negTo_no h]; omega
theorem negTo_ext {l m : List Int} : ∀ k, (∀ j, j < k → l.getD j 0 = m.getD j 0) → negTo l k = negTo m k
 | 0, _ => rfl
 | k + 1, h => by
  have ih := negTo_ext k fun j hj => h j (by omega)
  have h1 := h k (Nat.lt_succ_self k)
  by_cases h2 : l.getD k 0 < 0
  ·rw [negTo_up h2, negTo_up (by rw [← h1]; exact h2), ih]
  ·rw [negTo_no h2, negTo_no (by rw [← h1]; exact h2), ih]
theorem negTo_in {l : List Int} : ∀ {k : Nat} {i : Int}, i ∈ negTo l k → ∃ j : Nat, j < k ∧ i = j ∧ l.getD j 0 < 0
 | 0, i, h => by cases h
 | k + 1, i, h => by
  by_cases h2 : l.getD k 0 < 0
  ·rw [negTo_up h2, List.mem_append] at h
   rcases h with h | h
   ·obtain ⟨j, h3, h4⟩ := negTo_in h
    exact ⟨j, by omega, h4⟩
   ·exact ⟨k, Nat.lt_succ_self k, by simpa using h, h2⟩
  ·rw [negTo_no h2] at h
   obtain ⟨j, h3, h4⟩ := negTo_in h
   exact ⟨j, by omega, h4⟩
theorem negTo_mem {l : List Int} : ∀ {k j : Nat}, j < k → l.getD j 0 < 0 → (j : Int) ∈ negTo l k
 | 0, j, h, _ => absurd h (Nat.not_lt_zero j)
 | k + 1, j, h, hj => by
  rcases Nat.lt_or_ge j k with h1 | h1
  ·have := negTo_mem h1 hj
   by_cases h2 : l.getD k 0 < 0
   ·rw [negTo_up h2]; exact List.mem_append_left _ this
   ·rw [negTo_no h2]; exact this
  ·obtain rfl : j = k := by omega
   rw [negTo_up hj]
   exact List.mem_append_right _ (by simp)
def negs (l : List Int) : List Int := negTo l l.length
theorem negs_len (l : List Int) : (negs l).length ≤ l.length := negTo_len l _
theorem getD_app (l : List Int) (v : Int) {j : Nat} (h : j < l.length) : (l ++ [v]).getD j 0 = l.getD j 0 := by
 rw [List.getD_eq_getElem?_getD, List.getElem?_append_left h, ← List.getD_eq_getElem?_getD]
theorem getD_appL (l : List Int) (v : Int) : (l ++ [v]).getD l.length 0 = v := by
 rw [List.getD_eq_getElem?_getD, List.getElem?_append_right (Nat.le_refl _)]
 simp
theorem negs_app (l : List Int) (v : Int) : negs (l ++ [v]) = if v < 0 then negs l ++ [(l.length : Int)] else negs l := by
 have e : negTo (l ++ [v]) l.length = negTo l l.length := negTo_ext _ fun j hj => getD_app l v hj
 unfold negs
 rw [List.length_append, List.length_singleton]
 by_cases h : v < 0
 ·rw [negTo_up (by rw [getD_appL]; exact h), e, if_pos h]
 ·rw [negTo_no (by rw [getD_appL]; exact h), e, if_neg h]
theorem negs_in {l : List Int} {i : Int} : i ∈ negs l ↔ ∃ j : Nat, j < l.length ∧ i = j ∧ l.getD j 0 < 0 :=
 ⟨negTo_in, fun ⟨j, h1, h2, h3⟩ => by rw [h2]; exact negTo_mem h1 h3⟩
theorem negs_up {l : List Int} {v : Int} (h : v < 0) : negs (l ++ [v]) = negs l ++ [(l.length : Int)] := by rw [negs_app, if_pos h]
theorem negs_no {l : List Int} {v : Int} (h : ¬ v < 0) : negs (l ++ [v]) = negs l := by rw [negs_app, if_neg h]
def pos0 (l : List Int) : List Int := l.map fun v => max 0 v
theorem pos0_len (l : List Int) : (pos0 l).length = l.length := by simp [pos0]
theorem pos0_app (l : List Int) (v : Int) : pos0 (l ++ [v]) = pos0 l ++ [max 0 v] := by simp [pos0]
def flatV (xs : List Int) (C co : Nat) (r : Nat) : List Int := (List.range r).flatMap fun j => ((rowsV xs C (co + 2) j).drop 1).take co
theorem flatV_succ (xs : List Int) (C co r : Nat) : flatV xs C co (r + 1) = flatV xs C co r ++ ((rowsV xs C (co + 2) r).drop 1).take co := by
 unfold flatV
 rw [List.range_succ, List.flatMap_append]
 simp
theorem flatV_len (xs : List Int) (C co : Nat) : ∀ r, (flatV xs C co r).length = r * co
 | 0 => by simp [flatV]
 | r + 1 => by
  rw [flatV_succ, List.length_append, flatV_len xs C co r, List.length_take, List.length_drop, rowsV_len, Nat.add_mul, Nat.one_mul, Nat.min_eq_left (by omega)]
end Go.Proofs.YtojdediohjghnaaGreatDoor
/- Stacked symbols, the program's side: the values of all rows. -/
namespace Go.Proofs.YtojdediohjghnaaGreatDoor
open Go.RowKit Go.MapKept Go.ChangeMaps Go.Maps

def LRow (w : World) (B g R : Nat) (F : Nat → List Int) : Prop :=
 ∃ cs, Blk w g cs 24 ∧ B ≤ g ∧ ∀ r, r < R → ∃ q c, cs[r]? = some (.slice q (F r).length c) ∧ IntsAt w q (F r) ∧ (F r).length ≤ c ∧ ∀ b o, q = some ⟨b, o, none⟩ → B ≤ b
theorem LRow.ext {w w' : World} {B g R : Nat} {F : Nat → List Int} (h : LRow w B g R F) (hx : Ext w w') : LRow w' B g R F := by
 obtain ⟨cs, h1, hB, h2⟩ := h
 refine ⟨cs, h1.ext hx, hB, fun r hr => ?_⟩
 obtain ⟨q, c, h3, h4, h6, h5⟩ := h2 r hr
 exact ⟨q, c, h3, h4.ext hx, h6, h5⟩
theorem LRow.but {w w' : World} {B g R x : Nat} {F : Nat → List Int} (h : LRow w B g R F) (hb : But x w w') (hx : x < B) : LRow w' B g R F := by
 obtain ⟨cs, h1, hB, h2⟩ := h
 refine ⟨cs, h1.but hb (by omega), hB, fun r hr => ?_⟩
 obtain ⟨q, c, h3, h4, h6, h5⟩ := h2 r hr
 exact ⟨q, c, h3, h4.butF hb (fun b o e => by have := h5 b o e; omega), h6, h5⟩
theorem LRow.row {w : World} {B g R : Nat} {F : Nat → List Int} (h : LRow w B g R F) {r : Nat} (hr : r < R) : g < w.heap.size ∧ ∃ q c, w.cell? ⟨g, r, none⟩ = some (.slice q (F r).length c) ∧ IntsAt w q (F r) := by
 obtain ⟨cs, h1, hB, h2⟩ := h
 obtain ⟨q, c, h3, h4, h5⟩ := h2 r hr
 exact ⟨h1.lt, q, c, h1.cell h3, h4⟩
def LTo (w : World) (B g R j : Nat) (F : Nat → List Int) : Prop :=
 ∃ cs, Blk w g cs 24 ∧ cs.size = R ∧ (∀ r, r < j → ∃ q c, cs[r]? = some (.slice q (F r).length c) ∧ IntsAt w q (F r) ∧ (F r).length ≤ c ∧ ∀ b o, q = some ⟨b, o, none⟩ → B ≤ b ∧ b ≠ g) ∧ (∀ r, j ≤ r → r < R → cs[r]? = some (.slice none 0 0))
theorem LTo.all {w : World} {B g R : Nat} {F : Nat → List Int} (h : LTo w B g R R F) (hB : B ≤ g) : LRow w B g R F := by
 obtain ⟨cs, h1, _, h2, _⟩ := h
 refine ⟨cs, h1, hB, fun r hr => ?_⟩
 obtain ⟨q, c, h3, h4, h6, h5⟩ := h2 r hr
 exact ⟨q, c, h3, h4, h6, fun b o e => (h5 b o e).1⟩
theorem LTo.made {w : World} {B g R : Nat} {F : Nat → List Int} (h : Blk w g (madeCells #[.slice none 0 0] R) 24) : LTo w B g R 0 F :=
 ⟨_, h, by simp [size_madeCells], fun r hr => absurd hr (Nat.not_lt_zero r), fun r _ hr => by rw [made_get hr]; show some (#[Value.slice none 0 0][r % 1]!) = _; rw [Nat.mod_one]; rfl⟩
theorem LTo.put {w w1 : World} {B g R j : Nat} {F : Nat → List Int} (h : LTo w B g R j F) (hj : j < R) (hx : Ext w w1) {p : Option Addr} {c : Nat} (hp : IntsAt w1 p (F j)) (hc : (F j).length ≤ c) (hne : ∀ b o, p = some ⟨b, o, none⟩ → B ≤ b ∧ b ≠ g) :
  LTo (w1.setCell ⟨g, j, none⟩ (.slice p (F j).length c)) B g R (j + 1) F := by
 obtain ⟨cs, h1, h2, h3, h4⟩ := h
 have hk : ∀ {q : Option Addr} {ys : List Int}, IntsAt w1 q ys → (∀ b o, q = some ⟨b, o, none⟩ → b ≠ g) → IntsAt (w1.setCell ⟨g, j, none⟩ (.slice p (F j).length c)) q ys := fun hq hn i hi => by
  obtain ⟨b, o, e, hb, hv⟩ := hq i hi
  exact ⟨b, o, e, by simpa [World.setCell] using hb, by rw [World.cell?_setCell_other w1 _ _ _ (by simp; exact fun h => absurd h.symm (hn b o e))]; exact hv⟩
 refine ⟨_, (h1.ext hx).set j _, by simp [h2], fun r hr => ?_, fun r hr hR => ?_⟩
 ·rcases Nat.lt_or_ge r j with hlt | hge
  ·obtain ⟨q, c', h5, h6, h9, h7⟩ := h3 r hlt
   refine ⟨q, c', ?_, hk (h6.ext hx) (fun b o e => (h7 b o e).2), h9, h7⟩
   rw [Array.getElem?_setIfInBounds_ne (by omega)]
   exact h5
  ·obtain rfl : r = j := by omega
   refine ⟨p, c, ?_, hk hp (fun b o e => (hne b o e).2), hc, hne⟩
   rw [Array.getElem?_setIfInBounds_self_of_lt (by omega)]
 ·rw [Array.getElem?_setIfInBounds_ne (by omega)]
  exact h4 r (by omega) hR
theorem LTo.at {w w1 : World} {B g R j : Nat} {F : Nat → List Int} (h : LTo w B g R j F) (hj : j < R) (hx : Ext w w1) : w1.cell? ⟨g, j, none⟩ = some (.slice none 0 0) ∧ (∀ i, w1.frozen? ⟨g, i, none⟩ = false) ∧ g < w1.heap.size := by
 obtain ⟨cs, h1, h2, h3, h4⟩ := h
 have h5 := h1.ext hx
 exact ⟨h5.cell (h4 j (Nat.le_refl _) hj), h5.free, h5.lt⟩
theorem LTo.lt {w : World} {B g R j : Nat} {F : Nat → List Int} (h : LTo w B g R j F) : g < w.heap.size := by
 obtain ⟨cs, h1, _⟩ := h
 exact h1.lt
set_option maxHeartbeats 1600000 in
set_option maxRecDepth 100000 in
theorem stackValues_c (R C b o cap : Nat) (xs : List Int) (w : World) (hx : IntsAt w (some ⟨b, o, none⟩) xs) (hl : xs.length = R * C) (hC : 1 ≤ C) (hcap : xs.length ≤ cap) (h4 : R * C ≤ 40000) (hbd : ∀ x ∈ xs, -1 ≤ x ∧ x ≤ 1) :
  Calls Tryz.prog 119 #[vGrid R C (some ⟨b, o, none⟩) xs.length cap] w fun e w' => (∃ g, e = .returned (.slice (some ⟨g, 0, none⟩) R R) ∧ LRow w' w.heap.size g R (fun r => rowsV xs C (rowN C) r)) ∧ Ext w w' := by
 have HX := Lib.hid hx; clear hx
 obtain ⟨F, hF⟩ : ∃ F : Nat → List Int, (fun r => rowsV xs C (rowN C) r) = F := ⟨_, rfl⟩
 rw [hF]
 replace hF := Lib.hid hF
 have hR4 : R ≤ 40000 := by
  have : R * 1 ≤ R * C := Nat.mul_le_mul_left _ hC
  omega
 have hC4 : C ≤ 40000 ∨ R = 0 := by
  rcases Nat.eq_zero_or_pos R with h | h
  ·exact .inr h
  ·have : 1 * C ≤ R * C := Nat.mul_le_mul_right _ h
   exact .inl (by omega)
 have hI1 := @Tryz.underlying77
 have hI2 : (Tryz.prog.info? 24).map (fun i => (i.zero, i.size, i.bytes)) = some (some (.slice none 0 0), 1, 24) := by kernel_rfl
 have hpi := Lib.hid (fun W => patternIndices_c W)
 have hrr := Lib.hid (fun g p q c ys cl W (hm : MapA 254 eW8 W g 120 (idxF 120)) (hx : IntsAt W (some ⟨p, q, none⟩) ys) (h1 : ys.length ≤ 100000) (h2 : ys.length ≤ c) (h3 : ∀ x ∈ ys, -1 ≤ x ∧ x ≤ 1) => readRow_c g p q c ys cl W hm hx h1 h2 h3)
 have hb0 := Blk.new w #[.int .i64 R, .int .i64 C, .slice (some ⟨b, o, none⟩) xs.length cap] 37
 have hx0 : Ext w (w.alloc (.cells #[.int .i64 R, .int .i64 C, .slice (some ⟨b, o, none⟩) xs.length cap] 37)) := (Ext.refl w).alloc _
 replace hbd := Lib.hid hbd
 have hlh := Lib.hid hl
 clear hl
 go_enter Tryz.func119, Tryz.ntmps119
 go_wp2_with (first
  | (go_at_call 167; (with_reducible refine (hpi.out _).mono ?_); rintro e w1 ⟨mg, rfl, hm1, hmg, hx1⟩; have hb1 := hb0.ext hx1; have a0 := hb1.cell (i := 0) (v := .int .i64 R) rfl; have aL := hb1.lt)
  | (at_make; go_loud (refine make_blk hI1 hI2 R rfl rfl (by omega) (by omega) ?_)))
 have hT0 := LTo.made (B := w.heap.size) (F := F) (Blk.new w1 (madeCells #[.slice none 0 0] R) 24)
 have hb2 := hb1.alloc (.cells (madeCells #[.slice none 0 0] R) 24)
 have hm2 := hm1.ext ((Ext.refl w1).alloc (.cells (madeCells #[.slice none 0 0] R) 24))
 have hx2 := (hx0.trans hx1).alloc (.cells (madeCells #[.slice none 0 0] R) 24)
 have hgw : w.heap.size ≤ w1.heap.size := (hx0.trans hx1).size
 have hmg2 := hm1.lt
 clear hb1 hm1 hx1 hx0 hb0 a0 hpi hI1 hI2
 generalize w1.alloc (.cells (madeCells #[.slice none 0 0] R) 24) = w2 at *
 generalize w1.heap.size = gB at *
 go_loopw [13] (fun i wr => ∃ j : Nat, j ≤ R ∧ i = .int .i64 j ∧ LTo wr w.heap.size gB R j F ∧ But gB w2 wr) (fun i _ => R - (intOf i).toNat)
 case atStart => exact ⟨0, Nat.zero_le _, rfl, hT0, But.refl _ _⟩
 case round =>
  clear hT0
  obtain ⟨j, hj, rfl, hT, hB⟩ := hrel
  by_cases hlt : j < R
  ·have hext := hx2.but hB hgw
   have hX := HX.out.ext hext
   have hmr : MapA 254 eW8 wr mg 120 (idxF 120) := hm2.block (hB.block mg hm2.lt (by omega))
   have hbr := hb2.but hB (by omega)
   have a0 := hbr.cell (i := 0) (v := .int .i64 R) rfl
   have a1 := hbr.cell (i := 1) (v := .int .i64 C) rfl
   have a2 := hbr.cell (i := 2) (v := .slice (some ⟨b, o, none⟩) xs.length cap) rfl
   have al := hbr.lt
   have hgl := hT.lt
   have h2 : (j + 1) * C ≤ R * C := Nat.mul_le_mul_right _ hlt
   have hrl := rowL_len (c := C) hlh.out hlt
   have hra := rowL_at (c := C) hlh.out hlt hX
   have hrb : ∀ x ∈ rowL C xs j, -1 ≤ x ∧ x ≤ 1 := fun x hm => hbd.out x (List.mem_of_mem_drop (List.mem_of_mem_take hm))
   have hFj : F j = rowV (rowL C xs j) ((j : Int) % 3) (rowN C) := by
    rw [← hF.out]
    show rowV (rowL C xs j) (((j % 3 : Nat)) : Int) (rowN C) = _
    rw [show (((j % 3 : Nat)) : Int) = (j : Int) % 3 from by omega]
   obtain ⟨K1, hK1⟩ : ∃ K1 : Nat, j * C = K1 := ⟨_, rfl⟩
   rw [Nat.add_mul, Nat.one_mul, hK1] at h2
   rw [hK1] at hra
   have e1 : (j : Int) * (C : Int) = (K1 : Int) := by rw [← hK1]; simp
   have hCb : C ≤ 40000 := by omega
   have hsz : K1 + C ≤ xs.length := by rw [hlh.out]; exact h2
   have hKb : K1 + C ≤ 40000 := by omega
   have hrc : (rowL C xs j).length ≤ cap - K1 := by omega
   have hcall := Lib.hid (hrr.out mg b (o + K1) (cap - K1) (rowL C xs j) ((j : Int) % 3) wr hmr hra (by omega) hrc hrb)
   rw [hrl] at hcall
   rw [← hFj] at hcall
   replace hK1 := Lib.hid hK1
   replace hFj := Lib.hid hFj
   clear hra hrb hrl hrc hX hmr hbr
   have hsl : ∀ W, (Instr.slice 24 (.slice (some ⟨b, o, none⟩) xs.length cap) (some (.int .i64 (K1 : Int))) (some (.int .i64 ((K1 : Int) + (C : Int)))) none).run Tryz.prog W = .ok (.slice (some ⟨b, o + K1, none⟩) C (cap - K1)) W := fun W => by
    have := Lib.run_slice_window (P := Tryz.prog) W 24 2 Tryz.underlying24 (fun w => by kernel_rfl) b o xs.length cap K1 (K1 + C) (by omega) (by omega)
    rwa [show K1 + C - K1 = C by omega, show (((K1 + C : Nat)) : Int) = (K1 : Int) + (C : Int) from by omega] at this
   go_wp2_with (go_at_call 168; go_loud ((with_reducible refine (hcall.out).mono ?_); rintro e w5 ⟨⟨v5, rfl, hR5⟩, hx5⟩; obtain ⟨p5, c5, rfl, ho5, hc5⟩ := hR5.ownC; obtain ⟨q1, q2, q3⟩ := hT.at hlt hx5; have hn5 := hR5.lt; have hT6 := Lib.hid (hT.put (c := c5) hlt hx5 ho5.ints hc5 (fun b' o' e' => by have hn6 := (hn5 b' (by rw [e']; rfl)).1; exact ⟨Nat.le_trans hext.size hn6, fun eb => absurd hn6 (by omega)⟩)); have hB6 := hB.trans ((But.of hx5).trans (But.set w5 gB j (.slice p5 (F j).length c5)))))
   exact ⟨⟨j + 1, hlt, by go_num, hT6.out, hB6⟩, by simp [intOf]; omega⟩
  ·obtain rfl : j = R := by omega
   go_wp2
   go_ret
   exact ⟨⟨gB, rfl, hT.all hgw⟩, hx2.but hB hgw⟩
end Go.Proofs.YtojdediohjghnaaGreatDoor
