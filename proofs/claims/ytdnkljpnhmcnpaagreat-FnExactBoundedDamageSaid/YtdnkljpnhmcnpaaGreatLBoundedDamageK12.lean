/- The modules of a print that damages touch: plain values. -/
import Derived.Test.YtdnkljpnhmcnpaaGreatLBoundedDamageK05
import Derived.Test.YtdnkljpnhmcnpaaGreatLBoundedDamageK11
import Derived.Test.YtdnkljpnhmcnpaaGreatLBoundedDamageK06
import Derived.Test.YtdnkljpnhmcnpaaGreatLBoundedDamageK04
import Derived.Test.YtdnkljpnhmcnpaaGreatLBoundedDamageK01
import Derived.Lib.SlBytesRow
import Derived.Test.YtdnkljpnhmcnpaaGreatLBoundedDamageK09
import Derived.Test.YtdnkljpnhmcnpaaGreatLBoundedDamageK03
set_option linter.unusedVariables false
set_option linter.unusedSimpArgs false
namespace Go.Proofs.YtdnkljpnhmcnpaaGreat
open Go.RowKit

def tch (k r c t v y x : Int) : Prop := (k = 1 ∧ (y - r) * (y - r) + (x - c) * (x - c) ≤ t * t) ∨ (k ≠ 1 ∧ (r ≤ y ∧ y ≤ r + t - 1) ∧ (c ≤ x ∧ x ≤ c + v - 1))
def tchD (d : Dam) (y x : Int) : Prop := tch d.k d.r d.c d.t d.w y x
def lclOK (d : Dam) : Prop := dOK d ∧ (d.k = 1 ∨ d.k = 2)
def tmHit (p t q : Int) (ds : List Dam) (r c : Nat) : Prop := ∃ d ∈ ds, tchD d (((r : Int) + q) * t + t / 2) (((c : Int) + q) * p + p / 2)
open Classical in
noncomputable def tmTo (p t q : Int) (ds : List Dam) (C : Nat) : Nat → List (Int × Int)
 | 0 => []
 | n + 1 => tmTo p t q ds C n ++ if tmHit p t q ds (n / C) (n % C) then [(((n / C : Nat) : Int), ((n % C : Nat) : Int))] else []
open Classical in
theorem tmTo_s (p t q : Int) (ds : List Dam) (C n : Nat) : tmTo p t q ds C (n + 1) = tmTo p t q ds C n ++ if tmHit p t q ds (n / C) (n % C) then [(((n / C : Nat) : Int), ((n % C : Nat) : Int))] else [] := rfl
theorem rc_div {r c C : Nat} (h : c < C) : (r * C + c) / C = r ∧ (r * C + c) % C = c := by
 have h0 : 0 < C := by omega
 constructor
 ·rw [Nat.mul_comm, Nat.mul_add_div h0, Nat.div_eq_of_lt h]; rfl
 ·rw [Nat.mul_comm, Nat.mul_add_mod, Nat.mod_eq_of_lt h]
theorem tm_yes {p t q : Int} {ds : List Dam} {C r c : Nat} (hc : c < C) (h : tmHit p t q ds r c) : tmTo p t q ds C (r * C + (c + 1)) = tmTo p t q ds C (r * C + c) ++ [((r : Int), (c : Int))] := by
 obtain ⟨h1, h2⟩ := rc_div (r := r) hc
 rw [← Nat.add_assoc, tmTo_s, h1, h2, if_pos h]
theorem tm_no {p t q : Int} {ds : List Dam} {C r c : Nat} (hc : c < C) (h : ¬ tmHit p t q ds r c) : tmTo p t q ds C (r * C + (c + 1)) = tmTo p t q ds C (r * C + c) := by
 obtain ⟨h1, h2⟩ := rc_div (r := r) hc
 rw [← Nat.add_assoc, tmTo_s, h1, h2, if_neg h, List.append_nil]
theorem tm_len (p t q : Int) (ds : List Dam) (C : Nat) : ∀ n, (tmTo p t q ds C n).length ≤ n
 | 0 => Nat.le_refl _
 | n + 1 => by
  have ih := tm_len p t q ds C n
  unfold tmTo
  rw [List.length_append]
  split
  ·simp; omega
  ·simp; omega
theorem tm_in {p t q : Int} {ds : List Dam} {C : Nat} : ∀ n, ∀ z ∈ tmTo p t q ds C n, ∃ i, i < n ∧ z = (((i / C : Nat) : Int), ((i % C : Nat) : Int))
 | 0 => fun z hz => by cases hz
 | n + 1 => fun z hz => by
  rcases List.mem_append.1 hz with h | h
  ·obtain ⟨i, hi, e⟩ := tm_in n z h
   exact ⟨i, by omega, e⟩
  ·split at h
   ·rw [List.mem_singleton] at h
    exact ⟨n, by omega, h⟩
   ·cases h
theorem tm_bd {p t q : Int} {ds : List Dam} {R C : Nat} {z : Int × Int} (hz : z ∈ tmTo p t q ds C (R * C)) : (0 ≤ z.1 ∧ z.1 < R) ∧ (0 ≤ z.2 ∧ z.2 < C) := by
 obtain ⟨i, hi, rfl⟩ := tm_in _ z hz
 have hC : 0 < C := by
  rcases Nat.eq_zero_or_pos C with rfl | h
  ·rw [Nat.mul_zero] at hi; omega
  ·exact h
 have h1 : i / C < R := (Nat.div_lt_iff_lt_mul hC).2 hi
 have h2 : i % C < C := Nat.mod_lt _ hC
 generalize i / C = x at *
 generalize i % C = y at *
 simp only
 omega
open Classical in
noncomputable def selTo (P : Nat → Prop) : Nat → List Int
 | 0 => []
 | n + 1 => selTo P n ++ if P n then [(n : Int)] else []
theorem sel_yes {P : Nat → Prop} {n : Nat} (h : P n) : selTo P (n + 1) = selTo P n ++ [(n : Int)] := by
 show selTo P n ++ _ = _
 rw [if_pos h]
theorem sel_no {P : Nat → Prop} {n : Nat} (h : ¬ P n) : selTo P (n + 1) = selTo P n := by
 show selTo P n ++ _ = _
 rw [if_neg h, List.append_nil]
theorem sel_len (P : Nat → Prop) : ∀ n, (selTo P n).length ≤ n
 | 0 => Nat.le_refl _
 | n + 1 => by
  have ih := sel_len P n
  by_cases h : P n
  ·rw [sel_yes h]; simp; omega
  ·rw [sel_no h]; omega
theorem sel_bd {P : Nat → Prop} : ∀ n, ∀ z ∈ selTo P n, 0 ≤ z ∧ z < n
 | 0 => fun z hz => by cases hz
 | n + 1 => fun z hz => by
  by_cases h : P n
  ·rw [sel_yes h] at hz
   rcases List.mem_append.1 hz with h1 | h1
   ·have := sel_bd n z h1; omega
   ·rw [List.mem_singleton] at h1; omega
  ·rw [sel_no h] at hz
   have := sel_bd n z hz; omega
theorem ris_monoT {k : Nat} {l : List Int} (h : risOK 0 ((k : Int) - 1) l) : risOK 0 (((k + 1 : Nat) : Int) - 1) l := fun i hi => by
 have := h i hi
 exact ⟨⟨this.1.1, by omega⟩, this.2⟩
theorem ris_snocT {k : Nat} {l : List Int} (h : risOK 0 ((k : Int) - 1) l) : risOK 0 (((k + 1 : Nat) : Int) - 1) (l ++ [(k : Int)]) := fun i hi => by
 rw [List.length_append, List.length_singleton] at hi
 have e : ∀ j, j < l.length → (l ++ [(k : Int)]).getD j 0 = l.getD j 0 := fun j hj => by
  rw [List.getD_eq_getElem?_getD, List.getD_eq_getElem?_getD, List.getElem?_append_left hj]
 rcases Nat.lt_or_ge i l.length with h1 | h1
 ·have := h i h1
  rw [e i h1]
  refine ⟨⟨this.1.1, by omega⟩, fun h0 => ?_⟩
  rw [e (i - 1) (by omega)]
  exact this.2 h0
 ·obtain rfl : i = l.length := by omega
  have e2 : (l ++ [(k : Int)]).getD l.length 0 = k := by
   rw [List.getD_eq_getElem?_getD, List.getElem?_append_right (Nat.le_refl _)]
   simp
  rw [e2]
  refine ⟨⟨by omega, by omega⟩, fun h0 => ?_⟩
  rw [e _ (by omega)]
  have := (h (l.length - 1) (by omega)).1.2
  omega
theorem ris_sel (P : Nat → Prop) : ∀ k : Nat, risOK 0 ((k : Int) - 1) (selTo P k)
 | 0 => fun i hi => absurd hi (Nat.not_lt_zero i)
 | k + 1 => by
  by_cases h : P k
  ·rw [sel_yes h]; exact ris_snocT (ris_sel P k)
  ·rw [sel_no h]; exact ris_monoT (ris_sel P k)
open Classical in
noncomputable def cntTo (P : Nat → Prop) : Nat → Nat
 | 0 => 0
 | n + 1 => cntTo P n + if P n then 1 else 0
theorem cnt_yes {P : Nat → Prop} {n : Nat} (h : P n) : cntTo P (n + 1) = cntTo P n + 1 := by
 show cntTo P n + _ = _
 rw [if_pos h]
theorem cnt_no {P : Nat → Prop} {n : Nat} (h : ¬ P n) : cntTo P (n + 1) = cntTo P n := by
 show cntTo P n + _ = _
 rw [if_neg h, Nat.add_zero]
theorem cnt_le (P : Nat → Prop) : ∀ n, cntTo P n ≤ n
 | 0 => Nat.le_refl _
 | n + 1 => by
  have ih := cnt_le P n
  by_cases h : P n
  ·rw [cnt_yes h]; omega
  ·rw [cnt_no h]; omega
def stHit (L : List (Int × Int)) (r k : Nat) : Prop := ∃ z ∈ L, z.1 = r ∧ 7 ≤ z.2 ∧ (z.2 - 7) / 11 = k
noncomputable def stE (L : List (Int × Int)) (co : Nat) (n : Nat) : List Int := selTo (fun i => stHit L (i / co) (i % co + 1)) n
noncomputable def stB (L : List (Int × Int)) (co : Nat) (r : Nat) : Nat := cntTo (fun i => i % 3 = 2 ∧ stHit L i (co + 1)) r
noncomputable def fmN (L ps : List (Int × Int)) (n : Nat) : Nat := cntTo (fun i => ps.getD i (0, 0) ∈ L) n
def teHit (L D : List (Int × Int)) (V k : Nat) : Prop := ∃ i, i < D.length ∧ i / V = k ∧ D.getD i (0, 0) ∈ L
noncomputable def teE (L D : List (Int × Int)) (V n : Nat) : List Int := selTo (teHit L D V) n
end Go.Proofs.YtdnkljpnhmcnpaaGreat
/- Grids: validity, known cells, rows. -/
namespace Go.Proofs.YtdnkljpnhmcnpaaGreat
open Go.RowKit

abbrev vGrid (r c : Int) (p : Option Addr) (n k : Nat) : Value := .agg #[.int .i64 r, .int .i64 c, .slice p n k]
def gridOK (r c : Int) (xs : List Int) : Prop := (1 ≤ r ∧ r ≤ 40000) ∧ (1 ≤ c ∧ c ≤ 40000) ∧ r * c ≤ 40000 ∧ (xs.length : Int) = r * c ∧ ∀ x ∈ xs, -1 ≤ x ∧ x ≤ 1
theorem take_all {P : Int → Prop} {xs : List Int} {k : Nat} (hlt : k < xs.length) (h : ∀ x ∈ xs.take k, P x) (hx : P (xs.getD k 0)) : ∀ x ∈ xs.take (k + 1), P x := fun x hm => by
 rw [List.take_add_one, List.mem_append] at hm
 rcases hm with hm | hm
 ·exact h x hm
 ·rw [List.getElem?_eq_getElem hlt] at hm
  simp at hm
  subst hm
  rw [List.getD_eq_getElem?_getD, List.getElem?_eq_getElem hlt] at hx
  exact hx
set_option maxRecDepth 100000 in
theorem l05Has_c (p : Option Addr) (k : Nat) (n : Int) (xs : List Int) (w : World) (hx : IntsAt w p xs) (hl : xs.length ≤ 1048576) :
  Calls Tryz.prog 74 #[.slice p xs.length k, .int .i64 n] w fun e w' => isB e (n ∈ xs) ∧ Ext w w' := by
 have HX := Lib.hid hx; clear hx
 go_enter Tryz.func74, Tryz.ntmps74
 go_wp2
 go_loopw [5] (fun i wr => ∃ j : Nat, j ≤ xs.length ∧ i = .int .i64 j ∧ Hid (¬ n ∈ xs.take j) ∧ Ext w wr) (fun i _ => xs.length - (intOf i).toNat)
 case atStart => exact ⟨0, Nat.zero_le _, rfl, Lib.hid (by simp), eX⟩
 case round =>
  obtain ⟨j, hj, rfl, hT, hext⟩ := hrel
  by_cases hlt : j < xs.length
  ·obtain ⟨b, o, rfl, hbl, z1⟩ := (HX.out.ext hext) j hlt
   have hst : xs.getD j 0 ≠ n → ¬ n ∈ xs.take (j + 1) := fun h => by
    have := take_all (P := fun x => x ≠ n) hlt (fun x hm e => hT.out (by rw [← e]; exact hm)) h
    exact fun hm => this n hm rfl
   have hat : xs.getD j 0 = n → n ∈ xs := fun h => by
    rw [← h, List.getD_eq_getElem?_getD, List.getElem?_eq_getElem hlt]
    exact List.getElem_mem _
   generalize xs.getD j 0 = x at *
   have hst := Lib.hid hst
   have hat := Lib.hid hat
   by_cases h0 : x = n
   ·have hd : (x == n) = true := by simpa using h0
    replace h0 := Lib.hid h0
    go_wp2
    go_ret
    exact ⟨isB_t (hat.out h0.out), hext⟩
   ·have hd : (x == n) = false := by simpa using h0
    replace h0 := Lib.hid h0
    go_wp2
    go_roundw
    case rel => exact ⟨j + 1, hlt, by go_num, Lib.hid (hst.out h0.out), hext⟩
    case measure => simp [intOf]; omega
  ·obtain rfl : j = xs.length := by omega
   go_wp2
   go_ret
   exact ⟨isB_f (fun h => hT.out (by rwa [List.take_length])), hext⟩
open Go.RowKit

def rowL (c : Nat) (xs : List Int) (k : Nat) : List Int := (xs.drop (k * c)).take c
open Go.RowKit

open Go.RowKit

theorem RowI.grew {B : Nat} {v1 v1' v2 : Value} {w w' : World} {ys : List Int} (h : RowI B w v2 ys) (hg : Grew v1 w w' v1') (ht : ∀ k, v2.ownBlock = some k → v1.ownBlock ≠ some k) : RowI B w' v2 ys := by
 refine ⟨h.1, ?_⟩
 rcases h.2 with h2 | ⟨g, cap, cur, hv, hb, hh, r⟩
 ·exact .inl h2
 ·exact .inr ⟨g, cap, cur, hv, hb, by rw [hg.by_.block g (Array.getElem?_eq_some_iff.1 hh).1 (fun e => ht g (by rw [hv]; rfl) e.symm)]; exact hh, r⟩
theorem RowI.apart {B : Nat} {v1 v1' v2 : Value} {w w' : World} {ys : List Int} (h : RowI B w v2 ys) (hg : Grew v1 w w' v1') (ht : ∀ k, v2.ownBlock = some k → v1.ownBlock ≠ some k) : ∀ k, v2.ownBlock = some k → v1'.ownBlock ≠ some k := fun k hk e => by
 rcases hg.own k e with h2 | h2
 ·exact ht k hk h2
 ·have := (h.lt k hk).2; omega
theorem RowI.setOther {B : Nat} {v : Value} {w : World} {ys : List Int} {g i : Nat} {u : Value} (h : RowI B w v ys) (hg : v.ownBlock ≠ some g) : RowI B (w.setCell ⟨g, i, none⟩ u) v ys := by
 refine ⟨h.1, ?_⟩
 rcases h.2 with h2 | ⟨g', cap, cur, hv, hb, hh, r⟩
 ·exact .inl h2
 ·exact .inr ⟨g', cap, cur, hv, hb, by rw [Below.heap_setCell w ⟨g, i, none⟩ u g' (fun e => hg (by rw [hv, e]; rfl))]; exact hh, r⟩
open Go.RowKit

def LC2 (B : Nat) (L : List Int) (code : Int) (e : Ending) (w' : World) : Prop := ∃ p c, e = .returned (.tuple #[.slice p L.length c, .int .i64 code]) ∧ OwnInts B w' p L
theorem LC2.of {B : Nat} {L : List Int} {code : Int} {w : World} {v : Value} (h : RowI B w v L) : LC2 B L code (.returned (.tuple #[v, .int .i64 code])) w := by
 obtain ⟨p, c, rfl, ho⟩ := h.own
 exact ⟨p, c, rfl, ho⟩
end Go.Proofs.YtdnkljpnhmcnpaaGreat
/- How a segment is written: the bits, and the reference's walk. -/
namespace Go.Proofs.YtdnkljpnhmcnpaaGreat
open Go.RowKit

end Go.Proofs.YtdnkljpnhmcnpaaGreat
/- How the program writes a segment. -/
namespace Go.Proofs.YtdnkljpnhmcnpaaGreat
open Go.RowKit

theorem Blk.grew {w w' : World} {v v' : Value} {g : Nat} {cs : Array Value} {t : TypeId} (h : Blk w g cs t) (k : Grew v w w' v') (hne : v.ownBlock ≠ some g) : Blk w' g cs t :=
 (k.by_.block g h.lt (fun e => hne e.symm)).trans h
theorem gcell {v o : Value} {W wr : World} {n0 : Nat} (h : Grew v W wr o) (hv : ∀ k, v.ownBlock = some k → k < n0) :
  (∀ b o, n0 ≤ b → b < W.heap.size → wr.cell? ⟨b, o, none⟩ = W.cell? ⟨b, o, none⟩) ∧ (∀ b o, n0 ≤ b → b < W.heap.size → wr.frozen? ⟨b, o, none⟩ = W.frozen? ⟨b, o, none⟩) ∧ (∀ k, k < W.heap.size → k < wr.heap.size) ∧ W.heap.size ≤ wr.heap.size := by
 have hb : ∀ b, n0 ≤ b → b < W.heap.size → wr.heap[b]? = W.heap[b]? := fun b h1 h2 => h.by_.block b h2 fun e => by have := hv b e.symm; omega
 exact ⟨fun b o h1 h2 => World.cell?_of_block (a := ⟨b, o, none⟩) (hb b h1 h2), fun b o h1 h2 => World.frozen?_of_block (a := ⟨b, o, none⟩) (hb b h1 h2), fun k hk => Nat.lt_of_lt_of_le hk h.by_.size, h.by_.size⟩
theorem IntsAt.grew {v o : Value} {W wr : World} {n0 : Nat} {p : Option Addr} {xs : List Int} (hx : IntsAt W p xs) (h : Grew v W wr o) (hv : ∀ k, v.ownBlock = some k → k < n0) (hp : ∀ b o, p = some ⟨b, o, none⟩ → n0 ≤ b) : IntsAt wr p xs := fun i hi => by
 obtain ⟨b, o', e, hb, hc⟩ := hx i hi
 exact ⟨b, o', e, Nat.lt_of_lt_of_le hb h.by_.size, by rw [(gcell h hv).1 b _ (hp _ _ e) hb]; exact hc⟩

def iBase (m : Int) : Int := if m = 1 then 10 else if m = 2 then 45 else if m = 3 then 32 else 256
open Go.RowKit

end Go.Proofs.YtdnkljpnhmcnpaaGreat
/- Lists of segments: how the laws hand them on; their length. -/
namespace Go.Proofs.YtdnkljpnhmcnpaaGreat
open Go.RowKit

theorem SAt.two {α : Type} {f : α → List Value} {w : World} {p : Option Addr} {xs : List α} (h : SAt f 2 w p xs) {i : Nat} (hi : i < xs.length) {u v : Value} (hf : f (xs[i]'hi) = [u, v]) :
  ∃ b o, p = some ⟨b, o, none⟩ ∧ b < w.heap.size ∧ w.cell? ⟨b, o + i * 2, none⟩ = some u ∧ w.cell? ⟨b, o + i * 2 + 1, none⟩ = some v := by
 obtain ⟨b, o, h1, h2, h3⟩ := h i hi
 rw [hf] at h3
 exact ⟨b, o, h1, h2, h3 0 u rfl, h3 1 v rfl⟩

open Go.RowKit

end Go.Proofs.YtdnkljpnhmcnpaaGreat
/- The joined text of segments; segmentations. -/
namespace Go.Proofs.YtdnkljpnhmcnpaaGreat
open Go.RowKit

def joined (xs : List Sg) : ByteArray := xs.foldl (fun a x => a ++ x.2) ByteArray.empty
end Go.Proofs.YtdnkljpnhmcnpaaGreat
/- The best segments are segments; how many bits a segment has. -/
namespace Go.Proofs.YtdnkljpnhmcnpaaGreat
open Go.RowKit

end Go.Proofs.YtdnkljpnhmcnpaaGreat
/- How the program reads a segment. -/
namespace Go.Proofs.YtdnkljpnhmcnpaaGreat
open Go.RowKit

def chr (m v : Int) : UInt8 := if m = 4 then UInt8.ofNat v.toNat else (modeSet m).data.toList.getD v.toNat 0
def gq (g b : Int) : Nat → Int
 | 0 => g
 | j + 1 => gq g b j / b
def dig (m g : Int) (n : Nat) : List UInt8 := (List.range n).map fun i => chr m (gq g (iBase m) (n - 1 - i) % iBase m)
def PTab (m g : Int) (n : Nat) (cs : Array Value) (j : Nat) : Prop := cs.size = n ∧ ∀ q, q < n → n ≤ q + j → cs[q]? = some (.int .u8 (chr m (gq g (iBase m) (n - 1 - q) % iBase m)).toNat)
theorem PTab.step {m g : Int} {n : Nat} {cs : Array Value} {j : Nat} (h : PTab m g n cs j) (hj : j < n) : PTab m g n (cs.setIfInBounds (n - 1 - j) (.int .u8 (chr m (gq g (iBase m) j % iBase m)).toNat)) (j + 1) := by
 refine ⟨by simpa using h.1, fun q h1 h2 => ?_⟩
 by_cases e : q = n - 1 - j
 ·subst e
  rw [Array.getElem?_setIfInBounds_self_of_lt (by rw [h.1]; omega), show n - 1 - (n - 1 - j) = j by omega]
 ·rw [Array.getElem?_setIfInBounds_ne (by omega)]
  exact h.2 q h1 (by omega)
theorem PTab.all {m g : Int} {n : Nat} {cs : Array Value} (h : PTab m g n cs n) : cs.toList = Lib.strCells ⟨(dig m g n).toArray⟩ := by
 apply List.ext_getElem?
 intro q
 by_cases hq : q < n
 ·have := h.2 q hq (by omega)
  rw [Array.getElem?_toList, this]
  simp [Lib.strCells, dig, hq]
 ·rw [List.getElem?_eq_none (by rw [Array.length_toList, h.1]; omega), List.getElem?_eq_none (by simp [Lib.strCells, dig]; omega)]
open Go.RowKit

section
variable {ops : Array Oper} {Q : Exit → Act → World → Prop} {rest : List Oper} {a : Act} {dst : Option Tmp} {s x : Operand} {ty : TypeId} {pos : String} {after : Array Edge} {B : Nat} {w0 : World} {v : Value} {xs : ByteArray}
end

open Go.RowKit

end Go.Proofs.YtdnkljpnhmcnpaaGreat
