/- The order of a stream over its blocks, the reference's side. -/
import Derived.Test.YtdnkljpnhmcnpaaGreatLBoundedDamageK30
import Derived.Test.YtdnkljpnhmcnpaaGreatLBoundedDamageK33
import Derived.Test.YtdnkljpnhmcnpaaGreatLBoundedDamageK22
import Derived.Test.YtdnkljpnhmcnpaaGreatLBoundedDamageK19
import Derived.Test.YtdnkljpnhmcnpaaGreatLBoundedDamageK23
import Derived.Test.YtdnkljpnhmcnpaaGreatLBoundedDamageK25
import Derived.Test.YtdnkljpnhmcnpaaGreatLBoundedDamageK12
import Derived.Test.YtdnkljpnhmcnpaaGreatLBoundedDamageK24
import Derived.Test.YtdnkljpnhmcnpaaGreatLBoundedDamageK18
import Derived.Test.YtdnkljpnhmcnpaaGreatLBoundedDamageK00
import Derived.LaidEql
import Derived.Stop.Asserts
import Derived.RowKitTokens
import Derived.Test.YtdnkljpnhmcnpaaGreatLBoundedDamageK04
set_option linter.unusedVariables false
set_option linter.unusedSimpArgs false
namespace Go.Proofs.YtdnkljpnhmcnpaaGreat
open Go.RowKit

def rowsO (L : List (Nat × Nat)) : List (List Int) := L.map fun x => [(x.1 : Int), (x.2 : Int)]
theorem rowsO_len (L : List (Nat × Nat)) : (rowsO L).length = L.length := by simp [rowsO]
theorem rowsO_app (L : List (Nat × Nat)) (a b : Nat) : rowsO (L ++ [(a, b)]) = rowsO L ++ [[(a : Int), (b : Int)]] := by simp [rowsO]
theorem rowsO_at {L : List (Nat × Nat)} {i : Nat} (h : i < L.length) : (rowsO L).getD i [] = [((L.getD i (0, 0)).1 : Int), ((L.getD i (0, 0)).2 : Int)] := by
 unfold rowsO
 rw [List.getD_eq_getElem?_getD, List.getElem?_map, List.getD_eq_getElem?_getD (l := L), List.getElem?_eq_getElem h]
 rfl
theorem o1_le (D N : Nat) : ∀ q, (o1To D N q).length ≤ q
 | 0 => Nat.le_refl _
 | q + 1 => by
  have ih := o1_le D N q
  by_cases h : q / N < shN D N (q % N)
  ·rw [o1_up h, List.length_append, List.length_singleton]; omega
  ·rw [o1_no h]; omega
section
variable {ops : Array Oper} {Q : Exit → Act → World → Prop} {rest : List Oper} {a : Act} {dst : Option Tmp} {s x : Operand} {ty : TypeId} {pos : String} {after : Array Edge} {B : Nat} {w0 : World} {v : Value} {Ls : List (List Int)}
theorem append2L {n1 n2 : Int} (h0 : LLs B w0 v Ls) (hlen : Ls.length < 1000000) (hB : B ≤ w0.heap.size)
  (h : ∀ v' w', LLs B w' v' (Ls ++ [[n1, n2]]) → Below B w0 w' → wpList Tryz.prog ops Q rest (a.put dst v') w') (hs : a.eval s = v) (hx : a.eval x = .slice (some ⟨w0.heap.size + 1, 0, none⟩) 1 1) :
  wpList Tryz.prog ops Q (⟨dst, .call { callee := .builtin .append, args := #[s, x], argTypes := #[175, 175] }, ty, pos, after, none⟩ :: rest) a ((w0.alloc (.cells #[.int .i64 n1, .int .i64 n2] 2)).alloc (.cells #[.slice (some ⟨w0.heap.size, 0, none⟩) 2 2] 22)) := by
 have hxa : Ext w0 (w0.alloc (.cells #[.int .i64 n1, .int .i64 n2] 2)) := (Ext.refl _).alloc _
 have hv := h0.lt
 refine append1L (w0 := w0.alloc (.cells #[.int .i64 n1, .int .i64 n2] 2)) (l := [n1, n2]) (c := 2) (p := some ⟨w0.heap.size, 0, none⟩) (h0.ext hxa) (IntsAt_alloc w0 [n1, n2] 2) (fun b o e => ?_) hlen (by rw [World.size_alloc]; omega) (fun v' w' h1 h2 => h v' w' h1 ?_) hs (by rw [World.size_alloc]; exact hx)
 ·injection e with e
  injection e with e1 e2 e3
  subst e1
  exact ⟨hB, by rw [World.size_alloc]; omega, fun h => absurd (hv _ h).2 (Nat.lt_irrefl _)⟩
 ·exact (hxa.below.mono hB).trans (h2.below (fun k hk => (hv k hk).1) (by rw [World.size_alloc]; omega))
end
set_option maxHeartbeats 1600000 in
set_option maxRecDepth 100000 in
theorem l07Order_c (p k q : Int) (D C N : Nat) (w : World) (hN : 1 ≤ N ∧ N ≤ 16) (hD : D ≤ 1500) (hC : C ≤ 64) :
  Calls Tryz.prog 168 #[vLay p k q D C N] w fun e w' => (∃ v, e = .returned v ∧ LLs w.heap.size w' v (rowsO (ordL D C N))) ∧ Ext w w' := by
 have hsz := Lib.hid (fun b (hb : b ≤ 100) W => by
  have := sSize7_c p k q D C N b W (by omega) (by omega) (by omega)
  rwa [shV_nat hN.1] at this)
 have hqd := Lib.hid (fun e b (h : b < N) => qdiv (e := e) (b := b) (N := N) h)
 have hDN : D / N ≤ 1500 := Nat.le_trans (Nat.div_le_self _ _) hD
 have hdv : (D : Int).tdiv (N : Int) = ((D / N : Nat) : Int) := by
  rw [Int.tdiv_eq_ediv_of_nonneg (by omega)]; exact (Int.natCast_ediv _ _).symm
 have hdv2 : (D : Int) / (N : Int) = ((D / N : Nat) : Int) := (Int.natCast_ediv _ _).symm
 have hxA : Ext w (w.alloc (.cells #[.int .i64 p, .int .i64 k, .int .i64 q, .int .i64 D, .int .i64 C, .int .i64 N] 95)) := (Ext.refl w).alloc _
 have PF := Blk.new w #[.int .i64 p, .int .i64 k, .int .i64 q, .int .i64 D, .int .i64 C, .int .i64 N] 95
 have hfin : ordL D C N = o1To D N ((D / N + 1) * N) ++ o2To D N (C * N) := rfl
 have hshb := Lib.hid (fun b => (shN_le D N b).2)
 have ho1 := Lib.hid (fun q h => o1_up (D := D) (N := N) (q := q) h); have ho2 := Lib.hid (fun q h => o1_no (D := D) (N := N) (q := q) h); have ho3 := Lib.hid (fun q => o2_up D N q)
 have hl1 := Lib.hid (o1_le D N); have hl2 := Lib.hid (o2_len D N)
 have h10 : o1To D N 0 = [] := rfl
 have h20 : o2To D N 0 = [] := rfl
 obtain ⟨E, hE⟩ : ∃ E, D / N = E := ⟨_, rfl⟩
 rw [hE] at hdv hdv2 hDN hfin hshb
 obtain ⟨O, hO⟩ : ∃ O, ordL D C N = O := ⟨_, rfl⟩
 rw [hO] at hfin ⊢
 replace hfin := Lib.hid hfin
 replace hO := Lib.hid hO; replace hE := Lib.hid hE
 generalize o1To D N = P1 at *
 generalize o2To D N = P2 at *
 generalize shN D N = SH at *
 go_enter Tryz.func168, Tryz.ntmps168
 go_upto_region 1 with (fail)
 obtain ⟨gF, hgF⟩ : ∃ g, w.heap.size = g := ⟨_, rfl⟩
 have hBw := hxA.below.size
 rw [hgF] at PF ⊢
 clear hgF
 generalize w.alloc (.cells #[.int .i64 p, .int .i64 k, .int .i64 q, .int .i64 D, .int .i64 C, .int .i64 N] 95) = w0 at *
 have hr0 : LLs w0.heap.size (w0.alloc (.cells #[] 22)) (.slice (some ⟨w0.heap.size, 0, none⟩) 0 0) (rowsO (P1 (0 * N))) := by
  rw [Nat.zero_mul, h10]; exact LLs.made (Nat.le_refl _)
 have hx0 : Ext w0 (w0.alloc (.cells #[] 22)) := (Ext.refl _).alloc _
 go_upto_region 3 with (fail)
 generalize w0.alloc (.cells #[] 22) = w1 at *
 generalize Value.slice (some ⟨w0.heap.size, 0, none⟩) 0 0 = v1 at *
 have hN0 : ¬ (N : Int) = 0 := by omega
 have hN0b : ((N : Int) == 0) = false := by simpa using hN0
 have e1 := IntWalk.i64_in (E : Int) (by omega)
 go_loopw [3, 4] (fun v i wr => ∃ e : Nat, e ≤ E + 1 ∧ i = .int .i64 e ∧ LLs w0.heap.size wr v (rowsO (P1 (e * N))) ∧ Ext w0 wr) (fun _ i _ => E + 10 - (intOf i).toNat)
 case atStart => exact ⟨0, Nat.zero_le _, rfl, hr0, hx0⟩
 case round =>
  clear hr0 hx0
  obtain ⟨e, he, rfl, hr, hx⟩ := hrel
  have HB := PF.ext hx
  have c0 := HB.cell (i := 3) (v := .int .i64 D) rfl; have c1 := HB.cell (i := 5) (v := .int .i64 N) rfl; have cL := HB.lt
  by_cases hlt : e ≤ E
  ·have hlti : (e : Int) ≤ (E : Int) := by omega
   have hQ : e * N ≤ 1500 * 16 := Nat.mul_le_mul (by omega) hN.2
   go_upto_region 6 with (fail)
   clear c0 c1 cL HB
   obtain ⟨wo, rfl⟩ : ∃ wo : World, wo = wr := ⟨_, rfl⟩
   have hr2 : LLs w0.heap.size wo u3 (rowsO (P1 (e * N + 0))) := hr
   go_loopw [3, 5] (fun v i wr => ∃ b : Nat, b ≤ N ∧ i = .int .i64 b ∧ LLs w0.heap.size wr v (rowsO (P1 (e * N + b))) ∧ Ext w0 wr) (fun _ i _ => N + 10 - (intOf i).toNat)
   case atStart => exact ⟨0, Nat.zero_le _, rfl, hr2, hx⟩
   case round =>
    clear hr2 hr hx
    obtain ⟨b, hb, rfl, hr, hx⟩ := hrel
    have HB := PF.ext hx
    obtain ⟨c0, c1, c2, c3, c4, c5⟩ := HB.c6; have cL := HB.lt
    by_cases hlb : b < N
    ·obtain ⟨hq1, hq2⟩ := hqd.out e b hlb
     have hll := hl1.out (e * N + b)
     have hup := ho1.out (e * N + b); have hno := ho2.out (e * N + b)
     rw [hq1, hq2] at hup hno
     have hcall := Lib.hid (hsz.out b (by omega))
     have hSb := hshb.out b
     generalize SH b = S at *
     obtain ⟨q0, hq0⟩ : ∃ q0, e * N + b = q0 := ⟨_, rfl⟩
     rw [hq0] at hr hll hup hno
     have hq3 : e * N + (b + 1) = q0 + 1 := by omega
     replace hq0 := Lib.hid hq0; replace hq3 := Lib.hid hq3
     have hlL := rowsO_len (P1 q0)
     have hlb2 : (rowsO (P1 q0)).length < 1000000 := by have := hq0.out; omega
     clear hlL hll
     by_cases hes : e < S
     ·have hup2 := hup hes
      have happ := Lib.hid (show rowsO (P1 (q0 + 1)) = rowsO (P1 q0) ++ [[(b : Int), (e : Int)]] from by rw [hup2, rowsO_app])
      clear hup hno hup2
      generalize rowsO (P1 q0) = Lq at *
      go_wp2_with (first
       | (go_at_call 206; go_loud ((with_reducible refine (hcall.out _).mono ?_); rintro e5 w5 ⟨rfl, hx5⟩; have hr5 := hr.ext hx5; have hx05 := hx.trans hx5; have hB5 := hx05.below.size))
       | (at_builtin; go_loud (refine append2L hr5 hlb2 hB5 ?_ rfl rfl); intro v9 w9 hr9 hb9))
      exact ⟨⟨b + 1, hlb, by go_num, by rw [hq3.out, happ.out]; exact hr9, Below.trans hx05 hb9⟩, by simp [intOf]; omega⟩
     ·have hno2 := Lib.hid (hno hes)
      clear hup hno
      go_wp2_with (go_at_call 206; go_loud ((with_reducible refine (hcall.out _).mono ?_); rintro e5 w5 ⟨rfl, hx5⟩; have hr5 := hr.ext hx5; have hx05 := hx.trans hx5))
      exact ⟨⟨b + 1, hlb, by go_num, by rw [hq3.out, hno2.out]; exact hr5, hx05⟩, by simp [intOf]; omega⟩
    ·obtain rfl : b = N := by omega
     have hq3 : e * b + b = (e + 1) * b := by rw [Nat.add_mul, Nat.one_mul]
     rw [hq3] at hr
     go_wp2
     exact ⟨⟨e + 1, by omega, by go_num, hr, hx⟩, by simp [intOf]; omega⟩
  ·obtain rfl : e = E + 1 := by omega
   have hlti : ¬ ((E : Int) + 1 ≤ (E : Int)) := by omega
   go_upto_region 11 with (fail)
   clear c0 c1 cL HB e1 hN0 hN0b hdv hdv2 hlti
   have hr2 : LLs w0.heap.size wr u3 (rowsO (P1 ((E + 1) * N) ++ P2 (0 * N))) := by rw [Nat.zero_mul, h20, List.append_nil]; exact hr
   have hl1' := hl1.out ((E + 1) * N)
   have hQ1 : (E + 1) * N ≤ 1501 * 16 := Nat.mul_le_mul (by omega) hN.2
   generalize P1 ((E + 1) * N) = M1 at *
   clear ho1 ho2 hl1 hr
   obtain ⟨wp, rfl⟩ : ∃ wp : World, wp = wr := ⟨_, rfl⟩
   go_loopw [3, 6] (fun v i wr => ∃ e : Nat, e ≤ C ∧ i = .int .i64 e ∧ LLs w0.heap.size wr v (rowsO (M1 ++ P2 (e * N))) ∧ Ext w0 wr) (fun _ i _ => C + 10 - (intOf i).toNat)
   case atStart => exact ⟨0, Nat.zero_le _, rfl, hr2, hx⟩
   case round =>
    clear hr2 hx
    obtain ⟨e, he, rfl, hr, hx⟩ := hrel
    have HB := PF.ext hx
    have c0 := HB.cell (i := 4) (v := .int .i64 C) rfl; have c1 := HB.cell (i := 5) (v := .int .i64 N) rfl; have cL := HB.lt
    by_cases hlt : e < C
    ·have hQ : e * N ≤ 64 * 16 := Nat.mul_le_mul (by omega) hN.2
     go_upto_region 14 with (fail)
     clear c0 c1 cL HB
     obtain ⟨wo, rfl⟩ : ∃ wo : World, wo = wr := ⟨_, rfl⟩
     have hr2 : LLs w0.heap.size wo u3 (rowsO (M1 ++ P2 (e * N + 0))) := hr
     go_loopw [3, 7] (fun v i wr => ∃ b : Nat, b ≤ N ∧ i = .int .i64 b ∧ LLs w0.heap.size wr v (rowsO (M1 ++ P2 (e * N + b))) ∧ Ext w0 wr) (fun _ i _ => N + 10 - (intOf i).toNat)
     case atStart => exact ⟨0, Nat.zero_le _, rfl, hr2, hx⟩
     case round =>
      clear hr2 hr hx
      obtain ⟨b, hb, rfl, hr, hx⟩ := hrel
      have HB := PF.ext hx
      obtain ⟨c0, c1, c2, c3, c4, c5⟩ := HB.c6; have cL := HB.lt
      by_cases hlb : b < N
      ·obtain ⟨hq1, hq2⟩ := hqd.out e b hlb
       have hll := hl2.out (e * N + b)
       have hup := ho3.out (e * N + b)
       rw [hq1, hq2] at hup
       have hcall := Lib.hid (hsz.out b (by omega))
       have hSb := hshb.out b
       generalize SH b = S at *
       obtain ⟨q0, hq0⟩ : ∃ q0, e * N + b = q0 := ⟨_, rfl⟩
       rw [hq0] at hr hll hup
       have hq3 : e * N + (b + 1) = q0 + 1 := by omega
       replace hq0 := Lib.hid hq0; replace hq3 := Lib.hid hq3
       have hlL := rowsO_len (M1 ++ P2 q0)
       rw [List.length_append] at hlL
       have hlb2 : (rowsO (M1 ++ P2 q0)).length < 1000000 := by have := hq0.out; omega
       clear hlL hll
       have happ := Lib.hid (show rowsO (M1 ++ P2 (q0 + 1)) = rowsO (M1 ++ P2 q0) ++ [[(b : Int), (S : Int) + (e : Int)]] from by rw [hup, ← List.append_assoc, rowsO_app, Int.natCast_add])
       clear hup
       generalize rowsO (M1 ++ P2 q0) = Lq at *
       go_wp2_with (first
        | (go_at_call 206; go_loud ((with_reducible refine (hcall.out _).mono ?_); rintro e5 w5 ⟨rfl, hx5⟩; have hr5 := hr.ext hx5; have hx05 := hx.trans hx5; have hB5 := hx05.below.size))
        | (at_builtin; go_loud (refine append2L hr5 hlb2 hB5 ?_ rfl rfl); intro v9 w9 hr9 hb9))
       exact ⟨⟨b + 1, hlb, by go_num, by rw [hq3.out, happ.out]; exact hr9, Below.trans hx05 hb9⟩, by simp [intOf]; omega⟩
      ·obtain rfl : b = N := by omega
       have hq3 : e * b + b = (e + 1) * b := by rw [Nat.add_mul, Nat.one_mul]
       rw [hq3] at hr
       go_wp2
       exact ⟨⟨e + 1, by omega, by go_num, hr, hx⟩, by simp [intOf]; omega⟩
    ·obtain rfl : e = C := by omega
     rw [← hfin.out] at hr
     go_wp2
     go_ret
     exact ⟨⟨_, rfl, hr.mono hBw⟩, hxA.trans hx⟩
end Go.Proofs.YtdnkljpnhmcnpaaGreat
/- Stacked symbols, the program's side: the patterns' indices as a map. -/
namespace Go.Proofs.YtdnkljpnhmcnpaaGreat
open Go.RowKit Go.MapKept Go.ChangeMaps Go.Maps

abbrev L8 := {l : List Int // l.length = 8}
abbrev eW8 (x : L8) : Value := .agg (w8F x.1).toArray
end Go.Proofs.YtdnkljpnhmcnpaaGreat
/- Stacked symbols, the program's side: patternIndices. -/
namespace Go.Proofs.YtdnkljpnhmcnpaaGreat
open Go.RowKit Go.MapKept Go.ChangeMaps Go.Maps

theorem SAt.w8 {w : World} {p : Option Addr} {ps : List (List Int)} (h : SAt w8F 8 w p ps) {k : Nat} (hk : k < ps.length) : ∃ b o, p = some ⟨b, o, none⟩ ∧ b < w.heap.size ∧ ∀ i, i < 8 → w.cell? ⟨b, o + k * 8 + i, none⟩ = some (.int .i64 ((ps.getD k []).getD i 0)) := by
 obtain ⟨b, o, h1, h2, h3⟩ := h k hk
 refine ⟨b, o, h1, h2, fun i hi => ?_⟩
 rw [show ps.getD k [] = ps[k] from by rw [List.getD_eq_getElem?_getD, List.getElem?_eq_getElem hk]; rfl]
 exact h3 i _ (by simp [w8F, hi])
end Go.Proofs.YtdnkljpnhmcnpaaGreat
/- Stacked symbols, the program's side: storing eight numbers. -/
namespace Go.Proofs.YtdnkljpnhmcnpaaGreat
open Go.RowKit

end Go.Proofs.YtdnkljpnhmcnpaaGreat
/- Stacked symbols, the program's side: what a cell row shows. -/
namespace Go.Proofs.YtdnkljpnhmcnpaaGreat
open Go.RowKit

end Go.Proofs.YtdnkljpnhmcnpaaGreat
/- Stacked symbols, the program's side: the values of a row. -/
namespace Go.Proofs.YtdnkljpnhmcnpaaGreat
open Go.RowKit Go.MapKept Go.ChangeMaps Go.Maps

end Go.Proofs.YtdnkljpnhmcnpaaGreat
/- Stacked symbols, the reference's side: widths and values of cells. -/
namespace Go.Proofs.YtdnkljpnhmcnpaaGreat
open Go.RowKit

end Go.Proofs.YtdnkljpnhmcnpaaGreat
/- Stacked symbols: plain laws on the votes for a level and on elements. -/
namespace Go.Proofs.YtdnkljpnhmcnpaaGreat
open Go.RowKit

def rowsV (xs : List Int) (C m r : Nat) : List Int := rowV (rowL C xs r) ((r % 3 : Nat) : Int) m
def votes (xs : List Int) (C m : Nat) : Nat → Int → Nat
 | 0, _ => 0
 | r + 1, v => votes xs C m r v + if r % 3 = 2 ∧ (rowsV xs C m r).getD (m - 1) 0 = v then 1 else 0
def negTo (l : List Int) : Nat → List Int
 | 0 => []
 | k + 1 => if l.getD k 0 < 0 then negTo l k ++ [(k : Int)] else negTo l k
def negs (l : List Int) : List Int := negTo l l.length
def pos0 (l : List Int) : List Int := l.map fun v => max 0 v
end Go.Proofs.YtdnkljpnhmcnpaaGreat
/- Stacked symbols, the program's side: the values of all rows. -/
namespace Go.Proofs.YtdnkljpnhmcnpaaGreat
open Go.RowKit Go.MapKept Go.ChangeMaps Go.Maps

def LRow (w : World) (B g R : Nat) (F : Nat → List Int) : Prop :=
 ∃ cs, Blk w g cs 22 ∧ B ≤ g ∧ ∀ r, r < R → ∃ q c, cs[r]? = some (.slice q (F r).length c) ∧ IntsAt w q (F r) ∧ (F r).length ≤ c ∧ ∀ b o, q = some ⟨b, o, none⟩ → B ≤ b
theorem LRow.ext {w w' : World} {B g R : Nat} {F : Nat → List Int} (h : LRow w B g R F) (hx : Ext w w') : LRow w' B g R F := by
 obtain ⟨cs, h1, hB, h2⟩ := h
 refine ⟨cs, h1.ext hx, hB, fun r hr => ?_⟩
 obtain ⟨q, c, h3, h4, h6, h5⟩ := h2 r hr
 exact ⟨q, c, h3, h4.ext hx, h6, h5⟩
theorem LRow.but {w w' : World} {B g R x : Nat} {F : Nat → List Int} (h : LRow w B g R F) (hb : But x w w') (hx : x < B) : LRow w' B g R F := by
 obtain ⟨cs, h1, hB, h2⟩ := h
 refine ⟨cs, h1.but hb (by omega), hB, fun r hr => ?_⟩
 obtain ⟨q, c, h3, h4, h6, h5⟩ := h2 r hr
 exact ⟨q, c, h3, h4.butF hb (fun b o e => by have := h5 b o e; omega), h6, h5⟩
theorem LRow.row {w : World} {B g R : Nat} {F : Nat → List Int} (h : LRow w B g R F) {r : Nat} (hr : r < R) : g < w.heap.size ∧ ∃ q c, w.cell? ⟨g, r, none⟩ = some (.slice q (F r).length c) ∧ IntsAt w q (F r) := by
 obtain ⟨cs, h1, hB, h2⟩ := h
 obtain ⟨q, c, h3, h4, h5⟩ := h2 r hr
 exact ⟨h1.lt, q, c, h1.cell h3, h4⟩
def LTo (w : World) (B g R j : Nat) (F : Nat → List Int) : Prop :=
 ∃ cs, Blk w g cs 22 ∧ cs.size = R ∧ (∀ r, r < j → ∃ q c, cs[r]? = some (.slice q (F r).length c) ∧ IntsAt w q (F r) ∧ (F r).length ≤ c ∧ ∀ b o, q = some ⟨b, o, none⟩ → B ≤ b ∧ b ≠ g) ∧ (∀ r, j ≤ r → r < R → cs[r]? = some (.slice none 0 0))
theorem LTo.all {w : World} {B g R : Nat} {F : Nat → List Int} (h : LTo w B g R R F) (hB : B ≤ g) : LRow w B g R F := by
 obtain ⟨cs, h1, _, h2, _⟩ := h
 refine ⟨cs, h1, hB, fun r hr => ?_⟩
 obtain ⟨q, c, h3, h4, h6, h5⟩ := h2 r hr
 exact ⟨q, c, h3, h4, h6, fun b o e => (h5 b o e).1⟩
theorem LTo.made {w : World} {B g R : Nat} {F : Nat → List Int} (h : Blk w g (madeCells #[.slice none 0 0] R) 22) : LTo w B g R 0 F :=
 ⟨_, h, by simp [size_madeCells], fun r hr => absurd hr (Nat.not_lt_zero r), fun r _ hr => by rw [made_get hr]; show some (#[Value.slice none 0 0][r % 1]!) = _; rw [Nat.mod_one]; rfl⟩
theorem LTo.put {w w1 : World} {B g R j : Nat} {F : Nat → List Int} (h : LTo w B g R j F) (hj : j < R) (hx : Ext w w1) {p : Option Addr} {c : Nat} (hp : IntsAt w1 p (F j)) (hc : (F j).length ≤ c) (hne : ∀ b o, p = some ⟨b, o, none⟩ → B ≤ b ∧ b ≠ g) :
  LTo (w1.setCell ⟨g, j, none⟩ (.slice p (F j).length c)) B g R (j + 1) F := by
 obtain ⟨cs, h1, h2, h3, h4⟩ := h
 have hk : ∀ {q : Option Addr} {ys : List Int}, IntsAt w1 q ys → (∀ b o, q = some ⟨b, o, none⟩ → b ≠ g) → IntsAt (w1.setCell ⟨g, j, none⟩ (.slice p (F j).length c)) q ys := fun hq hn i hi => by
  obtain ⟨b, o, e, hb, hv⟩ := hq i hi
  exact ⟨b, o, e, by simpa [World.setCell] using hb, by rw [World.cell?_setCell_other w1 _ _ _ (by simp; exact fun h => absurd h.symm (hn b o e))]; exact hv⟩
 refine ⟨_, (h1.ext hx).set j _, by simp [h2], fun r hr => ?_, fun r hr hR => ?_⟩
 ·rcases Nat.lt_or_ge r j with hlt | hge
  ·obtain ⟨q, c', h5, h6, h9, h7⟩ := h3 r hlt
   refine ⟨q, c', ?_, hk (h6.ext hx) (fun b o e => (h7 b o e).2), h9, h7⟩
   rw [Array.getElem?_setIfInBounds_ne (by omega)]
   exact h5
  ·obtain rfl : r = j := by omega
   refine ⟨p, c, ?_, hk hp (fun b o e => (hne b o e).2), hc, hne⟩
   rw [Array.getElem?_setIfInBounds_self_of_lt (by omega)]
 ·rw [Array.getElem?_setIfInBounds_ne (by omega)]
  exact h4 r (by omega) hR
theorem LTo.at {w w1 : World} {B g R j : Nat} {F : Nat → List Int} (h : LTo w B g R j F) (hj : j < R) (hx : Ext w w1) : w1.cell? ⟨g, j, none⟩ = some (.slice none 0 0) ∧ (∀ i, w1.frozen? ⟨g, i, none⟩ = false) ∧ g < w1.heap.size := by
 obtain ⟨cs, h1, h2, h3, h4⟩ := h
 have h5 := h1.ext hx
 exact ⟨h5.cell (h4 j (Nat.le_refl _) hj), h5.free, h5.lt⟩
theorem LTo.lt {w : World} {B g R j : Nat} {F : Nat → List Int} (h : LTo w B g R j F) : g < w.heap.size := by
 obtain ⟨cs, h1, _⟩ := h
 exact h1.lt
end Go.Proofs.YtdnkljpnhmcnpaaGreat
/- Stacked symbols, the program's side: the level that the rows tell. -/
namespace Go.Proofs.YtdnkljpnhmcnpaaGreat
open Go.RowKit

def v4 (f : Nat → Nat) : Array Value := #[.int .i64 (f 0), .int .i64 (f 1), .int .i64 (f 2), .int .i64 (f 3)]
end Go.Proofs.YtdnkljpnhmcnpaaGreat
/- Stacked symbols, the reference's side: rows of values and the level that they tell. -/
namespace Go.Proofs.YtdnkljpnhmcnpaaGreat
open Go.RowKit

end Go.Proofs.YtdnkljpnhmcnpaaGreat
/- Stacked symbols, the reference's side: the level that most rows tell. -/
namespace Go.Proofs.YtdnkljpnhmcnpaaGreat
open Go.RowKit

end Go.Proofs.YtdnkljpnhmcnpaaGreat
/- The size of a symbol, on the reference's side. -/
namespace Go.Proofs.YtdnkljpnhmcnpaaGreat
open Go.RowKit

end Go.Proofs.YtdnkljpnhmcnpaaGreat
/- The level and the mask of a symbol: plain values. -/
namespace Go.Proofs.YtdnkljpnhmcnpaaGreat
open Go.RowKit

end Go.Proofs.YtdnkljpnhmcnpaaGreat
/- The level and the mask of a symbol, on the reference's side. -/
namespace Go.Proofs.YtdnkljpnhmcnpaaGreat
open Go.RowKit

end Go.Proofs.YtdnkljpnhmcnpaaGreat
/- The level of a symbol, on the reference's side. -/
namespace Go.Proofs.YtdnkljpnhmcnpaaGreat
open Go.RowKit

end Go.Proofs.YtdnkljpnhmcnpaaGreat
/- The code of a failure of reading, through the library's errors.As (after the kit's worked example on errors.As). -/
namespace Go.Proofs.YtdnkljpnhmcnpaaGreat
open Go.RowKit Go.Extern.Stop Go.Stop Go.Extern

end Go.Proofs.YtdnkljpnhmcnpaaGreat
/- The code of a failure of reading. -/
namespace Go.Proofs.YtdnkljpnhmcnpaaGreat
open Go.RowKit Go.Extern.Stop Go.Stop Go.Extern

end Go.Proofs.YtdnkljpnhmcnpaaGreat
/- The level of a symbol, on the program's side. -/
namespace Go.Proofs.YtdnkljpnhmcnpaaGreat
open Go.RowKit

end Go.Proofs.YtdnkljpnhmcnpaaGreat
/- Elements of a matrix symbol: plain laws. -/
namespace Go.Proofs.YtdnkljpnhmcnpaaGreat
open Go.RowKit

end Go.Proofs.YtdnkljpnhmcnpaaGreat
/- Grids with a mask, on both sides. -/
namespace Go.Proofs.YtdnkljpnhmcnpaaGreat
open Go.RowKit

end Go.Proofs.YtdnkljpnhmcnpaaGreat
/- Stacked symbols, the program's side: the elements and those that are not known. -/
namespace Go.Proofs.YtdnkljpnhmcnpaaGreat
open Go.RowKit

theorem SegV.start {B : Nat} {w0 : World} {v : Value} {xs : List Int} {b0 : Nat} (h : RowI b0 w0 v xs) (hB : w0.heap.size ≤ B) (w3 : World) : SegV B w3 w3 v := ⟨Nat.le_refl _, fun k hk _ => ⟨rfl, fun e => absurd (h.lt k e).2 (by omega)⟩⟩
theorem SegV.grew {B : Nat} {w3 w5 w6 : World} {v v' : Value} (h : SegV B w3 w5 v) (hg : Grew v w5 w6 v') : SegV B w3 w6 v' := h.next (Ext.refl _) hg
structure TwoE (B : Nat) (w : World) (v4 v5 : Value) (F : List Int) : Prop where
 el : RowI B w v4 (pos0 F)
 un : RowI B w v5 (negs F)
 ap : ∀ k, v5.ownBlock = some k → v4.ownBlock ≠ some k
theorem TwoE.ext {B : Nat} {w w' : World} {v4 v5 : Value} {F : List Int} (h : TwoE B w v4 v5 F) (hx : Ext w w') : TwoE B w' v4 v5 F := ⟨h.el.ext hx, h.un.ext hx, h.ap⟩
theorem TwoE.start {B : Nat} {w : World} (hB : B ≤ w.heap.size) : TwoE B ((w.alloc (.cells #[] 2)).alloc (.cells #[] 2)) (.slice (some ⟨w.heap.size, 0, none⟩) 0 0) (.slice (some ⟨w.heap.size + 1, 0, none⟩) 0 0) [] := by
 refine ⟨(RowI.made hB).alloc _, ?_, fun k h1 h2 => ?_⟩
 ·have := RowI.made (B := B) (w := w.alloc (.cells #[] 2)) (by simp; omega)
  rwa [World.size_alloc] at this
 ·have e1 : w.heap.size + 1 = k := Option.some.inj h1
  have e2 : w.heap.size = k := Option.some.inj h2
  omega
section
variable {ops : Array Oper} {Q : Exit → Act → World → Prop} {rest : List Oper} {a : Act} {dst : Option Tmp} {s x : Operand} {ty : TypeId} {pos : String} {after : Array Edge} {B : Nat} {w0 : World} {v u : Value} {X U : List Int} {n : Int}
end
def StE (B : Nat) (w' : World) (F : List Int) (e : Ending) : Prop := ∃ v4 v5, e = .returned (.tuple #[v4, v5]) ∧ TwoE B w' v4 v5 F
theorem TwoE.low {B B' : Nat} {w : World} {v4 v5 : Value} {F : List Int} (h : TwoE B w v4 v5 F) (hB : B' ≤ B) : TwoE B' w v4 v5 F := ⟨h.el.mono hB, h.un.mono hB, h.ap⟩
theorem StE.of {B : Nat} {w : World} {v4 v5 : Value} {F : List Int} (h : TwoE B w v4 v5 F) : StE B w F (.returned (.tuple #[v4, v5])) := ⟨v4, v5, rfl, h⟩
end Go.Proofs.YtdnkljpnhmcnpaaGreat
/- The stream of a symbol: plain values. -/
namespace Go.Proofs.YtdnkljpnhmcnpaaGreat
open Go.RowKit

theorem TwoE.nil (B : Nat) (w : World) : TwoE B w (.slice none 0 0) (.slice none 0 0) [] := ⟨RowI.nil B w, RowI.nil B w, fun k h => by cases h⟩
end Go.Proofs.YtdnkljpnhmcnpaaGreat
/- Stacked symbols, the reference's side: the elements and the erasures. -/
namespace Go.Proofs.YtdnkljpnhmcnpaaGreat
open Go.RowKit

end Go.Proofs.YtdnkljpnhmcnpaaGreat
/- Elements of a matrix symbol, the program's side. -/
namespace Go.Proofs.YtdnkljpnhmcnpaaGreat
open Go.RowKit

end Go.Proofs.YtdnkljpnhmcnpaaGreat
/- Elements of a matrix symbol, the reference's side. -/
namespace Go.Proofs.YtdnkljpnhmcnpaaGreat
open Go.RowKit

end Go.Proofs.YtdnkljpnhmcnpaaGreat
/- Grids with a mask, the reference's side. -/
namespace Go.Proofs.YtdnkljpnhmcnpaaGreat
open Go.RowKit

end Go.Proofs.YtdnkljpnhmcnpaaGreat
/- The stream of a symbol, the reference's side. -/
namespace Go.Proofs.YtdnkljpnhmcnpaaGreat
open Go.RowKit

theorem l07Total_c (p k q D C N : Int) (w : World) (hD : -100000 ≤ D ∧ D ≤ 100000) (hN : 1 ≤ N ∧ N ≤ 16) (hC : 1 ≤ C ∧ C ≤ 64) :
  Calls Tryz.prog 119 #[vLay p k q D C N] w fun e w' => e = .returned (.int .i64 (D + N * C)) ∧ Ext w w' := by
 have h1 : 0 ≤ N * C := Int.mul_nonneg (by omega) (by omega)
 have h2 : N * C ≤ 16 * 64 := Int.mul_le_mul hN.2 hC.2 (by omega) (by omega)
 have hx0 : Ext w (w.alloc (.cells #[.int .i64 p, .int .i64 k, .int .i64 q, .int .i64 D, .int .i64 C, .int .i64 N] 95)) := (Ext.refl w).alloc _
 go_enter Tryz.func119, Tryz.ntmps119
 go_wp2
 go_ret
 exact ⟨rfl, hx0⟩
end Go.Proofs.YtdnkljpnhmcnpaaGreat
