/- Stacked symbols, the program's side: the elements and those that are not known. -/
import Derived.Test.YtojdediohjghnaaGreatDoorLSurvivesDamageK25
import Derived.Test.YtojdediohjghnaaGreatDoorLSurvivesDamageK24
import Derived.Test.YtojdediohjghnaaGreatDoorLSurvivesDamageK07
import Derived.Test.YtojdediohjghnaaGreatDoorLSurvivesDamageK21
import Derived.Test.YtojdediohjghnaaGreatDoorLSurvivesDamageK29
import Derived.Test.YtojdediohjghnaaGreatDoorLSurvivesDamageK30
import Derived.Test.YtojdediohjghnaaGreatDoorLSurvivesDamageK31
set_option linter.unusedVariables false
set_option linter.unusedSimpArgs false
namespace Go.Proofs.YtojdediohjghnaaGreatDoor
open Go.RowKit

theorem IntsAt.segV {B : Nat} {w3 w5 : World} {v : Value} {q : Option Addr} {l : List Int} (h : IntsAt w3 q l) (hb : ∀ b o, q = some ⟨b, o, none⟩ → B ≤ b) (hs : SegV B w3 w5 v) : IntsAt w5 q l := fun j hj => by
 obtain ⟨b, o, e, h7, h8⟩ := h j hj
 exact ⟨b, o, e, Nat.lt_of_lt_of_le h7 hs.1, by rw [World.cell?_of_block (w := w3) (a := ⟨b, o + j, none⟩) (hs.2 b (hb b o e) h7).1]; exact h8⟩
theorem Blk.segV {B g : Nat} {cs : Array Value} {t : TypeId} {w3 w5 : World} {v : Value} (h : Blk w3 g cs t) (hB : B ≤ g) (hs : SegV B w3 w5 v) : Blk w5 g cs t := (hs.2 g hB h.lt).1.trans h
theorem SegV.start {B : Nat} {w0 : World} {v : Value} {xs : List Int} {b0 : Nat} (h : RowI b0 w0 v xs) (hB : w0.heap.size ≤ B) (w3 : World) : SegV B w3 w3 v := ⟨Nat.le_refl _, fun k hk _ => ⟨rfl, fun e => absurd (h.lt k e).2 (by omega)⟩⟩
theorem SegV.swap {B : Nat} {w3 w5 w6 : World} {v v' : Value} (h1 : SegV B w3 w6 v) (h2 : SegV B w3 w5 v') : SegV B w3 w6 v' := ⟨h1.1, fun k h3 h4 => ⟨(h1.2 k h3 h4).1, (h2.2 k h3 h4).2⟩⟩
theorem SegV.grew {B : Nat} {w3 w5 w6 : World} {v v' : Value} (h : SegV B w3 w5 v) (hg : Grew v w5 w6 v') : SegV B w3 w6 v' := h.next (Ext.refl _) hg
structure TwoE (B : Nat) (w : World) (v4 v5 : Value) (F : List Int) : Prop where
 el : RowI B w v4 (pos0 F)
 un : RowI B w v5 (negs F)
 ap : ∀ k, v5.ownBlock = some k → v4.ownBlock ≠ some k
theorem TwoE.ext {B : Nat} {w w' : World} {v4 v5 : Value} {F : List Int} (h : TwoE B w v4 v5 F) (hx : Ext w w') : TwoE B w' v4 v5 F := ⟨h.el.ext hx, h.un.ext hx, h.ap⟩
theorem TwoE.start {B : Nat} {w : World} (hB : B ≤ w.heap.size) : TwoE B ((w.alloc (.cells #[] 2)).alloc (.cells #[] 2)) (.slice (some ⟨w.heap.size, 0, none⟩) 0 0) (.slice (some ⟨w.heap.size + 1, 0, none⟩) 0 0) [] := by
 refine ⟨(RowI.made hB).alloc _, ?_, fun k h1 h2 => ?_⟩
 ·have := RowI.made (B := B) (w := w.alloc (.cells #[] 2)) (by simp; omega)
  rwa [World.size_alloc] at this
 ·have e1 : w.heap.size + 1 = k := Option.some.inj h1
  have e2 : w.heap.size = k := Option.some.inj h2
  omega
theorem TwoE.ends {B : Nat} {w : World} {v4 v5 : Value} {F : List Int} (h : TwoE B w v4 v5 F) : ∃ p4 c4 p5 c5, v4 = .slice p4 (pos0 F).length c4 ∧ v5 = .slice p5 (negs F).length c5 ∧ OwnInts B w p4 (pos0 F) ∧ OwnInts B w p5 (negs F) ∧ (pos0 F).length ≤ c4 ∧ (negs F).length ≤ c5 := by
 obtain ⟨p4, c4, e4, o4, l4⟩ := h.el.ownC
 obtain ⟨p5, c5, e5, o5, l5⟩ := h.un.ownC
 exact ⟨p4, c4, p5, c5, e4, e5, o4, o5, l4, l5⟩
section
variable {ops : Array Oper} {Q : Exit → Act → World → Prop} {rest : List Oper} {a : Act} {dst : Option Tmp} {s x : Operand} {ty : TypeId} {pos : String} {after : Array Edge} {B : Nat} {w0 : World} {v u : Value} {X U : List Int} {n : Int}
theorem append_two (h0 : RowI B w0 v X) (h1 : RowI B w0 u U) (hap : ∀ k, u.ownBlock = some k → v.ownBlock ≠ some k) (hl : X.length ≤ 100000) (hB : B ≤ w0.heap.size)
  (h : ∀ v' w', RowI B w' v' (X ++ [n]) → RowI B w' u U → (∀ k, u.ownBlock = some k → v'.ownBlock ≠ some k) → Grew v w0 w' v' → wpList Tryz.prog ops Q rest (a.put dst v') w') (hs : a.eval s = v) (hx : a.eval x = .slice (some ⟨w0.heap.size, 0, none⟩) 1 1) :
  wpList Tryz.prog ops Q (⟨dst, .call { callee := .builtin .append, args := #[s, x], argTypes := #[24, 24] }, ty, pos, after, none⟩ :: rest) a (w0.alloc (.cells #[.int .i64 n] 2)) := by
 refine append1IG h0 (by omega) hB ?_ hs hx
 intro v' w' hr hg
 exact h v' w' hr (h1.grew hg hap) (h1.apart hg hap) hg
end
def StE (B : Nat) (w' : World) (F : List Int) (e : Ending) : Prop := ∃ v4 v5, e = .returned (.tuple #[v4, v5]) ∧ TwoE B w' v4 v5 F
theorem TwoE.low {B B' : Nat} {w : World} {v4 v5 : Value} {F : List Int} (h : TwoE B w v4 v5 F) (hB : B' ≤ B) : TwoE B' w v4 v5 F := ⟨h.el.mono hB, h.un.mono hB, h.ap⟩
theorem StE.of {B : Nat} {w : World} {v4 v5 : Value} {F : List Int} (h : TwoE B w v4 v5 F) : StE B w F (.returned (.tuple #[v4, v5])) := ⟨v4, v5, rfl, h⟩
theorem take_up {l : List Int} {j : Nat} (h : j < l.length) (F : List Int) : F ++ l.take (j + 1) = (F ++ l.take j) ++ [l.getD j 0] := by
 rw [List.take_succ_eq_append_getElem h, List.append_assoc, List.getD_eq_getElem?_getD, List.getElem?_eq_getElem h]
 rfl
set_option maxHeartbeats 3200000 in
set_option maxRecDepth 100000 in
theorem stackElements_c (R C co b o cap : Nat) (xs : List Int) (w : World) (hx : IntsAt w (some ⟨b, o, none⟩) xs) (hl : xs.length = R * C) (hC : 26 ≤ C) (hco : rowN C = co + 2) (h1c : 1 ≤ co) (hcap : xs.length ≤ cap) (h4 : R * C ≤ 40000) (hbd : ∀ x ∈ xs, -1 ≤ x ∧ x ≤ 1) :
  Calls Tryz.prog 77 #[vGrid R C (some ⟨b, o, none⟩) xs.length cap] w fun e w' => StE w.heap.size w' (flatV xs C co R) e ∧ Ext w w' := by
 have HX := Lib.hid hx; clear hx
 have hRc : R * co ≤ 40000 := Nat.le_trans (Nat.mul_le_mul_left _ (by unfold rowN at hco; omega)) h4
 have hR4 : R ≤ 40000 := by
  have : R * 1 ≤ R * co := Nat.mul_le_mul_left _ h1c
  omega
 have hsv := Lib.hid (fun W (h : IntsAt W (some ⟨b, o, none⟩) xs) => stackValues_c R C b o cap xs W h hl (by omega) hcap h4 hbd)
 rw [hco] at hsv
 clear hl hbd h4 hC
 have hfl := Lib.hid (fun r => flatV_len xs C co r)
 have hfs := Lib.hid (fun r => flatV_succ xs C co r)
 have hf0 : flatV xs C co 0 = [] := rfl
 obtain ⟨G, hG⟩ : ∃ G, flatV xs C co = G := ⟨_, rfl⟩
 rw [hG] at hfl hfs hf0 ⊢
 have hrl := Lib.hid (fun r => rowsV_len xs C (co + 2) r)
 obtain ⟨m2, hm2⟩ : ∃ m2, co + 2 = m2 := ⟨_, rfl⟩
 rw [hm2] at hsv hfs hrl
 obtain ⟨F, hF⟩ : ∃ F : Nat → List Int, (fun r => rowsV xs C m2 r) = F := ⟨_, rfl⟩
 have hF2 : ∀ r, rowsV xs C m2 r = F r := fun r => by rw [← hF]
 rw [hF] at hsv
 replace hrl : Hid (∀ r, (F r).length = m2) := Lib.hid (fun r => by rw [← hF2 r]; exact hrl.out r)
 replace hfs : Hid (∀ r, G (r + 1) = G r ++ ((F r).drop 1).take co) := Lib.hid (fun r => by rw [← hF2 r]; exact hfs.out r)
 clear hF hF2 hG
 replace hm2 := Lib.hid hm2
 have hmb : R = 0 ∨ co ≤ 40000 := by
  rcases Nat.eq_zero_or_pos R with h | h
  ·exact .inl h
  ·have : 1 * co ≤ R * co := Nat.mul_le_mul_right _ h
   exact .inr (by omega)
 have hb0 := ((Blk.new w #[.int .i64 R, .int .i64 C, .slice (some ⟨b, o, none⟩) xs.length cap] 37).alloc (.cells #[] 2)).alloc (.cells #[] 2)
 have hx0 : Ext w (((w.alloc (.cells #[.int .i64 R, .int .i64 C, .slice (some ⟨b, o, none⟩) xs.length cap] 37)).alloc (.cells #[] 2)).alloc (.cells #[] 2)) := (((Ext.refl w).alloc _).alloc _).alloc _
 have hT := TwoE.start (B := w.heap.size) (w := w.alloc (.cells #[.int .i64 R, .int .i64 C, .slice (some ⟨b, o, none⟩) xs.length cap] 37)) (by simp)
 rw [World.size_alloc] at hT
 go_enter Tryz.func77, Tryz.ntmps77
 go_upto_region 2 with (fail)
 obtain ⟨c0, c1, c2⟩ := hb0.c3; have cL := hb0.lt
 have hcall := Lib.hid (hsv.out _ (HX.out.ext hx0))
 generalize (((w.alloc (.cells #[.int .i64 R, .int .i64 C, .slice (some ⟨b, o, none⟩) xs.length cap] 37)).alloc (.cells #[] 2)).alloc (.cells #[] 2)) = w0 at *
 generalize Value.slice (some ⟨w.heap.size + 1, 0, none⟩) 0 0 = v4 at *
 generalize Value.slice (some ⟨w.heap.size + 1 + 1, 0, none⟩) 0 0 = v5 at *
 go_upto_region 3 with (go_at_call 119; go_loud ((with_reducible refine (hcall.out).mono ?_); rintro e w1 ⟨⟨gL, rfl, hL⟩, hx1⟩))
 have hT1 := hT.ext hx1
 have hs4 : SegV w0.heap.size w1 w1 v4 := SegV.start hT.el (Nat.le_refl _) w1
 have hs5 : SegV w0.heap.size w1 w1 v5 := SegV.start hT.un (Nat.le_refl _) w1
 have hxw := hx0.trans hx1
 rw [← hf0] at hT1
 replace hf0 := Lib.hid hf0
 clear hb0 hx0 hT c0 c1 c2 cL hcall hsv HX hx1
 obtain ⟨cs, hcB, hgB, hcs⟩ := hL
 go_loopw [4, 5, 15] (fun x4 x5 i wr => ∃ r : Nat, r ≤ R ∧ i = .int .i64 r ∧ TwoE w.heap.size wr x4 x5 (G r) ∧ SegV w0.heap.size w1 wr x4 ∧ SegV w0.heap.size w1 wr x5 ∧ Ext w wr) (fun _ _ i _ => R - (intOf i).toNat)
 case atStart => exact ⟨0, Nat.zero_le _, rfl, hT1, hs4, hs5, hxw⟩
 case round =>
  clear hT1 hs4 hs5 hxw
  obtain ⟨r, hr, rfl, hT, hS4, hS5, hext⟩ := hrel
  by_cases hlt : r < R
  ·have hco4 : co ≤ 40000 := by omega
   obtain ⟨q, cq, hcr, hqi, hqc, hqb⟩ := hcs r hlt
   have hlr := hrl.out r
   rw [hlr] at hcr hqc
   obtain ⟨bq, oq, rfl, -, -⟩ := hqi 0 (by rw [hlr]; have := hm2.out; omega)
   have hbq : w0.heap.size ≤ bq := hqb bq oq rfl
   have a0 := (hcB.segV hgB hS4).cell hcr
   have aL := (hcB.segV hgB hS4).lt
   have hwin := hqi.sub 1 co
   have hst := hfs.out r
   have hGl := hfl.out r
   have hG1 := hfl.out (r + 1)
   have hll : (((F r).drop 1).take co).length = co := by rw [List.length_take, List.length_drop, hlr]; have := hm2.out; omega
   generalize ((F r).drop 1).take co = l at *
   have hrr : (r + 1) * co ≤ R * co := Nat.mul_le_mul_right _ hlt
   rw [Nat.add_mul, Nat.one_mul] at hrr
   have hG0 : (G r).length + co ≤ 40000 := by omega
   clear hGl hG1 hrr hcr hqi
   have hsl : ∀ W, (Instr.slice 24 (.slice (some ⟨bq, oq, none⟩) m2 cq) (some (.int .i64 1)) (some (.int .i64 ((m2 : Int) - 1))) none).run Tryz.prog W = .ok (.slice (some ⟨bq, oq + 1, none⟩) co (cq - 1)) W := fun W => by
    have := Lib.run_slice_window (P := Tryz.prog) W 24 2 Tryz.underlying24 (fun w => by kernel_rfl) bq oq m2 cq 1 (co + 1) (by have := hm2.out; omega) (by have := hm2.out; omega)
    rwa [show co + 1 - 1 = co by omega, show (((co + 1 : Nat)) : Int) = (m2 : Int) - 1 from by have := hm2.out; omega, show ((1 : Nat) : Int) = 1 from rfl] at this
   replace hst := Lib.hid hst
   obtain ⟨F0, hF0⟩ : ∃ F0, G r = F0 := ⟨_, rfl⟩
   rw [hF0] at hT hst hG0
   replace hF0 := Lib.hid hF0
   replace hll := Lib.hid hll
   replace hlr := Lib.hid hlr
   have hm2a : 2 ≤ m2 := by have := hm2.out; omega
   have hm2b : m2 ≤ 40002 := by have := hm2.out; omega
   go_upto_region 6 with (fail)
   obtain ⟨wo, rfl⟩ : ∃ wo : World, wo = wr := ⟨_, rfl⟩
   have hT2 : TwoE w.heap.size wo u4 u5 (F0 ++ l.take 0) := by simpa using hT
   go_loopw [4, 5, 25] (fun x4 x5 i wr => ∃ j : Nat, j ≤ co ∧ i = .int .i64 j ∧ TwoE w.heap.size wr x4 x5 (F0 ++ l.take j) ∧ SegV w0.heap.size w1 wr x4 ∧ SegV w0.heap.size w1 wr x5 ∧ Ext w wr) (fun _ _ i _ => co - (intOf i).toNat)
   case atStart => exact ⟨0, Nat.zero_le _, rfl, hT2, hS4, hS5, hext⟩
   case round =>
    clear hT2 hT a0 aL hS4 hS5 hext
    obtain ⟨j, hj, rfl, hT, hS4, hS5, hext⟩ := hrel
    by_cases hltj : j < co
    ·have hup := take_up (l := l) (j := j) (by rw [hll.out]; exact hltj) F0
     have hlen : (F0 ++ l.take j).length ≤ 40000 := by rw [List.length_append, List.length_take]; have := hll.out; omega
     obtain ⟨b2, o2, e2, hql, hqv⟩ := (hwin.segV (fun b o e => by obtain ⟨rfl, rfl⟩ : bq = b ∧ oq + 1 = o := (by simpa using e); exact hbq) hS4) j (by rw [hll.out]; exact hltj)
     injection e2 with e2
     injection e2 with e3 e4
     subst e3; subst e4
     generalize l.getD j 0 = v at *
     obtain ⟨F1, hF1⟩ : ∃ F1, F0 ++ l.take j = F1 := ⟨_, rfl⟩
     rw [hF1] at hT hup hlen
     replace hF1 := Lib.hid hF1
     replace hup := Lib.hid hup
     obtain ⟨e5, e6, e7⟩ := hT
     have hpl := pos0_len F1
     have hnl := negs_len F1
     have hwB : w.heap.size ≤ wr.heap.size := hext.size
     have hv4 := e5.lt
     have hv5 := e6.lt
     have e7' : ∀ k, u4.ownBlock = some k → u5.ownBlock ≠ some k := fun k h1 h2 => e7 k h2 h1
     obtain ⟨p4, c4, rfl, -, -⟩ := e5.ownC
     rw [hpl] at *
     have hpb : (pos0 F1).length ≤ 100000 := by rw [pos0_len]; omega
     have hnb : (negs F1).length ≤ 100000 := by omega
     replace e7' := Lib.hid e7'
     replace e7 := Lib.hid e7
     by_cases hneg : v < 0
     ·have hP := Lib.hid (show pos0 (F1 ++ [v]) = pos0 F1 ++ [0] from by rw [pos0_app, show max 0 v = 0 from by omega])
      have hN := Lib.hid (negs_up (l := F1) hneg)
      go_wp2_with (first
       | (at_builtin; go_loud (refine append_two e6 e5 e7'.out hnb hwB ?_ rfl rfl); intro v6 w6 k1 k2 k3 hg6; have hB6 := Nat.le_trans hwB hg6.by_.size; have hS6 := hS5.grew hg6; have hx6 := hg6.toExt hext (fun k h => (hv5 k h).1))
       | (at_builtin; go_loud (refine append_two k2 k1 (fun k h1 h2 => k3 k h2 h1) hpb hB6 ?_ rfl rfl); intro v7 w7 m1 m2' m3 hg7))
      have hS7 := (hS6.swap hS4).grew hg7
      exact ⟨⟨j + 1, hltj, by go_num, ⟨by rw [hup.out, hP.out]; exact m1, by rw [hup.out, hN.out]; exact m2', m3⟩, hS7, hS7.swap hS6, hg7.toExt hx6 (fun k h => (hv4 k h).1)⟩, by simp [intOf]; omega⟩
     ·have hP := Lib.hid (show pos0 (F1 ++ [v]) = pos0 F1 ++ [v] from by rw [pos0_app, show max 0 v = v from by omega])
      have hN := Lib.hid (negs_no (l := F1) hneg)
      go_wp2_with (at_builtin; go_loud (refine append_two e5 e6 e7.out hpb hwB ?_ rfl rfl); intro v7 w7 m1 m2' m3 hg7)
      have hS7 := hS4.grew hg7
      exact ⟨⟨j + 1, hltj, by go_num, ⟨by rw [hup.out, hP.out]; exact m1, by rw [hup.out, hN.out]; exact m2', m3⟩, hS7, hS7.swap hS5, hg7.toExt hext (fun k h => (hv4 k h).1)⟩, by simp [intOf]; omega⟩
    ·obtain rfl : j = co := by omega
     rw [List.take_of_length_le (Nat.le_of_eq hll.out), ← hst.out] at hT
     go_wp2
     exact ⟨⟨r + 1, hlt, by go_num, hT, hS4, hS5, hext⟩, by simp [intOf]; omega⟩
  ·obtain rfl : r = R := by omega
   go_wp2
   exact bodyPost_ret (v := .tuple #[u4, u5]) (by simp [results, Tryz.results77, go_sem]) rfl ⟨StE.of hT, hext⟩
end Go.Proofs.YtojdediohjghnaaGreatDoor
/- The stream of a symbol: plain values. -/
namespace Go.Proofs.YtojdediohjghnaaGreatDoor
open Go.RowKit

noncomputable def strF (K p k co r c : Int) (xs : List Int) : List Int :=
 if K = 2 then flatV xs c.toNat co.toNat r.toNat else elemsV (fW (fldSize p k)) (cellsL r.toNat (mskL (lvM K r c xs).toNat r.toNat xs) (dpL r.toNat)) ((dpL r.toNat).length / fW (fldSize p k))
theorem strF_st (p k : Int) (R C cO : Nat) (xs : List Int) : strF 2 p k cO R C xs = flatV xs C cO R := by
 unfold strF
 rw [if_pos rfl, Int.toNat_natCast, Int.toNat_natCast, Int.toNat_natCast]
theorem strF_mx {K : Int} (p k co : Int) (n m : Nat) (xs : List Int) (hK : ¬ K = 2) (hm : lvM K n n xs = m) : strF K p k co n n xs = elemsV (fW (fldSize p k)) (cellsL n (mskL m n xs) (dpL n)) ((dpL n).length / fW (fldSize p k)) := by
 unfold strF
 rw [if_neg hK, Int.toNat_natCast, hm, Int.toNat_natCast]
theorem strF_len {K p k co r : Int} (c : Int) (xs : List Int) (h : (K = 1 ∧ sizOK r) ∨ (K = 2 ∧ (3 ≤ r ∧ r ≤ 24) ∧ (1 ≤ co ∧ co ≤ 8))) : ((strF K p k co r c xs).length : Int) = elV K p k co r := by
 unfold strF elV
 rcases h with ⟨rfl, _⟩ | ⟨rfl, h1, h2⟩
 ·rw [if_neg (by decide), if_neg (by decide), elemsV_len]
  exact Int.natCast_ediv _ _
 ·rw [if_pos rfl, if_pos rfl, flatV_len]
  obtain ⟨R, rfl⟩ : ∃ R : Nat, r = R := ⟨r.toNat, by omega⟩
  obtain ⟨cO, rfl⟩ : ∃ R : Nat, co = R := ⟨co.toNat, by omega⟩
  rw [Int.toNat_natCast, Int.toNat_natCast]
  exact Int.natCast_mul _ _
theorem mskL_lenS (m n : Nat) (xs : List Int) : (mskL m n xs).length = xs.length := mskTo_len _ _ _ _ _
open Classical in
noncomputable def stF (nm : ByteArray) (K p k q : Int) (ss : List Int) (co : Int) (ls : List Int) (r c : Int) (xs : List Int) : List Int :=
 if (lvR nm K p k q ss co ls r c xs).2 = 0 then strF K p k co r c xs else []
theorem stF_ok {nm : ByteArray} {K p k q co r c : Int} {ss ls xs : List Int} (h : (lvR nm K p k q ss co ls r c xs).2 = 0) : stF nm K p k q ss co ls r c xs = strF K p k co r c xs := if_pos h
theorem stF_no {nm : ByteArray} {K p k q co r c : Int} {ss ls xs : List Int} (h : ¬ (lvR nm K p k q ss co ls r c xs).2 = 0) : stF nm K p k q ss co ls r c xs = [] := if_neg h
theorem lvR_iff {nm : ByteArray} {K p k q co r c : Int} {ss ls xs : List Int} : (lvR nm K p k q ss co ls r c xs).2 = 0 ↔ szC nm K p k q ss co ls r c xs = 0 ∧ lvG K p k q co ls r c xs := by
 by_cases hz : szC nm K p k q ss co ls r c xs = 0
 ·by_cases hg : lvG K p k q co ls r c xs
  ·rw [lvR_ok hz hg]
   exact ⟨fun _ => ⟨hz, hg⟩, fun _ => rfl⟩
  ·rw [lvR_dm hz hg]
   exact ⟨fun h => absurd h (by decide), fun h => absurd h.2 hg⟩
 ·rw [lvR_no hz]
  exact ⟨fun h => absurd h hz, fun h => absurd h.1 hz⟩
theorem lvR_cd {nm : ByteArray} {K p k q co r c : Int} {ss ls xs : List Int} (h : ¬ (lvR nm K p k q ss co ls r c xs).2 = 0) : (lvR nm K p k q ss co ls r c xs).1 = 0 ∧ (lvR nm K p k q ss co ls r c xs).2 = if szC nm K p k q ss co ls r c xs = 0 then 7 else szC nm K p k q ss co ls r c xs := by
 by_cases hz : szC nm K p k q ss co ls r c xs = 0
 ·have hg : ¬ lvG K p k q co ls r c xs := fun hg => h (lvR_iff.2 ⟨hz, hg⟩)
  rw [lvR_dm hz hg, if_pos hz]
  exact ⟨rfl, rfl⟩
 ·rw [lvR_no hz, if_neg hz]
  exact ⟨rfl, rfl⟩
theorem fam_w {nm : ByteArray} {p k q co : Int} {ss ls : List Int} (h : famOK nm 1 p k q ss co ls) : 1 ≤ fW (fldSize p k) ∧ fW (fldSize p k) ≤ 8 := by
 obtain ⟨_, _, _, _, ⟨_, hp, hf, _⟩ | ⟨h1, _⟩⟩ := h
 ·have hb := fW_bd (fldOK_szbd hf)
  have hz : fldSize p k ≤ 256 := by
   rcases hf with ⟨_, h1, _⟩ | ⟨h1, _, h2, _⟩
   ·omega
   ·unfold fldSize
    rw [if_neg h1]
    have h3 : (2 : Nat) ^ k.toNat ≤ 2 ^ 8 := Nat.pow_le_pow_right (by omega) (by omega)
    have e : ((2 : Int) ^ k.toNat) = ((2 ^ k.toNat : Nat) : Int) := by simp
    omega
  refine ⟨hb.1, Nat.le_of_not_lt fun h9 => ?_⟩
  have h10 : fW (fldSize p k) = 9 := by omega
  have h11 := hb.2.2.1
  rw [h10, show (2 : Int) ^ 9 = 512 from by decide] at h11
  omega
 ·exact absurd h1 (by decide)
def ErrV (er : Value) (cd : Int) : Prop := (cd = 0 ∧ er = .nilIface) ∨ (¬ cd = 0 ∧ ∃ n : Int, er = vErr n cd)
theorem TwoE.nil (B : Nat) (w : World) : TwoE B w (.slice none 0 0) (.slice none 0 0) [] := ⟨RowI.nil B w, RowI.nil B w, fun k h => by cases h⟩
theorem stF_len {nm : ByteArray} {K p k q co r c : Int} {ss ls xs : List Int} : (stF nm K p k q ss co ls r c xs).length ≤ 1681 := by
 by_cases h : (lvR nm K p k q ss co ls r c xs).2 = 0
 ·rw [stF_ok h]
  obtain ⟨⟨hF, hG⟩, hin, hc⟩ := szC_zero (lvR_iff.1 h).1
  have h1 := strF_len (p := p) (k := k) c xs (famS hF hin)
  have h2 := elV_bd (co := co) (fam_fld hF) (famS hF hin)
  omega
 ·rw [stF_no h]
  exact Nat.zero_le _
end Go.Proofs.YtojdediohjghnaaGreatDoor
/- Damaged elements: plain values. -/
namespace Go.Proofs.YtojdediohjghnaaGreatDoor
open Go.RowKit

def dmgTo (A B F : List Int) : Nat → List Int
 | 0 => []
 | k + 1 => if F.getD k 0 < 0 ∨ A.getD k 0 = B.getD k 0 then dmgTo A B F k else dmgTo A B F k ++ [(k : Int)]
theorem dmg_no {A B F : List Int} {k : Nat} (h : F.getD k 0 < 0 ∨ A.getD k 0 = B.getD k 0) : dmgTo A B F (k + 1) = dmgTo A B F k := if_pos h
theorem dmg_up {A B F : List Int} {k : Nat} (h : ¬ (F.getD k 0 < 0 ∨ A.getD k 0 = B.getD k 0)) : dmgTo A B F (k + 1) = dmgTo A B F k ++ [(k : Int)] := if_neg h
theorem dmg_len (A B F : List Int) : ∀ k, (dmgTo A B F k).length ≤ k
 | 0 => Nat.le_refl _
 | k + 1 => by
  have ih := dmg_len A B F k
  by_cases h : F.getD k 0 < 0 ∨ A.getD k 0 = B.getD k 0
  ·rw [dmg_no h]; omega
  ·rw [dmg_up h, List.length_append, List.length_singleton]; omega
theorem negTo_pre (l : List Int) (k : Nat) : ∀ d, ∃ r, negTo l (k + d) = negTo l k ++ r
 | 0 => ⟨[], by simp⟩
 | d + 1 => by
  obtain ⟨r, hr⟩ := negTo_pre l k d
  by_cases h : l.getD (k + d) 0 < 0
  ·exact ⟨r ++ [((k + d : Nat) : Int)], by rw [← Nat.add_assoc, negTo_up h, hr, List.append_assoc]⟩
  ·exact ⟨r, by rw [← Nat.add_assoc, negTo_no h, hr]⟩
theorem negs_pre {l : List Int} {k : Nat} (h : k ≤ l.length) : ∃ r, negs l = negTo l k ++ r := by
 obtain ⟨r, hr⟩ := negTo_pre l k (l.length - k)
 rw [show k + (l.length - k) = l.length by omega] at hr
 exact ⟨r, hr⟩
theorem neg_hit {l : List Int} {k : Nat} (hk : k < l.length) (h : l.getD k 0 < 0) : (negTo l k).length < (negs l).length ∧ (negs l).getD (negTo l k).length 0 = k ∧ (negTo l (k + 1)).length = (negTo l k).length + 1 := by
 obtain ⟨r, hr⟩ := negs_pre (l := l) (k := k + 1) hk
 rw [negTo_up h] at hr ⊢
 refine ⟨?_, ?_, by simp⟩
 ·rw [hr]; simp
 ·rw [hr, List.append_assoc, List.getD_eq_getElem?_getD, List.getElem?_append_right (Nat.le_refl _)]
  simp
theorem neg_miss {l : List Int} {k : Nat} (hk : k < l.length) (h : ¬ l.getD k 0 < 0) : (negTo l k).length ≤ (negs l).length ∧ ((negTo l k).length < (negs l).length → (negs l).getD (negTo l k).length 0 ≠ k) ∧ (negTo l (k + 1)).length = (negTo l k).length := by
 obtain ⟨r, hr⟩ := negs_pre (l := l) (k := k) (by omega)
 refine ⟨by rw [hr, List.length_append]; omega, fun h2 h3 => ?_, by rw [negTo_no h]⟩
 have hm := getD_mem (d := (0 : Int)) h2
 rw [h3] at hm
 obtain ⟨j, _, h4, h5⟩ := negs_in.1 hm
 obtain rfl : k = j := by omega
 exact h h5
open Classical in
noncomputable def dmC (nm : ByteArray) (K p k q : Int) (ss : List Int) (co : Int) (ls : List Int) (r1 c1 : Int) (xs1 : List Int) (r2 c2 : Int) (xs2 : List Int) : Int :=
 if (lvR nm K p k q ss co ls r1 c1 xs1).2 = 0 then (if (lvR nm K p k q ss co ls r2 c2 xs2).2 = 0 then (if (stF nm K p k q ss co ls r1 c1 xs1).length = (stF nm K p k q ss co ls r2 c2 xs2).length then 0 else 5) else (lvR nm K p k q ss co ls r2 c2 xs2).2) else (lvR nm K p k q ss co ls r1 c1 xs1).2
open Classical in
noncomputable def dmX (nm : ByteArray) (K p k q : Int) (ss : List Int) (co : Int) (ls : List Int) (r1 c1 : Int) (xs1 : List Int) (r2 c2 : Int) (xs2 : List Int) : List Int :=
 if dmC nm K p k q ss co ls r1 c1 xs1 r2 c2 xs2 = 0 then dmgTo (pos0 (stF nm K p k q ss co ls r1 c1 xs1)) (pos0 (stF nm K p k q ss co ls r2 c2 xs2)) (stF nm K p k q ss co ls r2 c2 xs2) (stF nm K p k q ss co ls r1 c1 xs1).length else []
open Classical in
noncomputable def dmY (nm : ByteArray) (K p k q : Int) (ss : List Int) (co : Int) (ls : List Int) (r1 c1 : Int) (xs1 : List Int) (r2 c2 : Int) (xs2 : List Int) : List Int := if dmC nm K p k q ss co ls r1 c1 xs1 r2 c2 xs2 = 0 then negs (stF nm K p k q ss co ls r2 c2 xs2) else []
theorem dmX_no {nm : ByteArray} {K p k q co r1 c1 r2 c2 : Int} {ss ls xs1 xs2 : List Int} (h : ¬ dmC nm K p k q ss co ls r1 c1 xs1 r2 c2 xs2 = 0) : dmX nm K p k q ss co ls r1 c1 xs1 r2 c2 xs2 = [] := if_neg h
theorem dmY_no {nm : ByteArray} {K p k q co r1 c1 r2 c2 : Int} {ss ls xs1 xs2 : List Int} (h : ¬ dmC nm K p k q ss co ls r1 c1 xs1 r2 c2 xs2 = 0) : dmY nm K p k q ss co ls r1 c1 xs1 r2 c2 xs2 = [] := if_neg h
theorem dm_1 {nm : ByteArray} {K p k q co r1 c1 r2 c2 : Int} {ss ls xs1 xs2 : List Int} (h : ¬ (lvR nm K p k q ss co ls r1 c1 xs1).2 = 0) : dmC nm K p k q ss co ls r1 c1 xs1 r2 c2 xs2 = (lvR nm K p k q ss co ls r1 c1 xs1).2 ∧ dmX nm K p k q ss co ls r1 c1 xs1 r2 c2 xs2 = [] ∧ dmY nm K p k q ss co ls r1 c1 xs1 r2 c2 xs2 = [] := by
 have e : dmC nm K p k q ss co ls r1 c1 xs1 r2 c2 xs2 = (lvR nm K p k q ss co ls r1 c1 xs1).2 := if_neg h
 have h2 : ¬ dmC nm K p k q ss co ls r1 c1 xs1 r2 c2 xs2 = 0 := by rw [e]; exact h
 exact ⟨e, dmX_no h2, dmY_no h2⟩
theorem dm_2 {nm : ByteArray} {K p k q co r1 c1 r2 c2 : Int} {ss ls xs1 xs2 : List Int} (h1 : (lvR nm K p k q ss co ls r1 c1 xs1).2 = 0) (h : ¬ (lvR nm K p k q ss co ls r2 c2 xs2).2 = 0) : dmC nm K p k q ss co ls r1 c1 xs1 r2 c2 xs2 = (lvR nm K p k q ss co ls r2 c2 xs2).2 ∧ dmX nm K p k q ss co ls r1 c1 xs1 r2 c2 xs2 = [] ∧ dmY nm K p k q ss co ls r1 c1 xs1 r2 c2 xs2 = [] := by
 have e : dmC nm K p k q ss co ls r1 c1 xs1 r2 c2 xs2 = (lvR nm K p k q ss co ls r2 c2 xs2).2 := by unfold dmC; rw [if_pos h1, if_neg h]
 have h2 : ¬ dmC nm K p k q ss co ls r1 c1 xs1 r2 c2 xs2 = 0 := by rw [e]; exact h
 exact ⟨e, dmX_no h2, dmY_no h2⟩
theorem dm_3 {nm : ByteArray} {K p k q co r1 c1 r2 c2 : Int} {ss ls xs1 xs2 : List Int} (h1 : (lvR nm K p k q ss co ls r1 c1 xs1).2 = 0) (h2 : (lvR nm K p k q ss co ls r2 c2 xs2).2 = 0) (h : ¬ (stF nm K p k q ss co ls r1 c1 xs1).length = (stF nm K p k q ss co ls r2 c2 xs2).length) : dmC nm K p k q ss co ls r1 c1 xs1 r2 c2 xs2 = 5 ∧ dmX nm K p k q ss co ls r1 c1 xs1 r2 c2 xs2 = [] ∧ dmY nm K p k q ss co ls r1 c1 xs1 r2 c2 xs2 = [] := by
 have e : dmC nm K p k q ss co ls r1 c1 xs1 r2 c2 xs2 = 5 := by unfold dmC; rw [if_pos h1, if_pos h2, if_neg h]
 have h2 : ¬ dmC nm K p k q ss co ls r1 c1 xs1 r2 c2 xs2 = 0 := by rw [e]; decide
 exact ⟨e, dmX_no h2, dmY_no h2⟩
theorem dm_4 {nm : ByteArray} {K p k q co r1 c1 r2 c2 : Int} {ss ls xs1 xs2 : List Int} (h1 : (lvR nm K p k q ss co ls r1 c1 xs1).2 = 0) (h2 : (lvR nm K p k q ss co ls r2 c2 xs2).2 = 0) (h : (stF nm K p k q ss co ls r1 c1 xs1).length = (stF nm K p k q ss co ls r2 c2 xs2).length) : dmC nm K p k q ss co ls r1 c1 xs1 r2 c2 xs2 = 0 ∧ dmX nm K p k q ss co ls r1 c1 xs1 r2 c2 xs2 = dmgTo (pos0 (stF nm K p k q ss co ls r1 c1 xs1)) (pos0 (stF nm K p k q ss co ls r2 c2 xs2)) (stF nm K p k q ss co ls r2 c2 xs2) (stF nm K p k q ss co ls r1 c1 xs1).length ∧ dmY nm K p k q ss co ls r1 c1 xs1 r2 c2 xs2 = negs (stF nm K p k q ss co ls r2 c2 xs2) := by
 have e : dmC nm K p k q ss co ls r1 c1 xs1 r2 c2 xs2 = 0 := by unfold dmC; rw [if_pos h1, if_pos h2, if_pos h]
 exact ⟨e, if_pos e, if_pos e⟩
theorem dmX_len {nm : ByteArray} {K p k q co r1 c1 r2 c2 : Int} {ss ls xs1 xs2 : List Int} : (dmX nm K p k q ss co ls r1 c1 xs1 r2 c2 xs2).length ≤ 1681 := by
 by_cases h : dmC nm K p k q ss co ls r1 c1 xs1 r2 c2 xs2 = 0
 ·rw [show dmX nm K p k q ss co ls r1 c1 xs1 r2 c2 xs2 = _ from if_pos h]
  exact Nat.le_trans (dmg_len _ _ _ _) stF_len
 ·rw [dmX_no h]; exact Nat.zero_le _
theorem dmY_len {nm : ByteArray} {K p k q co r1 c1 r2 c2 : Int} {ss ls xs1 xs2 : List Int} : (dmY nm K p k q ss co ls r1 c1 xs1 r2 c2 xs2).length ≤ 1681 := by
 by_cases h : dmC nm K p k q ss co ls r1 c1 xs1 r2 c2 xs2 = 0
 ·rw [show dmY nm K p k q ss co ls r1 c1 xs1 r2 c2 xs2 = _ from if_pos h]
  exact Nat.le_trans (negs_len _) stF_len
 ·rw [dmY_no h]; exact Nat.zero_le _
end Go.Proofs.YtojdediohjghnaaGreatDoor
