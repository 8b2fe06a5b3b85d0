/- Words read as numbers by the reference. -/
import Derived.Test.YthpnkcamjcohgaaDoorLBatchTextLK38
namespace Go.Proofs.YthpnkcamjcohgaaDoor
set_option linter.unusedVariables false
set_option linter.unusedSimpArgs false
open Go.RowKit

theorem SAt.wd {w : World} {p : Option Addr} {xs : List ByteArray} (h : SAt wdF 1 w p xs) {i : Nat} (hi : i < xs.length) :
    ∃ b o, p = some ⟨b, o, none⟩ ∧ b < w.heap.size ∧ w.cell? ⟨b, o + i, none⟩ = some (.string (xs[i]'hi)) := by
  obtain ⟨b, o, h1, h2, h3⟩ := h i hi
  have := h3 0 (.string (xs[i]'hi)) rfl
  rw [Nat.mul_one, Nat.add_zero] at this
  exact ⟨b, o, h1, h2, this⟩
theorem SAt.tail {w : World} {b o : Nat} {xs : List ByteArray} (h : SAt wdF 1 w (some ⟨b, o, none⟩) xs) : SAt wdF 1 w (some ⟨b, o + 1, none⟩) xs.tail := fun i hi => by
  have hi2 : i + 1 < xs.length := by simp at hi; omega
  obtain ⟨b', o', e, h2, h3⟩ := h (i + 1) hi2
  simp only [Option.some.injEq, Addr.mk.injEq, and_true] at e
  obtain ⟨rfl, rfl⟩ := e
  refine ⟨b, o + 1, rfl, h2, fun j v hv => ?_⟩
  have e2 : xs.tail[i]'hi = xs[i + 1]'hi2 := by rw [List.getElem_tail]
  rw [e2] at hv
  have := h3 j v hv
  rw [show o + 1 + i * 1 + j = o + (i + 1) * 1 + j by omega]
  exact this
/-- The first k words are these numbers. -/
def NuL (ws : List ByteArray) (ns : List Int) : Prop := ∀ j (h : j < ws.length) (h2 : j < ns.length), ∃ m : Nat, ns[j]'h2 = m ∧ ws[j]'h = dec m ∧ m ≤ 999999999999
/-- Words as numbers. -/
def NuE (ws : List ByteArray) (e : Ending) (w' : World) : Prop :=
  (∃ (p : Option Addr) (c : Nat) (ns : List Int), e = .returned (.tuple #[.slice p ns.length c, .bool true]) ∧ ns.length = ws.length ∧ ns.length ≤ c ∧ NuL ws ns ∧ IntsAt w' p ns) ∨
  (e = .returned (.tuple #[.slice none 0 0, .bool false]) ∧ ∃ (j : Nat) (h : j < ws.length), ∀ m : Nat, ws[j]'h = dec m → 12 < (ws[j]'h).size)
theorem NuL.push {ws : List ByteArray} {ns : List Int} {m : Nat} (h : NuL ws ns) (hk : ns.length < ws.length) (hm : ws[ns.length]'hk = dec m) (hb : m ≤ 999999999999) : NuL ws (ns ++ [(m : Int)]) := fun j h1 h2 => by
  by_cases e : j < ns.length
  · obtain ⟨q, g1, g2, g3⟩ := h j h1 e
    exact ⟨q, by rw [List.getElem_append_left e]; exact g1, g2, g3⟩
  · have e2 : j = ns.length := by simp at h2; omega
    subst e2
    exact ⟨m, by simp, hm, hb⟩
set_option maxHeartbeats 1600000 in
set_option maxRecDepth 100000 in
theorem sNumbers_c (p : Option Addr) (c : Nat) (ws : List ByteArray) (w : World) (hw : SAt wdF 1 w p ws) (hl : ws.length ≤ 1048577) (hz : ∀ x ∈ ws, x.size ≤ 1048576) :
    Calls Tryd.prog 71 #[.slice p ws.length c] w fun e w' => NuE ws e w' ∧ Ext w w' := by
  have HW := Lib.hid hw; have HZ := Lib.hid hz
  clear hw hz
  go_enter Tryd.func71, Tryd.ntmps71
  go_upto_region 3 with (fail)
  go_loopw [4, 5] (fun o i wr => ∃ ns : List Int, ns.length ≤ ws.length ∧ i = .int .i64 ns.length ∧ RowI w.heap.size wr o ns ∧ Hid (NuL ws ns) ∧ Ext w wr) (fun _ i _ => ws.length - (intOf i).toNat)
  case atStart => exact ⟨[], Nat.zero_le _, rfl, RowI.made (Nat.le_refl _), Lib.hid (fun j _ h => absurd h (Nat.not_lt_zero j)), (by repeat (first | exact Ext.refl _ | assumption | refine Ext.drew ?_ | refine Ext.drewN ?_ _ | refine Ext.iter ?_ _ _ | refine Ext.alloc ?_ _ | refine Ext.setCell ?_ (by first | exact Nat.le_refl _ | (simp <;> omega)) _ | refine Ext.trans2 (by assumption) ?_))⟩
  case round =>
    obtain ⟨ns, hk, rfl, hown, hnu, hext⟩ := hrel
    have hB := hext.below.size
    by_cases hlt : ns.length < ws.length
    · obtain ⟨b, o, rfl, hbl, y1⟩ := (HW.out.ext hext).wd hlt
      have hx := HZ.out _ (List.getElem_mem hlt)
      have hpush := Lib.hid (fun (m : Nat) (hm : ws[ns.length]'hlt = dec m) hb => hnu.out.push hlt hm hb)
      have hbad := Lib.hid (fun (h : ∀ m : Nat, ws[ns.length]'hlt = dec m → 12 < (ws[ns.length]'hlt).size) => (⟨ns.length, hlt, h⟩ : ∃ (j : Nat) (h : j < ws.length), ∀ m : Nat, ws[j]'h = dec m → 12 < (ws[j]'h).size))
      generalize ws[ns.length]'hlt = x at *
      have hva := Lib.hid (fun W => sValue_c x W hx)
      have hlti : (ns.length : Int) < ws.length := by omega
      go_upto_region 6 with (go_at_call 110; (with_reducible refine (hva.out _).mono ?_); rintro e w1 ⟨⟨n, bb, rfl, hR⟩, hx1⟩)
      have hx01 := hext.trans hx1
      have hB1 := hx01.below.size
      have hown1 := hown.ext hx1
      rcases hR with ⟨rfl, m, rfl, hm, hmb, -⟩ | ⟨rfl, hR⟩
      · obtain ⟨ns2, hns2⟩ : ∃ ns2, ns ++ [(m : Int)] = ns2 := ⟨_, rfl⟩
        have hp2 := hpush.out m hm hmb
        rw [hns2] at hp2
        have hl2 : ns2.length = ns.length + 1 := by rw [← hns2]; simp
        replace hp2 := Lib.hid hp2; replace hns2 := Lib.hid hns2; replace hm := Lib.hid hm; replace hl2 := Lib.hid hl2
        clear y1
        go_wp2_with (at_builtin; go_loud (refine append1I hown1 (by omega) hB1 ?_ rfl rfl); intro v1 w3 hown3 hb3; rw [hns2.out] at hown3)
        go_roundw
        case rel => exact ⟨ns2, by rw [hl2.out]; exact hlt, by rw [hl2.out]; go_num, hown3, hp2, hx01.trans3 hb3⟩
        case measure => simp [intOf]; omega
      · have hbd := Lib.hid (hbad.out hR)
        go_wp2
        go_ret2
        exact ⟨.inr ⟨rfl, hbd.out⟩, hx01⟩
    · have hle : ns.length = ws.length := by omega
      have hlti : ¬ (ns.length : Int) < ws.length := by omega
      obtain ⟨q, d, rfl, oq, hqd⟩ := hown.ownC
      replace hle := Lib.hid hle
      clear hlt
      go_wp2
      go_ret2
      exact ⟨.inl ⟨q, d, ns, rfl, hle.out, hqd, hnu.out, oq.ints⟩, hext⟩
end Go.Proofs.YthpnkcamjcohgaaDoor
