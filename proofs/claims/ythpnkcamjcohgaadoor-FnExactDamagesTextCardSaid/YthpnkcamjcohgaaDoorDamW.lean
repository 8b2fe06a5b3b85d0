
/- The walk of the law on the text of damages. -/
import Derived.Test.YthpnkcamjcohgaaDoorDamL
import Derived.Test.YthpnkcamjcohgaaDoorRead
namespace Go.Proofs.YthpnkcamjcohgaaDoor
set_option linter.unusedVariables false
set_option linter.unusedSimpArgs false
open Go.RowKit

theorem rd_listD {α : Type} [Inhabited α] {f : α → List Value} {k : Nat} {e : Sh} {w : World} {v : Value} (G : α → Prop) (he : e.size = k) (hk : 0 < k)
    (hd : ∀ cs, rd w e cs → ∃ x : α, f x = cs ∧ G x) (h : rd w (.sl e) [v]) : ∃ p cap xs, v = .slice p xs.length cap ∧ xs.length ≤ maxLen ∧ SAt f k w p xs ∧ ∀ x ∈ xs, G x := by
  rcases h with h | ⟨a, len, cap, h, hl, hm, hc⟩
  · simp at h
    exact ⟨none, 0, [], by simpa using h, by simp, SAt.nil _ _, by simp⟩
  · simp at h
    have hx : ∀ i, ∃ x : α, i < len → G x ∧ ∀ j, j < k → w.cell? (a.add (i * k + j)) = (f x)[j]? ∧ (f x).length = k := by
      intro i
      by_cases hi : i < len
      · obtain ⟨cs', h1, h2, h3⟩ := hc i hi
        obtain ⟨x, hx, hg⟩ := hd cs' h3
        exact ⟨x, fun _ => ⟨hg, fun j hj => ⟨by rw [hx, ← h2 j (by omega), he], by rw [hx, h1, he]⟩⟩⟩
      · exact ⟨default, fun h => absurd h hi⟩
    obtain ⟨X, hX⟩ := Classical.axiomOfChoice hx
    refine ⟨some a, cap, (List.range len).map X, by simpa using h, by simp; omega, fun i hi => ?_, fun x hx => ?_⟩
    · simp at hi
      obtain ⟨z0, zl⟩ := (hX 0 (by omega)).2 0 hk
      have z1 := (cell_lt (z0.trans (List.getElem?_eq_getElem (by omega)))).2
      obtain ⟨hg, hcell⟩ := hX i hi
      obtain ⟨h0, hlen⟩ := hcell 0 hk
      have h1 := (cell_lt (h0.trans (List.getElem?_eq_getElem (by omega))))
      obtain ⟨b, o, sp⟩ := a
      have h2 : sp = none := by simpa [Addr.add] using z1
      subst h2
      refine ⟨b, o, rfl, by rw [addr_add] at h1; exact h1.1, fun j u hj => ?_⟩
      simp only [List.getElem_map, List.getElem_range] at hj
      have hjk : j < k := by rw [← hlen]; exact (List.getElem?_eq_some_iff.1 hj).1
      have := (hcell j hjk).1
      rw [addr_add] at this
      rw [Nat.add_assoc, this, hj]
    · simp at hx
      obtain ⟨i, hi, rfl⟩ := hx
      exact (hX i hi).1

section
variable {w : World}
theorem rds_oneD {f : Sh} {fs : List Sh} {cs : List Value} (hf : f.size = 1) (hc : ∀ cs, rd w f cs → cs.length = 1) (h : rds w (f :: fs) cs) : ∃ c cs', cs = c :: cs' ∧ rd w f [c] ∧ rds w fs cs' := by
  obtain ⟨h1, h2⟩ := h
  rw [hf] at h1 h2
  match cs with
  | [] => have := hc _ h1; simp at this
  | c :: cs' => exact ⟨c, cs', rfl, by simpa using h1, by simpa using h2⟩
theorem rds_intD {k : IntKind} {fs : List Sh} {cs : List Value} (h : rds w (.i k :: fs) cs) : ∃ n cs', cs = .int k n :: cs' ∧ (Lit.int k n).wf = true ∧ rds w fs cs' := by
  obtain ⟨c, cs', rfl, ⟨n, h1, h2⟩, h3⟩ := rds_oneD (by rfl) (fun cs h => by obtain ⟨n, h, _⟩ := h; rw [h]; rfl) h
  simp at h1
  subst h1
  exact ⟨n, cs', rfl, h2, h3⟩
theorem rds_nilD {cs : List Value} (h : rds w [] cs) : cs = [] := h
end
theorem open_Dams {w : World} {v : Value} (h : rd w (.sl (.st [.i .i64, .i .i64, .i .i64, .i .i64, .i .i64, .i .i64])) [v]) : ∃ p cap xs, v = .slice p xs.length cap ∧ xs.length ≤ maxLen ∧ SAt fD 6 w p xs ∧ ∀ x : Dam, x ∈ xs → True :=
  rd_listD (fun _ : Dam => True) rfl (by omega) (fun cs h => by
    obtain ⟨k, _, rfl, _, h⟩ := rds_intD (show rds w [.i .i64, .i .i64, .i .i64, .i .i64, .i .i64, .i .i64] cs from h)
    obtain ⟨r, _, rfl, _, h⟩ := rds_intD h
    obtain ⟨c, _, rfl, _, h⟩ := rds_intD h
    obtain ⟨t, _, rfl, _, h⟩ := rds_intD h
    obtain ⟨v, _, rfl, _, h⟩ := rds_intD h
    obtain ⟨g, _, rfl, _, h⟩ := rds_intD h
    exact ⟨⟨k, r, c, t, v, g⟩, by rw [rds_nilD h]; rfl, trivial⟩) h
set_option maxHeartbeats 1600000 in
set_option maxRecDepth 100000 in
theorem damagesText_law (p : Option Addr) (c : Nat) (xs : List Dam) (w : World) (hx : SAt fD 6 w p xs) (hl : xs.length ≤ maxLen) (hT : Tab10 w) :
    Calls Tryd.prog 3 #[.slice p xs.length c] w fun e w' => e = .returned (.bool true) ∧ Ext w w' := by
  have HX := Lib.hid hx; have HT := Lib.hid hT; clear hx hT
  unfold maxLen at hl
  have hsz := Lib.hid (fun W => szDamageS_c p c xs.length W (by omega))
  by_cases h : 1048576 < xs.length
  · rw [if_pos h] at hsz
    go_enter Tryd.func3, Tryd.ntmps3
    go_wp2_with (go_at_call 7; (with_reducible refine (hsz.out _).mono ?_); rintro e w1 ⟨rfl, hx1⟩)
    go_ret
    exact ⟨rfl, hx1⟩
  · rw [if_neg h] at hsz
    have hni : ¬ (1048576 : Int) - xs.length < 0 := by omega
    have hto := Lib.hid (fun W hh => toDamageS_c p c xs W hh (by omega))
    have hsd := Lib.hid (fun q W hh => sDamagesText_c q xs.length xs W hh (by omega))
    have hid := Lib.hid (fun q W hh hT => iDamagesText_c q xs.length xs W hh (by omega) hT)
    have heq := Lib.hid (fun q r W hh h2 => eqDamageS_c q r xs.length xs.length xs W hh h2 (by omega))
    generalize dtV xs = V at *
    have hVV : (!(V.toList == V.toList)) = false := by simp
    go_enter Tryd.func3, Tryd.ntmps3
    go_wp2_with (go_at_call 7; (with_reducible refine (hsz.out _).mono ?_); rintro e w1 ⟨rfl, hx1⟩)
    refine (hto.out _ (HX.out.ext hx1)).mono ?_
    rintro e w2 ⟨⟨q2, rfl, o2⟩, hx2⟩
    go_wp2_with fail
    refine (hsd.out _ _ o2.sat).mono ?_
    rintro e w3 ⟨rfl, hx3⟩
    go_wp2_with fail
    have hx03 := (hx1.trans hx2).trans hx3
    refine (hto.out _ (HX.out.ext hx03)).mono ?_
    rintro e w4 ⟨⟨q4, rfl, o4⟩, hx4⟩
    go_wp2_with fail
    refine (hid.out _ _ o4.sat (HT.out.ext (hx03.trans hx4))).mono ?_
    rintro e w5 ⟨rfl, hx5⟩
    go_wp2_with fail
    have hx05 := (hx03.trans hx4).trans hx5
    refine (hto.out _ (HX.out.ext hx05)).mono ?_
    rintro e w6 ⟨⟨q6, rfl, o6⟩, hx6⟩
    go_wp2_with fail
    refine (heq.out _ _ _ ((o4.sat.ext hx5).ext hx6) o6.sat).mono ?_
    rintro e w7 ⟨rfl, hx7⟩
    go_wp2_with fail
    go_ret
    exact ⟨rfl, (hx05.trans hx6).trans hx7⟩
end Go.Proofs.YthpnkcamjcohgaaDoor
