/- Lists of segments: how the laws hand them on; their length. -/
import Derived.Test.YtepneadbddjmjaaLen
import Derived.Test.YtepneadbddjmjaaSlist
namespace Go.Proofs.Ytepneadbddjmjaa
set_option linter.unusedVariables false
set_option linter.unusedSimpArgs false
open Go.RowKit

theorem SAt.two {α : Type} {f : α → List Value} {w : World} {p : Option Addr} {xs : List α} (h : SAt f 2 w p xs) {i : Nat} (hi : i < xs.length) {u v : Value} (hf : f (xs[i]'hi) = [u, v]) :
    ∃ b o, p = some ⟨b, o, none⟩ ∧ b < w.heap.size ∧ w.cell? ⟨b, o + i * 2, none⟩ = some u ∧ w.cell? ⟨b, o + i * 2 + 1, none⟩ = some v := by
  obtain ⟨b, o, h1, h2, h3⟩ := h i hi
  rw [hf] at h3
  exact ⟨b, o, h1, h2, h3 0 u rfl, h3 1 v rfl⟩

theorem bytes_eq {a b : ByteArray} : a.toList = b.toList ↔ a = b := by
  rw [ByteArray.toList_eq, ByteArray.toList_eq]
  constructor
  · intro h
    cases a; cases b
    congr 1
    exact Array.ext' h
  · intro h; rw [h]
theorem open_Segs {w : World} {v : Value} (h : rd w (.sl (.st [.i .i64, .str])) [v]) : ∃ p cap xs, v = .slice p xs.length cap ∧ xs.length ≤ maxLen ∧ SAt segF 2 w p xs ∧ ∀ x ∈ xs, x.2.size ≤ maxLen :=
  rd_list (fun x : Sg => x.2.size ≤ maxLen) rfl (by omega) (fun cs h => by
    obtain ⟨m, _, rfl, _, h⟩ := rds_int (show rds w [.i .i64, .str] cs from h)
    obtain ⟨s, _, rfl, hs, h⟩ := rds_str h
    exact ⟨(m, s), by rw [rds_nil h]; rfl, hs⟩) h

theorem toSegmentS_c (p : Option Addr) (c : Nat) (xs : List Sg) (w : World) (hx : SAt segF 2 w p xs) (hl : xs.length ≤ 1048576) :
    Calls Try.prog 21 #[.slice p xs.length c] w fun e w' => (∃ q, e = .returned (.slice q xs.length xs.length) ∧ SOwn segF 2 w.heap.size w' q xs) ∧ Ext w w' := by
  have hI1 : Try.prog.underlying 28 = some (.slice 46) := by kernel_rfl
  have hI2 : (Try.prog.info? 46).map (fun i => (i.zero, i.size, i.bytes)) = some (some (.agg #[.int .i64 0, .string ByteArray.empty]), 2, 24) := by kernel_rfl
  go_enter Try.func21, Try.ntmps21
  go_wp2_with (first | (at_make; go_loud (refine make_blk hI1 hI2 xs.length ?_ ?_ (by omega) (by omega) ?_; rfl; rfl)))
  have hb := Blk.new w (madeCells (Value.agg #[.int .i64 0, .string ByteArray.empty]).cells (xs.length * 2)) 46
  clear hI1 hI2
  go_loopw [4] (fun i wr => ∃ (k : Nat) (cs : Array Value), k ≤ xs.length ∧ i = .int .i64 k ∧ Blk wr w.heap.size cs 46 ∧ Hid (TabS segF 2 xs cs k) ∧ Ext w wr) (fun i _ => xs.length - (intOf i).toNat)
  case atStart => exact ⟨0, _, Nat.zero_le _, rfl, hb, Lib.hid ⟨size_madeCells _ _, fun j _ h => by omega⟩, (by repeat (first | exact Ext.refl _ | assumption | refine Ext.drew ?_ | refine Ext.drewN ?_ _ | refine Ext.iter ?_ _ _ | refine Ext.alloc ?_ _ | refine Ext.setCell ?_ (by first | exact Nat.le_refl _ | (simp <;> omega)) _ | refine Ext.trans2 (by assumption) ?_))⟩
  case round =>
    clear hb
    obtain ⟨k, cs, hk, rfl, hb, hT, hext⟩ := hrel
    by_cases hlt : k < xs.length
    · obtain ⟨b, o, rfl, hbl, h0, h1⟩ := (hx.ext hext).two hlt (u := .int .i64 (xs[k]'hlt).1) (v := .string (xs[k]'hlt).2) rfl
      have hT2 := Lib.hid (hT.out.step segF_len hlt)
      have hn := hT.out.1
      clear hx
      obtain ⟨z0, z0'⟩ : ∃ v, cs[k * 2]? = some v := ⟨_, Array.getElem?_eq_getElem (by omega)⟩
      obtain ⟨z1, z1'⟩ : ∃ v, cs[k * 2 + 1]? = some v := ⟨_, Array.getElem?_eq_getElem (by omega)⟩
      go_wp2_with (first
        | (go_at_call 35; refine (toSegment_c _ _ _).mono ?_; rintro e w1 ⟨rfl, hb1⟩; have hbb := hb.ext hb1; have q0 := hbb.cell z0'; have q1 := hbb.cell z1'; have q2 := hbb.lt; have q3 := hbb.free))
      go_roundw
      case rel => exact ⟨k + 1, _, hlt, by go_num, (hbb.set _ _).set _ _, hT2, ((hext.trans hb1).setCell (Nat.le_refl _) _).setCell (Nat.le_refl _) _⟩
      case measure => simp [intOf]; omega
    · clear hx
      obtain rfl : k = xs.length := by omega
      go_wp2
      go_ret
      exact ⟨⟨_, rfl, hT.out.own segF_len hb (Nat.le_refl _)⟩, hext⟩

/-- What is left: negative, or the sizes are small. -/
def szR (xs : List Sg) (left : Int) (e : Ending) : Prop := ∃ r : Int, e = .returned (.int .i64 r) ∧ (r = -1 ∨ (0 ≤ r ∧ r ≤ left ∧ xs.length ≤ left ∧ ∀ x ∈ xs, x.2.size ≤ left))
theorem szSegmentS_c (p : Option Addr) (c : Nat) (xs : List Sg) (left : Int) (w : World) (hx : SAt segF 2 w p xs) (hl : xs.length ≤ maxLen) (hG : ∀ x ∈ xs, x.2.size ≤ maxLen) (hleft : 0 ≤ left ∧ left ≤ 1048576) :
    Calls Try.prog 19 #[.slice p xs.length c, .int .i64 left] w fun e w' => szR xs left e ∧ Ext w w' := by
  unfold maxLen at hl
  by_cases hn : (xs.length : Int) ≤ left
  · have HG := Lib.hid hG; clear hG
    go_enter Try.func19, Try.ntmps19
    go_wp2
    go_loopw [1, 5] (fun l i wr => ∃ (k : Nat) (r : Int), k ≤ xs.length ∧ i = .int .i64 k ∧ l = .int .i64 r ∧ 0 ≤ r ∧ r ≤ left ∧ Hid (∀ x ∈ xs.take k, (x.2.size : Int) ≤ left) ∧ Ext w wr) (fun _ i _ => xs.length - (intOf i).toNat)
    case atStart => exact ⟨0, _, Nat.zero_le _, rfl, rfl, by omega, by omega, Lib.hid (by simp), (by repeat (first | exact Ext.refl _ | assumption | refine Ext.drew ?_ | refine Ext.drewN ?_ _ | refine Ext.iter ?_ _ _ | refine Ext.alloc ?_ _ | refine Ext.setCell ?_ (by first | exact Nat.le_refl _ | (simp <;> omega)) _ | refine Ext.trans2 (by assumption) ?_))⟩
    case round =>
      obtain ⟨k, r, hk, rfl, rfl, hr0, hr1, hT, hext⟩ := hrel
      by_cases hlt : k < xs.length
      · obtain ⟨b, o, rfl, hbl, h0, h1⟩ := (hx.ext hext).two hlt (u := .int .i64 (xs[k]'hlt).1) (v := .string (xs[k]'hlt).2) rfl
        have hsz := Lib.hid (HG.out _ (List.getElem_mem hlt))
        clear hx
        go_wp2_with (first
          | (go_at_call 32; refine (szSegment_c _ _ _ _ (by omega) hsz.out).mono ?_; rintro e w1 ⟨⟨hl, rfl⟩ | ⟨hl, rfl⟩, hb⟩))
        all_goals first
          | (go_ret; exact ⟨⟨_, rfl, .inl rfl⟩, (by repeat (first | exact Ext.refl _ | assumption | refine Ext.drew ?_ | refine Ext.drewN ?_ _ | refine Ext.iter ?_ _ _ | refine Ext.alloc ?_ _ | refine Ext.setCell ?_ (by first | exact Nat.le_refl _ | (simp <;> omega)) _ | refine Ext.trans2 (by assumption) ?_))⟩)
          | (go_roundw
             case rel => exact ⟨k + 1, r - (xs[k]'hlt).2.size, hlt, by go_num, rfl, by omega, by omega, Lib.hid (fun x hx => by
               rw [List.take_succ_eq_append_getElem hlt] at hx
               rcases List.mem_append.1 hx with h | h
               · exact hT.out x h
               · simp at h; subst h; omega), (by repeat (first | exact Ext.refl _ | assumption | refine Ext.drew ?_ | refine Ext.drewN ?_ _ | refine Ext.iter ?_ _ _ | refine Ext.alloc ?_ _ | refine Ext.setCell ?_ (by first | exact Nat.le_refl _ | (simp <;> omega)) _ | refine Ext.trans2 (by assumption) ?_))⟩
             case measure => simp [intOf]; omega)
      · clear hx
        obtain rfl : k = xs.length := by omega
        go_wp2
        go_ret
        have := hT.out
        rw [List.take_length] at this
        exact ⟨⟨_, rfl, .inr ⟨hr0, hr1, hn, this⟩⟩, hext⟩
  · clear hx hG
    go_enter Try.func19, Try.ntmps19
    go_wp2
    go_ret
    exact ⟨⟨_, rfl, .inl rfl⟩, (by repeat (first | exact Ext.refl _ | assumption | refine Ext.drew ?_ | refine Ext.drewN ?_ _ | refine Ext.iter ?_ _ _ | refine Ext.alloc ?_ _ | refine Ext.setCell ?_ (by first | exact Nat.le_refl _ | (simp <;> omega)) _ | refine Ext.trans2 (by assumption) ?_))⟩

theorem eqSegment_c (x y : Sg) (w : World) :
    Calls Try.prog 68 #[vSeg x.1 x.2, vSeg y.1 y.2] w fun e w' => isB e (x = y) ∧ Ext w w' := by
  go_enter Try.func68, Try.ntmps68
  go_wp2
  · have h1 : ¬ x.1 = y.1 := by rename_i h; simpa using h
    go_ret
    exact ⟨isB_f (fun h => h1 (by rw [h])), (by repeat (first | exact Ext.refl _ | assumption | refine Ext.drew ?_ | refine Ext.drewN ?_ _ | refine Ext.iter ?_ _ _ | refine Ext.alloc ?_ _ | refine Ext.setCell ?_ (by first | exact Nat.le_refl _ | (simp <;> omega)) _ | refine Ext.trans2 (by assumption) ?_))⟩
  · have h1 : ¬ x.2 = y.2 := by rename_i h; simpa [bytes_eq] using h
    go_ret
    exact ⟨isB_f (fun h => h1 (by rw [h])), (by repeat (first | exact Ext.refl _ | assumption | refine Ext.drew ?_ | refine Ext.drewN ?_ _ | refine Ext.iter ?_ _ _ | refine Ext.alloc ?_ _ | refine Ext.setCell ?_ (by first | exact Nat.le_refl _ | (simp <;> omega)) _ | refine Ext.trans2 (by assumption) ?_))⟩
  · have h1 : x.1 = y.1 := by rename_i h _; simpa using h
    have h2 : x.2 = y.2 := by rename_i _ h; simpa [bytes_eq] using h
    go_ret
    exact ⟨isB_t (Prod.ext h1 h2), (by repeat (first | exact Ext.refl _ | assumption | refine Ext.drew ?_ | refine Ext.drewN ?_ _ | refine Ext.iter ?_ _ _ | refine Ext.alloc ?_ _ | refine Ext.setCell ?_ (by first | exact Nat.le_refl _ | (simp <;> omega)) _ | refine Ext.trans2 (by assumption) ?_))⟩

set_option maxRecDepth 100000 in
theorem eqSegmentS_c (p q : Option Addr) (c d : Nat) (xs ys : List Sg) (w : World) (hx : SAt segF 2 w p xs) (hy : SAt segF 2 w q ys) (hl : xs.length ≤ 1048576) (hl2 : ys.length ≤ 1048576) :
    Calls Try.prog 23 #[.slice p xs.length c, .slice q ys.length d] w fun e w' => isB e (xs = ys) ∧ Ext w w' := by
  by_cases hlen : xs.length = ys.length
  · have HL := Lib.hid hlen
    have hl3 : (((xs.length : Int)) != ys.length) = false := by simp [hlen]
    clear hlen
    go_enter Try.func23, Try.ntmps23
    go_wp2
    go_loopw [5] (fun i wr => ∃ k : Nat, k ≤ xs.length ∧ i = .int .i64 k ∧ Hid (xs.take k = ys.take k) ∧ Ext w wr) (fun i _ => xs.length - (intOf i).toNat)
    case atStart => exact ⟨0, Nat.zero_le _, rfl, Lib.hid rfl, (by repeat (first | exact Ext.refl _ | assumption | refine Ext.drew ?_ | refine Ext.drewN ?_ _ | refine Ext.iter ?_ _ _ | refine Ext.alloc ?_ _ | refine Ext.setCell ?_ (by first | exact Nat.le_refl _ | (simp <;> omega)) _ | refine Ext.trans2 (by assumption) ?_))⟩
    case round =>
      obtain ⟨k, hk, rfl, HE, hext⟩ := hrel
      by_cases hlt : k < xs.length
      · have hlt2 : k < ys.length := by have := HL.out; omega
        obtain ⟨b, o, rfl, hbl, h0, h1⟩ := (hx.ext hext).two hlt (u := .int .i64 (xs[k]'hlt).1) (v := .string (xs[k]'hlt).2) rfl
        obtain ⟨b2, o2, rfl, hbl2, g0, g1⟩ := (hy.ext hext).two hlt2 (u := .int .i64 (ys[k]'hlt2).1) (v := .string (ys[k]'hlt2).2) rfl
        clear hx hy
        have HT : xs[k] = ys[k] → xs.take (k + 1) = ys.take (k + 1) := fun h => by
          rw [List.take_succ_eq_append_getElem hlt, List.take_succ_eq_append_getElem hlt2, HE.out, h]
        have HF : xs = ys → xs[k] = ys[k] := fun h => by subst h; rfl
        generalize xs[k] = x at *
        generalize ys[k] = y at *
        have HT := Lib.hid HT
        have HF := Lib.hid HF
        go_wp2
        refine wp_region_canon (fun w' => Ext wr w') [(0, true), (1, true), (2, true), (3, true), (4, true), (5, true), (6, true), (7, true), (8, false), (9, true)] (by kernel_rfl) (by kernel_rfl) (by decide) (by kernel_rfl) ?_ ?_
        · exact (by repeat (first | exact Ext.refl _ | assumption | refine Ext.drew ?_ | refine Ext.drewN ?_ _ | refine Ext.iter ?_ _ _ | refine Ext.alloc ?_ _ | refine Ext.setCell ?_ (by first | exact Nat.le_refl _ | (simp <;> omega)) _ | refine Ext.trans2 (by assumption) ?_))
        refine canon_intro fun ops eo => ?_
        have ho0 := canon_at eo 0 rfl
        have ho1 := canon_at eo 1 rfl
        have ho2 := canon_at eo 2 rfl
        have ho3 := canon_at eo 3 rfl
        have ho4 := canon_at eo 4 rfl
        have ho5 := canon_at eo 5 rfl
        have ho6 := canon_at eo 6 rfl
        have ho7 := canon_at eo 7 rfl
        have ho8 := canon_at eo 8 rfl
        have ho9 := canon_at eo 9 rfl
        clear eo
        all_goals (apply canon_st ho0 rfl; (intro w2 hS; first | (go_simp; first | done | rfl) | rfl | (obtain ⟨hc, hf, hk, hz⟩ := ecell hS; go_simp; first | done | rfl)); simp only [Act.put, List.setIfInBounds_toArray, List.set_cons_zero, List.set_cons_succ])
        all_goals clear ho0
        all_goals (apply canon_st ho1 rfl; (intro w2 hS; first | (go_simp; first | done | rfl) | rfl | (obtain ⟨hc, hf, hk, hz⟩ := ecell hS; go_simp; first | done | rfl)); simp only [Act.put, List.setIfInBounds_toArray, List.set_cons_zero, List.set_cons_succ])
        all_goals clear ho1
        all_goals (apply canon_st ho2 rfl; (intro w2 hS; first | (go_simp; first | done | rfl) | rfl | (obtain ⟨hc, hf, hk, hz⟩ := ecell hS; go_simp; first | done | rfl)); simp only [Act.put, List.setIfInBounds_toArray, List.set_cons_zero, List.set_cons_succ])
        all_goals clear ho2
        all_goals (apply canon_st ho3 rfl; (intro w2 hS; first | (go_simp; first | done | rfl) | rfl | (obtain ⟨hc, hf, hk, hz⟩ := ecell hS; go_simp; first | done | rfl)); simp only [Act.put, List.setIfInBounds_toArray, List.set_cons_zero, List.set_cons_succ])
        all_goals clear ho3
        all_goals (apply canon_st ho4 rfl; (intro w2 hS; first | (go_simp; first | done | rfl) | rfl | (obtain ⟨hc, hf, hk, hz⟩ := ecell hS; go_simp; first | done | rfl)); simp only [Act.put, List.setIfInBounds_toArray, List.set_cons_zero, List.set_cons_succ])
        all_goals clear ho4
        all_goals (apply canon_st ho5 rfl; (intro w2 hS; first | (go_simp; first | done | rfl) | rfl | (obtain ⟨hc, hf, hk, hz⟩ := ecell hS; go_simp; first | done | rfl)); simp only [Act.put, List.setIfInBounds_toArray, List.set_cons_zero, List.set_cons_succ])
        all_goals clear ho5
        all_goals (apply canon_st ho6 rfl; (intro w2 hS; first | (go_simp; first | done | rfl) | rfl | (obtain ⟨hc, hf, hk, hz⟩ := ecell hS; go_simp; first | done | rfl)); simp only [Act.put, List.setIfInBounds_toArray, List.set_cons_zero, List.set_cons_succ])
        all_goals clear ho6
        all_goals (apply canon_st ho7 rfl; (intro w2 hS; first | (go_simp; first | done | rfl) | rfl | (obtain ⟨hc, hf, hk, hz⟩ := ecell hS; go_simp; first | done | rfl)); simp only [Act.put, List.setIfInBounds_toArray, List.set_cons_zero, List.set_cons_succ])
        all_goals clear ho7
        all_goals first | (refine canon_ef ho8 rfl (fun K hK => ?_); go_simp; ((go_at_call 68; refine (eqSegment_c x y _).mono ?_; rintro e w1 ⟨⟨hP, rfl⟩ | ⟨hP, rfl⟩, hb⟩)); all_goals (refine hK _ _ ⟨(by repeat (first | exact Ext.refl _ | assumption | refine Ext.drew ?_ | refine Ext.drewN ?_ _ | refine Ext.iter ?_ _ _ | refine Ext.alloc ?_ _ | refine Ext.setCell ?_ (by first | exact Nat.le_refl _ | (simp <;> omega)) _ | refine Ext.trans2 (by assumption) ?_)), ?_⟩; clear hK K; go_simp))
        all_goals clear ho8
        all_goals (apply canon_st ho9 rfl; (intro w2 hS; first | (go_simp; first | done | rfl) | rfl | (obtain ⟨hc, hf, hk, hz⟩ := ecell hS; go_simp; first | done | rfl)); simp only [Act.put, List.setIfInBounds_toArray, List.set_cons_zero, List.set_cons_succ])
        all_goals clear ho9
        all_goals refine canon_done (NoPanic.normal ?_)
        all_goals go_wp2
        · go_roundw
          case rel => exact ⟨k + 1, hlt, by go_num, Lib.hid (HT.out hP), (by repeat (first | exact Ext.refl _ | assumption | refine Ext.drew ?_ | refine Ext.drewN ?_ _ | refine Ext.iter ?_ _ _ | refine Ext.alloc ?_ _ | refine Ext.setCell ?_ (by first | exact Nat.le_refl _ | (simp <;> omega)) _ | refine Ext.trans2 (by assumption) ?_))⟩
          case measure => simp [intOf]; omega
        · go_ret
          exact ⟨isB_f (fun h => hP (HF.out h)), (by repeat (first | exact Ext.refl _ | assumption | refine Ext.drew ?_ | refine Ext.drewN ?_ _ | refine Ext.iter ?_ _ _ | refine Ext.alloc ?_ _ | refine Ext.setCell ?_ (by first | exact Nat.le_refl _ | (simp <;> omega)) _ | refine Ext.trans2 (by assumption) ?_))⟩
      · clear hx hy
        obtain rfl : k = xs.length := by omega
        go_wp2
        go_ret
        refine ⟨isB_t ?_, (by repeat (first | exact Ext.refl _ | assumption | refine Ext.drew ?_ | refine Ext.drewN ?_ _ | refine Ext.iter ?_ _ _ | refine Ext.alloc ?_ _ | refine Ext.setCell ?_ (by first | exact Nat.le_refl _ | (simp <;> omega)) _ | refine Ext.trans2 (by assumption) ?_))⟩
        have h1 := HE.out
        have h2 := HL.out
        rwa [List.take_of_length_le (by omega), List.take_of_length_le (by omega)] at h1
  · have hl3 : (((xs.length : Int)) != ys.length) = true := by simp; omega
    clear hx hy
    have HL := Lib.hid hlen; clear hlen
    go_enter Try.func23, Try.ntmps23
    go_wp2
    go_ret
    exact ⟨isB_f (fun h => HL.out (by rw [h])), (by repeat (first | exact Ext.refl _ | assumption | refine Ext.drew ?_ | refine Ext.drewN ?_ _ | refine Ext.iter ?_ _ _ | refine Ext.alloc ?_ _ | refine Ext.setCell ?_ (by first | exact Nat.le_refl _ | (simp <;> omega)) _ | refine Ext.trans2 (by assumption) ?_))⟩
end Go.Proofs.Ytepneadbddjmjaa
