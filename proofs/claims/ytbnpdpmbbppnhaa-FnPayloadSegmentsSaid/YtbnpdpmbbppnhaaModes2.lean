
/- Contracts of chapter 9, second part: widths, whole segments. -/
import Derived.Test.YtbnpdpmbbppnhaaModes
import Derived.Test.YtbnpdpmbbppnhaaCanon
namespace Go.Proofs.Ytbnpdpmbbppnhaa
set_option linter.unusedVariables false
set_option linter.unusedSimpArgs false
open Go.RowKit

theorem listedGroup_c (cs : ByteArray) (p : Option Addr) (n c : Nat) (w : World) (hn : n ≤ 1000) :
    Calls Try.prog 274 #[.agg #[.string cs, .slice p n c]] w fun e w' => e = .returned (.int .i64 n) ∧ Ext w w' := by
  go_enter Try.func274, Try.ntmps274
  go_wp2
  go_ret
  exact ⟨rfl, (by repeat (first | exact Ext.refl _ | assumption | refine Ext.drew ?_ | refine Ext.drewN ?_ _ | refine Ext.iter ?_ _ _ | refine Ext.alloc ?_ _ | refine Ext.setCell ?_ (by first | exact Nat.le_refl _ | (simp <;> omega)) _ | refine Ext.trans2 (by assumption) ?_))⟩
theorem plainGroup_c (w : World) : Calls Try.prog 279 #[.agg #[]] w fun e w' => e = .returned (.int .i64 1) ∧ Ext w w' := by
  go_enter Try.func279, Try.ntmps279
  go_wp2
  go_ret
  exact ⟨rfl, (by repeat (first | exact Ext.refl _ | assumption | refine Ext.drew ?_ | refine Ext.drewN ?_ _ | refine Ext.iter ?_ _ _ | refine Ext.alloc ?_ _ | refine Ext.setCell ?_ (by first | exact Nat.le_refl _ | (simp <;> omega)) _ | refine Ext.trans2 (by assumption) ?_))⟩
theorem plainWidth_c (g : Int) (w : World) : Calls Try.prog 281 #[.agg #[], .int .i64 g] w fun e w' => e = .returned (.int .i64 8) ∧ Ext w w' := by
  go_enter Try.func281, Try.ntmps281
  go_wp2
  go_ret
  exact ⟨rfl, (by repeat (first | exact Ext.refl _ | assumption | refine Ext.drew ?_ | refine Ext.drewN ?_ _ | refine Ext.iter ?_ _ _ | refine Ext.alloc ?_ _ | refine Ext.setCell ?_ (by first | exact Nat.le_refl _ | (simp <;> omega)) _ | refine Ext.trans2 (by assumption) ?_))⟩
theorem listedWidth_c (cs : ByteArray) (p : Option Addr) (ws : List Int) (n c : Nat) (g : Int) (w : World) (hi : IntsAt w p ws) (hn : n = ws.length) (hl : ws.length ≤ 1000) (hg : 1 ≤ g ∧ g ≤ ws.length) :
    Calls Try.prog 276 #[.agg #[.string cs, .slice p n c], .int .i64 g] w fun e w' => e = .returned (.int .i64 (ws.getD (g - 1).toNat 0)) ∧ Ext w w' := by
  subst hn
  obtain ⟨b, o, rfl, hlt, hc⟩ := hi (g - 1).toNat (by omega)
  obtain ⟨k, hk⟩ : ∃ k : Nat, g = k + 1 := ⟨(g - 1).toNat, by omega⟩
  subst hk
  have e : ((k : Int) + 1 - 1).toNat = k := by omega
  rw [e] at hc ⊢
  clear e hi
  have hkl : k < ws.length := by omega
  go_enter Try.func276, Try.ntmps276
  go_wp2
  go_ret
  refine ⟨ret_int ?_, (by repeat (first | exact Ext.refl _ | assumption | refine Ext.drew ?_ | refine Ext.drewN ?_ _ | refine Ext.iter ?_ _ _ | refine Ext.alloc ?_ _ | refine Ext.setCell ?_ (by first | exact Nat.le_refl _ | (simp <;> omega)) _ | refine Ext.trans2 (by assumption) ?_))⟩
  simp [hkl]

def textW (m n : Int) : Int :=
  if m = 1 then n / 3 * 10 + (if n % 3 = 0 then 0 else if n % 3 = 1 then 4 else 7) else if m = 2 then n / 2 * 11 + (if n % 2 = 0 then 0 else 6) else if m = 3 then n * 5 else n * 8

theorem iTextWidth4_c (m n : Int) (w : World) (hm : ¬ (1 ≤ m ∧ m ≤ 3)) (hn : 0 ≤ n ∧ n ≤ 1000000) :
    Calls Try.prog 207 #[.iface 255 (.agg #[]), .int .i64 n] w fun e w' => e = .returned (.int .i64 (n * 8)) ∧ Ext w w' := by
  have h1 : IntKind.i64.wrap n = n := IntWalk.i64_in _ (by omega)
  have h2 : IntKind.i64.wrap (n * 8) = n * 8 := IntWalk.i64_in _ (by omega)
  have hna : ∀  w, (nilAhead 379 255 (.agg #[]) (nthInv Try.f207 2)).run Try.prog w = .ok (some false) w := fun  w => by kernel_rfl
  conv at hna => intro  w; lhs; arg 2; arg 4; whnf
  have hme : ∀  w, (method 379 255 (.agg #[]) (nthInv Try.f207 2)).run Try.prog w = .ok (281, (.agg #[])) w := fun  w => by kernel_rfl
  conv at hme => intro  w; lhs; arg 2; arg 4; whnf
  go_enter Try.func207, Try.ntmps207
  go_wp2
  refine wp_region_canon (fun w' => Ext w w') [(0, true), (1, true), (4, true), (5, true), (7, true), (8, true), (9, true), (2, false), (3, true), (6, false), (10, false), (11, true), (12, true)] (by kernel_rfl) (by kernel_rfl) (by decide) (by kernel_rfl) ?_ ?_
  · exact (by repeat (first | exact Ext.refl _ | assumption | refine Ext.drew ?_ | refine Ext.drewN ?_ _ | refine Ext.iter ?_ _ _ | refine Ext.alloc ?_ _ | refine Ext.setCell ?_ (by first | exact Nat.le_refl _ | (simp <;> omega)) _ | refine Ext.trans2 (by assumption) ?_))
  refine canon_intro fun ops eo => ?_
  have ho0 := canon_at eo 0 rfl
  have ho1 := canon_at eo 1 rfl
  have ho2 := canon_at eo 2 rfl
  have ho3 := canon_at eo 3 rfl
  have ho4 := canon_at eo 4 rfl
  have ho5 := canon_at eo 5 rfl
  have ho6 := canon_at eo 6 rfl
  have ho7 := canon_at eo 7 rfl
  have ho8 := canon_at eo 8 rfl
  have ho9 := canon_at eo 9 rfl
  have ho10 := canon_at eo 10 rfl
  have ho11 := canon_at eo 11 rfl
  have ho12 := canon_at eo 12 rfl
  clear eo
  all_goals (apply canon_st ho0 rfl; (intro w2 hS; first | (go_simp; first | done | rfl) | rfl | (obtain ⟨hc, hf, hk, hz⟩ := ecell hS; go_simp; first | done | rfl)); simp only [Act.put, List.setIfInBounds_toArray, List.set_cons_zero, List.set_cons_succ])
  all_goals clear ho0
  all_goals (apply canon_st ho1 rfl; (intro w2 hS; first | (go_simp; first | done | rfl) | rfl | (obtain ⟨hc, hf, hk, hz⟩ := ecell hS; go_simp; first | done | rfl)); simp only [Act.put, List.setIfInBounds_toArray, List.set_cons_zero, List.set_cons_succ])
  all_goals clear ho1
  all_goals (apply canon_st ho4 rfl; (intro w2 hS; first | (go_simp; first | done | rfl) | rfl | (obtain ⟨hc, hf, hk, hz⟩ := ecell hS; go_simp; first | done | rfl)); simp only [Act.put, List.setIfInBounds_toArray, List.set_cons_zero, List.set_cons_succ])
  all_goals clear ho4
  all_goals (apply canon_st ho5 rfl; (intro w2 hS; first | (go_simp; first | done | rfl) | rfl | (obtain ⟨hc, hf, hk, hz⟩ := ecell hS; go_simp; first | done | rfl)); simp only [Act.put, List.setIfInBounds_toArray, List.set_cons_zero, List.set_cons_succ])
  all_goals clear ho5
  all_goals (apply canon_st ho7 rfl; (intro w2 hS; first | (go_simp; first | done | rfl) | rfl | (obtain ⟨hc, hf, hk, hz⟩ := ecell hS; go_simp; first | done | rfl)); simp only [Act.put, List.setIfInBounds_toArray, List.set_cons_zero, List.set_cons_succ])
  all_goals clear ho7
  all_goals (apply canon_st ho8 rfl; (intro w2 hS; first | (go_simp; first | done | rfl) | rfl | (obtain ⟨hc, hf, hk, hz⟩ := ecell hS; go_simp; first | done | rfl)); simp only [Act.put, List.setIfInBounds_toArray, List.set_cons_zero, List.set_cons_succ])
  all_goals clear ho8
  all_goals (apply canon_st ho9 rfl; (intro w2 hS; first | (go_simp; first | done | rfl) | rfl | (obtain ⟨hc, hf, hk, hz⟩ := ecell hS; go_simp; first | done | rfl)); simp only [Act.put, List.setIfInBounds_toArray, List.set_cons_zero, List.set_cons_succ])
  all_goals clear ho9
  all_goals first | (refine canon_inv ho2 (nthInv Try.f207 0) rfl 255 279 Try.func279 ⟨_, rfl, (by kernel_rfl), (by kernel_rfl), (by kernel_rfl), ?_⟩; simp only [List.map_toArray, List.map_cons, List.map_nil, List.append_toArray, List.cons_append, List.nil_append, Act.eval]; go_simp; (with_reducible refine (plainGroup_c _).mono ?_); rintro e w1 ⟨rfl, hb⟩; (obtain ⟨hc, hf, hk, hz⟩ := ecell hb; try (have hx := Ext.trans2 hb (by assumption); obtain ⟨hcx, hfx, hkx, hzx⟩ := ecell hx)); (try simp at hz); (refine ⟨(by repeat (first | exact Ext.refl _ | assumption | refine Ext.drew ?_ | refine Ext.drewN ?_ _ | refine Ext.iter ?_ _ _ | refine Ext.alloc ?_ _ | refine Ext.setCell ?_ (by first | exact Nat.le_refl _ | (simp <;> omega)) _ | refine Ext.trans2 (by assumption) ?_)), ?_⟩; go_simp)) | (refine canon_inv ho2 (nthInv Try.f207 2) rfl 255 281 Try.func281 ⟨_, rfl, (by kernel_rfl), (by kernel_rfl), (by kernel_rfl), ?_⟩; simp only [List.map_toArray, List.map_cons, List.map_nil, List.append_toArray, List.cons_append, List.nil_append, Act.eval]; go_simp; (with_reducible refine (plainWidth_c _ _).mono ?_); rintro e w1 ⟨rfl, hb⟩; (obtain ⟨hc, hf, hk, hz⟩ := ecell hb; try (have hx := Ext.trans2 hb (by assumption); obtain ⟨hcx, hfx, hkx, hzx⟩ := ecell hx)); (try simp at hz); (refine ⟨(by repeat (first | exact Ext.refl _ | assumption | refine Ext.drew ?_ | refine Ext.drewN ?_ _ | refine Ext.iter ?_ _ _ | refine Ext.alloc ?_ _ | refine Ext.setCell ?_ (by first | exact Nat.le_refl _ | (simp <;> omega)) _ | refine Ext.trans2 (by assumption) ?_)), ?_⟩; go_simp))
  all_goals clear ho2
  all_goals (apply canon_st ho3 rfl; (intro w2 hS; first | (go_simp; first | done | rfl) | rfl | (obtain ⟨hc, hf, hk, hz⟩ := ecell hS; go_simp; first | done | rfl)); simp only [Act.put, List.setIfInBounds_toArray, List.set_cons_zero, List.set_cons_succ])
  all_goals clear ho3
  all_goals first | (refine canon_inv ho6 (nthInv Try.f207 0) rfl 255 279 Try.func279 ⟨_, rfl, (by kernel_rfl), (by kernel_rfl), (by kernel_rfl), ?_⟩; simp only [List.map_toArray, List.map_cons, List.map_nil, List.append_toArray, List.cons_append, List.nil_append, Act.eval]; go_simp; (with_reducible refine (plainGroup_c _).mono ?_); rintro e w1 ⟨rfl, hb⟩; (obtain ⟨hc, hf, hk, hz⟩ := ecell hb; try (have hx := Ext.trans2 hb (by assumption); obtain ⟨hcx, hfx, hkx, hzx⟩ := ecell hx)); (try simp at hz); (refine ⟨(by repeat (first | exact Ext.refl _ | assumption | refine Ext.drew ?_ | refine Ext.drewN ?_ _ | refine Ext.iter ?_ _ _ | refine Ext.alloc ?_ _ | refine Ext.setCell ?_ (by first | exact Nat.le_refl _ | (simp <;> omega)) _ | refine Ext.trans2 (by assumption) ?_)), ?_⟩; go_simp)) | (refine canon_inv ho6 (nthInv Try.f207 2) rfl 255 281 Try.func281 ⟨_, rfl, (by kernel_rfl), (by kernel_rfl), (by kernel_rfl), ?_⟩; simp only [List.map_toArray, List.map_cons, List.map_nil, List.append_toArray, List.cons_append, List.nil_append, Act.eval]; go_simp; (with_reducible refine (plainWidth_c _ _).mono ?_); rintro e w1 ⟨rfl, hb⟩; (obtain ⟨hc, hf, hk, hz⟩ := ecell hb; try (have hx := Ext.trans2 hb (by assumption); obtain ⟨hcx, hfx, hkx, hzx⟩ := ecell hx)); (try simp at hz); (refine ⟨(by repeat (first | exact Ext.refl _ | assumption | refine Ext.drew ?_ | refine Ext.drewN ?_ _ | refine Ext.iter ?_ _ _ | refine Ext.alloc ?_ _ | refine Ext.setCell ?_ (by first | exact Nat.le_refl _ | (simp <;> omega)) _ | refine Ext.trans2 (by assumption) ?_)), ?_⟩; go_simp))
  all_goals clear ho6
  all_goals first | (refine canon_inv ho10 (nthInv Try.f207 0) rfl 255 279 Try.func279 ⟨_, rfl, (by kernel_rfl), (by kernel_rfl), (by kernel_rfl), ?_⟩; simp only [List.map_toArray, List.map_cons, List.map_nil, List.append_toArray, List.cons_append, List.nil_append, Act.eval]; go_simp; (with_reducible refine (plainGroup_c _).mono ?_); rintro e w1 ⟨rfl, hb⟩; (obtain ⟨hc, hf, hk, hz⟩ := ecell hb; try (have hx := Ext.trans2 hb (by assumption); obtain ⟨hcx, hfx, hkx, hzx⟩ := ecell hx)); (try simp at hz); (refine ⟨(by repeat (first | exact Ext.refl _ | assumption | refine Ext.drew ?_ | refine Ext.drewN ?_ _ | refine Ext.iter ?_ _ _ | refine Ext.alloc ?_ _ | refine Ext.setCell ?_ (by first | exact Nat.le_refl _ | (simp <;> omega)) _ | refine Ext.trans2 (by assumption) ?_)), ?_⟩; go_simp)) | (refine canon_inv ho10 (nthInv Try.f207 2) rfl 255 281 Try.func281 ⟨_, rfl, (by kernel_rfl), (by kernel_rfl), (by kernel_rfl), ?_⟩; simp only [List.map_toArray, List.map_cons, List.map_nil, List.append_toArray, List.cons_append, List.nil_append, Act.eval]; go_simp; (with_reducible refine (plainWidth_c _ _).mono ?_); rintro e w1 ⟨rfl, hb⟩; (obtain ⟨hc, hf, hk, hz⟩ := ecell hb; try (have hx := Ext.trans2 hb (by assumption); obtain ⟨hcx, hfx, hkx, hzx⟩ := ecell hx)); (try simp at hz); (refine ⟨(by repeat (first | exact Ext.refl _ | assumption | refine Ext.drew ?_ | refine Ext.drewN ?_ _ | refine Ext.iter ?_ _ _ | refine Ext.alloc ?_ _ | refine Ext.setCell ?_ (by first | exact Nat.le_refl _ | (simp <;> omega)) _ | refine Ext.trans2 (by assumption) ?_)), ?_⟩; go_simp))
  all_goals clear ho10
  all_goals (apply canon_st ho11 rfl; (intro w2 hS; first | (go_simp; first | done | rfl) | rfl | (obtain ⟨hc, hf, hk, hz⟩ := ecell hS; go_simp; first | done | rfl)); simp only [Act.put, List.setIfInBounds_toArray, List.set_cons_zero, List.set_cons_succ])
  all_goals clear ho11
  all_goals (apply canon_st ho12 rfl; (intro w2 hS; first | (go_simp; first | done | rfl) | rfl | (obtain ⟨hc, hf, hk, hz⟩ := ecell hS; go_simp; first | done | rfl)); simp only [Act.put, List.setIfInBounds_toArray, List.set_cons_zero, List.set_cons_succ])
  all_goals clear ho12
  all_goals refine canon_done (NoPanic.normal ?_)
  clear h1 h2
  go_wp2_with (first | ((with_reducible refine wpList_invoke_of (nthInv Try.f207 0) ?_ 255 279 Try.func279 ?_); rfl; refine ⟨_, rfl, (by kernel_rfl), (by kernel_rfl), (by kernel_rfl), ?_⟩; simp only [List.map_toArray, List.map_cons, List.map_nil, List.append_toArray, List.cons_append, List.nil_append, Act.eval]; go_simp) | ((with_reducible refine wpList_invoke_of (nthInv Try.f207 2) ?_ 255 281 Try.func281 ?_); rfl; refine ⟨_, rfl, (by kernel_rfl), (by kernel_rfl), (by kernel_rfl), ?_⟩; simp only [List.map_toArray, List.map_cons, List.map_nil, List.append_toArray, List.cons_append, List.nil_append, Act.eval]; go_simp) | (go_at_call 279; (with_reducible refine (plainGroup_c _).mono ?_); rintro e w1 ⟨rfl, hb⟩; (obtain ⟨hc, hf, hk, hz⟩ := ecell hb; try (have hx := Ext.trans2 hb (by assumption); obtain ⟨hcx, hfx, hkx, hzx⟩ := ecell hx)); try simp at hz) | (go_at_call 281; (with_reducible refine (plainWidth_c _ _).mono ?_); rintro e w1 ⟨rfl, hb⟩; (obtain ⟨hc, hf, hk, hz⟩ := ecell hb; try (have hx := Ext.trans2 hb (by assumption); obtain ⟨hcx, hfx, hkx, hzx⟩ := ecell hx)); try simp at hz))
  go_ret
  exact ⟨rfl, (by repeat (first | exact Ext.refl _ | assumption | refine Ext.drew ?_ | refine Ext.drewN ?_ _ | refine Ext.iter ?_ _ _ | refine Ext.alloc ?_ _ | refine Ext.setCell ?_ (by first | exact Nat.le_refl _ | (simp <;> omega)) _ | refine Ext.trans2 (by assumption) ?_))⟩

theorem iTextWidth1_c (n : Int) (cs : ByteArray) (p : Option Addr) (w : World) (hi : IntsAt w p [4, 7, 10]) (hn : 0 ≤ n ∧ n ≤ 1000000) :
    Calls Try.prog 207 #[.iface 253 (.agg #[.string cs, .slice p 3 3]), .int .i64 n] w fun e w' => e = .returned (.int .i64 (textW 1 n)) ∧ Ext w w' := by
  have h1 : IntKind.i64.wrap (n.tdiv 3) = n / 3 := by rw [Int.tdiv_eq_ediv_of_nonneg (by omega)]; exact IntWalk.i64_in _ (by omega)
  have h2 : IntKind.i64.wrap (n / 3 * 10) = n / 3 * 10 := IntWalk.i64_in _ (by omega)
  have hv : ∀ g : Int, 1 ≤ g ∧ g ≤ 3 → 0 ≤ ([4, 7, 10] : List Int).getD (g - 1).toNat 0 ∧ ([4, 7, 10] : List Int).getD (g - 1).toNat 0 ≤ 20 := by
    intro g hg
    obtain ⟨k, hk⟩ : ∃ k : Nat, (g - 1).toNat = k := ⟨_, rfl⟩
    have : k < 3 := by omega
    rw [hk]
    match k, this with
    | 0, _ => decide
    | 1, _ => decide
    | 2, _ => decide
  have hna : ∀  w, (nilAhead 379 253 (.agg #[.string cs, .slice p 3 3]) (nthInv Try.f207 2)).run Try.prog w = .ok (some false) w := fun  w => by kernel_rfl
  conv at hna => intro  w; lhs; arg 2; arg 4; whnf
  have hme : ∀  w, (method 379 253 (.agg #[.string cs, .slice p 3 3]) (nthInv Try.f207 2)).run Try.prog w = .ok (276, (.agg #[.string cs, .slice p 3 3])) w := fun  w => by kernel_rfl
  conv at hme => intro  w; lhs; arg 2; arg 4; whnf
  go_enter Try.func207, Try.ntmps207
  go_wp2
  refine wp_region_canon (fun w' => Ext w w') [(0, true), (1, true), (4, true), (5, true), (7, true), (8, true), (9, true), (2, false), (3, true), (6, false), (10, false), (11, true), (12, true)] (by kernel_rfl) (by kernel_rfl) (by decide) (by kernel_rfl) ?_ ?_
  · exact (by repeat (first | exact Ext.refl _ | assumption | refine Ext.drew ?_ | refine Ext.drewN ?_ _ | refine Ext.iter ?_ _ _ | refine Ext.alloc ?_ _ | refine Ext.setCell ?_ (by first | exact Nat.le_refl _ | (simp <;> omega)) _ | refine Ext.trans2 (by assumption) ?_))
  refine canon_intro fun ops eo => ?_
  have ho0 := canon_at eo 0 rfl
  have ho1 := canon_at eo 1 rfl
  have ho2 := canon_at eo 2 rfl
  have ho3 := canon_at eo 3 rfl
  have ho4 := canon_at eo 4 rfl
  have ho5 := canon_at eo 5 rfl
  have ho6 := canon_at eo 6 rfl
  have ho7 := canon_at eo 7 rfl
  have ho8 := canon_at eo 8 rfl
  have ho9 := canon_at eo 9 rfl
  have ho10 := canon_at eo 10 rfl
  have ho11 := canon_at eo 11 rfl
  have ho12 := canon_at eo 12 rfl
  clear eo
  all_goals (apply canon_st ho0 rfl; (intro w2 hS; first | (go_simp; first | done | rfl) | rfl | (obtain ⟨hc, hf, hk, hz⟩ := ecell hS; go_simp; first | done | rfl)); simp only [Act.put, List.setIfInBounds_toArray, List.set_cons_zero, List.set_cons_succ])
  all_goals clear ho0
  all_goals (apply canon_st ho1 rfl; (intro w2 hS; first | (go_simp; first | done | rfl) | rfl | (obtain ⟨hc, hf, hk, hz⟩ := ecell hS; go_simp; first | done | rfl)); simp only [Act.put, List.setIfInBounds_toArray, List.set_cons_zero, List.set_cons_succ])
  all_goals clear ho1
  all_goals (apply canon_st ho4 rfl; (intro w2 hS; first | (go_simp; first | done | rfl) | rfl | (obtain ⟨hc, hf, hk, hz⟩ := ecell hS; go_simp; first | done | rfl)); simp only [Act.put, List.setIfInBounds_toArray, List.set_cons_zero, List.set_cons_succ])
  all_goals clear ho4
  all_goals (apply canon_st ho5 rfl; (intro w2 hS; first | (go_simp; first | done | rfl) | rfl | (obtain ⟨hc, hf, hk, hz⟩ := ecell hS; go_simp; first | done | rfl)); simp only [Act.put, List.setIfInBounds_toArray, List.set_cons_zero, List.set_cons_succ])
  all_goals clear ho5
  all_goals (apply canon_st ho7 rfl; (intro w2 hS; first | (go_simp; first | done | rfl) | rfl | (obtain ⟨hc, hf, hk, hz⟩ := ecell hS; go_simp; first | done | rfl)); simp only [Act.put, List.setIfInBounds_toArray, List.set_cons_zero, List.set_cons_succ])
  all_goals clear ho7
  all_goals (apply canon_st ho8 rfl; (intro w2 hS; first | (go_simp; first | done | rfl) | rfl | (obtain ⟨hc, hf, hk, hz⟩ := ecell hS; go_simp; first | done | rfl)); simp only [Act.put, List.setIfInBounds_toArray, List.set_cons_zero, List.set_cons_succ])
  all_goals clear ho8
  all_goals (apply canon_st ho9 rfl; (intro w2 hS; first | (go_simp; first | done | rfl) | rfl | (obtain ⟨hc, hf, hk, hz⟩ := ecell hS; go_simp; first | done | rfl)); simp only [Act.put, List.setIfInBounds_toArray, List.set_cons_zero, List.set_cons_succ])
  all_goals clear ho9
  all_goals first | (refine canon_inv ho2 (nthInv Try.f207 0) rfl 253 274 Try.func274 ⟨_, rfl, (by kernel_rfl), (by kernel_rfl), (by kernel_rfl), ?_⟩; simp only [List.map_toArray, List.map_cons, List.map_nil, List.append_toArray, List.cons_append, List.nil_append, Act.eval]; go_simp; (with_reducible refine (listedGroup_c _ _ _ _ _ (by omega)).mono ?_); rintro e w1 ⟨rfl, hb⟩; (obtain ⟨hc, hf, hk, hz⟩ := ecell hb; try (have hx := Ext.trans2 hb (by assumption); obtain ⟨hcx, hfx, hkx, hzx⟩ := ecell hx)); (try simp at hz); (refine ⟨(by repeat (first | exact Ext.refl _ | assumption | refine Ext.drew ?_ | refine Ext.drewN ?_ _ | refine Ext.iter ?_ _ _ | refine Ext.alloc ?_ _ | refine Ext.setCell ?_ (by first | exact Nat.le_refl _ | (simp <;> omega)) _ | refine Ext.trans2 (by assumption) ?_)), ?_⟩; go_simp)) | (refine canon_inv ho2 (nthInv Try.f207 2) rfl 253 276 Try.func276 ⟨_, rfl, (by kernel_rfl), (by kernel_rfl), (by kernel_rfl), ?_⟩; simp only [List.map_toArray, List.map_cons, List.map_nil, List.append_toArray, List.cons_append, List.nil_append, Act.eval]; go_simp; (with_reducible refine (listedWidth_c _ _ [4, 7, 10] 3 3 3 _ (hi.ext (by repeat (first | exact Ext.refl _ | assumption | refine Ext.drew ?_ | refine Ext.drewN ?_ _ | refine Ext.iter ?_ _ _ | refine Ext.alloc ?_ _ | refine Ext.setCell ?_ (by first | exact Nat.le_refl _ | (simp <;> omega)) _ | refine Ext.trans2 (by assumption) ?_))) rfl (by decide) (by decide)).mono ?_); rintro e w1 ⟨rfl, hb⟩; (obtain ⟨hc, hf, hk, hz⟩ := ecell hb; try (have hx := Ext.trans2 hb (by assumption); obtain ⟨hcx, hfx, hkx, hzx⟩ := ecell hx)); (try simp at hz); (refine ⟨(by repeat (first | exact Ext.refl _ | assumption | refine Ext.drew ?_ | refine Ext.drewN ?_ _ | refine Ext.iter ?_ _ _ | refine Ext.alloc ?_ _ | refine Ext.setCell ?_ (by first | exact Nat.le_refl _ | (simp <;> omega)) _ | refine Ext.trans2 (by assumption) ?_)), ?_⟩; go_simp))
  all_goals clear ho2
  all_goals (apply canon_st ho3 rfl; (intro w2 hS; first | (go_simp; first | done | rfl) | rfl | (obtain ⟨hc, hf, hk, hz⟩ := ecell hS; go_simp; first | done | rfl)); simp only [Act.put, List.setIfInBounds_toArray, List.set_cons_zero, List.set_cons_succ])
  all_goals clear ho3
  all_goals first | (refine canon_inv ho6 (nthInv Try.f207 0) rfl 253 274 Try.func274 ⟨_, rfl, (by kernel_rfl), (by kernel_rfl), (by kernel_rfl), ?_⟩; simp only [List.map_toArray, List.map_cons, List.map_nil, List.append_toArray, List.cons_append, List.nil_append, Act.eval]; go_simp; (with_reducible refine (listedGroup_c _ _ _ _ _ (by omega)).mono ?_); rintro e w1 ⟨rfl, hb⟩; (obtain ⟨hc, hf, hk, hz⟩ := ecell hb; try (have hx := Ext.trans2 hb (by assumption); obtain ⟨hcx, hfx, hkx, hzx⟩ := ecell hx)); (try simp at hz); (refine ⟨(by repeat (first | exact Ext.refl _ | assumption | refine Ext.drew ?_ | refine Ext.drewN ?_ _ | refine Ext.iter ?_ _ _ | refine Ext.alloc ?_ _ | refine Ext.setCell ?_ (by first | exact Nat.le_refl _ | (simp <;> omega)) _ | refine Ext.trans2 (by assumption) ?_)), ?_⟩; go_simp)) | (refine canon_inv ho6 (nthInv Try.f207 2) rfl 253 276 Try.func276 ⟨_, rfl, (by kernel_rfl), (by kernel_rfl), (by kernel_rfl), ?_⟩; simp only [List.map_toArray, List.map_cons, List.map_nil, List.append_toArray, List.cons_append, List.nil_append, Act.eval]; go_simp; (with_reducible refine (listedWidth_c _ _ [4, 7, 10] 3 3 3 _ (hi.ext (by repeat (first | exact Ext.refl _ | assumption | refine Ext.drew ?_ | refine Ext.drewN ?_ _ | refine Ext.iter ?_ _ _ | refine Ext.alloc ?_ _ | refine Ext.setCell ?_ (by first | exact Nat.le_refl _ | (simp <;> omega)) _ | refine Ext.trans2 (by assumption) ?_))) rfl (by decide) (by decide)).mono ?_); rintro e w1 ⟨rfl, hb⟩; (obtain ⟨hc, hf, hk, hz⟩ := ecell hb; try (have hx := Ext.trans2 hb (by assumption); obtain ⟨hcx, hfx, hkx, hzx⟩ := ecell hx)); (try simp at hz); (refine ⟨(by repeat (first | exact Ext.refl _ | assumption | refine Ext.drew ?_ | refine Ext.drewN ?_ _ | refine Ext.iter ?_ _ _ | refine Ext.alloc ?_ _ | refine Ext.setCell ?_ (by first | exact Nat.le_refl _ | (simp <;> omega)) _ | refine Ext.trans2 (by assumption) ?_)), ?_⟩; go_simp))
  all_goals clear ho6
  all_goals first | (refine canon_inv ho10 (nthInv Try.f207 0) rfl 253 274 Try.func274 ⟨_, rfl, (by kernel_rfl), (by kernel_rfl), (by kernel_rfl), ?_⟩; simp only [List.map_toArray, List.map_cons, List.map_nil, List.append_toArray, List.cons_append, List.nil_append, Act.eval]; go_simp; (with_reducible refine (listedGroup_c _ _ _ _ _ (by omega)).mono ?_); rintro e w1 ⟨rfl, hb⟩; (obtain ⟨hc, hf, hk, hz⟩ := ecell hb; try (have hx := Ext.trans2 hb (by assumption); obtain ⟨hcx, hfx, hkx, hzx⟩ := ecell hx)); (try simp at hz); (refine ⟨(by repeat (first | exact Ext.refl _ | assumption | refine Ext.drew ?_ | refine Ext.drewN ?_ _ | refine Ext.iter ?_ _ _ | refine Ext.alloc ?_ _ | refine Ext.setCell ?_ (by first | exact Nat.le_refl _ | (simp <;> omega)) _ | refine Ext.trans2 (by assumption) ?_)), ?_⟩; go_simp)) | (refine canon_inv ho10 (nthInv Try.f207 2) rfl 253 276 Try.func276 ⟨_, rfl, (by kernel_rfl), (by kernel_rfl), (by kernel_rfl), ?_⟩; simp only [List.map_toArray, List.map_cons, List.map_nil, List.append_toArray, List.cons_append, List.nil_append, Act.eval]; go_simp; (with_reducible refine (listedWidth_c _ _ [4, 7, 10] 3 3 3 _ (hi.ext (by repeat (first | exact Ext.refl _ | assumption | refine Ext.drew ?_ | refine Ext.drewN ?_ _ | refine Ext.iter ?_ _ _ | refine Ext.alloc ?_ _ | refine Ext.setCell ?_ (by first | exact Nat.le_refl _ | (simp <;> omega)) _ | refine Ext.trans2 (by assumption) ?_))) rfl (by decide) (by decide)).mono ?_); rintro e w1 ⟨rfl, hb⟩; (obtain ⟨hc, hf, hk, hz⟩ := ecell hb; try (have hx := Ext.trans2 hb (by assumption); obtain ⟨hcx, hfx, hkx, hzx⟩ := ecell hx)); (try simp at hz); (refine ⟨(by repeat (first | exact Ext.refl _ | assumption | refine Ext.drew ?_ | refine Ext.drewN ?_ _ | refine Ext.iter ?_ _ _ | refine Ext.alloc ?_ _ | refine Ext.setCell ?_ (by first | exact Nat.le_refl _ | (simp <;> omega)) _ | refine Ext.trans2 (by assumption) ?_)), ?_⟩; go_simp))
  all_goals clear ho10
  all_goals (apply canon_st ho11 rfl; (intro w2 hS; first | (go_simp; first | done | rfl) | rfl | (obtain ⟨hc, hf, hk, hz⟩ := ecell hS; go_simp; first | done | rfl)); simp only [Act.put, List.setIfInBounds_toArray, List.set_cons_zero, List.set_cons_succ])
  all_goals clear ho11
  all_goals (apply canon_st ho12 rfl; (intro w2 hS; first | (go_simp; first | done | rfl) | rfl | (obtain ⟨hc, hf, hk, hz⟩ := ecell hS; go_simp; first | done | rfl)); simp only [Act.put, List.setIfInBounds_toArray, List.set_cons_zero, List.set_cons_succ])
  all_goals clear ho12
  all_goals refine canon_done (NoPanic.normal ?_)
  all_goals clear h1 h2
  all_goals have HV := Lib.hid hv; clear hv
  all_goals go_wp2_with (first | ((with_reducible refine wpList_invoke_of (nthInv Try.f207 0) ?_ 253 274 Try.func274 ?_); rfl; refine ⟨_, rfl, (by kernel_rfl), (by kernel_rfl), (by kernel_rfl), ?_⟩; simp only [List.map_toArray, List.map_cons, List.map_nil, List.append_toArray, List.cons_append, List.nil_append, Act.eval]; go_simp) | (go_at_call 274; (with_reducible refine (listedGroup_c _ _ _ _ _ (by omega)).mono ?_); rintro e w1 ⟨rfl, hb⟩; (obtain ⟨hc, hf, hk, hz⟩ := ecell hb; try (have hx := Ext.trans2 hb (by assumption); obtain ⟨hcx, hfx, hkx, hzx⟩ := ecell hx)); try simp at hz) | ((with_reducible refine wpList_invoke_of (nthInv Try.f207 2) ?_ 253 276 Try.func276 ?_); rfl; refine ⟨_, rfl, (by kernel_rfl), (by kernel_rfl), (by kernel_rfl), ?_⟩; simp only [List.map_toArray, List.map_cons, List.map_nil, List.append_toArray, List.cons_append, List.nil_append, Act.eval]; go_simp) | (go_at_call 276; have hb1 := HV.out (n % 3) (by omega); refine (listedWidth_c _ _ [4, 7, 10] 3 3 (n % 3) _ (hi.ext (by repeat (first | exact Ext.refl _ | assumption | refine Ext.drew ?_ | refine Ext.drewN ?_ _ | refine Ext.iter ?_ _ _ | refine Ext.alloc ?_ _ | refine Ext.setCell ?_ (by first | exact Nat.le_refl _ | (simp <;> omega)) _ | refine Ext.trans2 (by assumption) ?_))) rfl (by decide) (by simp; omega)).mono ?_; rintro e w1 ⟨rfl, hb⟩))
  all_goals go_ret
  all_goals refine ⟨ret_int ?_, (by repeat (first | exact Ext.refl _ | assumption | refine Ext.drew ?_ | refine Ext.drewN ?_ _ | refine Ext.iter ?_ _ _ | refine Ext.alloc ?_ _ | refine Ext.setCell ?_ (by first | exact Nat.le_refl _ | (simp <;> omega)) _ | refine Ext.trans2 (by assumption) ?_))⟩
  all_goals simp only [textW]
  all_goals first
    | (have h0 : n % 3 = 0 := by omega
       simp [h0]; done)
    | (have h0 : n % 3 = 0 := by omega
       simp [h0] <;> omega)
    | (have h3 : n % 3 = 1 ∨ n % 3 = 2 := by omega
       rcases h3 with h3 | h3 <;> first | (exfalso; omega) | (simp [h3]; rw [IntWalk.wrap64_in _ ⟨by omega, by omega⟩]))

theorem iTextWidth2_c (n : Int) (cs : ByteArray) (p : Option Addr) (w : World) (hi : IntsAt w p [6, 11]) (hn : 0 ≤ n ∧ n ≤ 1000000) :
    Calls Try.prog 207 #[.iface 253 (.agg #[.string cs, .slice p 2 2]), .int .i64 n] w fun e w' => e = .returned (.int .i64 (textW 2 n)) ∧ Ext w w' := by
  have h1 : IntKind.i64.wrap (n.tdiv 2) = n / 2 := by rw [Int.tdiv_eq_ediv_of_nonneg (by omega)]; exact IntWalk.i64_in _ (by omega)
  have h2 : IntKind.i64.wrap (n / 2 * 11) = n / 2 * 11 := IntWalk.i64_in _ (by omega)
  have hv : ∀ g : Int, 1 ≤ g ∧ g ≤ 2 → 0 ≤ ([6, 11] : List Int).getD (g - 1).toNat 0 ∧ ([6, 11] : List Int).getD (g - 1).toNat 0 ≤ 20 := by
    intro g hg
    obtain ⟨k, hk⟩ : ∃ k : Nat, (g - 1).toNat = k := ⟨_, rfl⟩
    have : k < 2 := by omega
    rw [hk]
    match k, this with
    | 0, _ => decide
    | 1, _ => decide
  have hna : ∀  w, (nilAhead 379 253 (.agg #[.string cs, .slice p 2 2]) (nthInv Try.f207 2)).run Try.prog w = .ok (some false) w := fun  w => by kernel_rfl
  conv at hna => intro  w; lhs; arg 2; arg 4; whnf
  have hme : ∀  w, (method 379 253 (.agg #[.string cs, .slice p 2 2]) (nthInv Try.f207 2)).run Try.prog w = .ok (276, (.agg #[.string cs, .slice p 2 2])) w := fun  w => by kernel_rfl
  conv at hme => intro  w; lhs; arg 2; arg 4; whnf
  go_enter Try.func207, Try.ntmps207
  go_wp2
  refine wp_region_canon (fun w' => Ext w w') [(0, true), (1, true), (4, true), (5, true), (7, true), (8, true), (9, true), (2, false), (3, true), (6, false), (10, false), (11, true), (12, true)] (by kernel_rfl) (by kernel_rfl) (by decide) (by kernel_rfl) ?_ ?_
  · exact (by repeat (first | exact Ext.refl _ | assumption | refine Ext.drew ?_ | refine Ext.drewN ?_ _ | refine Ext.iter ?_ _ _ | refine Ext.alloc ?_ _ | refine Ext.setCell ?_ (by first | exact Nat.le_refl _ | (simp <;> omega)) _ | refine Ext.trans2 (by assumption) ?_))
  refine canon_intro fun ops eo => ?_
  have ho0 := canon_at eo 0 rfl
  have ho1 := canon_at eo 1 rfl
  have ho2 := canon_at eo 2 rfl
  have ho3 := canon_at eo 3 rfl
  have ho4 := canon_at eo 4 rfl
  have ho5 := canon_at eo 5 rfl
  have ho6 := canon_at eo 6 rfl
  have ho7 := canon_at eo 7 rfl
  have ho8 := canon_at eo 8 rfl
  have ho9 := canon_at eo 9 rfl
  have ho10 := canon_at eo 10 rfl
  have ho11 := canon_at eo 11 rfl
  have ho12 := canon_at eo 12 rfl
  clear eo
  all_goals (apply canon_st ho0 rfl; (intro w2 hS; first | (go_simp; first | done | rfl) | rfl | (obtain ⟨hc, hf, hk, hz⟩ := ecell hS; go_simp; first | done | rfl)); simp only [Act.put, List.setIfInBounds_toArray, List.set_cons_zero, List.set_cons_succ])
  all_goals clear ho0
  all_goals (apply canon_st ho1 rfl; (intro w2 hS; first | (go_simp; first | done | rfl) | rfl | (obtain ⟨hc, hf, hk, hz⟩ := ecell hS; go_simp; first | done | rfl)); simp only [Act.put, List.setIfInBounds_toArray, List.set_cons_zero, List.set_cons_succ])
  all_goals clear ho1
  all_goals (apply canon_st ho4 rfl; (intro w2 hS; first | (go_simp; first | done | rfl) | rfl | (obtain ⟨hc, hf, hk, hz⟩ := ecell hS; go_simp; first | done | rfl)); simp only [Act.put, List.setIfInBounds_toArray, List.set_cons_zero, List.set_cons_succ])
  all_goals clear ho4
  all_goals (apply canon_st ho5 rfl; (intro w2 hS; first | (go_simp; first | done | rfl) | rfl | (obtain ⟨hc, hf, hk, hz⟩ := ecell hS; go_simp; first | done | rfl)); simp only [Act.put, List.setIfInBounds_toArray, List.set_cons_zero, List.set_cons_succ])
  all_goals clear ho5
  all_goals (apply canon_st ho7 rfl; (intro w2 hS; first | (go_simp; first | done | rfl) | rfl | (obtain ⟨hc, hf, hk, hz⟩ := ecell hS; go_simp; first | done | rfl)); simp only [Act.put, List.setIfInBounds_toArray, List.set_cons_zero, List.set_cons_succ])
  all_goals clear ho7
  all_goals (apply canon_st ho8 rfl; (intro w2 hS; first | (go_simp; first | done | rfl) | rfl | (obtain ⟨hc, hf, hk, hz⟩ := ecell hS; go_simp; first | done | rfl)); simp only [Act.put, List.setIfInBounds_toArray, List.set_cons_zero, List.set_cons_succ])
  all_goals clear ho8
  all_goals (apply canon_st ho9 rfl; (intro w2 hS; first | (go_simp; first | done | rfl) | rfl | (obtain ⟨hc, hf, hk, hz⟩ := ecell hS; go_simp; first | done | rfl)); simp only [Act.put, List.setIfInBounds_toArray, List.set_cons_zero, List.set_cons_succ])
  all_goals clear ho9
  all_goals first | (refine canon_inv ho2 (nthInv Try.f207 0) rfl 253 274 Try.func274 ⟨_, rfl, (by kernel_rfl), (by kernel_rfl), (by kernel_rfl), ?_⟩; simp only [List.map_toArray, List.map_cons, List.map_nil, List.append_toArray, List.cons_append, List.nil_append, Act.eval]; go_simp; (with_reducible refine (listedGroup_c _ _ _ _ _ (by omega)).mono ?_); rintro e w1 ⟨rfl, hb⟩; (obtain ⟨hc, hf, hk, hz⟩ := ecell hb; try (have hx := Ext.trans2 hb (by assumption); obtain ⟨hcx, hfx, hkx, hzx⟩ := ecell hx)); (try simp at hz); (refine ⟨(by repeat (first | exact Ext.refl _ | assumption | refine Ext.drew ?_ | refine Ext.drewN ?_ _ | refine Ext.iter ?_ _ _ | refine Ext.alloc ?_ _ | refine Ext.setCell ?_ (by first | exact Nat.le_refl _ | (simp <;> omega)) _ | refine Ext.trans2 (by assumption) ?_)), ?_⟩; go_simp)) | (refine canon_inv ho2 (nthInv Try.f207 2) rfl 253 276 Try.func276 ⟨_, rfl, (by kernel_rfl), (by kernel_rfl), (by kernel_rfl), ?_⟩; simp only [List.map_toArray, List.map_cons, List.map_nil, List.append_toArray, List.cons_append, List.nil_append, Act.eval]; go_simp; (with_reducible refine (listedWidth_c _ _ [6, 11] 2 2 2 _ (hi.ext (by repeat (first | exact Ext.refl _ | assumption | refine Ext.drew ?_ | refine Ext.drewN ?_ _ | refine Ext.iter ?_ _ _ | refine Ext.alloc ?_ _ | refine Ext.setCell ?_ (by first | exact Nat.le_refl _ | (simp <;> omega)) _ | refine Ext.trans2 (by assumption) ?_))) rfl (by decide) (by decide)).mono ?_); rintro e w1 ⟨rfl, hb⟩; (obtain ⟨hc, hf, hk, hz⟩ := ecell hb; try (have hx := Ext.trans2 hb (by assumption); obtain ⟨hcx, hfx, hkx, hzx⟩ := ecell hx)); (try simp at hz); (refine ⟨(by repeat (first | exact Ext.refl _ | assumption | refine Ext.drew ?_ | refine Ext.drewN ?_ _ | refine Ext.iter ?_ _ _ | refine Ext.alloc ?_ _ | refine Ext.setCell ?_ (by first | exact Nat.le_refl _ | (simp <;> omega)) _ | refine Ext.trans2 (by assumption) ?_)), ?_⟩; go_simp))
  all_goals clear ho2
  all_goals (apply canon_st ho3 rfl; (intro w2 hS; first | (go_simp; first | done | rfl) | rfl | (obtain ⟨hc, hf, hk, hz⟩ := ecell hS; go_simp; first | done | rfl)); simp only [Act.put, List.setIfInBounds_toArray, List.set_cons_zero, List.set_cons_succ])
  all_goals clear ho3
  all_goals first | (refine canon_inv ho6 (nthInv Try.f207 0) rfl 253 274 Try.func274 ⟨_, rfl, (by kernel_rfl), (by kernel_rfl), (by kernel_rfl), ?_⟩; simp only [List.map_toArray, List.map_cons, List.map_nil, List.append_toArray, List.cons_append, List.nil_append, Act.eval]; go_simp; (with_reducible refine (listedGroup_c _ _ _ _ _ (by omega)).mono ?_); rintro e w1 ⟨rfl, hb⟩; (obtain ⟨hc, hf, hk, hz⟩ := ecell hb; try (have hx := Ext.trans2 hb (by assumption); obtain ⟨hcx, hfx, hkx, hzx⟩ := ecell hx)); (try simp at hz); (refine ⟨(by repeat (first | exact Ext.refl _ | assumption | refine Ext.drew ?_ | refine Ext.drewN ?_ _ | refine Ext.iter ?_ _ _ | refine Ext.alloc ?_ _ | refine Ext.setCell ?_ (by first | exact Nat.le_refl _ | (simp <;> omega)) _ | refine Ext.trans2 (by assumption) ?_)), ?_⟩; go_simp)) | (refine canon_inv ho6 (nthInv Try.f207 2) rfl 253 276 Try.func276 ⟨_, rfl, (by kernel_rfl), (by kernel_rfl), (by kernel_rfl), ?_⟩; simp only [List.map_toArray, List.map_cons, List.map_nil, List.append_toArray, List.cons_append, List.nil_append, Act.eval]; go_simp; (with_reducible refine (listedWidth_c _ _ [6, 11] 2 2 2 _ (hi.ext (by repeat (first | exact Ext.refl _ | assumption | refine Ext.drew ?_ | refine Ext.drewN ?_ _ | refine Ext.iter ?_ _ _ | refine Ext.alloc ?_ _ | refine Ext.setCell ?_ (by first | exact Nat.le_refl _ | (simp <;> omega)) _ | refine Ext.trans2 (by assumption) ?_))) rfl (by decide) (by decide)).mono ?_); rintro e w1 ⟨rfl, hb⟩; (obtain ⟨hc, hf, hk, hz⟩ := ecell hb; try (have hx := Ext.trans2 hb (by assumption); obtain ⟨hcx, hfx, hkx, hzx⟩ := ecell hx)); (try simp at hz); (refine ⟨(by repeat (first | exact Ext.refl _ | assumption | refine Ext.drew ?_ | refine Ext.drewN ?_ _ | refine Ext.iter ?_ _ _ | refine Ext.alloc ?_ _ | refine Ext.setCell ?_ (by first | exact Nat.le_refl _ | (simp <;> omega)) _ | refine Ext.trans2 (by assumption) ?_)), ?_⟩; go_simp))
  all_goals clear ho6
  all_goals first | (refine canon_inv ho10 (nthInv Try.f207 0) rfl 253 274 Try.func274 ⟨_, rfl, (by kernel_rfl), (by kernel_rfl), (by kernel_rfl), ?_⟩; simp only [List.map_toArray, List.map_cons, List.map_nil, List.append_toArray, List.cons_append, List.nil_append, Act.eval]; go_simp; (with_reducible refine (listedGroup_c _ _ _ _ _ (by omega)).mono ?_); rintro e w1 ⟨rfl, hb⟩; (obtain ⟨hc, hf, hk, hz⟩ := ecell hb; try (have hx := Ext.trans2 hb (by assumption); obtain ⟨hcx, hfx, hkx, hzx⟩ := ecell hx)); (try simp at hz); (refine ⟨(by repeat (first | exact Ext.refl _ | assumption | refine Ext.drew ?_ | refine Ext.drewN ?_ _ | refine Ext.iter ?_ _ _ | refine Ext.alloc ?_ _ | refine Ext.setCell ?_ (by first | exact Nat.le_refl _ | (simp <;> omega)) _ | refine Ext.trans2 (by assumption) ?_)), ?_⟩; go_simp)) | (refine canon_inv ho10 (nthInv Try.f207 2) rfl 253 276 Try.func276 ⟨_, rfl, (by kernel_rfl), (by kernel_rfl), (by kernel_rfl), ?_⟩; simp only [List.map_toArray, List.map_cons, List.map_nil, List.append_toArray, List.cons_append, List.nil_append, Act.eval]; go_simp; (with_reducible refine (listedWidth_c _ _ [6, 11] 2 2 2 _ (hi.ext (by repeat (first | exact Ext.refl _ | assumption | refine Ext.drew ?_ | refine Ext.drewN ?_ _ | refine Ext.iter ?_ _ _ | refine Ext.alloc ?_ _ | refine Ext.setCell ?_ (by first | exact Nat.le_refl _ | (simp <;> omega)) _ | refine Ext.trans2 (by assumption) ?_))) rfl (by decide) (by decide)).mono ?_); rintro e w1 ⟨rfl, hb⟩; (obtain ⟨hc, hf, hk, hz⟩ := ecell hb; try (have hx := Ext.trans2 hb (by assumption); obtain ⟨hcx, hfx, hkx, hzx⟩ := ecell hx)); (try simp at hz); (refine ⟨(by repeat (first | exact Ext.refl _ | assumption | refine Ext.drew ?_ | refine Ext.drewN ?_ _ | refine Ext.iter ?_ _ _ | refine Ext.alloc ?_ _ | refine Ext.setCell ?_ (by first | exact Nat.le_refl _ | (simp <;> omega)) _ | refine Ext.trans2 (by assumption) ?_)), ?_⟩; go_simp))
  all_goals clear ho10
  all_goals (apply canon_st ho11 rfl; (intro w2 hS; first | (go_simp; first | done | rfl) | rfl | (obtain ⟨hc, hf, hk, hz⟩ := ecell hS; go_simp; first | done | rfl)); simp only [Act.put, List.setIfInBounds_toArray, List.set_cons_zero, List.set_cons_succ])
  all_goals clear ho11
  all_goals (apply canon_st ho12 rfl; (intro w2 hS; first | (go_simp; first | done | rfl) | rfl | (obtain ⟨hc, hf, hk, hz⟩ := ecell hS; go_simp; first | done | rfl)); simp only [Act.put, List.setIfInBounds_toArray, List.set_cons_zero, List.set_cons_succ])
  all_goals clear ho12
  all_goals refine canon_done (NoPanic.normal ?_)
  all_goals clear h1 h2
  all_goals have HV := Lib.hid hv; clear hv
  all_goals go_wp2_with (first | ((with_reducible refine wpList_invoke_of (nthInv Try.f207 0) ?_ 253 274 Try.func274 ?_); rfl; refine ⟨_, rfl, (by kernel_rfl), (by kernel_rfl), (by kernel_rfl), ?_⟩; simp only [List.map_toArray, List.map_cons, List.map_nil, List.append_toArray, List.cons_append, List.nil_append, Act.eval]; go_simp) | (go_at_call 274; (with_reducible refine (listedGroup_c _ _ _ _ _ (by omega)).mono ?_); rintro e w1 ⟨rfl, hb⟩; (obtain ⟨hc, hf, hk, hz⟩ := ecell hb; try (have hx := Ext.trans2 hb (by assumption); obtain ⟨hcx, hfx, hkx, hzx⟩ := ecell hx)); try simp at hz) | ((with_reducible refine wpList_invoke_of (nthInv Try.f207 2) ?_ 253 276 Try.func276 ?_); rfl; refine ⟨_, rfl, (by kernel_rfl), (by kernel_rfl), (by kernel_rfl), ?_⟩; simp only [List.map_toArray, List.map_cons, List.map_nil, List.append_toArray, List.cons_append, List.nil_append, Act.eval]; go_simp) | (go_at_call 276; have hb1 := HV.out (n % 2) (by omega); refine (listedWidth_c _ _ [6, 11] 2 2 (n % 2) _ (hi.ext (by repeat (first | exact Ext.refl _ | assumption | refine Ext.drew ?_ | refine Ext.drewN ?_ _ | refine Ext.iter ?_ _ _ | refine Ext.alloc ?_ _ | refine Ext.setCell ?_ (by first | exact Nat.le_refl _ | (simp <;> omega)) _ | refine Ext.trans2 (by assumption) ?_))) rfl (by decide) (by simp; omega)).mono ?_; rintro e w1 ⟨rfl, hb⟩))
  all_goals go_ret
  all_goals refine ⟨ret_int ?_, (by repeat (first | exact Ext.refl _ | assumption | refine Ext.drew ?_ | refine Ext.drewN ?_ _ | refine Ext.iter ?_ _ _ | refine Ext.alloc ?_ _ | refine Ext.setCell ?_ (by first | exact Nat.le_refl _ | (simp <;> omega)) _ | refine Ext.trans2 (by assumption) ?_))⟩
  all_goals simp only [textW]
  all_goals first
    | (have h0 : n % 2 = 0 := by omega
       simp [h0]; done)
    | (have h0 : n % 2 = 0 := by omega
       simp [h0] <;> omega)
    | (have h3 : n % 2 = 1 ∨ n % 2 = 2 := by omega
       rcases h3 with h3 | h3 <;> first | (exfalso; omega) | (simp [h3]; rw [IntWalk.wrap64_in _ ⟨by omega, by omega⟩]))

theorem iTextWidth3_c (n : Int) (cs : ByteArray) (p : Option Addr) (w : World) (hi : IntsAt w p [5]) (hn : 0 ≤ n ∧ n ≤ 1000000) :
    Calls Try.prog 207 #[.iface 253 (.agg #[.string cs, .slice p 1 1]), .int .i64 n] w fun e w' => e = .returned (.int .i64 (textW 3 n)) ∧ Ext w w' := by
  have h1 : IntKind.i64.wrap n = n := IntWalk.i64_in _ (by omega)
  have h2 : IntKind.i64.wrap (n * 5) = n * 5 := IntWalk.i64_in _ (by omega)
  have hv : ∀ g : Int, 1 ≤ g ∧ g ≤ 1 → 0 ≤ ([5] : List Int).getD (g - 1).toNat 0 ∧ ([5] : List Int).getD (g - 1).toNat 0 ≤ 20 := by
    intro g hg
    obtain ⟨k, hk⟩ : ∃ k : Nat, (g - 1).toNat = k := ⟨_, rfl⟩
    have : k < 1 := by omega
    rw [hk]
    match k, this with
    | 0, _ => decide
  have hna : ∀  w, (nilAhead 379 253 (.agg #[.string cs, .slice p 1 1]) (nthInv Try.f207 2)).run Try.prog w = .ok (some false) w := fun  w => by kernel_rfl
  conv at hna => intro  w; lhs; arg 2; arg 4; whnf
  have hme : ∀  w, (method 379 253 (.agg #[.string cs, .slice p 1 1]) (nthInv Try.f207 2)).run Try.prog w = .ok (276, (.agg #[.string cs, .slice p 1 1])) w := fun  w => by kernel_rfl
  conv at hme => intro  w; lhs; arg 2; arg 4; whnf
  go_enter Try.func207, Try.ntmps207
  go_wp2
  refine wp_region_canon (fun w' => Ext w w') [(0, true), (1, true), (4, true), (5, true), (7, true), (8, true), (9, true), (2, false), (3, true), (6, false), (10, false), (11, true), (12, true)] (by kernel_rfl) (by kernel_rfl) (by decide) (by kernel_rfl) ?_ ?_
  · exact (by repeat (first | exact Ext.refl _ | assumption | refine Ext.drew ?_ | refine Ext.drewN ?_ _ | refine Ext.iter ?_ _ _ | refine Ext.alloc ?_ _ | refine Ext.setCell ?_ (by first | exact Nat.le_refl _ | (simp <;> omega)) _ | refine Ext.trans2 (by assumption) ?_))
  refine canon_intro fun ops eo => ?_
  have ho0 := canon_at eo 0 rfl
  have ho1 := canon_at eo 1 rfl
  have ho2 := canon_at eo 2 rfl
  have ho3 := canon_at eo 3 rfl
  have ho4 := canon_at eo 4 rfl
  have ho5 := canon_at eo 5 rfl
  have ho6 := canon_at eo 6 rfl
  have ho7 := canon_at eo 7 rfl
  have ho8 := canon_at eo 8 rfl
  have ho9 := canon_at eo 9 rfl
  have ho10 := canon_at eo 10 rfl
  have ho11 := canon_at eo 11 rfl
  have ho12 := canon_at eo 12 rfl
  clear eo
  all_goals (apply canon_st ho0 rfl; (intro w2 hS; first | (go_simp; first | done | rfl) | rfl | (obtain ⟨hc, hf, hk, hz⟩ := ecell hS; go_simp; first | done | rfl)); simp only [Act.put, List.setIfInBounds_toArray, List.set_cons_zero, List.set_cons_succ])
  all_goals clear ho0
  all_goals (apply canon_st ho1 rfl; (intro w2 hS; first | (go_simp; first | done | rfl) | rfl | (obtain ⟨hc, hf, hk, hz⟩ := ecell hS; go_simp; first | done | rfl)); simp only [Act.put, List.setIfInBounds_toArray, List.set_cons_zero, List.set_cons_succ])
  all_goals clear ho1
  all_goals (apply canon_st ho4 rfl; (intro w2 hS; first | (go_simp; first | done | rfl) | rfl | (obtain ⟨hc, hf, hk, hz⟩ := ecell hS; go_simp; first | done | rfl)); simp only [Act.put, List.setIfInBounds_toArray, List.set_cons_zero, List.set_cons_succ])
  all_goals clear ho4
  all_goals (apply canon_st ho5 rfl; (intro w2 hS; first | (go_simp; first | done | rfl) | rfl | (obtain ⟨hc, hf, hk, hz⟩ := ecell hS; go_simp; first | done | rfl)); simp only [Act.put, List.setIfInBounds_toArray, List.set_cons_zero, List.set_cons_succ])
  all_goals clear ho5
  all_goals (apply canon_st ho7 rfl; (intro w2 hS; first | (go_simp; first | done | rfl) | rfl | (obtain ⟨hc, hf, hk, hz⟩ := ecell hS; go_simp; first | done | rfl)); simp only [Act.put, List.setIfInBounds_toArray, List.set_cons_zero, List.set_cons_succ])
  all_goals clear ho7
  all_goals (apply canon_st ho8 rfl; (intro w2 hS; first | (go_simp; first | done | rfl) | rfl | (obtain ⟨hc, hf, hk, hz⟩ := ecell hS; go_simp; first | done | rfl)); simp only [Act.put, List.setIfInBounds_toArray, List.set_cons_zero, List.set_cons_succ])
  all_goals clear ho8
  all_goals (apply canon_st ho9 rfl; (intro w2 hS; first | (go_simp; first | done | rfl) | rfl | (obtain ⟨hc, hf, hk, hz⟩ := ecell hS; go_simp; first | done | rfl)); simp only [Act.put, List.setIfInBounds_toArray, List.set_cons_zero, List.set_cons_succ])
  all_goals clear ho9
  all_goals first | (refine canon_inv ho2 (nthInv Try.f207 0) rfl 253 274 Try.func274 ⟨_, rfl, (by kernel_rfl), (by kernel_rfl), (by kernel_rfl), ?_⟩; simp only [List.map_toArray, List.map_cons, List.map_nil, List.append_toArray, List.cons_append, List.nil_append, Act.eval]; go_simp; (with_reducible refine (listedGroup_c _ _ _ _ _ (by omega)).mono ?_); rintro e w1 ⟨rfl, hb⟩; (obtain ⟨hc, hf, hk, hz⟩ := ecell hb; try (have hx := Ext.trans2 hb (by assumption); obtain ⟨hcx, hfx, hkx, hzx⟩ := ecell hx)); (try simp at hz); (refine ⟨(by repeat (first | exact Ext.refl _ | assumption | refine Ext.drew ?_ | refine Ext.drewN ?_ _ | refine Ext.iter ?_ _ _ | refine Ext.alloc ?_ _ | refine Ext.setCell ?_ (by first | exact Nat.le_refl _ | (simp <;> omega)) _ | refine Ext.trans2 (by assumption) ?_)), ?_⟩; go_simp)) | (refine canon_inv ho2 (nthInv Try.f207 2) rfl 253 276 Try.func276 ⟨_, rfl, (by kernel_rfl), (by kernel_rfl), (by kernel_rfl), ?_⟩; simp only [List.map_toArray, List.map_cons, List.map_nil, List.append_toArray, List.cons_append, List.nil_append, Act.eval]; go_simp; (with_reducible refine (listedWidth_c _ _ [5] 1 1 1 _ (hi.ext (by repeat (first | exact Ext.refl _ | assumption | refine Ext.drew ?_ | refine Ext.drewN ?_ _ | refine Ext.iter ?_ _ _ | refine Ext.alloc ?_ _ | refine Ext.setCell ?_ (by first | exact Nat.le_refl _ | (simp <;> omega)) _ | refine Ext.trans2 (by assumption) ?_))) rfl (by decide) (by decide)).mono ?_); rintro e w1 ⟨rfl, hb⟩; (obtain ⟨hc, hf, hk, hz⟩ := ecell hb; try (have hx := Ext.trans2 hb (by assumption); obtain ⟨hcx, hfx, hkx, hzx⟩ := ecell hx)); (try simp at hz); (refine ⟨(by repeat (first | exact Ext.refl _ | assumption | refine Ext.drew ?_ | refine Ext.drewN ?_ _ | refine Ext.iter ?_ _ _ | refine Ext.alloc ?_ _ | refine Ext.setCell ?_ (by first | exact Nat.le_refl _ | (simp <;> omega)) _ | refine Ext.trans2 (by assumption) ?_)), ?_⟩; go_simp))
  all_goals clear ho2
  all_goals (apply canon_st ho3 rfl; (intro w2 hS; first | (go_simp; first | done | rfl) | rfl | (obtain ⟨hc, hf, hk, hz⟩ := ecell hS; go_simp; first | done | rfl)); simp only [Act.put, List.setIfInBounds_toArray, List.set_cons_zero, List.set_cons_succ])
  all_goals clear ho3
  all_goals first | (refine canon_inv ho6 (nthInv Try.f207 0) rfl 253 274 Try.func274 ⟨_, rfl, (by kernel_rfl), (by kernel_rfl), (by kernel_rfl), ?_⟩; simp only [List.map_toArray, List.map_cons, List.map_nil, List.append_toArray, List.cons_append, List.nil_append, Act.eval]; go_simp; (with_reducible refine (listedGroup_c _ _ _ _ _ (by omega)).mono ?_); rintro e w1 ⟨rfl, hb⟩; (obtain ⟨hc, hf, hk, hz⟩ := ecell hb; try (have hx := Ext.trans2 hb (by assumption); obtain ⟨hcx, hfx, hkx, hzx⟩ := ecell hx)); (try simp at hz); (refine ⟨(by repeat (first | exact Ext.refl _ | assumption | refine Ext.drew ?_ | refine Ext.drewN ?_ _ | refine Ext.iter ?_ _ _ | refine Ext.alloc ?_ _ | refine Ext.setCell ?_ (by first | exact Nat.le_refl _ | (simp <;> omega)) _ | refine Ext.trans2 (by assumption) ?_)), ?_⟩; go_simp)) | (refine canon_inv ho6 (nthInv Try.f207 2) rfl 253 276 Try.func276 ⟨_, rfl, (by kernel_rfl), (by kernel_rfl), (by kernel_rfl), ?_⟩; simp only [List.map_toArray, List.map_cons, List.map_nil, List.append_toArray, List.cons_append, List.nil_append, Act.eval]; go_simp; (with_reducible refine (listedWidth_c _ _ [5] 1 1 1 _ (hi.ext (by repeat (first | exact Ext.refl _ | assumption | refine Ext.drew ?_ | refine Ext.drewN ?_ _ | refine Ext.iter ?_ _ _ | refine Ext.alloc ?_ _ | refine Ext.setCell ?_ (by first | exact Nat.le_refl _ | (simp <;> omega)) _ | refine Ext.trans2 (by assumption) ?_))) rfl (by decide) (by decide)).mono ?_); rintro e w1 ⟨rfl, hb⟩; (obtain ⟨hc, hf, hk, hz⟩ := ecell hb; try (have hx := Ext.trans2 hb (by assumption); obtain ⟨hcx, hfx, hkx, hzx⟩ := ecell hx)); (try simp at hz); (refine ⟨(by repeat (first | exact Ext.refl _ | assumption | refine Ext.drew ?_ | refine Ext.drewN ?_ _ | refine Ext.iter ?_ _ _ | refine Ext.alloc ?_ _ | refine Ext.setCell ?_ (by first | exact Nat.le_refl _ | (simp <;> omega)) _ | refine Ext.trans2 (by assumption) ?_)), ?_⟩; go_simp))
  all_goals clear ho6
  all_goals first | (refine canon_inv ho10 (nthInv Try.f207 0) rfl 253 274 Try.func274 ⟨_, rfl, (by kernel_rfl), (by kernel_rfl), (by kernel_rfl), ?_⟩; simp only [List.map_toArray, List.map_cons, List.map_nil, List.append_toArray, List.cons_append, List.nil_append, Act.eval]; go_simp; (with_reducible refine (listedGroup_c _ _ _ _ _ (by omega)).mono ?_); rintro e w1 ⟨rfl, hb⟩; (obtain ⟨hc, hf, hk, hz⟩ := ecell hb; try (have hx := Ext.trans2 hb (by assumption); obtain ⟨hcx, hfx, hkx, hzx⟩ := ecell hx)); (try simp at hz); (refine ⟨(by repeat (first | exact Ext.refl _ | assumption | refine Ext.drew ?_ | refine Ext.drewN ?_ _ | refine Ext.iter ?_ _ _ | refine Ext.alloc ?_ _ | refine Ext.setCell ?_ (by first | exact Nat.le_refl _ | (simp <;> omega)) _ | refine Ext.trans2 (by assumption) ?_)), ?_⟩; go_simp)) | (refine canon_inv ho10 (nthInv Try.f207 2) rfl 253 276 Try.func276 ⟨_, rfl, (by kernel_rfl), (by kernel_rfl), (by kernel_rfl), ?_⟩; simp only [List.map_toArray, List.map_cons, List.map_nil, List.append_toArray, List.cons_append, List.nil_append, Act.eval]; go_simp; (with_reducible refine (listedWidth_c _ _ [5] 1 1 1 _ (hi.ext (by repeat (first | exact Ext.refl _ | assumption | refine Ext.drew ?_ | refine Ext.drewN ?_ _ | refine Ext.iter ?_ _ _ | refine Ext.alloc ?_ _ | refine Ext.setCell ?_ (by first | exact Nat.le_refl _ | (simp <;> omega)) _ | refine Ext.trans2 (by assumption) ?_))) rfl (by decide) (by decide)).mono ?_); rintro e w1 ⟨rfl, hb⟩; (obtain ⟨hc, hf, hk, hz⟩ := ecell hb; try (have hx := Ext.trans2 hb (by assumption); obtain ⟨hcx, hfx, hkx, hzx⟩ := ecell hx)); (try simp at hz); (refine ⟨(by repeat (first | exact Ext.refl _ | assumption | refine Ext.drew ?_ | refine Ext.drewN ?_ _ | refine Ext.iter ?_ _ _ | refine Ext.alloc ?_ _ | refine Ext.setCell ?_ (by first | exact Nat.le_refl _ | (simp <;> omega)) _ | refine Ext.trans2 (by assumption) ?_)), ?_⟩; go_simp))
  all_goals clear ho10
  all_goals (apply canon_st ho11 rfl; (intro w2 hS; first | (go_simp; first | done | rfl) | rfl | (obtain ⟨hc, hf, hk, hz⟩ := ecell hS; go_simp; first | done | rfl)); simp only [Act.put, List.setIfInBounds_toArray, List.set_cons_zero, List.set_cons_succ])
  all_goals clear ho11
  all_goals (apply canon_st ho12 rfl; (intro w2 hS; first | (go_simp; first | done | rfl) | rfl | (obtain ⟨hc, hf, hk, hz⟩ := ecell hS; go_simp; first | done | rfl)); simp only [Act.put, List.setIfInBounds_toArray, List.set_cons_zero, List.set_cons_succ])
  all_goals clear ho12
  all_goals refine canon_done (NoPanic.normal ?_)
  all_goals clear h1 h2
  all_goals have HV := Lib.hid hv; clear hv
  all_goals go_wp2_with (first | ((with_reducible refine wpList_invoke_of (nthInv Try.f207 0) ?_ 253 274 Try.func274 ?_); rfl; refine ⟨_, rfl, (by kernel_rfl), (by kernel_rfl), (by kernel_rfl), ?_⟩; simp only [List.map_toArray, List.map_cons, List.map_nil, List.append_toArray, List.cons_append, List.nil_append, Act.eval]; go_simp) | (go_at_call 274; (with_reducible refine (listedGroup_c _ _ _ _ _ (by omega)).mono ?_); rintro e w1 ⟨rfl, hb⟩; (obtain ⟨hc, hf, hk, hz⟩ := ecell hb; try (have hx := Ext.trans2 hb (by assumption); obtain ⟨hcx, hfx, hkx, hzx⟩ := ecell hx)); try simp at hz) | ((with_reducible refine wpList_invoke_of (nthInv Try.f207 2) ?_ 253 276 Try.func276 ?_); rfl; refine ⟨_, rfl, (by kernel_rfl), (by kernel_rfl), (by kernel_rfl), ?_⟩; simp only [List.map_toArray, List.map_cons, List.map_nil, List.append_toArray, List.cons_append, List.nil_append, Act.eval]; go_simp) | (go_at_call 276; have hb1 := HV.out (n % 1) (by omega); refine (listedWidth_c _ _ [5] 1 1 (n % 1) _ (hi.ext (by repeat (first | exact Ext.refl _ | assumption | refine Ext.drew ?_ | refine Ext.drewN ?_ _ | refine Ext.iter ?_ _ _ | refine Ext.alloc ?_ _ | refine Ext.setCell ?_ (by first | exact Nat.le_refl _ | (simp <;> omega)) _ | refine Ext.trans2 (by assumption) ?_))) rfl (by decide) (by simp; omega)).mono ?_; rintro e w1 ⟨rfl, hb⟩))
  all_goals go_ret
  all_goals refine ⟨ret_int ?_, (by repeat (first | exact Ext.refl _ | assumption | refine Ext.drew ?_ | refine Ext.drewN ?_ _ | refine Ext.iter ?_ _ _ | refine Ext.alloc ?_ _ | refine Ext.setCell ?_ (by first | exact Nat.le_refl _ | (simp <;> omega)) _ | refine Ext.trans2 (by assumption) ?_))⟩
  all_goals simp only [textW]
  all_goals simp

theorem iTextWidth_c (m n : Int) (v : Value) (w : World) (hm : 1 ≤ m ∧ m ≤ 4) (hv : ModeV w m v) (hn : 0 ≤ n ∧ n ≤ 1000000) :
    Calls Try.prog 207 #[v, .int .i64 n] w fun e w' => e = .returned (.int .i64 (textW m n)) ∧ Ext w w' := by
  rcases hv with ⟨h, p, k, rfl, rfl, hi⟩ | ⟨h, rfl⟩
  · have : m = 1 ∨ m = 2 ∨ m = 3 := by omega
    rcases this with rfl | rfl | rfl
    · exact iTextWidth1_c n _ p w hi hn
    · exact iTextWidth2_c n _ p w hi hn
    · exact iTextWidth3_c n _ p w hi hn
  · have e : textW m n = n * 8 := by
      unfold textW
      rw [if_neg (by omega), if_neg (by omega), if_neg (by omega)]
    rw [e]
    exact iTextWidth4_c m n w h hn

theorem textW_bd (m n : Int) (hn : 0 ≤ n ∧ n ≤ 1000000) : 0 ≤ textW m n ∧ textW m n ≤ n * 8 := by
  unfold textW
  (repeat' split) <;> omega

theorem iSegmentWidth_c (m n : Int) (v : Value) (w : World) (hm : 1 ≤ m ∧ m ≤ 4) (hv : ModeV w m v) (hn : 0 ≤ n ∧ n ≤ 1000000) :
    Calls Try.prog 209 #[v, .int .i64 n] w fun e w' => e = .returned (.int .i64 (11 + textW m n)) ∧ Ext w w' := by
  have hb := textW_bd m n hn
  go_enter Try.func209, Try.ntmps209
  go_wp2_with (first | (go_at_call 207; (with_reducible refine (iTextWidth_c _ _ _ _ hm (by assumption) hn).mono ?_); rintro e w1 ⟨rfl, hb⟩; (obtain ⟨hc, hf, hk, hz⟩ := ecell hb; try (have hx := Ext.trans2 hb (by assumption); obtain ⟨hcx, hfx, hkx, hzx⟩ := ecell hx)); try simp at hz))
  go_ret
  exact ⟨rfl, (by repeat (first | exact Ext.refl _ | assumption | refine Ext.drew ?_ | refine Ext.drewN ?_ _ | refine Ext.iter ?_ _ _ | refine Ext.alloc ?_ _ | refine Ext.setCell ?_ (by first | exact Nat.le_refl _ | (simp <;> omega)) _ | refine Ext.trans2 (by assumption) ?_))⟩

abbrev vSeg (m : Int) (s : ByteArray) : Value := .agg #[.int .i64 m, .string s]
def IsSeg (m : Int) (s : ByteArray) : Prop := (1 ≤ m ∧ m ≤ 4) ∧ (1 ≤ s.size ∧ s.size ≤ 255) ∧ AllIn m s

theorem iIsSegment_c (m : Int) (s : ByteArray) (w : World) (hs : s.size ≤ 1048576) :
    Calls Try.prog 208 #[vSeg m s] w fun e w' => isB e (IsSeg m s) ∧ Ext w w' := by
  go_enter Try.func208, Try.ntmps208
  go_wp2_with (first
    | (go_at_call 85; (with_reducible refine (inRange_c _ _ _ _).mono ?_); rintro e w' ⟨⟨hP, rfl⟩ | ⟨hP, rfl⟩, rfl⟩ <;> go_prune)
    | (go_at_call 206; refine (modeOf_c _ _).mono ?_; rintro e w1 ⟨⟨v, ⟨h4, rfl⟩ | ⟨h4, rfl⟩, hv⟩, hb⟩ <;> go_prune <;> (obtain ⟨hc, hf, hk, hz⟩ := ecell hb; try (have hx := Ext.trans2 hb (by assumption); obtain ⟨hcx, hfx, hkx, hzx⟩ := ecell hx)) <;> (try simp at hz))
    | (go_at_call 245; (with_reducible refine (iAllIn_c _ _ _ _ (by assumption) (by assumption) hs).mono ?_); rintro e w' ⟨⟨hP, rfl⟩ | ⟨hP, rfl⟩, hb⟩ <;> go_prune <;> ((obtain ⟨hc, hf, hk, hz⟩ := ecell hb; try (have hx := Ext.trans2 hb (by assumption); obtain ⟨hcx, hfx, hkx, hzx⟩ := ecell hx)); try simp at hz)))
  all_goals (go_ret; refine ⟨?_, (by repeat (first | exact Ext.refl _ | assumption | refine Ext.drew ?_ | refine Ext.drewN ?_ _ | refine Ext.iter ?_ _ _ | refine Ext.alloc ?_ _ | refine Ext.setCell ?_ (by first | exact Nat.le_refl _ | (simp <;> omega)) _ | refine Ext.trans2 (by assumption) ?_))⟩)
  all_goals first | exact isB_t ⟨by assumption, by omega, by assumption⟩ | exact isB_f (fun h => absurd h.2.2 (by assumption)) | exact isB_f (fun h => by have := h.1; have := h.2.1; omega)

def segLen (m : Int) (s : ByteArray) : Int := 11 + textW m s.size

theorem iSegmentLength_c (m : Int) (s : ByteArray) (w : World) (hs : s.size ≤ 1048576) :
    Calls Try.prog 158 #[vSeg m s] w fun e w' => ((IsSeg m s ∧ e = .returned (.int .i64 (segLen m s))) ∨ (¬ IsSeg m s ∧ e = .returned (.int .i64 (-1)))) ∧ Ext w w' := by
  by_cases hP : IsSeg m s
  · have hm := hP.1
    have hsz := hP.2.1
    go_enter Try.func158, Try.ntmps158
    go_wp2_with (first
      | (go_at_call 208; refine (iIsSegment_c _ _ _ hs).mono ?_; rintro e w1 ⟨⟨_, rfl⟩ | ⟨hN, rfl⟩, hb⟩ <;> (try contradiction) <;> (obtain ⟨hc, hf, hk, hz⟩ := ecell hb; try (have hx := Ext.trans2 hb (by assumption); obtain ⟨hcx, hfx, hkx, hzx⟩ := ecell hx)) <;> (try simp at hz))
      | (go_at_call 206; refine (modeOf_c _ _).mono ?_; rintro e w1 ⟨⟨v, ⟨h4, rfl⟩ | ⟨h4, rfl⟩, hv⟩, hb⟩ <;> go_prune <;> (obtain ⟨hc, hf, hk, hz⟩ := ecell hb; try (have hx := Ext.trans2 hb (by assumption); obtain ⟨hcx, hfx, hkx, hzx⟩ := ecell hx)) <;> (try simp at hz))
      | (go_at_call 209; (with_reducible refine (iSegmentWidth_c _ _ _ _ hm (by assumption) (by omega)).mono ?_); rintro e w1 ⟨rfl, hb⟩; (obtain ⟨hc, hf, hk, hz⟩ := ecell hb; try (have hx := Ext.trans2 hb (by assumption); obtain ⟨hcx, hfx, hkx, hzx⟩ := ecell hx)); try simp at hz))
    go_ret
    exact ⟨.inl ⟨hP, rfl⟩, (by repeat (first | exact Ext.refl _ | assumption | refine Ext.drew ?_ | refine Ext.drewN ?_ _ | refine Ext.iter ?_ _ _ | refine Ext.alloc ?_ _ | refine Ext.setCell ?_ (by first | exact Nat.le_refl _ | (simp <;> omega)) _ | refine Ext.trans2 (by assumption) ?_))⟩
  · go_enter Try.func158, Try.ntmps158
    go_wp2_with (first
      | (go_at_call 208; refine (iIsSegment_c _ _ _ hs).mono ?_; rintro e w1 ⟨⟨hN, rfl⟩ | ⟨_, rfl⟩, hb⟩ <;> (try contradiction) <;> (obtain ⟨hc, hf, hk, hz⟩ := ecell hb; try (have hx := Ext.trans2 hb (by assumption); obtain ⟨hcx, hfx, hkx, hzx⟩ := ecell hx)) <;> (try simp at hz)))
    go_ret
    exact ⟨.inr ⟨hP, rfl⟩, (by repeat (first | exact Ext.refl _ | assumption | refine Ext.drew ?_ | refine Ext.drewN ?_ _ | refine Ext.iter ?_ _ _ | refine Ext.alloc ?_ _ | refine Ext.setCell ?_ (by first | exact Nat.le_refl _ | (simp <;> omega)) _ | refine Ext.trans2 (by assumption) ?_))⟩

def grp (m : Int) : Int := if m = 1 then 3 else if m = 2 then 2 else 1
def grpBase (m : Int) : Int := if m = 1 then 10 else if m = 2 then 45 else 256
def wid (m g : Int) : Int := if m = 1 then (if g = 1 then 4 else if g = 2 then 7 else if g = 3 then 10 else 0) else if m = 2 then (if g = 1 then 6 else if g = 2 then 11 else 0) else if m = 3 then 5 else 8

theorem sGroup_c (m : Int) (w : World) :
    Calls Try.prog 216 #[.int .i64 m] w fun e w' => e = .returned (.tuple #[.int .i64 (grp m), .int .i64 (grpBase m)]) ∧ w = w' := by
  go_enter Try.func216, Try.ntmps216
  go_wp2
  · obtain rfl : m = 1 := by rename_i h; simpa using h
    go_ret2
    exact ⟨rfl, rfl⟩
  · obtain rfl : m = 2 := by rename_i h; simpa using h
    go_ret2
    exact ⟨rfl, rfl⟩
  · go_ret2
    rename_i h1 h2
    simp at h1 h2
    exact ⟨ret_2i (by simp [grp, grpBase, h1, h2]), rfl⟩

theorem sWidth_c (m g : Int) (w : World) (hg : 1 ≤ g) (h1 : m = 1 → g ≤ 3) (h2 : m = 2 → g ≤ 2) :
    Calls Try.prog 218 #[.int .i64 m, .int .i64 g] w fun e w' => e = .returned (.int .i64 (wid m g)) ∧ Ext w w' := by
  by_cases e1 : m = 1
  · subst e1
    have := h1 rfl
    have : g = 1 ∨ g = 2 ∨ g = 3 := by omega
    clear h1 h2
    rcases this with rfl | rfl | rfl
    all_goals
      go_enter Try.func218, Try.ntmps218
      go_wp2
      go_ret
      exact ⟨rfl, (by repeat (first | exact Ext.refl _ | assumption | refine Ext.drew ?_ | refine Ext.drewN ?_ _ | refine Ext.iter ?_ _ _ | refine Ext.alloc ?_ _ | refine Ext.setCell ?_ (by first | exact Nat.le_refl _ | (simp <;> omega)) _ | refine Ext.trans2 (by assumption) ?_))⟩
  · by_cases e2 : m = 2
    · subst e2
      have := h2 rfl
      have : g = 1 ∨ g = 2 := by omega
      clear h1 h2
      rcases this with rfl | rfl
      all_goals
        go_enter Try.func218, Try.ntmps218
        go_wp2
        go_ret
        exact ⟨rfl, (by repeat (first | exact Ext.refl _ | assumption | refine Ext.drew ?_ | refine Ext.drewN ?_ _ | refine Ext.iter ?_ _ _ | refine Ext.alloc ?_ _ | refine Ext.setCell ?_ (by first | exact Nat.le_refl _ | (simp <;> omega)) _ | refine Ext.trans2 (by assumption) ?_))⟩
    · by_cases e3 : m = 3
      · subst e3
        clear h1 h2
        go_enter Try.func218, Try.ntmps218
        go_wp2
        go_ret
        exact ⟨rfl, (by repeat (first | exact Ext.refl _ | assumption | refine Ext.drew ?_ | refine Ext.drewN ?_ _ | refine Ext.iter ?_ _ _ | refine Ext.alloc ?_ _ | refine Ext.setCell ?_ (by first | exact Nat.le_refl _ | (simp <;> omega)) _ | refine Ext.trans2 (by assumption) ?_))⟩
      · clear h1 h2
        go_enter Try.func218, Try.ntmps218
        go_wp2
        go_ret
        exact ⟨ret_int (by simp [wid, e1, e2, e3]), (by repeat (first | exact Ext.refl _ | assumption | refine Ext.drew ?_ | refine Ext.drewN ?_ _ | refine Ext.iter ?_ _ _ | refine Ext.alloc ?_ _ | refine Ext.setCell ?_ (by first | exact Nat.le_refl _ | (simp <;> omega)) _ | refine Ext.trans2 (by assumption) ?_))⟩

theorem wid_bd (m g : Int) : 0 ≤ wid m g ∧ wid m g ≤ 11 := by
  unfold wid
  (repeat' split) <;> omega
theorem grp_bd (m : Int) : 1 ≤ grp m ∧ grp m ≤ 3 := by
  unfold grp
  (repeat' split) <;> omega
theorem textW_grp (m n : Int) (hm : 1 ≤ m ∧ m ≤ 4) (hn : 0 ≤ n ∧ n ≤ 1000000) : textW m n = n / grp m * wid m (grp m) + (if 0 < n % grp m then wid m (n % grp m) else 0) := by
  have : m = 1 ∨ m = 2 ∨ m = 3 ∨ m = 4 := by omega
  rcases this with rfl | rfl | rfl | rfl
  · have : n % 3 = 0 ∨ n % 3 = 1 ∨ n % 3 = 2 := by omega
    rcases this with h | h | h <;> simp [textW, grp, wid, h]
  · have : n % 2 = 0 ∨ n % 2 = 1 := by omega
    rcases this with h | h <;> simp [textW, grp, wid, h]
  · simp [textW, grp, wid]
  · simp [textW, grp, wid]

theorem sLength2_c (m n W : Int) (w : World) (hn : 0 ≤ n ∧ n ≤ 1000000) (hG : grp m = 2) (hW : wid m 2 = W) (hWb : 0 ≤ W ∧ W ≤ 11) (h2 : m = 2 → (2 : Int) ≤ 2) :
    Calls Try.prog 220 #[.int .i64 m, .int .i64 n] w fun e w' => e = .returned (.int .i64 (11 + (n / 2 * W + (if 0 < n % 2 then wid m (n % 2) else 0)))) ∧ Ext w w' := by
  have h3 : m = 1 → (2 : Int) ≤ 3 := by intro _; omega
  have HG := Lib.hid hG; clear hG
  have HW := Lib.hid hW; clear hW
  have HP := Lib.hid h2; have HQ := Lib.hid h3; clear h2 h3
  have hrw := wid_bd m (n % 2)
  have hp : 0 ≤ n / 2 * W := Int.mul_nonneg (by omega) hWb.1
  have hp2 : n / 2 * W ≤ 1000000 * 11 := Int.mul_le_mul (by omega) hWb.2 hWb.1 (by omega)
  have e1 : IntKind.i64.wrap (n.tdiv 2) = n / 2 := by rw [Int.tdiv_eq_ediv_of_nonneg (by omega)]; exact IntWalk.i64_in _ (by omega)
  have e2 : IntKind.i64.wrap (n / 2 * W) = n / 2 * W := IntWalk.i64_in _ (by omega)
  have e3 : IntKind.i64.wrap (11 + n / 2 * W) = 11 + n / 2 * W := IntWalk.i64_in _ (by omega)
  go_enter Try.func220, Try.ntmps220
  go_wp2_with (first
    | (go_at_call 216; refine (sGroup_c _ _).mono ?_; rintro e w1 ⟨rfl, rfl⟩; rw [HG.out]))
  refine wp_region_canon (fun w' => Ext w w') [(0, true), (1, true), (2, true), (3, true), (4, true), (5, false), (6, true), (7, true), (8, true)] (by kernel_rfl) (by kernel_rfl) (by decide) (by kernel_rfl) ?_ ?_
  · exact (by repeat (first | exact Ext.refl _ | assumption | refine Ext.drew ?_ | refine Ext.drewN ?_ _ | refine Ext.iter ?_ _ _ | refine Ext.alloc ?_ _ | refine Ext.setCell ?_ (by first | exact Nat.le_refl _ | (simp <;> omega)) _ | refine Ext.trans2 (by assumption) ?_))
  refine canon_intro fun ops eo => ?_
  have ho0 := canon_at eo 0 rfl
  have ho1 := canon_at eo 1 rfl
  have ho2 := canon_at eo 2 rfl
  have ho3 := canon_at eo 3 rfl
  have ho4 := canon_at eo 4 rfl
  have ho5 := canon_at eo 5 rfl
  have ho6 := canon_at eo 6 rfl
  have ho7 := canon_at eo 7 rfl
  have ho8 := canon_at eo 8 rfl
  clear eo
  all_goals (apply canon_st ho0 rfl; (intro w2 hS; first | (go_simp; first | done | rfl) | rfl | (obtain ⟨hc, hf, hk, hz⟩ := ecell hS; go_simp; first | done | rfl)); simp only [Act.put, List.setIfInBounds_toArray, List.set_cons_zero, List.set_cons_succ])
  all_goals clear ho0
  all_goals (apply canon_st ho1 rfl; (intro w2 hS; first | (go_simp; first | done | rfl) | rfl | (obtain ⟨hc, hf, hk, hz⟩ := ecell hS; go_simp; first | done | rfl)); simp only [Act.put, List.setIfInBounds_toArray, List.set_cons_zero, List.set_cons_succ])
  all_goals clear ho1
  all_goals (apply canon_st ho2 rfl; (intro w2 hS; first | (go_simp; first | done | rfl) | rfl | (obtain ⟨hc, hf, hk, hz⟩ := ecell hS; go_simp; first | done | rfl)); simp only [Act.put, List.setIfInBounds_toArray, List.set_cons_zero, List.set_cons_succ])
  all_goals clear ho2
  all_goals (apply canon_st ho3 rfl; (intro w2 hS; first | (go_simp; first | done | rfl) | rfl | (obtain ⟨hc, hf, hk, hz⟩ := ecell hS; go_simp; first | done | rfl)); simp only [Act.put, List.setIfInBounds_toArray, List.set_cons_zero, List.set_cons_succ])
  all_goals clear ho3
  all_goals (apply canon_st ho4 rfl; (intro w2 hS; first | (go_simp; first | done | rfl) | rfl | (obtain ⟨hc, hf, hk, hz⟩ := ecell hS; go_simp; first | done | rfl)); simp only [Act.put, List.setIfInBounds_toArray, List.set_cons_zero, List.set_cons_succ])
  all_goals clear ho4
  all_goals first | (refine canon_ef ho5 rfl (fun K hK => ?_); go_simp; ((go_at_call 218; refine (sWidth_c m _ _ (by omega) HQ.out HP.out).mono ?_; rintro e w1 ⟨rfl, hb⟩; rw [HW.out]; (obtain ⟨hc, hf, hk, hz⟩ := ecell hb; try (have hx := Ext.trans2 hb (by assumption); obtain ⟨hcx, hfx, hkx, hzx⟩ := ecell hx)); try simp at hz)); all_goals (refine hK _ _ ⟨(by repeat (first | exact Ext.refl _ | assumption | refine Ext.drew ?_ | refine Ext.drewN ?_ _ | refine Ext.iter ?_ _ _ | refine Ext.alloc ?_ _ | refine Ext.setCell ?_ (by first | exact Nat.le_refl _ | (simp <;> omega)) _ | refine Ext.trans2 (by assumption) ?_)), ?_⟩; clear hK K; go_simp))
  all_goals clear ho5
  all_goals (apply canon_st ho6 rfl; (intro w2 hS; first | (go_simp; first | done | rfl) | rfl | (obtain ⟨hc, hf, hk, hz⟩ := ecell hS; go_simp; first | done | rfl)); simp only [Act.put, List.setIfInBounds_toArray, List.set_cons_zero, List.set_cons_succ])
  all_goals clear ho6
  all_goals (apply canon_st ho7 rfl; (intro w2 hS; first | (go_simp; first | done | rfl) | rfl | (obtain ⟨hc, hf, hk, hz⟩ := ecell hS; go_simp; first | done | rfl)); simp only [Act.put, List.setIfInBounds_toArray, List.set_cons_zero, List.set_cons_succ])
  all_goals clear ho7
  all_goals (apply canon_st ho8 rfl; (intro w2 hS; first | (go_simp; first | done | rfl) | rfl | (obtain ⟨hc, hf, hk, hz⟩ := ecell hS; go_simp; first | done | rfl)); simp only [Act.put, List.setIfInBounds_toArray, List.set_cons_zero, List.set_cons_succ])
  all_goals clear ho8
  all_goals refine canon_done (NoPanic.normal ?_)
  clear e1 e2 e3
  go_wp2_with (first
    | (go_at_call 218; refine (sWidth_c m _ _ (by omega) (by intro h; have := HQ.out h; omega) (by intro h; have := HP.out h; omega)).mono ?_; rintro e w1 ⟨rfl, hb⟩))
  all_goals go_ret
  all_goals refine ⟨ret_int ?_, (by repeat (first | exact Ext.refl _ | assumption | refine Ext.drew ?_ | refine Ext.drewN ?_ _ | refine Ext.iter ?_ _ _ | refine Ext.alloc ?_ _ | refine Ext.setCell ?_ (by first | exact Nat.le_refl _ | (simp <;> omega)) _ | refine Ext.trans2 (by assumption) ?_))⟩
  all_goals first
    | (rw [if_pos (by omega)]; exact Int.add_assoc _ _ _)
    | (rw [if_neg (by omega)]; simp)
    | exact Int.add_assoc _ _ _
    | rfl

theorem sLength3_c (m n W : Int) (w : World) (hn : 0 ≤ n ∧ n ≤ 1000000) (hG : grp m = 3) (hW : wid m 3 = W) (hWb : 0 ≤ W ∧ W ≤ 11) (h2 : m = 2 → (3 : Int) ≤ 2) :
    Calls Try.prog 220 #[.int .i64 m, .int .i64 n] w fun e w' => e = .returned (.int .i64 (11 + (n / 3 * W + (if 0 < n % 3 then wid m (n % 3) else 0)))) ∧ Ext w w' := by
  have h3 : m = 1 → (3 : Int) ≤ 3 := by intro _; omega
  have HG := Lib.hid hG; clear hG
  have HW := Lib.hid hW; clear hW
  have HP := Lib.hid h2; have HQ := Lib.hid h3; clear h2 h3
  have hrw := wid_bd m (n % 3)
  have hp : 0 ≤ n / 3 * W := Int.mul_nonneg (by omega) hWb.1
  have hp2 : n / 3 * W ≤ 1000000 * 11 := Int.mul_le_mul (by omega) hWb.2 hWb.1 (by omega)
  have e1 : IntKind.i64.wrap (n.tdiv 3) = n / 3 := by rw [Int.tdiv_eq_ediv_of_nonneg (by omega)]; exact IntWalk.i64_in _ (by omega)
  have e2 : IntKind.i64.wrap (n / 3 * W) = n / 3 * W := IntWalk.i64_in _ (by omega)
  have e3 : IntKind.i64.wrap (11 + n / 3 * W) = 11 + n / 3 * W := IntWalk.i64_in _ (by omega)
  go_enter Try.func220, Try.ntmps220
  go_wp2_with (first
    | (go_at_call 216; refine (sGroup_c _ _).mono ?_; rintro e w1 ⟨rfl, rfl⟩; rw [HG.out]))
  refine wp_region_canon (fun w' => Ext w w') [(0, true), (1, true), (2, true), (3, true), (4, true), (5, false), (6, true), (7, true), (8, true)] (by kernel_rfl) (by kernel_rfl) (by decide) (by kernel_rfl) ?_ ?_
  · exact (by repeat (first | exact Ext.refl _ | assumption | refine Ext.drew ?_ | refine Ext.drewN ?_ _ | refine Ext.iter ?_ _ _ | refine Ext.alloc ?_ _ | refine Ext.setCell ?_ (by first | exact Nat.le_refl _ | (simp <;> omega)) _ | refine Ext.trans2 (by assumption) ?_))
  refine canon_intro fun ops eo => ?_
  have ho0 := canon_at eo 0 rfl
  have ho1 := canon_at eo 1 rfl
  have ho2 := canon_at eo 2 rfl
  have ho3 := canon_at eo 3 rfl
  have ho4 := canon_at eo 4 rfl
  have ho5 := canon_at eo 5 rfl
  have ho6 := canon_at eo 6 rfl
  have ho7 := canon_at eo 7 rfl
  have ho8 := canon_at eo 8 rfl
  clear eo
  all_goals (apply canon_st ho0 rfl; (intro w2 hS; first | (go_simp; first | done | rfl) | rfl | (obtain ⟨hc, hf, hk, hz⟩ := ecell hS; go_simp; first | done | rfl)); simp only [Act.put, List.setIfInBounds_toArray, List.set_cons_zero, List.set_cons_succ])
  all_goals clear ho0
  all_goals (apply canon_st ho1 rfl; (intro w2 hS; first | (go_simp; first | done | rfl) | rfl | (obtain ⟨hc, hf, hk, hz⟩ := ecell hS; go_simp; first | done | rfl)); simp only [Act.put, List.setIfInBounds_toArray, List.set_cons_zero, List.set_cons_succ])
  all_goals clear ho1
  all_goals (apply canon_st ho2 rfl; (intro w2 hS; first | (go_simp; first | done | rfl) | rfl | (obtain ⟨hc, hf, hk, hz⟩ := ecell hS; go_simp; first | done | rfl)); simp only [Act.put, List.setIfInBounds_toArray, List.set_cons_zero, List.set_cons_succ])
  all_goals clear ho2
  all_goals (apply canon_st ho3 rfl; (intro w2 hS; first | (go_simp; first | done | rfl) | rfl | (obtain ⟨hc, hf, hk, hz⟩ := ecell hS; go_simp; first | done | rfl)); simp only [Act.put, List.setIfInBounds_toArray, List.set_cons_zero, List.set_cons_succ])
  all_goals clear ho3
  all_goals (apply canon_st ho4 rfl; (intro w2 hS; first | (go_simp; first | done | rfl) | rfl | (obtain ⟨hc, hf, hk, hz⟩ := ecell hS; go_simp; first | done | rfl)); simp only [Act.put, List.setIfInBounds_toArray, List.set_cons_zero, List.set_cons_succ])
  all_goals clear ho4
  all_goals first | (refine canon_ef ho5 rfl (fun K hK => ?_); go_simp; ((go_at_call 218; refine (sWidth_c m _ _ (by omega) HQ.out HP.out).mono ?_; rintro e w1 ⟨rfl, hb⟩; rw [HW.out]; (obtain ⟨hc, hf, hk, hz⟩ := ecell hb; try (have hx := Ext.trans2 hb (by assumption); obtain ⟨hcx, hfx, hkx, hzx⟩ := ecell hx)); try simp at hz)); all_goals (refine hK _ _ ⟨(by repeat (first | exact Ext.refl _ | assumption | refine Ext.drew ?_ | refine Ext.drewN ?_ _ | refine Ext.iter ?_ _ _ | refine Ext.alloc ?_ _ | refine Ext.setCell ?_ (by first | exact Nat.le_refl _ | (simp <;> omega)) _ | refine Ext.trans2 (by assumption) ?_)), ?_⟩; clear hK K; go_simp))
  all_goals clear ho5
  all_goals (apply canon_st ho6 rfl; (intro w2 hS; first | (go_simp; first | done | rfl) | rfl | (obtain ⟨hc, hf, hk, hz⟩ := ecell hS; go_simp; first | done | rfl)); simp only [Act.put, List.setIfInBounds_toArray, List.set_cons_zero, List.set_cons_succ])
  all_goals clear ho6
  all_goals (apply canon_st ho7 rfl; (intro w2 hS; first | (go_simp; first | done | rfl) | rfl | (obtain ⟨hc, hf, hk, hz⟩ := ecell hS; go_simp; first | done | rfl)); simp only [Act.put, List.setIfInBounds_toArray, List.set_cons_zero, List.set_cons_succ])
  all_goals clear ho7
  all_goals (apply canon_st ho8 rfl; (intro w2 hS; first | (go_simp; first | done | rfl) | rfl | (obtain ⟨hc, hf, hk, hz⟩ := ecell hS; go_simp; first | done | rfl)); simp only [Act.put, List.setIfInBounds_toArray, List.set_cons_zero, List.set_cons_succ])
  all_goals clear ho8
  all_goals refine canon_done (NoPanic.normal ?_)
  clear e1 e2 e3
  go_wp2_with (first
    | (go_at_call 218; refine (sWidth_c m _ _ (by omega) (by intro h; have := HQ.out h; omega) (by intro h; have := HP.out h; omega)).mono ?_; rintro e w1 ⟨rfl, hb⟩))
  all_goals go_ret
  all_goals refine ⟨ret_int ?_, (by repeat (first | exact Ext.refl _ | assumption | refine Ext.drew ?_ | refine Ext.drewN ?_ _ | refine Ext.iter ?_ _ _ | refine Ext.alloc ?_ _ | refine Ext.setCell ?_ (by first | exact Nat.le_refl _ | (simp <;> omega)) _ | refine Ext.trans2 (by assumption) ?_))⟩
  all_goals first
    | (rw [if_pos (by omega)]; exact Int.add_assoc _ _ _)
    | (rw [if_neg (by omega)]; simp)
    | exact Int.add_assoc _ _ _
    | rfl

theorem sLength1_c (m n W : Int) (w : World) (hn : 0 ≤ n ∧ n ≤ 1000000) (hG : grp m = 1) (hW : wid m 1 = W) (hWb : 0 ≤ W ∧ W ≤ 11) (h2 : m = 2 → (1 : Int) ≤ 2) :
    Calls Try.prog 220 #[.int .i64 m, .int .i64 n] w fun e w' => e = .returned (.int .i64 (11 + (n * W + 0))) ∧ Ext w w' := by
  have h3 : m = 1 → (1 : Int) ≤ 3 := by intro _; omega
  have HG := Lib.hid hG; clear hG
  have HW := Lib.hid hW; clear hW
  have HP := Lib.hid h2; have HQ := Lib.hid h3; clear h2 h3
  have hp : 0 ≤ n * W := Int.mul_nonneg (by omega) hWb.1
  have hp2 : n * W ≤ 1000000 * 11 := Int.mul_le_mul (by omega) hWb.2 hWb.1 (by omega)
  have e1 : IntKind.i64.wrap n = n := by exact IntWalk.i64_in _ (by omega)
  have e2 : IntKind.i64.wrap (n * W) = n * W := IntWalk.i64_in _ (by omega)
  have e3 : IntKind.i64.wrap (11 + n * W) = 11 + n * W := IntWalk.i64_in _ (by omega)
  go_enter Try.func220, Try.ntmps220
  go_wp2_with (first
    | (go_at_call 216; refine (sGroup_c _ _).mono ?_; rintro e w1 ⟨rfl, rfl⟩; rw [HG.out]))
  refine wp_region_canon (fun w' => Ext w w') [(0, true), (1, true), (2, true), (3, true), (4, true), (5, false), (6, true), (7, true), (8, true)] (by kernel_rfl) (by kernel_rfl) (by decide) (by kernel_rfl) ?_ ?_
  · exact (by repeat (first | exact Ext.refl _ | assumption | refine Ext.drew ?_ | refine Ext.drewN ?_ _ | refine Ext.iter ?_ _ _ | refine Ext.alloc ?_ _ | refine Ext.setCell ?_ (by first | exact Nat.le_refl _ | (simp <;> omega)) _ | refine Ext.trans2 (by assumption) ?_))
  refine canon_intro fun ops eo => ?_
  have ho0 := canon_at eo 0 rfl
  have ho1 := canon_at eo 1 rfl
  have ho2 := canon_at eo 2 rfl
  have ho3 := canon_at eo 3 rfl
  have ho4 := canon_at eo 4 rfl
  have ho5 := canon_at eo 5 rfl
  have ho6 := canon_at eo 6 rfl
  have ho7 := canon_at eo 7 rfl
  have ho8 := canon_at eo 8 rfl
  clear eo
  all_goals (apply canon_st ho0 rfl; (intro w2 hS; first | (go_simp; first | done | rfl) | rfl | (obtain ⟨hc, hf, hk, hz⟩ := ecell hS; go_simp; first | done | rfl)); simp only [Act.put, List.setIfInBounds_toArray, List.set_cons_zero, List.set_cons_succ])
  all_goals clear ho0
  all_goals (apply canon_st ho1 rfl; (intro w2 hS; first | (go_simp; first | done | rfl) | rfl | (obtain ⟨hc, hf, hk, hz⟩ := ecell hS; go_simp; first | done | rfl)); simp only [Act.put, List.setIfInBounds_toArray, List.set_cons_zero, List.set_cons_succ])
  all_goals clear ho1
  all_goals (apply canon_st ho2 rfl; (intro w2 hS; first | (go_simp; first | done | rfl) | rfl | (obtain ⟨hc, hf, hk, hz⟩ := ecell hS; go_simp; first | done | rfl)); simp only [Act.put, List.setIfInBounds_toArray, List.set_cons_zero, List.set_cons_succ])
  all_goals clear ho2
  all_goals (apply canon_st ho3 rfl; (intro w2 hS; first | (go_simp; first | done | rfl) | rfl | (obtain ⟨hc, hf, hk, hz⟩ := ecell hS; go_simp; first | done | rfl)); simp only [Act.put, List.setIfInBounds_toArray, List.set_cons_zero, List.set_cons_succ])
  all_goals clear ho3
  all_goals (apply canon_st ho4 rfl; (intro w2 hS; first | (go_simp; first | done | rfl) | rfl | (obtain ⟨hc, hf, hk, hz⟩ := ecell hS; go_simp; first | done | rfl)); simp only [Act.put, List.setIfInBounds_toArray, List.set_cons_zero, List.set_cons_succ])
  all_goals clear ho4
  all_goals first | (refine canon_ef ho5 rfl (fun K hK => ?_); go_simp; ((go_at_call 218; refine (sWidth_c m _ _ (by omega) HQ.out HP.out).mono ?_; rintro e w1 ⟨rfl, hb⟩; rw [HW.out]; (obtain ⟨hc, hf, hk, hz⟩ := ecell hb; try (have hx := Ext.trans2 hb (by assumption); obtain ⟨hcx, hfx, hkx, hzx⟩ := ecell hx)); try simp at hz)); all_goals (refine hK _ _ ⟨(by repeat (first | exact Ext.refl _ | assumption | refine Ext.drew ?_ | refine Ext.drewN ?_ _ | refine Ext.iter ?_ _ _ | refine Ext.alloc ?_ _ | refine Ext.setCell ?_ (by first | exact Nat.le_refl _ | (simp <;> omega)) _ | refine Ext.trans2 (by assumption) ?_)), ?_⟩; clear hK K; go_simp))
  all_goals clear ho5
  all_goals (apply canon_st ho6 rfl; (intro w2 hS; first | (go_simp; first | done | rfl) | rfl | (obtain ⟨hc, hf, hk, hz⟩ := ecell hS; go_simp; first | done | rfl)); simp only [Act.put, List.setIfInBounds_toArray, List.set_cons_zero, List.set_cons_succ])
  all_goals clear ho6
  all_goals (apply canon_st ho7 rfl; (intro w2 hS; first | (go_simp; first | done | rfl) | rfl | (obtain ⟨hc, hf, hk, hz⟩ := ecell hS; go_simp; first | done | rfl)); simp only [Act.put, List.setIfInBounds_toArray, List.set_cons_zero, List.set_cons_succ])
  all_goals clear ho7
  all_goals (apply canon_st ho8 rfl; (intro w2 hS; first | (go_simp; first | done | rfl) | rfl | (obtain ⟨hc, hf, hk, hz⟩ := ecell hS; go_simp; first | done | rfl)); simp only [Act.put, List.setIfInBounds_toArray, List.set_cons_zero, List.set_cons_succ])
  all_goals clear ho8
  all_goals refine canon_done (NoPanic.normal ?_)
  clear e1 e2 e3
  go_wp2_with (first
    | (go_at_call 218; refine (sWidth_c m _ _ (by omega) (by intro h; have := HQ.out h; omega) (by intro h; have := HP.out h; omega)).mono ?_; rintro e w1 ⟨rfl, hb⟩))
  all_goals go_ret
  all_goals refine ⟨ret_int ?_, (by repeat (first | exact Ext.refl _ | assumption | refine Ext.drew ?_ | refine Ext.drewN ?_ _ | refine Ext.iter ?_ _ _ | refine Ext.alloc ?_ _ | refine Ext.setCell ?_ (by first | exact Nat.le_refl _ | (simp <;> omega)) _ | refine Ext.trans2 (by assumption) ?_))⟩
  all_goals first
    | omega
    | (simp; done)
    | skip

theorem sLength_c (m n : Int) (w : World) (hm : 1 ≤ m ∧ m ≤ 4) (hn : 0 ≤ n ∧ n ≤ 1000000) :
    Calls Try.prog 220 #[.int .i64 m, .int .i64 n] w fun e w' => e = .returned (.int .i64 (11 + textW m n)) ∧ Ext w w' := by
  rw [textW_grp m n hm hn]
  have h2 := grp_bd m
  have h4 : m = 2 → grp m ≤ 2 := by intro h; subst h; decide
  have : grp m = 1 ∨ grp m = 2 ∨ grp m = 3 := by omega
  rcases this with h | h | h
  · rw [h]
    have := sLength1_c m n _ w hn h rfl (wid_bd m 1) (by omega)
    simpa using this
  · rw [h]
    exact sLength2_c m n _ w hn h rfl (wid_bd m 2) (by omega)
  · rw [h]
    exact sLength3_c m n _ w hn h rfl (wid_bd m 3) (by rw [h] at h4; exact h4)

end Go.Proofs.Ytbnpdpmbbppnhaa