
/- Damages: what is a valid one, on both sides. -/
import Derived.Test.YthpnkcamjcohgaaDoorStructs
import Derived.Deep.DeepCutAuto
namespace Go.Proofs.YthpnkcamjcohgaaDoor
set_option linter.unusedVariables false
set_option linter.unusedSimpArgs false
open Go.RowKit

structure Dam where
  k : Int
  r : Int
  c : Int
  t : Int
  w : Int
  g : Int
def fD (d : Dam) : List Value := [.int .i64 d.k, .int .i64 d.r, .int .i64 d.c, .int .i64 d.t, .int .i64 d.w, .int .i64 d.g]
abbrev vDm (k r c t w g : Int) : Value := .agg #[.int .i64 k, .int .i64 r, .int .i64 c, .int .i64 t, .int .i64 w, .int .i64 g]
def blotOK (k r c t w g : Int) : Prop := (0 ≤ r ∧ r ≤ 400) ∧ (0 ≤ c ∧ c ≤ 400) ∧ (0 ≤ t ∧ t ≤ 400) ∧ w = 0
def scratchOK (k r c t w g : Int) : Prop := (0 ≤ r ∧ r ≤ 400) ∧ (0 ≤ c ∧ c ≤ 400) ∧ (1 ≤ t ∧ t ≤ 400) ∧ (1 ≤ w ∧ w ≤ 400)
def skewOK (k r c t w g : Int) : Prop := r = 0 ∧ c = 0 ∧ (1 ≤ t ∧ t ≤ 400) ∧ (-400 ≤ w ∧ w ≤ 400)
def noiseOK (k r c t w g : Int) : Prop := (0 ≤ r ∧ r ≤ 400) ∧ (0 ≤ t ∧ t ≤ 400) ∧ c = 0 ∧ w = 0
def fadeOK (k r c t w g : Int) : Prop := r = 0 ∧ c = 0 ∧ w = 0 ∧ (0 ≤ t ∧ t ≤ 256)
set_option maxRecDepth 100000 in
theorem blotFine_c (k r c t w g : Int) (W : World) :
    Calls Tryd.prog 205 #[.agg #[.int .i64 k, .int .i64 r, .int .i64 c, .int .i64 t, .int .i64 w, .int .i64 g]] W fun e w' => isB e (blotOK k r c t w g) ∧ Ext W w' := by
  go_enter Tryd.func205, Tryd.ntmps205
  go_wp2_with (go_at_call 51; (with_reducible refine (inRange_c _ _ _ _).mono ?_); rintro e w1 ⟨⟨hP, rfl⟩ | ⟨hP, rfl⟩, rfl⟩)
  all_goals go_ret
  all_goals first
    | exact ⟨isB_t (by unfold blotOK; omega), (by repeat (first | exact Ext.refl _ | assumption | refine Ext.drew ?_ | refine Ext.drewN ?_ _ | refine Ext.iter ?_ _ _ | refine Ext.alloc ?_ _ | refine Ext.setCell ?_ (by first | exact Nat.le_refl _ | (simp <;> omega)) _ | refine Ext.trans2 (by assumption) ?_))⟩
    | exact ⟨isB_f (by unfold blotOK; omega), (by repeat (first | exact Ext.refl _ | assumption | refine Ext.drew ?_ | refine Ext.drewN ?_ _ | refine Ext.iter ?_ _ _ | refine Ext.alloc ?_ _ | refine Ext.setCell ?_ (by first | exact Nat.le_refl _ | (simp <;> omega)) _ | refine Ext.trans2 (by assumption) ?_))⟩
    | exact ⟨isB_m (by unfold blotOK; simp; omega), (by repeat (first | exact Ext.refl _ | assumption | refine Ext.drew ?_ | refine Ext.drewN ?_ _ | refine Ext.iter ?_ _ _ | refine Ext.alloc ?_ _ | refine Ext.setCell ?_ (by first | exact Nat.le_refl _ | (simp <;> omega)) _ | refine Ext.trans2 (by assumption) ?_))⟩
set_option maxRecDepth 100000 in
theorem scratchFine_c (k r c t w g : Int) (W : World) :
    Calls Tryd.prog 209 #[.agg #[.int .i64 k, .int .i64 r, .int .i64 c, .int .i64 t, .int .i64 w, .int .i64 g]] W fun e w' => isB e (scratchOK k r c t w g) ∧ Ext W w' := by
  go_enter Tryd.func209, Tryd.ntmps209
  go_wp2_with (go_at_call 51; (with_reducible refine (inRange_c _ _ _ _).mono ?_); rintro e w1 ⟨⟨hP, rfl⟩ | ⟨hP, rfl⟩, rfl⟩)
  all_goals go_ret
  all_goals first
    | exact ⟨isB_t (by unfold scratchOK; omega), (by repeat (first | exact Ext.refl _ | assumption | refine Ext.drew ?_ | refine Ext.drewN ?_ _ | refine Ext.iter ?_ _ _ | refine Ext.alloc ?_ _ | refine Ext.setCell ?_ (by first | exact Nat.le_refl _ | (simp <;> omega)) _ | refine Ext.trans2 (by assumption) ?_))⟩
    | exact ⟨isB_f (by unfold scratchOK; omega), (by repeat (first | exact Ext.refl _ | assumption | refine Ext.drew ?_ | refine Ext.drewN ?_ _ | refine Ext.iter ?_ _ _ | refine Ext.alloc ?_ _ | refine Ext.setCell ?_ (by first | exact Nat.le_refl _ | (simp <;> omega)) _ | refine Ext.trans2 (by assumption) ?_))⟩
    | exact ⟨isB_m (by unfold scratchOK; simp; omega), (by repeat (first | exact Ext.refl _ | assumption | refine Ext.drew ?_ | refine Ext.drewN ?_ _ | refine Ext.iter ?_ _ _ | refine Ext.alloc ?_ _ | refine Ext.setCell ?_ (by first | exact Nat.le_refl _ | (simp <;> omega)) _ | refine Ext.trans2 (by assumption) ?_))⟩
set_option maxRecDepth 100000 in
theorem skewFine_c (k r c t w g : Int) (W : World) :
    Calls Tryd.prog 213 #[.agg #[.int .i64 k, .int .i64 r, .int .i64 c, .int .i64 t, .int .i64 w, .int .i64 g]] W fun e w' => isB e (skewOK k r c t w g) ∧ Ext W w' := by
  go_enter Tryd.func213, Tryd.ntmps213
  go_wp2_with (go_at_call 51; (with_reducible refine (inRange_c _ _ _ _).mono ?_); rintro e w1 ⟨⟨hP, rfl⟩ | ⟨hP, rfl⟩, rfl⟩)
  all_goals go_ret
  all_goals first
    | exact ⟨isB_t (by unfold skewOK; omega), (by repeat (first | exact Ext.refl _ | assumption | refine Ext.drew ?_ | refine Ext.drewN ?_ _ | refine Ext.iter ?_ _ _ | refine Ext.alloc ?_ _ | refine Ext.setCell ?_ (by first | exact Nat.le_refl _ | (simp <;> omega)) _ | refine Ext.trans2 (by assumption) ?_))⟩
    | exact ⟨isB_f (by unfold skewOK; omega), (by repeat (first | exact Ext.refl _ | assumption | refine Ext.drew ?_ | refine Ext.drewN ?_ _ | refine Ext.iter ?_ _ _ | refine Ext.alloc ?_ _ | refine Ext.setCell ?_ (by first | exact Nat.le_refl _ | (simp <;> omega)) _ | refine Ext.trans2 (by assumption) ?_))⟩
    | exact ⟨isB_m (by unfold skewOK; simp; omega), (by repeat (first | exact Ext.refl _ | assumption | refine Ext.drew ?_ | refine Ext.drewN ?_ _ | refine Ext.iter ?_ _ _ | refine Ext.alloc ?_ _ | refine Ext.setCell ?_ (by first | exact Nat.le_refl _ | (simp <;> omega)) _ | refine Ext.trans2 (by assumption) ?_))⟩
set_option maxRecDepth 100000 in
theorem noiseFine_c (k r c t w g : Int) (W : World) :
    Calls Tryd.prog 217 #[.agg #[.int .i64 k, .int .i64 r, .int .i64 c, .int .i64 t, .int .i64 w, .int .i64 g]] W fun e w' => isB e (noiseOK k r c t w g) ∧ Ext W w' := by
  go_enter Tryd.func217, Tryd.ntmps217
  go_wp2_with (go_at_call 51; (with_reducible refine (inRange_c _ _ _ _).mono ?_); rintro e w1 ⟨⟨hP, rfl⟩ | ⟨hP, rfl⟩, rfl⟩)
  all_goals go_ret
  all_goals first
    | exact ⟨isB_t (by unfold noiseOK; omega), (by repeat (first | exact Ext.refl _ | assumption | refine Ext.drew ?_ | refine Ext.drewN ?_ _ | refine Ext.iter ?_ _ _ | refine Ext.alloc ?_ _ | refine Ext.setCell ?_ (by first | exact Nat.le_refl _ | (simp <;> omega)) _ | refine Ext.trans2 (by assumption) ?_))⟩
    | exact ⟨isB_f (by unfold noiseOK; omega), (by repeat (first | exact Ext.refl _ | assumption | refine Ext.drew ?_ | refine Ext.drewN ?_ _ | refine Ext.iter ?_ _ _ | refine Ext.alloc ?_ _ | refine Ext.setCell ?_ (by first | exact Nat.le_refl _ | (simp <;> omega)) _ | refine Ext.trans2 (by assumption) ?_))⟩
    | exact ⟨isB_m (by unfold noiseOK; simp; omega), (by repeat (first | exact Ext.refl _ | assumption | refine Ext.drew ?_ | refine Ext.drewN ?_ _ | refine Ext.iter ?_ _ _ | refine Ext.alloc ?_ _ | refine Ext.setCell ?_ (by first | exact Nat.le_refl _ | (simp <;> omega)) _ | refine Ext.trans2 (by assumption) ?_))⟩
set_option maxRecDepth 100000 in
theorem fadeFine_c (k r c t w g : Int) (W : World) :
    Calls Tryd.prog 221 #[.agg #[.int .i64 k, .int .i64 r, .int .i64 c, .int .i64 t, .int .i64 w, .int .i64 g]] W fun e w' => isB e (fadeOK k r c t w g) ∧ Ext W w' := by
  go_enter Tryd.func221, Tryd.ntmps221
  go_wp2_with (go_at_call 51; (with_reducible refine (inRange_c _ _ _ _).mono ?_); rintro e w1 ⟨⟨hP, rfl⟩ | ⟨hP, rfl⟩, rfl⟩)
  all_goals go_ret
  all_goals first
    | exact ⟨isB_t (by unfold fadeOK; omega), (by repeat (first | exact Ext.refl _ | assumption | refine Ext.drew ?_ | refine Ext.drewN ?_ _ | refine Ext.iter ?_ _ _ | refine Ext.alloc ?_ _ | refine Ext.setCell ?_ (by first | exact Nat.le_refl _ | (simp <;> omega)) _ | refine Ext.trans2 (by assumption) ?_))⟩
    | exact ⟨isB_f (by unfold fadeOK; omega), (by repeat (first | exact Ext.refl _ | assumption | refine Ext.drew ?_ | refine Ext.drewN ?_ _ | refine Ext.iter ?_ _ _ | refine Ext.alloc ?_ _ | refine Ext.setCell ?_ (by first | exact Nat.le_refl _ | (simp <;> omega)) _ | refine Ext.trans2 (by assumption) ?_))⟩
    | exact ⟨isB_m (by unfold fadeOK; simp; omega), (by repeat (first | exact Ext.refl _ | assumption | refine Ext.drew ?_ | refine Ext.drewN ?_ _ | refine Ext.iter ?_ _ _ | refine Ext.alloc ?_ _ | refine Ext.setCell ?_ (by first | exact Nat.le_refl _ | (simp <;> omega)) _ | refine Ext.trans2 (by assumption) ?_))⟩
def blotW : ByteArray := ⟨#[98, 108, 111, 116]⟩
def scratchW : ByteArray := ⟨#[115, 99, 114, 97, 116, 99, 104]⟩
def skewW : ByteArray := ⟨#[115, 107, 101, 119]⟩
def noiseW : ByteArray := ⟨#[110, 111, 105, 115, 101]⟩
def fadeW : ByteArray := ⟨#[102, 97, 100, 101]⟩
set_option maxRecDepth 100000 in
theorem blotWord_c (cs : Array Value) (W : World) :
    Calls Tryd.prog 206 #[.agg cs] W fun e w' => e = .returned (.string blotW) ∧ Ext W w' := by
  go_enter Tryd.func206, Tryd.ntmps206
  go_wp2
  go_ret
  exact ⟨rfl, (by repeat (first | exact Ext.refl _ | assumption | refine Ext.drew ?_ | refine Ext.drewN ?_ _ | refine Ext.iter ?_ _ _ | refine Ext.alloc ?_ _ | refine Ext.setCell ?_ (by first | exact Nat.le_refl _ | (simp <;> omega)) _ | refine Ext.trans2 (by assumption) ?_))⟩
set_option maxRecDepth 100000 in
theorem scratchWord_c (cs : Array Value) (W : World) :
    Calls Tryd.prog 210 #[.agg cs] W fun e w' => e = .returned (.string scratchW) ∧ Ext W w' := by
  go_enter Tryd.func210, Tryd.ntmps210
  go_wp2
  go_ret
  exact ⟨rfl, (by repeat (first | exact Ext.refl _ | assumption | refine Ext.drew ?_ | refine Ext.drewN ?_ _ | refine Ext.iter ?_ _ _ | refine Ext.alloc ?_ _ | refine Ext.setCell ?_ (by first | exact Nat.le_refl _ | (simp <;> omega)) _ | refine Ext.trans2 (by assumption) ?_))⟩
set_option maxRecDepth 100000 in
theorem skewWord_c (cs : Array Value) (W : World) :
    Calls Tryd.prog 214 #[.agg cs] W fun e w' => e = .returned (.string skewW) ∧ Ext W w' := by
  go_enter Tryd.func214, Tryd.ntmps214
  go_wp2
  go_ret
  exact ⟨rfl, (by repeat (first | exact Ext.refl _ | assumption | refine Ext.drew ?_ | refine Ext.drewN ?_ _ | refine Ext.iter ?_ _ _ | refine Ext.alloc ?_ _ | refine Ext.setCell ?_ (by first | exact Nat.le_refl _ | (simp <;> omega)) _ | refine Ext.trans2 (by assumption) ?_))⟩
set_option maxRecDepth 100000 in
theorem noiseWord_c (cs : Array Value) (W : World) :
    Calls Tryd.prog 218 #[.agg cs] W fun e w' => e = .returned (.string noiseW) ∧ Ext W w' := by
  go_enter Tryd.func218, Tryd.ntmps218
  go_wp2
  go_ret
  exact ⟨rfl, (by repeat (first | exact Ext.refl _ | assumption | refine Ext.drew ?_ | refine Ext.drewN ?_ _ | refine Ext.iter ?_ _ _ | refine Ext.alloc ?_ _ | refine Ext.setCell ?_ (by first | exact Nat.le_refl _ | (simp <;> omega)) _ | refine Ext.trans2 (by assumption) ?_))⟩
set_option maxRecDepth 100000 in
theorem fadeWord_c (cs : Array Value) (W : World) :
    Calls Tryd.prog 222 #[.agg cs] W fun e w' => e = .returned (.string fadeW) ∧ Ext W w' := by
  go_enter Tryd.func222, Tryd.ntmps222
  go_wp2
  go_ret
  exact ⟨rfl, (by repeat (first | exact Ext.refl _ | assumption | refine Ext.drew ?_ | refine Ext.drewN ?_ _ | refine Ext.iter ?_ _ _ | refine Ext.alloc ?_ _ | refine Ext.setCell ?_ (by first | exact Nat.le_refl _ | (simp <;> omega)) _ | refine Ext.trans2 (by assumption) ?_))⟩
/-- The type of the value that a damage's kind has. -/
def kT (k : Int) : TypeId := if k = 1 then 134 else if k = 2 then 135 else if k = 3 then 136 else if k = 4 then 137 else 138
set_option maxRecDepth 100000 in
theorem harm_c (k r c t w g : Int) (W : World) :
    Calls Tryd.prog 42 #[vDm k r c t w g] W fun e w' => e = .returned (.tuple #[.iface (kT k) (vDm k r c t w g), .bool (decide (1 ≤ k ∧ k ≤ 5))]) ∧ Ext W w' := by
  by_cases h1 : k = 1
  · subst h1
    go_enter Tryd.func42, Tryd.ntmps42
    go_wp2
    go_ret2
    exact ⟨rfl, (by repeat (first | exact Ext.refl _ | assumption | refine Ext.drew ?_ | refine Ext.drewN ?_ _ | refine Ext.iter ?_ _ _ | refine Ext.alloc ?_ _ | refine Ext.setCell ?_ (by first | exact Nat.le_refl _ | (simp <;> omega)) _ | refine Ext.trans2 (by assumption) ?_))⟩
  by_cases h2 : k = 2
  · subst h2
    go_enter Tryd.func42, Tryd.ntmps42
    go_wp2
    go_ret2
    exact ⟨rfl, (by repeat (first | exact Ext.refl _ | assumption | refine Ext.drew ?_ | refine Ext.drewN ?_ _ | refine Ext.iter ?_ _ _ | refine Ext.alloc ?_ _ | refine Ext.setCell ?_ (by first | exact Nat.le_refl _ | (simp <;> omega)) _ | refine Ext.trans2 (by assumption) ?_))⟩
  by_cases h3 : k = 3
  · subst h3
    go_enter Tryd.func42, Tryd.ntmps42
    go_wp2
    go_ret2
    exact ⟨rfl, (by repeat (first | exact Ext.refl _ | assumption | refine Ext.drew ?_ | refine Ext.drewN ?_ _ | refine Ext.iter ?_ _ _ | refine Ext.alloc ?_ _ | refine Ext.setCell ?_ (by first | exact Nat.le_refl _ | (simp <;> omega)) _ | refine Ext.trans2 (by assumption) ?_))⟩
  by_cases h4 : k = 4
  · subst h4
    go_enter Tryd.func42, Tryd.ntmps42
    go_wp2
    go_ret2
    exact ⟨rfl, (by repeat (first | exact Ext.refl _ | assumption | refine Ext.drew ?_ | refine Ext.drewN ?_ _ | refine Ext.iter ?_ _ _ | refine Ext.alloc ?_ _ | refine Ext.setCell ?_ (by first | exact Nat.le_refl _ | (simp <;> omega)) _ | refine Ext.trans2 (by assumption) ?_))⟩
  have hk : kT k = 138 := by simp [kT, h1, h2, h3, h4]
  rw [hk]
  by_cases h5 : k = 5
  · subst h5
    go_enter Tryd.func42, Tryd.ntmps42
    go_wp2
    go_ret2
    exact ⟨rfl, (by repeat (first | exact Ext.refl _ | assumption | refine Ext.drew ?_ | refine Ext.drewN ?_ _ | refine Ext.iter ?_ _ _ | refine Ext.alloc ?_ _ | refine Ext.setCell ?_ (by first | exact Nat.le_refl _ | (simp <;> omega)) _ | refine Ext.trans2 (by assumption) ?_))⟩
  have hb : decide (1 ≤ k ∧ k ≤ 5) = false := by rw [decide_eq_false_iff_not]; omega
  rw [hb]
  go_enter Tryd.func42, Tryd.ntmps42
  go_wp2
  go_ret2
  exact ⟨rfl, (by repeat (first | exact Ext.refl _ | assumption | refine Ext.drew ?_ | refine Ext.drewN ?_ _ | refine Ext.iter ?_ _ _ | refine Ext.alloc ?_ _ | refine Ext.setCell ?_ (by first | exact Nat.le_refl _ | (simp <;> omega)) _ | refine Ext.trans2 (by assumption) ?_))⟩
def damOK (k r c t w g : Int) : Prop :=
  ((k = 1 ∧ blotOK k r c t w g) ∨ (k = 2 ∧ scratchOK k r c t w g) ∨ (k = 3 ∧ skewOK k r c t w g) ∨ (k = 4 ∧ noiseOK k r c t w g) ∨ (k = 5 ∧ fadeOK k r c t w g)) ∧ 0 ≤ g ∧ g ≤ 255
theorem kT_1 : kT 1 = 134 := by simp [kT]
theorem kT_2 : kT 2 = 135 := by simp [kT]
theorem kT_3 : kT 3 = 136 := by simp [kT]
theorem kT_4 : kT 4 = 137 := by simp [kT]
theorem kT_5 : kT 5 = 138 := by simp [kT]
theorem damOK_1 {r c t w g : Int} : damOK 1 r c t w g ↔ blotOK 1 r c t w g ∧ 0 ≤ g ∧ g ≤ 255 := by simp [damOK]
set_option maxRecDepth 100000 in
theorem iIsblot_c (r c t w g : Int) (W : World) :
    Calls Tryd.prog 86 #[vDm 1 r c t w g] W fun e w' => isB e (damOK 1 r c t w g) ∧ Ext W w' := by
  have hm : ∀ w0 : World, (method 377 134 (vDm 1 r c t w g) "loop.example/g00879/impl.fine").run Tryd.prog w0 = .ok (205, vDm 1 r c t w g) w0 := fun _ => by kernel_rfl
  have hh := Lib.hid (fun W => harm_c 1 r c t w g W)
  simp only [kT_1] at hh
  have hf := Lib.hid (fun W => blotFine_c 1 r c t w g W)
  have hB0 := Blk.new W #[.int .i64 1, .int .i64 r, .int .i64 c, .int .i64 t, .int .i64 w, .int .i64 g] 72
  go_enter Tryd.func86, Tryd.ntmps86
  go_wp2_with (first | (go_at_call 42; (with_reducible refine (hh.out _).mono ?_); rintro e w1 ⟨rfl, hx1⟩) | (go_at_call 51; (with_reducible refine (inRange_c _ _ _ _).mono ?_); rintro e w3 ⟨⟨hP, rfl⟩ | ⟨hP, rfl⟩, rfl⟩) | (go_at_call 205; (with_reducible refine (hf.out _).mono ?_); rintro e w2 ⟨⟨hQ, rfl⟩ | ⟨hQ, rfl⟩, hx2⟩ <;> have c5 := ((hB0.ext hx1).ext hx2).cell (i := 5) (v := .int .i64 g) rfl <;> have cl := ((hB0.ext hx1).ext hx2).lt))
  all_goals go_ret
  all_goals first
    | exact ⟨isB_t (damOK_1.2 ⟨hQ, hP⟩), (by repeat (first | exact Ext.refl _ | assumption | refine Ext.drew ?_ | refine Ext.drewN ?_ _ | refine Ext.iter ?_ _ _ | refine Ext.alloc ?_ _ | refine Ext.setCell ?_ (by first | exact Nat.le_refl _ | (simp <;> omega)) _ | refine Ext.trans2 (by assumption) ?_))⟩
    | exact ⟨isB_f (fun h => hQ (damOK_1.1 h).1), (by repeat (first | exact Ext.refl _ | assumption | refine Ext.drew ?_ | refine Ext.drewN ?_ _ | refine Ext.iter ?_ _ _ | refine Ext.alloc ?_ _ | refine Ext.setCell ?_ (by first | exact Nat.le_refl _ | (simp <;> omega)) _ | refine Ext.trans2 (by assumption) ?_))⟩
    | exact ⟨isB_f (fun h => hP (damOK_1.1 h).2), (by repeat (first | exact Ext.refl _ | assumption | refine Ext.drew ?_ | refine Ext.drewN ?_ _ | refine Ext.iter ?_ _ _ | refine Ext.alloc ?_ _ | refine Ext.setCell ?_ (by first | exact Nat.le_refl _ | (simp <;> omega)) _ | refine Ext.trans2 (by assumption) ?_))⟩
theorem damOK_2 {r c t w g : Int} : damOK 2 r c t w g ↔ scratchOK 2 r c t w g ∧ 0 ≤ g ∧ g ≤ 255 := by simp [damOK]
set_option maxRecDepth 100000 in
theorem iIsscratch_c (r c t w g : Int) (W : World) :
    Calls Tryd.prog 86 #[vDm 2 r c t w g] W fun e w' => isB e (damOK 2 r c t w g) ∧ Ext W w' := by
  have hm : ∀ w0 : World, (method 377 135 (vDm 2 r c t w g) "loop.example/g00879/impl.fine").run Tryd.prog w0 = .ok (209, vDm 2 r c t w g) w0 := fun _ => by kernel_rfl
  have hh := Lib.hid (fun W => harm_c 2 r c t w g W)
  simp only [kT_2] at hh
  have hf := Lib.hid (fun W => scratchFine_c 2 r c t w g W)
  have hB0 := Blk.new W #[.int .i64 2, .int .i64 r, .int .i64 c, .int .i64 t, .int .i64 w, .int .i64 g] 72
  go_enter Tryd.func86, Tryd.ntmps86
  go_wp2_with (first | (go_at_call 42; (with_reducible refine (hh.out _).mono ?_); rintro e w1 ⟨rfl, hx1⟩) | (go_at_call 51; (with_reducible refine (inRange_c _ _ _ _).mono ?_); rintro e w3 ⟨⟨hP, rfl⟩ | ⟨hP, rfl⟩, rfl⟩) | (go_at_call 209; (with_reducible refine (hf.out _).mono ?_); rintro e w2 ⟨⟨hQ, rfl⟩ | ⟨hQ, rfl⟩, hx2⟩ <;> have c5 := ((hB0.ext hx1).ext hx2).cell (i := 5) (v := .int .i64 g) rfl <;> have cl := ((hB0.ext hx1).ext hx2).lt))
  all_goals go_ret
  all_goals first
    | exact ⟨isB_t (damOK_2.2 ⟨hQ, hP⟩), (by repeat (first | exact Ext.refl _ | assumption | refine Ext.drew ?_ | refine Ext.drewN ?_ _ | refine Ext.iter ?_ _ _ | refine Ext.alloc ?_ _ | refine Ext.setCell ?_ (by first | exact Nat.le_refl _ | (simp <;> omega)) _ | refine Ext.trans2 (by assumption) ?_))⟩
    | exact ⟨isB_f (fun h => hQ (damOK_2.1 h).1), (by repeat (first | exact Ext.refl _ | assumption | refine Ext.drew ?_ | refine Ext.drewN ?_ _ | refine Ext.iter ?_ _ _ | refine Ext.alloc ?_ _ | refine Ext.setCell ?_ (by first | exact Nat.le_refl _ | (simp <;> omega)) _ | refine Ext.trans2 (by assumption) ?_))⟩
    | exact ⟨isB_f (fun h => hP (damOK_2.1 h).2), (by repeat (first | exact Ext.refl _ | assumption | refine Ext.drew ?_ | refine Ext.drewN ?_ _ | refine Ext.iter ?_ _ _ | refine Ext.alloc ?_ _ | refine Ext.setCell ?_ (by first | exact Nat.le_refl _ | (simp <;> omega)) _ | refine Ext.trans2 (by assumption) ?_))⟩
theorem damOK_3 {r c t w g : Int} : damOK 3 r c t w g ↔ skewOK 3 r c t w g ∧ 0 ≤ g ∧ g ≤ 255 := by simp [damOK]
set_option maxRecDepth 100000 in
theorem iIsskew_c (r c t w g : Int) (W : World) :
    Calls Tryd.prog 86 #[vDm 3 r c t w g] W fun e w' => isB e (damOK 3 r c t w g) ∧ Ext W w' := by
  have hm : ∀ w0 : World, (method 377 136 (vDm 3 r c t w g) "loop.example/g00879/impl.fine").run Tryd.prog w0 = .ok (213, vDm 3 r c t w g) w0 := fun _ => by kernel_rfl
  have hh := Lib.hid (fun W => harm_c 3 r c t w g W)
  simp only [kT_3] at hh
  have hf := Lib.hid (fun W => skewFine_c 3 r c t w g W)
  have hB0 := Blk.new W #[.int .i64 3, .int .i64 r, .int .i64 c, .int .i64 t, .int .i64 w, .int .i64 g] 72
  go_enter Tryd.func86, Tryd.ntmps86
  go_wp2_with (first | (go_at_call 42; (with_reducible refine (hh.out _).mono ?_); rintro e w1 ⟨rfl, hx1⟩) | (go_at_call 51; (with_reducible refine (inRange_c _ _ _ _).mono ?_); rintro e w3 ⟨⟨hP, rfl⟩ | ⟨hP, rfl⟩, rfl⟩) | (go_at_call 213; (with_reducible refine (hf.out _).mono ?_); rintro e w2 ⟨⟨hQ, rfl⟩ | ⟨hQ, rfl⟩, hx2⟩ <;> have c5 := ((hB0.ext hx1).ext hx2).cell (i := 5) (v := .int .i64 g) rfl <;> have cl := ((hB0.ext hx1).ext hx2).lt))
  all_goals go_ret
  all_goals first
    | exact ⟨isB_t (damOK_3.2 ⟨hQ, hP⟩), (by repeat (first | exact Ext.refl _ | assumption | refine Ext.drew ?_ | refine Ext.drewN ?_ _ | refine Ext.iter ?_ _ _ | refine Ext.alloc ?_ _ | refine Ext.setCell ?_ (by first | exact Nat.le_refl _ | (simp <;> omega)) _ | refine Ext.trans2 (by assumption) ?_))⟩
    | exact ⟨isB_f (fun h => hQ (damOK_3.1 h).1), (by repeat (first | exact Ext.refl _ | assumption | refine Ext.drew ?_ | refine Ext.drewN ?_ _ | refine Ext.iter ?_ _ _ | refine Ext.alloc ?_ _ | refine Ext.setCell ?_ (by first | exact Nat.le_refl _ | (simp <;> omega)) _ | refine Ext.trans2 (by assumption) ?_))⟩
    | exact ⟨isB_f (fun h => hP (damOK_3.1 h).2), (by repeat (first | exact Ext.refl _ | assumption | refine Ext.drew ?_ | refine Ext.drewN ?_ _ | refine Ext.iter ?_ _ _ | refine Ext.alloc ?_ _ | refine Ext.setCell ?_ (by first | exact Nat.le_refl _ | (simp <;> omega)) _ | refine Ext.trans2 (by assumption) ?_))⟩
theorem damOK_4 {r c t w g : Int} : damOK 4 r c t w g ↔ noiseOK 4 r c t w g ∧ 0 ≤ g ∧ g ≤ 255 := by simp [damOK]
set_option maxRecDepth 100000 in
theorem iIsnoise_c (r c t w g : Int) (W : World) :
    Calls Tryd.prog 86 #[vDm 4 r c t w g] W fun e w' => isB e (damOK 4 r c t w g) ∧ Ext W w' := by
  have hm : ∀ w0 : World, (method 377 137 (vDm 4 r c t w g) "loop.example/g00879/impl.fine").run Tryd.prog w0 = .ok (217, vDm 4 r c t w g) w0 := fun _ => by kernel_rfl
  have hh := Lib.hid (fun W => harm_c 4 r c t w g W)
  simp only [kT_4] at hh
  have hf := Lib.hid (fun W => noiseFine_c 4 r c t w g W)
  have hB0 := Blk.new W #[.int .i64 4, .int .i64 r, .int .i64 c, .int .i64 t, .int .i64 w, .int .i64 g] 72
  go_enter Tryd.func86, Tryd.ntmps86
  go_wp2_with (first | (go_at_call 42; (with_reducible refine (hh.out _).mono ?_); rintro e w1 ⟨rfl, hx1⟩) | (go_at_call 51; (with_reducible refine (inRange_c _ _ _ _).mono ?_); rintro e w3 ⟨⟨hP, rfl⟩ | ⟨hP, rfl⟩, rfl⟩) | (go_at_call 217; (with_reducible refine (hf.out _).mono ?_); rintro e w2 ⟨⟨hQ, rfl⟩ | ⟨hQ, rfl⟩, hx2⟩ <;> have c5 := ((hB0.ext hx1).ext hx2).cell (i := 5) (v := .int .i64 g) rfl <;> have cl := ((hB0.ext hx1).ext hx2).lt))
  all_goals go_ret
  all_goals first
    | exact ⟨isB_t (damOK_4.2 ⟨hQ, hP⟩), (by repeat (first | exact Ext.refl _ | assumption | refine Ext.drew ?_ | refine Ext.drewN ?_ _ | refine Ext.iter ?_ _ _ | refine Ext.alloc ?_ _ | refine Ext.setCell ?_ (by first | exact Nat.le_refl _ | (simp <;> omega)) _ | refine Ext.trans2 (by assumption) ?_))⟩
    | exact ⟨isB_f (fun h => hQ (damOK_4.1 h).1), (by repeat (first | exact Ext.refl _ | assumption | refine Ext.drew ?_ | refine Ext.drewN ?_ _ | refine Ext.iter ?_ _ _ | refine Ext.alloc ?_ _ | refine Ext.setCell ?_ (by first | exact Nat.le_refl _ | (simp <;> omega)) _ | refine Ext.trans2 (by assumption) ?_))⟩
    | exact ⟨isB_f (fun h => hP (damOK_4.1 h).2), (by repeat (first | exact Ext.refl _ | assumption | refine Ext.drew ?_ | refine Ext.drewN ?_ _ | refine Ext.iter ?_ _ _ | refine Ext.alloc ?_ _ | refine Ext.setCell ?_ (by first | exact Nat.le_refl _ | (simp <;> omega)) _ | refine Ext.trans2 (by assumption) ?_))⟩
theorem damOK_5 {r c t w g : Int} : damOK 5 r c t w g ↔ fadeOK 5 r c t w g ∧ 0 ≤ g ∧ g ≤ 255 := by simp [damOK]
set_option maxRecDepth 100000 in
theorem iIsfade_c (r c t w g : Int) (W : World) :
    Calls Tryd.prog 86 #[vDm 5 r c t w g] W fun e w' => isB e (damOK 5 r c t w g) ∧ Ext W w' := by
  have hm : ∀ w0 : World, (method 377 138 (vDm 5 r c t w g) "loop.example/g00879/impl.fine").run Tryd.prog w0 = .ok (221, vDm 5 r c t w g) w0 := fun _ => by kernel_rfl
  have hh := Lib.hid (fun W => harm_c 5 r c t w g W)
  simp only [kT_5] at hh
  have hf := Lib.hid (fun W => fadeFine_c 5 r c t w g W)
  have hB0 := Blk.new W #[.int .i64 5, .int .i64 r, .int .i64 c, .int .i64 t, .int .i64 w, .int .i64 g] 72
  go_enter Tryd.func86, Tryd.ntmps86
  go_wp2_with (first | (go_at_call 42; (with_reducible refine (hh.out _).mono ?_); rintro e w1 ⟨rfl, hx1⟩) | (go_at_call 51; (with_reducible refine (inRange_c _ _ _ _).mono ?_); rintro e w3 ⟨⟨hP, rfl⟩ | ⟨hP, rfl⟩, rfl⟩) | (go_at_call 221; (with_reducible refine (hf.out _).mono ?_); rintro e w2 ⟨⟨hQ, rfl⟩ | ⟨hQ, rfl⟩, hx2⟩ <;> have c5 := ((hB0.ext hx1).ext hx2).cell (i := 5) (v := .int .i64 g) rfl <;> have cl := ((hB0.ext hx1).ext hx2).lt))
  all_goals go_ret
  all_goals first
    | exact ⟨isB_t (damOK_5.2 ⟨hQ, hP⟩), (by repeat (first | exact Ext.refl _ | assumption | refine Ext.drew ?_ | refine Ext.drewN ?_ _ | refine Ext.iter ?_ _ _ | refine Ext.alloc ?_ _ | refine Ext.setCell ?_ (by first | exact Nat.le_refl _ | (simp <;> omega)) _ | refine Ext.trans2 (by assumption) ?_))⟩
    | exact ⟨isB_f (fun h => hQ (damOK_5.1 h).1), (by repeat (first | exact Ext.refl _ | assumption | refine Ext.drew ?_ | refine Ext.drewN ?_ _ | refine Ext.iter ?_ _ _ | refine Ext.alloc ?_ _ | refine Ext.setCell ?_ (by first | exact Nat.le_refl _ | (simp <;> omega)) _ | refine Ext.trans2 (by assumption) ?_))⟩
    | exact ⟨isB_f (fun h => hP (damOK_5.1 h).2), (by repeat (first | exact Ext.refl _ | assumption | refine Ext.drew ?_ | refine Ext.drewN ?_ _ | refine Ext.iter ?_ _ _ | refine Ext.alloc ?_ _ | refine Ext.setCell ?_ (by first | exact Nat.le_refl _ | (simp <;> omega)) _ | refine Ext.trans2 (by assumption) ?_))⟩
set_option maxRecDepth 100000 in
theorem iIsNone_c (k r c t w g : Int) (hk : ¬ (1 ≤ k ∧ k ≤ 5)) (W : World) :
    Calls Tryd.prog 86 #[vDm k r c t w g] W fun e w' => isB e (damOK k r c t w g) ∧ Ext W w' := by
  have hno : ¬ damOK k r c t w g := fun h => by rcases h.1 with h | h | h | h | h <;> omega
  have hb : decide (1 ≤ k ∧ k ≤ 5) = false := decide_eq_false hk
  have hh := Lib.hid (fun W => harm_c k r c t w g W)
  rw [hb] at hh
  clear hb
  replace hno := Lib.hid hno
  generalize kT k = T at *
  go_enter Tryd.func86, Tryd.ntmps86
  go_wp2_with (go_at_call 42; (with_reducible refine (hh.out _).mono ?_); rintro e w1 ⟨rfl, hx1⟩)
  go_ret
  exact ⟨isB_f hno.out, (by repeat (first | exact Ext.refl _ | assumption | refine Ext.drew ?_ | refine Ext.drewN ?_ _ | refine Ext.iter ?_ _ _ | refine Ext.alloc ?_ _ | refine Ext.setCell ?_ (by first | exact Nat.le_refl _ | (simp <;> omega)) _ | refine Ext.trans2 (by assumption) ?_))⟩
theorem iIsDamage_c (k r c t w g : Int) (W : World) :
    Calls Tryd.prog 86 #[vDm k r c t w g] W fun e w' => isB e (damOK k r c t w g) ∧ Ext W w' := by
  by_cases hk : 1 ≤ k ∧ k ≤ 5
  · have : k = 1 ∨ k = 2 ∨ k = 3 ∨ k = 4 ∨ k = 5 := by omega
    rcases this with rfl | rfl | rfl | rfl | rfl
    · exact iIsblot_c r c t w g W
    · exact iIsscratch_c r c t w g W
    · exact iIsskew_c r c t w g W
    · exact iIsnoise_c r c t w g W
    · exact iIsfade_c r c t w g W
  · exact iIsNone_c k r c t w g hk W
instance : Inhabited Dam := ⟨⟨0, 0, 0, 0, 0, 0⟩⟩
def dOK (d : Dam) : Prop := damOK d.k d.r d.c d.t d.w d.g
set_option maxRecDepth 100000 in
theorem allDamages_c (p : Option Addr) (c : Nat) (xs : List Dam) (W : World) (hx : SAt fD 6 W p xs) (hl : xs.length ≤ 20) :
    Calls Tryd.prog 41 #[.slice p xs.length c] W fun e w' => isB e (∀ i (h : i < xs.length), dOK (xs[i]'h)) ∧ Ext W w' := by
  have HX := Lib.hid hx; clear hx
  go_enter Tryd.func41, Tryd.ntmps41
  go_wp2_with fail
  go_loopw [7] (fun i wr => ∃ k : Nat, k ≤ xs.length ∧ i = .int .i64 k ∧ (∀ j (h : j < xs.length), j < k → dOK (xs[j]'h)) ∧ Ext W wr) (fun i _ => xs.length - (intOf i).toNat)
  case atStart => exact ⟨0, Nat.zero_le _, rfl, fun j _ h => absurd h (Nat.not_lt_zero j), (by repeat (first | exact Ext.refl _ | assumption | refine Ext.drew ?_ | refine Ext.drewN ?_ _ | refine Ext.iter ?_ _ _ | refine Ext.alloc ?_ _ | refine Ext.setCell ?_ (by first | exact Nat.le_refl _ | (simp <;> omega)) _ | refine Ext.trans2 (by assumption) ?_))⟩
  case round =>
    obtain ⟨k, hk, rfl, hall, hext⟩ := hrel
    replace hall := Lib.hid hall
    by_cases hlt : k < xs.length
    · obtain ⟨b, o, rfl, hbl, y⟩ := (HX.out.ext hext) k hlt
      obtain ⟨X, hX⟩ : ∃ X, xs[k]'hlt = X := ⟨_, rfl⟩
      obtain ⟨k1, r1, c1, t1, w1, g1⟩ := X
      rw [hX] at y
      have y0 : wr.cell? ⟨b, o + k * 6, none⟩ = some (.int .i64 k1) := y 0 _ rfl
      have y1 : wr.cell? ⟨b, o + k * 6 + 1, none⟩ = some (.int .i64 r1) := y 1 _ rfl
      have y2 : wr.cell? ⟨b, o + k * 6 + 2, none⟩ = some (.int .i64 c1) := y 2 _ rfl
      have y3 : wr.cell? ⟨b, o + k * 6 + 3, none⟩ = some (.int .i64 t1) := y 3 _ rfl
      have y4 : wr.cell? ⟨b, o + k * 6 + 4, none⟩ = some (.int .i64 w1) := y 4 _ rfl
      have y5 : wr.cell? ⟨b, o + k * 6 + 5, none⟩ = some (.int .i64 g1) := y 5 _ rfl
      clear y
      replace hX := Lib.hid hX
      have hi := Lib.hid (fun W => iIsDamage_c k1 r1 c1 t1 w1 g1 W)
      obtain ⟨D, hD⟩ : ∃ D, damOK k1 r1 c1 t1 w1 g1 = D := ⟨_, rfl⟩
      rw [hD] at hi
      replace hD := Lib.hid hD
      go_wp2_with (go_at_call 86; (with_reducible refine (hi.out _).mono ?_); rintro e w7 ⟨⟨hP, rfl⟩ | ⟨hP, rfl⟩, hx1⟩)
      · have hnew : dOK (xs[k]'hlt) := by rw [hX.out]; unfold dOK; simp only; rw [hD.out]; exact hP
        replace hnew := Lib.hid hnew
        go_roundw
        case rel =>
          refine ⟨k + 1, hlt, by go_num, fun j h hj => ?_, (by repeat (first | exact Ext.refl _ | assumption | refine Ext.drew ?_ | refine Ext.drewN ?_ _ | refine Ext.iter ?_ _ _ | refine Ext.alloc ?_ _ | refine Ext.setCell ?_ (by first | exact Nat.le_refl _ | (simp <;> omega)) _ | refine Ext.trans2 (by assumption) ?_))⟩
          by_cases hjk : j = k
          · subst hjk; exact hnew.out
          · exact hall.out j h (by omega)
        case measure => simp [intOf]; omega
      · have hnew : ¬ dOK (xs[k]'hlt) := by rw [hX.out]; unfold dOK; simp only; rw [hD.out]; exact hP
        go_ret
        exact ⟨isB_f (fun h => hnew (h k hlt)), (by repeat (first | exact Ext.refl _ | assumption | refine Ext.drew ?_ | refine Ext.drewN ?_ _ | refine Ext.iter ?_ _ _ | refine Ext.alloc ?_ _ | refine Ext.setCell ?_ (by first | exact Nat.le_refl _ | (simp <;> omega)) _ | refine Ext.trans2 (by assumption) ?_))⟩
    · obtain rfl : k = xs.length := by omega
      go_wp2
      go_ret
      exact ⟨isB_t (fun j h => hall.out j h h), hext⟩
end Go.Proofs.YthpnkcamjcohgaaDoor
