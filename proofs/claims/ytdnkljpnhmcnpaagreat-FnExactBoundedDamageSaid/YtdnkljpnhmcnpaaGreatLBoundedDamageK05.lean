/- Damages: what is a valid one, on both sides. -/
import Derived.Test.YtdnkljpnhmcnpaaGreatLBoundedDamageK04
import Derived.Deep.DeepCutAuto
set_option linter.unusedVariables false
set_option linter.unusedSimpArgs false
namespace Go.Proofs.YtdnkljpnhmcnpaaGreat
open Go.RowKit

structure Dam where
 k : Int
 r : Int
 c : Int
 t : Int
 w : Int
 g : Int
def fD (d : Dam) : List Value := [.int .i64 d.k, .int .i64 d.r, .int .i64 d.c, .int .i64 d.t, .int .i64 d.w, .int .i64 d.g]
abbrev vDm (k r c t w g : Int) : Value := .agg #[.int .i64 k, .int .i64 r, .int .i64 c, .int .i64 t, .int .i64 w, .int .i64 g]
def blotOK (k r c t w g : Int) : Prop := (0 ≤ r ∧ r ≤ 400) ∧ (0 ≤ c ∧ c ≤ 400) ∧ (0 ≤ t ∧ t ≤ 400) ∧ w = 0
def scratchOK (k r c t w g : Int) : Prop := (0 ≤ r ∧ r ≤ 400) ∧ (0 ≤ c ∧ c ≤ 400) ∧ (1 ≤ t ∧ t ≤ 400) ∧ (1 ≤ w ∧ w ≤ 400)
def skewOK (k r c t w g : Int) : Prop := r = 0 ∧ c = 0 ∧ (1 ≤ t ∧ t ≤ 400) ∧ (-400 ≤ w ∧ w ≤ 400)
def noiseOK (k r c t w g : Int) : Prop := (0 ≤ r ∧ r ≤ 400) ∧ (0 ≤ t ∧ t ≤ 400) ∧ c = 0 ∧ w = 0
def fadeOK (k r c t w g : Int) : Prop := r = 0 ∧ c = 0 ∧ w = 0 ∧ (0 ≤ t ∧ t ≤ 256)
set_option maxRecDepth 100000 in
theorem blotFine_c (k r c t w g : Int) (W : World) :
  Calls Tryz.prog 251 #[.agg #[.int .i64 k, .int .i64 r, .int .i64 c, .int .i64 t, .int .i64 w, .int .i64 g]] W fun e w' => isB e (blotOK k r c t w g) ∧ Ext W w' := by
 go_enter Tryz.func251, Tryz.ntmps251
 go_wp2_with (go_at_call 35; (with_reducible refine (inRange_c _ _ _ _).mono ?_); rintro e w1 ⟨⟨hP, rfl⟩ | ⟨hP, rfl⟩, rfl⟩)
 all_goals go_ret
 all_goals first
  | exact ⟨isB_t (by unfold blotOK; omega), eX⟩
  | exact ⟨isB_f (by unfold blotOK; omega), eX⟩
  | exact ⟨isB_m (by unfold blotOK; simp; omega), eX⟩
set_option maxRecDepth 100000 in
theorem scratchFine_c (k r c t w g : Int) (W : World) :
  Calls Tryz.prog 252 #[.agg #[.int .i64 k, .int .i64 r, .int .i64 c, .int .i64 t, .int .i64 w, .int .i64 g]] W fun e w' => isB e (scratchOK k r c t w g) ∧ Ext W w' := by
 go_enter Tryz.func252, Tryz.ntmps252
 go_wp2_with (go_at_call 35; (with_reducible refine (inRange_c _ _ _ _).mono ?_); rintro e w1 ⟨⟨hP, rfl⟩ | ⟨hP, rfl⟩, rfl⟩)
 all_goals go_ret
 all_goals first
  | exact ⟨isB_t (by unfold scratchOK; omega), eX⟩
  | exact ⟨isB_f (by unfold scratchOK; omega), eX⟩
  | exact ⟨isB_m (by unfold scratchOK; simp; omega), eX⟩
set_option maxRecDepth 100000 in
theorem skewFine_c (k r c t w g : Int) (W : World) :
  Calls Tryz.prog 255 #[.agg #[.int .i64 k, .int .i64 r, .int .i64 c, .int .i64 t, .int .i64 w, .int .i64 g]] W fun e w' => isB e (skewOK k r c t w g) ∧ Ext W w' := by
 go_enter Tryz.func255, Tryz.ntmps255
 go_wp2_with (go_at_call 35; (with_reducible refine (inRange_c _ _ _ _).mono ?_); rintro e w1 ⟨⟨hP, rfl⟩ | ⟨hP, rfl⟩, rfl⟩)
 all_goals go_ret
 all_goals first
  | exact ⟨isB_t (by unfold skewOK; omega), eX⟩
  | exact ⟨isB_f (by unfold skewOK; omega), eX⟩
  | exact ⟨isB_m (by unfold skewOK; simp; omega), eX⟩
set_option maxRecDepth 100000 in
theorem noiseFine_c (k r c t w g : Int) (W : World) :
  Calls Tryz.prog 259 #[.agg #[.int .i64 k, .int .i64 r, .int .i64 c, .int .i64 t, .int .i64 w, .int .i64 g]] W fun e w' => isB e (noiseOK k r c t w g) ∧ Ext W w' := by
 go_enter Tryz.func259, Tryz.ntmps259
 go_wp2_with (go_at_call 35; (with_reducible refine (inRange_c _ _ _ _).mono ?_); rintro e w1 ⟨⟨hP, rfl⟩ | ⟨hP, rfl⟩, rfl⟩)
 all_goals go_ret
 all_goals first
  | exact ⟨isB_t (by unfold noiseOK; omega), eX⟩
  | exact ⟨isB_f (by unfold noiseOK; omega), eX⟩
  | exact ⟨isB_m (by unfold noiseOK; simp; omega), eX⟩
set_option maxRecDepth 100000 in
theorem fadeFine_c (k r c t w g : Int) (W : World) :
  Calls Tryz.prog 263 #[.agg #[.int .i64 k, .int .i64 r, .int .i64 c, .int .i64 t, .int .i64 w, .int .i64 g]] W fun e w' => isB e (fadeOK k r c t w g) ∧ Ext W w' := by
 go_enter Tryz.func263, Tryz.ntmps263
 go_wp2_with (go_at_call 35; (with_reducible refine (inRange_c _ _ _ _).mono ?_); rintro e w1 ⟨⟨hP, rfl⟩ | ⟨hP, rfl⟩, rfl⟩)
 all_goals go_ret
 all_goals first
  | exact ⟨isB_t (by unfold fadeOK; omega), eX⟩
  | exact ⟨isB_f (by unfold fadeOK; omega), eX⟩
  | exact ⟨isB_m (by unfold fadeOK; simp; omega), eX⟩
def kT (k : Int) : TypeId := if k = 1 then 211 else if k = 2 then 212 else if k = 3 then 249 else if k = 4 then 250 else 251
set_option maxRecDepth 100000 in
theorem harm_c (k r c t w g : Int) (W : World) :
  Calls Tryz.prog 215 #[vDm k r c t w g] W fun e w' => e = .returned (.tuple #[.iface (kT k) (vDm k r c t w g), .bool (decide (1 ≤ k ∧ k ≤ 5))]) ∧ Ext W w' := by
 by_cases h1 : k = 1
 ·subst h1
  go_enter Tryz.func215, Tryz.ntmps215
  go_wp2
  go_ret2
  exact ⟨rfl, eX⟩
 by_cases h2 : k = 2
 ·subst h2
  go_enter Tryz.func215, Tryz.ntmps215
  go_wp2
  go_ret2
  exact ⟨rfl, eX⟩
 by_cases h3 : k = 3
 ·subst h3
  go_enter Tryz.func215, Tryz.ntmps215
  go_wp2
  go_ret2
  exact ⟨rfl, eX⟩
 by_cases h4 : k = 4
 ·subst h4
  go_enter Tryz.func215, Tryz.ntmps215
  go_wp2
  go_ret2
  exact ⟨rfl, eX⟩
 have hk : kT k = 251 := by simp [kT, h1, h2, h3, h4]
 rw [hk]
 by_cases h5 : k = 5
 ·subst h5
  go_enter Tryz.func215, Tryz.ntmps215
  go_wp2
  go_ret2
  exact ⟨rfl, eX⟩
 have hb : decide (1 ≤ k ∧ k ≤ 5) = false := by rw [decide_eq_false_iff_not]; omega
 rw [hb]
 go_enter Tryz.func215, Tryz.ntmps215
 go_wp2
 go_ret2
 exact ⟨rfl, eX⟩
def damOK (k r c t w g : Int) : Prop :=
 ((k = 1 ∧ blotOK k r c t w g) ∨ (k = 2 ∧ scratchOK k r c t w g) ∨ (k = 3 ∧ skewOK k r c t w g) ∨ (k = 4 ∧ noiseOK k r c t w g) ∨ (k = 5 ∧ fadeOK k r c t w g)) ∧ 0 ≤ g ∧ g ≤ 255
theorem kT_1 : kT 1 = 211 := by simp [kT]
theorem kT_2 : kT 2 = 212 := by simp [kT]
theorem kT_3 : kT 3 = 249 := by simp [kT]
theorem kT_4 : kT 4 = 250 := by simp [kT]
theorem kT_5 : kT 5 = 251 := by simp [kT]
theorem damOK_1 {r c t w g : Int} : damOK 1 r c t w g ↔ blotOK 1 r c t w g ∧ 0 ≤ g ∧ g ≤ 255 := by simp [damOK]
set_option maxRecDepth 100000 in
theorem iIsblot_c (r c t w g : Int) (W : World) :
  Calls Tryz.prog 181 #[vDm 1 r c t w g] W fun e w' => isB e (damOK 1 r c t w g) ∧ Ext W w' := by
 have hm : ∀ w0 : World, (method 379 211 (vDm 1 r c t w g) "loop.example/g00879/impl.fine").run Tryz.prog w0 = .ok (251, vDm 1 r c t w g) w0 := fun _ => by kernel_rfl
 have hh := Lib.hid (fun W => harm_c 1 r c t w g W)
 simp only [kT_1] at hh
 have hf := Lib.hid (fun W => blotFine_c 1 r c t w g W)
 have hB0 := Blk.new W #[.int .i64 1, .int .i64 r, .int .i64 c, .int .i64 t, .int .i64 w, .int .i64 g] 104
 go_enter Tryz.func181, Tryz.ntmps181
 go_wp2_with (first | (go_at_call 215; (with_reducible refine (hh.out _).mono ?_); rintro e w1 ⟨rfl, hx1⟩) | (go_at_call 35; (with_reducible refine (inRange_c _ _ _ _).mono ?_); rintro e w3 ⟨⟨hP, rfl⟩ | ⟨hP, rfl⟩, rfl⟩) | (go_at_call 251; (with_reducible refine (hf.out _).mono ?_); rintro e w2 ⟨⟨hQ, rfl⟩ | ⟨hQ, rfl⟩, hx2⟩ <;> have c5 := ((hB0.ext hx1).ext hx2).cell (i := 5) (v := .int .i64 g) rfl <;> have cl := ((hB0.ext hx1).ext hx2).lt))
 all_goals go_ret
 all_goals first
  | exact ⟨isB_t (damOK_1.2 ⟨hQ, hP⟩), eX⟩
  | exact ⟨isB_f (fun h => hQ (damOK_1.1 h).1), eX⟩
  | exact ⟨isB_f (fun h => hP (damOK_1.1 h).2), eX⟩
theorem damOK_2 {r c t w g : Int} : damOK 2 r c t w g ↔ scratchOK 2 r c t w g ∧ 0 ≤ g ∧ g ≤ 255 := by simp [damOK]
set_option maxRecDepth 100000 in
theorem iIsscratch_c (r c t w g : Int) (W : World) :
  Calls Tryz.prog 181 #[vDm 2 r c t w g] W fun e w' => isB e (damOK 2 r c t w g) ∧ Ext W w' := by
 have hm : ∀ w0 : World, (method 379 212 (vDm 2 r c t w g) "loop.example/g00879/impl.fine").run Tryz.prog w0 = .ok (252, vDm 2 r c t w g) w0 := fun _ => by kernel_rfl
 have hh := Lib.hid (fun W => harm_c 2 r c t w g W)
 simp only [kT_2] at hh
 have hf := Lib.hid (fun W => scratchFine_c 2 r c t w g W)
 have hB0 := Blk.new W #[.int .i64 2, .int .i64 r, .int .i64 c, .int .i64 t, .int .i64 w, .int .i64 g] 104
 go_enter Tryz.func181, Tryz.ntmps181
 go_wp2_with (first | (go_at_call 215; (with_reducible refine (hh.out _).mono ?_); rintro e w1 ⟨rfl, hx1⟩) | (go_at_call 35; (with_reducible refine (inRange_c _ _ _ _).mono ?_); rintro e w3 ⟨⟨hP, rfl⟩ | ⟨hP, rfl⟩, rfl⟩) | (go_at_call 252; (with_reducible refine (hf.out _).mono ?_); rintro e w2 ⟨⟨hQ, rfl⟩ | ⟨hQ, rfl⟩, hx2⟩ <;> have c5 := ((hB0.ext hx1).ext hx2).cell (i := 5) (v := .int .i64 g) rfl <;> have cl := ((hB0.ext hx1).ext hx2).lt))
 all_goals go_ret
 all_goals first
  | exact ⟨isB_t (damOK_2.2 ⟨hQ, hP⟩), eX⟩
  | exact ⟨isB_f (fun h => hQ (damOK_2.1 h).1), eX⟩
  | exact ⟨isB_f (fun h => hP (damOK_2.1 h).2), eX⟩
theorem damOK_3 {r c t w g : Int} : damOK 3 r c t w g ↔ skewOK 3 r c t w g ∧ 0 ≤ g ∧ g ≤ 255 := by simp [damOK]
set_option maxRecDepth 100000 in
theorem iIsskew_c (r c t w g : Int) (W : World) :
  Calls Tryz.prog 181 #[vDm 3 r c t w g] W fun e w' => isB e (damOK 3 r c t w g) ∧ Ext W w' := by
 have hm : ∀ w0 : World, (method 379 249 (vDm 3 r c t w g) "loop.example/g00879/impl.fine").run Tryz.prog w0 = .ok (255, vDm 3 r c t w g) w0 := fun _ => by kernel_rfl
 have hh := Lib.hid (fun W => harm_c 3 r c t w g W)
 simp only [kT_3] at hh
 have hf := Lib.hid (fun W => skewFine_c 3 r c t w g W)
 have hB0 := Blk.new W #[.int .i64 3, .int .i64 r, .int .i64 c, .int .i64 t, .int .i64 w, .int .i64 g] 104
 go_enter Tryz.func181, Tryz.ntmps181
 go_wp2_with (first | (go_at_call 215; (with_reducible refine (hh.out _).mono ?_); rintro e w1 ⟨rfl, hx1⟩) | (go_at_call 35; (with_reducible refine (inRange_c _ _ _ _).mono ?_); rintro e w3 ⟨⟨hP, rfl⟩ | ⟨hP, rfl⟩, rfl⟩) | (go_at_call 255; (with_reducible refine (hf.out _).mono ?_); rintro e w2 ⟨⟨hQ, rfl⟩ | ⟨hQ, rfl⟩, hx2⟩ <;> have c5 := ((hB0.ext hx1).ext hx2).cell (i := 5) (v := .int .i64 g) rfl <;> have cl := ((hB0.ext hx1).ext hx2).lt))
 all_goals go_ret
 all_goals first
  | exact ⟨isB_t (damOK_3.2 ⟨hQ, hP⟩), eX⟩
  | exact ⟨isB_f (fun h => hQ (damOK_3.1 h).1), eX⟩
  | exact ⟨isB_f (fun h => hP (damOK_3.1 h).2), eX⟩
theorem damOK_4 {r c t w g : Int} : damOK 4 r c t w g ↔ noiseOK 4 r c t w g ∧ 0 ≤ g ∧ g ≤ 255 := by simp [damOK]
set_option maxRecDepth 100000 in
theorem iIsnoise_c (r c t w g : Int) (W : World) :
  Calls Tryz.prog 181 #[vDm 4 r c t w g] W fun e w' => isB e (damOK 4 r c t w g) ∧ Ext W w' := by
 have hm : ∀ w0 : World, (method 379 250 (vDm 4 r c t w g) "loop.example/g00879/impl.fine").run Tryz.prog w0 = .ok (259, vDm 4 r c t w g) w0 := fun _ => by kernel_rfl
 have hh := Lib.hid (fun W => harm_c 4 r c t w g W)
 simp only [kT_4] at hh
 have hf := Lib.hid (fun W => noiseFine_c 4 r c t w g W)
 have hB0 := Blk.new W #[.int .i64 4, .int .i64 r, .int .i64 c, .int .i64 t, .int .i64 w, .int .i64 g] 104
 go_enter Tryz.func181, Tryz.ntmps181
 go_wp2_with (first | (go_at_call 215; (with_reducible refine (hh.out _).mono ?_); rintro e w1 ⟨rfl, hx1⟩) | (go_at_call 35; (with_reducible refine (inRange_c _ _ _ _).mono ?_); rintro e w3 ⟨⟨hP, rfl⟩ | ⟨hP, rfl⟩, rfl⟩) | (go_at_call 259; (with_reducible refine (hf.out _).mono ?_); rintro e w2 ⟨⟨hQ, rfl⟩ | ⟨hQ, rfl⟩, hx2⟩ <;> have c5 := ((hB0.ext hx1).ext hx2).cell (i := 5) (v := .int .i64 g) rfl <;> have cl := ((hB0.ext hx1).ext hx2).lt))
 all_goals go_ret
 all_goals first
  | exact ⟨isB_t (damOK_4.2 ⟨hQ, hP⟩), eX⟩
  | exact ⟨isB_f (fun h => hQ (damOK_4.1 h).1), eX⟩
  | exact ⟨isB_f (fun h => hP (damOK_4.1 h).2), eX⟩
theorem damOK_5 {r c t w g : Int} : damOK 5 r c t w g ↔ fadeOK 5 r c t w g ∧ 0 ≤ g ∧ g ≤ 255 := by simp [damOK]
set_option maxRecDepth 100000 in
theorem iIsfade_c (r c t w g : Int) (W : World) :
  Calls Tryz.prog 181 #[vDm 5 r c t w g] W fun e w' => isB e (damOK 5 r c t w g) ∧ Ext W w' := by
 have hm : ∀ w0 : World, (method 379 251 (vDm 5 r c t w g) "loop.example/g00879/impl.fine").run Tryz.prog w0 = .ok (263, vDm 5 r c t w g) w0 := fun _ => by kernel_rfl
 have hh := Lib.hid (fun W => harm_c 5 r c t w g W)
 simp only [kT_5] at hh
 have hf := Lib.hid (fun W => fadeFine_c 5 r c t w g W)
 have hB0 := Blk.new W #[.int .i64 5, .int .i64 r, .int .i64 c, .int .i64 t, .int .i64 w, .int .i64 g] 104
 go_enter Tryz.func181, Tryz.ntmps181
 go_wp2_with (first | (go_at_call 215; (with_reducible refine (hh.out _).mono ?_); rintro e w1 ⟨rfl, hx1⟩) | (go_at_call 35; (with_reducible refine (inRange_c _ _ _ _).mono ?_); rintro e w3 ⟨⟨hP, rfl⟩ | ⟨hP, rfl⟩, rfl⟩) | (go_at_call 263; (with_reducible refine (hf.out _).mono ?_); rintro e w2 ⟨⟨hQ, rfl⟩ | ⟨hQ, rfl⟩, hx2⟩ <;> have c5 := ((hB0.ext hx1).ext hx2).cell (i := 5) (v := .int .i64 g) rfl <;> have cl := ((hB0.ext hx1).ext hx2).lt))
 all_goals go_ret
 all_goals first
  | exact ⟨isB_t (damOK_5.2 ⟨hQ, hP⟩), eX⟩
  | exact ⟨isB_f (fun h => hQ (damOK_5.1 h).1), eX⟩
  | exact ⟨isB_f (fun h => hP (damOK_5.1 h).2), eX⟩
set_option maxRecDepth 100000 in
theorem iIsNone_c (k r c t w g : Int) (hk : ¬ (1 ≤ k ∧ k ≤ 5)) (W : World) :
  Calls Tryz.prog 181 #[vDm k r c t w g] W fun e w' => isB e (damOK k r c t w g) ∧ Ext W w' := by
 have hno : ¬ damOK k r c t w g := fun h => by rcases h.1 with h | h | h | h | h <;> omega
 have hb : decide (1 ≤ k ∧ k ≤ 5) = false := decide_eq_false hk
 have hh := Lib.hid (fun W => harm_c k r c t w g W)
 rw [hb] at hh
 clear hb
 replace hno := Lib.hid hno
 generalize kT k = T at *
 go_enter Tryz.func181, Tryz.ntmps181
 go_wp2_with (go_at_call 215; (with_reducible refine (hh.out _).mono ?_); rintro e w1 ⟨rfl, hx1⟩)
 go_ret
 exact ⟨isB_f hno.out, eX⟩
theorem iIsDamage_c (k r c t w g : Int) (W : World) :
  Calls Tryz.prog 181 #[vDm k r c t w g] W fun e w' => isB e (damOK k r c t w g) ∧ Ext W w' := by
 by_cases hk : 1 ≤ k ∧ k ≤ 5
 ·have : k = 1 ∨ k = 2 ∨ k = 3 ∨ k = 4 ∨ k = 5 := by omega
  rcases this with rfl | rfl | rfl | rfl | rfl
  ·exact iIsblot_c r c t w g W
  ·exact iIsscratch_c r c t w g W
  ·exact iIsskew_c r c t w g W
  ·exact iIsnoise_c r c t w g W
  ·exact iIsfade_c r c t w g W
 ·exact iIsNone_c k r c t w g hk W
instance : Inhabited Dam := ⟨⟨0, 0, 0, 0, 0, 0⟩⟩
def dOK (d : Dam) : Prop := damOK d.k d.r d.c d.t d.w d.g
end Go.Proofs.YtdnkljpnhmcnpaaGreat
