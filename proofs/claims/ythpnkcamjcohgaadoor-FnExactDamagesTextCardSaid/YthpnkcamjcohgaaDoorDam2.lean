
/- The text of damages: the implementation. -/
import Derived.Test.YthpnkcamjcohgaaDoorDam
import Derived.Test.YthpnkcamjcohgaaDoorDecimals
import Derived.Test.YthpnkcamjcohgaaDoorSplitW
namespace Go.Proofs.YthpnkcamjcohgaaDoor
set_option linter.unusedVariables false
set_option linter.unusedSimpArgs false
open Go.RowKit

theorem IntsAt_allocD (w : World) (xs : List Int) (t : TypeId) : IntsAt (w.alloc (.cells (xs.map (Value.int .i64)).toArray t)) (some ⟨w.heap.size, 0, none⟩) xs := by
  intro i hi
  refine ⟨_, _, rfl, by simp, ?_⟩
  have : (w.alloc (.cells (xs.map (Value.int .i64)).toArray t)).heap[w.heap.size]? = some (.cells (xs.map (Value.int .i64)).toArray t) := (MapKept.heap_alloc w _).1
  simp only [World.cell?, this]
  simp [hi]
def blotL (r c t w g : Int) : List Int := [r, c, t, g]
def scratchL (r c t w g : Int) : List Int := [r, c, t, w, g]
def skewL (r c t w g : Int) : List Int := [t, w, g]
def noiseL (r c t w g : Int) : List Int := [r, t, g]
def fadeL (r c t w g : Int) : List Int := [t, g]
set_option maxRecDepth 100000 in
theorem blotFields_c (k r c t w g : Int) (W : World) :
    Calls Tryd.prog 204 #[vDm k r c t w g] W fun e w' => (∃ p, e = .returned (.slice p (blotL r c t w g).length 4) ∧ IntsAt w' p (blotL r c t w g)) ∧ Ext W w' := by
  have hia := Lib.hid (fun W' : World => IntsAt_allocD W' (blotL r c t w g) 2)
  go_enter Tryd.func204, Tryd.ntmps204
  go_wp2
  go_ret
  have h := hia.out (W.alloc (.cells #[.int .i64 k, .int .i64 r, .int .i64 c, .int .i64 t, .int .i64 w, .int .i64 g] 134))
  rw [World.size_alloc] at h
  exact ⟨⟨_, rfl, h⟩, (by repeat (first | exact Ext.refl _ | assumption | refine Ext.drew ?_ | refine Ext.drewN ?_ _ | refine Ext.iter ?_ _ _ | refine Ext.alloc ?_ _ | refine Ext.setCell ?_ (by first | exact Nat.le_refl _ | (simp <;> omega)) _ | refine Ext.trans2 (by assumption) ?_))⟩
set_option maxRecDepth 100000 in
theorem scratchFields_c (k r c t w g : Int) (W : World) :
    Calls Tryd.prog 208 #[vDm k r c t w g] W fun e w' => (∃ p, e = .returned (.slice p (scratchL r c t w g).length 5) ∧ IntsAt w' p (scratchL r c t w g)) ∧ Ext W w' := by
  have hia := Lib.hid (fun W' : World => IntsAt_allocD W' (scratchL r c t w g) 2)
  go_enter Tryd.func208, Tryd.ntmps208
  go_wp2
  go_ret
  have h := hia.out (W.alloc (.cells #[.int .i64 k, .int .i64 r, .int .i64 c, .int .i64 t, .int .i64 w, .int .i64 g] 135))
  rw [World.size_alloc] at h
  exact ⟨⟨_, rfl, h⟩, (by repeat (first | exact Ext.refl _ | assumption | refine Ext.drew ?_ | refine Ext.drewN ?_ _ | refine Ext.iter ?_ _ _ | refine Ext.alloc ?_ _ | refine Ext.setCell ?_ (by first | exact Nat.le_refl _ | (simp <;> omega)) _ | refine Ext.trans2 (by assumption) ?_))⟩
set_option maxRecDepth 100000 in
theorem skewFields_c (k r c t w g : Int) (W : World) :
    Calls Tryd.prog 212 #[vDm k r c t w g] W fun e w' => (∃ p, e = .returned (.slice p (skewL r c t w g).length 3) ∧ IntsAt w' p (skewL r c t w g)) ∧ Ext W w' := by
  have hia := Lib.hid (fun W' : World => IntsAt_allocD W' (skewL r c t w g) 2)
  go_enter Tryd.func212, Tryd.ntmps212
  go_wp2
  go_ret
  have h := hia.out (W.alloc (.cells #[.int .i64 k, .int .i64 r, .int .i64 c, .int .i64 t, .int .i64 w, .int .i64 g] 136))
  rw [World.size_alloc] at h
  exact ⟨⟨_, rfl, h⟩, (by repeat (first | exact Ext.refl _ | assumption | refine Ext.drew ?_ | refine Ext.drewN ?_ _ | refine Ext.iter ?_ _ _ | refine Ext.alloc ?_ _ | refine Ext.setCell ?_ (by first | exact Nat.le_refl _ | (simp <;> omega)) _ | refine Ext.trans2 (by assumption) ?_))⟩
set_option maxRecDepth 100000 in
theorem noiseFields_c (k r c t w g : Int) (W : World) :
    Calls Tryd.prog 216 #[vDm k r c t w g] W fun e w' => (∃ p, e = .returned (.slice p (noiseL r c t w g).length 3) ∧ IntsAt w' p (noiseL r c t w g)) ∧ Ext W w' := by
  have hia := Lib.hid (fun W' : World => IntsAt_allocD W' (noiseL r c t w g) 2)
  go_enter Tryd.func216, Tryd.ntmps216
  go_wp2
  go_ret
  have h := hia.out (W.alloc (.cells #[.int .i64 k, .int .i64 r, .int .i64 c, .int .i64 t, .int .i64 w, .int .i64 g] 137))
  rw [World.size_alloc] at h
  exact ⟨⟨_, rfl, h⟩, (by repeat (first | exact Ext.refl _ | assumption | refine Ext.drew ?_ | refine Ext.drewN ?_ _ | refine Ext.iter ?_ _ _ | refine Ext.alloc ?_ _ | refine Ext.setCell ?_ (by first | exact Nat.le_refl _ | (simp <;> omega)) _ | refine Ext.trans2 (by assumption) ?_))⟩
set_option maxRecDepth 100000 in
theorem fadeFields_c (k r c t w g : Int) (W : World) :
    Calls Tryd.prog 220 #[vDm k r c t w g] W fun e w' => (∃ p, e = .returned (.slice p (fadeL r c t w g).length 2) ∧ IntsAt w' p (fadeL r c t w g)) ∧ Ext W w' := by
  have hia := Lib.hid (fun W' : World => IntsAt_allocD W' (fadeL r c t w g) 2)
  go_enter Tryd.func220, Tryd.ntmps220
  go_wp2
  go_ret
  have h := hia.out (W.alloc (.cells #[.int .i64 k, .int .i64 r, .int .i64 c, .int .i64 t, .int .i64 w, .int .i64 g] 138))
  rw [World.size_alloc] at h
  exact ⟨⟨_, rfl, h⟩, (by repeat (first | exact Ext.refl _ | assumption | refine Ext.drew ?_ | refine Ext.drewN ?_ _ | refine Ext.iter ?_ _ _ | refine Ext.alloc ?_ _ | refine Ext.setCell ?_ (by first | exact Nat.le_refl _ | (simp <;> omega)) _ | refine Ext.trans2 (by assumption) ?_))⟩
def txtD (d : Dam) : ByteArray :=
  if d.k = 1 then blotW ++ spB ++ decT (blotL d.r d.c d.t d.w d.g) 4 else
  if d.k = 2 then scratchW ++ spB ++ decT (scratchL d.r d.c d.t d.w d.g) 5 else
  if d.k = 3 then skewW ++ spB ++ decT (skewL d.r d.c d.t d.w d.g) 3 else
  if d.k = 4 then noiseW ++ spB ++ decT (noiseL d.r d.c d.t d.w d.g) 3 else fadeW ++ spB ++ decT (fadeL d.r d.c d.t d.w d.g) 2
theorem txt_1 {r c t w g : Int} : txtD ⟨1, r, c, t, w, g⟩ = blotW ++ spB ++ decT (blotL r c t w g) 4 := by simp [txtD]
theorem txt_2 {r c t w g : Int} : txtD ⟨2, r, c, t, w, g⟩ = scratchW ++ spB ++ decT (scratchL r c t w g) 5 := by simp [txtD]
theorem txt_3 {r c t w g : Int} : txtD ⟨3, r, c, t, w, g⟩ = skewW ++ spB ++ decT (skewL r c t w g) 3 := by simp [txtD]
theorem txt_4 {r c t w g : Int} : txtD ⟨4, r, c, t, w, g⟩ = noiseW ++ spB ++ decT (noiseL r c t w g) 3 := by simp [txtD]
theorem txt_5 {r c t w g : Int} : txtD ⟨5, r, c, t, w, g⟩ = fadeW ++ spB ++ decT (fadeL r c t w g) 2 := by simp [txtD]
theorem dOK_lims {d : Dam} (h : dOK d) : (1 ≤ d.k ∧ d.k ≤ 5) ∧ (-1000 ≤ d.r ∧ d.r ≤ 1000) ∧ (-1000 ≤ d.c ∧ d.c ≤ 1000) ∧ (-1000 ≤ d.t ∧ d.t ≤ 1000) ∧ (-1000 ≤ d.w ∧ d.w ≤ 1000) ∧ (-1000 ≤ d.g ∧ d.g ≤ 1000) := by
  unfold dOK damOK blotOK scratchOK skewOK noiseOK fadeOK at h
  omega
theorem i64s_of {xs : List Int} (h : ∀ x ∈ xs, -1000 ≤ x ∧ x ≤ 1000) : i64s xs := fun i hi => by
  have : xs.getD i 0 = xs[i]'hi := by simp [List.getD_eq_getElem?_getD, List.getElem?_eq_getElem hi]
  have h2 := h _ (List.getElem_mem hi)
  rw [this]
  omega
theorem txt_size {d : Dam} (h : dOK d) : (txtD d).size ≤ 300 := by
  have hl := dOK_lims h
  obtain ⟨k, r, c, t, w, g⟩ := d
  simp only at hl
  have hk : k = 1 ∨ k = 2 ∨ k = 3 ∨ k = 4 ∨ k = 5 := by omega
  rcases hk with rfl | rfl | rfl | rfl | rfl
  · rw [txt_1, ByteArray.size_append, ByteArray.size_append]
    have h1 : (decT (blotL r c t w g) 4).size ≤ 22 * 4 := decT_size (i64s_of (by simp [blotL]; omega)) 4 (by simp [blotL])
    have h2 : (blotW).size ≤ 10 := by decide
    have h3 : spB.size ≤ 10 := by decide
    omega
  · rw [txt_2, ByteArray.size_append, ByteArray.size_append]
    have h1 : (decT (scratchL r c t w g) 5).size ≤ 22 * 5 := decT_size (i64s_of (by simp [scratchL]; omega)) 5 (by simp [scratchL])
    have h2 : (scratchW).size ≤ 10 := by decide
    have h3 : spB.size ≤ 10 := by decide
    omega
  · rw [txt_3, ByteArray.size_append, ByteArray.size_append]
    have h1 : (decT (skewL r c t w g) 3).size ≤ 22 * 3 := decT_size (i64s_of (by simp [skewL]; omega)) 3 (by simp [skewL])
    have h2 : (skewW).size ≤ 10 := by decide
    have h3 : spB.size ≤ 10 := by decide
    omega
  · rw [txt_4, ByteArray.size_append, ByteArray.size_append]
    have h1 : (decT (noiseL r c t w g) 3).size ≤ 22 * 3 := decT_size (i64s_of (by simp [noiseL]; omega)) 3 (by simp [noiseL])
    have h2 : (noiseW).size ≤ 10 := by decide
    have h3 : spB.size ≤ 10 := by decide
    omega
  · rw [txt_5, ByteArray.size_append, ByteArray.size_append]
    have h1 : (decT (fadeL r c t w g) 2).size ≤ 22 * 2 := decT_size (i64s_of (by simp [fadeL]; omega)) 2 (by simp [fadeL])
    have h2 : (fadeW).size ≤ 10 := by decide
    have h3 : spB.size ≤ 10 := by decide
    omega
open Classical in
noncomputable def dtV (xs : List Dam) : ByteArray :=
  if xs.length ≤ 20 ∧ ∀ i (h : i < xs.length), dOK (xs[i]'h) then ⟨(Lib.join ((xs.map txtD).map (·.data.toList)) [59]).toArray⟩ else ByteArray.empty
theorem joinTail_len {N : Nat} {sep : List UInt8} (hs : sep.length ≤ 1) : ∀ {r : List (List UInt8)}, (∀ x ∈ r, x.length ≤ N) → (Lib.joinTail sep r).length ≤ (N + 1) * r.length
  | [], _ => by simp [Lib.joinTail]
  | x :: r, h => by
    have h1 := h x (List.mem_cons_self ..)
    have h2 := joinTail_len hs (r := r) (fun y hy => h y (List.mem_cons_of_mem _ hy))
    unfold Lib.joinTail at h2 ⊢
    rw [List.map_cons, List.flatten_cons, List.length_append, List.length_append, List.length_cons, Nat.mul_add]
    omega
theorem join_len {N : Nat} {sep : List UInt8} (hs : sep.length ≤ 1) {r : List (List UInt8)} (h : ∀ x ∈ r, x.length ≤ N) : (Lib.join r sep).length ≤ (N + 1) * r.length := by
  cases r with
  | nil => simp [Lib.join_nil]
  | cons x r =>
    rw [Lib.join_cons, List.length_append, List.length_cons, Nat.mul_add]
    have h1 := h x (List.mem_cons_self ..)
    have h2 := joinTail_len hs (r := r) (fun y hy => h y (List.mem_cons_of_mem _ hy))
    omega
set_option maxHeartbeats 1600000 in
set_option maxRecDepth 100000 in
theorem iDamagesText_c (p : Option Addr) (c : Nat) (xs : List Dam) (w : World) (hx : SAt fD 6 w p xs) (hl : xs.length ≤ 1048576) (hT : Tab10 w) :
    Calls Tryd.prog 10 #[.slice p xs.length c] w fun e w' => e = .returned (.string (dtV xs)) ∧ Ext w w' := by
  have HX := Lib.hid hx; have HT := Lib.hid hT; clear hx hT
  have hI1 : Tryd.prog.underlying 69 = some (.slice 9) := by kernel_rfl
  have hI2 : (Tryd.prog.info? 9).map (fun i => (i.zero, i.size, i.bytes)) = some (some (.string ByteArray.empty), 1, 16) := by kernel_rfl
  obtain ⟨V, hV⟩ : ∃ V, dtV xs = V := ⟨_, rfl⟩
  rw [hV]
  unfold dtV at hV
  replace hV := Lib.hid hV
  by_cases h20 : xs.length ≤ 20
  · have h20i : ¬ (20 : Int) < xs.length := by omega
    have hal := Lib.hid (fun W (h : SAt fD 6 W p xs) => allDamages_c p c xs W h h20)
    obtain ⟨A, hA⟩ : ∃ A, (∀ i (h : i < xs.length), dOK (xs[i]'h)) = A := ⟨_, rfl⟩
    rw [hA] at hal
    replace hA := Lib.hid hA
    by_cases hAt : A
    · have hAll : ∀ i (h : i < xs.length), dOK (xs[i]'h) := by rw [hA.out]; exact hAt
      have hVe : V = ⟨(Lib.join ((xs.map txtD).map (·.data.toList)) [59]).toArray⟩ := by rw [← hV.out, if_pos ⟨h20, hAll⟩]
      clear hV hA
      replace hVe := Lib.hid hVe
      replace hAll := Lib.hid hAll
      go_enter Tryd.func10, Tryd.ntmps10
      go_wp2_with (go_at_call 41; (with_reducible refine (hal.out _ (HX.out.ext (by repeat (first | exact Ext.refl _ | assumption | refine Ext.drew ?_ | refine Ext.drewN ?_ _ | refine Ext.iter ?_ _ _ | refine Ext.alloc ?_ _ | refine Ext.setCell ?_ (by first | exact Nat.le_refl _ | (simp <;> omega)) _ | refine Ext.trans2 (by assumption) ?_)))).mono ?_); rintro e w1 ⟨⟨hP, rfl⟩ | ⟨hP, rfl⟩, hx1⟩ <;> first | contradiction | skip)
      go_loopw [3, 19] (fun o i wr => ∃ k : Nat, k ≤ xs.length ∧ i = .int .i64 k ∧ WdI w.heap.size wr o ((xs.take k).map txtD) ∧ Ext w wr) (fun _ i _ => xs.length - (intOf i).toNat)
      case atStart => exact ⟨0, Nat.zero_le _, rfl, WdI.of (RowS.made _ hx1.below.size), (by repeat (first | exact Ext.refl _ | assumption | refine Ext.drew ?_ | refine Ext.drewN ?_ _ | refine Ext.iter ?_ _ _ | refine Ext.alloc ?_ _ | refine Ext.setCell ?_ (by first | exact Nat.le_refl _ | (simp <;> omega)) _ | refine Ext.trans2 (by assumption) ?_))⟩
      case round =>
        obtain ⟨k, hk, rfl, ⟨p2, c2, rfl, hown, hsat, hc⟩, hext⟩ := hrel
        by_cases hlt : k < xs.length
        · obtain ⟨b, o, rfl, hbl, y⟩ := (HX.out.ext hext) k hlt
          have hd := hAll.out k hlt
          have hnx : (xs.take k).map txtD ++ [txtD (xs[k]'hlt)] = (xs.take (k + 1)).map txtD := by rw [List.take_succ_eq_append_getElem hlt, List.map_append]; rfl
          have hml : ((xs.take k).map txtD).length ≤ 20 := by rw [List.length_map, List.length_take]; omega
          generalize (xs.take k).map txtD = M at *
          obtain ⟨M2, hM2⟩ : ∃ M2, (xs.take (k + 1)).map txtD = M2 := ⟨_, rfl⟩
          rw [hM2] at hnx
          replace hM2 := Lib.hid hM2
          generalize xs[k]'hlt = X at *
          obtain ⟨k1, r1, c1, t1, w1', g1⟩ := X
          have hlm := dOK_lims hd
          simp only at hlm
          have y0 : wr.cell? ⟨b, o + k * 6, none⟩ = some (.int .i64 k1) := y 0 _ rfl
          have y1 : wr.cell? ⟨b, o + k * 6 + 1, none⟩ = some (.int .i64 r1) := y 1 _ rfl
          have y2 : wr.cell? ⟨b, o + k * 6 + 2, none⟩ = some (.int .i64 c1) := y 2 _ rfl
          have y3 : wr.cell? ⟨b, o + k * 6 + 3, none⟩ = some (.int .i64 t1) := y 3 _ rfl
          have y4 : wr.cell? ⟨b, o + k * 6 + 4, none⟩ = some (.int .i64 w1') := y 4 _ rfl
          have y5 : wr.cell? ⟨b, o + k * 6 + 5, none⟩ = some (.int .i64 g1) := y 5 _ rfl
          clear y hd
          have hkk : k1 = 1 ∨ k1 = 2 ∨ k1 = 3 ∨ k1 = 4 ∨ k1 = 5 := by omega
          rcases hkk with rfl | rfl | rfl | rfl | rfl
          · have hmw : ∀ w0 : World, (method 377 134 (vDm 1 r1 c1 t1 w1' g1) "loop.example/g00879/impl.word").run Tryd.prog w0 = .ok (206, vDm 1 r1 c1 t1 w1' g1) w0 := fun _ => by kernel_rfl
            have hmf : ∀ w0 : World, (method 377 134 (vDm 1 r1 c1 t1 w1' g1) "loop.example/g00879/impl.fields").run Tryd.prog w0 = .ok (204, vDm 1 r1 c1 t1 w1' g1) w0 := fun _ => by kernel_rfl
            have hh := Lib.hid (fun W => harm_c 1 r1 c1 t1 w1' g1 W)
            simp only [kT_1] at hh
            have hfl := Lib.hid (fun W => blotFields_c 1 r1 c1 t1 w1' g1 W)
            have hdc := Lib.hid (fun q W h hT => decimals_c q 4 (blotL r1 c1 t1 w1' g1) W h (by simp [blotL]) (i64s_of (by simp [blotL]; omega)) hT)
            rw [txt_1] at hnx
            generalize hLe : blotL r1 c1 t1 w1' g1 = L at *
            have hLn : L.length = 4 := by rw [← hLe]; rfl
            rw [hLn] at hdc hfl
            have hSz : (decT L 4).size ≤ 200 := by rw [← hLe]; exact Nat.le_trans (decT_size (i64s_of (by simp [blotL]; omega)) 4 (by simp [blotL])) (by decide)
            generalize decT L 4 = S at *
            have hws : blotW.size = 4 := rfl
            have hz1 : ¬ 9223372036854775807 < 4 + 1 + S.size := by omega
            replace hSz := Lib.hid hSz
            replace hnx := Lib.hid hnx
            clear hlm hLe hLn
            go_wp2_with (first
              | (go_at_call 42; (with_reducible refine (hh.out _).mono ?_); rintro e w3 ⟨rfl, hx3⟩; have hEr3 : Ext wr w3 := (by repeat (first | exact Ext.refl _ | assumption | refine Ext.drew ?_ | refine Ext.drewN ?_ _ | refine Ext.iter ?_ _ _ | refine Ext.alloc ?_ _ | refine Ext.setCell ?_ (by first | exact Nat.le_refl _ | (simp <;> omega)) _ | refine Ext.trans2 (by assumption) ?_)))
              | (go_at_call 206; (with_reducible refine (blotWord_c _ _).mono ?_); rintro e w4 ⟨rfl, hx4⟩; have hEr4 := hEr3.trans hx4)
              | (go_at_call 204; (with_reducible refine (hfl.out _).mono ?_); rintro e w5 ⟨⟨q5, rfl, hi5⟩, hx5⟩; have hEr5 := hEr4.trans hx5)
              | (go_at_call 43; (with_reducible refine (hdc.out _ _ hi5 (HT.out.ext (hext.trans hEr5))).mono ?_); rintro e w6 ⟨rfl, hx6⟩; have hEr6 := hEr5.trans hx6; have hown6 := hown.ext hEr6; have hB6 : w.heap.size ≤ w6.heap.size := (hext.trans hEr6).below.size)
              | (at_builtin; go_loud (refine append1S hI1 hI2 rfl (by omega) (by omega) wdF_len wdF_one (n := blotW ++ spB ++ S) hown6 (by omega) hB6 rfl ?_ rfl (by simp [Act.eval])); intro v1 w7 hown7 hlow7; rw [hnx.out] at hown7; have hW7 := WdI.of hown7))
            go_roundw
            case rel => exact ⟨k + 1, hlt, by go_num, by rw [hM2.out]; exact hW7, (hext.trans hEr6).trans3 hlow7⟩
            case measure => simp [intOf]; omega
          · have hmw : ∀ w0 : World, (method 377 135 (vDm 2 r1 c1 t1 w1' g1) "loop.example/g00879/impl.word").run Tryd.prog w0 = .ok (210, vDm 2 r1 c1 t1 w1' g1) w0 := fun _ => by kernel_rfl
            have hmf : ∀ w0 : World, (method 377 135 (vDm 2 r1 c1 t1 w1' g1) "loop.example/g00879/impl.fields").run Tryd.prog w0 = .ok (208, vDm 2 r1 c1 t1 w1' g1) w0 := fun _ => by kernel_rfl
            have hh := Lib.hid (fun W => harm_c 2 r1 c1 t1 w1' g1 W)
            simp only [kT_2] at hh
            have hfl := Lib.hid (fun W => scratchFields_c 2 r1 c1 t1 w1' g1 W)
            have hdc := Lib.hid (fun q W h hT => decimals_c q 5 (scratchL r1 c1 t1 w1' g1) W h (by simp [scratchL]) (i64s_of (by simp [scratchL]; omega)) hT)
            rw [txt_2] at hnx
            generalize hLe : scratchL r1 c1 t1 w1' g1 = L at *
            have hLn : L.length = 5 := by rw [← hLe]; rfl
            rw [hLn] at hdc hfl
            have hSz : (decT L 5).size ≤ 200 := by rw [← hLe]; exact Nat.le_trans (decT_size (i64s_of (by simp [scratchL]; omega)) 5 (by simp [scratchL])) (by decide)
            generalize decT L 5 = S at *
            have hws : scratchW.size = 7 := rfl
            have hz1 : ¬ 9223372036854775807 < 7 + 1 + S.size := by omega
            replace hSz := Lib.hid hSz
            replace hnx := Lib.hid hnx
            clear hlm hLe hLn
            go_wp2_with (first
              | (go_at_call 42; (with_reducible refine (hh.out _).mono ?_); rintro e w3 ⟨rfl, hx3⟩; have hEr3 : Ext wr w3 := (by repeat (first | exact Ext.refl _ | assumption | refine Ext.drew ?_ | refine Ext.drewN ?_ _ | refine Ext.iter ?_ _ _ | refine Ext.alloc ?_ _ | refine Ext.setCell ?_ (by first | exact Nat.le_refl _ | (simp <;> omega)) _ | refine Ext.trans2 (by assumption) ?_)))
              | (go_at_call 210; (with_reducible refine (scratchWord_c _ _).mono ?_); rintro e w4 ⟨rfl, hx4⟩; have hEr4 := hEr3.trans hx4)
              | (go_at_call 208; (with_reducible refine (hfl.out _).mono ?_); rintro e w5 ⟨⟨q5, rfl, hi5⟩, hx5⟩; have hEr5 := hEr4.trans hx5)
              | (go_at_call 43; (with_reducible refine (hdc.out _ _ hi5 (HT.out.ext (hext.trans hEr5))).mono ?_); rintro e w6 ⟨rfl, hx6⟩; have hEr6 := hEr5.trans hx6; have hown6 := hown.ext hEr6; have hB6 : w.heap.size ≤ w6.heap.size := (hext.trans hEr6).below.size)
              | (at_builtin; go_loud (refine append1S hI1 hI2 rfl (by omega) (by omega) wdF_len wdF_one (n := scratchW ++ spB ++ S) hown6 (by omega) hB6 rfl ?_ rfl (by simp [Act.eval])); intro v1 w7 hown7 hlow7; rw [hnx.out] at hown7; have hW7 := WdI.of hown7))
            go_roundw
            case rel => exact ⟨k + 1, hlt, by go_num, by rw [hM2.out]; exact hW7, (hext.trans hEr6).trans3 hlow7⟩
            case measure => simp [intOf]; omega
          · have hmw : ∀ w0 : World, (method 377 136 (vDm 3 r1 c1 t1 w1' g1) "loop.example/g00879/impl.word").run Tryd.prog w0 = .ok (214, vDm 3 r1 c1 t1 w1' g1) w0 := fun _ => by kernel_rfl
            have hmf : ∀ w0 : World, (method 377 136 (vDm 3 r1 c1 t1 w1' g1) "loop.example/g00879/impl.fields").run Tryd.prog w0 = .ok (212, vDm 3 r1 c1 t1 w1' g1) w0 := fun _ => by kernel_rfl
            have hh := Lib.hid (fun W => harm_c 3 r1 c1 t1 w1' g1 W)
            simp only [kT_3] at hh
            have hfl := Lib.hid (fun W => skewFields_c 3 r1 c1 t1 w1' g1 W)
            have hdc := Lib.hid (fun q W h hT => decimals_c q 3 (skewL r1 c1 t1 w1' g1) W h (by simp [skewL]) (i64s_of (by simp [skewL]; omega)) hT)
            rw [txt_3] at hnx
            generalize hLe : skewL r1 c1 t1 w1' g1 = L at *
            have hLn : L.length = 3 := by rw [← hLe]; rfl
            rw [hLn] at hdc hfl
            have hSz : (decT L 3).size ≤ 200 := by rw [← hLe]; exact Nat.le_trans (decT_size (i64s_of (by simp [skewL]; omega)) 3 (by simp [skewL])) (by decide)
            generalize decT L 3 = S at *
            have hws : skewW.size = 4 := rfl
            have hz1 : ¬ 9223372036854775807 < 4 + 1 + S.size := by omega
            replace hSz := Lib.hid hSz
            replace hnx := Lib.hid hnx
            clear hlm hLe hLn
            go_wp2_with (first
              | (go_at_call 42; (with_reducible refine (hh.out _).mono ?_); rintro e w3 ⟨rfl, hx3⟩; have hEr3 : Ext wr w3 := (by repeat (first | exact Ext.refl _ | assumption | refine Ext.drew ?_ | refine Ext.drewN ?_ _ | refine Ext.iter ?_ _ _ | refine Ext.alloc ?_ _ | refine Ext.setCell ?_ (by first | exact Nat.le_refl _ | (simp <;> omega)) _ | refine Ext.trans2 (by assumption) ?_)))
              | (go_at_call 214; (with_reducible refine (skewWord_c _ _).mono ?_); rintro e w4 ⟨rfl, hx4⟩; have hEr4 := hEr3.trans hx4)
              | (go_at_call 212; (with_reducible refine (hfl.out _).mono ?_); rintro e w5 ⟨⟨q5, rfl, hi5⟩, hx5⟩; have hEr5 := hEr4.trans hx5)
              | (go_at_call 43; (with_reducible refine (hdc.out _ _ hi5 (HT.out.ext (hext.trans hEr5))).mono ?_); rintro e w6 ⟨rfl, hx6⟩; have hEr6 := hEr5.trans hx6; have hown6 := hown.ext hEr6; have hB6 : w.heap.size ≤ w6.heap.size := (hext.trans hEr6).below.size)
              | (at_builtin; go_loud (refine append1S hI1 hI2 rfl (by omega) (by omega) wdF_len wdF_one (n := skewW ++ spB ++ S) hown6 (by omega) hB6 rfl ?_ rfl (by simp [Act.eval])); intro v1 w7 hown7 hlow7; rw [hnx.out] at hown7; have hW7 := WdI.of hown7))
            go_roundw
            case rel => exact ⟨k + 1, hlt, by go_num, by rw [hM2.out]; exact hW7, (hext.trans hEr6).trans3 hlow7⟩
            case measure => simp [intOf]; omega
          · have hmw : ∀ w0 : World, (method 377 137 (vDm 4 r1 c1 t1 w1' g1) "loop.example/g00879/impl.word").run Tryd.prog w0 = .ok (218, vDm 4 r1 c1 t1 w1' g1) w0 := fun _ => by kernel_rfl
            have hmf : ∀ w0 : World, (method 377 137 (vDm 4 r1 c1 t1 w1' g1) "loop.example/g00879/impl.fields").run Tryd.prog w0 = .ok (216, vDm 4 r1 c1 t1 w1' g1) w0 := fun _ => by kernel_rfl
            have hh := Lib.hid (fun W => harm_c 4 r1 c1 t1 w1' g1 W)
            simp only [kT_4] at hh
            have hfl := Lib.hid (fun W => noiseFields_c 4 r1 c1 t1 w1' g1 W)
            have hdc := Lib.hid (fun q W h hT => decimals_c q 3 (noiseL r1 c1 t1 w1' g1) W h (by simp [noiseL]) (i64s_of (by simp [noiseL]; omega)) hT)
            rw [txt_4] at hnx
            generalize hLe : noiseL r1 c1 t1 w1' g1 = L at *
            have hLn : L.length = 3 := by rw [← hLe]; rfl
            rw [hLn] at hdc hfl
            have hSz : (decT L 3).size ≤ 200 := by rw [← hLe]; exact Nat.le_trans (decT_size (i64s_of (by simp [noiseL]; omega)) 3 (by simp [noiseL])) (by decide)
            generalize decT L 3 = S at *
            have hws : noiseW.size = 5 := rfl
            have hz1 : ¬ 9223372036854775807 < 5 + 1 + S.size := by omega
            replace hSz := Lib.hid hSz
            replace hnx := Lib.hid hnx
            clear hlm hLe hLn
            go_wp2_with (first
              | (go_at_call 42; (with_reducible refine (hh.out _).mono ?_); rintro e w3 ⟨rfl, hx3⟩; have hEr3 : Ext wr w3 := (by repeat (first | exact Ext.refl _ | assumption | refine Ext.drew ?_ | refine Ext.drewN ?_ _ | refine Ext.iter ?_ _ _ | refine Ext.alloc ?_ _ | refine Ext.setCell ?_ (by first | exact Nat.le_refl _ | (simp <;> omega)) _ | refine Ext.trans2 (by assumption) ?_)))
              | (go_at_call 218; (with_reducible refine (noiseWord_c _ _).mono ?_); rintro e w4 ⟨rfl, hx4⟩; have hEr4 := hEr3.trans hx4)
              | (go_at_call 216; (with_reducible refine (hfl.out _).mono ?_); rintro e w5 ⟨⟨q5, rfl, hi5⟩, hx5⟩; have hEr5 := hEr4.trans hx5)
              | (go_at_call 43; (with_reducible refine (hdc.out _ _ hi5 (HT.out.ext (hext.trans hEr5))).mono ?_); rintro e w6 ⟨rfl, hx6⟩; have hEr6 := hEr5.trans hx6; have hown6 := hown.ext hEr6; have hB6 : w.heap.size ≤ w6.heap.size := (hext.trans hEr6).below.size)
              | (at_builtin; go_loud (refine append1S hI1 hI2 rfl (by omega) (by omega) wdF_len wdF_one (n := noiseW ++ spB ++ S) hown6 (by omega) hB6 rfl ?_ rfl (by simp [Act.eval])); intro v1 w7 hown7 hlow7; rw [hnx.out] at hown7; have hW7 := WdI.of hown7))
            go_roundw
            case rel => exact ⟨k + 1, hlt, by go_num, by rw [hM2.out]; exact hW7, (hext.trans hEr6).trans3 hlow7⟩
            case measure => simp [intOf]; omega
          · have hmw : ∀ w0 : World, (method 377 138 (vDm 5 r1 c1 t1 w1' g1) "loop.example/g00879/impl.word").run Tryd.prog w0 = .ok (222, vDm 5 r1 c1 t1 w1' g1) w0 := fun _ => by kernel_rfl
            have hmf : ∀ w0 : World, (method 377 138 (vDm 5 r1 c1 t1 w1' g1) "loop.example/g00879/impl.fields").run Tryd.prog w0 = .ok (220, vDm 5 r1 c1 t1 w1' g1) w0 := fun _ => by kernel_rfl
            have hh := Lib.hid (fun W => harm_c 5 r1 c1 t1 w1' g1 W)
            simp only [kT_5] at hh
            have hfl := Lib.hid (fun W => fadeFields_c 5 r1 c1 t1 w1' g1 W)
            have hdc := Lib.hid (fun q W h hT => decimals_c q 2 (fadeL r1 c1 t1 w1' g1) W h (by simp [fadeL]) (i64s_of (by simp [fadeL]; omega)) hT)
            rw [txt_5] at hnx
            generalize hLe : fadeL r1 c1 t1 w1' g1 = L at *
            have hLn : L.length = 2 := by rw [← hLe]; rfl
            rw [hLn] at hdc hfl
            have hSz : (decT L 2).size ≤ 200 := by rw [← hLe]; exact Nat.le_trans (decT_size (i64s_of (by simp [fadeL]; omega)) 2 (by simp [fadeL])) (by decide)
            generalize decT L 2 = S at *
            have hws : fadeW.size = 4 := rfl
            have hz1 : ¬ 9223372036854775807 < 4 + 1 + S.size := by omega
            replace hSz := Lib.hid hSz
            replace hnx := Lib.hid hnx
            clear hlm hLe hLn
            go_wp2_with (first
              | (go_at_call 42; (with_reducible refine (hh.out _).mono ?_); rintro e w3 ⟨rfl, hx3⟩; have hEr3 : Ext wr w3 := (by repeat (first | exact Ext.refl _ | assumption | refine Ext.drew ?_ | refine Ext.drewN ?_ _ | refine Ext.iter ?_ _ _ | refine Ext.alloc ?_ _ | refine Ext.setCell ?_ (by first | exact Nat.le_refl _ | (simp <;> omega)) _ | refine Ext.trans2 (by assumption) ?_)))
              | (go_at_call 222; (with_reducible refine (fadeWord_c _ _).mono ?_); rintro e w4 ⟨rfl, hx4⟩; have hEr4 := hEr3.trans hx4)
              | (go_at_call 220; (with_reducible refine (hfl.out _).mono ?_); rintro e w5 ⟨⟨q5, rfl, hi5⟩, hx5⟩; have hEr5 := hEr4.trans hx5)
              | (go_at_call 43; (with_reducible refine (hdc.out _ _ hi5 (HT.out.ext (hext.trans hEr5))).mono ?_); rintro e w6 ⟨rfl, hx6⟩; have hEr6 := hEr5.trans hx6; have hown6 := hown.ext hEr6; have hB6 : w.heap.size ≤ w6.heap.size := (hext.trans hEr6).below.size)
              | (at_builtin; go_loud (refine append1S hI1 hI2 rfl (by omega) (by omega) wdF_len wdF_one (n := fadeW ++ spB ++ S) hown6 (by omega) hB6 rfl ?_ rfl (by simp [Act.eval])); intro v1 w7 hown7 hlow7; rw [hnx.out] at hown7; have hW7 := WdI.of hown7))
            go_roundw
            case rel => exact ⟨k + 1, hlt, by go_num, by rw [hM2.out]; exact hW7, (hext.trans hEr6).trans3 hlow7⟩
            case measure => simp [intOf]; omega
        · obtain rfl : k = xs.length := by omega
          rw [List.take_length] at hown hsat hc ⊢
          clear hown
          by_cases h0 : xs = []
          · subst h0
            go_wp2_with (go_at_call 44; (with_reducible refine (Tryd.strings_Join_none _ _ _ _).mono ?_); rintro e w2 ⟨rfl, rfl⟩)
            go_ret
            exact ⟨by rw [hVe.out]; rfl, hext⟩
          · have hn : 0 < (xs.map txtD).length := by rw [List.length_map]; exact List.length_pos_iff.2 h0
            have hm20 : (xs.map txtD).length ≤ 20 := by rw [List.length_map]; exact h20
            have hsz : ∀ x ∈ (xs.map txtD).map (·.data.toList), x.length ≤ 300 := fun x hx => by
              obtain ⟨y, hy, rfl⟩ := List.mem_map.1 hx
              obtain ⟨d, hd, rfl⟩ := List.mem_map.1 hy
              obtain ⟨i, hi, rfl⟩ := List.getElem_of_mem hd
              have := txt_size (hAll.out i hi)
              simpa using this
            obtain ⟨M, hM⟩ : ∃ M, xs.map txtD = M := ⟨_, rfl⟩
            rw [hM] at hn hm20 hsz hsat hc
            rw [hM] at hVe
            rw [hM]
            clear hM
            obtain ⟨bk, o, rfl, hb, -⟩ := hsat 0 hn
            have hj := Lib.hid (Tryd.strings_Join bk o c2 M ⟨#[59]⟩ wr (fun j x hjx => by
              obtain ⟨hjl, rfl⟩ := List.getElem?_eq_some_iff.1 hjx
              obtain ⟨b', o', e, hb', hcl⟩ := hsat j hjl
              simp only [Option.some.injEq, Addr.mk.injEq] at e
              obtain ⟨rfl, rfl, -⟩ := e
              have := hcl 0 _ rfl
              rw [Nat.mul_one, Nat.add_zero] at this
              exact this) hb (by omega) hc (by
              have := join_len (sep := [59]) (N := 300) (by decide) hsz
              rw [List.length_map] at this
              have e : (59 :: []) = (⟨#[59]⟩ : ByteArray).data.toList := rfl
              rw [← e]
              omega))
            have hlm : ¬ M.length = 0 := by omega
            go_wp2_with (go_at_call 44; (with_reducible refine hj.out.mono ?_); rintro e w2 ⟨rfl, hx2⟩)
            go_ret
            exact ⟨by rw [hVe.out]; rfl, hext.trans3 (hx2.mono hext.below.size)⟩
    · have hVe : V = ByteArray.empty := by rw [← hV.out, if_neg (fun h => hAt (by rw [← hA.out]; exact h.2))]
      subst hVe
      clear hV hA
      go_enter Tryd.func10, Tryd.ntmps10
      go_wp2_with (go_at_call 41; (with_reducible refine (hal.out _ (HX.out.ext (by repeat (first | exact Ext.refl _ | assumption | refine Ext.drew ?_ | refine Ext.drewN ?_ _ | refine Ext.iter ?_ _ _ | refine Ext.alloc ?_ _ | refine Ext.setCell ?_ (by first | exact Nat.le_refl _ | (simp <;> omega)) _ | refine Ext.trans2 (by assumption) ?_)))).mono ?_); rintro e w1 ⟨⟨hP, rfl⟩ | ⟨hP, rfl⟩, hx1⟩ <;> first | contradiction | skip)
      go_ret
      exact ⟨rfl, (by repeat (first | exact Ext.refl _ | assumption | refine Ext.drew ?_ | refine Ext.drewN ?_ _ | refine Ext.iter ?_ _ _ | refine Ext.alloc ?_ _ | refine Ext.setCell ?_ (by first | exact Nat.le_refl _ | (simp <;> omega)) _ | refine Ext.trans2 (by assumption) ?_))⟩
  · have h20i : (20 : Int) < xs.length := by omega
    have hVe : V = ByteArray.empty := by rw [← hV.out, if_neg (fun h => h20 h.1)]
    subst hVe
    clear hV
    go_enter Tryd.func10, Tryd.ntmps10
    go_wp2
    go_ret
    exact ⟨rfl, (by repeat (first | exact Ext.refl _ | assumption | refine Ext.drew ?_ | refine Ext.drewN ?_ _ | refine Ext.iter ?_ _ _ | refine Ext.alloc ?_ _ | refine Ext.setCell ?_ (by first | exact Nat.le_refl _ | (simp <;> omega)) _ | refine Ext.trans2 (by assumption) ?_))⟩
end Go.Proofs.YthpnkcamjcohgaaDoor
