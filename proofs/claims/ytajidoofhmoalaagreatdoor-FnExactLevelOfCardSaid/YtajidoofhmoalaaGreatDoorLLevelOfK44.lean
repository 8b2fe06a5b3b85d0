/- The wrap of a law that lists variables, the world's shape kept. -/
import Derived.Test.YtajidoofhmoalaaGreatDoorLLevelOfK02
import Derived.Test.YtajidoofhmoalaaGreatDoorTie
import Derived.LaidMore
import Derived.SevenTiedAt
import Derived.Handed
import Derived.Test.YtajidoofhmoalaaGreatDoorLLevelOfK43
import Derived.Test.YtajidoofhmoalaaGreatDoorLLevelOfK15
import Derived.Test.YtajidoofhmoalaaGreatDoorCards
import Derived.Lay
set_option linter.unusedVariables false
set_option linter.unusedSimpArgs false
namespace Go.Proofs.YtajidoofhmoalaaGreatDoor
open Go
theorem returns_and_shaped {H : Type} {enc : TypeId × Value → H} {a : Assume} {C : Checked} {os : Os} {f : FuncId} {fn : Func} {s : ChangeSpec} {conds : List PathCond} {apart fresh handsOn again : Bool} {X : World → Array Value → Prop}
    (hX : ∀ (w w' : World) (args : Array Value), w.heap = w'.heap → X w args → X w' args)
    (own : ownKnob C.prog.godebug = none) (started : os.Started) (noInit : C.prog.inits.idxOf? f = none) (hfn : C.prog.funcs[f]? = some fn)
    (witness : ∃ (w : World) (tape : Tape) (i : Input), w.os = os ∧ (w.forCall tape i).Shaped C.prog ∧ i.vars = [] ∧ Input.okWide C.prog (w.forCall tape i) .any w.heap.size f i ∧
      ((s.pre enc C.prog fn conds apart (w.forCall tape i).memory i.args ∧ X (w.forCall tape i).memory i.args) ∧ sizedMet enc C.prog fn (OpenSpec.ofChange s) apart (w.forCall tape i).memory i.args) ∧ a.holds C.prog (lone (Frame.enter C.prog f i.args .normal) [] (w.forCall tape i)))
    (contract : ∀ (W : World) (base : Nat) (args : Array Value) (ds gs : List (DataW H)) (before : List MemPlace),
      (∀ (j : Nat) t v, fn.params[j]? = some t → args[j]? = some v → Value.okWide C.prog W .any base t v) →
      DataW.Whole enc C.prog fn.params.toList s.vars apart W args.toList ds gs before → X W args → W.ShapedOpen C.prog →
      Calls C.prog f args W fun e W' => ∃ v, e = .returned v ∧ s.post enc C.prog fn apart fresh handsOn again W args v W') :
    ReturnsInHanded a C os f .any (fun w args => (s.pre enc C.prog fn conds apart w args ∧ X w args) ∧ sizedMet enc C.prog fn (OpenSpec.ofChange s) apart w args) (s.post enc C.prog fn apart fresh handsOn again) := by
  refine returnsInHanded_of_calls own started noInit witness ?_
  intro w tape i _ hsh _ hok hpre hholds
  obtain ⟨_, _, _, fn', hfn', _, _, _, _, hval⟩ := hok
  have e : fn' = fn := Option.some.inj (hfn'.symm.trans hfn)
  subst e
  obtain ⟨⟨⟨ds, gs, before, hw, hc⟩, hx⟩, hz⟩ := hpre
  have hw' := DataW.Whole.of_heap (w' := w.forCall tape i) (by rfl) hw
  refine (contract (w.forCall tape i) w.heap.size i.args ds gs before hval hw' (hX _ _ _ (by rfl) hx) hsh).mono fun e W' ⟨v, he, hp⟩ => ?_
  subst he
  exact ChangeSpec.post_blind hp
end Go.Proofs.YtajidoofhmoalaaGreatDoor
/- LevelOf: the program's side, and the walk of the law. -/
namespace Go.Proofs.YtajidoofhmoalaaGreatDoor
open Go.RowKit

set_option maxHeartbeats 800000 in
set_option maxRecDepth 100000 in
theorem iLevelOf_c (nm : ByteArray) (K p k q co r c : Int) (ps pl pg : Option Addr) (cs cl cg : Nat) (ss ls xs : List Int) (w : World) (hs : IntsAt w ps ss) (hlv : IntsAt w pl ls) (hx : IntsAt w pg xs) (hn : nm.size ≤ 1048576) (hl1 : ss.length ≤ 1048576) (hl2 : ls.length ≤ 1048576) (hl3 : xs.length ≤ 1048576) (hcap : xs.length ≤ cg) (hL : LaidE w) :
    Calls Tryz.prog 23 #[vFam nm K p k q ps ss.length cs co pl ls.length cl, vGrid r c pg xs.length cg] w fun e w' => e = .returned (.tuple #[.int .i64 (lvR nm K p k q ss co ls r c xs).1, .int .i64 (lvR nm K p k q ss co ls r c xs).2]) ∧ Ext w w' := by
  have hx' := hx; have HS := Lib.hid hs; have HV := Lib.hid hlv; have HX := Lib.hid hx; clear hs hlv hx
  have hxA : Ext w ((w.alloc (.cells #[.string nm, .int .i64 K, .int .i64 p, .int .i64 k, .int .i64 q, .slice ps ss.length cs, .int .i64 co, .slice pl ls.length cl] 35)).alloc (.cells #[.int .i64 r, .int .i64 c, .slice pg xs.length cg] 37)) := ((Ext.refl w).alloc _).alloc _
  have hbA := (Blk.new w #[.string nm, .int .i64 K, .int .i64 p, .int .i64 k, .int .i64 q, .slice ps ss.length cs, .int .i64 co, .slice pl ls.length cl] 35).alloc (.cells #[.int .i64 r, .int .i64 c, .slice pg xs.length cg] 37)
  have hbB := Blk.new1 w (.cells #[.string nm, .int .i64 K, .int .i64 p, .int .i64 k, .int .i64 q, .slice ps ss.length cs, .int .i64 co, .slice pl ls.length cl] 35) #[.int .i64 r, .int .i64 c, .slice pg xs.length cg] 37
  have hlv := Lib.hid (fun W (h1 : IntsAt W ps ss) (h2 : IntsAt W pl ls) (h3 : IntsAt W pg xs) => levelOf_c nm K p k q co r c ps pl pg cs cl cg ss ls xs W h1 h2 h3 hn hl1 hl2 hl3 hcap)
  replace hL := Lib.hid hL
  have hR1 := Lib.hid (fun h1 h2 => lvR_ok (nm := nm) (K := K) (p := p) (k := k) (q := q) (co := co) (r := r) (c := c) (ss := ss) (ls := ls) (xs := xs) h1 h2)
  have hR2 := Lib.hid (fun h1 h2 => lvR_dm (nm := nm) (K := K) (p := p) (k := k) (q := q) (co := co) (r := r) (c := c) (ss := ss) (ls := ls) (xs := xs) h1 h2)
  have hR3 := Lib.hid (fun h1 => lvR_no (nm := nm) (K := K) (p := p) (k := k) (q := q) (co := co) (r := r) (c := c) (ss := ss) (ls := ls) (xs := xs) h1)
  generalize lvR nm K p k q ss co ls r c xs = V at *
  generalize szC nm K p k q ss co ls r c xs = z at *
  generalize lvG K p k q co ls r c xs = G at *
  generalize lvL K r c xs ls.length = L at *
  generalize lvM K r c xs = M at *
  clear hx'
  go_enter Tryz.func23, Tryz.ntmps23
  go_upto_region 1 with (fail)
  obtain ⟨gF, hgF⟩ : ∃ g, w.heap.size = g := ⟨_, rfl⟩
  obtain ⟨gG, hgG⟩ : ∃ g, w.heap.size + 1 = g := ⟨_, rfl⟩
  rw [hgG] at hbB ⊢
  rw [hgF] at hbA ⊢
  clear hgF hgG
  generalize ((w.alloc (.cells #[.string nm, .int .i64 K, .int .i64 p, .int .i64 k, .int .i64 q, .slice ps ss.length cs, .int .i64 co, .slice pl ls.length cl] 35)).alloc (.cells #[.int .i64 r, .int .i64 c, .slice pg xs.length cg] 37)) = w0 at *
  have a0 := hbA.cell (i := 0) (v := .string nm) rfl; have a1 := hbA.cell (i := 1) (v := .int .i64 K) rfl; have a2 := hbA.cell (i := 2) (v := .int .i64 p) rfl; have a3 := hbA.cell (i := 3) (v := .int .i64 k) rfl; have a4 := hbA.cell (i := 4) (v := .int .i64 q) rfl; have a5 := hbA.cell (i := 5) (v := .slice ps ss.length cs) rfl; have a6 := hbA.cell (i := 6) (v := .int .i64 co) rfl; have a7 := hbA.cell (i := 7) (v := .slice pl ls.length cl) rfl; have aL := hbA.lt; have c0 := hbB.cell (i := 0) (v := .int .i64 r) rfl; have c1 := hbB.cell (i := 1) (v := .int .i64 c) rfl; have c2 := hbB.cell (i := 2) (v := .slice pg xs.length cg) rfl; have cL := hbB.lt
  go_upto_region 2 with (go_at_call 46; go_loud ((with_reducible refine (hlv.out _ (HS.out.ext hxA) (HV.out.ext hxA) (HX.out.ext hxA)).mono ?_); rintro e w4 ⟨⟨hz, hg, rfl⟩ | ⟨hno, n, rfl⟩, hx4⟩))
  · have hv := Lib.hid (hR1.out hz hg)
    clear hz hg
    go_wp2_with (go_at_call 38; (with_reducible refine (codeNil_c _).mono ?_); rintro e w5 ⟨rfl, hx5⟩)
    go_ret2
    exact ⟨by rw [hv.out]; rfl, (hxA.trans hx4).trans hx5⟩
  · have hv : V = (0, if z = 0 then 7 else z) := by
      by_cases hz : z = 0
      · rw [if_pos hz]; exact hR2.out hz (fun hg => hno ⟨hz, hg⟩)
      · rw [if_neg hz]; exact hR3.out hz
    replace hv := Lib.hid hv
    replace hno := Lib.hid hno
    generalize (if z = 0 then (7 : Int) else z) = cd at *
    go_wp2_with (go_at_call 38; (with_reducible refine (codeOf_c n cd _ (hL.out.ext (hxA.trans hx4))).mono ?_); rintro e w5 ⟨rfl, hx5⟩)
    go_ret2
    exact ⟨by rw [hv.out]; rfl, (hxA.trans hx4).trans hx5⟩
set_option maxRecDepth 100000 in
theorem szFamilyB_c (nm : ByteArray) (K p k q co : Int) (ps pl : Option Addr) (ns cs nl cl : Nat) (w : World) (hn : nm.size ≤ maxLen) (h1 : ns ≤ maxLen) (h2 : nl ≤ maxLen) :
    Calls Tryz.prog 8 #[vFam nm K p k q ps ns cs co pl nl cl, .int .i64 1048576] w fun e w' => (∃ r : Int, e = .returned (.int .i64 r) ∧ (r = -1 ∨ ((0 ≤ r ∧ r ≤ 1048576) ∧ nm.size ≤ 1048576 ∧ ns ≤ 1048576 ∧ nl ≤ 1048576))) ∧ Ext w w' := by
  have hx0 : Ext w (w.alloc (.cells #[.string nm, .int .i64 K, .int .i64 p, .int .i64 k, .int .i64 q, .slice ps ns cs, .int .i64 co, .slice pl nl cl] 26)) := (Ext.refl w).alloc _
  unfold maxLen at hn h1 h2
  by_cases a1 : nm.size ≤ 1048576
  · have d1 : ¬ (1048576 : Int) - nm.size < 0 := by omega
    have s1 := Lib.hid (fun W => sz_c ps cs ns (1048576 - nm.size) W (by omega) (by omega))
    by_cases a2 : (ns : Int) ≤ 1048576 - nm.size
    · have d2 : ¬ (1048576 : Int) - nm.size - ns < 0 := by omega
      rw [if_pos a2] at s1
      have s2 := Lib.hid (fun W => sz_c pl cl nl (1048576 - nm.size - ns) W (by omega) (by omega))
      by_cases a3 : (nl : Int) ≤ 1048576 - nm.size - ns
      · have d3 : ¬ (1048576 : Int) - nm.size - ns - nl < 0 := by omega
        rw [if_pos a3] at s2
        go_enter Tryz.func8, Tryz.ntmps8
        go_wp2_with (first
          | (go_at_call 31; (with_reducible refine (s1.out _).mono ?_); rintro e w1 ⟨rfl, rfl⟩)
          | (go_at_call 31; (with_reducible refine (s2.out _).mono ?_); rintro e w1 ⟨rfl, rfl⟩))
        go_ret
        exact ⟨⟨_, rfl, .inr ⟨⟨by omega, by omega⟩, by omega, by omega, by omega⟩⟩, hx0⟩
      · rw [if_neg a3] at s2
        go_enter Tryz.func8, Tryz.ntmps8
        go_wp2_with (first
          | (go_at_call 31; (with_reducible refine (s1.out _).mono ?_); rintro e w1 ⟨rfl, rfl⟩)
          | (go_at_call 31; (with_reducible refine (s2.out _).mono ?_); rintro e w1 ⟨rfl, rfl⟩))
        go_ret
        exact ⟨⟨_, rfl, .inl rfl⟩, hx0⟩
    · rw [if_neg a2] at s1
      go_enter Tryz.func8, Tryz.ntmps8
      go_wp2_with (go_at_call 31; (with_reducible refine (s1.out _).mono ?_); rintro e w1 ⟨rfl, rfl⟩)
      go_ret
      exact ⟨⟨_, rfl, .inl rfl⟩, hx0⟩
  · have d1 : (1048576 : Int) - nm.size < 0 := by omega
    go_enter Tryz.func8, Tryz.ntmps8
    go_wp2
    go_ret
    exact ⟨⟨_, rfl, .inl rfl⟩, hx0⟩
set_option maxRecDepth 100000 in
theorem szGridL_c (r c : Int) (p : Option Addr) (k n : Nat) (L : Int) (w : World) (hn : n ≤ 9223372036854775807) (hL : 0 ≤ L ∧ L ≤ 1048576) :
    Calls Tryz.prog 9 #[vGrid r c p n k, .int .i64 L] w fun e w' => e = .returned (.int .i64 (if (n : Int) ≤ L then L - n else -1)) ∧ Ext w w' := by
  have hsz := Lib.hid (fun W => sz_c p k n L W hL hn)
  by_cases h : (n : Int) ≤ L
  · rw [if_pos h] at hsz ⊢
    have h2 : ¬ L - (n : Int) < 0 := by omega
    go_enter Tryz.func9, Tryz.ntmps9
    go_wp2_with (go_at_call 31; (with_reducible refine (hsz.out _).mono ?_); rintro e w1 ⟨rfl, rfl⟩)
    go_ret
    exact ⟨rfl, (by repeat (first | exact Ext.refl _ | assumption | refine Ext.drew ?_ | refine Ext.drewN ?_ _ | refine Ext.iter ?_ _ _ | refine Ext.alloc ?_ _ | refine Ext.setCell ?_ (by first | exact Nat.le_refl _ | (simp <;> omega)) _ | refine Ext.trans2 (by assumption) ?_))⟩
  · rw [if_neg h] at hsz ⊢
    go_enter Tryz.func9, Tryz.ntmps9
    go_wp2_with (go_at_call 31; (with_reducible refine (hsz.out _).mono ?_); rintro e w1 ⟨rfl, rfl⟩)
    go_ret
    exact ⟨rfl, (by repeat (first | exact Ext.refl _ | assumption | refine Ext.drew ?_ | refine Ext.drewN ?_ _ | refine Ext.iter ?_ _ _ | refine Ext.alloc ?_ _ | refine Ext.setCell ?_ (by first | exact Nat.le_refl _ | (simp <;> omega)) _ | refine Ext.trans2 (by assumption) ?_))⟩
theorem laidE_of {W : World} (h : laidMetH Tryz.prog [("errors.errorType", Rows.laid_errors_errorType)] W) : LaidE W := by
  have hsize : Tryz.prog.types.size = 425 - 100 := by kernel_rfl
  have honly : ((List.range (425 - 100)).filter fun t => Tryz.prog.rowNamed t [101, 114, 114, 111, 114]) = [67] := by kernel_rfl
  have hrt : (Tryz.prog.cutTypes.find? (·.1 == "internal/reflectlite.rtype")).map (·.2) = some 194 := by kernel_rfl
  have het : Tryz.prog.globalNamed "errors.errorType" = some 0 := by kernel_rfl
  have h' : laidMet Tryz.prog [] W ∧ handlesMet Tryz.prog [("errors.errorType", Rows.laid_errors_errorType)] W := h
  obtain ⟨name, u, ty, e1, e2, e3, e4, e5⟩ := h'.2 _ (List.mem_singleton.2 rfl)
  have en : name = [101, 114, 114, 111, 114] := (Option.some.inj e1).symm
  subst en
  obtain rfl := Option.some.inj (hrt.symm.trans e2)
  have hm : ty ∈ (List.range (425 - 100)).filter fun t => Tryz.prog.rowNamed t [101, 114, 114, 111, 114] := List.mem_filter.2 ⟨List.mem_range.2 (by rw [← hsize]; exact e3), e4⟩
  rw [honly] at hm
  obtain rfl := List.mem_singleton.1 hm
  have hh : typeHandle Tryz.prog 67 = .pointer (some ⟨1, 67, none⟩) := by kernel_rfl
  rw [hh] at e5
  unfold LaidE
  simpa using World.var?_cell het e5 0
end Go.Proofs.YtajidoofhmoalaaGreatDoor
