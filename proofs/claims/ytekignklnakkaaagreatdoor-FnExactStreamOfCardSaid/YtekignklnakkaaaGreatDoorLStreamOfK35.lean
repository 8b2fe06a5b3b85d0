/- The level of a symbol, on the reference's side. -/
import Derived.Test.YtekignklnakkaaaGreatDoorLStreamOfK34
import Derived.Test.YtekignklnakkaaaGreatDoorLStreamOfK00
import Derived.LaidEql
import Derived.Stop.Asserts
import Derived.RowKitTokens
import Derived.Test.YtekignklnakkaaaGreatDoorLStreamOfK03
set_option linter.unusedVariables false
set_option linter.unusedSimpArgs false
namespace Go.Proofs.YtekignklnakkaaaGreatDoor
open Go.RowKit

theorem szC_zero {nm : ByteArray} {K p k q co r c : Int} {ss ls xs : List Int} (h : szC nm K p k q ss co ls r c xs = 0) : (famOK nm K p k q ss co ls ∧ gridOK r c xs) ∧ r ∈ ss ∧ c = colsV K co r := by
  unfold szC at h
  by_cases h1 : famOK nm K p k q ss co ls ∧ gridOK r c xs
  · rw [if_pos h1] at h
    by_cases h2 : r ∈ ss ∧ c = colsV K co r
    · exact ⟨h1, h2⟩
    · rw [if_neg h2] at h
      exact absurd h (by decide)
  · rw [if_neg h1] at h
    exact absurd h (by decide)
open Classical in
noncomputable def lvR (nm : ByteArray) (K p k q : Int) (ss : List Int) (co : Int) (ls : List Int) (r c : Int) (xs : List Int) : Int × Int :=
  if szC nm K p k q ss co ls r c xs = 0 then (if lvG K p k q co ls r c xs then (lvL K r c xs ls.length, 0) else (0, 7)) else (0, szC nm K p k q ss co ls r c xs)
theorem lvR_ok {nm : ByteArray} {K p k q co r c : Int} {ss ls xs : List Int} (h : szC nm K p k q ss co ls r c xs = 0) (hg : lvG K p k q co ls r c xs) : lvR nm K p k q ss co ls r c xs = (lvL K r c xs ls.length, 0) := by
  unfold lvR
  rw [if_pos h, if_pos hg]
theorem lvR_dm {nm : ByteArray} {K p k q co r c : Int} {ss ls xs : List Int} (h : szC nm K p k q ss co ls r c xs = 0) (hg : ¬ lvG K p k q co ls r c xs) : lvR nm K p k q ss co ls r c xs = (0, 7) := by
  unfold lvR
  rw [if_pos h, if_neg hg]
theorem lvR_no {nm : ByteArray} {K p k q co r c : Int} {ss ls xs : List Int} (h : ¬ szC nm K p k q ss co ls r c xs = 0) : lvR nm K p k q ss co ls r c xs = (0, szC nm K p k q ss co ls r c xs) := if_neg h
end Go.Proofs.YtekignklnakkaaaGreatDoor
/- The code of a failure of reading, through the library's errors.As (after the kit's worked example on errors.As). -/
namespace Go.Proofs.YtekignklnakkaaaGreatDoor
open Go.RowKit Go.Extern.Stop Go.Stop Go.Extern

abbrev vErr (n c : Int) : Value := .iface 131 (.agg #[.int .i64 n, .iface 90 (.agg #[.int .i64 c])])
def LaidE (w : World) : Prop := w.cell? ⟨0, 0, none⟩ = some (.iface 189 (.agg #[.pointer (some ⟨1, 65, none⟩)]))
theorem LaidE.lt {w : World} (h : LaidE w) : 0 < w.heap.size := by
  rcases Nat.eq_zero_or_pos w.heap.size with h0 | h0
  · unfold LaidE at h
    simp [World.cell?, h0] at h
  · exact h0
theorem LaidE.ext {w w' : World} (h : LaidE w) (hx : Ext w w') : LaidE w' := by
  have h1 := (ecell hx).1 0 0 h.lt
  unfold LaidE at *
  rw [h1]
  exact h
theorem eValueOf (t : Addr) (w : World) : (ReflectliteValue.unpack (.iface 92 (.pointer (some t)))).run Tryz.prog w
    = .ok (.agg #[.pointer (some ⟨1, 92, none⟩), .pointer (some ⟨w.heap.size, 0, none⟩), .int .u64 150]) (w.alloc (.cells #[.pointer (some t)] 92)) := by kernel_rfl
theorem eType (a : Addr) (w : World) : (ReflectliteValue.methodAny (ReflectliteValue.valueError "reflectlite.Value.Type" 0) (fun t _ _ _ => ReflectliteType.toType t) #[.agg #[.pointer (some ⟨1, 92, none⟩), .pointer (some a), .int .u64 150]]).run Tryz.prog w
    = .ok (.iface 189 (.agg #[.pointer (some ⟨1, 92, none⟩)])) w := by kernel_rfl
theorem eMKind (h : Value) (w : World) : (Go.method 425 189 (.agg #[h]) "Kind").run Tryz.prog w = .ok (270, h) w := by kernel_rfl
theorem eKindP (w : World) : ((ReflectliteType.abiMethod fun t => (fun a : Nat => Value.int IntKind.u8 (a : Int)) <$> Rtype.kind t) #[.pointer (some ⟨1, 92, none⟩)]).run Tryz.prog w = .ok (.int .u8 22) w := by kernel_rfl
theorem eKindF (w : World) : ((ReflectliteType.abiMethod fun t => (fun a : Nat => Value.int IntKind.u8 (a : Int)) <$> Rtype.kind t) #[.pointer (some ⟨1, 90, none⟩)]).run Tryz.prog w = .ok (.int .u8 25) w := by kernel_rfl
theorem rlm (z : Sem Value) (f : TypeId → Addr → Nat → Nat → Sem Value) (v : Value) :
    ReflectliteValue.method z f #[v] = (do match ← ReflectliteValue.parts v with | none => z | some (t, a, fl) => f t a fl (fl % 32)) := rfl
theorem ePartsP (a : Addr) (w : World) : (ReflectliteValue.parts (.agg #[.pointer (some ⟨1, 92, none⟩), .pointer (some a), .int .u64 150])).run Tryz.prog w = .ok (some (92, a, 150)) w := by kernel_rfl
theorem eIsNil (a p : Addr) (W : World) (ha : W.cell? a = some (.pointer (some p))) :
    (ReflectliteValue.method (ReflectliteValue.valueError "reflectlite.Value.IsNil" 0) ReflectliteValue.isNil #[.agg #[.pointer (some ⟨1, 92, none⟩), .pointer (some a), .int .u64 150]]).run Tryz.prog W = .ok (.bool false) W := by
  rw [rlm]
  simp only [Sem.run_bind, ePartsP, Result.andThen]
  simp [ReflectliteValue.isNil, loadVar, isAgg, underlying, Tryz.underlying92, ha, Result.andThen]
theorem eMElem (h : Value) (w : World) : (Go.method 425 189 (.agg #[h]) "Elem").run Tryz.prog w = .ok (282, .agg #[h]) w := by kernel_rfl
theorem eMImpl (h : Value) (w : World) : (Go.method 425 189 (.agg #[h]) "Implements").run Tryz.prog w = .ok (283, .agg #[h]) w := by kernel_rfl
theorem eMAsgn (h : Value) (w : World) : (Go.method 425 189 (.agg #[h]) "AssignableTo").run Tryz.prog w = .ok (280, .agg #[h]) w := by kernel_rfl
theorem eElem (w : World) : (ReflectliteType.method ReflectliteType.elem #[.agg #[.pointer (some ⟨1, 92, none⟩)]]).run Tryz.prog w = .ok (.iface 189 (.agg #[.pointer (some ⟨1, 90, none⟩)])) w := by kernel_rfl
theorem eImpl (w : World) : (ReflectliteType.relation "Implements" ReflectliteType.implements_ #[.agg #[.pointer (some ⟨1, 90, none⟩)], .iface 189 (.agg #[.pointer (some ⟨1, 65, none⟩)])]).run Tryz.prog w = .ok (.bool true) w := by kernel_rfl
theorem eTypeOfF (v : Value) (w : World) : (ReflectliteType.typeOf #[.iface 90 v]).run Tryz.prog w = .ok (.iface 189 (.agg #[.pointer (some ⟨1, 90, none⟩)])) w := by kernel_rfl
theorem eTypeOfS (v : Value) (w : World) : (ReflectliteType.typeOf #[.iface 131 v]).run Tryz.prog w = .ok (.iface 189 (.agg #[.pointer (some ⟨1, 131, none⟩)])) w := by kernel_rfl
theorem eAsgnF (w : World) : (ReflectliteType.relation "AssignableTo" ReflectliteType.assignableTo #[.agg #[.pointer (some ⟨1, 90, none⟩)], .iface 189 (.agg #[.pointer (some ⟨1, 90, none⟩)])]).run Tryz.prog w = .ok (.bool true) w := by kernel_rfl
theorem eAsgnS (w : World) : (ReflectliteType.relation "AssignableTo" ReflectliteType.assignableTo #[.agg #[.pointer (some ⟨1, 131, none⟩)], .iface 189 (.agg #[.pointer (some ⟨1, 90, none⟩)])]).run Tryz.prog w = .ok (.bool false) w := by kernel_rfl
theorem eValueOfF (c : Int) (w : World) : (ReflectliteValue.unpack (.iface 90 (.agg #[.int .i64 c]))).run Tryz.prog w
    = .ok (.agg #[.pointer (some ⟨1, 90, none⟩), .pointer (some ⟨w.heap.size, 0, none⟩), .int .u64 153]) (w.alloc (.cells #[.int .i64 c] 90)) := by kernel_rfl
theorem eElemOf (w : World) : (Rtype.elem? 92).run Tryz.prog w = .ok (some 90) w := by kernel_rfl
theorem eMk (p : Addr) (w : World) : (ReflectliteValue.mk 90 p ReflectliteValue.flagAddr).run Tryz.prog w = .ok (.agg #[.pointer (some ⟨1, 90, none⟩), .pointer (some p), .int .u64 409]) w := by kernel_rfl
theorem eElemV (a p : Addr) (W : World) (ha : W.cell? a = some (.pointer (some p))) :
    (ReflectliteValue.method (ReflectliteValue.valueError "reflectlite.Value.Elem" 0) ReflectliteValue.elem #[.agg #[.pointer (some ⟨1, 92, none⟩), .pointer (some a), .int .u64 150]]).run Tryz.prog W
      = .ok (.agg #[.pointer (some ⟨1, 90, none⟩), .pointer (some p), .int .u64 409]) W := by
  rw [rlm]
  simp only [Sem.run_bind, ePartsP, Result.andThen]
  simp [ReflectliteValue.elem, loadVar, isAgg, underlying, Tryz.underlying92, ha, Result.andThen, eElemOf, eMk]
theorem rls (v x : Value) : ReflectliteValue.set #[v, x] = (do
    let (some (dst, a, fl), some (src, b, _)) := (← ReflectliteValue.parts v, ← ReflectliteValue.parts x)
      | unsupported (.noEntry "extern/(internal/reflectlite.Value).Set.zeroValue")
    if fl / ReflectliteValue.flagAddr % 2 == 0 then unsupported (.noEntry "extern/(internal/reflectlite.Value).Set.unaddressable")
    let val ← loadVar src b
    if ← Rtype.directlyAssignable dst src then storeVar dst a val
    else if ← Rtype.implements dst src then
      if (← Rtype.kind src) == 20 then
        match val with
        | .nilIface => unsupported (.noEntry "extern/reflectlite: a nil value of one interface type handed on as a value of another")
        | _ => storeVar dst a val
      else storeVar dst a (.iface src val)
    else panicString ("reflectlite.Set: value of type " ++ (← Rtype.spelt src) ++ " is not assignable to type " ++ (← Rtype.spelt dst))
    pure (.tuple #[])) := rfl
theorem ePartsFa (a : Addr) (w : World) : (ReflectliteValue.parts (.agg #[.pointer (some ⟨1, 90, none⟩), .pointer (some a), .int .u64 409])).run Tryz.prog w = .ok (some (90, a, 409)) w := by kernel_rfl
theorem ePartsF (a : Addr) (w : World) : (ReflectliteValue.parts (.agg #[.pointer (some ⟨1, 90, none⟩), .pointer (some a), .int .u64 153])).run Tryz.prog w = .ok (some (90, a, 153)) w := by kernel_rfl
theorem eDirect (w : World) : (Rtype.directlyAssignable 90 90).run Tryz.prog w = .ok true w := by kernel_rfl
theorem eSet (t b : Nat) (c : Int) (old : Value) (W : World) (hb : W.cell? ⟨b, 0, none⟩ = some (.int .i64 c)) (ht : W.cell? ⟨t, 0, none⟩ = some old) (hf : W.frozen? ⟨t, 0, none⟩ = false) :
    (ReflectliteValue.set #[.agg #[.pointer (some ⟨1, 90, none⟩), .pointer (some ⟨t, 0, none⟩), .int .u64 409], .agg #[.pointer (some ⟨1, 90, none⟩), .pointer (some ⟨b, 0, none⟩), .int .u64 153]]).run Tryz.prog W
      = .ok (.tuple #[]) (W.setCell ⟨t, 0, none⟩ (.int .i64 c)) := by
  have hsz : ∀ w, (sizeOf 90).run Tryz.prog w = .ok 1 w := fun w => by kernel_rfl
  have hlc : (loadCells ⟨b, 0, none⟩ 1).run Tryz.prog W = .ok #[.int .i64 c] W := by simp [loadCells, loadCellsFrom, Addr.add, hb, Result.andThen]
  rw [rls]
  simp only [Sem.run_bind, ePartsFa, ePartsF, Result.andThen]
  simp [ReflectliteValue.flagAddr, loadVar, isAgg, underlying, Tryz.underlying90, hsz, hlc, Result.andThen, eDirect, storeVar, Value.cells, storeCells, Addr.add]
  rw [run_store Tryz.prog W ⟨t, 0, none⟩ _ _ (by rfl)]
  simp [ht, hf]
theorem eNoAs (v : Value) (xT : TypeId) (w : World) : (Instr.typeAssert (.iface 131 v) xT 194 true).run Tryz.prog w = .ok (.tuple #[.nilIface, .bool false]) w := run_typeAssert_lacksB Tryz.underlying194 (by kernel_rfl) (by kernel_rfl) v xT w
theorem eHasU (v : Value) (xT : TypeId) (w : World) : (Instr.typeAssert (.iface 131 v) xT 197 true).run Tryz.prog w = .ok (.tuple #[.iface 131 v, .bool true]) w := run_typeAssert_hasB Tryz.underlying197 (by kernel_rfl) v xT w
theorem eMUnwrap (v : Value) (w : World) : (Go.method 425 131 v "Unwrap").run Tryz.prog w = .ok (275, v) w := by kernel_rfl
end Go.Proofs.YtekignklnakkaaaGreatDoor
/- The code of a failure of reading. -/
namespace Go.Proofs.YtekignklnakkaaaGreatDoor
open Go.RowKit Go.Extern.Stop Go.Stop Go.Extern

theorem unwrap_c (v : Value) (n : Int) (w : World) : Calls Tryz.prog 275 #[.agg #[.int .i64 n, v]] w fun e w' => e = .returned v ∧ Ext w w' := by
  go_enter Tryz.func275, Tryz.ntmps275
  go_wp2
  go_ret
  exact ⟨rfl, eX⟩
set_option maxHeartbeats 4000000 in
theorem as_c (n c : Int) (t : Nat) (a : Nat) (old : Value) (w : World) (ht : w.cell? ⟨t, 0, none⟩ = some old) (htl : t < w.heap.size) (hf : w.frozen? ⟨t, 0, none⟩ = false) (ha : w.cell? ⟨a, 0, none⟩ = some (.pointer (some ⟨t, 0, none⟩))) (hal : a < w.heap.size) :
    Calls Tryz.prog 95 #[.iface 131 (.agg #[.int .i64 n, .iface 90 (.agg #[.int .i64 c])]), .iface 92 (.pointer (some ⟨t, 0, none⟩)), .agg #[.pointer (some ⟨1, 92, none⟩), .pointer (some ⟨a, 0, none⟩), .int .u64 150], .iface 189 (.agg #[.pointer (some ⟨1, 90, none⟩)])] w fun e w' => e = .returned (.bool true) ∧ ∃ w1 o, Ext w w1 ∧ w' = (w1.setCell ⟨t, 0, none⟩ (.int .i64 c)).alloc o := by
  have g1 := @run_callFunc_extern Tryz.prog 138 _ ReflectliteType.typeOf Tryz.func138 (by kernel_rfl) (by kernel_rfl) (by kernel_rfl) (by kernel_rfl)
  have g2 := @run_callFunc_extern Tryz.prog 280 _ (ReflectliteType.relation "AssignableTo" ReflectliteType.assignableTo) Tryz.func280 (by kernel_rfl) (by kernel_rfl) (by kernel_rfl) (by kernel_rfl)
  have g3 := @run_callFunc_extern Tryz.prog 139 _ (ReflectliteValue.method (ReflectliteValue.valueError "reflectlite.Value.Elem" 0) ReflectliteValue.elem) Tryz.func139 (by kernel_rfl) (by kernel_rfl) (by kernel_rfl) (by kernel_rfl)
  have g4 := @run_callFunc_extern Tryz.prog 140 _ ReflectliteValue.set Tryz.func140 (by kernel_rfl) (by kernel_rfl) (by kernel_rfl) (by kernel_rfl)
  have g5 := @run_callFunc_extern Tryz.prog 92 _ (fun args => ReflectliteValue.unpack (args.getD 0 (.tuple #[]))) Tryz.func92 (by kernel_rfl) (by kernel_rfl) (by kernel_rfl) (by kernel_rfl)
  have t1 := eTypeOfS
  have t2 := eTypeOfF
  have m1 := eMAsgn
  have s1 := eAsgnS
  have s2 := eAsgnF
  have n1 := eNoAs
  have u1 := eHasU
  have m2 := eMUnwrap
  have hx0 : Ext w (w.alloc (.cells #[.pointer (some ⟨1, 92, none⟩), .pointer (some ⟨a, 0, none⟩), .int .u64 150] 135)) := (Ext.refl w).alloc _
  have hb0 := Blk.new w #[.pointer (some ⟨1, 92, none⟩), .pointer (some ⟨a, 0, none⟩), .int .u64 150] 135
  have v1 := eValueOfF c
  go_enter Tryz.func95, Tryz.ntmps95
  go_wp2
  refine wp_loop_rounds 2 ?_
  rw [rounds_succ]
  go_wp2_with (go_at_call 275; (with_reducible refine (unwrap_c _ _ _).mono ?_); rintro e w5 ⟨rfl, hx5⟩)
  have hx := hx0.trans hx5
  obtain ⟨c1, c2, c3, c4⟩ := ecell hx
  have hb5 := hb0.ext hx5
  obtain ⟨b0, b1, b2⟩ := hb5.c3
  have bl := hb5.lt
  have el := eElemV ⟨a, 0, none⟩ ⟨t, 0, none⟩ w5 ((c1 a 0 hal).trans ha)
  have htl5 := c3 t htl
  have st := eSet t w5.heap.size c old (w5.alloc (.cells #[.int .i64 c] 90)) ((Blk.new w5 #[.int .i64 c] 90).cell (i := 0) rfl) (by rw [World.cell?_alloc_lt _ _ ⟨t, 0, none⟩ htl5]; exact (c1 t 0 htl).trans ht) (by rw [World.frozen?_alloc_old _ _ ⟨t, 0, none⟩ (Nat.ne_of_lt htl5)]; exact (c2 t 0 htl).trans hf)
  rw [rounds_succ]
  go_wp2
  go_ret
  exact ⟨rfl, _, _, hx, rfl⟩
set_option maxHeartbeats 4000000 in
theorem As_c (n c : Int) (t : Nat) (old : Value) (w : World) (hL : LaidE w) (ht : w.cell? ⟨t, 0, none⟩ = some old) (htl : t < w.heap.size) (hf : w.frozen? ⟨t, 0, none⟩ = false) :
    Calls Tryz.prog 55 #[.iface 131 (.agg #[.int .i64 n, .iface 90 (.agg #[.int .i64 c])]), .iface 92 (.pointer (some ⟨t, 0, none⟩))] w fun e w' => e = .returned (.bool true) ∧ ∃ w1 o, Ext w w1 ∧ w' = (w1.setCell ⟨t, 0, none⟩ (.int .i64 c)).alloc o := by
  have g1 := @run_callFunc_extern Tryz.prog 93 _ (ReflectliteValue.methodAny (ReflectliteValue.valueError "reflectlite.Value.Type" 0) (fun t _ _ _ => ReflectliteType.toType t)) Tryz.func93 (by kernel_rfl) (by kernel_rfl) (by kernel_rfl) (by kernel_rfl)
  have g2 := @run_callFunc_extern Tryz.prog 94 _ (ReflectliteValue.method (ReflectliteValue.valueError "reflectlite.Value.IsNil" 0) ReflectliteValue.isNil) Tryz.func94 (by kernel_rfl) (by kernel_rfl) (by kernel_rfl) (by kernel_rfl)
  have g3 := @run_callFunc_extern Tryz.prog 270 _ (ReflectliteType.abiMethod fun t => do pure (.int .u8 (← Rtype.kind t))) Tryz.func270 (by kernel_rfl) (by kernel_rfl) (by kernel_rfl) (by kernel_rfl)
  have g4 := @run_callFunc_extern Tryz.prog 282 _ (ReflectliteType.method ReflectliteType.elem) Tryz.func282 (by kernel_rfl) (by kernel_rfl) (by kernel_rfl) (by kernel_rfl)
  have g6 := @run_callFunc_extern Tryz.prog 283 _ (ReflectliteType.relation "Implements" ReflectliteType.implements_) Tryz.func283 (by kernel_rfl) (by kernel_rfl) (by kernel_rfl) (by kernel_rfl)
  have g5 := @run_callFunc_extern Tryz.prog 92 _ (fun args => ReflectliteValue.unpack (args.getD 0 (.tuple #[]))) Tryz.func92 (by kernel_rfl) (by kernel_rfl) (by kernel_rfl) (by kernel_rfl)
  have f6 := eValueOf
  have f7 := eType
  have mK := eMKind
  have mE := eMElem
  have mI := eMImpl
  have kP := eKindP
  have kF := eKindF
  have eP := eElem
  have iF := eImpl
  have hx1 : Ext w (w.alloc (.cells #[.pointer (some ⟨t, 0, none⟩)] 92)) := (Ext.refl w).alloc _
  have hx2 := hx1.alloc (.cells #[.pointer (some ⟨1, 92, none⟩), .pointer (some ⟨w.heap.size, 0, none⟩), .int .u64 150] 135)
  have hb1 := (Blk.new w #[.pointer (some ⟨t, 0, none⟩)] 92).alloc (.cells #[.pointer (some ⟨1, 92, none⟩), .pointer (some ⟨w.heap.size, 0, none⟩), .int .u64 150] 135)
  have c1 := hb1.cell (i := 0) (v := .pointer (some ⟨t, 0, none⟩)) rfl
  have n8 := eIsNil ⟨w.heap.size, 0, none⟩ ⟨t, 0, none⟩ _ c1
  have hg : World.cell? _ _ = _ := hL.ext hx2
  have hc := Lib.hid (as_c n c t w.heap.size old _ (((ecell hx2).1 t 0 htl).trans ht) ((ecell hx2).2.2.1 t htl) (((ecell hx2).2.1 t 0 htl).trans hf) c1 hb1.lt)
  go_enter Tryz.func55, Tryz.ntmps55
  go_wp2_with (go_at_call 95; (with_reducible refine (hc.out).mono ?_); rintro e w5 ⟨rfl, w6, o, hx6, rfl⟩)
  go_ret
  exact ⟨rfl, _, _, hx2.trans hx6, rfl⟩
theorem codeOf_c (n c : Int) (w : World) (hL : LaidE w) :
    Calls Tryz.prog 35 #[vErr n c] w fun e w' => e = .returned (.int .i64 c) ∧ Ext w w' := by
  have hx1 : Ext w (w.alloc (.cells #[.int .i64 0] 90)) := (Ext.refl w).alloc _
  have hb1 := Blk.new w #[.int .i64 0] 90
  have hc := Lib.hid (As_c n c w.heap.size (.int .i64 0) _ (hL.ext hx1) (hb1.cell (i := 0) rfl) hb1.lt (hb1.free 0))
  go_enter Tryz.func35, Tryz.ntmps35
  go_wp2_with (go_at_call 55; (with_reducible refine (hc.out).mono ?_); rintro e w5 ⟨rfl, w6, o, hx6, rfl⟩; have hb6 := ((hb1.ext hx6).set 0 (.int .i64 c)).alloc o; have c6 := hb6.cell (i := 0) (v := .int .i64 c) rfl)
  go_ret
  exact ⟨rfl, ((hx1.trans hx6).setCell (p := ⟨w.heap.size, 0, none⟩) (Nat.le_refl _) _).alloc _⟩
theorem codeNil_c (w : World) : Calls Tryz.prog 35 #[.nilIface] w fun e w' => e = .returned (.int .i64 0) ∧ Ext w w' := by
  go_enter Tryz.func35, Tryz.ntmps35
  go_wp2
  go_ret
  exact ⟨rfl, eX⟩
end Go.Proofs.YtekignklnakkaaaGreatDoor
