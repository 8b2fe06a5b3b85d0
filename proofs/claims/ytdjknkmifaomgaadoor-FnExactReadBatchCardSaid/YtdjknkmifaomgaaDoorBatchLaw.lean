
/- How the laws measure, copy and compare batches. -/
import Derived.Test.YtdjknkmifaomgaaDoorBatchI
namespace Go.Proofs.YtdjknkmifaomgaaDoor
set_option linter.unusedVariables false
set_option linter.unusedSimpArgs false
open Go.RowKit

set_option maxRecDepth 100000 in
theorem szBatch_c (s : ByteArray) (f st c wd : Int) (w : World) (hs : s.size ≤ maxLen) :
    Calls Tryd.prog 23 #[vBatch s f st c wd, .int .i64 1048576] w fun e w' => e = .returned (.int .i64 (if s.size ≤ 1048576 then 1048576 - s.size else -1)) ∧ Ext w w' := by
  unfold maxLen at hs
  have hx0 : Ext w (w.alloc (.cells #[.string s, .int .i64 f, .int .i64 st, .int .i64 c, .int .i64 wd] 51)) := (Ext.refl w).alloc _
  by_cases h : s.size ≤ 1048576
  · rw [if_pos h]
    have d1 : ¬ (1048576 : Int) - s.size < 0 := by omega
    go_enter Tryd.func23, Tryd.ntmps23
    go_wp2
    go_ret
    exact ⟨rfl, hx0⟩
  · rw [if_neg h]
    have d1 : (1048576 : Int) - s.size < 0 := by omega
    go_enter Tryd.func23, Tryd.ntmps23
    go_wp2
    go_ret
    exact ⟨rfl, hx0⟩
set_option maxHeartbeats 800000 in
set_option maxRecDepth 100000 in
theorem toBatch_c (s : ByteArray) (f st c wd : Int) (w : World) :
    Calls Tryd.prog 25 #[vBatch s f st c wd] w fun e w' => e = .returned (vBatch s f st c wd) ∧ Ext w w' := by
  go_enter Tryd.func25, Tryd.ntmps25
  go_wp2
  exact bodyPost_ret (v := vBatch s f st c wd) (by simp [results, Tryd.results25, go_sem]) rfl ⟨rfl, (by repeat (first | exact Ext.refl _ | assumption | refine Ext.drew ?_ | refine Ext.drewN ?_ _ | refine Ext.iter ?_ _ _ | refine Ext.alloc ?_ _ | refine Ext.setCell ?_ (by first | exact Nat.le_refl _ | (simp <;> omega)) _ | refine Ext.trans2 (by assumption) ?_))⟩
end Go.Proofs.YtdjknkmifaomgaaDoor
