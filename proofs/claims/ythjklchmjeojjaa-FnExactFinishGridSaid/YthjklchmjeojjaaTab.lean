
/- The specification's table. -/
import Derived.Test.YthjklchmjeojjaaBest
import Derived.Test.YthjklchmjeojjaaCanon
namespace Go.Proofs.Ythjklchmjeojjaa
set_option linter.unusedVariables false
set_option linter.unusedSimpArgs false
open Go.RowKit

/-- The table in a round: the shorter rests are there, and the best choice so far where there is one. -/
def WTb (s : ByteArray) (cs : Array Value) (d : Nat) (b : Cell) : Prop := DTab s cs d ∧ (b.cnt ≠ 0 → ∀ k, k < 4 → cs[(s.size - 1 - d) * 4 + k]? = b.cells[k]?)
theorem WTb.done {s : ByteArray} {cs : Array Value} {d : Nat} (h : WTb s cs d (cell s (d + 1))) (hd : d < s.size) : DTab s cs (d + 1) := by
  refine ⟨h.1.1, fun j h1 h2 k hk => ?_⟩
  by_cases e : j = d + 1
  · subst e
    have hg := cell_good s (d + 1) (by omega)
    rw [show s.size - (d + 1) = s.size - 1 - d by omega]
    exact h.2 (by unfold Cell.good at hg; omega) k hk
  · exact h.1.2 j (by omega) h2 k hk
theorem WTb.put {s : ByteArray} {cs : Array Value} {d : Nat} {b : Cell} (h : WTb s cs d b) (hd : d < s.size) (x : Cell) : WTb s (put4 cs ((s.size - 1 - d) * 4) x) d x := by
  refine ⟨⟨by simp [put4, h.1.1], fun j h1 h2 k hk => ?_⟩, fun _ k hk => put4_at (by rw [h.1.1]; omega) hk⟩
  rw [put4_ne (by omega)]
  exact h.1.2 j h1 h2 k hk
theorem WTb.cells {s : ByteArray} {cs : Array Value} {d : Nat} {b : Cell} (h : WTb s cs d b) (hb : b.cnt ≠ 0) :
    cs[(s.size - 1 - d) * 4]? = some (.int .i64 b.len) ∧ cs[(s.size - 1 - d) * 4 + 1]? = some (.int .i64 b.cnt) ∧ cs[(s.size - 1 - d) * 4 + 2]? = some (.int .i64 b.size) ∧ cs[(s.size - 1 - d) * 4 + 3]? = some (.int .i64 b.mode) :=
  ⟨h.2 hb 0 (by omega), h.2 hb 1 (by omega), h.2 hb 2 (by omega), h.2 hb 3 (by omega)⟩
theorem Blk.ex4 {w : World} {g : Nat} {cs : Array Value} {t : TypeId} (h : Blk w g cs t) {o : Nat} (ho : o + 4 ≤ cs.size) :
    (∃ v, w.cell? ⟨g, o, none⟩ = some v) ∧ (∃ v, w.cell? ⟨g, o + 1, none⟩ = some v) ∧ (∃ v, w.cell? ⟨g, o + 2, none⟩ = some v) ∧ (∃ v, w.cell? ⟨g, o + 3, none⟩ = some v) :=
  ⟨⟨_, h.cell (Array.getElem?_eq_getElem (by omega))⟩, ⟨_, h.cell (Array.getElem?_eq_getElem (by omega))⟩, ⟨_, h.cell (Array.getElem?_eq_getElem (by omega))⟩, ⟨_, h.cell (Array.getElem?_eq_getElem (by omega))⟩⟩
theorem far_next (m : Int) (s : ByteArray) (d t : Nat) (hd : d < s.size) (ht1 : 1 ≤ t) (ht : t ≤ farF m s (d + 1) + 1) (h255 : t ≤ 255) (hd1 : t ≤ d + 1) :
    (t ≤ farF m s (d + 1) ↔ 0 ≤ charVal m (byteAt s (s.size - 1 - d + t - 1))) := by
  constructor
  · intro h
    have := farF_valid m s (d + 1) (by omega) t ht1 h
    rwa [show s.size - (d + 1) + t - 1 = s.size - 1 - d + t - 1 by omega] at this
  · intro h
    by_cases e : t ≤ farF m s (d + 1)
    · exact e
    · have e2 : farF m s (d + 1) = t - 1 := by omega
      rcases farF_stop m s (d + 1) (by omega) with h2 | h2 | h2
      · omega
      · omega
      · rw [e2, show s.size - (d + 1) + (t - 1) = s.size - 1 - d + t - 1 by omega] at h2
        omega

theorem foldT_at (L : Nat → Cell) (d : Nat) (m : Int) (b : Cell) (t : Nat) (ht : 1 ≤ t) (xc : Cell) (h : L (d - t) = xc) : foldT L d m b t = (foldT L d m b (t - 1)).upd ⟨11 + textW m t + xc.len, xc.cnt + 1, t, m⟩ := by
  obtain ⟨q, rfl⟩ : ∃ q, t = q + 1 := ⟨t - 1, by omega⟩
  rw [← h]
  rfl
end Go.Proofs.Ythjklchmjeojjaa
