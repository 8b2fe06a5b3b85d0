
/- The reference's best segments; marking lists of segments. -/
import Derived.Test.YtdjknkmifaomgaaGreatSegs
import Derived.Test.YtdjknkmifaomgaaGreatTab
import Derived.Test.YtdjknkmifaomgaaGreatInts
import Derived.Test.YtdjknkmifaomgaaGreatStructs
/-! The reference's best segments; marking lists of segments. -/
namespace Go.Proofs.YtdjknkmifaomgaaGreat
set_option linter.unusedVariables false
set_option linter.unusedSimpArgs false
open Go.RowKit

end Go.Proofs.YtdjknkmifaomgaaGreat

/-! Marks: the text of a mark. -/
/-! Marks: the text of a mark. -/
namespace Go.Proofs.YtdjknkmifaomgaaGreat
set_option linter.unusedVariables false
set_option linter.unusedSimpArgs false
open Go.RowKit

theorem byteStr (b : UInt8) (w : World) : (convert 36 9 (.slice (some ⟨w.heap.size, 0, none⟩) 1 1)).run Tryz.prog (w.alloc (.cells #[.int .u8 b.toNat] 5)) = .ok (.string ⟨#[b]⟩) (w.alloc (.cells #[.int .u8 b.toNat] 5)) := by
  have := run_convert_bytes_back (P := Tryz.prog) (w.alloc (.cells #[.int .u8 b.toNat] 5)) 36 9 5 ⟨w.heap.size, 0, none⟩ 1 [b] (by kernel_rfl) (by kernel_rfl) (by kernel_rfl) (fun j hj => by
    have hj0 : j = 0 := by simpa using hj
    subst hj0
    rw [addr_add]
    exact (Blk.new w #[.int .u8 b.toNat] 5).cell rfl)
  exact this
/-- A digit's sign. -/
def dig1 (x : Nat) : UInt8 := UInt8.ofNat (48 + x)
def digA : Nat → Nat → ByteArray → ByteArray
  | 0, _, o => o
  | f + 1, k, o => if k = 0 then o else digA f (k / 10) (⟨#[dig1 (k % 10)]⟩ ++ o)
def mText (k : Nat) : ByteArray := if k = 0 then ⟨#[109, 48]⟩ else ⟨#[109]⟩ ++ digA k k ByteArray.empty
end Go.Proofs.YtdjknkmifaomgaaGreat

/-! Marking and holding lists of segments. -/
namespace Go.Proofs.YtdjknkmifaomgaaGreat
set_option linter.unusedVariables false
set_option linter.unusedSimpArgs false
open Go.RowKit

def mkSg (k0 : Nat) (n : Nat) : List Sg := (List.range n).map fun i => (((k0 + 2 * i : Nat) : Int), mText (k0 + 2 * i + 1))
theorem mkSg_len (k0 n : Nat) : (mkSg k0 n).length = n := by simp [mkSg]
theorem mkSg_succ (k0 n : Nat) : mkSg k0 (n + 1) = mkSg k0 n ++ [(((k0 + 2 * n : Nat) : Int), mText (k0 + 2 * n + 1))] := by simp [mkSg, List.range_succ]
theorem OwnCells.at {B : Nat} {w : World} {p : Option Addr} {P c R : List Value} (h : OwnCells B w p (P ++ (c ++ R))) {j n : Nat} (hn : n = P.length + j) (hj : j < c.length) :
    ∃ b o, p = some ⟨b, o, none⟩ ∧ B ≤ b ∧ b < w.heap.size ∧ w.cell? ⟨b, o + n, none⟩ = some (c[j]'hj) ∧ w.frozen? ⟨b, o + n, none⟩ = false := by
  subst hn
  obtain ⟨b, o, h1, h2, h3, h4, h5⟩ := h (P.length + j) (by simp; omega)
  refine ⟨b, o, h1, h2, h3, ?_, h5⟩
  rw [h4, List.getElem_append_right (by omega)]
  simp only [Nat.add_sub_cancel_left]
  rw [List.getElem_append_left hj]

end Go.Proofs.YtdjknkmifaomgaaGreat

/-! BestSegments: the law's walk. -/
namespace Go.Proofs.YtdjknkmifaomgaaGreat
set_option linter.unusedVariables false
set_option linter.unusedSimpArgs false
open Go.RowKit

def bsL (s : ByteArray) : List Sg := if s.size ≤ 400 then bests s s.size else []
def bsC (s : ByteArray) : Int := if s.size ≤ 400 then 0 else 3
theorem bsL_len (s : ByteArray) : (bsL s).length ≤ 400 := by
  unfold bsL
  split
  · have := bests_len s s.size
    omega
  · simp
/-- The answer of BestSegments. -/
def bsR (s : ByteArray) (B : Nat) (e : Ending) (w : World) : Prop := ∃ p c, e = .returned (.tuple #[.slice p (bsL s).length c, .int .i64 (bsC s)]) ∧ SOwn segF 2 B w p (bsL s)

end Go.Proofs.YtdjknkmifaomgaaGreat
