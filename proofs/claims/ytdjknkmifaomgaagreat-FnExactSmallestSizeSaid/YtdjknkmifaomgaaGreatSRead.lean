
/- How the reference reads a segment. -/
import Derived.Test.YtdjknkmifaomgaaGreatReadSeg2
namespace Go.Proofs.YtdjknkmifaomgaaGreat
set_option linter.unusedVariables false
set_option linter.unusedSimpArgs false
open Go.RowKit

/-- For a group of n, the base of the reference and that of the program do the same. -/
theorem gq_base {m G : Int} {wd n : Nat} (hm : 1 ≤ m ∧ m ≤ 4) (hG : 0 ≤ G ∧ G < 2 ^ wd) (hn : n ≤ (grp m).toNat) (hwd : wid m n = wd) : ∀ j, j < n → gq G (iBase m) j % grpBase m = gq G (iBase m) j % iBase m ∧ gq G (iBase m) j / grpBase m = gq G (iBase m) j / iBase m := by
  intro j hj
  have : m = 1 ∨ m = 2 ∨ m = 3 ∨ m = 4 := by omega
  rcases this with rfl | rfl | rfl | rfl
  · exact ⟨rfl, rfl⟩
  · exact ⟨rfl, rfl⟩
  · have e : (grp 3).toNat = 1 := rfl
    obtain rfl : j = 0 := by omega
    have e5 : wid 3 (n : Int) = 5 := rfl
    obtain rfl : wd = 5 := by omega
    have h2 : G < 32 := hG.2
    have h1 := hG.1
    show G % 256 = G % 32 ∧ G / 256 = G / 32
    omega
  · exact ⟨rfl, rfl⟩

end Go.Proofs.YtdjknkmifaomgaaGreat

