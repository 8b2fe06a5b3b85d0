
/- Parts of a message: validity, bits. -/
import Derived.Test.YtdjknkmifaomgaaGreatEncode
namespace Go.Proofs.YtdjknkmifaomgaaGreat
set_option linter.unusedVariables false
set_option linter.unusedSimpArgs false
open Go.RowKit

abbrev vPart (i n y : Int) (t : ByteArray) : Value := .agg #[.int .i64 i, .int .i64 n, .int .i64 y, .string t]
def partOK (i n y : Int) (t : ByteArray) : Prop := (1 ≤ n ∧ n ≤ 8) ∧ (0 ≤ i ∧ i ≤ n - 1) ∧ (0 ≤ y ∧ y ≤ 255) ∧ t.size ≤ 400
def headL (i n y : Int) : List Int := bitsOf 5 3 ++ bitsOf i 3 ++ bitsOf (n - 1) 3 ++ bitsOf y 8
def partL (i n y : Int) (t : ByteArray) : List Int := headL i n y ++ mBits (bests t t.size)
theorem headL_len (i n y : Int) : (headL i n y).length = 17 := by simp [headL, bitsOf_len]
theorem partL_len (i n y : Int) (t : ByteArray) : ((partL i n y t).length : Int) = 17 + (cell t t.size).len := by
  have := msg_len t
  simp only [partL, List.length_append, headL_len]
  omega
theorem bitsOf_bit (n wd : Int) : ∀ x ∈ bitsOf n wd, x = 0 ∨ x = 1 := fun x hx => by
  simp only [bitsOf, List.mem_map] at hx
  obtain ⟨j, _, rfl⟩ := hx
  omega
theorem partL_bit (i n y : Int) (t : ByteArray) : ∀ x ∈ partL i n y t, x = 0 ∨ x = 1 := fun x hx => by
  simp only [partL, headL, List.mem_append] at hx
  rcases hx with (((h | h) | h) | h) | h
  · exact bitsOf_bit _ _ x h
  · exact bitsOf_bit _ _ x h
  · exact bitsOf_bit _ _ x h
  · exact bitsOf_bit _ _ x h
  · exact mBits_bit x h

end Go.Proofs.YtdjknkmifaomgaaGreat
