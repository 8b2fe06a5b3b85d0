/-
  No cell of these rows narrows 'for every input' (looked for: loops, veiled, ifaces, maps, wideKeys, modest, calm, conditions, laid).
  DERIVED. THE GIVEN ROWS OF THIS SEAT. 7 by the template 'for every input the law returns true; each argument reads behind the call as it read before'; 0 by the template 'total and deterministic' (their statements: YtjlndmicjdjdlaaTotals.lean).
  GIVEN WITH THE SEED: the statements are not yours to turn. If you find one false, say at which input.
  Laid BY PROGRAM, IN A SANDBOX (cutbox-rows.mjs): the forced cells as the released guide's own fill.sh prints them over the translation bdf2e2d34f2d5861… (all of the seat's roots in one cut). By AI agents, Wed Nov 11 2026. No macro, syntax, notation, axiom, sorry.
-/
import Derived.Test.YtjlndmicjdjdlaaChecked
import GoSem.Claim
import GoSem.ClaimJoined
import GoSem.ClaimMapViews
import Derived.JoinedTies
import Derived.KernelRfl
namespace Go.Proofs.Ytjlndmicjdjdlaa
/- THE CELL 'sum', in the pinned program and in every row, IS THE sha256 OF THE DUMP (.gsa) THAT YtjlndmicjdjdlaaProg.lean LOADS. Nothing in Lean hashes anything: it is a label: what it is worth is what the hold of that sum in a sandbox is worth. -/
noncomputable def Try.pinned : Pinned := { name := "ytjlndmicjdjdlaa", sum := "bdf2e2d34f2d58619205d20a9d97e7d050315ca620503833a016642e7b6cacd3", checked := Try.checked }
namespace Rows
def none {H : Type} : Left H := { results := [], args := [] }

/-- 'laws.FnExactBoundedBleed': WHATEVER THE INPUT: true; the input reads as it did. -/
def fnExactBoundedBleedSpec : ChangeSpec := { name := "fnExactBoundedBleed", fn := fun _ => fun
  | [d] => { results := [.lit (.bool true)], args := [d] }
  | _ => none }
def fnExactBoundedBleedRow : OpenClaim := { program := "ytjlndmicjdjdlaa", sum := "bdf2e2d34f2d58619205d20a9d97e7d050315ca620503833a016642e7b6cacd3", func := "loop.example/g00879/laws.FnExactBoundedBleed", spec := "fnExactBoundedBleed", apart := false }
def FnExactBoundedBleedSaid : Prop := fnExactBoundedBleedRow.holds Try.pinned (OpenSpec.ofChange fnExactBoundedBleedSpec)

/-- ITS FALSE NEIGHBOUR: 'it returns false'. Refute it at one input. -/
def fnExactBoundedBleedWrong : ChangeSpec := { name := "fnExactBoundedBleed", fn := fun _ => fun
  | [d] => { results := [.lit (.bool false)], args := [d] }
  | _ => none }
def FnExactBoundedBleedWrongFalsely : Prop := fnExactBoundedBleedRow.holds Try.pinned (OpenSpec.ofChange fnExactBoundedBleedWrong)

/-- 'laws.FnExactCheckDigit': WHATEVER THE INPUT: true; the input reads as it did. -/
def fnExactCheckDigitSpec : ChangeSpec := { name := "fnExactCheckDigit", fn := fun _ => fun
  | [d] => { results := [.lit (.bool true)], args := [d] }
  | _ => none }
def fnExactCheckDigitRow : OpenClaim := { program := "ytjlndmicjdjdlaa", sum := "bdf2e2d34f2d58619205d20a9d97e7d050315ca620503833a016642e7b6cacd3", func := "loop.example/g00879/laws.FnExactCheckDigit", spec := "fnExactCheckDigit", unfollowed := true, recurses := true, apart := false }
def FnExactCheckDigitSaid : Prop := fnExactCheckDigitRow.holds Try.pinned (OpenSpec.ofChange fnExactCheckDigitSpec)

/-- ITS FALSE NEIGHBOUR: 'it returns false'. Refute it at one input. -/
def fnExactCheckDigitWrong : ChangeSpec := { name := "fnExactCheckDigit", fn := fun _ => fun
  | [d] => { results := [.lit (.bool false)], args := [d] }
  | _ => none }
def FnExactCheckDigitWrongFalsely : Prop := fnExactCheckDigitRow.holds Try.pinned (OpenSpec.ofChange fnExactCheckDigitWrong)

/-- 'laws.FnExactCharacterValue': WHATEVER THE INPUT: true; the input reads as it did. -/
def fnExactCharacterValueSpec : ChangeSpec := { name := "fnExactCharacterValue", fn := fun _ => fun
  | [d1, d2] => { results := [.lit (.bool true)], args := [d1, d2] }
  | _ => none }
def fnExactCharacterValueRow : OpenClaim := { program := "ytjlndmicjdjdlaa", sum := "bdf2e2d34f2d58619205d20a9d97e7d050315ca620503833a016642e7b6cacd3", func := "loop.example/g00879/laws.FnExactCharacterValue", spec := "fnExactCharacterValue", unfollowed := true, recurses := true, apart := false }
def FnExactCharacterValueSaid : Prop := fnExactCharacterValueRow.holds Try.pinned (OpenSpec.ofChange fnExactCharacterValueSpec)

/-- ITS FALSE NEIGHBOUR: 'it returns false'. Refute it at one input. -/
def fnExactCharacterValueWrong : ChangeSpec := { name := "fnExactCharacterValue", fn := fun _ => fun
  | [d1, d2] => { results := [.lit (.bool false)], args := [d1, d2] }
  | _ => none }
def FnExactCharacterValueWrongFalsely : Prop := fnExactCharacterValueRow.holds Try.pinned (OpenSpec.ofChange fnExactCharacterValueWrong)

/-- 'laws.FnExactGlyphRows': WHATEVER THE INPUT: true; the input reads as it did. -/
def fnExactGlyphRowsSpec : ChangeSpec := { name := "fnExactGlyphRows", fn := fun _ => fun
  | [d] => { results := [.lit (.bool true)], args := [d] }
  | _ => none }
def fnExactGlyphRowsRow : OpenClaim := { program := "ytjlndmicjdjdlaa", sum := "bdf2e2d34f2d58619205d20a9d97e7d050315ca620503833a016642e7b6cacd3", func := "loop.example/g00879/laws.FnExactGlyphRows", spec := "fnExactGlyphRows", apart := false }
def FnExactGlyphRowsSaid : Prop := fnExactGlyphRowsRow.holds Try.pinned (OpenSpec.ofChange fnExactGlyphRowsSpec)

/-- ITS FALSE NEIGHBOUR: 'it returns false'. Refute it at one input. -/
def fnExactGlyphRowsWrong : ChangeSpec := { name := "fnExactGlyphRows", fn := fun _ => fun
  | [d] => { results := [.lit (.bool false)], args := [d] }
  | _ => none }
def FnExactGlyphRowsWrongFalsely : Prop := fnExactGlyphRowsRow.holds Try.pinned (OpenSpec.ofChange fnExactGlyphRowsWrong)

/-- 'laws.FnExactNarrowestMode': WHATEVER THE INPUT: true; the input reads as it did. -/
def fnExactNarrowestModeSpec : ChangeSpec := { name := "fnExactNarrowestMode", fn := fun _ => fun
  | [d] => { results := [.lit (.bool true)], args := [d] }
  | _ => none }
def fnExactNarrowestModeRow : OpenClaim := { program := "ytjlndmicjdjdlaa", sum := "bdf2e2d34f2d58619205d20a9d97e7d050315ca620503833a016642e7b6cacd3", func := "loop.example/g00879/laws.FnExactNarrowestMode", spec := "fnExactNarrowestMode", unfollowed := true, recurses := true, apart := false }
def FnExactNarrowestModeSaid : Prop := fnExactNarrowestModeRow.holds Try.pinned (OpenSpec.ofChange fnExactNarrowestModeSpec)

/-- ITS FALSE NEIGHBOUR: 'it returns false'. Refute it at one input. -/
def fnExactNarrowestModeWrong : ChangeSpec := { name := "fnExactNarrowestMode", fn := fun _ => fun
  | [d] => { results := [.lit (.bool false)], args := [d] }
  | _ => none }
def FnExactNarrowestModeWrongFalsely : Prop := fnExactNarrowestModeRow.holds Try.pinned (OpenSpec.ofChange fnExactNarrowestModeWrong)

/-- 'laws.FnExactIsSegment': WHATEVER THE INPUT: true; the input reads as it did. -/
def fnExactIsSegmentSpec : ChangeSpec := { name := "fnExactIsSegment", fn := fun _ => fun
  | [d] => { results := [.lit (.bool true)], args := [d] }
  | _ => none }
def fnExactIsSegmentRow : OpenClaim := { program := "ytjlndmicjdjdlaa", sum := "bdf2e2d34f2d58619205d20a9d97e7d050315ca620503833a016642e7b6cacd3", func := "loop.example/g00879/laws.FnExactIsSegment", spec := "fnExactIsSegment", unfollowed := true, recurses := true, apart := false }
def FnExactIsSegmentSaid : Prop := fnExactIsSegmentRow.holds Try.pinned (OpenSpec.ofChange fnExactIsSegmentSpec)

/-- ITS FALSE NEIGHBOUR: 'it returns false'. Refute it at one input. -/
def fnExactIsSegmentWrong : ChangeSpec := { name := "fnExactIsSegment", fn := fun _ => fun
  | [d] => { results := [.lit (.bool false)], args := [d] }
  | _ => none }
def FnExactIsSegmentWrongFalsely : Prop := fnExactIsSegmentRow.holds Try.pinned (OpenSpec.ofChange fnExactIsSegmentWrong)

/-- 'laws.FnExactSegmentLength': WHATEVER THE INPUT: true; the input reads as it did. -/
def fnExactSegmentLengthSpec : ChangeSpec := { name := "fnExactSegmentLength", fn := fun _ => fun
  | [d] => { results := [.lit (.bool true)], args := [d] }
  | _ => none }
def fnExactSegmentLengthRow : OpenClaim := { program := "ytjlndmicjdjdlaa", sum := "bdf2e2d34f2d58619205d20a9d97e7d050315ca620503833a016642e7b6cacd3", func := "loop.example/g00879/laws.FnExactSegmentLength", spec := "fnExactSegmentLength", unfollowed := true, recurses := true, apart := false }
def FnExactSegmentLengthSaid : Prop := fnExactSegmentLengthRow.holds Try.pinned (OpenSpec.ofChange fnExactSegmentLengthSpec)

/-- ITS FALSE NEIGHBOUR: 'it returns false'. Refute it at one input. -/
def fnExactSegmentLengthWrong : ChangeSpec := { name := "fnExactSegmentLength", fn := fun _ => fun
  | [d] => { results := [.lit (.bool false)], args := [d] }
  | _ => none }
def FnExactSegmentLengthWrongFalsely : Prop := fnExactSegmentLengthRow.holds Try.pinned (OpenSpec.ofChange fnExactSegmentLengthWrong)

/- THE SECOND FORM. 'bulk': how many values and letters a reading holds, each counted each time it is reached (what is shared counts as often as it is met; a slice's spare places count too). A statement '..UptoSaid' is the law's where the arguments, and the package variables that the reading takes, are together of bulk at most 1048576: NARROWER than '..Said'. Prove '..Said' where nothing that the law and all that it calls make is longer than what came in: it says more and counts as full. Else prove '..UptoSaid'. A law counts once. -/
mutual
def uptoBulk {H : Type} : DataW H → Nat
  | .lit (.string bytes) => bytes.length + 1
  | .lit _ => 1
  | .nil => 1
  | .ptr d => uptoBulk d + 1
  | .slice elems spare => uptoBulkAll elems + uptoBulkAll spare + 1
  | .agg parts => uptoBulkAll parts + 1
  | .iface _ d => uptoBulk d + 1
  | .map entries => uptoBulkEntries entries + 1
  | .held _ => 1
def uptoBulkAll {H : Type} : List (DataW H) → Nat
  | [] => 0
  | d :: r => uptoBulk d + uptoBulkAll r
def uptoBulkEntries {H : Type} : List (Lit × DataW H) → Nat
  | [] => 0
  | x :: r => uptoBulkEntry x + uptoBulkEntries r
def uptoBulkEntry {H : Type} : Lit × DataW H → Nat
  | (.string bytes, d) => bytes.length + uptoBulk d + 1
  | (_, d) => uptoBulk d + 1
 end
def uptoSmall : (H : Type) → List (DataW H) → Bool := fun _ ds => decide (uptoBulkAll ds ≤ 1048576)
def OpenSpec.upto (s : _root_.Go.ChangeSpec) : _root_.Go.OpenSpec := { _root_.Go.OpenSpec.ofChange s with cond := some uptoSmall }

/-- 'laws.FnExactBoundedBleed', WHERE WHAT IT READS IS OF BULK AT MOST 1048576: true; the input reads as it did. -/
def fnExactBoundedBleedUptoRow : OpenClaim := { program := "ytjlndmicjdjdlaa", sum := "bdf2e2d34f2d58619205d20a9d97e7d050315ca620503833a016642e7b6cacd3", func := "loop.example/g00879/laws.FnExactBoundedBleed", spec := "fnExactBoundedBleed", apart := false, narrowed := true }
def FnExactBoundedBleedUptoSaid : Prop := fnExactBoundedBleedUptoRow.holds Try.pinned (OpenSpec.upto fnExactBoundedBleedSpec)

/-- 'laws.FnExactCheckDigit', WHERE WHAT IT READS IS OF BULK AT MOST 1048576: true; the input reads as it did. -/
def fnExactCheckDigitUptoRow : OpenClaim := { program := "ytjlndmicjdjdlaa", sum := "bdf2e2d34f2d58619205d20a9d97e7d050315ca620503833a016642e7b6cacd3", func := "loop.example/g00879/laws.FnExactCheckDigit", spec := "fnExactCheckDigit", unfollowed := true, recurses := true, apart := false, narrowed := true }
def FnExactCheckDigitUptoSaid : Prop := fnExactCheckDigitUptoRow.holds Try.pinned (OpenSpec.upto fnExactCheckDigitSpec)

/-- 'laws.FnExactCharacterValue', WHERE WHAT IT READS IS OF BULK AT MOST 1048576: true; the input reads as it did. -/
def fnExactCharacterValueUptoRow : OpenClaim := { program := "ytjlndmicjdjdlaa", sum := "bdf2e2d34f2d58619205d20a9d97e7d050315ca620503833a016642e7b6cacd3", func := "loop.example/g00879/laws.FnExactCharacterValue", spec := "fnExactCharacterValue", unfollowed := true, recurses := true, apart := false, narrowed := true }
def FnExactCharacterValueUptoSaid : Prop := fnExactCharacterValueUptoRow.holds Try.pinned (OpenSpec.upto fnExactCharacterValueSpec)

/-- 'laws.FnExactGlyphRows', WHERE WHAT IT READS IS OF BULK AT MOST 1048576: true; the input reads as it did. -/
def fnExactGlyphRowsUptoRow : OpenClaim := { program := "ytjlndmicjdjdlaa", sum := "bdf2e2d34f2d58619205d20a9d97e7d050315ca620503833a016642e7b6cacd3", func := "loop.example/g00879/laws.FnExactGlyphRows", spec := "fnExactGlyphRows", apart := false, narrowed := true }
def FnExactGlyphRowsUptoSaid : Prop := fnExactGlyphRowsUptoRow.holds Try.pinned (OpenSpec.upto fnExactGlyphRowsSpec)

/-- 'laws.FnExactNarrowestMode', WHERE WHAT IT READS IS OF BULK AT MOST 1048576: true; the input reads as it did. -/
def fnExactNarrowestModeUptoRow : OpenClaim := { program := "ytjlndmicjdjdlaa", sum := "bdf2e2d34f2d58619205d20a9d97e7d050315ca620503833a016642e7b6cacd3", func := "loop.example/g00879/laws.FnExactNarrowestMode", spec := "fnExactNarrowestMode", unfollowed := true, recurses := true, apart := false, narrowed := true }
def FnExactNarrowestModeUptoSaid : Prop := fnExactNarrowestModeUptoRow.holds Try.pinned (OpenSpec.upto fnExactNarrowestModeSpec)

/-- 'laws.FnExactIsSegment', WHERE WHAT IT READS IS OF BULK AT MOST 1048576: true; the input reads as it did. -/
def fnExactIsSegmentUptoRow : OpenClaim := { program := "ytjlndmicjdjdlaa", sum := "bdf2e2d34f2d58619205d20a9d97e7d050315ca620503833a016642e7b6cacd3", func := "loop.example/g00879/laws.FnExactIsSegment", spec := "fnExactIsSegment", unfollowed := true, recurses := true, apart := false, narrowed := true }
def FnExactIsSegmentUptoSaid : Prop := fnExactIsSegmentUptoRow.holds Try.pinned (OpenSpec.upto fnExactIsSegmentSpec)

/-- 'laws.FnExactSegmentLength', WHERE WHAT IT READS IS OF BULK AT MOST 1048576: true; the input reads as it did. -/
def fnExactSegmentLengthUptoRow : OpenClaim := { program := "ytjlndmicjdjdlaa", sum := "bdf2e2d34f2d58619205d20a9d97e7d050315ca620503833a016642e7b6cacd3", func := "loop.example/g00879/laws.FnExactSegmentLength", spec := "fnExactSegmentLength", unfollowed := true, recurses := true, apart := false, narrowed := true }
def FnExactSegmentLengthUptoSaid : Prop := fnExactSegmentLengthUptoRow.holds Try.pinned (OpenSpec.upto fnExactSegmentLengthSpec)

end Rows
end Go.Proofs.Ytjlndmicjdjdlaa
