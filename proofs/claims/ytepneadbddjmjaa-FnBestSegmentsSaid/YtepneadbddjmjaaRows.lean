/-
  No cell of these rows narrows 'for every input' (looked for: loops, veiled, ifaces, maps, wideKeys, modest, calm, conditions, laid).
  DERIVED. THE GIVEN ROWS OF THIS SEAT. 12 by the template 'for every input the law returns true; each argument reads behind the call as it read before'; 0 by the template 'total and deterministic' (their statements: YtepneadbddjmjaaTotals.lean).
  GIVEN WITH THE SEED: the statements are not yours to turn. If you find one false, say at which input.
  Laid BY PROGRAM, IN A SANDBOX (cutbox-rows.mjs): the forced cells as the released guide's own fill.sh prints them over the translation 156d06d44a4dc502… (all of the seat's roots in one cut). By AI agents, Wed Nov 11 2026. No macro, syntax, notation, axiom, sorry.
-/
import Derived.Test.YtepneadbddjmjaaChecked
import GoSem.Claim
import GoSem.ClaimJoined
import GoSem.ClaimMapViews
import Derived.JoinedTies
import Derived.KernelRfl
namespace Go.Proofs.Ytepneadbddjmjaa
/- THE CELL 'sum', in the pinned program and in every row, IS THE sha256 OF THE DUMP (.gsa) THAT YtepneadbddjmjaaProg.lean LOADS. Nothing in Lean hashes anything: it is a label: what it is worth is what the hold of that sum in a sandbox is worth. -/
noncomputable def Try.pinned : Pinned := { name := "ytepneadbddjmjaa", sum := "156d06d44a4dc5020f867e4978dee78e18f8debacb370c073a8d82f8e8304a6b", checked := Try.checked }
namespace Rows
def none {H : Type} : Left H := { results := [], args := [] }

/-- 'laws.FnExactLengthBound': WHATEVER THE INPUT: true; the input reads as it did. -/
def fnExactLengthBoundSpec : ChangeSpec := { name := "fnExactLengthBound", fn := fun _ => fun
  | [d] => { results := [.lit (.bool true)], args := [d] }
  | _ => none }
def fnExactLengthBoundRow : OpenClaim := { program := "ytepneadbddjmjaa", sum := "156d06d44a4dc5020f867e4978dee78e18f8debacb370c073a8d82f8e8304a6b", func := "loop.example/g00879/laws.FnExactLengthBound", spec := "fnExactLengthBound", unfollowed := true, recurses := true, apart := false }
def FnExactLengthBoundSaid : Prop := fnExactLengthBoundRow.holds Try.pinned (OpenSpec.ofChange fnExactLengthBoundSpec)

/-- ITS FALSE NEIGHBOUR: 'it returns false'. Refute it at one input. -/
def fnExactLengthBoundWrong : ChangeSpec := { name := "fnExactLengthBound", fn := fun _ => fun
  | [d] => { results := [.lit (.bool false)], args := [d] }
  | _ => none }
def FnExactLengthBoundWrongFalsely : Prop := fnExactLengthBoundRow.holds Try.pinned (OpenSpec.ofChange fnExactLengthBoundWrong)

/-- 'laws.FnExactBestLength': WHATEVER THE INPUT: true; the input reads as it did. -/
def fnExactBestLengthSpec : ChangeSpec := { name := "fnExactBestLength", fn := fun _ => fun
  | [d] => { results := [.lit (.bool true)], args := [d] }
  | _ => none }
def fnExactBestLengthRow : OpenClaim := { program := "ytepneadbddjmjaa", sum := "156d06d44a4dc5020f867e4978dee78e18f8debacb370c073a8d82f8e8304a6b", func := "loop.example/g00879/laws.FnExactBestLength", spec := "fnExactBestLength", unfollowed := true, recurses := true, apart := false }
def FnExactBestLengthSaid : Prop := fnExactBestLengthRow.holds Try.pinned (OpenSpec.ofChange fnExactBestLengthSpec)

/-- ITS FALSE NEIGHBOUR: 'it returns false'. Refute it at one input. -/
def fnExactBestLengthWrong : ChangeSpec := { name := "fnExactBestLength", fn := fun _ => fun
  | [d] => { results := [.lit (.bool false)], args := [d] }
  | _ => none }
def FnExactBestLengthWrongFalsely : Prop := fnExactBestLengthRow.holds Try.pinned (OpenSpec.ofChange fnExactBestLengthWrong)

/-- 'laws.FnExactSegmentsLength': WHATEVER THE INPUT: true; the input reads as it did. -/
def fnExactSegmentsLengthSpec : ChangeSpec := { name := "fnExactSegmentsLength", fn := fun _ => fun
  | [d] => { results := [.lit (.bool true)], args := [d] }
  | _ => none }
def fnExactSegmentsLengthRow : OpenClaim := { program := "ytepneadbddjmjaa", sum := "156d06d44a4dc5020f867e4978dee78e18f8debacb370c073a8d82f8e8304a6b", func := "loop.example/g00879/laws.FnExactSegmentsLength", spec := "fnExactSegmentsLength", unfollowed := true, recurses := true, apart := false }
def FnExactSegmentsLengthSaid : Prop := fnExactSegmentsLengthRow.holds Try.pinned (OpenSpec.ofChange fnExactSegmentsLengthSpec)

/-- ITS FALSE NEIGHBOUR: 'it returns false'. Refute it at one input. -/
def fnExactSegmentsLengthWrong : ChangeSpec := { name := "fnExactSegmentsLength", fn := fun _ => fun
  | [d] => { results := [.lit (.bool false)], args := [d] }
  | _ => none }
def FnExactSegmentsLengthWrongFalsely : Prop := fnExactSegmentsLengthRow.holds Try.pinned (OpenSpec.ofChange fnExactSegmentsLengthWrong)

/-- 'laws.FnExactJoinSegments': WHATEVER THE INPUT: true; the input reads as it did. -/
def fnExactJoinSegmentsSpec : ChangeSpec := { name := "fnExactJoinSegments", fn := fun _ => fun
  | [d] => { results := [.lit (.bool true)], args := [d] }
  | _ => none }
def fnExactJoinSegmentsRow : OpenClaim := { program := "ytepneadbddjmjaa", sum := "156d06d44a4dc5020f867e4978dee78e18f8debacb370c073a8d82f8e8304a6b", func := "loop.example/g00879/laws.FnExactJoinSegments", spec := "fnExactJoinSegments", unfollowed := true, recurses := true, apart := false }
def FnExactJoinSegmentsSaid : Prop := fnExactJoinSegmentsRow.holds Try.pinned (OpenSpec.ofChange fnExactJoinSegmentsSpec)

/-- ITS FALSE NEIGHBOUR: 'it returns false'. Refute it at one input. -/
def fnExactJoinSegmentsWrong : ChangeSpec := { name := "fnExactJoinSegments", fn := fun _ => fun
  | [d] => { results := [.lit (.bool false)], args := [d] }
  | _ => none }
def FnExactJoinSegmentsWrongFalsely : Prop := fnExactJoinSegmentsRow.holds Try.pinned (OpenSpec.ofChange fnExactJoinSegmentsWrong)

/-- 'laws.FnExactIsSegmentation': WHATEVER THE INPUT: true; the input reads as it did. -/
def fnExactIsSegmentationSpec : ChangeSpec := { name := "fnExactIsSegmentation", fn := fun _ => fun
  | [d1, d2] => { results := [.lit (.bool true)], args := [d1, d2] }
  | _ => none }
def fnExactIsSegmentationRow : OpenClaim := { program := "ytepneadbddjmjaa", sum := "156d06d44a4dc5020f867e4978dee78e18f8debacb370c073a8d82f8e8304a6b", func := "loop.example/g00879/laws.FnExactIsSegmentation", spec := "fnExactIsSegmentation", unfollowed := true, recurses := true, apart := false }
def FnExactIsSegmentationSaid : Prop := fnExactIsSegmentationRow.holds Try.pinned (OpenSpec.ofChange fnExactIsSegmentationSpec)

/-- ITS FALSE NEIGHBOUR: 'it returns false'. Refute it at one input. -/
def fnExactIsSegmentationWrong : ChangeSpec := { name := "fnExactIsSegmentation", fn := fun _ => fun
  | [d1, d2] => { results := [.lit (.bool false)], args := [d1, d2] }
  | _ => none }
def FnExactIsSegmentationWrongFalsely : Prop := fnExactIsSegmentationRow.holds Try.pinned (OpenSpec.ofChange fnExactIsSegmentationWrong)

/-- 'laws.FnExactBestSegments': WHATEVER THE INPUT: true; the input reads as it did. -/
def fnExactBestSegmentsSpec : ChangeSpec := { name := "fnExactBestSegments", fn := fun _ => fun
  | [d] => { results := [.lit (.bool true)], args := [d] }
  | _ => none }
def fnExactBestSegmentsRow : OpenClaim := { program := "ytepneadbddjmjaa", sum := "156d06d44a4dc5020f867e4978dee78e18f8debacb370c073a8d82f8e8304a6b", func := "loop.example/g00879/laws.FnExactBestSegments", spec := "fnExactBestSegments", unfollowed := true, recurses := true, apart := false }
def FnExactBestSegmentsSaid : Prop := fnExactBestSegmentsRow.holds Try.pinned (OpenSpec.ofChange fnExactBestSegmentsSpec)

/-- ITS FALSE NEIGHBOUR: 'it returns false'. Refute it at one input. -/
def fnExactBestSegmentsWrong : ChangeSpec := { name := "fnExactBestSegments", fn := fun _ => fun
  | [d] => { results := [.lit (.bool false)], args := [d] }
  | _ => none }
def FnExactBestSegmentsWrongFalsely : Prop := fnExactBestSegmentsRow.holds Try.pinned (OpenSpec.ofChange fnExactBestSegmentsWrong)

/-- 'laws.FnExactWriteSegment': WHATEVER THE INPUT: true; the input reads as it did. -/
def fnExactWriteSegmentSpec : ChangeSpec := { name := "fnExactWriteSegment", fn := fun _ => fun
  | [d1, d2] => { results := [.lit (.bool true)], args := [d1, d2] }
  | _ => none }
def fnExactWriteSegmentRow : OpenClaim := { program := "ytepneadbddjmjaa", sum := "156d06d44a4dc5020f867e4978dee78e18f8debacb370c073a8d82f8e8304a6b", func := "loop.example/g00879/laws.FnExactWriteSegment", spec := "fnExactWriteSegment", unfollowed := true, recurses := true, apart := false }
def FnExactWriteSegmentSaid : Prop := fnExactWriteSegmentRow.holds Try.pinned (OpenSpec.ofChange fnExactWriteSegmentSpec)

/-- ITS FALSE NEIGHBOUR: 'it returns false'. Refute it at one input. -/
def fnExactWriteSegmentWrong : ChangeSpec := { name := "fnExactWriteSegment", fn := fun _ => fun
  | [d1, d2] => { results := [.lit (.bool false)], args := [d1, d2] }
  | _ => none }
def FnExactWriteSegmentWrongFalsely : Prop := fnExactWriteSegmentRow.holds Try.pinned (OpenSpec.ofChange fnExactWriteSegmentWrong)

/-- 'laws.FnExactWriteMessage': WHATEVER THE INPUT: true; the input reads as it did. -/
def fnExactWriteMessageSpec : ChangeSpec := { name := "fnExactWriteMessage", fn := fun _ => fun
  | [d1, d2] => { results := [.lit (.bool true)], args := [d1, d2] }
  | _ => none }
def fnExactWriteMessageRow : OpenClaim := { program := "ytepneadbddjmjaa", sum := "156d06d44a4dc5020f867e4978dee78e18f8debacb370c073a8d82f8e8304a6b", func := "loop.example/g00879/laws.FnExactWriteMessage", spec := "fnExactWriteMessage", unfollowed := true, recurses := true, apart := false }
def FnExactWriteMessageSaid : Prop := fnExactWriteMessageRow.holds Try.pinned (OpenSpec.ofChange fnExactWriteMessageSpec)

/-- ITS FALSE NEIGHBOUR: 'it returns false'. Refute it at one input. -/
def fnExactWriteMessageWrong : ChangeSpec := { name := "fnExactWriteMessage", fn := fun _ => fun
  | [d1, d2] => { results := [.lit (.bool false)], args := [d1, d2] }
  | _ => none }
def FnExactWriteMessageWrongFalsely : Prop := fnExactWriteMessageRow.holds Try.pinned (OpenSpec.ofChange fnExactWriteMessageWrong)

/-- 'laws.FnCharacters': WHATEVER THE INPUT: true; the input reads as it did. -/
def fnCharactersSpec : ChangeSpec := { name := "fnCharacters", fn := fun _ => fun
  | [d] => { results := [.lit (.bool true)], args := [d] }
  | _ => none }
def fnCharactersRow : OpenClaim := { program := "ytepneadbddjmjaa", sum := "156d06d44a4dc5020f867e4978dee78e18f8debacb370c073a8d82f8e8304a6b", func := "loop.example/g00879/laws.FnCharacters", spec := "fnCharacters", unfollowed := true, recurses := true, apart := false }
def FnCharactersSaid : Prop := fnCharactersRow.holds Try.pinned (OpenSpec.ofChange fnCharactersSpec)

/-- ITS FALSE NEIGHBOUR: 'it returns false'. Refute it at one input. -/
def fnCharactersWrong : ChangeSpec := { name := "fnCharacters", fn := fun _ => fun
  | [d] => { results := [.lit (.bool false)], args := [d] }
  | _ => none }
def FnCharactersWrongFalsely : Prop := fnCharactersRow.holds Try.pinned (OpenSpec.ofChange fnCharactersWrong)

/-- 'laws.FnSegments': WHATEVER THE INPUT: true; the input reads as it did. -/
def fnSegmentsSpec : ChangeSpec := { name := "fnSegments", fn := fun _ => fun
  | [d] => { results := [.lit (.bool true)], args := [d] }
  | _ => none }
def fnSegmentsRow : OpenClaim := { program := "ytepneadbddjmjaa", sum := "156d06d44a4dc5020f867e4978dee78e18f8debacb370c073a8d82f8e8304a6b", func := "loop.example/g00879/laws.FnSegments", spec := "fnSegments", unfollowed := true, recurses := true, apart := false }
def FnSegmentsSaid : Prop := fnSegmentsRow.holds Try.pinned (OpenSpec.ofChange fnSegmentsSpec)

/-- ITS FALSE NEIGHBOUR: 'it returns false'. Refute it at one input. -/
def fnSegmentsWrong : ChangeSpec := { name := "fnSegments", fn := fun _ => fun
  | [d] => { results := [.lit (.bool false)], args := [d] }
  | _ => none }
def FnSegmentsWrongFalsely : Prop := fnSegmentsRow.holds Try.pinned (OpenSpec.ofChange fnSegmentsWrong)

/-- 'laws.FnBestSegments': WHATEVER THE INPUT: true; the input reads as it did. -/
def fnBestSegmentsSpec : ChangeSpec := { name := "fnBestSegments", fn := fun _ => fun
  | [d] => { results := [.lit (.bool true)], args := [d] }
  | _ => none }
def fnBestSegmentsRow : OpenClaim := { program := "ytepneadbddjmjaa", sum := "156d06d44a4dc5020f867e4978dee78e18f8debacb370c073a8d82f8e8304a6b", func := "loop.example/g00879/laws.FnBestSegments", spec := "fnBestSegments", unfollowed := true, recurses := true, apart := false }
def FnBestSegmentsSaid : Prop := fnBestSegmentsRow.holds Try.pinned (OpenSpec.ofChange fnBestSegmentsSpec)

/-- ITS FALSE NEIGHBOUR: 'it returns false'. Refute it at one input. -/
def fnBestSegmentsWrong : ChangeSpec := { name := "fnBestSegments", fn := fun _ => fun
  | [d] => { results := [.lit (.bool false)], args := [d] }
  | _ => none }
def FnBestSegmentsWrongFalsely : Prop := fnBestSegmentsRow.holds Try.pinned (OpenSpec.ofChange fnBestSegmentsWrong)

/-- 'laws.FnSegmentations': WHATEVER THE INPUT: true; the input reads as it did. -/
def fnSegmentationsSpec : ChangeSpec := { name := "fnSegmentations", fn := fun _ => fun
  | [d] => { results := [.lit (.bool true)], args := [d] }
  | _ => none }
def fnSegmentationsRow : OpenClaim := { program := "ytepneadbddjmjaa", sum := "156d06d44a4dc5020f867e4978dee78e18f8debacb370c073a8d82f8e8304a6b", func := "loop.example/g00879/laws.FnSegmentations", spec := "fnSegmentations", unfollowed := true, recurses := true, apart := false }
def FnSegmentationsSaid : Prop := fnSegmentationsRow.holds Try.pinned (OpenSpec.ofChange fnSegmentationsSpec)

/-- ITS FALSE NEIGHBOUR: 'it returns false'. Refute it at one input. -/
def fnSegmentationsWrong : ChangeSpec := { name := "fnSegmentations", fn := fun _ => fun
  | [d] => { results := [.lit (.bool false)], args := [d] }
  | _ => none }
def FnSegmentationsWrongFalsely : Prop := fnSegmentationsRow.holds Try.pinned (OpenSpec.ofChange fnSegmentationsWrong)

/- THE SECOND FORM. 'bulk': how many values and letters a reading holds, each counted each time it is reached (what is shared counts as often as it is met; a slice's spare places count too). A statement '..UptoSaid' is the law's where the arguments, and the package variables that the reading takes, are together of bulk at most 1048576: NARROWER than '..Said'. Prove '..Said' where nothing that the law and all that it calls make is longer than what came in: it says more and counts as full. Else prove '..UptoSaid'. A law counts once. -/
mutual
def uptoBulk {H : Type} : DataW H → Nat
  | .lit (.string bytes) => bytes.length + 1
  | .lit _ => 1
  | .nil => 1
  | .ptr d => uptoBulk d + 1
  | .slice elems spare => uptoBulkAll elems + uptoBulkAll spare + 1
  | .agg parts => uptoBulkAll parts + 1
  | .iface _ d => uptoBulk d + 1
  | .map entries => uptoBulkEntries entries + 1
  | .held _ => 1
def uptoBulkAll {H : Type} : List (DataW H) → Nat
  | [] => 0
  | d :: r => uptoBulk d + uptoBulkAll r
def uptoBulkEntries {H : Type} : List (Lit × DataW H) → Nat
  | [] => 0
  | x :: r => uptoBulkEntry x + uptoBulkEntries r
def uptoBulkEntry {H : Type} : Lit × DataW H → Nat
  | (.string bytes, d) => bytes.length + uptoBulk d + 1
  | (_, d) => uptoBulk d + 1
 end
def uptoSmall : (H : Type) → List (DataW H) → Bool := fun _ ds => decide (uptoBulkAll ds ≤ 1048576)
def OpenSpec.upto (s : _root_.Go.ChangeSpec) : _root_.Go.OpenSpec := { _root_.Go.OpenSpec.ofChange s with cond := some uptoSmall }

/-- 'laws.FnExactLengthBound', WHERE WHAT IT READS IS OF BULK AT MOST 1048576: true; the input reads as it did. -/
def fnExactLengthBoundUptoRow : OpenClaim := { program := "ytepneadbddjmjaa", sum := "156d06d44a4dc5020f867e4978dee78e18f8debacb370c073a8d82f8e8304a6b", func := "loop.example/g00879/laws.FnExactLengthBound", spec := "fnExactLengthBound", unfollowed := true, recurses := true, apart := false, narrowed := true }
def FnExactLengthBoundUptoSaid : Prop := fnExactLengthBoundUptoRow.holds Try.pinned (OpenSpec.upto fnExactLengthBoundSpec)

/-- 'laws.FnExactBestLength', WHERE WHAT IT READS IS OF BULK AT MOST 1048576: true; the input reads as it did. -/
def fnExactBestLengthUptoRow : OpenClaim := { program := "ytepneadbddjmjaa", sum := "156d06d44a4dc5020f867e4978dee78e18f8debacb370c073a8d82f8e8304a6b", func := "loop.example/g00879/laws.FnExactBestLength", spec := "fnExactBestLength", unfollowed := true, recurses := true, apart := false, narrowed := true }
def FnExactBestLengthUptoSaid : Prop := fnExactBestLengthUptoRow.holds Try.pinned (OpenSpec.upto fnExactBestLengthSpec)

/-- 'laws.FnExactSegmentsLength', WHERE WHAT IT READS IS OF BULK AT MOST 1048576: true; the input reads as it did. -/
def fnExactSegmentsLengthUptoRow : OpenClaim := { program := "ytepneadbddjmjaa", sum := "156d06d44a4dc5020f867e4978dee78e18f8debacb370c073a8d82f8e8304a6b", func := "loop.example/g00879/laws.FnExactSegmentsLength", spec := "fnExactSegmentsLength", unfollowed := true, recurses := true, apart := false, narrowed := true }
def FnExactSegmentsLengthUptoSaid : Prop := fnExactSegmentsLengthUptoRow.holds Try.pinned (OpenSpec.upto fnExactSegmentsLengthSpec)

/-- 'laws.FnExactJoinSegments', WHERE WHAT IT READS IS OF BULK AT MOST 1048576: true; the input reads as it did. -/
def fnExactJoinSegmentsUptoRow : OpenClaim := { program := "ytepneadbddjmjaa", sum := "156d06d44a4dc5020f867e4978dee78e18f8debacb370c073a8d82f8e8304a6b", func := "loop.example/g00879/laws.FnExactJoinSegments", spec := "fnExactJoinSegments", unfollowed := true, recurses := true, apart := false, narrowed := true }
def FnExactJoinSegmentsUptoSaid : Prop := fnExactJoinSegmentsUptoRow.holds Try.pinned (OpenSpec.upto fnExactJoinSegmentsSpec)

/-- 'laws.FnExactIsSegmentation', WHERE WHAT IT READS IS OF BULK AT MOST 1048576: true; the input reads as it did. -/
def fnExactIsSegmentationUptoRow : OpenClaim := { program := "ytepneadbddjmjaa", sum := "156d06d44a4dc5020f867e4978dee78e18f8debacb370c073a8d82f8e8304a6b", func := "loop.example/g00879/laws.FnExactIsSegmentation", spec := "fnExactIsSegmentation", unfollowed := true, recurses := true, apart := false, narrowed := true }
def FnExactIsSegmentationUptoSaid : Prop := fnExactIsSegmentationUptoRow.holds Try.pinned (OpenSpec.upto fnExactIsSegmentationSpec)

/-- 'laws.FnExactBestSegments', WHERE WHAT IT READS IS OF BULK AT MOST 1048576: true; the input reads as it did. -/
def fnExactBestSegmentsUptoRow : OpenClaim := { program := "ytepneadbddjmjaa", sum := "156d06d44a4dc5020f867e4978dee78e18f8debacb370c073a8d82f8e8304a6b", func := "loop.example/g00879/laws.FnExactBestSegments", spec := "fnExactBestSegments", unfollowed := true, recurses := true, apart := false, narrowed := true }
def FnExactBestSegmentsUptoSaid : Prop := fnExactBestSegmentsUptoRow.holds Try.pinned (OpenSpec.upto fnExactBestSegmentsSpec)

/-- 'laws.FnExactWriteSegment', WHERE WHAT IT READS IS OF BULK AT MOST 1048576: true; the input reads as it did. -/
def fnExactWriteSegmentUptoRow : OpenClaim := { program := "ytepneadbddjmjaa", sum := "156d06d44a4dc5020f867e4978dee78e18f8debacb370c073a8d82f8e8304a6b", func := "loop.example/g00879/laws.FnExactWriteSegment", spec := "fnExactWriteSegment", unfollowed := true, recurses := true, apart := false, narrowed := true }
def FnExactWriteSegmentUptoSaid : Prop := fnExactWriteSegmentUptoRow.holds Try.pinned (OpenSpec.upto fnExactWriteSegmentSpec)

/-- 'laws.FnExactWriteMessage', WHERE WHAT IT READS IS OF BULK AT MOST 1048576: true; the input reads as it did. -/
def fnExactWriteMessageUptoRow : OpenClaim := { program := "ytepneadbddjmjaa", sum := "156d06d44a4dc5020f867e4978dee78e18f8debacb370c073a8d82f8e8304a6b", func := "loop.example/g00879/laws.FnExactWriteMessage", spec := "fnExactWriteMessage", unfollowed := true, recurses := true, apart := false, narrowed := true }
def FnExactWriteMessageUptoSaid : Prop := fnExactWriteMessageUptoRow.holds Try.pinned (OpenSpec.upto fnExactWriteMessageSpec)

/-- 'laws.FnCharacters', WHERE WHAT IT READS IS OF BULK AT MOST 1048576: true; the input reads as it did. -/
def fnCharactersUptoRow : OpenClaim := { program := "ytepneadbddjmjaa", sum := "156d06d44a4dc5020f867e4978dee78e18f8debacb370c073a8d82f8e8304a6b", func := "loop.example/g00879/laws.FnCharacters", spec := "fnCharacters", unfollowed := true, recurses := true, apart := false, narrowed := true }
def FnCharactersUptoSaid : Prop := fnCharactersUptoRow.holds Try.pinned (OpenSpec.upto fnCharactersSpec)

/-- 'laws.FnSegments', WHERE WHAT IT READS IS OF BULK AT MOST 1048576: true; the input reads as it did. -/
def fnSegmentsUptoRow : OpenClaim := { program := "ytepneadbddjmjaa", sum := "156d06d44a4dc5020f867e4978dee78e18f8debacb370c073a8d82f8e8304a6b", func := "loop.example/g00879/laws.FnSegments", spec := "fnSegments", unfollowed := true, recurses := true, apart := false, narrowed := true }
def FnSegmentsUptoSaid : Prop := fnSegmentsUptoRow.holds Try.pinned (OpenSpec.upto fnSegmentsSpec)

/-- 'laws.FnBestSegments', WHERE WHAT IT READS IS OF BULK AT MOST 1048576: true; the input reads as it did. -/
def fnBestSegmentsUptoRow : OpenClaim := { program := "ytepneadbddjmjaa", sum := "156d06d44a4dc5020f867e4978dee78e18f8debacb370c073a8d82f8e8304a6b", func := "loop.example/g00879/laws.FnBestSegments", spec := "fnBestSegments", unfollowed := true, recurses := true, apart := false, narrowed := true }
def FnBestSegmentsUptoSaid : Prop := fnBestSegmentsUptoRow.holds Try.pinned (OpenSpec.upto fnBestSegmentsSpec)

/-- 'laws.FnSegmentations', WHERE WHAT IT READS IS OF BULK AT MOST 1048576: true; the input reads as it did. -/
def fnSegmentationsUptoRow : OpenClaim := { program := "ytepneadbddjmjaa", sum := "156d06d44a4dc5020f867e4978dee78e18f8debacb370c073a8d82f8e8304a6b", func := "loop.example/g00879/laws.FnSegmentations", spec := "fnSegmentations", unfollowed := true, recurses := true, apart := false, narrowed := true }
def FnSegmentationsUptoSaid : Prop := fnSegmentationsUptoRow.holds Try.pinned (OpenSpec.upto fnSegmentationsSpec)

end Rows
end Go.Proofs.Ytepneadbddjmjaa
