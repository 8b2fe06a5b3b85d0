/-
  No cell of these rows narrows 'for every input' (looked for: loops, veiled, ifaces, maps, wideKeys, modest, calm, conditions, laid).
  DERIVED. THE GIVEN ROWS OF THIS SEAT. 11 by the template 'for every input the law returns true; each argument reads behind the call as it read before'; 0 by the template 'total and deterministic' (their statements: YtnfbgjgchcgonaaTotals.lean).
  GIVEN WITH THE SEED: the statements are not yours to turn. If you find one false, say at which input.
  Laid BY PROGRAM, IN A SANDBOX (cutbox-rows.mjs): the forced cells as the released guide's own fill.sh prints them over the translation 392069cbaea5ca33… (all of the seat's roots in one cut). By AI agents, Wed Nov 11 2026. No macro, syntax, notation, axiom, sorry.
-/
import Derived.Test.YtnfbgjgchcgonaaChecked
import GoSem.Claim
import GoSem.ClaimJoined
import GoSem.ClaimMapViews
import Derived.JoinedTies
import Derived.KernelRfl
namespace Go.Proofs.Ytnfbgjgchcgonaa
/- THE CELL 'sum', in the pinned program and in every row, IS THE sha256 OF THE DUMP (.gsa) THAT YtnfbgjgchcgonaaProg.lean LOADS. Nothing in Lean hashes anything: it is a label: what it is worth is what the hold of that sum in a sandbox is worth. -/
noncomputable def Try.pinned : Pinned := { name := "ytnfbgjgchcgonaa", sum := "392069cbaea5ca33031840b04aa28ba64a6e928f71e97b8c71102bb75b2c90f0", checked := Try.checked }
namespace Rows
def none {H : Type} : Left H := { results := [], args := [] }

/-- 'laws.FnSegments': WHATEVER THE INPUT: true; the input reads as it did. -/
def fnSegmentsSpec : ChangeSpec := { name := "fnSegments", fn := fun _ => fun
  | [d] => { results := [.lit (.bool true)], args := [d] }
  | _ => none }
def fnSegmentsRow : OpenClaim := { program := "ytnfbgjgchcgonaa", sum := "392069cbaea5ca33031840b04aa28ba64a6e928f71e97b8c71102bb75b2c90f0", func := "loop.example/g00879/laws.FnSegments", spec := "fnSegments", unfollowed := true, recurses := true, apart := false }
def FnSegmentsSaid : Prop := fnSegmentsRow.holds Try.pinned (OpenSpec.ofChange fnSegmentsSpec)

/-- ITS FALSE NEIGHBOUR: 'it returns false'. Refute it at one input. -/
def fnSegmentsWrong : ChangeSpec := { name := "fnSegments", fn := fun _ => fun
  | [d] => { results := [.lit (.bool false)], args := [d] }
  | _ => none }
def FnSegmentsWrongFalsely : Prop := fnSegmentsRow.holds Try.pinned (OpenSpec.ofChange fnSegmentsWrong)

/-- 'laws.FnSegmentsRead': WHATEVER THE INPUT: true; the input reads as it did. -/
def fnSegmentsReadSpec : ChangeSpec := { name := "fnSegmentsRead", fn := fun _ => fun
  | [d] => { results := [.lit (.bool true)], args := [d] }
  | _ => none }
def fnSegmentsReadRow : OpenClaim := { program := "ytnfbgjgchcgonaa", sum := "392069cbaea5ca33031840b04aa28ba64a6e928f71e97b8c71102bb75b2c90f0", func := "loop.example/g00879/laws.FnSegmentsRead", spec := "fnSegmentsRead", unfollowed := true, recurses := true, apart := false }
def FnSegmentsReadSaid : Prop := fnSegmentsReadRow.holds Try.pinned (OpenSpec.ofChange fnSegmentsReadSpec)

/-- ITS FALSE NEIGHBOUR: 'it returns false'. Refute it at one input. -/
def fnSegmentsReadWrong : ChangeSpec := { name := "fnSegmentsRead", fn := fun _ => fun
  | [d] => { results := [.lit (.bool false)], args := [d] }
  | _ => none }
def FnSegmentsReadWrongFalsely : Prop := fnSegmentsReadRow.holds Try.pinned (OpenSpec.ofChange fnSegmentsReadWrong)

/-- 'laws.FnExactPayloadSize': WHATEVER THE INPUT: true; the input reads as it did. -/
def fnExactPayloadSizeSpec : ChangeSpec := { name := "fnExactPayloadSize", fn := fun _ => fun
  | [d1, d2] => { results := [.lit (.bool true)], args := [d1, d2] }
  | _ => none }
def fnExactPayloadSizeRow : OpenClaim := { program := "ytnfbgjgchcgonaa", sum := "392069cbaea5ca33031840b04aa28ba64a6e928f71e97b8c71102bb75b2c90f0", func := "loop.example/g00879/laws.FnExactPayloadSize", spec := "fnExactPayloadSize", unfollowed := true, recurses := true, apart := false }
def FnExactPayloadSizeSaid : Prop := fnExactPayloadSizeRow.holds Try.pinned (OpenSpec.ofChange fnExactPayloadSizeSpec)

/-- ITS FALSE NEIGHBOUR: 'it returns false'. Refute it at one input. -/
def fnExactPayloadSizeWrong : ChangeSpec := { name := "fnExactPayloadSize", fn := fun _ => fun
  | [d1, d2] => { results := [.lit (.bool false)], args := [d1, d2] }
  | _ => none }
def FnExactPayloadSizeWrongFalsely : Prop := fnExactPayloadSizeRow.holds Try.pinned (OpenSpec.ofChange fnExactPayloadSizeWrong)

/-- 'laws.FnExactEncodePayload': WHATEVER THE INPUT: true; the input reads as it did. -/
def fnExactEncodePayloadSpec : ChangeSpec := { name := "fnExactEncodePayload", fn := fun _ => fun
  | [d1, d2, d3] => { results := [.lit (.bool true)], args := [d1, d2, d3] }
  | _ => none }
def fnExactEncodePayloadRow : OpenClaim := { program := "ytnfbgjgchcgonaa", sum := "392069cbaea5ca33031840b04aa28ba64a6e928f71e97b8c71102bb75b2c90f0", func := "loop.example/g00879/laws.FnExactEncodePayload", spec := "fnExactEncodePayload", unfollowed := true, recurses := true, apart := false }
def FnExactEncodePayloadSaid : Prop := fnExactEncodePayloadRow.holds Try.pinned (OpenSpec.ofChange fnExactEncodePayloadSpec)

/-- ITS FALSE NEIGHBOUR: 'it returns false'. Refute it at one input. -/
def fnExactEncodePayloadWrong : ChangeSpec := { name := "fnExactEncodePayload", fn := fun _ => fun
  | [d1, d2, d3] => { results := [.lit (.bool false)], args := [d1, d2, d3] }
  | _ => none }
def FnExactEncodePayloadWrongFalsely : Prop := fnExactEncodePayloadRow.holds Try.pinned (OpenSpec.ofChange fnExactEncodePayloadWrong)

/-- 'laws.FnExactEncodePart': WHATEVER THE INPUT: true; the input reads as it did. -/
def fnExactEncodePartSpec : ChangeSpec := { name := "fnExactEncodePart", fn := fun _ => fun
  | [d1, d2, d3] => { results := [.lit (.bool true)], args := [d1, d2, d3] }
  | _ => none }
def fnExactEncodePartRow : OpenClaim := { program := "ytnfbgjgchcgonaa", sum := "392069cbaea5ca33031840b04aa28ba64a6e928f71e97b8c71102bb75b2c90f0", func := "loop.example/g00879/laws.FnExactEncodePart", spec := "fnExactEncodePart", unfollowed := true, recurses := true, apart := false }
def FnExactEncodePartSaid : Prop := fnExactEncodePartRow.holds Try.pinned (OpenSpec.ofChange fnExactEncodePartSpec)

/-- ITS FALSE NEIGHBOUR: 'it returns false'. Refute it at one input. -/
def fnExactEncodePartWrong : ChangeSpec := { name := "fnExactEncodePart", fn := fun _ => fun
  | [d1, d2, d3] => { results := [.lit (.bool false)], args := [d1, d2, d3] }
  | _ => none }
def FnExactEncodePartWrongFalsely : Prop := fnExactEncodePartRow.holds Try.pinned (OpenSpec.ofChange fnExactEncodePartWrong)

/-- 'laws.FnPayloadSegments': WHATEVER THE INPUT: true; the input reads as it did. -/
def fnPayloadSegmentsSpec : ChangeSpec := { name := "fnPayloadSegments", fn := fun _ => fun
  | [d] => { results := [.lit (.bool true)], args := [d] }
  | _ => none }
def fnPayloadSegmentsRow : OpenClaim := { program := "ytnfbgjgchcgonaa", sum := "392069cbaea5ca33031840b04aa28ba64a6e928f71e97b8c71102bb75b2c90f0", func := "loop.example/g00879/laws.FnPayloadSegments", spec := "fnPayloadSegments", unfollowed := true, recurses := true, apart := false }
def FnPayloadSegmentsSaid : Prop := fnPayloadSegmentsRow.holds Try.pinned (OpenSpec.ofChange fnPayloadSegmentsSpec)

/-- ITS FALSE NEIGHBOUR: 'it returns false'. Refute it at one input. -/
def fnPayloadSegmentsWrong : ChangeSpec := { name := "fnPayloadSegments", fn := fun _ => fun
  | [d] => { results := [.lit (.bool false)], args := [d] }
  | _ => none }
def FnPayloadSegmentsWrongFalsely : Prop := fnPayloadSegmentsRow.holds Try.pinned (OpenSpec.ofChange fnPayloadSegmentsWrong)

/-- 'laws.FnPartPayloads': WHATEVER THE INPUT: true; the input reads as it did. -/
def fnPartPayloadsSpec : ChangeSpec := { name := "fnPartPayloads", fn := fun _ => fun
  | [d] => { results := [.lit (.bool true)], args := [d] }
  | _ => none }
def fnPartPayloadsRow : OpenClaim := { program := "ytnfbgjgchcgonaa", sum := "392069cbaea5ca33031840b04aa28ba64a6e928f71e97b8c71102bb75b2c90f0", func := "loop.example/g00879/laws.FnPartPayloads", spec := "fnPartPayloads", unfollowed := true, recurses := true, apart := false }
def FnPartPayloadsSaid : Prop := fnPartPayloadsRow.holds Try.pinned (OpenSpec.ofChange fnPartPayloadsSpec)

/-- ITS FALSE NEIGHBOUR: 'it returns false'. Refute it at one input. -/
def fnPartPayloadsWrong : ChangeSpec := { name := "fnPartPayloads", fn := fun _ => fun
  | [d] => { results := [.lit (.bool false)], args := [d] }
  | _ => none }
def FnPartPayloadsWrongFalsely : Prop := fnPartPayloadsRow.holds Try.pinned (OpenSpec.ofChange fnPartPayloadsWrong)

/-- 'laws.FnPayloads': WHATEVER THE INPUT: true; the input reads as it did. -/
def fnPayloadsSpec : ChangeSpec := { name := "fnPayloads", fn := fun _ => fun
  | [d] => { results := [.lit (.bool true)], args := [d] }
  | _ => none }
def fnPayloadsRow : OpenClaim := { program := "ytnfbgjgchcgonaa", sum := "392069cbaea5ca33031840b04aa28ba64a6e928f71e97b8c71102bb75b2c90f0", func := "loop.example/g00879/laws.FnPayloads", spec := "fnPayloads", unfollowed := true, recurses := true, apart := false }
def FnPayloadsSaid : Prop := fnPayloadsRow.holds Try.pinned (OpenSpec.ofChange fnPayloadsSpec)

/-- ITS FALSE NEIGHBOUR: 'it returns false'. Refute it at one input. -/
def fnPayloadsWrong : ChangeSpec := { name := "fnPayloads", fn := fun _ => fun
  | [d] => { results := [.lit (.bool false)], args := [d] }
  | _ => none }
def FnPayloadsWrongFalsely : Prop := fnPayloadsRow.holds Try.pinned (OpenSpec.ofChange fnPayloadsWrong)

/-- 'laws.FnExactSplitMessage': WHATEVER THE INPUT: true; the input reads as it did. -/
def fnExactSplitMessageSpec : ChangeSpec := { name := "fnExactSplitMessage", fn := fun _ => fun
  | [d1, d2, d3] => { results := [.lit (.bool true)], args := [d1, d2, d3] }
  | _ => none }
def fnExactSplitMessageRow : OpenClaim := { program := "ytnfbgjgchcgonaa", sum := "392069cbaea5ca33031840b04aa28ba64a6e928f71e97b8c71102bb75b2c90f0", func := "loop.example/g00879/laws.FnExactSplitMessage", spec := "fnExactSplitMessage", unfollowed := true, recurses := true, apart := false }
def FnExactSplitMessageSaid : Prop := fnExactSplitMessageRow.holds Try.pinned (OpenSpec.ofChange fnExactSplitMessageSpec)

/-- ITS FALSE NEIGHBOUR: 'it returns false'. Refute it at one input. -/
def fnExactSplitMessageWrong : ChangeSpec := { name := "fnExactSplitMessage", fn := fun _ => fun
  | [d1, d2, d3] => { results := [.lit (.bool false)], args := [d1, d2, d3] }
  | _ => none }
def FnExactSplitMessageWrongFalsely : Prop := fnExactSplitMessageRow.holds Try.pinned (OpenSpec.ofChange fnExactSplitMessageWrong)

/-- 'laws.FnExactBandsOf': WHATEVER THE INPUT: true; the input reads as it did. -/
def fnExactBandsOfSpec : ChangeSpec := { name := "fnExactBandsOf", fn := fun _ => fun
  | [d] => { results := [.lit (.bool true)], args := [d] }
  | _ => none }
def fnExactBandsOfRow : OpenClaim := { program := "ytnfbgjgchcgonaa", sum := "392069cbaea5ca33031840b04aa28ba64a6e928f71e97b8c71102bb75b2c90f0", func := "loop.example/g00879/laws.FnExactBandsOf", spec := "fnExactBandsOf", apart := false }
def FnExactBandsOfSaid : Prop := fnExactBandsOfRow.holds Try.pinned (OpenSpec.ofChange fnExactBandsOfSpec)

/-- ITS FALSE NEIGHBOUR: 'it returns false'. Refute it at one input. -/
def fnExactBandsOfWrong : ChangeSpec := { name := "fnExactBandsOf", fn := fun _ => fun
  | [d] => { results := [.lit (.bool false)], args := [d] }
  | _ => none }
def FnExactBandsOfWrongFalsely : Prop := fnExactBandsOfRow.holds Try.pinned (OpenSpec.ofChange fnExactBandsOfWrong)

/-- 'laws.FnPrinted': WHATEVER THE INPUT: true; the input reads as it did. -/
def fnPrintedSpec : ChangeSpec := { name := "fnPrinted", fn := fun _ => fun
  | [d] => { results := [.lit (.bool true)], args := [d] }
  | _ => none }
def fnPrintedRow : OpenClaim := { program := "ytnfbgjgchcgonaa", sum := "392069cbaea5ca33031840b04aa28ba64a6e928f71e97b8c71102bb75b2c90f0", func := "loop.example/g00879/laws.FnPrinted", spec := "fnPrinted", unfollowed := true, recurses := true, apart := false }
def FnPrintedSaid : Prop := fnPrintedRow.holds Try.pinned (OpenSpec.ofChange fnPrintedSpec)

/-- ITS FALSE NEIGHBOUR: 'it returns false'. Refute it at one input. -/
def fnPrintedWrong : ChangeSpec := { name := "fnPrinted", fn := fun _ => fun
  | [d] => { results := [.lit (.bool false)], args := [d] }
  | _ => none }
def FnPrintedWrongFalsely : Prop := fnPrintedRow.holds Try.pinned (OpenSpec.ofChange fnPrintedWrong)

/- THE SECOND FORM. 'bulk': how many values and letters a reading holds, each counted each time it is reached (what is shared counts as often as it is met; a slice's spare places count too). A statement '..UptoSaid' is the law's where the arguments, and the package variables that the reading takes, are together of bulk at most 1048576: NARROWER than '..Said'. Prove '..Said' where nothing that the law and all that it calls make is longer than what came in: it says more and counts as full. Else prove '..UptoSaid'. A law counts once. -/
mutual
def uptoBulk {H : Type} : DataW H → Nat
  | .lit (.string bytes) => bytes.length + 1
  | .lit _ => 1
  | .nil => 1
  | .ptr d => uptoBulk d + 1
  | .slice elems spare => uptoBulkAll elems + uptoBulkAll spare + 1
  | .agg parts => uptoBulkAll parts + 1
  | .iface _ d => uptoBulk d + 1
  | .map entries => uptoBulkEntries entries + 1
  | .held _ => 1
def uptoBulkAll {H : Type} : List (DataW H) → Nat
  | [] => 0
  | d :: r => uptoBulk d + uptoBulkAll r
def uptoBulkEntries {H : Type} : List (Lit × DataW H) → Nat
  | [] => 0
  | x :: r => uptoBulkEntry x + uptoBulkEntries r
def uptoBulkEntry {H : Type} : Lit × DataW H → Nat
  | (.string bytes, d) => bytes.length + uptoBulk d + 1
  | (_, d) => uptoBulk d + 1
 end
def uptoSmall : (H : Type) → List (DataW H) → Bool := fun _ ds => decide (uptoBulkAll ds ≤ 1048576)
def OpenSpec.upto (s : _root_.Go.ChangeSpec) : _root_.Go.OpenSpec := { _root_.Go.OpenSpec.ofChange s with cond := some uptoSmall }

/-- 'laws.FnSegments', WHERE WHAT IT READS IS OF BULK AT MOST 1048576: true; the input reads as it did. -/
def fnSegmentsUptoRow : OpenClaim := { program := "ytnfbgjgchcgonaa", sum := "392069cbaea5ca33031840b04aa28ba64a6e928f71e97b8c71102bb75b2c90f0", func := "loop.example/g00879/laws.FnSegments", spec := "fnSegments", unfollowed := true, recurses := true, apart := false, narrowed := true }
def FnSegmentsUptoSaid : Prop := fnSegmentsUptoRow.holds Try.pinned (OpenSpec.upto fnSegmentsSpec)

/-- 'laws.FnSegmentsRead', WHERE WHAT IT READS IS OF BULK AT MOST 1048576: true; the input reads as it did. -/
def fnSegmentsReadUptoRow : OpenClaim := { program := "ytnfbgjgchcgonaa", sum := "392069cbaea5ca33031840b04aa28ba64a6e928f71e97b8c71102bb75b2c90f0", func := "loop.example/g00879/laws.FnSegmentsRead", spec := "fnSegmentsRead", unfollowed := true, recurses := true, apart := false, narrowed := true }
def FnSegmentsReadUptoSaid : Prop := fnSegmentsReadUptoRow.holds Try.pinned (OpenSpec.upto fnSegmentsReadSpec)

/-- 'laws.FnExactPayloadSize', WHERE WHAT IT READS IS OF BULK AT MOST 1048576: true; the input reads as it did. -/
def fnExactPayloadSizeUptoRow : OpenClaim := { program := "ytnfbgjgchcgonaa", sum := "392069cbaea5ca33031840b04aa28ba64a6e928f71e97b8c71102bb75b2c90f0", func := "loop.example/g00879/laws.FnExactPayloadSize", spec := "fnExactPayloadSize", unfollowed := true, recurses := true, apart := false, narrowed := true }
def FnExactPayloadSizeUptoSaid : Prop := fnExactPayloadSizeUptoRow.holds Try.pinned (OpenSpec.upto fnExactPayloadSizeSpec)

/-- 'laws.FnExactEncodePayload', WHERE WHAT IT READS IS OF BULK AT MOST 1048576: true; the input reads as it did. -/
def fnExactEncodePayloadUptoRow : OpenClaim := { program := "ytnfbgjgchcgonaa", sum := "392069cbaea5ca33031840b04aa28ba64a6e928f71e97b8c71102bb75b2c90f0", func := "loop.example/g00879/laws.FnExactEncodePayload", spec := "fnExactEncodePayload", unfollowed := true, recurses := true, apart := false, narrowed := true }
def FnExactEncodePayloadUptoSaid : Prop := fnExactEncodePayloadUptoRow.holds Try.pinned (OpenSpec.upto fnExactEncodePayloadSpec)

/-- 'laws.FnExactEncodePart', WHERE WHAT IT READS IS OF BULK AT MOST 1048576: true; the input reads as it did. -/
def fnExactEncodePartUptoRow : OpenClaim := { program := "ytnfbgjgchcgonaa", sum := "392069cbaea5ca33031840b04aa28ba64a6e928f71e97b8c71102bb75b2c90f0", func := "loop.example/g00879/laws.FnExactEncodePart", spec := "fnExactEncodePart", unfollowed := true, recurses := true, apart := false, narrowed := true }
def FnExactEncodePartUptoSaid : Prop := fnExactEncodePartUptoRow.holds Try.pinned (OpenSpec.upto fnExactEncodePartSpec)

/-- 'laws.FnPayloadSegments', WHERE WHAT IT READS IS OF BULK AT MOST 1048576: true; the input reads as it did. -/
def fnPayloadSegmentsUptoRow : OpenClaim := { program := "ytnfbgjgchcgonaa", sum := "392069cbaea5ca33031840b04aa28ba64a6e928f71e97b8c71102bb75b2c90f0", func := "loop.example/g00879/laws.FnPayloadSegments", spec := "fnPayloadSegments", unfollowed := true, recurses := true, apart := false, narrowed := true }
def FnPayloadSegmentsUptoSaid : Prop := fnPayloadSegmentsUptoRow.holds Try.pinned (OpenSpec.upto fnPayloadSegmentsSpec)

/-- 'laws.FnPartPayloads', WHERE WHAT IT READS IS OF BULK AT MOST 1048576: true; the input reads as it did. -/
def fnPartPayloadsUptoRow : OpenClaim := { program := "ytnfbgjgchcgonaa", sum := "392069cbaea5ca33031840b04aa28ba64a6e928f71e97b8c71102bb75b2c90f0", func := "loop.example/g00879/laws.FnPartPayloads", spec := "fnPartPayloads", unfollowed := true, recurses := true, apart := false, narrowed := true }
def FnPartPayloadsUptoSaid : Prop := fnPartPayloadsUptoRow.holds Try.pinned (OpenSpec.upto fnPartPayloadsSpec)

/-- 'laws.FnPayloads', WHERE WHAT IT READS IS OF BULK AT MOST 1048576: true; the input reads as it did. -/
def fnPayloadsUptoRow : OpenClaim := { program := "ytnfbgjgchcgonaa", sum := "392069cbaea5ca33031840b04aa28ba64a6e928f71e97b8c71102bb75b2c90f0", func := "loop.example/g00879/laws.FnPayloads", spec := "fnPayloads", unfollowed := true, recurses := true, apart := false, narrowed := true }
def FnPayloadsUptoSaid : Prop := fnPayloadsUptoRow.holds Try.pinned (OpenSpec.upto fnPayloadsSpec)

/-- 'laws.FnExactSplitMessage', WHERE WHAT IT READS IS OF BULK AT MOST 1048576: true; the input reads as it did. -/
def fnExactSplitMessageUptoRow : OpenClaim := { program := "ytnfbgjgchcgonaa", sum := "392069cbaea5ca33031840b04aa28ba64a6e928f71e97b8c71102bb75b2c90f0", func := "loop.example/g00879/laws.FnExactSplitMessage", spec := "fnExactSplitMessage", unfollowed := true, recurses := true, apart := false, narrowed := true }
def FnExactSplitMessageUptoSaid : Prop := fnExactSplitMessageUptoRow.holds Try.pinned (OpenSpec.upto fnExactSplitMessageSpec)

/-- 'laws.FnExactBandsOf', WHERE WHAT IT READS IS OF BULK AT MOST 1048576: true; the input reads as it did. -/
def fnExactBandsOfUptoRow : OpenClaim := { program := "ytnfbgjgchcgonaa", sum := "392069cbaea5ca33031840b04aa28ba64a6e928f71e97b8c71102bb75b2c90f0", func := "loop.example/g00879/laws.FnExactBandsOf", spec := "fnExactBandsOf", apart := false, narrowed := true }
def FnExactBandsOfUptoSaid : Prop := fnExactBandsOfUptoRow.holds Try.pinned (OpenSpec.upto fnExactBandsOfSpec)

/-- 'laws.FnPrinted', WHERE WHAT IT READS IS OF BULK AT MOST 1048576: true; the input reads as it did. -/
def fnPrintedUptoRow : OpenClaim := { program := "ytnfbgjgchcgonaa", sum := "392069cbaea5ca33031840b04aa28ba64a6e928f71e97b8c71102bb75b2c90f0", func := "loop.example/g00879/laws.FnPrinted", spec := "fnPrinted", unfollowed := true, recurses := true, apart := false, narrowed := true }
def FnPrintedUptoSaid : Prop := fnPrintedUptoRow.holds Try.pinned (OpenSpec.upto fnPrintedSpec)

end Rows
end Go.Proofs.Ytnfbgjgchcgonaa
