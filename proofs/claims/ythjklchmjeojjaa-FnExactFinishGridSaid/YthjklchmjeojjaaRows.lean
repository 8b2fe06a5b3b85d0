/-
  No cell of these rows narrows 'for every input' (looked for: loops, veiled, ifaces, maps, wideKeys, modest, calm, conditions, laid).
  DERIVED. THE GIVEN ROWS OF THIS SEAT. 3 by the template 'for every input the law returns true; each argument reads behind the call as it read before'; 0 by the template 'total and deterministic' (their statements: YthjklchmjeojjaaTotals.lean).
  GIVEN WITH THE SEED: the statements are not yours to turn. If you find one false, say at which input.
  Laid BY PROGRAM, IN A SANDBOX (cutbox-rows.mjs): the forced cells as the released guide's own fill.sh prints them over the translation c0d72b39772ee965… (all of the seat's roots in one cut). By AI agents, Wed Nov 11 2026. No macro, syntax, notation, axiom, sorry.
-/
import Derived.Test.YthjklchmjeojjaaChecked
import GoSem.Claim
import GoSem.ClaimJoined
import GoSem.ClaimMapViews
import Derived.JoinedTies
import Derived.KernelRfl
namespace Go.Proofs.Ythjklchmjeojjaa
/- THE CELL 'sum', in the pinned program and in every row, IS THE sha256 OF THE DUMP (.gsa) THAT YthjklchmjeojjaaProg.lean LOADS. Nothing in Lean hashes anything: it is a label: what it is worth is what the hold of that sum in a sandbox is worth. -/
noncomputable def Try.pinned : Pinned := { name := "ythjklchmjeojjaa", sum := "c0d72b39772ee965c90028e638bc888a03eb6d6bfc1cdb8d55485230eabf6b56", checked := Try.checked }
namespace Rows
def none {H : Type} : Left H := { results := [], args := [] }

/-- 'laws.FnFormatKept': WHATEVER THE INPUT: true; the input reads as it did. -/
def fnFormatKeptSpec : ChangeSpec := { name := "fnFormatKept", fn := fun _ => fun
  | [d] => { results := [.lit (.bool true)], args := [d] }
  | _ => none }
def fnFormatKeptRow : OpenClaim := { program := "ythjklchmjeojjaa", sum := "c0d72b39772ee965c90028e638bc888a03eb6d6bfc1cdb8d55485230eabf6b56", func := "loop.example/g00879/laws.FnFormatKept", spec := "fnFormatKept", plainKeys := false, apart := false }
def FnFormatKeptSaid : Prop := fnFormatKeptRow.holds Try.pinned (OpenSpec.ofChange fnFormatKeptSpec)

/-- ITS FALSE NEIGHBOUR: 'it returns false'. Refute it at one input. -/
def fnFormatKeptWrong : ChangeSpec := { name := "fnFormatKept", fn := fun _ => fun
  | [d] => { results := [.lit (.bool false)], args := [d] }
  | _ => none }
def FnFormatKeptWrongFalsely : Prop := fnFormatKeptRow.holds Try.pinned (OpenSpec.ofChange fnFormatKeptWrong)

/-- 'laws.FnFixedErrors': WHATEVER THE INPUT: true; the input reads as it did. -/
def fnFixedErrorsSpec : ChangeSpec := { name := "fnFixedErrors", fn := fun _ => fun
  | [d] => { results := [.lit (.bool true)], args := [d] }
  | _ => none }
def fnFixedErrorsRow : OpenClaim := { program := "ythjklchmjeojjaa", sum := "c0d72b39772ee965c90028e638bc888a03eb6d6bfc1cdb8d55485230eabf6b56", func := "loop.example/g00879/laws.FnFixedErrors", spec := "fnFixedErrors", unfollowed := true, recurses := true, plainKeys := false, apart := false }
def FnFixedErrorsSaid : Prop := fnFixedErrorsRow.holds Try.pinned (OpenSpec.ofChange fnFixedErrorsSpec)

/-- ITS FALSE NEIGHBOUR: 'it returns false'. Refute it at one input. -/
def fnFixedErrorsWrong : ChangeSpec := { name := "fnFixedErrors", fn := fun _ => fun
  | [d] => { results := [.lit (.bool false)], args := [d] }
  | _ => none }
def FnFixedErrorsWrongFalsely : Prop := fnFixedErrorsRow.holds Try.pinned (OpenSpec.ofChange fnFixedErrorsWrong)

/-- 'laws.FnExactFinishGrid': WHATEVER THE INPUT: true; the input reads as it did. -/
def fnExactFinishGridSpec : ChangeSpec := { name := "fnExactFinishGrid", fn := fun _ => fun
  | [d1, d2, d3] => { results := [.lit (.bool true)], args := [d1, d2, d3] }
  | _ => none }
def fnExactFinishGridRow : OpenClaim := { program := "ythjklchmjeojjaa", sum := "c0d72b39772ee965c90028e638bc888a03eb6d6bfc1cdb8d55485230eabf6b56", func := "loop.example/g00879/laws.FnExactFinishGrid", spec := "fnExactFinishGrid", unfollowed := true, recurses := true, plainKeys := false, apart := false }
def FnExactFinishGridSaid : Prop := fnExactFinishGridRow.holds Try.pinned (OpenSpec.ofChange fnExactFinishGridSpec)

/-- ITS FALSE NEIGHBOUR: 'it returns false'. Refute it at one input. -/
def fnExactFinishGridWrong : ChangeSpec := { name := "fnExactFinishGrid", fn := fun _ => fun
  | [d1, d2, d3] => { results := [.lit (.bool false)], args := [d1, d2, d3] }
  | _ => none }
def FnExactFinishGridWrongFalsely : Prop := fnExactFinishGridRow.holds Try.pinned (OpenSpec.ofChange fnExactFinishGridWrong)

/- THE SECOND FORM. 'bulk': how many values and letters a reading holds, each counted each time it is reached (what is shared counts as often as it is met; a slice's spare places count too). A statement '..UptoSaid' is the law's where the arguments, and the package variables that the reading takes, are together of bulk at most 1048576: NARROWER than '..Said'. Prove '..Said' where nothing that the law and all that it calls make is longer than what came in: it says more and counts as full. Else prove '..UptoSaid'. A law counts once. -/
mutual
def uptoBulk {H : Type} : DataW H → Nat
  | .lit (.string bytes) => bytes.length + 1
  | .lit _ => 1
  | .nil => 1
  | .ptr d => uptoBulk d + 1
  | .slice elems spare => uptoBulkAll elems + uptoBulkAll spare + 1
  | .agg parts => uptoBulkAll parts + 1
  | .iface _ d => uptoBulk d + 1
  | .map entries => uptoBulkEntries entries + 1
  | .held _ => 1
def uptoBulkAll {H : Type} : List (DataW H) → Nat
  | [] => 0
  | d :: r => uptoBulk d + uptoBulkAll r
def uptoBulkEntries {H : Type} : List (Lit × DataW H) → Nat
  | [] => 0
  | x :: r => uptoBulkEntry x + uptoBulkEntries r
def uptoBulkEntry {H : Type} : Lit × DataW H → Nat
  | (.string bytes, d) => bytes.length + uptoBulk d + 1
  | (_, d) => uptoBulk d + 1
 end
def uptoSmall : (H : Type) → List (DataW H) → Bool := fun _ ds => decide (uptoBulkAll ds ≤ 1048576)
def OpenSpec.upto (s : _root_.Go.ChangeSpec) : _root_.Go.OpenSpec := { _root_.Go.OpenSpec.ofChange s with cond := some uptoSmall }

/-- 'laws.FnFormatKept', WHERE WHAT IT READS IS OF BULK AT MOST 1048576: true; the input reads as it did. -/
def fnFormatKeptUptoRow : OpenClaim := { program := "ythjklchmjeojjaa", sum := "c0d72b39772ee965c90028e638bc888a03eb6d6bfc1cdb8d55485230eabf6b56", func := "loop.example/g00879/laws.FnFormatKept", spec := "fnFormatKept", plainKeys := false, apart := false, narrowed := true }
def FnFormatKeptUptoSaid : Prop := fnFormatKeptUptoRow.holds Try.pinned (OpenSpec.upto fnFormatKeptSpec)

/-- 'laws.FnFixedErrors', WHERE WHAT IT READS IS OF BULK AT MOST 1048576: true; the input reads as it did. -/
def fnFixedErrorsUptoRow : OpenClaim := { program := "ythjklchmjeojjaa", sum := "c0d72b39772ee965c90028e638bc888a03eb6d6bfc1cdb8d55485230eabf6b56", func := "loop.example/g00879/laws.FnFixedErrors", spec := "fnFixedErrors", unfollowed := true, recurses := true, plainKeys := false, apart := false, narrowed := true }
def FnFixedErrorsUptoSaid : Prop := fnFixedErrorsUptoRow.holds Try.pinned (OpenSpec.upto fnFixedErrorsSpec)

/-- 'laws.FnExactFinishGrid', WHERE WHAT IT READS IS OF BULK AT MOST 1048576: true; the input reads as it did. -/
def fnExactFinishGridUptoRow : OpenClaim := { program := "ythjklchmjeojjaa", sum := "c0d72b39772ee965c90028e638bc888a03eb6d6bfc1cdb8d55485230eabf6b56", func := "loop.example/g00879/laws.FnExactFinishGrid", spec := "fnExactFinishGrid", unfollowed := true, recurses := true, plainKeys := false, apart := false, narrowed := true }
def FnExactFinishGridUptoSaid : Prop := fnExactFinishGridUptoRow.holds Try.pinned (OpenSpec.upto fnExactFinishGridSpec)

end Rows
end Go.Proofs.Ythjklchmjeojjaa
