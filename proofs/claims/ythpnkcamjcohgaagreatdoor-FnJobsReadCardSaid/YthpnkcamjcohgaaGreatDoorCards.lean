/-
  DERIVED. GIVEN WITH THE SEED: THE CARDS: each row of YthpnkcamjcohgaaGreatDoorRows.lean that lists a variable, with what it lists TIED to the program's text (the seventh form; the later family's looks); each row that meets fmt, with fmt's text TOLD by the authors' own Lean function (tested against real Go, not proved from fmt's source: count such statements apart). THE CARD IS WHAT COUNTS. Prove the row's statement (the work); the ties are given (YthpnkcamjcohgaaGreatDoorTie.lean); close each card by the builder's one call (the guide's Derived/Test/ToyasCard.lean, 'card_holds'). Laid BY PROGRAM, IN A SANDBOX (cutbox-door.mjs). By AI agents, Wed Nov 11 2026. No macro, syntax, notation, axiom, sorry.
-/
import Derived.Test.YthpnkcamjcohgaaGreatDoorRows
import GoSem.ClaimSeven
namespace Go.Proofs.YthpnkcamjcohgaaGreatDoor
namespace Rows

/-- THE TIED CARD OF 'laws.FnJoinedJobs'. -/
def fnJoinedJobsCard : Claim7 := { stood := { row := fnJoinedJobsRow, standIns := [], harness := (true, "e78638805e86b520b1219fb60f2d373eaf4fe8d341046873c185ba2b4cee9ef5"), looks := true }, kinds := [], alts := [], laidByText := true, laidKinds := [.data, .data, .data, .data, .sentinel, .sentinel, .pinned], laidTests := true, laidLooks := .later }
def FnJoinedJobsCardSaid : Prop := Claim7.holds Tryz.pinned (.plain (OpenSpec.ofChange fnJoinedJobsSpec)) fnJoinedJobsCard

/-- THE TIED CARD OF 'laws.FnJobsRead'. -/
def fnJobsReadCard : Claim7 := { stood := { row := fnJobsReadRow, standIns := [], harness := (true, "e78638805e86b520b1219fb60f2d373eaf4fe8d341046873c185ba2b4cee9ef5"), looks := true }, kinds := [], alts := [], laidByText := true, laidKinds := [.data, .data, .data, .data, .sentinel, .sentinel, .pinned], laidTests := true, laidLooks := .later }
def FnJobsReadCardSaid : Prop := Claim7.holds Tryz.pinned (.plain (OpenSpec.ofChange fnJobsReadSpec)) fnJobsReadCard

/-- THE SECOND FORM's CARD OF 'laws.FnJoinedJobs'. -/
def fnJoinedJobsUptoCard : Claim7 := { stood := { row := fnJoinedJobsUptoRow, standIns := [], harness := (true, "e78638805e86b520b1219fb60f2d373eaf4fe8d341046873c185ba2b4cee9ef5"), looks := true }, kinds := [], alts := [], laidByText := true, laidKinds := [.data, .data, .data, .data, .sentinel, .sentinel, .pinned], laidTests := true, laidLooks := .later }
def FnJoinedJobsUptoCardSaid : Prop := Claim7.holds Tryz.pinned (.plain (OpenSpec.upto fnJoinedJobsSpec)) fnJoinedJobsUptoCard

/-- THE SECOND FORM's CARD OF 'laws.FnJobsRead'. -/
def fnJobsReadUptoCard : Claim7 := { stood := { row := fnJobsReadUptoRow, standIns := [], harness := (true, "e78638805e86b520b1219fb60f2d373eaf4fe8d341046873c185ba2b4cee9ef5"), looks := true }, kinds := [], alts := [], laidByText := true, laidKinds := [.data, .data, .data, .data, .sentinel, .sentinel, .pinned], laidTests := true, laidLooks := .later }
def FnJobsReadUptoCardSaid : Prop := Claim7.holds Tryz.pinned (.plain (OpenSpec.upto fnJobsReadSpec)) fnJobsReadUptoCard
end Rows
end Go.Proofs.YthpnkcamjcohgaaGreatDoor
