/-
  DERIVED. GIVEN WITH THE SEED: THE CARDS: each row of YthpnkcamjcohgaaDoorRows.lean that lists a variable, with what it lists TIED to the program's text (the seventh form; the later family's looks); each row that meets fmt, with fmt's text TOLD by the authors' own Lean function (tested against real Go, not proved from fmt's source: count such statements apart). THE CARD IS WHAT COUNTS. Prove the row's statement (the work); the ties are given (YthpnkcamjcohgaaDoorTie.lean); close each card by the builder's one call (the guide's Derived/Test/ToyasCard.lean, 'card_holds'). Laid BY PROGRAM, IN A SANDBOX (cutbox-door.mjs). By AI agents, Wed Nov 11 2026. No macro, syntax, notation, axiom, sorry.
-/
import Derived.Test.YthpnkcamjcohgaaDoorRows
import GoSem.ClaimSeven
namespace Go.Proofs.YthpnkcamjcohgaaDoor
namespace Rows

/-- THE TIED CARD OF 'laws.FnExactDamagesText'. -/
def fnExactDamagesTextCard : Claim7 := { stood := { row := fnExactDamagesTextRow, standIns := [], harness := (true, "09251466a4acbe26d2a2f89463d56d88a1b062bba4a9a499cf2817f4bd19f1ba"), looks := true }, kinds := [], alts := [], laidByText := true, laidKinds := [.data, .data, .data], laidTests := true, laidLooks := .later }
def FnExactDamagesTextCardSaid : Prop := Claim7.holds Tryd.pinned (.plain (OpenSpec.ofChange fnExactDamagesTextSpec)) fnExactDamagesTextCard

/-- THE TIED CARD OF 'laws.FnParts'. -/
def fnPartsCard : Claim7 := { stood := { row := fnPartsRow, standIns := [], harness := (true, "09251466a4acbe26d2a2f89463d56d88a1b062bba4a9a499cf2817f4bd19f1ba"), looks := true }, kinds := [], alts := [], laidByText := true, laidKinds := [.data, .data, .data], laidTests := true, laidLooks := .later }
def FnPartsCardSaid : Prop := Claim7.holds Tryd.pinned (.plain (OpenSpec.ofChange fnPartsSpec)) fnPartsCard

/-- THE TIED CARD OF 'laws.FnBatchText'. -/
def fnBatchTextCard : Claim7 := { stood := { row := fnBatchTextRow, standIns := [], harness := (true, "09251466a4acbe26d2a2f89463d56d88a1b062bba4a9a499cf2817f4bd19f1ba"), looks := true }, kinds := [], alts := [], laidByText := true, laidKinds := [.data, .data, .data, .data, .sentinel, .sentinel, .pinned], laidTests := true, laidLooks := .later }
def FnBatchTextCardSaid : Prop := Claim7.holds Tryd.pinned (.plain (OpenSpec.ofChange fnBatchTextSpec)) fnBatchTextCard

/-- THE TIED CARD OF 'laws.FnJobs'. -/
def fnJobsCard : Claim7 := { stood := { row := fnJobsRow, standIns := [], harness := (true, "09251466a4acbe26d2a2f89463d56d88a1b062bba4a9a499cf2817f4bd19f1ba"), looks := true }, kinds := [], alts := [], laidByText := true, laidKinds := [.data, .data, .data, .data, .sentinel, .sentinel, .pinned], laidTests := true, laidLooks := .later }
def FnJobsCardSaid : Prop := Claim7.holds Tryd.pinned (.plain (OpenSpec.ofChange fnJobsSpec)) fnJobsCard

/-- THE SECOND FORM's CARD OF 'laws.FnExactDamagesText'. -/
def fnExactDamagesTextUptoCard : Claim7 := { stood := { row := fnExactDamagesTextUptoRow, standIns := [], harness := (true, "09251466a4acbe26d2a2f89463d56d88a1b062bba4a9a499cf2817f4bd19f1ba"), looks := true }, kinds := [], alts := [], laidByText := true, laidKinds := [.data, .data, .data], laidTests := true, laidLooks := .later }
def FnExactDamagesTextUptoCardSaid : Prop := Claim7.holds Tryd.pinned (.plain (OpenSpec.upto fnExactDamagesTextSpec)) fnExactDamagesTextUptoCard

/-- THE SECOND FORM's CARD OF 'laws.FnParts'. -/
def fnPartsUptoCard : Claim7 := { stood := { row := fnPartsUptoRow, standIns := [], harness := (true, "09251466a4acbe26d2a2f89463d56d88a1b062bba4a9a499cf2817f4bd19f1ba"), looks := true }, kinds := [], alts := [], laidByText := true, laidKinds := [.data, .data, .data], laidTests := true, laidLooks := .later }
def FnPartsUptoCardSaid : Prop := Claim7.holds Tryd.pinned (.plain (OpenSpec.upto fnPartsSpec)) fnPartsUptoCard

/-- THE SECOND FORM's CARD OF 'laws.FnBatchText'. -/
def fnBatchTextUptoCard : Claim7 := { stood := { row := fnBatchTextUptoRow, standIns := [], harness := (true, "09251466a4acbe26d2a2f89463d56d88a1b062bba4a9a499cf2817f4bd19f1ba"), looks := true }, kinds := [], alts := [], laidByText := true, laidKinds := [.data, .data, .data, .data, .sentinel, .sentinel, .pinned], laidTests := true, laidLooks := .later }
def FnBatchTextUptoCardSaid : Prop := Claim7.holds Tryd.pinned (.plain (OpenSpec.upto fnBatchTextSpec)) fnBatchTextUptoCard

/-- THE SECOND FORM's CARD OF 'laws.FnJobs'. -/
def fnJobsUptoCard : Claim7 := { stood := { row := fnJobsUptoRow, standIns := [], harness := (true, "09251466a4acbe26d2a2f89463d56d88a1b062bba4a9a499cf2817f4bd19f1ba"), looks := true }, kinds := [], alts := [], laidByText := true, laidKinds := [.data, .data, .data, .data, .sentinel, .sentinel, .pinned], laidTests := true, laidLooks := .later }
def FnJobsUptoCardSaid : Prop := Claim7.holds Tryd.pinned (.plain (OpenSpec.upto fnJobsSpec)) fnJobsUptoCard
end Rows
end Go.Proofs.YthpnkcamjcohgaaDoor
