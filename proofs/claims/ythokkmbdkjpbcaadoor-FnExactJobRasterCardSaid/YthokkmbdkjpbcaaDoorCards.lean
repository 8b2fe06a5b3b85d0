/-
  DERIVED. GIVEN WITH THE SEED: THE CARDS: each row of YthokkmbdkjpbcaaDoorRows.lean that lists a variable, with what it lists TIED to the program's text (the seventh form; the later family's looks); each row that meets fmt, with fmt's text TOLD by the authors' own Lean function (tested against real Go, not proved from fmt's source: count such statements apart). THE CARD IS WHAT COUNTS. Prove the row's statement (the work); the ties are given (YthokkmbdkjpbcaaDoorTie.lean); close each card by the builder's one call (the guide's Derived/Test/ToyasCard.lean, 'card_holds'). Laid BY PROGRAM, IN A SANDBOX (cutbox-door.mjs). By AI agents, Wed Nov 11 2026. No macro, syntax, notation, axiom, sorry.
-/
import Derived.Test.YthokkmbdkjpbcaaDoorRows
import GoSem.ClaimSeven
namespace Go.Proofs.YthokkmbdkjpbcaaDoor
namespace Rows

/-- THE TIED CARD OF 'laws.FnExactJobOf'. -/
def fnExactJobOfCard : Claim7 := { stood := { row := fnExactJobOfRow, standIns := [], harness := (true, "47ba8f30b6cf7be2a4c3b6b9351c570aac64430d39ac99436d22ad8808d75739"), looks := true }, kinds := [], alts := [], laidByText := true, laidKinds := [.data, .data, .data], laidTests := true, laidLooks := .later }
def FnExactJobOfCardSaid : Prop := Claim7.holds Tryd.pinned (.plain (OpenSpec.ofChange fnExactJobOfSpec)) fnExactJobOfCard

/-- THE TIED CARD OF 'laws.FnExactInkOf'. -/
def fnExactInkOfCard : Claim7 := { stood := { row := fnExactInkOfRow, standIns := [], harness := (true, "47ba8f30b6cf7be2a4c3b6b9351c570aac64430d39ac99436d22ad8808d75739"), looks := true }, kinds := [], alts := [], laidByText := true, laidKinds := [.data, .data, .data, .data, .sentinel, .sentinel, .pinned], laidTests := true, laidLooks := .later }
def FnExactInkOfCardSaid : Prop := Claim7.holds Tryd.pinned (.plain (OpenSpec.ofChange fnExactInkOfSpec)) fnExactInkOfCard

/-- THE TIED CARD OF 'laws.FnExactReadJob'. -/
def fnExactReadJobCard : Claim7 := { stood := { row := fnExactReadJobRow, standIns := [], harness := (true, "47ba8f30b6cf7be2a4c3b6b9351c570aac64430d39ac99436d22ad8808d75739"), looks := true }, kinds := [], alts := [], laidByText := true, laidKinds := [.data, .data, .data, .data, .sentinel, .sentinel, .pinned], laidTests := true, laidLooks := .later }
def FnExactReadJobCardSaid : Prop := Claim7.holds Tryd.pinned (.plain (OpenSpec.ofChange fnExactReadJobSpec)) fnExactReadJobCard

/-- THE TIED CARD OF 'laws.FnExactJoinJobs'. -/
def fnExactJoinJobsCard : Claim7 := { stood := { row := fnExactJoinJobsRow, standIns := [], harness := (true, "47ba8f30b6cf7be2a4c3b6b9351c570aac64430d39ac99436d22ad8808d75739"), looks := true }, kinds := [], alts := [], laidByText := true, laidKinds := [.data, .data, .data, .data, .sentinel, .sentinel, .pinned], laidTests := true, laidLooks := .later }
def FnExactJoinJobsCardSaid : Prop := Claim7.holds Tryd.pinned (.plain (OpenSpec.ofChange fnExactJoinJobsSpec)) fnExactJoinJobsCard

/-- THE TIED CARD OF 'laws.FnJobs'. -/
def fnJobsCard : Claim7 := { stood := { row := fnJobsRow, standIns := [], harness := (true, "47ba8f30b6cf7be2a4c3b6b9351c570aac64430d39ac99436d22ad8808d75739"), looks := true }, kinds := [], alts := [], laidByText := true, laidKinds := [.data, .data, .data, .data, .sentinel, .sentinel, .pinned], laidTests := true, laidLooks := .later }
def FnJobsCardSaid : Prop := Claim7.holds Tryd.pinned (.plain (OpenSpec.ofChange fnJobsSpec)) fnJobsCard

/-- THE TIED CARD OF 'laws.FnExactJobRaster'. -/
def fnExactJobRasterCard : Claim7 := { stood := { row := fnExactJobRasterRow, standIns := [], harness := (true, "47ba8f30b6cf7be2a4c3b6b9351c570aac64430d39ac99436d22ad8808d75739"), looks := true }, kinds := [], alts := [], laidByText := true, laidKinds := [.data, .data, .data, .data, .sentinel, .sentinel, .pinned], laidTests := true, laidLooks := .later }
def FnExactJobRasterCardSaid : Prop := Claim7.holds Tryd.pinned (.plain (OpenSpec.ofChange fnExactJobRasterSpec)) fnExactJobRasterCard

/-- THE TIED CARD OF 'laws.FnBatchText'. -/
def fnBatchTextCard : Claim7 := { stood := { row := fnBatchTextRow, standIns := [], harness := (true, "47ba8f30b6cf7be2a4c3b6b9351c570aac64430d39ac99436d22ad8808d75739"), looks := true }, kinds := [], alts := [], laidByText := true, laidKinds := [.data, .data, .data, .data, .sentinel, .sentinel, .pinned], laidTests := true, laidLooks := .later }
def FnBatchTextCardSaid : Prop := Claim7.holds Tryd.pinned (.plain (OpenSpec.ofChange fnBatchTextSpec)) fnBatchTextCard

/-- THE TIED CARD OF 'laws.FnParts'. -/
def fnPartsCard : Claim7 := { stood := { row := fnPartsRow, standIns := [], harness := (true, "47ba8f30b6cf7be2a4c3b6b9351c570aac64430d39ac99436d22ad8808d75739"), looks := true }, kinds := [], alts := [], laidByText := true, laidKinds := [.data, .data, .data], laidTests := true, laidLooks := .later }
def FnPartsCardSaid : Prop := Claim7.holds Tryd.pinned (.plain (OpenSpec.ofChange fnPartsSpec)) fnPartsCard

/-- THE TIED CARD OF 'laws.FnExactDamagesText'. -/
def fnExactDamagesTextCard : Claim7 := { stood := { row := fnExactDamagesTextRow, standIns := [], harness := (true, "47ba8f30b6cf7be2a4c3b6b9351c570aac64430d39ac99436d22ad8808d75739"), looks := true }, kinds := [], alts := [], laidByText := true, laidKinds := [.data, .data, .data], laidTests := true, laidLooks := .later }
def FnExactDamagesTextCardSaid : Prop := Claim7.holds Tryd.pinned (.plain (OpenSpec.ofChange fnExactDamagesTextSpec)) fnExactDamagesTextCard

/-- THE SECOND FORM's CARD OF 'laws.FnExactJobOf'. -/
def fnExactJobOfUptoCard : Claim7 := { stood := { row := fnExactJobOfUptoRow, standIns := [], harness := (true, "47ba8f30b6cf7be2a4c3b6b9351c570aac64430d39ac99436d22ad8808d75739"), looks := true }, kinds := [], alts := [], laidByText := true, laidKinds := [.data, .data, .data], laidTests := true, laidLooks := .later }
def FnExactJobOfUptoCardSaid : Prop := Claim7.holds Tryd.pinned (.plain (OpenSpec.upto fnExactJobOfSpec)) fnExactJobOfUptoCard

/-- THE SECOND FORM's CARD OF 'laws.FnExactInkOf'. -/
def fnExactInkOfUptoCard : Claim7 := { stood := { row := fnExactInkOfUptoRow, standIns := [], harness := (true, "47ba8f30b6cf7be2a4c3b6b9351c570aac64430d39ac99436d22ad8808d75739"), looks := true }, kinds := [], alts := [], laidByText := true, laidKinds := [.data, .data, .data, .data, .sentinel, .sentinel, .pinned], laidTests := true, laidLooks := .later }
def FnExactInkOfUptoCardSaid : Prop := Claim7.holds Tryd.pinned (.plain (OpenSpec.upto fnExactInkOfSpec)) fnExactInkOfUptoCard

/-- THE SECOND FORM's CARD OF 'laws.FnExactReadJob'. -/
def fnExactReadJobUptoCard : Claim7 := { stood := { row := fnExactReadJobUptoRow, standIns := [], harness := (true, "47ba8f30b6cf7be2a4c3b6b9351c570aac64430d39ac99436d22ad8808d75739"), looks := true }, kinds := [], alts := [], laidByText := true, laidKinds := [.data, .data, .data, .data, .sentinel, .sentinel, .pinned], laidTests := true, laidLooks := .later }
def FnExactReadJobUptoCardSaid : Prop := Claim7.holds Tryd.pinned (.plain (OpenSpec.upto fnExactReadJobSpec)) fnExactReadJobUptoCard

/-- THE SECOND FORM's CARD OF 'laws.FnExactJoinJobs'. -/
def fnExactJoinJobsUptoCard : Claim7 := { stood := { row := fnExactJoinJobsUptoRow, standIns := [], harness := (true, "47ba8f30b6cf7be2a4c3b6b9351c570aac64430d39ac99436d22ad8808d75739"), looks := true }, kinds := [], alts := [], laidByText := true, laidKinds := [.data, .data, .data, .data, .sentinel, .sentinel, .pinned], laidTests := true, laidLooks := .later }
def FnExactJoinJobsUptoCardSaid : Prop := Claim7.holds Tryd.pinned (.plain (OpenSpec.upto fnExactJoinJobsSpec)) fnExactJoinJobsUptoCard

/-- THE SECOND FORM's CARD OF 'laws.FnJobs'. -/
def fnJobsUptoCard : Claim7 := { stood := { row := fnJobsUptoRow, standIns := [], harness := (true, "47ba8f30b6cf7be2a4c3b6b9351c570aac64430d39ac99436d22ad8808d75739"), looks := true }, kinds := [], alts := [], laidByText := true, laidKinds := [.data, .data, .data, .data, .sentinel, .sentinel, .pinned], laidTests := true, laidLooks := .later }
def FnJobsUptoCardSaid : Prop := Claim7.holds Tryd.pinned (.plain (OpenSpec.upto fnJobsSpec)) fnJobsUptoCard

/-- THE SECOND FORM's CARD OF 'laws.FnExactJobRaster'. -/
def fnExactJobRasterUptoCard : Claim7 := { stood := { row := fnExactJobRasterUptoRow, standIns := [], harness := (true, "47ba8f30b6cf7be2a4c3b6b9351c570aac64430d39ac99436d22ad8808d75739"), looks := true }, kinds := [], alts := [], laidByText := true, laidKinds := [.data, .data, .data, .data, .sentinel, .sentinel, .pinned], laidTests := true, laidLooks := .later }
def FnExactJobRasterUptoCardSaid : Prop := Claim7.holds Tryd.pinned (.plain (OpenSpec.upto fnExactJobRasterSpec)) fnExactJobRasterUptoCard

/-- THE SECOND FORM's CARD OF 'laws.FnBatchText'. -/
def fnBatchTextUptoCard : Claim7 := { stood := { row := fnBatchTextUptoRow, standIns := [], harness := (true, "47ba8f30b6cf7be2a4c3b6b9351c570aac64430d39ac99436d22ad8808d75739"), looks := true }, kinds := [], alts := [], laidByText := true, laidKinds := [.data, .data, .data, .data, .sentinel, .sentinel, .pinned], laidTests := true, laidLooks := .later }
def FnBatchTextUptoCardSaid : Prop := Claim7.holds Tryd.pinned (.plain (OpenSpec.upto fnBatchTextSpec)) fnBatchTextUptoCard

/-- THE SECOND FORM's CARD OF 'laws.FnParts'. -/
def fnPartsUptoCard : Claim7 := { stood := { row := fnPartsUptoRow, standIns := [], harness := (true, "47ba8f30b6cf7be2a4c3b6b9351c570aac64430d39ac99436d22ad8808d75739"), looks := true }, kinds := [], alts := [], laidByText := true, laidKinds := [.data, .data, .data], laidTests := true, laidLooks := .later }
def FnPartsUptoCardSaid : Prop := Claim7.holds Tryd.pinned (.plain (OpenSpec.upto fnPartsSpec)) fnPartsUptoCard

/-- THE SECOND FORM's CARD OF 'laws.FnExactDamagesText'. -/
def fnExactDamagesTextUptoCard : Claim7 := { stood := { row := fnExactDamagesTextUptoRow, standIns := [], harness := (true, "47ba8f30b6cf7be2a4c3b6b9351c570aac64430d39ac99436d22ad8808d75739"), looks := true }, kinds := [], alts := [], laidByText := true, laidKinds := [.data, .data, .data], laidTests := true, laidLooks := .later }
def FnExactDamagesTextUptoCardSaid : Prop := Claim7.holds Tryd.pinned (.plain (OpenSpec.upto fnExactDamagesTextSpec)) fnExactDamagesTextUptoCard
end Rows
end Go.Proofs.YthokkmbdkjpbcaaDoor
