/-
  DERIVED. GIVEN WITH THE SEED: THE CARDS: each row of YtdjknkmifaomgaaDoorRows.lean that lists a variable, with what it lists TIED to the program's text (the seventh form; the later family's looks); each row that meets fmt, with fmt's text TOLD by the authors' own Lean function (tested against real Go, not proved from fmt's source: count such statements apart). THE CARD IS WHAT COUNTS. Prove the row's statement (the work); the ties are given (YtdjknkmifaomgaaDoorTie.lean); close each card by the builder's one call (the guide's Derived/Test/ToyasCard.lean, 'card_holds'). Laid BY PROGRAM, IN A SANDBOX (cutbox-door.mjs). By AI agents, Wed Nov 11 2026. No macro, syntax, notation, axiom, sorry.
-/
import Derived.Test.YtdjknkmifaomgaaDoorRows
import GoSem.ClaimSeven
namespace Go.Proofs.YtdjknkmifaomgaaDoor
namespace Rows

/-- THE TIED CARD OF 'laws.FnParts'. -/
def fnPartsCard : Claim7 := { stood := { row := fnPartsRow, standIns := [], harness := (true, "2170f76b796b85e5d95ab1526912879b2bb7bcca0941380d51ae6ad6fc23a701"), looks := true }, kinds := [], alts := [], laidByText := true, laidKinds := [.data, .data, .data], laidTests := true, laidLooks := .later }
def FnPartsCardSaid : Prop := Claim7.holds Tryd.pinned (.plain (OpenSpec.ofChange fnPartsSpec)) fnPartsCard

/-- THE TIED CARD OF 'laws.FnExactDamagesText'. -/
def fnExactDamagesTextCard : Claim7 := { stood := { row := fnExactDamagesTextRow, standIns := [], harness := (true, "2170f76b796b85e5d95ab1526912879b2bb7bcca0941380d51ae6ad6fc23a701"), looks := true }, kinds := [], alts := [], laidByText := true, laidKinds := [.data, .data, .data], laidTests := true, laidLooks := .later }
def FnExactDamagesTextCardSaid : Prop := Claim7.holds Tryd.pinned (.plain (OpenSpec.ofChange fnExactDamagesTextSpec)) fnExactDamagesTextCard

/-- THE TIED CARD OF 'laws.FnExactIsBatch'. -/
def fnExactIsBatchCard : Claim7 := { stood := { row := fnExactIsBatchRow, standIns := [], harness := (true, "2170f76b796b85e5d95ab1526912879b2bb7bcca0941380d51ae6ad6fc23a701"), looks := true }, kinds := [], alts := [], laidByText := true, laidKinds := [.data, .data, .data], laidTests := true, laidLooks := .later }
def FnExactIsBatchCardSaid : Prop := Claim7.holds Tryd.pinned (.plain (OpenSpec.ofChange fnExactIsBatchSpec)) fnExactIsBatchCard

/-- THE TIED CARD OF 'laws.FnExactBatchText'. -/
def fnExactBatchTextCard : Claim7 := { stood := { row := fnExactBatchTextRow, standIns := [], harness := (true, "2170f76b796b85e5d95ab1526912879b2bb7bcca0941380d51ae6ad6fc23a701"), looks := true }, kinds := [], alts := [], laidByText := true, laidKinds := [.data, .data, .data, .data, .pinned], laidTests := true, laidLooks := .later }
def FnExactBatchTextCardSaid : Prop := Claim7.holds Tryd.pinned (.plain (OpenSpec.ofChange fnExactBatchTextSpec)) fnExactBatchTextCard

/-- THE TIED CARD OF 'laws.FnExactReadBatch'. -/
def fnExactReadBatchCard : Claim7 := { stood := { row := fnExactReadBatchRow, standIns := [], harness := (true, "2170f76b796b85e5d95ab1526912879b2bb7bcca0941380d51ae6ad6fc23a701"), looks := true }, kinds := [], alts := [], laidByText := true, laidKinds := [.data, .data, .data, .data, .sentinel, .sentinel, .pinned], laidTests := true, laidLooks := .later }
def FnExactReadBatchCardSaid : Prop := Claim7.holds Tryd.pinned (.plain (OpenSpec.ofChange fnExactReadBatchSpec)) fnExactReadBatchCard

/-- THE TIED CARD OF 'laws.FnBatchText'. -/
def fnBatchTextCard : Claim7 := { stood := { row := fnBatchTextRow, standIns := [], harness := (true, "2170f76b796b85e5d95ab1526912879b2bb7bcca0941380d51ae6ad6fc23a701"), looks := true }, kinds := [], alts := [], laidByText := true, laidKinds := [.data, .data, .data, .data, .sentinel, .sentinel, .pinned], laidTests := true, laidLooks := .later }
def FnBatchTextCardSaid : Prop := Claim7.holds Tryd.pinned (.plain (OpenSpec.ofChange fnBatchTextSpec)) fnBatchTextCard

/-- THE SECOND FORM's CARD OF 'laws.FnParts'. -/
def fnPartsUptoCard : Claim7 := { stood := { row := fnPartsUptoRow, standIns := [], harness := (true, "2170f76b796b85e5d95ab1526912879b2bb7bcca0941380d51ae6ad6fc23a701"), looks := true }, kinds := [], alts := [], laidByText := true, laidKinds := [.data, .data, .data], laidTests := true, laidLooks := .later }
def FnPartsUptoCardSaid : Prop := Claim7.holds Tryd.pinned (.plain (OpenSpec.upto fnPartsSpec)) fnPartsUptoCard

/-- THE SECOND FORM's CARD OF 'laws.FnExactDamagesText'. -/
def fnExactDamagesTextUptoCard : Claim7 := { stood := { row := fnExactDamagesTextUptoRow, standIns := [], harness := (true, "2170f76b796b85e5d95ab1526912879b2bb7bcca0941380d51ae6ad6fc23a701"), looks := true }, kinds := [], alts := [], laidByText := true, laidKinds := [.data, .data, .data], laidTests := true, laidLooks := .later }
def FnExactDamagesTextUptoCardSaid : Prop := Claim7.holds Tryd.pinned (.plain (OpenSpec.upto fnExactDamagesTextSpec)) fnExactDamagesTextUptoCard

/-- THE SECOND FORM's CARD OF 'laws.FnExactIsBatch'. -/
def fnExactIsBatchUptoCard : Claim7 := { stood := { row := fnExactIsBatchUptoRow, standIns := [], harness := (true, "2170f76b796b85e5d95ab1526912879b2bb7bcca0941380d51ae6ad6fc23a701"), looks := true }, kinds := [], alts := [], laidByText := true, laidKinds := [.data, .data, .data], laidTests := true, laidLooks := .later }
def FnExactIsBatchUptoCardSaid : Prop := Claim7.holds Tryd.pinned (.plain (OpenSpec.upto fnExactIsBatchSpec)) fnExactIsBatchUptoCard

/-- THE SECOND FORM's CARD OF 'laws.FnExactBatchText'. -/
def fnExactBatchTextUptoCard : Claim7 := { stood := { row := fnExactBatchTextUptoRow, standIns := [], harness := (true, "2170f76b796b85e5d95ab1526912879b2bb7bcca0941380d51ae6ad6fc23a701"), looks := true }, kinds := [], alts := [], laidByText := true, laidKinds := [.data, .data, .data, .data, .pinned], laidTests := true, laidLooks := .later }
def FnExactBatchTextUptoCardSaid : Prop := Claim7.holds Tryd.pinned (.plain (OpenSpec.upto fnExactBatchTextSpec)) fnExactBatchTextUptoCard

/-- THE SECOND FORM's CARD OF 'laws.FnExactReadBatch'. -/
def fnExactReadBatchUptoCard : Claim7 := { stood := { row := fnExactReadBatchUptoRow, standIns := [], harness := (true, "2170f76b796b85e5d95ab1526912879b2bb7bcca0941380d51ae6ad6fc23a701"), looks := true }, kinds := [], alts := [], laidByText := true, laidKinds := [.data, .data, .data, .data, .sentinel, .sentinel, .pinned], laidTests := true, laidLooks := .later }
def FnExactReadBatchUptoCardSaid : Prop := Claim7.holds Tryd.pinned (.plain (OpenSpec.upto fnExactReadBatchSpec)) fnExactReadBatchUptoCard

/-- THE SECOND FORM's CARD OF 'laws.FnBatchText'. -/
def fnBatchTextUptoCard : Claim7 := { stood := { row := fnBatchTextUptoRow, standIns := [], harness := (true, "2170f76b796b85e5d95ab1526912879b2bb7bcca0941380d51ae6ad6fc23a701"), looks := true }, kinds := [], alts := [], laidByText := true, laidKinds := [.data, .data, .data, .data, .sentinel, .sentinel, .pinned], laidTests := true, laidLooks := .later }
def FnBatchTextUptoCardSaid : Prop := Claim7.holds Tryd.pinned (.plain (OpenSpec.upto fnBatchTextSpec)) fnBatchTextUptoCard
end Rows
end Go.Proofs.YtdjknkmifaomgaaDoor
