/-
  DERIVED. GIVEN WITH THE SEED: THE CARDS: each row of YtekignklnakkaaaGreatDoorRows.lean that lists a variable, with what it lists TIED to the program's text (the seventh form; the later family's looks); each row that meets fmt, with fmt's text TOLD by the authors' own Lean function (tested against real Go, not proved from fmt's source: count such statements apart). THE CARD IS WHAT COUNTS. Prove the row's statement (the work); the ties are given (YtekignklnakkaaaGreatDoorTie.lean); close each card by the builder's one call (the guide's Derived/Test/ToyasCard.lean, 'card_holds'). Laid BY PROGRAM, IN A SANDBOX (cutbox-door.mjs). By AI agents, Wed Nov 11 2026. No macro, syntax, notation, axiom, sorry.
-/
import Derived.Test.YtekignklnakkaaaGreatDoorRows
import GoSem.ClaimSeven
namespace Go.Proofs.YtekignklnakkaaaGreatDoor
namespace Rows

/-- THE TIED CARD OF 'laws.FnExactSurvivesDamage'. -/
def fnExactSurvivesDamageCard : Claim7 := { stood := { row := fnExactSurvivesDamageRow, standIns := [], harness := (true, "87fd8c5f967eebfae61c977cf0d87195266844ff3181f880dda08d3ec533ab28"), looks := true }, kinds := [], alts := [], laidByText := true, laidKinds := [.handle], laidTests := true, laidLooks := .later }
def FnExactSurvivesDamageCardSaid : Prop := Claim7.holds Tryz.pinned (.plain (OpenSpec.ofChange fnExactSurvivesDamageSpec)) fnExactSurvivesDamageCard

/-- THE TIED CARD OF 'laws.FnDamagedElements'. -/
def fnDamagedElementsCard : Claim7 := { stood := { row := fnDamagedElementsRow, standIns := [], harness := (true, "87fd8c5f967eebfae61c977cf0d87195266844ff3181f880dda08d3ec533ab28"), looks := true }, kinds := [], alts := [], laidByText := true, laidKinds := [.handle], laidTests := true, laidLooks := .later }
def FnDamagedElementsCardSaid : Prop := Claim7.holds Tryz.pinned (.plain (OpenSpec.ofChange fnDamagedElementsSpec)) fnDamagedElementsCard

/-- THE TIED CARD OF 'laws.FnExactStreamOf'. -/
def fnExactStreamOfCard : Claim7 := { stood := { row := fnExactStreamOfRow, standIns := [], harness := (true, "87fd8c5f967eebfae61c977cf0d87195266844ff3181f880dda08d3ec533ab28"), looks := true }, kinds := [], alts := [], laidByText := true, laidKinds := [.handle], laidTests := true, laidLooks := .later }
def FnExactStreamOfCardSaid : Prop := Claim7.holds Tryz.pinned (.plain (OpenSpec.ofChange fnExactStreamOfSpec)) fnExactStreamOfCard

/-- THE TIED CARD OF 'laws.FnExactDamagedElements'. -/
def fnExactDamagedElementsCard : Claim7 := { stood := { row := fnExactDamagedElementsRow, standIns := [], harness := (true, "87fd8c5f967eebfae61c977cf0d87195266844ff3181f880dda08d3ec533ab28"), looks := true }, kinds := [], alts := [], laidByText := true, laidKinds := [.handle], laidTests := true, laidLooks := .later }
def FnExactDamagedElementsCardSaid : Prop := Claim7.holds Tryz.pinned (.plain (OpenSpec.ofChange fnExactDamagedElementsSpec)) fnExactDamagedElementsCard

/-- THE SECOND FORM's CARD OF 'laws.FnExactSurvivesDamage'. -/
def fnExactSurvivesDamageUptoCard : Claim7 := { stood := { row := fnExactSurvivesDamageUptoRow, standIns := [], harness := (true, "87fd8c5f967eebfae61c977cf0d87195266844ff3181f880dda08d3ec533ab28"), looks := true }, kinds := [], alts := [], laidByText := true, laidKinds := [.handle], laidTests := true, laidLooks := .later }
def FnExactSurvivesDamageUptoCardSaid : Prop := Claim7.holds Tryz.pinned (.plain (OpenSpec.upto fnExactSurvivesDamageSpec)) fnExactSurvivesDamageUptoCard

/-- THE SECOND FORM's CARD OF 'laws.FnDamagedElements'. -/
def fnDamagedElementsUptoCard : Claim7 := { stood := { row := fnDamagedElementsUptoRow, standIns := [], harness := (true, "87fd8c5f967eebfae61c977cf0d87195266844ff3181f880dda08d3ec533ab28"), looks := true }, kinds := [], alts := [], laidByText := true, laidKinds := [.handle], laidTests := true, laidLooks := .later }
def FnDamagedElementsUptoCardSaid : Prop := Claim7.holds Tryz.pinned (.plain (OpenSpec.upto fnDamagedElementsSpec)) fnDamagedElementsUptoCard

/-- THE SECOND FORM's CARD OF 'laws.FnExactStreamOf'. -/
def fnExactStreamOfUptoCard : Claim7 := { stood := { row := fnExactStreamOfUptoRow, standIns := [], harness := (true, "87fd8c5f967eebfae61c977cf0d87195266844ff3181f880dda08d3ec533ab28"), looks := true }, kinds := [], alts := [], laidByText := true, laidKinds := [.handle], laidTests := true, laidLooks := .later }
def FnExactStreamOfUptoCardSaid : Prop := Claim7.holds Tryz.pinned (.plain (OpenSpec.upto fnExactStreamOfSpec)) fnExactStreamOfUptoCard

/-- THE SECOND FORM's CARD OF 'laws.FnExactDamagedElements'. -/
def fnExactDamagedElementsUptoCard : Claim7 := { stood := { row := fnExactDamagedElementsUptoRow, standIns := [], harness := (true, "87fd8c5f967eebfae61c977cf0d87195266844ff3181f880dda08d3ec533ab28"), looks := true }, kinds := [], alts := [], laidByText := true, laidKinds := [.handle], laidTests := true, laidLooks := .later }
def FnExactDamagedElementsUptoCardSaid : Prop := Claim7.holds Tryz.pinned (.plain (OpenSpec.upto fnExactDamagedElementsSpec)) fnExactDamagedElementsUptoCard
end Rows
end Go.Proofs.YtekignklnakkaaaGreatDoor
