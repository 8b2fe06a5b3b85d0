/-
  DERIVED. GIVEN WITH THE SEED: THE CARDS: each row of YtojdediohjghnaaGreatDoorRows.lean that lists a variable, with what it lists TIED to the program's text (the seventh form; the later family's looks); each row that meets fmt, with fmt's text TOLD by the authors' own Lean function (tested against real Go, not proved from fmt's source: count such statements apart). THE CARD IS WHAT COUNTS. Prove the row's statement (the work); the ties are given (YtojdediohjghnaaGreatDoorTie.lean); close each card by the builder's one call (the guide's Derived/Test/ToyasCard.lean, 'card_holds'). Laid BY PROGRAM, IN A SANDBOX (cutbox-door.mjs). By AI agents, Wed Nov 11 2026. No macro, syntax, notation, axiom, sorry.
-/
import Derived.Test.YtojdediohjghnaaGreatDoorRows
import GoSem.ClaimSeven
namespace Go.Proofs.YtojdediohjghnaaGreatDoor
namespace Rows

/-- THE TIED CARD OF 'laws.FnExactSurvivesDamage'. -/
def fnExactSurvivesDamageCard : Claim7 := { stood := { row := fnExactSurvivesDamageRow, standIns := [], harness := (true, "ea2456bde718d816dfe33c97dd00bbb33207e41711c553cf984e56ebaf179dbe"), looks := true }, kinds := [], alts := [], laidByText := true, laidKinds := [.handle], laidTests := true, laidLooks := .later }
def FnExactSurvivesDamageCardSaid : Prop := Claim7.holds Tryz.pinned (.plain (OpenSpec.ofChange fnExactSurvivesDamageSpec)) fnExactSurvivesDamageCard

/-- THE TIED CARD OF 'laws.FnDamagedElements'. -/
def fnDamagedElementsCard : Claim7 := { stood := { row := fnDamagedElementsRow, standIns := [], harness := (true, "ea2456bde718d816dfe33c97dd00bbb33207e41711c553cf984e56ebaf179dbe"), looks := true }, kinds := [], alts := [], laidByText := true, laidKinds := [.handle], laidTests := true, laidLooks := .later }
def FnDamagedElementsCardSaid : Prop := Claim7.holds Tryz.pinned (.plain (OpenSpec.ofChange fnDamagedElementsSpec)) fnDamagedElementsCard

/-- THE SECOND FORM's CARD OF 'laws.FnExactSurvivesDamage'. -/
def fnExactSurvivesDamageUptoCard : Claim7 := { stood := { row := fnExactSurvivesDamageUptoRow, standIns := [], harness := (true, "ea2456bde718d816dfe33c97dd00bbb33207e41711c553cf984e56ebaf179dbe"), looks := true }, kinds := [], alts := [], laidByText := true, laidKinds := [.handle], laidTests := true, laidLooks := .later }
def FnExactSurvivesDamageUptoCardSaid : Prop := Claim7.holds Tryz.pinned (.plain (OpenSpec.upto fnExactSurvivesDamageSpec)) fnExactSurvivesDamageUptoCard

/-- THE SECOND FORM's CARD OF 'laws.FnDamagedElements'. -/
def fnDamagedElementsUptoCard : Claim7 := { stood := { row := fnDamagedElementsUptoRow, standIns := [], harness := (true, "ea2456bde718d816dfe33c97dd00bbb33207e41711c553cf984e56ebaf179dbe"), looks := true }, kinds := [], alts := [], laidByText := true, laidKinds := [.handle], laidTests := true, laidLooks := .later }
def FnDamagedElementsUptoCardSaid : Prop := Claim7.holds Tryz.pinned (.plain (OpenSpec.upto fnDamagedElementsSpec)) fnDamagedElementsUptoCard
end Rows
end Go.Proofs.YtojdediohjghnaaGreatDoor
