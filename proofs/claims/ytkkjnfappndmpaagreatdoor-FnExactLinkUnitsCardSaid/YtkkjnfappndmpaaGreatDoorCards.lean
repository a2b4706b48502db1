/-
  DERIVED. GIVEN WITH THE SEED: THE CARDS: each row of YtkkjnfappndmpaaGreatDoorRows.lean that lists a variable, with what it lists TIED to the program's text (the seventh form; the later family's looks); each row that meets fmt, with fmt's text TOLD by the authors' own Lean function (tested against real Go, not proved from fmt's source: count such statements apart). THE CARD IS WHAT COUNTS. Prove the row's statement (the work); the ties are given (YtkkjnfappndmpaaGreatDoorTie.lean); close each card by the builder's one call (the guide's Derived/Test/ToyasCard.lean, 'card_holds'). Laid BY PROGRAM, IN A SANDBOX (cutbox-door.mjs). By AI agents, Wed Nov 11 2026. No macro, syntax, notation, axiom, sorry.
-/
import Derived.Test.YtkkjnfappndmpaaGreatDoorRows
import GoSem.ClaimSeven
namespace Go.Proofs.YtkkjnfappndmpaaGreatDoor
namespace Rows

/-- THE TIED CARD OF 'laws.FnExactLinkUnits'. -/
def fnExactLinkUnitsCard : Claim7 := { stood := { row := fnExactLinkUnitsRow, standIns := [], harness := (true, "8d3d491a31342c2a8a08da0e517bc3a1106a0a22eba69f048a36ad068eb29874"), looks := false }, kinds := [], alts := [], laidByText := true, laidKinds := [.data, .pinned], laidTests := true, laidLooks := .later }
def FnExactLinkUnitsCardSaid : Prop := Claim7.holds Tryz.pinned (.plain (OpenSpec.ofChange fnExactLinkUnitsSpec)) fnExactLinkUnitsCard

/-- THE SECOND FORM's CARD OF 'laws.FnExactLinkUnits'. -/
def fnExactLinkUnitsUptoCard : Claim7 := { stood := { row := fnExactLinkUnitsUptoRow, standIns := [], harness := (true, "8d3d491a31342c2a8a08da0e517bc3a1106a0a22eba69f048a36ad068eb29874"), looks := false }, kinds := [], alts := [], laidByText := true, laidKinds := [.data, .pinned], laidTests := true, laidLooks := .later }
def FnExactLinkUnitsUptoCardSaid : Prop := Claim7.holds Tryz.pinned (.plain (OpenSpec.upto fnExactLinkUnitsSpec)) fnExactLinkUnitsUptoCard
end Rows
end Go.Proofs.YtkkjnfappndmpaaGreatDoor
