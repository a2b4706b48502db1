/-
  DERIVED. GIVEN WITH THE SEED: THE CARDS: each row of YtdmbhmhfjappcaaGreatDoorRows.lean that lists a variable, with what it lists TIED to the program's text (the seventh form; the later family's looks); each row that meets fmt, with fmt's text TOLD by the authors' own Lean function (tested against real Go, not proved from fmt's source: count such statements apart). THE CARD IS WHAT COUNTS. Prove the row's statement (the work); the ties are given (YtdmbhmhfjappcaaGreatDoorTie.lean); close each card by the builder's one call (the guide's Derived/Test/ToyasCard.lean, 'card_holds'). Laid BY PROGRAM, IN A SANDBOX (cutbox-door.mjs). By AI agents, Wed Nov 11 2026. No macro, syntax, notation, axiom, sorry.
-/
import Derived.Test.YtdmbhmhfjappcaaGreatDoorRows
import GoSem.ClaimSeven
namespace Go.Proofs.YtdmbhmhfjappcaaGreatDoor
namespace Rows

/-- THE TIED CARD OF 'laws.FnExactIsProgram'. -/
def fnExactIsProgramCard : Claim7 := { stood := { row := fnExactIsProgramRow, standIns := [], harness := (true, "e099e69654039b37c478cd323e9e498bbc2b145ae92ae62a09c1a7fad81624db"), looks := true }, kinds := [], alts := [], laidByText := true, laidKinds := [.data, .data, .data, .sentinel, .sentinel], laidTests := true, laidLooks := .later }
def FnExactIsProgramCardSaid : Prop := Claim7.holds Tryz.pinned (.plain (OpenSpec.ofChange fnExactIsProgramSpec)) fnExactIsProgramCard

/-- THE SECOND FORM's CARD OF 'laws.FnExactIsProgram'. -/
def fnExactIsProgramUptoCard : Claim7 := { stood := { row := fnExactIsProgramUptoRow, standIns := [], harness := (true, "e099e69654039b37c478cd323e9e498bbc2b145ae92ae62a09c1a7fad81624db"), looks := true }, kinds := [], alts := [], laidByText := true, laidKinds := [.data, .data, .data, .sentinel, .sentinel], laidTests := true, laidLooks := .later }
def FnExactIsProgramUptoCardSaid : Prop := Claim7.holds Tryz.pinned (.plain (OpenSpec.upto fnExactIsProgramSpec)) fnExactIsProgramUptoCard
end Rows
end Go.Proofs.YtdmbhmhfjappcaaGreatDoor
