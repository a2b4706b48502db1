/-
  DERIVED. GIVEN WITH THE SEED: THE CARDS: each row of YtgbeenieacnanaaDoorRows.lean that lists a variable, with what it lists TIED to the program's text (the seventh form; the later family's looks); each row that meets fmt, with fmt's text TOLD by the authors' own Lean function (tested against real Go, not proved from fmt's source: count such statements apart). THE CARD IS WHAT COUNTS. Prove the row's statement (the work); the ties are given (YtgbeenieacnanaaDoorTie.lean); close each card by the builder's one call (the guide's Derived/Test/ToyasCard.lean, 'card_holds'). Laid BY PROGRAM, IN A SANDBOX (cutbox-door.mjs). By AI agents, Wed Nov 11 2026. No macro, syntax, notation, axiom, sorry.
-/
import Derived.Test.YtgbeenieacnanaaDoorRows
import GoSem.ClaimSeven
namespace Go.Proofs.YtgbeenieacnanaaDoor
namespace Rows

/-- THE TIED CARD OF 'laws.FnExactIndexValue'. -/
def fnExactIndexValueCard : Claim7 := { stood := { row := fnExactIndexValueRow, standIns := [], harness := (true, "5d54cd506b4e857d721d991926bbf6b302d0d6ac88292ffc2b94b288a5bf4593"), looks := true }, kinds := [], alts := [], laidByText := true, laidKinds := [.data, .data, .data, .sentinel, .sentinel], laidTests := true, laidLooks := .later }
def FnExactIndexValueCardSaid : Prop := Claim7.holds Tryd.pinned (.plain (OpenSpec.ofChange fnExactIndexValueSpec)) fnExactIndexValueCard

/-- THE TIED CARD OF 'laws.FnExactAreVars'. -/
def fnExactAreVarsCard : Claim7 := { stood := { row := fnExactAreVarsRow, standIns := [], harness := (true, "5d54cd506b4e857d721d991926bbf6b302d0d6ac88292ffc2b94b288a5bf4593"), looks := true }, kinds := [], alts := [], laidByText := true, laidKinds := [.data, .data, .data, .sentinel, .sentinel], laidTests := true, laidLooks := .later }
def FnExactAreVarsCardSaid : Prop := Claim7.holds Tryd.pinned (.plain (OpenSpec.ofChange fnExactAreVarsSpec)) fnExactAreVarsCard

/-- THE SECOND FORM's CARD OF 'laws.FnExactIndexValue'. -/
def fnExactIndexValueUptoCard : Claim7 := { stood := { row := fnExactIndexValueUptoRow, standIns := [], harness := (true, "5d54cd506b4e857d721d991926bbf6b302d0d6ac88292ffc2b94b288a5bf4593"), looks := true }, kinds := [], alts := [], laidByText := true, laidKinds := [.data, .data, .data, .sentinel, .sentinel], laidTests := true, laidLooks := .later }
def FnExactIndexValueUptoCardSaid : Prop := Claim7.holds Tryd.pinned (.plain (OpenSpec.upto fnExactIndexValueSpec)) fnExactIndexValueUptoCard

/-- THE SECOND FORM's CARD OF 'laws.FnExactAreVars'. -/
def fnExactAreVarsUptoCard : Claim7 := { stood := { row := fnExactAreVarsUptoRow, standIns := [], harness := (true, "5d54cd506b4e857d721d991926bbf6b302d0d6ac88292ffc2b94b288a5bf4593"), looks := true }, kinds := [], alts := [], laidByText := true, laidKinds := [.data, .data, .data, .sentinel, .sentinel], laidTests := true, laidLooks := .later }
def FnExactAreVarsUptoCardSaid : Prop := Claim7.holds Tryd.pinned (.plain (OpenSpec.upto fnExactAreVarsSpec)) fnExactAreVarsUptoCard
end Rows
end Go.Proofs.YtgbeenieacnanaaDoor
