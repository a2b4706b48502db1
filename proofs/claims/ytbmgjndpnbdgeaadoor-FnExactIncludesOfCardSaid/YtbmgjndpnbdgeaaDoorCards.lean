/-
  DERIVED. GIVEN WITH THE SEED: THE CARDS: each row of YtbmgjndpnbdgeaaDoorRows.lean that lists a variable, with what it lists TIED to the program's text (the seventh form; the later family's looks); each row that meets fmt, with fmt's text TOLD by the authors' own Lean function (tested against real Go, not proved from fmt's source: count such statements apart). THE CARD IS WHAT COUNTS. Prove the row's statement (the work); the ties are given (YtbmgjndpnbdgeaaDoorTie.lean); close each card by the builder's one call (the guide's Derived/Test/ToyasCard.lean, 'card_holds'). Laid BY PROGRAM, IN A SANDBOX (cutbox-door.mjs). By AI agents, Wed Nov 11 2026. No macro, syntax, notation, axiom, sorry.
-/
import Derived.Test.YtbmgjndpnbdgeaaDoorRows
import GoSem.ClaimSeven
namespace Go.Proofs.YtbmgjndpnbdgeaaDoor
namespace Rows

/-- THE TIED CARD OF 'laws.FnExactIncludesOf'. -/
def fnExactIncludesOfCard : Claim7 := { stood := { row := fnExactIncludesOfRow, standIns := [], harness := (true, "b403141636ad55668bf2100e2d83bc2734f2de01926a296f17971d2ac7467bfb"), looks := false }, kinds := [], alts := [], laidByText := true, laidKinds := [.data, .pinned], laidTests := true, laidLooks := .later }
def FnExactIncludesOfCardSaid : Prop := Claim7.holds Tryd.pinned (.plain (OpenSpec.ofChange fnExactIncludesOfSpec)) fnExactIncludesOfCard

/-- THE SECOND FORM's CARD OF 'laws.FnExactIncludesOf'. -/
def fnExactIncludesOfUptoCard : Claim7 := { stood := { row := fnExactIncludesOfUptoRow, standIns := [], harness := (true, "b403141636ad55668bf2100e2d83bc2734f2de01926a296f17971d2ac7467bfb"), looks := false }, kinds := [], alts := [], laidByText := true, laidKinds := [.data, .pinned], laidTests := true, laidLooks := .later }
def FnExactIncludesOfUptoCardSaid : Prop := Claim7.holds Tryd.pinned (.plain (OpenSpec.upto fnExactIncludesOfSpec)) fnExactIncludesOfUptoCard
end Rows
end Go.Proofs.YtbmgjndpnbdgeaaDoor
