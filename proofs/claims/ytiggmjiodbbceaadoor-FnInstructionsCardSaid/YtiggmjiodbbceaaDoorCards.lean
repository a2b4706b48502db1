/-
  DERIVED. GIVEN WITH THE SEED: THE CARDS: each row of YtiggmjiodbbceaaDoorRows.lean that lists a variable, with what it lists TIED to the program's text (the seventh form; the later family's looks); each row that meets fmt, with fmt's text TOLD by the authors' own Lean function (tested against real Go, not proved from fmt's source: count such statements apart). THE CARD IS WHAT COUNTS. Prove the row's statement (the work); the ties are given (YtiggmjiodbbceaaDoorTie.lean); close each card by the builder's one call (the guide's Derived/Test/ToyasCard.lean, 'card_holds'). Laid BY PROGRAM, IN A SANDBOX (cutbox-door.mjs). By AI agents, Wed Nov 11 2026. No macro, syntax, notation, axiom, sorry.
-/
import Derived.Test.YtiggmjiodbbceaaDoorRows
import GoSem.ClaimSeven
namespace Go.Proofs.YtiggmjiodbbceaaDoor
namespace Rows

/-- THE TIED CARD OF 'laws.FnExactInsName'. -/
def fnExactInsNameCard : Claim7 := { stood := { row := fnExactInsNameRow, standIns := [], harness := (true, "a88a26dc5ba837cc723deeb28d8407dc4e19141f3428d57305b97b914c0e3569"), looks := false }, kinds := [], alts := [], laidByText := true, laidKinds := [.listed, .data], laidTests := true, laidLooks := .later }
def FnExactInsNameCardSaid : Prop := Claim7.holds Tryd.pinned (.plain (OpenSpec.ofChange fnExactInsNameSpec)) fnExactInsNameCard

/-- THE TIED CARD OF 'laws.FnExactInsLine'. -/
def fnExactInsLineCard : Claim7 := { stood := { row := fnExactInsLineRow, standIns := [], harness := (true, "a88a26dc5ba837cc723deeb28d8407dc4e19141f3428d57305b97b914c0e3569"), looks := false }, kinds := [], alts := [], laidByText := true, laidKinds := [.data, .data, .data, .listed, .data], laidTests := true, laidLooks := .later }
def FnExactInsLineCardSaid : Prop := Claim7.holds Tryd.pinned (.plain (OpenSpec.ofChange fnExactInsLineSpec)) fnExactInsLineCard

/-- THE TIED CARD OF 'laws.FnInstructions'. -/
def fnInstructionsCard : Claim7 := { stood := { row := fnInstructionsRow, standIns := [], harness := (true, "a88a26dc5ba837cc723deeb28d8407dc4e19141f3428d57305b97b914c0e3569"), looks := false }, kinds := [], alts := [], laidByText := true, laidKinds := [.data, .data, .data, .listed, .data], laidTests := true, laidLooks := .later }
def FnInstructionsCardSaid : Prop := Claim7.holds Tryd.pinned (.plain (OpenSpec.ofChange fnInstructionsSpec)) fnInstructionsCard

/-- THE TIED CARD OF 'laws.FnExactCodeText'. -/
def fnExactCodeTextCard : Claim7 := { stood := { row := fnExactCodeTextRow, standIns := [], harness := (true, "a88a26dc5ba837cc723deeb28d8407dc4e19141f3428d57305b97b914c0e3569"), looks := false }, kinds := [], alts := [], laidByText := true, laidKinds := [.data, .data, .data, .listed, .data], laidTests := true, laidLooks := .later }
def FnExactCodeTextCardSaid : Prop := Claim7.holds Tryd.pinned (.plain (OpenSpec.ofChange fnExactCodeTextSpec)) fnExactCodeTextCard

/-- THE SECOND FORM's CARD OF 'laws.FnExactInsName'. -/
def fnExactInsNameUptoCard : Claim7 := { stood := { row := fnExactInsNameUptoRow, standIns := [], harness := (true, "a88a26dc5ba837cc723deeb28d8407dc4e19141f3428d57305b97b914c0e3569"), looks := false }, kinds := [], alts := [], laidByText := true, laidKinds := [.listed, .data], laidTests := true, laidLooks := .later }
def FnExactInsNameUptoCardSaid : Prop := Claim7.holds Tryd.pinned (.plain (OpenSpec.upto fnExactInsNameSpec)) fnExactInsNameUptoCard

/-- THE SECOND FORM's CARD OF 'laws.FnExactInsLine'. -/
def fnExactInsLineUptoCard : Claim7 := { stood := { row := fnExactInsLineUptoRow, standIns := [], harness := (true, "a88a26dc5ba837cc723deeb28d8407dc4e19141f3428d57305b97b914c0e3569"), looks := false }, kinds := [], alts := [], laidByText := true, laidKinds := [.data, .data, .data, .listed, .data], laidTests := true, laidLooks := .later }
def FnExactInsLineUptoCardSaid : Prop := Claim7.holds Tryd.pinned (.plain (OpenSpec.upto fnExactInsLineSpec)) fnExactInsLineUptoCard

/-- THE SECOND FORM's CARD OF 'laws.FnInstructions'. -/
def fnInstructionsUptoCard : Claim7 := { stood := { row := fnInstructionsUptoRow, standIns := [], harness := (true, "a88a26dc5ba837cc723deeb28d8407dc4e19141f3428d57305b97b914c0e3569"), looks := false }, kinds := [], alts := [], laidByText := true, laidKinds := [.data, .data, .data, .listed, .data], laidTests := true, laidLooks := .later }
def FnInstructionsUptoCardSaid : Prop := Claim7.holds Tryd.pinned (.plain (OpenSpec.upto fnInstructionsSpec)) fnInstructionsUptoCard

/-- THE SECOND FORM's CARD OF 'laws.FnExactCodeText'. -/
def fnExactCodeTextUptoCard : Claim7 := { stood := { row := fnExactCodeTextUptoRow, standIns := [], harness := (true, "a88a26dc5ba837cc723deeb28d8407dc4e19141f3428d57305b97b914c0e3569"), looks := false }, kinds := [], alts := [], laidByText := true, laidKinds := [.data, .data, .data, .listed, .data], laidTests := true, laidLooks := .later }
def FnExactCodeTextUptoCardSaid : Prop := Claim7.holds Tryd.pinned (.plain (OpenSpec.upto fnExactCodeTextSpec)) fnExactCodeTextUptoCard
end Rows
end Go.Proofs.YtiggmjiodbbceaaDoor
