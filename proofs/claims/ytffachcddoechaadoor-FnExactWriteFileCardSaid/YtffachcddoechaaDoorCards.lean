/-
  DERIVED. GIVEN WITH THE SEED: THE CARDS: each row of YtffachcddoechaaDoorRows.lean that lists a variable, with what it lists TIED to the program's text (the seventh form; the later family's looks); each row that meets fmt, with fmt's text TOLD by the authors' own Lean function (tested against real Go, not proved from fmt's source: count such statements apart). THE CARD IS WHAT COUNTS. Prove the row's statement (the work); the ties are given (YtffachcddoechaaDoorTie.lean); close each card by the builder's one call (the guide's Derived/Test/ToyasCard.lean, 'card_holds'). Laid BY PROGRAM, IN A SANDBOX (cutbox-door.mjs). By AI agents, Wed Nov 11 2026. No macro, syntax, notation, axiom, sorry.
-/
import Derived.Test.YtffachcddoechaaDoorRows
import GoSem.ClaimSeven
namespace Go.Proofs.YtffachcddoechaaDoor
namespace Rows

/-- THE TIED CARD OF 'laws.FnExactSplitPath'. -/
def fnExactSplitPathCard : Claim7 := { stood := { row := fnExactSplitPathRow, standIns := [], harness := (true, "b113659a69687d0aa70988503caa45938c112030a21b97400d56c2ea457c8e1e"), looks := false }, kinds := [], alts := [], laidByText := true, laidKinds := [.data, .pinned], laidTests := true, laidLooks := .later }
def FnExactSplitPathCardSaid : Prop := Claim7.holds Tryd.pinned (.plain (OpenSpec.ofChange fnExactSplitPathSpec)) fnExactSplitPathCard

/-- THE TIED CARD OF 'laws.FnExactNormalPath'. -/
def fnExactNormalPathCard : Claim7 := { stood := { row := fnExactNormalPathRow, standIns := [], harness := (true, "b113659a69687d0aa70988503caa45938c112030a21b97400d56c2ea457c8e1e"), looks := false }, kinds := [], alts := [], laidByText := true, laidKinds := [.data, .pinned], laidTests := true, laidLooks := .later }
def FnExactNormalPathCardSaid : Prop := Claim7.holds Tryd.pinned (.plain (OpenSpec.ofChange fnExactNormalPathSpec)) fnExactNormalPathCard

/-- THE TIED CARD OF 'laws.FnExactIsNormal'. -/
def fnExactIsNormalCard : Claim7 := { stood := { row := fnExactIsNormalRow, standIns := [], harness := (true, "b113659a69687d0aa70988503caa45938c112030a21b97400d56c2ea457c8e1e"), looks := false }, kinds := [], alts := [], laidByText := true, laidKinds := [.data, .pinned], laidTests := true, laidLooks := .later }
def FnExactIsNormalCardSaid : Prop := Claim7.holds Tryd.pinned (.plain (OpenSpec.ofChange fnExactIsNormalSpec)) fnExactIsNormalCard

/-- THE TIED CARD OF 'laws.FnExactFindFile'. -/
def fnExactFindFileCard : Claim7 := { stood := { row := fnExactFindFileRow, standIns := [], harness := (true, "b113659a69687d0aa70988503caa45938c112030a21b97400d56c2ea457c8e1e"), looks := false }, kinds := [], alts := [], laidByText := true, laidKinds := [.data, .pinned], laidTests := true, laidLooks := .later }
def FnExactFindFileCardSaid : Prop := Claim7.holds Tryd.pinned (.plain (OpenSpec.ofChange fnExactFindFileSpec)) fnExactFindFileCard

/-- THE TIED CARD OF 'laws.FnExactIsSite'. -/
def fnExactIsSiteCard : Claim7 := { stood := { row := fnExactIsSiteRow, standIns := [], harness := (true, "b113659a69687d0aa70988503caa45938c112030a21b97400d56c2ea457c8e1e"), looks := false }, kinds := [], alts := [], laidByText := true, laidKinds := [.data, .pinned], laidTests := true, laidLooks := .later }
def FnExactIsSiteCardSaid : Prop := Claim7.holds Tryd.pinned (.plain (OpenSpec.ofChange fnExactIsSiteSpec)) fnExactIsSiteCard

/-- THE TIED CARD OF 'laws.FnExactWriteFile'. -/
def fnExactWriteFileCard : Claim7 := { stood := { row := fnExactWriteFileRow, standIns := [], harness := (true, "b113659a69687d0aa70988503caa45938c112030a21b97400d56c2ea457c8e1e"), looks := false }, kinds := [], alts := [], laidByText := true, laidKinds := [.data, .pinned], laidTests := true, laidLooks := .later }
def FnExactWriteFileCardSaid : Prop := Claim7.holds Tryd.pinned (.plain (OpenSpec.ofChange fnExactWriteFileSpec)) fnExactWriteFileCard

/-- THE TIED CARD OF 'laws.FnFiles'. -/
def fnFilesCard : Claim7 := { stood := { row := fnFilesRow, standIns := [], harness := (true, "b113659a69687d0aa70988503caa45938c112030a21b97400d56c2ea457c8e1e"), looks := false }, kinds := [], alts := [], laidByText := true, laidKinds := [.data, .pinned], laidTests := true, laidLooks := .later }
def FnFilesCardSaid : Prop := Claim7.holds Tryd.pinned (.plain (OpenSpec.ofChange fnFilesSpec)) fnFilesCard

/-- THE SECOND FORM's CARD OF 'laws.FnExactSplitPath'. -/
def fnExactSplitPathUptoCard : Claim7 := { stood := { row := fnExactSplitPathUptoRow, standIns := [], harness := (true, "b113659a69687d0aa70988503caa45938c112030a21b97400d56c2ea457c8e1e"), looks := false }, kinds := [], alts := [], laidByText := true, laidKinds := [.data, .pinned], laidTests := true, laidLooks := .later }
def FnExactSplitPathUptoCardSaid : Prop := Claim7.holds Tryd.pinned (.plain (OpenSpec.upto fnExactSplitPathSpec)) fnExactSplitPathUptoCard

/-- THE SECOND FORM's CARD OF 'laws.FnExactNormalPath'. -/
def fnExactNormalPathUptoCard : Claim7 := { stood := { row := fnExactNormalPathUptoRow, standIns := [], harness := (true, "b113659a69687d0aa70988503caa45938c112030a21b97400d56c2ea457c8e1e"), looks := false }, kinds := [], alts := [], laidByText := true, laidKinds := [.data, .pinned], laidTests := true, laidLooks := .later }
def FnExactNormalPathUptoCardSaid : Prop := Claim7.holds Tryd.pinned (.plain (OpenSpec.upto fnExactNormalPathSpec)) fnExactNormalPathUptoCard

/-- THE SECOND FORM's CARD OF 'laws.FnExactIsNormal'. -/
def fnExactIsNormalUptoCard : Claim7 := { stood := { row := fnExactIsNormalUptoRow, standIns := [], harness := (true, "b113659a69687d0aa70988503caa45938c112030a21b97400d56c2ea457c8e1e"), looks := false }, kinds := [], alts := [], laidByText := true, laidKinds := [.data, .pinned], laidTests := true, laidLooks := .later }
def FnExactIsNormalUptoCardSaid : Prop := Claim7.holds Tryd.pinned (.plain (OpenSpec.upto fnExactIsNormalSpec)) fnExactIsNormalUptoCard

/-- THE SECOND FORM's CARD OF 'laws.FnExactFindFile'. -/
def fnExactFindFileUptoCard : Claim7 := { stood := { row := fnExactFindFileUptoRow, standIns := [], harness := (true, "b113659a69687d0aa70988503caa45938c112030a21b97400d56c2ea457c8e1e"), looks := false }, kinds := [], alts := [], laidByText := true, laidKinds := [.data, .pinned], laidTests := true, laidLooks := .later }
def FnExactFindFileUptoCardSaid : Prop := Claim7.holds Tryd.pinned (.plain (OpenSpec.upto fnExactFindFileSpec)) fnExactFindFileUptoCard

/-- THE SECOND FORM's CARD OF 'laws.FnExactIsSite'. -/
def fnExactIsSiteUptoCard : Claim7 := { stood := { row := fnExactIsSiteUptoRow, standIns := [], harness := (true, "b113659a69687d0aa70988503caa45938c112030a21b97400d56c2ea457c8e1e"), looks := false }, kinds := [], alts := [], laidByText := true, laidKinds := [.data, .pinned], laidTests := true, laidLooks := .later }
def FnExactIsSiteUptoCardSaid : Prop := Claim7.holds Tryd.pinned (.plain (OpenSpec.upto fnExactIsSiteSpec)) fnExactIsSiteUptoCard

/-- THE SECOND FORM's CARD OF 'laws.FnExactWriteFile'. -/
def fnExactWriteFileUptoCard : Claim7 := { stood := { row := fnExactWriteFileUptoRow, standIns := [], harness := (true, "b113659a69687d0aa70988503caa45938c112030a21b97400d56c2ea457c8e1e"), looks := false }, kinds := [], alts := [], laidByText := true, laidKinds := [.data, .pinned], laidTests := true, laidLooks := .later }
def FnExactWriteFileUptoCardSaid : Prop := Claim7.holds Tryd.pinned (.plain (OpenSpec.upto fnExactWriteFileSpec)) fnExactWriteFileUptoCard

/-- THE SECOND FORM's CARD OF 'laws.FnFiles'. -/
def fnFilesUptoCard : Claim7 := { stood := { row := fnFilesUptoRow, standIns := [], harness := (true, "b113659a69687d0aa70988503caa45938c112030a21b97400d56c2ea457c8e1e"), looks := false }, kinds := [], alts := [], laidByText := true, laidKinds := [.data, .pinned], laidTests := true, laidLooks := .later }
def FnFilesUptoCardSaid : Prop := Claim7.holds Tryd.pinned (.plain (OpenSpec.upto fnFilesSpec)) fnFilesUptoCard
end Rows
end Go.Proofs.YtffachcddoechaaDoor
