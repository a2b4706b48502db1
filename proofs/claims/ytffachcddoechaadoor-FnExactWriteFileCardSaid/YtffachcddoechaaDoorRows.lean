/-
  NARROWER THAN 'FOR EVERY INPUT', by the rows' own cells (each row's printed sentence says how): FnExactSplitPath: laid · FnExactNormalPath: laid · FnExactIsNormal: laid · FnExactFindFile: laid · FnExactIsSite: laid · FnExactWriteFile: laid · FnFiles: laid.
  DERIVED. THE GIVEN ROWS OF THIS SEAT. 7 by the template 'for every input the law returns true; each argument reads behind the call as it read before'; 0 by the template 'total and deterministic' (their statements: YtffachcddoechaaDoorTotals.lean).
  GIVEN WITH THE SEED: the statements are not yours to turn. If you find one false, say at which input.
  Laid BY PROGRAM, IN A SANDBOX (cutbox-rows.mjs): the forced cells as the released guide's own fill.sh prints them over the translation 74f74b3478134025… (all of the seat's roots in one cut). By AI agents, Wed Nov 11 2026. No macro, syntax, notation, axiom, sorry.
-/
import Derived.Test.YtffachcddoechaaDoorChecked
import GoSem.PinnedTables
import GoSem.Claim
import GoSem.ClaimJoined
import GoSem.ClaimMapViews
import Derived.JoinedTies
import Derived.KernelRfl
namespace Go.Proofs.YtffachcddoechaaDoor
/- THE CELL 'sum', in the pinned program and in every row, IS THE sha256 OF THE DUMP (.gsa) THAT YtffachcddoechaaDoorProg.lean LOADS. Nothing in Lean hashes anything: it is a label: what it is worth is what the hold of that sum in a sandbox is worth. -/
noncomputable def Tryd.pinned : Pinned := { name := "ytffachcddoechaadoor", sum := "74f74b3478134025a43bd11d8f189dcdd9ab22dbeaed3e73a6a7437723b9c4f7", checked := Tryd.checked }
namespace Rows
def none {H : Type} : Left H := { results := [], args := [] }

/- WHAT THE LISTED PACKAGE-LEVEL VARIABLES READ AS WHEN THE CALL BEGINS. Each datum BY PROGRAM (the guide's laid-datum.mjs) off the statement by which the dump's own 'gosem.cut.vars' lays the variable. In a bare row this is a premise. The card (YtffachcddoechaaDoorCards.lean) ties it to the program's text. -/
def laid_unicode_utf8_acceptRanges {H : Type} : DataW H := .agg [.agg [.lit (.int .u8 128), .lit (.int .u8 191)], .agg [.lit (.int .u8 160), .lit (.int .u8 191)], .agg [.lit (.int .u8 128), .lit (.int .u8 159)], .agg [.lit (.int .u8 144), .lit (.int .u8 191)], .agg [.lit (.int .u8 128), .lit (.int .u8 143)], .agg [.lit (.int .u8 0), .lit (.int .u8 0)], .agg [.lit (.int .u8 0), .lit (.int .u8 0)], .agg [.lit (.int .u8 0), .lit (.int .u8 0)], .agg [.lit (.int .u8 0), .lit (.int .u8 0)], .agg [.lit (.int .u8 0), .lit (.int .u8 0)], .agg [.lit (.int .u8 0), .lit (.int .u8 0)], .agg [.lit (.int .u8 0), .lit (.int .u8 0)], .agg [.lit (.int .u8 0), .lit (.int .u8 0)], .agg [.lit (.int .u8 0), .lit (.int .u8 0)], .agg [.lit (.int .u8 0), .lit (.int .u8 0)], .agg [.lit (.int .u8 0), .lit (.int .u8 0)]]
/-- One of Go's own tables, pinned by name: the form's constant. -/
def laid_unicode_utf8_first : DataW Unit := Go.Pinned.utf8First

/-- 'laws.FnExactSplitPath': WHATEVER THE INPUT: true; the input reads as it did. -/
def fnExactSplitPathSpec : ChangeSpec := { name := "fnExactSplitPath", fn := fun _ => fun
  | [d] => { results := [.lit (.bool true)], args := [d] }
  | _ => none }
def fnExactSplitPathRow : OpenClaim := { program := "ytffachcddoechaadoor", sum := "74f74b3478134025a43bd11d8f189dcdd9ab22dbeaed3e73a6a7437723b9c4f7", func := "loop.example/g03011/laws.FnExactSplitPath", spec := "fnExactSplitPath", inPlace := ["internal/bytealg.CountString", "internal/bytealg.IndexByteString", "internal/bytealg.IndexString"], named := ["unicode/utf8.first", "unicode/utf8.acceptRanges", "internal/bytealg.MaxLen"], apart := false, laid := [("unicode/utf8.acceptRanges", laid_unicode_utf8_acceptRanges), ("unicode/utf8.first", laid_unicode_utf8_first)] }
def FnExactSplitPathSaid : Prop := fnExactSplitPathRow.holds Tryd.pinned (OpenSpec.ofChange fnExactSplitPathSpec)

/-- ITS FALSE NEIGHBOUR: 'it returns false'. Refute it at one input. -/
def fnExactSplitPathWrong : ChangeSpec := { name := "fnExactSplitPath", fn := fun _ => fun
  | [d] => { results := [.lit (.bool false)], args := [d] }
  | _ => none }
def FnExactSplitPathWrongFalsely : Prop := fnExactSplitPathRow.holds Tryd.pinned (OpenSpec.ofChange fnExactSplitPathWrong)

/-- 'laws.FnExactNormalPath': WHATEVER THE INPUT: true; the input reads as it did. -/
def fnExactNormalPathSpec : ChangeSpec := { name := "fnExactNormalPath", fn := fun _ => fun
  | [d] => { results := [.lit (.bool true)], args := [d] }
  | _ => none }
def fnExactNormalPathRow : OpenClaim := { program := "ytffachcddoechaadoor", sum := "74f74b3478134025a43bd11d8f189dcdd9ab22dbeaed3e73a6a7437723b9c4f7", func := "loop.example/g03011/laws.FnExactNormalPath", spec := "fnExactNormalPath", inPlace := ["internal/bytealg.CountString", "internal/bytealg.IndexByteString", "internal/bytealg.IndexString", "internal/abi.NoEscape", "internal/bytealg.MakeNoZero"], named := ["unicode/utf8.first", "unicode/utf8.acceptRanges", "internal/bytealg.MaxLen"], apart := false, laid := [("unicode/utf8.acceptRanges", laid_unicode_utf8_acceptRanges), ("unicode/utf8.first", laid_unicode_utf8_first)] }
def FnExactNormalPathSaid : Prop := fnExactNormalPathRow.holds Tryd.pinned (OpenSpec.ofChange fnExactNormalPathSpec)

/-- ITS FALSE NEIGHBOUR: 'it returns false'. Refute it at one input. -/
def fnExactNormalPathWrong : ChangeSpec := { name := "fnExactNormalPath", fn := fun _ => fun
  | [d] => { results := [.lit (.bool false)], args := [d] }
  | _ => none }
def FnExactNormalPathWrongFalsely : Prop := fnExactNormalPathRow.holds Tryd.pinned (OpenSpec.ofChange fnExactNormalPathWrong)

/-- 'laws.FnExactIsNormal': WHATEVER THE INPUT: true; the input reads as it did. -/
def fnExactIsNormalSpec : ChangeSpec := { name := "fnExactIsNormal", fn := fun _ => fun
  | [d] => { results := [.lit (.bool true)], args := [d] }
  | _ => none }
def fnExactIsNormalRow : OpenClaim := { program := "ytffachcddoechaadoor", sum := "74f74b3478134025a43bd11d8f189dcdd9ab22dbeaed3e73a6a7437723b9c4f7", func := "loop.example/g03011/laws.FnExactIsNormal", spec := "fnExactIsNormal", inPlace := ["internal/bytealg.CountString", "internal/bytealg.IndexByteString", "internal/bytealg.IndexString", "internal/abi.NoEscape", "internal/bytealg.MakeNoZero"], named := ["unicode/utf8.first", "unicode/utf8.acceptRanges", "internal/bytealg.MaxLen"], apart := false, laid := [("unicode/utf8.acceptRanges", laid_unicode_utf8_acceptRanges), ("unicode/utf8.first", laid_unicode_utf8_first)] }
def FnExactIsNormalSaid : Prop := fnExactIsNormalRow.holds Tryd.pinned (OpenSpec.ofChange fnExactIsNormalSpec)

/-- ITS FALSE NEIGHBOUR: 'it returns false'. Refute it at one input. -/
def fnExactIsNormalWrong : ChangeSpec := { name := "fnExactIsNormal", fn := fun _ => fun
  | [d] => { results := [.lit (.bool false)], args := [d] }
  | _ => none }
def FnExactIsNormalWrongFalsely : Prop := fnExactIsNormalRow.holds Tryd.pinned (OpenSpec.ofChange fnExactIsNormalWrong)

/-- 'laws.FnExactFindFile': WHATEVER THE INPUT: true; the input reads as it did. -/
def fnExactFindFileSpec : ChangeSpec := { name := "fnExactFindFile", fn := fun _ => fun
  | [d1, d2] => { results := [.lit (.bool true)], args := [d1, d2] }
  | _ => none }
def fnExactFindFileRow : OpenClaim := { program := "ytffachcddoechaadoor", sum := "74f74b3478134025a43bd11d8f189dcdd9ab22dbeaed3e73a6a7437723b9c4f7", func := "loop.example/g03011/laws.FnExactFindFile", spec := "fnExactFindFile", inPlace := ["internal/bytealg.CountString", "internal/bytealg.IndexByteString", "internal/bytealg.IndexString", "internal/abi.NoEscape", "internal/bytealg.MakeNoZero"], named := ["unicode/utf8.first", "unicode/utf8.acceptRanges", "internal/bytealg.MaxLen"], apart := false, laid := [("unicode/utf8.acceptRanges", laid_unicode_utf8_acceptRanges), ("unicode/utf8.first", laid_unicode_utf8_first)] }
def FnExactFindFileSaid : Prop := fnExactFindFileRow.holds Tryd.pinned (OpenSpec.ofChange fnExactFindFileSpec)

/-- ITS FALSE NEIGHBOUR: 'it returns false'. Refute it at one input. -/
def fnExactFindFileWrong : ChangeSpec := { name := "fnExactFindFile", fn := fun _ => fun
  | [d1, d2] => { results := [.lit (.bool false)], args := [d1, d2] }
  | _ => none }
def FnExactFindFileWrongFalsely : Prop := fnExactFindFileRow.holds Tryd.pinned (OpenSpec.ofChange fnExactFindFileWrong)

/-- 'laws.FnExactIsSite': WHATEVER THE INPUT: true; the input reads as it did. -/
def fnExactIsSiteSpec : ChangeSpec := { name := "fnExactIsSite", fn := fun _ => fun
  | [d] => { results := [.lit (.bool true)], args := [d] }
  | _ => none }
def fnExactIsSiteRow : OpenClaim := { program := "ytffachcddoechaadoor", sum := "74f74b3478134025a43bd11d8f189dcdd9ab22dbeaed3e73a6a7437723b9c4f7", func := "loop.example/g03011/laws.FnExactIsSite", spec := "fnExactIsSite", inPlace := ["internal/bytealg.CountString", "internal/bytealg.IndexByteString", "internal/bytealg.IndexString", "internal/abi.NoEscape", "internal/bytealg.MakeNoZero"], named := ["unicode/utf8.first", "unicode/utf8.acceptRanges", "internal/bytealg.MaxLen"], apart := false, laid := [("unicode/utf8.acceptRanges", laid_unicode_utf8_acceptRanges), ("unicode/utf8.first", laid_unicode_utf8_first)] }
def FnExactIsSiteSaid : Prop := fnExactIsSiteRow.holds Tryd.pinned (OpenSpec.ofChange fnExactIsSiteSpec)

/-- ITS FALSE NEIGHBOUR: 'it returns false'. Refute it at one input. -/
def fnExactIsSiteWrong : ChangeSpec := { name := "fnExactIsSite", fn := fun _ => fun
  | [d] => { results := [.lit (.bool false)], args := [d] }
  | _ => none }
def FnExactIsSiteWrongFalsely : Prop := fnExactIsSiteRow.holds Tryd.pinned (OpenSpec.ofChange fnExactIsSiteWrong)

/-- 'laws.FnExactWriteFile': WHATEVER THE INPUT: true; the input reads as it did. -/
def fnExactWriteFileSpec : ChangeSpec := { name := "fnExactWriteFile", fn := fun _ => fun
  | [d1, d2, d3] => { results := [.lit (.bool true)], args := [d1, d2, d3] }
  | _ => none }
def fnExactWriteFileRow : OpenClaim := { program := "ytffachcddoechaadoor", sum := "74f74b3478134025a43bd11d8f189dcdd9ab22dbeaed3e73a6a7437723b9c4f7", func := "loop.example/g03011/laws.FnExactWriteFile", spec := "fnExactWriteFile", inPlace := ["internal/bytealg.CountString", "internal/bytealg.IndexByteString", "internal/bytealg.IndexString", "internal/abi.NoEscape", "internal/bytealg.MakeNoZero"], named := ["unicode/utf8.first", "unicode/utf8.acceptRanges", "internal/bytealg.MaxLen"], apart := false, laid := [("unicode/utf8.acceptRanges", laid_unicode_utf8_acceptRanges), ("unicode/utf8.first", laid_unicode_utf8_first)] }
def FnExactWriteFileSaid : Prop := fnExactWriteFileRow.holds Tryd.pinned (OpenSpec.ofChange fnExactWriteFileSpec)

/-- ITS FALSE NEIGHBOUR: 'it returns false'. Refute it at one input. -/
def fnExactWriteFileWrong : ChangeSpec := { name := "fnExactWriteFile", fn := fun _ => fun
  | [d1, d2, d3] => { results := [.lit (.bool false)], args := [d1, d2, d3] }
  | _ => none }
def FnExactWriteFileWrongFalsely : Prop := fnExactWriteFileRow.holds Tryd.pinned (OpenSpec.ofChange fnExactWriteFileWrong)

/-- 'laws.FnFiles': WHATEVER THE INPUT: true; the input reads as it did. -/
def fnFilesSpec : ChangeSpec := { name := "fnFiles", fn := fun _ => fun
  | [d] => { results := [.lit (.bool true)], args := [d] }
  | _ => none }
def fnFilesRow : OpenClaim := { program := "ytffachcddoechaadoor", sum := "74f74b3478134025a43bd11d8f189dcdd9ab22dbeaed3e73a6a7437723b9c4f7", func := "loop.example/g03011/laws.FnFiles", spec := "fnFiles", inPlace := ["internal/bytealg.CountString", "internal/bytealg.IndexByteString", "internal/bytealg.IndexString", "internal/abi.NoEscape", "internal/bytealg.MakeNoZero"], named := ["unicode/utf8.first", "unicode/utf8.acceptRanges", "internal/bytealg.MaxLen"], apart := false, laid := [("unicode/utf8.acceptRanges", laid_unicode_utf8_acceptRanges), ("unicode/utf8.first", laid_unicode_utf8_first)] }
def FnFilesSaid : Prop := fnFilesRow.holds Tryd.pinned (OpenSpec.ofChange fnFilesSpec)

/-- ITS FALSE NEIGHBOUR: 'it returns false'. Refute it at one input. -/
def fnFilesWrong : ChangeSpec := { name := "fnFiles", fn := fun _ => fun
  | [d] => { results := [.lit (.bool false)], args := [d] }
  | _ => none }
def FnFilesWrongFalsely : Prop := fnFilesRow.holds Tryd.pinned (OpenSpec.ofChange fnFilesWrong)

/- THE SECOND FORM. 'bulk': how many values and letters a reading holds, each counted each time it is reached (what is shared counts as often as it is met; a slice's spare places count too). A statement '..UptoSaid' is the law's where the arguments, and the package variables that the reading takes, are together of bulk at most 1048576: NARROWER than '..Said'. Prove '..Said' where nothing that the law and all that it calls make is longer than what came in: it says more and counts as full. Else prove '..UptoSaid'. A law counts once. -/
mutual
def uptoBulk {H : Type} : DataW H → Nat
  | .lit (.string bytes) => bytes.length + 1
  | .lit _ => 1
  | .nil => 1
  | .ptr d => uptoBulk d + 1
  | .slice elems spare => uptoBulkAll elems + uptoBulkAll spare + 1
  | .agg parts => uptoBulkAll parts + 1
  | .iface _ d => uptoBulk d + 1
  | .map entries => uptoBulkEntries entries + 1
  | .held _ => 1
def uptoBulkAll {H : Type} : List (DataW H) → Nat
  | [] => 0
  | d :: r => uptoBulk d + uptoBulkAll r
def uptoBulkEntries {H : Type} : List (Lit × DataW H) → Nat
  | [] => 0
  | x :: r => uptoBulkEntry x + uptoBulkEntries r
def uptoBulkEntry {H : Type} : Lit × DataW H → Nat
  | (.string bytes, d) => bytes.length + uptoBulk d + 1
  | (_, d) => uptoBulk d + 1
 end
def uptoSmall : (H : Type) → List (DataW H) → Bool := fun _ ds => decide (uptoBulkAll ds ≤ 1048576)
def OpenSpec.upto (s : _root_.Go.ChangeSpec) : _root_.Go.OpenSpec := { _root_.Go.OpenSpec.ofChange s with cond := some uptoSmall }

/-- 'laws.FnExactSplitPath', WHERE WHAT IT READS IS OF BULK AT MOST 1048576: true; the input reads as it did. -/
def fnExactSplitPathUptoRow : OpenClaim := { program := "ytffachcddoechaadoor", sum := "74f74b3478134025a43bd11d8f189dcdd9ab22dbeaed3e73a6a7437723b9c4f7", func := "loop.example/g03011/laws.FnExactSplitPath", spec := "fnExactSplitPath", inPlace := ["internal/bytealg.CountString", "internal/bytealg.IndexByteString", "internal/bytealg.IndexString"], named := ["unicode/utf8.first", "unicode/utf8.acceptRanges", "internal/bytealg.MaxLen"], apart := false, laid := [("unicode/utf8.acceptRanges", laid_unicode_utf8_acceptRanges), ("unicode/utf8.first", laid_unicode_utf8_first)], narrowed := true }
def FnExactSplitPathUptoSaid : Prop := fnExactSplitPathUptoRow.holds Tryd.pinned (OpenSpec.upto fnExactSplitPathSpec)

/-- 'laws.FnExactNormalPath', WHERE WHAT IT READS IS OF BULK AT MOST 1048576: true; the input reads as it did. -/
def fnExactNormalPathUptoRow : OpenClaim := { program := "ytffachcddoechaadoor", sum := "74f74b3478134025a43bd11d8f189dcdd9ab22dbeaed3e73a6a7437723b9c4f7", func := "loop.example/g03011/laws.FnExactNormalPath", spec := "fnExactNormalPath", inPlace := ["internal/bytealg.CountString", "internal/bytealg.IndexByteString", "internal/bytealg.IndexString", "internal/abi.NoEscape", "internal/bytealg.MakeNoZero"], named := ["unicode/utf8.first", "unicode/utf8.acceptRanges", "internal/bytealg.MaxLen"], apart := false, laid := [("unicode/utf8.acceptRanges", laid_unicode_utf8_acceptRanges), ("unicode/utf8.first", laid_unicode_utf8_first)], narrowed := true }
def FnExactNormalPathUptoSaid : Prop := fnExactNormalPathUptoRow.holds Tryd.pinned (OpenSpec.upto fnExactNormalPathSpec)

/-- 'laws.FnExactIsNormal', WHERE WHAT IT READS IS OF BULK AT MOST 1048576: true; the input reads as it did. -/
def fnExactIsNormalUptoRow : OpenClaim := { program := "ytffachcddoechaadoor", sum := "74f74b3478134025a43bd11d8f189dcdd9ab22dbeaed3e73a6a7437723b9c4f7", func := "loop.example/g03011/laws.FnExactIsNormal", spec := "fnExactIsNormal", inPlace := ["internal/bytealg.CountString", "internal/bytealg.IndexByteString", "internal/bytealg.IndexString", "internal/abi.NoEscape", "internal/bytealg.MakeNoZero"], named := ["unicode/utf8.first", "unicode/utf8.acceptRanges", "internal/bytealg.MaxLen"], apart := false, laid := [("unicode/utf8.acceptRanges", laid_unicode_utf8_acceptRanges), ("unicode/utf8.first", laid_unicode_utf8_first)], narrowed := true }
def FnExactIsNormalUptoSaid : Prop := fnExactIsNormalUptoRow.holds Tryd.pinned (OpenSpec.upto fnExactIsNormalSpec)

/-- 'laws.FnExactFindFile', WHERE WHAT IT READS IS OF BULK AT MOST 1048576: true; the input reads as it did. -/
def fnExactFindFileUptoRow : OpenClaim := { program := "ytffachcddoechaadoor", sum := "74f74b3478134025a43bd11d8f189dcdd9ab22dbeaed3e73a6a7437723b9c4f7", func := "loop.example/g03011/laws.FnExactFindFile", spec := "fnExactFindFile", inPlace := ["internal/bytealg.CountString", "internal/bytealg.IndexByteString", "internal/bytealg.IndexString", "internal/abi.NoEscape", "internal/bytealg.MakeNoZero"], named := ["unicode/utf8.first", "unicode/utf8.acceptRanges", "internal/bytealg.MaxLen"], apart := false, laid := [("unicode/utf8.acceptRanges", laid_unicode_utf8_acceptRanges), ("unicode/utf8.first", laid_unicode_utf8_first)], narrowed := true }
def FnExactFindFileUptoSaid : Prop := fnExactFindFileUptoRow.holds Tryd.pinned (OpenSpec.upto fnExactFindFileSpec)

/-- 'laws.FnExactIsSite', WHERE WHAT IT READS IS OF BULK AT MOST 1048576: true; the input reads as it did. -/
def fnExactIsSiteUptoRow : OpenClaim := { program := "ytffachcddoechaadoor", sum := "74f74b3478134025a43bd11d8f189dcdd9ab22dbeaed3e73a6a7437723b9c4f7", func := "loop.example/g03011/laws.FnExactIsSite", spec := "fnExactIsSite", inPlace := ["internal/bytealg.CountString", "internal/bytealg.IndexByteString", "internal/bytealg.IndexString", "internal/abi.NoEscape", "internal/bytealg.MakeNoZero"], named := ["unicode/utf8.first", "unicode/utf8.acceptRanges", "internal/bytealg.MaxLen"], apart := false, laid := [("unicode/utf8.acceptRanges", laid_unicode_utf8_acceptRanges), ("unicode/utf8.first", laid_unicode_utf8_first)], narrowed := true }
def FnExactIsSiteUptoSaid : Prop := fnExactIsSiteUptoRow.holds Tryd.pinned (OpenSpec.upto fnExactIsSiteSpec)

/-- 'laws.FnExactWriteFile', WHERE WHAT IT READS IS OF BULK AT MOST 1048576: true; the input reads as it did. -/
def fnExactWriteFileUptoRow : OpenClaim := { program := "ytffachcddoechaadoor", sum := "74f74b3478134025a43bd11d8f189dcdd9ab22dbeaed3e73a6a7437723b9c4f7", func := "loop.example/g03011/laws.FnExactWriteFile", spec := "fnExactWriteFile", inPlace := ["internal/bytealg.CountString", "internal/bytealg.IndexByteString", "internal/bytealg.IndexString", "internal/abi.NoEscape", "internal/bytealg.MakeNoZero"], named := ["unicode/utf8.first", "unicode/utf8.acceptRanges", "internal/bytealg.MaxLen"], apart := false, laid := [("unicode/utf8.acceptRanges", laid_unicode_utf8_acceptRanges), ("unicode/utf8.first", laid_unicode_utf8_first)], narrowed := true }
def FnExactWriteFileUptoSaid : Prop := fnExactWriteFileUptoRow.holds Tryd.pinned (OpenSpec.upto fnExactWriteFileSpec)

/-- 'laws.FnFiles', WHERE WHAT IT READS IS OF BULK AT MOST 1048576: true; the input reads as it did. -/
def fnFilesUptoRow : OpenClaim := { program := "ytffachcddoechaadoor", sum := "74f74b3478134025a43bd11d8f189dcdd9ab22dbeaed3e73a6a7437723b9c4f7", func := "loop.example/g03011/laws.FnFiles", spec := "fnFiles", inPlace := ["internal/bytealg.CountString", "internal/bytealg.IndexByteString", "internal/bytealg.IndexString", "internal/abi.NoEscape", "internal/bytealg.MakeNoZero"], named := ["unicode/utf8.first", "unicode/utf8.acceptRanges", "internal/bytealg.MaxLen"], apart := false, laid := [("unicode/utf8.acceptRanges", laid_unicode_utf8_acceptRanges), ("unicode/utf8.first", laid_unicode_utf8_first)], narrowed := true }
def FnFilesUptoSaid : Prop := fnFilesUptoRow.holds Tryd.pinned (OpenSpec.upto fnFilesSpec)

end Rows
end Go.Proofs.YtffachcddoechaaDoor
