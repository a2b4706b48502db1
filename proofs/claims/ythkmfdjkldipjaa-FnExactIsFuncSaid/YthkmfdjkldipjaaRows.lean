/-
  No cell of these rows narrows 'for every input' (looked for: loops, veiled, ifaces, maps, wideKeys, modest, calm, conditions, laid).
  DERIVED. THE GIVEN ROWS OF THIS SEAT. 3 by the template 'for every input the law returns true; each argument reads behind the call as it read before'; 0 by the template 'total and deterministic' (their statements: YthkmfdjkldipjaaTotals.lean).
  GIVEN WITH THE SEED: the statements are not yours to turn. If you find one false, say at which input.
  Laid BY PROGRAM, IN A SANDBOX (cutbox-rows.mjs): the forced cells as the released guide's own fill.sh prints them over the translation afa93e0b5518086e… (all of the seat's roots in one cut). By AI agents, Wed Nov 11 2026. No macro, syntax, notation, axiom, sorry.
-/
import Derived.Test.YthkmfdjkldipjaaChecked
import GoSem.Claim
import GoSem.ClaimJoined
import GoSem.ClaimMapViews
import Derived.JoinedTies
import Derived.KernelRfl
namespace Go.Proofs.Ythkmfdjkldipjaa
/- THE CELL 'sum', in the pinned program and in every row, IS THE sha256 OF THE DUMP (.gsa) THAT YthkmfdjkldipjaaProg.lean LOADS. Nothing in Lean hashes anything: it is a label: what it is worth is what the hold of that sum in a sandbox is worth. -/
noncomputable def Try.pinned : Pinned := { name := "ythkmfdjkldipjaa", sum := "afa93e0b5518086e94c647e898e86d5fa963ca6f403e32e5fb4132bc7d70ca45", checked := Try.checked }
namespace Rows
def none {H : Type} : Left H := { results := [], args := [] }

/-- 'laws.FnExactIsFunc': WHATEVER THE INPUT: true; the input reads as it did. -/
def fnExactIsFuncSpec : ChangeSpec := { name := "fnExactIsFunc", fn := fun _ => fun
  | [d] => { results := [.lit (.bool true)], args := [d] }
  | _ => none }
def fnExactIsFuncRow : OpenClaim := { program := "ythkmfdjkldipjaa", sum := "afa93e0b5518086e94c647e898e86d5fa963ca6f403e32e5fb4132bc7d70ca45", func := "loop.example/g03011/laws.FnExactIsFunc", spec := "fnExactIsFunc", unfollowed := true, recurses := true, apart := false }
def FnExactIsFuncSaid : Prop := fnExactIsFuncRow.holds Try.pinned (OpenSpec.ofChange fnExactIsFuncSpec)

/-- ITS FALSE NEIGHBOUR: 'it returns false'. Refute it at one input. -/
def fnExactIsFuncWrong : ChangeSpec := { name := "fnExactIsFunc", fn := fun _ => fun
  | [d] => { results := [.lit (.bool false)], args := [d] }
  | _ => none }
def FnExactIsFuncWrongFalsely : Prop := fnExactIsFuncRow.holds Try.pinned (OpenSpec.ofChange fnExactIsFuncWrong)

/-- 'laws.FnExactHeightsOf': WHATEVER THE INPUT: true; the input reads as it did. -/
def fnExactHeightsOfSpec : ChangeSpec := { name := "fnExactHeightsOf", fn := fun _ => fun
  | [d] => { results := [.lit (.bool true)], args := [d] }
  | _ => none }
def fnExactHeightsOfRow : OpenClaim := { program := "ythkmfdjkldipjaa", sum := "afa93e0b5518086e94c647e898e86d5fa963ca6f403e32e5fb4132bc7d70ca45", func := "loop.example/g03011/laws.FnExactHeightsOf", spec := "fnExactHeightsOf", unfollowed := true, recurses := true, apart := false }
def FnExactHeightsOfSaid : Prop := fnExactHeightsOfRow.holds Try.pinned (OpenSpec.ofChange fnExactHeightsOfSpec)

/-- ITS FALSE NEIGHBOUR: 'it returns false'. Refute it at one input. -/
def fnExactHeightsOfWrong : ChangeSpec := { name := "fnExactHeightsOf", fn := fun _ => fun
  | [d] => { results := [.lit (.bool false)], args := [d] }
  | _ => none }
def FnExactHeightsOfWrongFalsely : Prop := fnExactHeightsOfRow.holds Try.pinned (OpenSpec.ofChange fnExactHeightsOfWrong)

/-- 'laws.FnExactDeadCode': WHATEVER THE INPUT: true; the input reads as it did. -/
def fnExactDeadCodeSpec : ChangeSpec := { name := "fnExactDeadCode", fn := fun _ => fun
  | [d] => { results := [.lit (.bool true)], args := [d] }
  | _ => none }
def fnExactDeadCodeRow : OpenClaim := { program := "ythkmfdjkldipjaa", sum := "afa93e0b5518086e94c647e898e86d5fa963ca6f403e32e5fb4132bc7d70ca45", func := "loop.example/g03011/laws.FnExactDeadCode", spec := "fnExactDeadCode", unfollowed := true, recurses := true, apart := false }
def FnExactDeadCodeSaid : Prop := fnExactDeadCodeRow.holds Try.pinned (OpenSpec.ofChange fnExactDeadCodeSpec)

/-- ITS FALSE NEIGHBOUR: 'it returns false'. Refute it at one input. -/
def fnExactDeadCodeWrong : ChangeSpec := { name := "fnExactDeadCode", fn := fun _ => fun
  | [d] => { results := [.lit (.bool false)], args := [d] }
  | _ => none }
def FnExactDeadCodeWrongFalsely : Prop := fnExactDeadCodeRow.holds Try.pinned (OpenSpec.ofChange fnExactDeadCodeWrong)

/- THE SECOND FORM. 'bulk': how many values and letters a reading holds, each counted each time it is reached (what is shared counts as often as it is met; a slice's spare places count too). A statement '..UptoSaid' is the law's where the arguments, and the package variables that the reading takes, are together of bulk at most 1048576: NARROWER than '..Said'. Prove '..Said' where nothing that the law and all that it calls make is longer than what came in: it says more and counts as full. Else prove '..UptoSaid'. A law counts once. -/
mutual
def uptoBulk {H : Type} : DataW H → Nat
  | .lit (.string bytes) => bytes.length + 1
  | .lit _ => 1
  | .nil => 1
  | .ptr d => uptoBulk d + 1
  | .slice elems spare => uptoBulkAll elems + uptoBulkAll spare + 1
  | .agg parts => uptoBulkAll parts + 1
  | .iface _ d => uptoBulk d + 1
  | .map entries => uptoBulkEntries entries + 1
  | .held _ => 1
def uptoBulkAll {H : Type} : List (DataW H) → Nat
  | [] => 0
  | d :: r => uptoBulk d + uptoBulkAll r
def uptoBulkEntries {H : Type} : List (Lit × DataW H) → Nat
  | [] => 0
  | x :: r => uptoBulkEntry x + uptoBulkEntries r
def uptoBulkEntry {H : Type} : Lit × DataW H → Nat
  | (.string bytes, d) => bytes.length + uptoBulk d + 1
  | (_, d) => uptoBulk d + 1
 end
def uptoSmall : (H : Type) → List (DataW H) → Bool := fun _ ds => decide (uptoBulkAll ds ≤ 1048576)
def OpenSpec.upto (s : _root_.Go.ChangeSpec) : _root_.Go.OpenSpec := { _root_.Go.OpenSpec.ofChange s with cond := some uptoSmall }

/-- 'laws.FnExactIsFunc', WHERE WHAT IT READS IS OF BULK AT MOST 1048576: true; the input reads as it did. -/
def fnExactIsFuncUptoRow : OpenClaim := { program := "ythkmfdjkldipjaa", sum := "afa93e0b5518086e94c647e898e86d5fa963ca6f403e32e5fb4132bc7d70ca45", func := "loop.example/g03011/laws.FnExactIsFunc", spec := "fnExactIsFunc", unfollowed := true, recurses := true, apart := false, narrowed := true }
def FnExactIsFuncUptoSaid : Prop := fnExactIsFuncUptoRow.holds Try.pinned (OpenSpec.upto fnExactIsFuncSpec)

/-- 'laws.FnExactHeightsOf', WHERE WHAT IT READS IS OF BULK AT MOST 1048576: true; the input reads as it did. -/
def fnExactHeightsOfUptoRow : OpenClaim := { program := "ythkmfdjkldipjaa", sum := "afa93e0b5518086e94c647e898e86d5fa963ca6f403e32e5fb4132bc7d70ca45", func := "loop.example/g03011/laws.FnExactHeightsOf", spec := "fnExactHeightsOf", unfollowed := true, recurses := true, apart := false, narrowed := true }
def FnExactHeightsOfUptoSaid : Prop := fnExactHeightsOfUptoRow.holds Try.pinned (OpenSpec.upto fnExactHeightsOfSpec)

/-- 'laws.FnExactDeadCode', WHERE WHAT IT READS IS OF BULK AT MOST 1048576: true; the input reads as it did. -/
def fnExactDeadCodeUptoRow : OpenClaim := { program := "ythkmfdjkldipjaa", sum := "afa93e0b5518086e94c647e898e86d5fa963ca6f403e32e5fb4132bc7d70ca45", func := "loop.example/g03011/laws.FnExactDeadCode", spec := "fnExactDeadCode", unfollowed := true, recurses := true, apart := false, narrowed := true }
def FnExactDeadCodeUptoSaid : Prop := fnExactDeadCodeUptoRow.holds Try.pinned (OpenSpec.upto fnExactDeadCodeSpec)

end Rows
end Go.Proofs.Ythkmfdjkldipjaa
