/-
  NARROWER THAN 'FOR EVERY INPUT', by the rows' own cells (each row's printed sentence says how): FnExactFindClass: loops · FnExactFindMethod: loops · FnExactFindField: loops.
  DERIVED. THE GIVEN ROWS OF THIS SEAT. 3 by the template 'for every input the law returns true; each argument reads behind the call as it read before'; 0 by the template 'total and deterministic' (their statements: YtphcpllafddpfaaTotals.lean).
  GIVEN WITH THE SEED: the statements are not yours to turn. If you find one false, say at which input.
  Laid BY PROGRAM, IN A SANDBOX (cutbox-rows.mjs): the forced cells as the released guide's own fill.sh prints them over the translation 9e55906967162f02… (all of the seat's roots in one cut). By AI agents, Wed Nov 11 2026. No macro, syntax, notation, axiom, sorry.
-/
import Derived.Test.YtphcpllafddpfaaChecked
import GoSem.Claim
import GoSem.ClaimJoined
import GoSem.ClaimMapViews
import Derived.JoinedTies
import Derived.KernelRfl
namespace Go.Proofs.Ytphcpllafddpfaa
/- THE CELL 'sum', in the pinned program and in every row, IS THE sha256 OF THE DUMP (.gsa) THAT YtphcpllafddpfaaProg.lean LOADS. Nothing in Lean hashes anything: it is a label: what it is worth is what the hold of that sum in a sandbox is worth. -/
noncomputable def Try.pinned : Pinned := { name := "ytphcpllafddpfaa", sum := "9e55906967162f029d16aed831969cc7161c35a045b7d3d1e2132283fe0a3452", checked := Try.checked }
namespace Rows
def none {H : Type} : Left H := { results := [], args := [] }

/-- 'laws.FnExactFindClass': WHATEVER THE INPUT: true; the input reads as it did. -/
def fnExactFindClassSpec : ChangeSpec := { name := "fnExactFindClass", fn := fun _ => fun
  | [d1, d2] => { results := [.lit (.bool true)], args := [d1, d2] }
  | _ => none }
def fnExactFindClassRow : OpenClaim := { program := "ytphcpllafddpfaa", sum := "9e55906967162f029d16aed831969cc7161c35a045b7d3d1e2132283fe0a3452", func := "loop.example/g03011/laws.FnExactFindClass", spec := "fnExactFindClass", recurses := true, loops := true, apart := false }
def FnExactFindClassSaid : Prop := fnExactFindClassRow.holds Try.pinned (OpenSpec.ofChange fnExactFindClassSpec)

/-- ITS FALSE NEIGHBOUR: 'it returns false'. Refute it at one input. -/
def fnExactFindClassWrong : ChangeSpec := { name := "fnExactFindClass", fn := fun _ => fun
  | [d1, d2] => { results := [.lit (.bool false)], args := [d1, d2] }
  | _ => none }
def FnExactFindClassWrongFalsely : Prop := fnExactFindClassRow.holds Try.pinned (OpenSpec.ofChange fnExactFindClassWrong)

/-- 'laws.FnExactFindMethod': WHATEVER THE INPUT: true; the input reads as it did. -/
def fnExactFindMethodSpec : ChangeSpec := { name := "fnExactFindMethod", fn := fun _ => fun
  | [d1, d2, d3] => { results := [.lit (.bool true)], args := [d1, d2, d3] }
  | _ => none }
def fnExactFindMethodRow : OpenClaim := { program := "ytphcpllafddpfaa", sum := "9e55906967162f029d16aed831969cc7161c35a045b7d3d1e2132283fe0a3452", func := "loop.example/g03011/laws.FnExactFindMethod", spec := "fnExactFindMethod", unfollowed := true, recurses := true, loops := true, apart := false }
def FnExactFindMethodSaid : Prop := fnExactFindMethodRow.holds Try.pinned (OpenSpec.ofChange fnExactFindMethodSpec)

/-- ITS FALSE NEIGHBOUR: 'it returns false'. Refute it at one input. -/
def fnExactFindMethodWrong : ChangeSpec := { name := "fnExactFindMethod", fn := fun _ => fun
  | [d1, d2, d3] => { results := [.lit (.bool false)], args := [d1, d2, d3] }
  | _ => none }
def FnExactFindMethodWrongFalsely : Prop := fnExactFindMethodRow.holds Try.pinned (OpenSpec.ofChange fnExactFindMethodWrong)

/-- 'laws.FnExactFindField': WHATEVER THE INPUT: true; the input reads as it did. -/
def fnExactFindFieldSpec : ChangeSpec := { name := "fnExactFindField", fn := fun _ => fun
  | [d1, d2, d3] => { results := [.lit (.bool true)], args := [d1, d2, d3] }
  | _ => none }
def fnExactFindFieldRow : OpenClaim := { program := "ytphcpllafddpfaa", sum := "9e55906967162f029d16aed831969cc7161c35a045b7d3d1e2132283fe0a3452", func := "loop.example/g03011/laws.FnExactFindField", spec := "fnExactFindField", unfollowed := true, recurses := true, loops := true, apart := false }
def FnExactFindFieldSaid : Prop := fnExactFindFieldRow.holds Try.pinned (OpenSpec.ofChange fnExactFindFieldSpec)

/-- ITS FALSE NEIGHBOUR: 'it returns false'. Refute it at one input. -/
def fnExactFindFieldWrong : ChangeSpec := { name := "fnExactFindField", fn := fun _ => fun
  | [d1, d2, d3] => { results := [.lit (.bool false)], args := [d1, d2, d3] }
  | _ => none }
def FnExactFindFieldWrongFalsely : Prop := fnExactFindFieldRow.holds Try.pinned (OpenSpec.ofChange fnExactFindFieldWrong)

/- THE SECOND FORM. 'bulk': how many values and letters a reading holds, each counted each time it is reached (what is shared counts as often as it is met; a slice's spare places count too). A statement '..UptoSaid' is the law's where the arguments, and the package variables that the reading takes, are together of bulk at most 1048576: NARROWER than '..Said'. Prove '..Said' where nothing that the law and all that it calls make is longer than what came in: it says more and counts as full. Else prove '..UptoSaid'. A law counts once. -/
mutual
def uptoBulk {H : Type} : DataW H → Nat
  | .lit (.string bytes) => bytes.length + 1
  | .lit _ => 1
  | .nil => 1
  | .ptr d => uptoBulk d + 1
  | .slice elems spare => uptoBulkAll elems + uptoBulkAll spare + 1
  | .agg parts => uptoBulkAll parts + 1
  | .iface _ d => uptoBulk d + 1
  | .map entries => uptoBulkEntries entries + 1
  | .held _ => 1
def uptoBulkAll {H : Type} : List (DataW H) → Nat
  | [] => 0
  | d :: r => uptoBulk d + uptoBulkAll r
def uptoBulkEntries {H : Type} : List (Lit × DataW H) → Nat
  | [] => 0
  | x :: r => uptoBulkEntry x + uptoBulkEntries r
def uptoBulkEntry {H : Type} : Lit × DataW H → Nat
  | (.string bytes, d) => bytes.length + uptoBulk d + 1
  | (_, d) => uptoBulk d + 1
 end
def uptoSmall : (H : Type) → List (DataW H) → Bool := fun _ ds => decide (uptoBulkAll ds ≤ 1048576)
def OpenSpec.upto (s : _root_.Go.ChangeSpec) : _root_.Go.OpenSpec := { _root_.Go.OpenSpec.ofChange s with cond := some uptoSmall }

/-- 'laws.FnExactFindClass', WHERE WHAT IT READS IS OF BULK AT MOST 1048576: true; the input reads as it did. -/
def fnExactFindClassUptoRow : OpenClaim := { program := "ytphcpllafddpfaa", sum := "9e55906967162f029d16aed831969cc7161c35a045b7d3d1e2132283fe0a3452", func := "loop.example/g03011/laws.FnExactFindClass", spec := "fnExactFindClass", recurses := true, loops := true, apart := false, narrowed := true }
def FnExactFindClassUptoSaid : Prop := fnExactFindClassUptoRow.holds Try.pinned (OpenSpec.upto fnExactFindClassSpec)

/-- 'laws.FnExactFindMethod', WHERE WHAT IT READS IS OF BULK AT MOST 1048576: true; the input reads as it did. -/
def fnExactFindMethodUptoRow : OpenClaim := { program := "ytphcpllafddpfaa", sum := "9e55906967162f029d16aed831969cc7161c35a045b7d3d1e2132283fe0a3452", func := "loop.example/g03011/laws.FnExactFindMethod", spec := "fnExactFindMethod", unfollowed := true, recurses := true, loops := true, apart := false, narrowed := true }
def FnExactFindMethodUptoSaid : Prop := fnExactFindMethodUptoRow.holds Try.pinned (OpenSpec.upto fnExactFindMethodSpec)

/-- 'laws.FnExactFindField', WHERE WHAT IT READS IS OF BULK AT MOST 1048576: true; the input reads as it did. -/
def fnExactFindFieldUptoRow : OpenClaim := { program := "ytphcpllafddpfaa", sum := "9e55906967162f029d16aed831969cc7161c35a045b7d3d1e2132283fe0a3452", func := "loop.example/g03011/laws.FnExactFindField", spec := "fnExactFindField", unfollowed := true, recurses := true, loops := true, apart := false, narrowed := true }
def FnExactFindFieldUptoSaid : Prop := fnExactFindFieldUptoRow.holds Try.pinned (OpenSpec.upto fnExactFindFieldSpec)

end Rows
end Go.Proofs.Ytphcpllafddpfaa
