/-
  No cell of these rows narrows 'for every input' (looked for: loops, veiled, ifaces, maps, wideKeys, modest, calm, conditions, laid).
  DERIVED. THE GIVEN ROWS OF THIS SEAT. 8 by the template 'for every input the law returns true; each argument reads behind the call as it read before'; 0 by the template 'total and deterministic' (their statements: YtefkakjfdodcfaaTotals.lean).
  GIVEN WITH THE SEED: the statements are not yours to turn. If you find one false, say at which input.
  Laid BY PROGRAM, IN A SANDBOX (cutbox-rows.mjs): the forced cells as the released guide's own fill.sh prints them over the translation 48b3512cf116dc6d… (all of the seat's roots in one cut). By AI agents, Wed Nov 11 2026. No macro, syntax, notation, axiom, sorry.
-/
import Derived.Test.YtefkakjfdodcfaaChecked
import GoSem.Claim
import GoSem.ClaimJoined
import GoSem.ClaimMapViews
import Derived.JoinedTies
import Derived.KernelRfl
namespace Go.Proofs.Ytefkakjfdodcfaa
/- THE CELL 'sum', in the pinned program and in every row, IS THE sha256 OF THE DUMP (.gsa) THAT YtefkakjfdodcfaaProg.lean LOADS. Nothing in Lean hashes anything: it is a label: what it is worth is what the hold of that sum in a sandbox is worth. -/
noncomputable def Try.pinned : Pinned := { name := "ytefkakjfdodcfaa", sum := "48b3512cf116dc6dec8398e828e45dd6744dd48aef300562a010dd8a005d06d7", checked := Try.checked }
namespace Rows
def none {H : Type} : Left H := { results := [], args := [] }

/-- 'laws.FnExactMaySee': WHATEVER THE INPUT: true; the input reads as it did. -/
def fnExactMaySeeSpec : ChangeSpec := { name := "fnExactMaySee", fn := fun _ => fun
  | [d1, d2, d3] => { results := [.lit (.bool true)], args := [d1, d2, d3] }
  | _ => none }
def fnExactMaySeeRow : OpenClaim := { program := "ytefkakjfdodcfaa", sum := "48b3512cf116dc6dec8398e828e45dd6744dd48aef300562a010dd8a005d06d7", func := "loop.example/g03011/laws.FnExactMaySee", spec := "fnExactMaySee", apart := false }
def FnExactMaySeeSaid : Prop := fnExactMaySeeRow.holds Try.pinned (OpenSpec.ofChange fnExactMaySeeSpec)

/-- ITS FALSE NEIGHBOUR: 'it returns false'. Refute it at one input. -/
def fnExactMaySeeWrong : ChangeSpec := { name := "fnExactMaySee", fn := fun _ => fun
  | [d1, d2, d3] => { results := [.lit (.bool false)], args := [d1, d2, d3] }
  | _ => none }
def FnExactMaySeeWrongFalsely : Prop := fnExactMaySeeRow.holds Try.pinned (OpenSpec.ofChange fnExactMaySeeWrong)

/-- 'laws.FnExactIsFinal': WHATEVER THE INPUT: true; the input reads as it did. -/
def fnExactIsFinalSpec : ChangeSpec := { name := "fnExactIsFinal", fn := fun _ => fun
  | [d] => { results := [.lit (.bool true)], args := [d] }
  | _ => none }
def fnExactIsFinalRow : OpenClaim := { program := "ytefkakjfdodcfaa", sum := "48b3512cf116dc6dec8398e828e45dd6744dd48aef300562a010dd8a005d06d7", func := "loop.example/g03011/laws.FnExactIsFinal", spec := "fnExactIsFinal", apart := false }
def FnExactIsFinalSaid : Prop := fnExactIsFinalRow.holds Try.pinned (OpenSpec.ofChange fnExactIsFinalSpec)

/-- ITS FALSE NEIGHBOUR: 'it returns false'. Refute it at one input. -/
def fnExactIsFinalWrong : ChangeSpec := { name := "fnExactIsFinal", fn := fun _ => fun
  | [d] => { results := [.lit (.bool false)], args := [d] }
  | _ => none }
def FnExactIsFinalWrongFalsely : Prop := fnExactIsFinalRow.holds Try.pinned (OpenSpec.ofChange fnExactIsFinalWrong)

/-- 'laws.FnExactHasTarget': WHATEVER THE INPUT: true; the input reads as it did. -/
def fnExactHasTargetSpec : ChangeSpec := { name := "fnExactHasTarget", fn := fun _ => fun
  | [d] => { results := [.lit (.bool true)], args := [d] }
  | _ => none }
def fnExactHasTargetRow : OpenClaim := { program := "ytefkakjfdodcfaa", sum := "48b3512cf116dc6dec8398e828e45dd6744dd48aef300562a010dd8a005d06d7", func := "loop.example/g03011/laws.FnExactHasTarget", spec := "fnExactHasTarget", apart := false }
def FnExactHasTargetSaid : Prop := fnExactHasTargetRow.holds Try.pinned (OpenSpec.ofChange fnExactHasTargetSpec)

/-- ITS FALSE NEIGHBOUR: 'it returns false'. Refute it at one input. -/
def fnExactHasTargetWrong : ChangeSpec := { name := "fnExactHasTarget", fn := fun _ => fun
  | [d] => { results := [.lit (.bool false)], args := [d] }
  | _ => none }
def FnExactHasTargetWrongFalsely : Prop := fnExactHasTargetRow.holds Try.pinned (OpenSpec.ofChange fnExactHasTargetWrong)

/-- 'laws.FnExactTargetChange': WHATEVER THE INPUT: true; the input reads as it did. -/
def fnExactTargetChangeSpec : ChangeSpec := { name := "fnExactTargetChange", fn := fun _ => fun
  | [d] => { results := [.lit (.bool true)], args := [d] }
  | _ => none }
def fnExactTargetChangeRow : OpenClaim := { program := "ytefkakjfdodcfaa", sum := "48b3512cf116dc6dec8398e828e45dd6744dd48aef300562a010dd8a005d06d7", func := "loop.example/g03011/laws.FnExactTargetChange", spec := "fnExactTargetChange", apart := false }
def FnExactTargetChangeSaid : Prop := fnExactTargetChangeRow.holds Try.pinned (OpenSpec.ofChange fnExactTargetChangeSpec)

/-- ITS FALSE NEIGHBOUR: 'it returns false'. Refute it at one input. -/
def fnExactTargetChangeWrong : ChangeSpec := { name := "fnExactTargetChange", fn := fun _ => fun
  | [d] => { results := [.lit (.bool false)], args := [d] }
  | _ => none }
def FnExactTargetChangeWrongFalsely : Prop := fnExactTargetChangeRow.holds Try.pinned (OpenSpec.ofChange fnExactTargetChangeWrong)

/-- 'laws.FnExactBuiltinArity': WHATEVER THE INPUT: true; the input reads as it did. -/
def fnExactBuiltinAritySpec : ChangeSpec := { name := "fnExactBuiltinArity", fn := fun _ => fun
  | [d] => { results := [.lit (.bool true)], args := [d] }
  | _ => none }
def fnExactBuiltinArityRow : OpenClaim := { program := "ytefkakjfdodcfaa", sum := "48b3512cf116dc6dec8398e828e45dd6744dd48aef300562a010dd8a005d06d7", func := "loop.example/g03011/laws.FnExactBuiltinArity", spec := "fnExactBuiltinArity", apart := false }
def FnExactBuiltinAritySaid : Prop := fnExactBuiltinArityRow.holds Try.pinned (OpenSpec.ofChange fnExactBuiltinAritySpec)

/-- ITS FALSE NEIGHBOUR: 'it returns false'. Refute it at one input. -/
def fnExactBuiltinArityWrong : ChangeSpec := { name := "fnExactBuiltinArity", fn := fun _ => fun
  | [d] => { results := [.lit (.bool false)], args := [d] }
  | _ => none }
def FnExactBuiltinArityWrongFalsely : Prop := fnExactBuiltinArityRow.holds Try.pinned (OpenSpec.ofChange fnExactBuiltinArityWrong)

/-- 'laws.FnExactInsNeed': WHATEVER THE INPUT: true; the input reads as it did. -/
def fnExactInsNeedSpec : ChangeSpec := { name := "fnExactInsNeed", fn := fun _ => fun
  | [d] => { results := [.lit (.bool true)], args := [d] }
  | _ => none }
def fnExactInsNeedRow : OpenClaim := { program := "ytefkakjfdodcfaa", sum := "48b3512cf116dc6dec8398e828e45dd6744dd48aef300562a010dd8a005d06d7", func := "loop.example/g03011/laws.FnExactInsNeed", spec := "fnExactInsNeed", apart := false }
def FnExactInsNeedSaid : Prop := fnExactInsNeedRow.holds Try.pinned (OpenSpec.ofChange fnExactInsNeedSpec)

/-- ITS FALSE NEIGHBOUR: 'it returns false'. Refute it at one input. -/
def fnExactInsNeedWrong : ChangeSpec := { name := "fnExactInsNeed", fn := fun _ => fun
  | [d] => { results := [.lit (.bool false)], args := [d] }
  | _ => none }
def FnExactInsNeedWrongFalsely : Prop := fnExactInsNeedRow.holds Try.pinned (OpenSpec.ofChange fnExactInsNeedWrong)

/-- 'laws.FnExactInsChange': WHATEVER THE INPUT: true; the input reads as it did. -/
def fnExactInsChangeSpec : ChangeSpec := { name := "fnExactInsChange", fn := fun _ => fun
  | [d] => { results := [.lit (.bool true)], args := [d] }
  | _ => none }
def fnExactInsChangeRow : OpenClaim := { program := "ytefkakjfdodcfaa", sum := "48b3512cf116dc6dec8398e828e45dd6744dd48aef300562a010dd8a005d06d7", func := "loop.example/g03011/laws.FnExactInsChange", spec := "fnExactInsChange", apart := false }
def FnExactInsChangeSaid : Prop := fnExactInsChangeRow.holds Try.pinned (OpenSpec.ofChange fnExactInsChangeSpec)

/-- ITS FALSE NEIGHBOUR: 'it returns false'. Refute it at one input. -/
def fnExactInsChangeWrong : ChangeSpec := { name := "fnExactInsChange", fn := fun _ => fun
  | [d] => { results := [.lit (.bool false)], args := [d] }
  | _ => none }
def FnExactInsChangeWrongFalsely : Prop := fnExactInsChangeRow.holds Try.pinned (OpenSpec.ofChange fnExactInsChangeWrong)

/-- 'laws.FnExactIsIns': WHATEVER THE INPUT: true; the input reads as it did. -/
def fnExactIsInsSpec : ChangeSpec := { name := "fnExactIsIns", fn := fun _ => fun
  | [d1, d2, d3] => { results := [.lit (.bool true)], args := [d1, d2, d3] }
  | _ => none }
def fnExactIsInsRow : OpenClaim := { program := "ytefkakjfdodcfaa", sum := "48b3512cf116dc6dec8398e828e45dd6744dd48aef300562a010dd8a005d06d7", func := "loop.example/g03011/laws.FnExactIsIns", spec := "fnExactIsIns", apart := false }
def FnExactIsInsSaid : Prop := fnExactIsInsRow.holds Try.pinned (OpenSpec.ofChange fnExactIsInsSpec)

/-- ITS FALSE NEIGHBOUR: 'it returns false'. Refute it at one input. -/
def fnExactIsInsWrong : ChangeSpec := { name := "fnExactIsIns", fn := fun _ => fun
  | [d1, d2, d3] => { results := [.lit (.bool false)], args := [d1, d2, d3] }
  | _ => none }
def FnExactIsInsWrongFalsely : Prop := fnExactIsInsRow.holds Try.pinned (OpenSpec.ofChange fnExactIsInsWrong)

/- THE SECOND FORM. 'bulk': how many values and letters a reading holds, each counted each time it is reached (what is shared counts as often as it is met; a slice's spare places count too). A statement '..UptoSaid' is the law's where the arguments, and the package variables that the reading takes, are together of bulk at most 1048576: NARROWER than '..Said'. Prove '..Said' where nothing that the law and all that it calls make is longer than what came in: it says more and counts as full. Else prove '..UptoSaid'. A law counts once. -/
mutual
def uptoBulk {H : Type} : DataW H → Nat
  | .lit (.string bytes) => bytes.length + 1
  | .lit _ => 1
  | .nil => 1
  | .ptr d => uptoBulk d + 1
  | .slice elems spare => uptoBulkAll elems + uptoBulkAll spare + 1
  | .agg parts => uptoBulkAll parts + 1
  | .iface _ d => uptoBulk d + 1
  | .map entries => uptoBulkEntries entries + 1
  | .held _ => 1
def uptoBulkAll {H : Type} : List (DataW H) → Nat
  | [] => 0
  | d :: r => uptoBulk d + uptoBulkAll r
def uptoBulkEntries {H : Type} : List (Lit × DataW H) → Nat
  | [] => 0
  | x :: r => uptoBulkEntry x + uptoBulkEntries r
def uptoBulkEntry {H : Type} : Lit × DataW H → Nat
  | (.string bytes, d) => bytes.length + uptoBulk d + 1
  | (_, d) => uptoBulk d + 1
 end
def uptoSmall : (H : Type) → List (DataW H) → Bool := fun _ ds => decide (uptoBulkAll ds ≤ 1048576)
def OpenSpec.upto (s : _root_.Go.ChangeSpec) : _root_.Go.OpenSpec := { _root_.Go.OpenSpec.ofChange s with cond := some uptoSmall }

/-- 'laws.FnExactMaySee', WHERE WHAT IT READS IS OF BULK AT MOST 1048576: true; the input reads as it did. -/
def fnExactMaySeeUptoRow : OpenClaim := { program := "ytefkakjfdodcfaa", sum := "48b3512cf116dc6dec8398e828e45dd6744dd48aef300562a010dd8a005d06d7", func := "loop.example/g03011/laws.FnExactMaySee", spec := "fnExactMaySee", apart := false, narrowed := true }
def FnExactMaySeeUptoSaid : Prop := fnExactMaySeeUptoRow.holds Try.pinned (OpenSpec.upto fnExactMaySeeSpec)

/-- 'laws.FnExactIsFinal', WHERE WHAT IT READS IS OF BULK AT MOST 1048576: true; the input reads as it did. -/
def fnExactIsFinalUptoRow : OpenClaim := { program := "ytefkakjfdodcfaa", sum := "48b3512cf116dc6dec8398e828e45dd6744dd48aef300562a010dd8a005d06d7", func := "loop.example/g03011/laws.FnExactIsFinal", spec := "fnExactIsFinal", apart := false, narrowed := true }
def FnExactIsFinalUptoSaid : Prop := fnExactIsFinalUptoRow.holds Try.pinned (OpenSpec.upto fnExactIsFinalSpec)

/-- 'laws.FnExactHasTarget', WHERE WHAT IT READS IS OF BULK AT MOST 1048576: true; the input reads as it did. -/
def fnExactHasTargetUptoRow : OpenClaim := { program := "ytefkakjfdodcfaa", sum := "48b3512cf116dc6dec8398e828e45dd6744dd48aef300562a010dd8a005d06d7", func := "loop.example/g03011/laws.FnExactHasTarget", spec := "fnExactHasTarget", apart := false, narrowed := true }
def FnExactHasTargetUptoSaid : Prop := fnExactHasTargetUptoRow.holds Try.pinned (OpenSpec.upto fnExactHasTargetSpec)

/-- 'laws.FnExactTargetChange', WHERE WHAT IT READS IS OF BULK AT MOST 1048576: true; the input reads as it did. -/
def fnExactTargetChangeUptoRow : OpenClaim := { program := "ytefkakjfdodcfaa", sum := "48b3512cf116dc6dec8398e828e45dd6744dd48aef300562a010dd8a005d06d7", func := "loop.example/g03011/laws.FnExactTargetChange", spec := "fnExactTargetChange", apart := false, narrowed := true }
def FnExactTargetChangeUptoSaid : Prop := fnExactTargetChangeUptoRow.holds Try.pinned (OpenSpec.upto fnExactTargetChangeSpec)

/-- 'laws.FnExactBuiltinArity', WHERE WHAT IT READS IS OF BULK AT MOST 1048576: true; the input reads as it did. -/
def fnExactBuiltinArityUptoRow : OpenClaim := { program := "ytefkakjfdodcfaa", sum := "48b3512cf116dc6dec8398e828e45dd6744dd48aef300562a010dd8a005d06d7", func := "loop.example/g03011/laws.FnExactBuiltinArity", spec := "fnExactBuiltinArity", apart := false, narrowed := true }
def FnExactBuiltinArityUptoSaid : Prop := fnExactBuiltinArityUptoRow.holds Try.pinned (OpenSpec.upto fnExactBuiltinAritySpec)

/-- 'laws.FnExactInsNeed', WHERE WHAT IT READS IS OF BULK AT MOST 1048576: true; the input reads as it did. -/
def fnExactInsNeedUptoRow : OpenClaim := { program := "ytefkakjfdodcfaa", sum := "48b3512cf116dc6dec8398e828e45dd6744dd48aef300562a010dd8a005d06d7", func := "loop.example/g03011/laws.FnExactInsNeed", spec := "fnExactInsNeed", apart := false, narrowed := true }
def FnExactInsNeedUptoSaid : Prop := fnExactInsNeedUptoRow.holds Try.pinned (OpenSpec.upto fnExactInsNeedSpec)

/-- 'laws.FnExactInsChange', WHERE WHAT IT READS IS OF BULK AT MOST 1048576: true; the input reads as it did. -/
def fnExactInsChangeUptoRow : OpenClaim := { program := "ytefkakjfdodcfaa", sum := "48b3512cf116dc6dec8398e828e45dd6744dd48aef300562a010dd8a005d06d7", func := "loop.example/g03011/laws.FnExactInsChange", spec := "fnExactInsChange", apart := false, narrowed := true }
def FnExactInsChangeUptoSaid : Prop := fnExactInsChangeUptoRow.holds Try.pinned (OpenSpec.upto fnExactInsChangeSpec)

/-- 'laws.FnExactIsIns', WHERE WHAT IT READS IS OF BULK AT MOST 1048576: true; the input reads as it did. -/
def fnExactIsInsUptoRow : OpenClaim := { program := "ytefkakjfdodcfaa", sum := "48b3512cf116dc6dec8398e828e45dd6744dd48aef300562a010dd8a005d06d7", func := "loop.example/g03011/laws.FnExactIsIns", spec := "fnExactIsIns", apart := false, narrowed := true }
def FnExactIsInsUptoSaid : Prop := fnExactIsInsUptoRow.holds Try.pinned (OpenSpec.upto fnExactIsInsSpec)

end Rows
end Go.Proofs.Ytefkakjfdodcfaa
