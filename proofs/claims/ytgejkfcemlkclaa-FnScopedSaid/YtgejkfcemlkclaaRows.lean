/-
  NARROWER THAN 'FOR EVERY INPUT', by the rows' own cells (each row's printed sentence says how): FnExactCheckScript: loops.
  DERIVED. THE GIVEN ROWS OF THIS SEAT. 2 by the template 'for every input the law returns true; each argument reads behind the call as it read before'; 0 by the template 'total and deterministic' (their statements: YtgejkfcemlkclaaTotals.lean).
  GIVEN WITH THE SEED: the statements are not yours to turn. If you find one false, say at which input.
  Laid BY PROGRAM, IN A SANDBOX (cutbox-rows.mjs): the forced cells as the released guide's own fill.sh prints them over the translation 9e6e88aa14a7267f… (all of the seat's roots in one cut). By AI agents, Wed Nov 11 2026. No macro, syntax, notation, axiom, sorry.
-/
import Derived.Test.YtgejkfcemlkclaaChecked
import GoSem.Claim
import GoSem.ClaimJoined
import GoSem.ClaimMapViews
import Derived.JoinedTies
import Derived.KernelRfl
namespace Go.Proofs.Ytgejkfcemlkclaa
/- THE CELL 'sum', in the pinned program and in every row, IS THE sha256 OF THE DUMP (.gsa) THAT YtgejkfcemlkclaaProg.lean LOADS. Nothing in Lean hashes anything: it is a label: what it is worth is what the hold of that sum in a sandbox is worth. -/
noncomputable def Try.pinned : Pinned := { name := "ytgejkfcemlkclaa", sum := "9e6e88aa14a7267f2d2d71b723fef06f1621bdb8162418f5f20c4c34ecf4895d", checked := Try.checked }
namespace Rows
def none {H : Type} : Left H := { results := [], args := [] }

/-- 'laws.FnExactCheckScript': WHATEVER THE INPUT: true; the input reads as it did. -/
def fnExactCheckScriptSpec : ChangeSpec := { name := "fnExactCheckScript", fn := fun _ => fun
  | [d] => { results := [.lit (.bool true)], args := [d] }
  | _ => none }
def fnExactCheckScriptRow : OpenClaim := { program := "ytgejkfcemlkclaa", sum := "9e6e88aa14a7267f2d2d71b723fef06f1621bdb8162418f5f20c4c34ecf4895d", func := "loop.example/g03011/laws.FnExactCheckScript", spec := "fnExactCheckScript", inPlace := ["internal/bytealg.IndexByteString", "internal/bytealg.IndexString"], recurses := true, named := ["internal/bytealg.MaxLen"], loops := true, apart := false }
def FnExactCheckScriptSaid : Prop := fnExactCheckScriptRow.holds Try.pinned (OpenSpec.ofChange fnExactCheckScriptSpec)

/-- ITS FALSE NEIGHBOUR: 'it returns false'. Refute it at one input. -/
def fnExactCheckScriptWrong : ChangeSpec := { name := "fnExactCheckScript", fn := fun _ => fun
  | [d] => { results := [.lit (.bool false)], args := [d] }
  | _ => none }
def FnExactCheckScriptWrongFalsely : Prop := fnExactCheckScriptRow.holds Try.pinned (OpenSpec.ofChange fnExactCheckScriptWrong)

/-- 'laws.FnScoped': WHATEVER THE INPUT: true; the input reads as it did. -/
def fnScopedSpec : ChangeSpec := { name := "fnScoped", fn := fun _ => fun
  | [d] => { results := [.lit (.bool true)], args := [d] }
  | _ => none }
def fnScopedRow : OpenClaim := { program := "ytgejkfcemlkclaa", sum := "9e6e88aa14a7267f2d2d71b723fef06f1621bdb8162418f5f20c4c34ecf4895d", func := "loop.example/g03011/laws.FnScoped", spec := "fnScoped", inPlace := ["internal/bytealg.IndexByteString", "internal/bytealg.IndexString"], unfollowed := true, recurses := true, named := ["internal/bytealg.MaxLen"], apart := false }
def FnScopedSaid : Prop := fnScopedRow.holds Try.pinned (OpenSpec.ofChange fnScopedSpec)

/-- ITS FALSE NEIGHBOUR: 'it returns false'. Refute it at one input. -/
def fnScopedWrong : ChangeSpec := { name := "fnScoped", fn := fun _ => fun
  | [d] => { results := [.lit (.bool false)], args := [d] }
  | _ => none }
def FnScopedWrongFalsely : Prop := fnScopedRow.holds Try.pinned (OpenSpec.ofChange fnScopedWrong)

/- THE SECOND FORM. 'bulk': how many values and letters a reading holds, each counted each time it is reached (what is shared counts as often as it is met; a slice's spare places count too). A statement '..UptoSaid' is the law's where the arguments, and the package variables that the reading takes, are together of bulk at most 1048576: NARROWER than '..Said'. Prove '..Said' where nothing that the law and all that it calls make is longer than what came in: it says more and counts as full. Else prove '..UptoSaid'. A law counts once. -/
mutual
def uptoBulk {H : Type} : DataW H → Nat
  | .lit (.string bytes) => bytes.length + 1
  | .lit _ => 1
  | .nil => 1
  | .ptr d => uptoBulk d + 1
  | .slice elems spare => uptoBulkAll elems + uptoBulkAll spare + 1
  | .agg parts => uptoBulkAll parts + 1
  | .iface _ d => uptoBulk d + 1
  | .map entries => uptoBulkEntries entries + 1
  | .held _ => 1
def uptoBulkAll {H : Type} : List (DataW H) → Nat
  | [] => 0
  | d :: r => uptoBulk d + uptoBulkAll r
def uptoBulkEntries {H : Type} : List (Lit × DataW H) → Nat
  | [] => 0
  | x :: r => uptoBulkEntry x + uptoBulkEntries r
def uptoBulkEntry {H : Type} : Lit × DataW H → Nat
  | (.string bytes, d) => bytes.length + uptoBulk d + 1
  | (_, d) => uptoBulk d + 1
 end
def uptoSmall : (H : Type) → List (DataW H) → Bool := fun _ ds => decide (uptoBulkAll ds ≤ 1048576)
def OpenSpec.upto (s : _root_.Go.ChangeSpec) : _root_.Go.OpenSpec := { _root_.Go.OpenSpec.ofChange s with cond := some uptoSmall }

/-- 'laws.FnExactCheckScript', WHERE WHAT IT READS IS OF BULK AT MOST 1048576: true; the input reads as it did. -/
def fnExactCheckScriptUptoRow : OpenClaim := { program := "ytgejkfcemlkclaa", sum := "9e6e88aa14a7267f2d2d71b723fef06f1621bdb8162418f5f20c4c34ecf4895d", func := "loop.example/g03011/laws.FnExactCheckScript", spec := "fnExactCheckScript", inPlace := ["internal/bytealg.IndexByteString", "internal/bytealg.IndexString"], recurses := true, named := ["internal/bytealg.MaxLen"], loops := true, apart := false, narrowed := true }
def FnExactCheckScriptUptoSaid : Prop := fnExactCheckScriptUptoRow.holds Try.pinned (OpenSpec.upto fnExactCheckScriptSpec)

/-- 'laws.FnScoped', WHERE WHAT IT READS IS OF BULK AT MOST 1048576: true; the input reads as it did. -/
def fnScopedUptoRow : OpenClaim := { program := "ytgejkfcemlkclaa", sum := "9e6e88aa14a7267f2d2d71b723fef06f1621bdb8162418f5f20c4c34ecf4895d", func := "loop.example/g03011/laws.FnScoped", spec := "fnScoped", inPlace := ["internal/bytealg.IndexByteString", "internal/bytealg.IndexString"], unfollowed := true, recurses := true, named := ["internal/bytealg.MaxLen"], apart := false, narrowed := true }
def FnScopedUptoSaid : Prop := fnScopedUptoRow.holds Try.pinned (OpenSpec.upto fnScopedSpec)

end Rows
end Go.Proofs.Ytgejkfcemlkclaa
