/-
  No cell of these rows narrows 'for every input' (looked for: loops, veiled, ifaces, maps, wideKeys, modest, calm, conditions, laid).
  DERIVED. THE GIVEN ROWS OF THIS SEAT. 10 by the template 'for every input the law returns true; each argument reads behind the call as it read before'; 0 by the template 'total and deterministic' (their statements: YtikebdhpgmejpaaTotals.lean).
  GIVEN WITH THE SEED: the statements are not yours to turn. If you find one false, say at which input.
  Laid BY PROGRAM, IN A SANDBOX (cutbox-rows.mjs): the forced cells as the released guide's own fill.sh prints them over the translation c4d636353f56ae1d… (all of the seat's roots in one cut). By AI agents, Wed Nov 11 2026. No macro, syntax, notation, axiom, sorry.
-/
import Derived.Test.YtikebdhpgmejpaaChecked
import GoSem.Claim
import GoSem.ClaimJoined
import GoSem.ClaimMapViews
import Derived.JoinedTies
import Derived.KernelRfl
namespace Go.Proofs.Ytikebdhpgmejpaa
/- THE CELL 'sum', in the pinned program and in every row, IS THE sha256 OF THE DUMP (.gsa) THAT YtikebdhpgmejpaaProg.lean LOADS. Nothing in Lean hashes anything: it is a label: what it is worth is what the hold of that sum in a sandbox is worth. -/
noncomputable def Try.pinned : Pinned := { name := "ytikebdhpgmejpaa", sum := "c4d636353f56ae1de9d7ad8de487970dab767bfc3abef2fa8c7bb99502bb0cff", checked := Try.checked }
namespace Rows
def none {H : Type} : Left H := { results := [], args := [] }

/-- 'laws.FnExactBufferText': WHATEVER THE INPUT: true; the input reads as it did. -/
def fnExactBufferTextSpec : ChangeSpec := { name := "fnExactBufferText", fn := fun _ => fun
  | [d] => { results := [.lit (.bool true)], args := [d] }
  | _ => none }
def fnExactBufferTextRow : OpenClaim := { program := "ytikebdhpgmejpaa", sum := "c4d636353f56ae1de9d7ad8de487970dab767bfc3abef2fa8c7bb99502bb0cff", func := "loop.example/g03011/laws.FnExactBufferText", spec := "fnExactBufferText", apart := false }
def FnExactBufferTextSaid : Prop := fnExactBufferTextRow.holds Try.pinned (OpenSpec.ofChange fnExactBufferTextSpec)

/-- ITS FALSE NEIGHBOUR: 'it returns false'. Refute it at one input. -/
def fnExactBufferTextWrong : ChangeSpec := { name := "fnExactBufferText", fn := fun _ => fun
  | [d] => { results := [.lit (.bool false)], args := [d] }
  | _ => none }
def FnExactBufferTextWrongFalsely : Prop := fnExactBufferTextRow.holds Try.pinned (OpenSpec.ofChange fnExactBufferTextWrong)

/-- 'laws.FnExactIsOutput': WHATEVER THE INPUT: true; the input reads as it did. -/
def fnExactIsOutputSpec : ChangeSpec := { name := "fnExactIsOutput", fn := fun _ => fun
  | [d] => { results := [.lit (.bool true)], args := [d] }
  | _ => none }
def fnExactIsOutputRow : OpenClaim := { program := "ytikebdhpgmejpaa", sum := "c4d636353f56ae1de9d7ad8de487970dab767bfc3abef2fa8c7bb99502bb0cff", func := "loop.example/g03011/laws.FnExactIsOutput", spec := "fnExactIsOutput", apart := false }
def FnExactIsOutputSaid : Prop := fnExactIsOutputRow.holds Try.pinned (OpenSpec.ofChange fnExactIsOutputSpec)

/-- ITS FALSE NEIGHBOUR: 'it returns false'. Refute it at one input. -/
def fnExactIsOutputWrong : ChangeSpec := { name := "fnExactIsOutput", fn := fun _ => fun
  | [d] => { results := [.lit (.bool false)], args := [d] }
  | _ => none }
def FnExactIsOutputWrongFalsely : Prop := fnExactIsOutputRow.holds Try.pinned (OpenSpec.ofChange fnExactIsOutputWrong)

/-- 'laws.FnExactCleanBuffer': WHATEVER THE INPUT: true; the input reads as it did. -/
def fnExactCleanBufferSpec : ChangeSpec := { name := "fnExactCleanBuffer", fn := fun _ => fun
  | [d] => { results := [.lit (.bool true)], args := [d] }
  | _ => none }
def fnExactCleanBufferRow : OpenClaim := { program := "ytikebdhpgmejpaa", sum := "c4d636353f56ae1de9d7ad8de487970dab767bfc3abef2fa8c7bb99502bb0cff", func := "loop.example/g03011/laws.FnExactCleanBuffer", spec := "fnExactCleanBuffer", apart := false }
def FnExactCleanBufferSaid : Prop := fnExactCleanBufferRow.holds Try.pinned (OpenSpec.ofChange fnExactCleanBufferSpec)

/-- ITS FALSE NEIGHBOUR: 'it returns false'. Refute it at one input. -/
def fnExactCleanBufferWrong : ChangeSpec := { name := "fnExactCleanBuffer", fn := fun _ => fun
  | [d] => { results := [.lit (.bool false)], args := [d] }
  | _ => none }
def FnExactCleanBufferWrongFalsely : Prop := fnExactCleanBufferRow.holds Try.pinned (OpenSpec.ofChange fnExactCleanBufferWrong)

/-- 'laws.FnExactStartBuffer': WHATEVER THE INPUT: true; the input reads as it did. -/
def fnExactStartBufferSpec : ChangeSpec := { name := "fnExactStartBuffer", fn := fun _ => fun
  | [d1, d2] => { results := [.lit (.bool true)], args := [d1, d2] }
  | _ => none }
def fnExactStartBufferRow : OpenClaim := { program := "ytikebdhpgmejpaa", sum := "c4d636353f56ae1de9d7ad8de487970dab767bfc3abef2fa8c7bb99502bb0cff", func := "loop.example/g03011/laws.FnExactStartBuffer", spec := "fnExactStartBuffer", apart := false }
def FnExactStartBufferSaid : Prop := fnExactStartBufferRow.holds Try.pinned (OpenSpec.ofChange fnExactStartBufferSpec)

/-- ITS FALSE NEIGHBOUR: 'it returns false'. Refute it at one input. -/
def fnExactStartBufferWrong : ChangeSpec := { name := "fnExactStartBuffer", fn := fun _ => fun
  | [d1, d2] => { results := [.lit (.bool false)], args := [d1, d2] }
  | _ => none }
def FnExactStartBufferWrongFalsely : Prop := fnExactStartBufferRow.holds Try.pinned (OpenSpec.ofChange fnExactStartBufferWrong)

/-- 'laws.FnExactEcho': WHATEVER THE INPUT: true; the input reads as it did. -/
def fnExactEchoSpec : ChangeSpec := { name := "fnExactEcho", fn := fun _ => fun
  | [d1, d2] => { results := [.lit (.bool true)], args := [d1, d2] }
  | _ => none }
def fnExactEchoRow : OpenClaim := { program := "ytikebdhpgmejpaa", sum := "c4d636353f56ae1de9d7ad8de487970dab767bfc3abef2fa8c7bb99502bb0cff", func := "loop.example/g03011/laws.FnExactEcho", spec := "fnExactEcho", apart := false }
def FnExactEchoSaid : Prop := fnExactEchoRow.holds Try.pinned (OpenSpec.ofChange fnExactEchoSpec)

/-- ITS FALSE NEIGHBOUR: 'it returns false'. Refute it at one input. -/
def fnExactEchoWrong : ChangeSpec := { name := "fnExactEcho", fn := fun _ => fun
  | [d1, d2] => { results := [.lit (.bool false)], args := [d1, d2] }
  | _ => none }
def FnExactEchoWrongFalsely : Prop := fnExactEchoRow.holds Try.pinned (OpenSpec.ofChange fnExactEchoWrong)

/-- 'laws.FnExactSetHeader': WHATEVER THE INPUT: true; the input reads as it did. -/
def fnExactSetHeaderSpec : ChangeSpec := { name := "fnExactSetHeader", fn := fun _ => fun
  | [d1, d2, d3] => { results := [.lit (.bool true)], args := [d1, d2, d3] }
  | _ => none }
def fnExactSetHeaderRow : OpenClaim := { program := "ytikebdhpgmejpaa", sum := "c4d636353f56ae1de9d7ad8de487970dab767bfc3abef2fa8c7bb99502bb0cff", func := "loop.example/g03011/laws.FnExactSetHeader", spec := "fnExactSetHeader", unfollowed := true, recurses := true, apart := false }
def FnExactSetHeaderSaid : Prop := fnExactSetHeaderRow.holds Try.pinned (OpenSpec.ofChange fnExactSetHeaderSpec)

/-- ITS FALSE NEIGHBOUR: 'it returns false'. Refute it at one input. -/
def fnExactSetHeaderWrong : ChangeSpec := { name := "fnExactSetHeader", fn := fun _ => fun
  | [d1, d2, d3] => { results := [.lit (.bool false)], args := [d1, d2, d3] }
  | _ => none }
def FnExactSetHeaderWrongFalsely : Prop := fnExactSetHeaderRow.holds Try.pinned (OpenSpec.ofChange fnExactSetHeaderWrong)

/-- 'laws.FnHeaders': WHATEVER THE INPUT: true; the input reads as it did. -/
def fnHeadersSpec : ChangeSpec := { name := "fnHeaders", fn := fun _ => fun
  | [d] => { results := [.lit (.bool true)], args := [d] }
  | _ => none }
def fnHeadersRow : OpenClaim := { program := "ytikebdhpgmejpaa", sum := "c4d636353f56ae1de9d7ad8de487970dab767bfc3abef2fa8c7bb99502bb0cff", func := "loop.example/g03011/laws.FnHeaders", spec := "fnHeaders", unfollowed := true, recurses := true, apart := false }
def FnHeadersSaid : Prop := fnHeadersRow.holds Try.pinned (OpenSpec.ofChange fnHeadersSpec)

/-- ITS FALSE NEIGHBOUR: 'it returns false'. Refute it at one input. -/
def fnHeadersWrong : ChangeSpec := { name := "fnHeaders", fn := fun _ => fun
  | [d] => { results := [.lit (.bool false)], args := [d] }
  | _ => none }
def FnHeadersWrongFalsely : Prop := fnHeadersRow.holds Try.pinned (OpenSpec.ofChange fnHeadersWrong)

/-- 'laws.FnExactEndBuffer': WHATEVER THE INPUT: true; the input reads as it did. -/
def fnExactEndBufferSpec : ChangeSpec := { name := "fnExactEndBuffer", fn := fun _ => fun
  | [d] => { results := [.lit (.bool true)], args := [d] }
  | _ => none }
def fnExactEndBufferRow : OpenClaim := { program := "ytikebdhpgmejpaa", sum := "c4d636353f56ae1de9d7ad8de487970dab767bfc3abef2fa8c7bb99502bb0cff", func := "loop.example/g03011/laws.FnExactEndBuffer", spec := "fnExactEndBuffer", inPlace := ["internal/bytealg.IndexByteString"], apart := false }
def FnExactEndBufferSaid : Prop := fnExactEndBufferRow.holds Try.pinned (OpenSpec.ofChange fnExactEndBufferSpec)

/-- ITS FALSE NEIGHBOUR: 'it returns false'. Refute it at one input. -/
def fnExactEndBufferWrong : ChangeSpec := { name := "fnExactEndBuffer", fn := fun _ => fun
  | [d] => { results := [.lit (.bool false)], args := [d] }
  | _ => none }
def FnExactEndBufferWrongFalsely : Prop := fnExactEndBufferRow.holds Try.pinned (OpenSpec.ofChange fnExactEndBufferWrong)

/-- 'laws.FnOutput': WHATEVER THE INPUT: true; the input reads as it did. -/
def fnOutputSpec : ChangeSpec := { name := "fnOutput", fn := fun _ => fun
  | [d] => { results := [.lit (.bool true)], args := [d] }
  | _ => none }
def fnOutputRow : OpenClaim := { program := "ytikebdhpgmejpaa", sum := "c4d636353f56ae1de9d7ad8de487970dab767bfc3abef2fa8c7bb99502bb0cff", func := "loop.example/g03011/laws.FnOutput", spec := "fnOutput", inPlace := ["internal/bytealg.IndexByteString"], apart := false }
def FnOutputSaid : Prop := fnOutputRow.holds Try.pinned (OpenSpec.ofChange fnOutputSpec)

/-- ITS FALSE NEIGHBOUR: 'it returns false'. Refute it at one input. -/
def fnOutputWrong : ChangeSpec := { name := "fnOutput", fn := fun _ => fun
  | [d] => { results := [.lit (.bool false)], args := [d] }
  | _ => none }
def FnOutputWrongFalsely : Prop := fnOutputRow.holds Try.pinned (OpenSpec.ofChange fnOutputWrong)

/-- 'laws.FnExactFlushAll': WHATEVER THE INPUT: true; the input reads as it did. -/
def fnExactFlushAllSpec : ChangeSpec := { name := "fnExactFlushAll", fn := fun _ => fun
  | [d] => { results := [.lit (.bool true)], args := [d] }
  | _ => none }
def fnExactFlushAllRow : OpenClaim := { program := "ytikebdhpgmejpaa", sum := "c4d636353f56ae1de9d7ad8de487970dab767bfc3abef2fa8c7bb99502bb0cff", func := "loop.example/g03011/laws.FnExactFlushAll", spec := "fnExactFlushAll", inPlace := ["internal/bytealg.IndexByteString"], apart := false }
def FnExactFlushAllSaid : Prop := fnExactFlushAllRow.holds Try.pinned (OpenSpec.ofChange fnExactFlushAllSpec)

/-- ITS FALSE NEIGHBOUR: 'it returns false'. Refute it at one input. -/
def fnExactFlushAllWrong : ChangeSpec := { name := "fnExactFlushAll", fn := fun _ => fun
  | [d] => { results := [.lit (.bool false)], args := [d] }
  | _ => none }
def FnExactFlushAllWrongFalsely : Prop := fnExactFlushAllRow.holds Try.pinned (OpenSpec.ofChange fnExactFlushAllWrong)

/- THE SECOND FORM. 'bulk': how many values and letters a reading holds, each counted each time it is reached (what is shared counts as often as it is met; a slice's spare places count too). A statement '..UptoSaid' is the law's where the arguments, and the package variables that the reading takes, are together of bulk at most 1048576: NARROWER than '..Said'. Prove '..Said' where nothing that the law and all that it calls make is longer than what came in: it says more and counts as full. Else prove '..UptoSaid'. A law counts once. -/
mutual
def uptoBulk {H : Type} : DataW H → Nat
  | .lit (.string bytes) => bytes.length + 1
  | .lit _ => 1
  | .nil => 1
  | .ptr d => uptoBulk d + 1
  | .slice elems spare => uptoBulkAll elems + uptoBulkAll spare + 1
  | .agg parts => uptoBulkAll parts + 1
  | .iface _ d => uptoBulk d + 1
  | .map entries => uptoBulkEntries entries + 1
  | .held _ => 1
def uptoBulkAll {H : Type} : List (DataW H) → Nat
  | [] => 0
  | d :: r => uptoBulk d + uptoBulkAll r
def uptoBulkEntries {H : Type} : List (Lit × DataW H) → Nat
  | [] => 0
  | x :: r => uptoBulkEntry x + uptoBulkEntries r
def uptoBulkEntry {H : Type} : Lit × DataW H → Nat
  | (.string bytes, d) => bytes.length + uptoBulk d + 1
  | (_, d) => uptoBulk d + 1
 end
def uptoSmall : (H : Type) → List (DataW H) → Bool := fun _ ds => decide (uptoBulkAll ds ≤ 1048576)
def OpenSpec.upto (s : _root_.Go.ChangeSpec) : _root_.Go.OpenSpec := { _root_.Go.OpenSpec.ofChange s with cond := some uptoSmall }

/-- 'laws.FnExactBufferText', WHERE WHAT IT READS IS OF BULK AT MOST 1048576: true; the input reads as it did. -/
def fnExactBufferTextUptoRow : OpenClaim := { program := "ytikebdhpgmejpaa", sum := "c4d636353f56ae1de9d7ad8de487970dab767bfc3abef2fa8c7bb99502bb0cff", func := "loop.example/g03011/laws.FnExactBufferText", spec := "fnExactBufferText", apart := false, narrowed := true }
def FnExactBufferTextUptoSaid : Prop := fnExactBufferTextUptoRow.holds Try.pinned (OpenSpec.upto fnExactBufferTextSpec)

/-- 'laws.FnExactIsOutput', WHERE WHAT IT READS IS OF BULK AT MOST 1048576: true; the input reads as it did. -/
def fnExactIsOutputUptoRow : OpenClaim := { program := "ytikebdhpgmejpaa", sum := "c4d636353f56ae1de9d7ad8de487970dab767bfc3abef2fa8c7bb99502bb0cff", func := "loop.example/g03011/laws.FnExactIsOutput", spec := "fnExactIsOutput", apart := false, narrowed := true }
def FnExactIsOutputUptoSaid : Prop := fnExactIsOutputUptoRow.holds Try.pinned (OpenSpec.upto fnExactIsOutputSpec)

/-- 'laws.FnExactCleanBuffer', WHERE WHAT IT READS IS OF BULK AT MOST 1048576: true; the input reads as it did. -/
def fnExactCleanBufferUptoRow : OpenClaim := { program := "ytikebdhpgmejpaa", sum := "c4d636353f56ae1de9d7ad8de487970dab767bfc3abef2fa8c7bb99502bb0cff", func := "loop.example/g03011/laws.FnExactCleanBuffer", spec := "fnExactCleanBuffer", apart := false, narrowed := true }
def FnExactCleanBufferUptoSaid : Prop := fnExactCleanBufferUptoRow.holds Try.pinned (OpenSpec.upto fnExactCleanBufferSpec)

/-- 'laws.FnExactStartBuffer', WHERE WHAT IT READS IS OF BULK AT MOST 1048576: true; the input reads as it did. -/
def fnExactStartBufferUptoRow : OpenClaim := { program := "ytikebdhpgmejpaa", sum := "c4d636353f56ae1de9d7ad8de487970dab767bfc3abef2fa8c7bb99502bb0cff", func := "loop.example/g03011/laws.FnExactStartBuffer", spec := "fnExactStartBuffer", apart := false, narrowed := true }
def FnExactStartBufferUptoSaid : Prop := fnExactStartBufferUptoRow.holds Try.pinned (OpenSpec.upto fnExactStartBufferSpec)

/-- 'laws.FnExactEcho', WHERE WHAT IT READS IS OF BULK AT MOST 1048576: true; the input reads as it did. -/
def fnExactEchoUptoRow : OpenClaim := { program := "ytikebdhpgmejpaa", sum := "c4d636353f56ae1de9d7ad8de487970dab767bfc3abef2fa8c7bb99502bb0cff", func := "loop.example/g03011/laws.FnExactEcho", spec := "fnExactEcho", apart := false, narrowed := true }
def FnExactEchoUptoSaid : Prop := fnExactEchoUptoRow.holds Try.pinned (OpenSpec.upto fnExactEchoSpec)

/-- 'laws.FnExactSetHeader', WHERE WHAT IT READS IS OF BULK AT MOST 1048576: true; the input reads as it did. -/
def fnExactSetHeaderUptoRow : OpenClaim := { program := "ytikebdhpgmejpaa", sum := "c4d636353f56ae1de9d7ad8de487970dab767bfc3abef2fa8c7bb99502bb0cff", func := "loop.example/g03011/laws.FnExactSetHeader", spec := "fnExactSetHeader", unfollowed := true, recurses := true, apart := false, narrowed := true }
def FnExactSetHeaderUptoSaid : Prop := fnExactSetHeaderUptoRow.holds Try.pinned (OpenSpec.upto fnExactSetHeaderSpec)

/-- 'laws.FnHeaders', WHERE WHAT IT READS IS OF BULK AT MOST 1048576: true; the input reads as it did. -/
def fnHeadersUptoRow : OpenClaim := { program := "ytikebdhpgmejpaa", sum := "c4d636353f56ae1de9d7ad8de487970dab767bfc3abef2fa8c7bb99502bb0cff", func := "loop.example/g03011/laws.FnHeaders", spec := "fnHeaders", unfollowed := true, recurses := true, apart := false, narrowed := true }
def FnHeadersUptoSaid : Prop := fnHeadersUptoRow.holds Try.pinned (OpenSpec.upto fnHeadersSpec)

/-- 'laws.FnExactEndBuffer', WHERE WHAT IT READS IS OF BULK AT MOST 1048576: true; the input reads as it did. -/
def fnExactEndBufferUptoRow : OpenClaim := { program := "ytikebdhpgmejpaa", sum := "c4d636353f56ae1de9d7ad8de487970dab767bfc3abef2fa8c7bb99502bb0cff", func := "loop.example/g03011/laws.FnExactEndBuffer", spec := "fnExactEndBuffer", inPlace := ["internal/bytealg.IndexByteString"], apart := false, narrowed := true }
def FnExactEndBufferUptoSaid : Prop := fnExactEndBufferUptoRow.holds Try.pinned (OpenSpec.upto fnExactEndBufferSpec)

/-- 'laws.FnOutput', WHERE WHAT IT READS IS OF BULK AT MOST 1048576: true; the input reads as it did. -/
def fnOutputUptoRow : OpenClaim := { program := "ytikebdhpgmejpaa", sum := "c4d636353f56ae1de9d7ad8de487970dab767bfc3abef2fa8c7bb99502bb0cff", func := "loop.example/g03011/laws.FnOutput", spec := "fnOutput", inPlace := ["internal/bytealg.IndexByteString"], apart := false, narrowed := true }
def FnOutputUptoSaid : Prop := fnOutputUptoRow.holds Try.pinned (OpenSpec.upto fnOutputSpec)

/-- 'laws.FnExactFlushAll', WHERE WHAT IT READS IS OF BULK AT MOST 1048576: true; the input reads as it did. -/
def fnExactFlushAllUptoRow : OpenClaim := { program := "ytikebdhpgmejpaa", sum := "c4d636353f56ae1de9d7ad8de487970dab767bfc3abef2fa8c7bb99502bb0cff", func := "loop.example/g03011/laws.FnExactFlushAll", spec := "fnExactFlushAll", inPlace := ["internal/bytealg.IndexByteString"], apart := false, narrowed := true }
def FnExactFlushAllUptoSaid : Prop := fnExactFlushAllUptoRow.holds Try.pinned (OpenSpec.upto fnExactFlushAllSpec)

end Rows
end Go.Proofs.Ytikebdhpgmejpaa
