/-
  Parts of the proof: IsIns. Conditions: none.
-/
import Derived.Test.YtdmbhmhfjappcaaGreatDoorQIsInsS0
import Derived.Test.YtdmbhmhfjappcaaGreatDoorQIsInsS1
import Derived.Test.YtdmbhmhfjappcaaGreatDoorQIsInsS2
import Derived.Test.YtdmbhmhfjappcaaGreatDoorQIsInsS3
import Derived.Test.YtdmbhmhfjappcaaGreatDoorQIsInsS4
import Derived.Test.YtdmbhmhfjappcaaGreatDoorQIsInsI0
import Derived.Test.YtdmbhmhfjappcaaGreatDoorQIsInsI1
import Derived.Test.YtdmbhmhfjappcaaGreatDoorQIsInsI2
import Derived.Test.YtdmbhmhfjappcaaGreatDoorQIsInsI3
import Derived.Test.YtdmbhmhfjappcaaGreatDoorQIsInsI4
namespace Go.Proofs.YtdmbhmhfjappcaaGreatDoor
open Go.ChangeShapes Go.WideShapes Go.ChangeAt Go.RowKit Go.Deep Go.Joins
open Go.ChangeMaps (open_string shut_string)
set_option linter.unusedVariables false
set_option linter.unusedSimpArgs false
theorem isIns_spec (op a b : Int) (s t : ByteArray) (slots size : Int) (w : World) (hs : s.size ≤ 9223372036854775807) (ht : t.size ≤ 9223372036854775807) :
    Calls Tryz.prog 52 #[insV op a b s t, .int .i64 slots, .int .i64 size] w fun e w' => e = .returned (.bool (insF op a b s t slots size)) ∧ Below w.heap.size w w' := by
  by_cases h : op < 1 ∨ 56 < op
  · exact isIns_spec_out op a b s t slots size w hs ht h
  by_cases h25 : op = 25
  · exact isIns_spec_25 op a b s t slots size w hs ht h25
  by_cases h0 : op ≤ 7
  · exact isIns_spec_c0 op a b s t slots size w hs ht (by omega)
  by_cases h1 : op ≤ 14
  · exact isIns_spec_c1 op a b s t slots size w hs ht (by omega)
  by_cases h2 : op ≤ 21
  · exact isIns_spec_c2 op a b s t slots size w hs ht (by omega)
  by_cases h3 : op ≤ 28
  · exact isIns_spec_c3 op a b s t slots size w hs ht (by omega)
  by_cases h4 : op ≤ 35
  · exact isIns_spec_c4 op a b s t slots size w hs ht (by omega)
  by_cases h5 : op ≤ 42
  · exact isIns_spec_c5 op a b s t slots size w hs ht (by omega)
  by_cases h6 : op ≤ 49
  · exact isIns_spec_c6 op a b s t slots size w hs ht (by omega)
  by_cases h7 : op ≤ 56
  · exact isIns_spec_c7 op a b s t slots size w hs ht (by omega)
  omega
theorem isIns_impl (op a b : Int) (s t : ByteArray) (slots size : Int) (w : World) (hs : s.size ≤ 9223372036854775807) (ht : t.size ≤ 9223372036854775807) :
    Calls Tryz.prog 67 #[insV op a b s t, .int .i64 slots, .int .i64 size] w fun e w' => e = .returned (.bool (insF op a b s t slots size)) ∧ Below w.heap.size w w' := by
  by_cases h : op < 1 ∨ 56 < op
  · exact isIns_impl_out op a b s t slots size w hs ht h
  by_cases h0 : op ≤ 7
  · exact isIns_impl_c0 op a b s t slots size w hs ht (by omega)
  by_cases h1 : op ≤ 14
  · exact isIns_impl_c1 op a b s t slots size w hs ht (by omega)
  by_cases h2 : op ≤ 21
  · exact isIns_impl_c2 op a b s t slots size w hs ht (by omega)
  by_cases h3 : op ≤ 28
  · exact isIns_impl_c3 op a b s t slots size w hs ht (by omega)
  by_cases h4 : op ≤ 35
  · exact isIns_impl_c4 op a b s t slots size w hs ht (by omega)
  by_cases h5 : op ≤ 42
  · exact isIns_impl_c5 op a b s t slots size w hs ht (by omega)
  by_cases h6 : op ≤ 49
  · exact isIns_impl_c6 op a b s t slots size w hs ht (by omega)
  by_cases h7 : op ≤ 56
  · exact isIns_impl_c7 op a b s t slots size w hs ht (by omega)
  omega
end Go.Proofs.YtdmbhmhfjappcaaGreatDoor
