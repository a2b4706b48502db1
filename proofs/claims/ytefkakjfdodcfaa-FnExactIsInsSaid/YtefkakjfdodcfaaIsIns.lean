/-
  IsIns of both packages returns what one Lean function says, for all arguments; the law about it returns true. Conditions: none.
-/
import Derived.Test.YtefkakjfdodcfaaIsInsS0
import Derived.Test.YtefkakjfdodcfaaIsInsS1
import Derived.Test.YtefkakjfdodcfaaIsInsS2
import Derived.Test.YtefkakjfdodcfaaIsInsS3
import Derived.Test.YtefkakjfdodcfaaIsInsS4
import Derived.Test.YtefkakjfdodcfaaIsInsI0
import Derived.Test.YtefkakjfdodcfaaIsInsI1
import Derived.Test.YtefkakjfdodcfaaIsInsI2
import Derived.Test.YtefkakjfdodcfaaIsInsI3
import Derived.Test.YtefkakjfdodcfaaIsInsI4
namespace Go.Proofs.Ytefkakjfdodcfaa
open Go.ChangeShapes Go.WideShapes Go.ChangeAt Go.RowKit Go.Deep Go.Joins
open Go.ChangeMaps (open_string shut_string)
set_option linter.unusedVariables false
set_option linter.unusedSimpArgs false
theorem isIns_spec (op a b : Int) (s t : ByteArray) (slots size : Int) (w : World) (hs : s.size ≤ 9223372036854775807) (ht : t.size ≤ 9223372036854775807) :
    Calls Try.prog 27 #[insV op a b s t, .int .i64 slots, .int .i64 size] w fun e w' => e = .returned (.bool (insF op a b s t slots size)) ∧ Below w.heap.size w w' := by
  by_cases h : op < 1 ∨ 56 < op
  · exact isIns_spec_out op a b s t slots size w hs ht h
  by_cases h25 : op = 25
  · exact isIns_spec_25 op a b s t slots size w hs ht h25
  by_cases h0 : op ≤ 7
  · exact isIns_spec_c0 op a b s t slots size w hs ht (by omega)
  by_cases h1 : op ≤ 14
  · exact isIns_spec_c1 op a b s t slots size w hs ht (by omega)
  by_cases h2 : op ≤ 21
  · exact isIns_spec_c2 op a b s t slots size w hs ht (by omega)
  by_cases h3 : op ≤ 28
  · exact isIns_spec_c3 op a b s t slots size w hs ht (by omega)
  by_cases h4 : op ≤ 35
  · exact isIns_spec_c4 op a b s t slots size w hs ht (by omega)
  by_cases h5 : op ≤ 42
  · exact isIns_spec_c5 op a b s t slots size w hs ht (by omega)
  by_cases h6 : op ≤ 49
  · exact isIns_spec_c6 op a b s t slots size w hs ht (by omega)
  by_cases h7 : op ≤ 56
  · exact isIns_spec_c7 op a b s t slots size w hs ht (by omega)
  omega
theorem isIns_impl (op a b : Int) (s t : ByteArray) (slots size : Int) (w : World) (hs : s.size ≤ 9223372036854775807) (ht : t.size ≤ 9223372036854775807) :
    Calls Try.prog 28 #[insV op a b s t, .int .i64 slots, .int .i64 size] w fun e w' => e = .returned (.bool (insF op a b s t slots size)) ∧ Below w.heap.size w w' := by
  by_cases h : op < 1 ∨ 56 < op
  · exact isIns_impl_out op a b s t slots size w hs ht h
  by_cases h0 : op ≤ 7
  · exact isIns_impl_c0 op a b s t slots size w hs ht (by omega)
  by_cases h1 : op ≤ 14
  · exact isIns_impl_c1 op a b s t slots size w hs ht (by omega)
  by_cases h2 : op ≤ 21
  · exact isIns_impl_c2 op a b s t slots size w hs ht (by omega)
  by_cases h3 : op ≤ 28
  · exact isIns_impl_c3 op a b s t slots size w hs ht (by omega)
  by_cases h4 : op ≤ 35
  · exact isIns_impl_c4 op a b s t slots size w hs ht (by omega)
  by_cases h5 : op ≤ 42
  · exact isIns_impl_c5 op a b s t slots size w hs ht (by omega)
  by_cases h6 : op ≤ 49
  · exact isIns_impl_c6 op a b s t slots size w hs ht (by omega)
  by_cases h7 : op ≤ 56
  · exact isIns_impl_c7 op a b s t slots size w hs ht (by omega)
  omega
section
variable {H : Type} {enc : TypeId × Value → H}
theorem fnExactIsIns_walk (W : World) (base : Nat) (v0 v1 v2 : Value) {d0 d1 d2 : DataW H} {p0 p1 p2 : List MemPlace} (k0 : Value.okWide Try.prog W .any base 28 v0) (k1 : Value.okWide Try.prog W .any base 3 v1) (k2 : Value.okWide Try.prog W .any base 3 v2)
    (h0 : DataW.Trod enc Try.prog W 0 (fun _ => true) true 28 v0 d0 p0) (h1 : DataW.Trod enc Try.prog W 0 (fun _ => true) true 3 v1 d1 p1) (h2 : DataW.Trod enc Try.prog W 0 (fun _ => true) true 3 v2 d2 p2) :
    Calls Try.prog 10 #[v0, v1, v2] W fun e w' => e = .returned (.bool true) ∧ Below W.heap.size W w' := by
  obtain ⟨op, a, b, s, t, rfl, hs, ht, _, _, _⟩ := open_ins k0 h0
  obtain ⟨slots, rfl, rfl, rfl, _⟩ := open_int Try.underlying3 k1 h1
  obtain ⟨size, rfl, rfl, rfl, _⟩ := open_int Try.underlying3 k2 h2
  unfold maxLen at hs ht
  go_enter Try.func10, Try.ntmps10
  go_wp2_with fail
  refine (szIns_any _ _ _ _ _ _ _ (by omega) (by omega) (by omega) (by omega)).mono ?_
  rintro e w1 ⟨rfl, hb1⟩
  obtain ⟨hc1, hf1⟩ := bcell hb1
  have hz1 : W.heap.size + 1 ≤ w1.heap.size := by have := hb1.size; simpa using this
  have hB1 : Below W.heap.size W w1 := ((Below.refl _ _).alloc (Nat.le_refl _) _).trans (hb1.mono (by simp))
  by_cases hn : szInsF s t 1048576 < 0
  · go_wp2_with fail
    go_ret
    exact ⟨rfl, hB1⟩
  · go_wp2_with fail
    refine (toIns_any _ _ _ _ _ _).mono ?_
    rintro e w2 ⟨rfl, hb2⟩
    have hB2 : Below (W.heap.size + 1) w1 w2 := hb2.mono hz1
    obtain ⟨hc2, hf2⟩ := bcell hB2
    go_wp2_with fail
    refine (isIns_spec _ _ _ _ _ _ _ _ hs ht).mono ?_
    rintro e w3 ⟨rfl, hb3⟩
    have hB3 : Below (W.heap.size + 1) w2 w3 := hb3.mono (by have := hB2.size; omega)
    obtain ⟨hc3, hf3⟩ := bcell hB3
    go_wp2_with fail
    refine (toIns_any _ _ _ _ _ _).mono ?_
    rintro e w4 ⟨rfl, hb4⟩
    have hB4 : Below (W.heap.size + 1) w3 w4 := hb4.mono (by have := hB2.size; have := hB3.size; omega)
    obtain ⟨hc4, hf4⟩ := bcell hB4
    go_wp2_with fail
    refine (isIns_impl _ _ _ _ _ _ _ _ hs ht).mono ?_
    rintro e w5 ⟨rfl, hb5⟩
    have hB5 : Below (W.heap.size + 1) w4 w5 := hb5.mono (by have := hB2.size; have := hB3.size; have := hB4.size; omega)
    go_wp2_with fail
    go_ret
    exact ⟨rfl, hB1.trans ((((hB2.trans hB3).trans hB4).trans hB5).mono (by omega))⟩
end
end Go.Proofs.Ytefkakjfdodcfaa
