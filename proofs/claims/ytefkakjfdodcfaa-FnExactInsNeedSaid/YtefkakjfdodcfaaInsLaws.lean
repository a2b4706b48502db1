/-
  The laws about InsNeed and InsChange return true for all arguments. Conditions: none.
-/
import Derived.Test.YtefkakjfdodcfaaIns
namespace Go.Proofs.Ytefkakjfdodcfaa
open Go.ChangeShapes Go.WideShapes Go.ChangeAt Go.RowKit Go.Deep Go.Joins
open Go.ChangeMaps (open_string shut_string)
set_option linter.unusedVariables false
section
variable {H : Type} {enc : TypeId × Value → H}

theorem fnExactInsNeed_walk (W : World) (base : Nat) (v0 : Value) {d0 : DataW H} {p0 : List MemPlace} (k0 : Value.okWide Try.prog W .any base 28 v0) (h0 : DataW.Trod enc Try.prog W 0 (fun _ => true) true 28 v0 d0 p0) :
    Calls Try.prog 8 #[v0] W fun e w' => e = .returned (.bool true) ∧ Below W.heap.size W w' := by
  obtain ⟨op, a, b, s, t, rfl, hs, ht, _, _, _⟩ := open_ins k0 h0
  unfold maxLen at hs ht
  go_enter Try.func8, Try.ntmps8
  go_wp2_with fail
  refine (szIns_any _ _ _ _ _ _ _ (by omega) (by omega) (by omega) (by omega)).mono ?_
  rintro e w1 ⟨rfl, hb1⟩
  obtain ⟨hc1, hf1⟩ := bcell hb1
  have hz1 : W.heap.size + 1 ≤ w1.heap.size := by have := hb1.size; simpa using this
  have hB1 : Below W.heap.size W w1 := ((Below.refl _ _).alloc (Nat.le_refl _) _).trans (hb1.mono (by simp))
  by_cases hn : szInsF s t 1048576 < 0
  · go_wp2_with fail
    go_ret
    exact ⟨rfl, hB1⟩
  · go_wp2_with fail
    refine (toIns_any _ _ _ _ _ _).mono ?_
    rintro e w2 ⟨rfl, hb2⟩
    have hB2 : Below (W.heap.size + 1) w1 w2 := hb2.mono hz1
    obtain ⟨hc2, hf2⟩ := bcell hB2
    go_wp2_with fail
    refine (need_spec _ _ _ _ _ _).mono ?_
    rintro e w3 ⟨rfl, hb3⟩
    have hB3 : Below (W.heap.size + 1) w2 w3 := hb3.mono (by have := hB2.size; omega)
    obtain ⟨hc3, hf3⟩ := bcell hB3
    go_wp2_with fail
    refine (toIns_any _ _ _ _ _ _).mono ?_
    rintro e w4 ⟨rfl, hb4⟩
    have hB4 : Below (W.heap.size + 1) w3 w4 := hb4.mono (by have := hB2.size; have := hB3.size; omega)
    obtain ⟨hc4, hf4⟩ := bcell hB4
    go_wp2_with fail
    refine (need_impl _ _ _ _ _ _).mono ?_
    rintro e w5 ⟨rfl, hb5⟩
    have hB5 : Below (W.heap.size + 1) w4 w5 := hb5.mono (by have := hB2.size; have := hB3.size; have := hB4.size; omega)
    go_wp2_with fail
    go_ret
    exact ⟨rfl, hB1.trans ((((hB2.trans hB3).trans hB4).trans hB5).mono (by omega))⟩

theorem fnExactInsChange_walk (W : World) (base : Nat) (v0 : Value) {d0 : DataW H} {p0 : List MemPlace} (k0 : Value.okWide Try.prog W .any base 28 v0) (h0 : DataW.Trod enc Try.prog W 0 (fun _ => true) true 28 v0 d0 p0) :
    Calls Try.prog 9 #[v0] W fun e w' => e = .returned (.bool true) ∧ Below W.heap.size W w' := by
  obtain ⟨op, a, b, s, t, rfl, hs, ht, _, _, _⟩ := open_ins k0 h0
  unfold maxLen at hs ht
  go_enter Try.func9, Try.ntmps9
  go_wp2_with fail
  refine (szIns_any _ _ _ _ _ _ _ (by omega) (by omega) (by omega) (by omega)).mono ?_
  rintro e w1 ⟨rfl, hb1⟩
  obtain ⟨hc1, hf1⟩ := bcell hb1
  have hz1 : W.heap.size + 1 ≤ w1.heap.size := by have := hb1.size; simpa using this
  have hB1 : Below W.heap.size W w1 := ((Below.refl _ _).alloc (Nat.le_refl _) _).trans (hb1.mono (by simp))
  by_cases hn : szInsF s t 1048576 < 0
  · go_wp2_with fail
    go_ret
    exact ⟨rfl, hB1⟩
  · go_wp2_with fail
    refine (toIns_any _ _ _ _ _ _).mono ?_
    rintro e w2 ⟨rfl, hb2⟩
    have hB2 : Below (W.heap.size + 1) w1 w2 := hb2.mono hz1
    obtain ⟨hc2, hf2⟩ := bcell hB2
    go_wp2_with fail
    refine (change_spec _ _ _ _ _ _).mono ?_
    rintro e w3 ⟨rfl, hb3⟩
    have hB3 : Below (W.heap.size + 1) w2 w3 := hb3.mono (by have := hB2.size; omega)
    obtain ⟨hc3, hf3⟩ := bcell hB3
    go_wp2_with fail
    refine (toIns_any _ _ _ _ _ _).mono ?_
    rintro e w4 ⟨rfl, hb4⟩
    have hB4 : Below (W.heap.size + 1) w3 w4 := hb4.mono (by have := hB2.size; have := hB3.size; omega)
    obtain ⟨hc4, hf4⟩ := bcell hB4
    go_wp2_with fail
    refine (change_impl _ _ _ _ _ _).mono ?_
    rintro e w5 ⟨rfl, hb5⟩
    have hB5 : Below (W.heap.size + 1) w4 w5 := hb5.mono (by have := hB2.size; have := hB3.size; have := hB4.size; omega)
    go_wp2_with fail
    go_ret
    exact ⟨rfl, hB1.trans ((((hB2.trans hB3).trans hB4).trans hB5).mono (by omega))⟩
end
end Go.Proofs.Ytefkakjfdodcfaa
