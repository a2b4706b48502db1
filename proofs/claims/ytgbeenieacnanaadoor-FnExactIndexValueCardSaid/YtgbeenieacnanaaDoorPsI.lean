/-
  ParseSigned of both packages. Conditions: none; the program's reads the listed variables.
-/
import Derived.Test.YtgbeenieacnanaaDoorPsV
import Derived.Test.YtgbeenieacnanaaDoorPsP
import Derived.Test.YtgbeenieacnanaaDoorFmt
import Derived.Shelf.Strconv.AtoiAll
namespace Go.Proofs.YtgbeenieacnanaaDoor
open Go.ChangeShapes Go.WideShapes Go.ChangeAt Go.RowKit Go.Deep Go.Joins Go.Shelf
open Go.ChangeMaps (open_string shut_string)
set_option linter.unusedVariables false
set_option linter.unusedSimpArgs false
set_option maxRecDepth 100000
shelf_lay LaysC.n172 Nm 172 at Tryd as laysAtoi
theorem atoi_ok (s : ByteArray) (hl : s.size ≤ 100) (v : Int) (h : Lib.atoiAll s.data.toList = .ok v) (w : World) : Calls Tryd.prog 75 #[.string s] w fun e w' => e = .returned (.tuple #[.int .i64 v, .nilIface]) ∧ Below w.heap.size w w' := by
  refine (Any.strconv_Atoi_ok laysAtoi s (by omega) v h w).mono ?_
  rintro e w' ⟨rfl, hw⟩
  refine ⟨rfl, ?_⟩
  rcases hw with rfl | ⟨t, rfl⟩
  · exact Below.refl _ _
  · exact Lib.bytesWorld_below _ _ _
theorem atoi_bad (s : ByteArray) (hl : s.size ≤ 100) (h : ∀ v, Lib.atoiAll s.data.toList ≠ .ok v) (w : World) (hE : TabE w) : Calls Tryd.prog 75 #[.string s] w fun e w' => (∃ z te pe, e = .returned (.tuple #[.int .i64 z, .iface te pe])) ∧ Below w.heap.size w w' := by
  obtain ⟨⟨te1, pe1, h1⟩, te2, pe2, h2⟩ := hE
  cases hA : Lib.atoiAll s.data.toList with
  | ok v => exact absurd hA (h v)
  | «syntax» =>
    refine (Any.strconv_Atoi_syntax laysAtoi s (by omega) hA _ w h1 (Or.inr ⟨_, _, rfl⟩)).mono ?_
    rintro e w' ⟨N, rfl, -, -, hb⟩
    exact ⟨⟨_, _, _, rfl⟩, hb⟩
  | range =>
    refine (Any.strconv_Atoi_range laysAtoi s (by omega) hA _ w h2 (Or.inr ⟨_, _, rfl⟩)).mono ?_
    rintro e w' ⟨N, rfl, -, -, hb⟩
    exact ⟨⟨_, _, _, rfl⟩, hb⟩
theorem itoa_any (n : Int) (h0 : -9223372036854775808 ≤ n) (h1 : n ≤ 9223372036854775807) (w : World) (hT : TabP w) : Calls Tryd.prog 76 #[.int .i64 n] w fun e w' => e = .returned (.string (itoG n)) ∧ Below w.heap.size w w' := by
  refine (Any.strconv_Itoa laysItoa n h0 h1 w hT).mono ?_
  rintro e w' ⟨rfl, k, os, rfl⟩
  exact ⟨rfl, below_grewN _ _ _⟩
set_option maxHeartbeats 1000000 in
theorem pw_impl (s : ByteArray) (w : World) (hV : TabV w) : Calls Tryd.prog 69 #[.string s, .int .i64 (-1000000000), .int .i64 1000000000] w fun e w' => e = .returned (.tuple #[.int .i64 ((psF s).getD 0), .bool (psF s).isSome]) ∧ Below w.heap.size w w' := by
  have HV := Lib.hid hV
  clear hV
  by_cases h20 : 20 < s.size
  · rw [ps_long h20]
    have hz : s.size ≤ 9223372036854775807 ∨ True := Or.inr trivial
    have h20' : (20 : Int) < (s.size : Int) := by omega
    go_enter Tryd.func69, Tryd.ntmps69
    go_wp2_with fail
    go_ret2
    exact ⟨rfl, Below.refl _ _⟩
  · have h20' : ¬ (20 : Int) < (s.size : Int) := by omega
    by_cases hA : ∃ v, Lib.atoiAll s.data.toList = .ok v
    · obtain ⟨v, hA⟩ := hA
      obtain ⟨hb0, hb1⟩ := Lib.atoiAll_bounds hA
      have e := ps_ok hA
      rw [e]
      have HA := Lib.hid hA
      clear hA e
      have hsz : (itoG v).size ≤ 21 := itoF_size v hb0 hb1
      generalize hg : itoG v = t at *
      have hI := Lib.hid (fun W hT => by have h := itoa_any v hb0 hb1 W hT; rw [hg] at h; exact h)
      have HA2 := Lib.hid (fun W => atoi_ok s (by omega) v HA.out W)
      clear HA
      by_cases h1 : t = s
      · subst h1
        by_cases h2 : v < -1000000000
        · rw [if_neg (by omega)]
          go_enter Tryd.func69, Tryd.ntmps69
          go_wp2_with (first | (go_at_call 75; refine (HA2.out _).mono ?_; rintro e w1 ⟨rfl, hb1⟩) | (go_at_call 76; refine (hI.out _ (HV.out.1.below hb1)).mono ?_; rintro e w2 ⟨rfl, hb2⟩))
          go_ret2
          exact ⟨rfl, hb1.trans (hb2.mono hb1.size)⟩
        · by_cases h3 : 1000000000 < v
          · rw [if_neg (by omega)]
            go_enter Tryd.func69, Tryd.ntmps69
            go_wp2_with (first | (go_at_call 75; refine (HA2.out _).mono ?_; rintro e w1 ⟨rfl, hb1⟩) | (go_at_call 76; refine (hI.out _ (HV.out.1.below hb1)).mono ?_; rintro e w2 ⟨rfl, hb2⟩))
            go_ret2
            exact ⟨rfl, hb1.trans (hb2.mono hb1.size)⟩
          · rw [if_pos ⟨rfl, by omega, by omega⟩]
            go_enter Tryd.func69, Tryd.ntmps69
            go_wp2_with (first | (go_at_call 75; refine (HA2.out _).mono ?_; rintro e w1 ⟨rfl, hb1⟩) | (go_at_call 76; refine (hI.out _ (HV.out.1.below hb1)).mono ?_; rintro e w2 ⟨rfl, hb2⟩))
            go_ret2
            exact ⟨rfl, hb1.trans (hb2.mono hb1.size)⟩
      · rw [if_neg (fun hh => h1 hh.1)]
        have hq : (t.toList == s.toList) = false := by
          rw [beq_eq_false_iff_ne]
          intro hh
          rw [ByteArray.toList_eq, ByteArray.toList_eq] at hh
          exact h1 (str_eq hh)
        go_enter Tryd.func69, Tryd.ntmps69
        go_wp2_with (first | (go_at_call 75; refine (HA2.out _).mono ?_; rintro e w1 ⟨rfl, hb1⟩) | (go_at_call 76; refine (hI.out _ (HV.out.1.below hb1)).mono ?_; rintro e w2 ⟨rfl, hb2⟩))
        go_ret2
        exact ⟨rfl, hb1.trans (hb2.mono hb1.size)⟩
    · have hA' := fun v hv => hA ⟨v, hv⟩
      rw [ps_bad hA']
      have HA2 := Lib.hid (fun W hE => atoi_bad s (by omega) hA' W hE)
      clear hA hA'
      go_enter Tryd.func69, Tryd.ntmps69
      go_wp2_with (go_at_call 75; refine (HA2.out _ HV.out.2).mono ?_; rintro e w1 ⟨⟨z, te, pe, rfl⟩, hb1⟩)
      go_ret2
      exact ⟨rfl, hb1⟩
theorem ps_impl (s : ByteArray) (w : World) (hV : TabV w) : Calls Tryd.prog 62 #[.string s] w fun e w' => e = .returned (.tuple #[.int .i64 ((psF s).getD 0), .bool (psF s).isSome]) ∧ Below w.heap.size w w' := by
  have HC := Lib.hid (pw_impl s w hV)
  clear hV
  generalize psF s = r at *
  go_enter Tryd.func62, Tryd.ntmps62
  go_wp2_with (go_at_call 69; refine HC.out.mono ?_; rintro e w1 ⟨rfl, hb1⟩)
  go_ret2
  exact ⟨rfl, hb1⟩
end Go.Proofs.YtgbeenieacnanaaDoor
