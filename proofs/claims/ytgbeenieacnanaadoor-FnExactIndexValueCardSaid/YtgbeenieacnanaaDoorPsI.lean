/-
  ParseSigned of both packages. Conditions: none; the program's reads the listed variables.
-/
import Derived.Test.YtgbeenieacnanaaDoorPsV
import Derived.Test.YtgbeenieacnanaaDoorPsP
import Derived.Test.YtgbeenieacnanaaDoorFmt
import Derived.Shelf.Strconv.AtoiAll
namespace Go.Proofs.YtgbeenieacnanaaDoor
open Go.ChangeShapes Go.WideShapes Go.ChangeAt Go.RowKit Go.Deep Go.Joins Go.Shelf
open Go.ChangeMaps (open_string shut_string)
set_option linter.unusedVariables false
set_option linter.unusedSimpArgs false
set_option maxRecDepth 100000
def laysAtoi_ren : Go.Shelf.Ren := ⟨fun | 172 => 75 | 244 => 77 | 245 => 78 | 247 => 80 | 279 => 81 | 280 => 82 | 281 => 83 | 282 => 84 | 287 => 86 | 316 => 87 | 171 => 76 | 205 => 88 | 321 => 93 | 322 => 94 | 243 => 79 | 246 => 85 | 283 => 89 | 284 => 90 | 285 => 91 | 286 => 92 | 129 => 96 | 317 => 95 | 318 => 97 | 319 => 98 | 320 => 99 | 337 => 100 | 338 => 101 | n => n, fun | 9 => 9 | 3 => 3 | 75 => 93 | 76 => 94 | 4 => 4 | 5 => 5 | 167 => 97 | 37 => 84 | 0 => 0 | 85 => 98 | 2 => 2 | 168 => 100 | 53 => 104 | 175 => 105 | 46 => 107 | 210 => 110 | 127 => 118 | 145 => 121 | 143 => 119 | 21 => 21 | 171 => 112 | 173 => 115 | 212 => 124 | 51 => 125 | 20 => 20 | 213 => 126 | 232 => 130 | 233 => 131 | 80 => 132 | n => n, fun | 15 => 0 | 16 => 1 | 17 => 2 | 18 => 3 | 19 => 4 | n => n⟩
theorem laysAtoi : Go.Proofs.LaysC.n172 Tryd.prog laysAtoi_ren := {
  mixed := by kernel_rfl
  f129 := Tryd.func96.trans (congrArg some (by kernel_rfl))
  f171 := Tryd.func76.trans (congrArg some (by kernel_rfl))
  f172 := Tryd.func75.trans (congrArg some (by kernel_rfl))
  f205 := Tryd.func88.trans (congrArg some (by kernel_rfl))
  f243 := Tryd.func79.trans (congrArg some (by kernel_rfl))
  f244 := Tryd.func77.trans (congrArg some (by kernel_rfl))
  f245 := Tryd.func78.trans (congrArg some (by kernel_rfl))
  f246 := Tryd.func85.trans (congrArg some (by kernel_rfl))
  f247 := Tryd.func80.trans (congrArg some (by kernel_rfl))
  f279 := Tryd.func81.trans (congrArg some (by kernel_rfl))
  f280 := Tryd.func82.trans (congrArg some (by kernel_rfl))
  f281 := Tryd.func83.trans (congrArg some (by kernel_rfl))
  f282 := Tryd.func84.trans (congrArg some (by kernel_rfl))
  f283 := Tryd.func89.trans (congrArg some (by kernel_rfl))
  f284 := Tryd.func90.trans (congrArg some (by kernel_rfl))
  f285 := Tryd.func91.trans (congrArg some (by kernel_rfl))
  f286 := Tryd.func92.trans (congrArg some (by kernel_rfl))
  f287 := Tryd.func86.trans (congrArg some (by kernel_rfl))
  f316 := Tryd.func87.trans (congrArg some (by kernel_rfl))
  f317 := Tryd.func95.trans (congrArg some (by kernel_rfl))
  f318 := Tryd.func97.trans (congrArg some (by kernel_rfl))
  f319 := Tryd.func98.trans (congrArg some (by kernel_rfl))
  f320 := Tryd.func99.trans (congrArg some (by kernel_rfl))
  f321 := Tryd.func93.trans (congrArg some (by kernel_rfl))
  f322 := Tryd.func94.trans (congrArg some (by kernel_rfl))
  f337 := Tryd.func100.trans (congrArg some (by kernel_rfl))
  f338 := Tryd.func101.trans (congrArg some (by kernel_rfl))
  t0 := Tryd.underlying0
  a0 := Tryd.isAgg0
  z0 := Tryd.sizeOf0
  v0 := Tryd.zeroValue0
  t2 := Tryd.underlying2
  a2 := Tryd.isAgg2
  z2 := Tryd.sizeOf2
  v2 := Tryd.zeroValue2
  t3 := Tryd.underlying3
  a3 := Tryd.isAgg3
  z3 := Tryd.sizeOf3
  v3 := Tryd.zeroValue3
  t4 := Tryd.underlying4
  a4 := Tryd.isAgg4
  z4 := Tryd.sizeOf4
  v4 := Tryd.zeroValue4
  t5 := Tryd.underlying5
  a5 := Tryd.isAgg5
  z5 := Tryd.sizeOf5
  v5 := Tryd.zeroValue5
  t9 := Tryd.underlying9
  a9 := Tryd.isAgg9
  z9 := Tryd.sizeOf9
  v9 := Tryd.zeroValue9
  t20 := Tryd.underlying20
  a20 := Tryd.isAgg20
  z20 := Tryd.sizeOf20
  v20 := Tryd.zeroValue20
  t21 := Tryd.underlying21
  a21 := Tryd.isAgg21
  z21 := Tryd.sizeOf21
  v21 := Tryd.zeroValue21
  t37 := Tryd.underlying84
  a37 := Tryd.isAgg84
  z37 := Tryd.sizeOf84
  v37 := Tryd.zeroValue84
  t46 := Tryd.underlying107
  a46 := Tryd.isAgg107
  z46 := Tryd.sizeOf107
  v46 := Tryd.zeroValue107
  t51 := Tryd.underlying125
  a51 := Tryd.isAgg125
  z51 := Tryd.sizeOf125
  v51 := Tryd.zeroValue125
  t53 := Tryd.underlying104
  a53 := Tryd.isAgg104
  z53 := Tryd.sizeOf104
  v53 := Tryd.zeroValue104
  t75 := Tryd.underlying93
  a75 := Tryd.isAgg93
  z75 := Tryd.sizeOf93
  v75 := Tryd.zeroValue93
  t76 := Tryd.underlying94
  a76 := Tryd.isAgg94
  z76 := Tryd.sizeOf94
  v76 := Tryd.zeroValue94
  t85 := Tryd.underlying98
  a85 := Tryd.isAgg98
  z85 := Tryd.sizeOf98
  v85 := Tryd.zeroValue98
  t127 := Tryd.underlying118
  a127 := Tryd.isAgg118
  z127 := Tryd.sizeOf118
  v127 := Tryd.zeroValue118
  t143 := Tryd.underlying119
  a143 := Tryd.isAgg119
  z143 := Tryd.sizeOf119
  v143 := Tryd.zeroValue119
  t145 := Tryd.underlying121
  a145 := Tryd.isAgg121
  z145 := Tryd.sizeOf121
  v145 := Tryd.zeroValue121
  t167 := Tryd.underlying97
  a167 := Tryd.isAgg97
  z167 := Tryd.sizeOf97
  v167 := Tryd.zeroValue97
  t168 := Tryd.underlying100
  a168 := Tryd.isAgg100
  z168 := Tryd.sizeOf100
  v168 := Tryd.zeroValue100
  t171 := Tryd.underlying112
  a171 := Tryd.isAgg112
  z171 := Tryd.sizeOf112
  v171 := Tryd.zeroValue112
  t173 := Tryd.underlying115
  a173 := Tryd.isAgg115
  z173 := Tryd.sizeOf115
  v173 := Tryd.zeroValue115
  t175 := Tryd.underlying105
  a175 := Tryd.isAgg105
  z175 := Tryd.sizeOf105
  v175 := Tryd.zeroValue105
  t210 := Tryd.underlying110
  a210 := Tryd.isAgg110
  z210 := Tryd.sizeOf110
  v210 := Tryd.zeroValue110
  t212 := Tryd.underlying124
  a212 := Tryd.isAgg124
  z212 := Tryd.sizeOf124
  v212 := Tryd.zeroValue124
  t213 := Tryd.underlying126
  a213 := Tryd.isAgg126
  z213 := Tryd.sizeOf126
  t232 := Tryd.underlying130
  a232 := Tryd.isAgg130
  z232 := Tryd.sizeOf130
  v232 := Tryd.zeroValue130
  t233 := Tryd.underlying131
  a233 := Tryd.isAgg131
  z233 := Tryd.sizeOf131
  v233 := Tryd.zeroValue131
  g15 := by kernel_rfl
  g16 := by kernel_rfl
  g17 := by kernel_rfl
  g18 := by kernel_rfl
  g19 := by kernel_rfl
  t80 := Tryd.underlying132
  a80 := Tryd.isAgg132
  z80 := Tryd.sizeOf132
  v80 := Tryd.zeroValue132
  i0 := by kernel_rfl
  i2 := by kernel_rfl
  i3 := by kernel_rfl
  i4 := by kernel_rfl
  i5 := by kernel_rfl
  i9 := by kernel_rfl
  i20 := by kernel_rfl
  i21 := by kernel_rfl
  i37 := by kernel_rfl
  i46 := by kernel_rfl
  i51 := by kernel_rfl
  i53 := by kernel_rfl
  i75 := by kernel_rfl
  i76 := by kernel_rfl
  i80 := by kernel_rfl
  i85 := by kernel_rfl
  i127 := by kernel_rfl
  i143 := by kernel_rfl
  i145 := by kernel_rfl
  i167 := by kernel_rfl
  i168 := by kernel_rfl
  i171 := by kernel_rfl
  i173 := by kernel_rfl
  i175 := by kernel_rfl
  i210 := by kernel_rfl
  i212 := by kernel_rfl
  i232 := by kernel_rfl
  i233 := by kernel_rfl
  m15 := by kernel_rfl
  m16 := by kernel_rfl
  m17 := by kernel_rfl
  m18 := by kernel_rfl
  m19 := by kernel_rfl
  c0 := by kernel_rfl
  c2 := by kernel_rfl
  c3 := by kernel_rfl
  c4 := by kernel_rfl
  c5 := by kernel_rfl
  c9 := by kernel_rfl
  c20 := by kernel_rfl
  c21 := by kernel_rfl
  c37 := by kernel_rfl
  c46 := by kernel_rfl
  c51 := by kernel_rfl
  c53 := by kernel_rfl
  c75 := by kernel_rfl
  c76 := by kernel_rfl
  c80 := by kernel_rfl
  c85 := by kernel_rfl
  c127 := by kernel_rfl
  c143 := by kernel_rfl
  c145 := by kernel_rfl
  c167 := by kernel_rfl
  c168 := by kernel_rfl
  c171 := by kernel_rfl
  c173 := by kernel_rfl
  c175 := by kernel_rfl
  c210 := by kernel_rfl
  c212 := by kernel_rfl
  c213 := by kernel_rfl
  c232 := by kernel_rfl
  c233 := by kernel_rfl }
theorem atoi_ok (s : ByteArray) (hl : s.size ≤ 100) (v : Int) (h : Lib.atoiAll s.data.toList = .ok v) (w : World) : Calls Tryd.prog 75 #[.string s] w fun e w' => e = .returned (.tuple #[.int .i64 v, .nilIface]) ∧ Below w.heap.size w w' := by
  refine (Any.strconv_Atoi_ok laysAtoi s (by omega) v h w).mono ?_
  rintro e w' ⟨rfl, hw⟩
  refine ⟨rfl, ?_⟩
  rcases hw with rfl | ⟨t, rfl⟩
  · exact Below.refl _ _
  · exact Lib.bytesWorld_below _ _ _
theorem atoi_bad (s : ByteArray) (hl : s.size ≤ 100) (h : ∀ v, Lib.atoiAll s.data.toList ≠ .ok v) (w : World) (hE : TabE w) : Calls Tryd.prog 75 #[.string s] w fun e w' => (∃ z te pe, e = .returned (.tuple #[.int .i64 z, .iface te pe])) ∧ Below w.heap.size w w' := by
  obtain ⟨⟨te1, pe1, h1⟩, te2, pe2, h2⟩ := hE
  rcases hA : Lib.atoiAll s.data.toList with v | _ | _
  · exact absurd hA (h v)
  · refine (Any.strconv_Atoi_syntax laysAtoi s (by omega) hA _ w h1 (Or.inr ⟨_, _, rfl⟩)).mono ?_
    rintro e w' ⟨N, rfl, -, -, hb⟩
    exact ⟨⟨_, _, _, rfl⟩, hb⟩
  · refine (Any.strconv_Atoi_range laysAtoi s (by omega) hA _ w h2 (Or.inr ⟨_, _, rfl⟩)).mono ?_
    rintro e w' ⟨N, rfl, -, -, hb⟩
    exact ⟨⟨_, _, _, rfl⟩, hb⟩
theorem itoa_any (n : Int) (h0 : -9223372036854775808 ≤ n) (h1 : n ≤ 9223372036854775807) (w : World) (hT : TabP w) : Calls Tryd.prog 76 #[.int .i64 n] w fun e w' => e = .returned (.string (itoG n)) ∧ Below w.heap.size w w' := by
  refine (Any.strconv_Itoa laysItoa n h0 h1 w hT).mono ?_
  rintro e w' ⟨rfl, k, os, rfl⟩
  exact ⟨rfl, below_grewN _ _ _⟩
set_option maxHeartbeats 1000000 in
theorem pw_impl (s : ByteArray) (w : World) (hV : TabV w) : Calls Tryd.prog 69 #[.string s, .int .i64 (-1000000000), .int .i64 1000000000] w fun e w' => e = .returned (.tuple #[.int .i64 ((psF s).getD 0), .bool (psF s).isSome]) ∧ Below w.heap.size w w' := by
  have HV := Lib.hid hV
  clear hV
  by_cases h20 : 20 < s.size
  · rw [ps_long h20]
    have hz : s.size ≤ 9223372036854775807 ∨ True := Or.inr trivial
    have h20' : (20 : Int) < (s.size : Int) := by omega
    go_enter Tryd.func69, Tryd.ntmps69
    go_wp2_with fail
    go_ret2
    exact ⟨rfl, Below.refl _ _⟩
  · have h20' : ¬ (20 : Int) < (s.size : Int) := by omega
    by_cases hA : ∃ v, Lib.atoiAll s.data.toList = .ok v
    · obtain ⟨v, hA⟩ := hA
      obtain ⟨hb0, hb1⟩ := Lib.atoiAll_bounds hA
      have e := ps_ok hA
      rw [e]
      have HA := Lib.hid hA
      clear hA e
      have hsz : (itoG v).size ≤ 21 := itoF_size v hb0 hb1
      generalize hg : itoG v = t at *
      have hI := Lib.hid (fun W hT => by have h := itoa_any v hb0 hb1 W hT; rw [hg] at h; exact h)
      have HA2 := Lib.hid (fun W => atoi_ok s (by omega) v HA.out W)
      clear HA
      by_cases h1 : t = s
      · subst h1
        by_cases h2 : v < -1000000000
        · rw [if_neg (by omega)]
          go_enter Tryd.func69, Tryd.ntmps69
          go_wp2_with (first | (go_at_call 75; refine (HA2.out _).mono ?_; rintro e w1 ⟨rfl, hb1⟩) | (go_at_call 76; refine (hI.out _ (HV.out.1.below hb1)).mono ?_; rintro e w2 ⟨rfl, hb2⟩))
          go_ret2
          exact ⟨rfl, hb1.trans (hb2.mono hb1.size)⟩
        · by_cases h3 : 1000000000 < v
          · rw [if_neg (by omega)]
            go_enter Tryd.func69, Tryd.ntmps69
            go_wp2_with (first | (go_at_call 75; refine (HA2.out _).mono ?_; rintro e w1 ⟨rfl, hb1⟩) | (go_at_call 76; refine (hI.out _ (HV.out.1.below hb1)).mono ?_; rintro e w2 ⟨rfl, hb2⟩))
            go_ret2
            exact ⟨rfl, hb1.trans (hb2.mono hb1.size)⟩
          · rw [if_pos ⟨rfl, by omega, by omega⟩]
            go_enter Tryd.func69, Tryd.ntmps69
            go_wp2_with (first | (go_at_call 75; refine (HA2.out _).mono ?_; rintro e w1 ⟨rfl, hb1⟩) | (go_at_call 76; refine (hI.out _ (HV.out.1.below hb1)).mono ?_; rintro e w2 ⟨rfl, hb2⟩))
            go_ret2
            exact ⟨rfl, hb1.trans (hb2.mono hb1.size)⟩
      · rw [if_neg (fun hh => h1 hh.1)]
        have hq : (t.toList == s.toList) = false := by
          rw [beq_eq_false_iff_ne]
          intro hh
          rw [ByteArray.toList_eq, ByteArray.toList_eq] at hh
          exact h1 (str_eq hh)
        go_enter Tryd.func69, Tryd.ntmps69
        go_wp2_with (first | (go_at_call 75; refine (HA2.out _).mono ?_; rintro e w1 ⟨rfl, hb1⟩) | (go_at_call 76; refine (hI.out _ (HV.out.1.below hb1)).mono ?_; rintro e w2 ⟨rfl, hb2⟩))
        go_ret2
        exact ⟨rfl, hb1.trans (hb2.mono hb1.size)⟩
    · have hA' := fun v hv => hA ⟨v, hv⟩
      rw [ps_bad hA']
      have HA2 := Lib.hid (fun W hE => atoi_bad s (by omega) hA' W hE)
      clear hA hA'
      go_enter Tryd.func69, Tryd.ntmps69
      go_wp2_with (go_at_call 75; refine (HA2.out _ HV.out.2).mono ?_; rintro e w1 ⟨⟨z, te, pe, rfl⟩, hb1⟩)
      go_ret2
      exact ⟨rfl, hb1⟩
theorem ps_impl (s : ByteArray) (w : World) (hV : TabV w) : Calls Tryd.prog 62 #[.string s] w fun e w' => e = .returned (.tuple #[.int .i64 ((psF s).getD 0), .bool (psF s).isSome]) ∧ Below w.heap.size w w' := by
  have HC := Lib.hid (pw_impl s w hV)
  clear hV
  generalize psF s = r at *
  go_enter Tryd.func62, Tryd.ntmps62
  go_wp2_with (go_at_call 69; refine HC.out.mono ?_; rintro e w1 ⟨rfl, hb1⟩)
  go_ret2
  exact ⟨rfl, hb1⟩
end Go.Proofs.YtgbeenieacnanaaDoor
