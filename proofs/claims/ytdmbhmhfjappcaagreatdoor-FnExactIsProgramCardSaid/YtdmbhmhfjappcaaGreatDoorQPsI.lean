/-
  Parts of the proof: PsI. Conditions: none.
-/
import Derived.Test.YtdmbhmhfjappcaaGreatDoorQGBasePsV
import Derived.Test.YtdmbhmhfjappcaaGreatDoorQGPsPIvP
import Derived.Test.YtdmbhmhfjappcaaGreatDoorQGBytFmt
import Derived.Shelf.Strconv.AtoiAll
namespace Go.Proofs.YtdmbhmhfjappcaaGreatDoor
open Go.ChangeShapes Go.WideShapes Go.ChangeAt Go.RowKit Go.Deep Go.Joins Go.Shelf
open Go.ChangeMaps (open_string shut_string)
set_option linter.unusedVariables false
set_option linter.unusedSimpArgs false
set_option maxRecDepth 100000
def laysAtoi_ren : Go.Shelf.Ren := ⟨fun | 172 => 114 | 244 => 119 | 245 => 120 | 247 => 125 | 279 => 126 | 280 => 127 | 281 => 128 | 282 => 129 | 287 => 132 | 316 => 133 | 171 => 115 | 205 => 134 | 321 => 139 | 322 => 140 | 243 => 121 | 246 => 130 | 283 => 135 | 284 => 136 | 285 => 137 | 286 => 138 | 129 => 142 | 317 => 141 | 318 => 143 | 319 => 144 | 320 => 145 | 337 => 146 | 338 => 147 | n => n, fun | 9 => 9 | 3 => 3 | 75 => 154 | 76 => 155 | 4 => 4 | 5 => 5 | 167 => 168 | 37 => 162 | 0 => 0 | 85 => 169 | 2 => 2 | 168 => 171 | 53 => 176 | 175 => 177 | 46 => 179 | 210 => 182 | 127 => 190 | 145 => 193 | 143 => 191 | 21 => 21 | 171 => 184 | 173 => 187 | 212 => 195 | 51 => 196 | 20 => 20 | 213 => 197 | 232 => 200 | 233 => 201 | 80 => 202 | n => n, fun | 15 => 0 | 16 => 1 | 17 => 2 | 18 => 3 | 19 => 4 | n => n⟩
theorem laysAtoi : Go.Proofs.LaysC.n172 Tryz.prog laysAtoi_ren := {
  mixed := by kernel_rfl
  f129 := Tryz.func142.trans (congrArg some (by kernel_rfl))
  f171 := Tryz.func115.trans (congrArg some (by kernel_rfl))
  f172 := Tryz.func114.trans (congrArg some (by kernel_rfl))
  f205 := Tryz.func134.trans (congrArg some (by kernel_rfl))
  f243 := Tryz.func121.trans (congrArg some (by kernel_rfl))
  f244 := Tryz.func119.trans (congrArg some (by kernel_rfl))
  f245 := Tryz.func120.trans (congrArg some (by kernel_rfl))
  f246 := Tryz.func130.trans (congrArg some (by kernel_rfl))
  f247 := Tryz.func125.trans (congrArg some (by kernel_rfl))
  f279 := Tryz.func126.trans (congrArg some (by kernel_rfl))
  f280 := Tryz.func127.trans (congrArg some (by kernel_rfl))
  f281 := Tryz.func128.trans (congrArg some (by kernel_rfl))
  f282 := Tryz.func129.trans (congrArg some (by kernel_rfl))
  f283 := Tryz.func135.trans (congrArg some (by kernel_rfl))
  f284 := Tryz.func136.trans (congrArg some (by kernel_rfl))
  f285 := Tryz.func137.trans (congrArg some (by kernel_rfl))
  f286 := Tryz.func138.trans (congrArg some (by kernel_rfl))
  f287 := Tryz.func132.trans (congrArg some (by kernel_rfl))
  f316 := Tryz.func133.trans (congrArg some (by kernel_rfl))
  f317 := Tryz.func141.trans (congrArg some (by kernel_rfl))
  f318 := Tryz.func143.trans (congrArg some (by kernel_rfl))
  f319 := Tryz.func144.trans (congrArg some (by kernel_rfl))
  f320 := Tryz.func145.trans (congrArg some (by kernel_rfl))
  f321 := Tryz.func139.trans (congrArg some (by kernel_rfl))
  f322 := Tryz.func140.trans (congrArg some (by kernel_rfl))
  f337 := Tryz.func146.trans (congrArg some (by kernel_rfl))
  f338 := Tryz.func147.trans (congrArg some (by kernel_rfl))
  t0 := Tryz.underlying0
  a0 := Tryz.isAgg0
  z0 := Tryz.sizeOf0
  v0 := Tryz.zeroValue0
  t2 := Tryz.underlying2
  a2 := Tryz.isAgg2
  z2 := Tryz.sizeOf2
  v2 := Tryz.zeroValue2
  t3 := Tryz.underlying3
  a3 := Tryz.isAgg3
  z3 := Tryz.sizeOf3
  v3 := Tryz.zeroValue3
  t4 := Tryz.underlying4
  a4 := Tryz.isAgg4
  z4 := Tryz.sizeOf4
  v4 := Tryz.zeroValue4
  t5 := Tryz.underlying5
  a5 := Tryz.isAgg5
  z5 := Tryz.sizeOf5
  v5 := Tryz.zeroValue5
  t9 := Tryz.underlying9
  a9 := Tryz.isAgg9
  z9 := Tryz.sizeOf9
  v9 := Tryz.zeroValue9
  t20 := Tryz.underlying20
  a20 := Tryz.isAgg20
  z20 := Tryz.sizeOf20
  v20 := Tryz.zeroValue20
  t21 := Tryz.underlying21
  a21 := Tryz.isAgg21
  z21 := Tryz.sizeOf21
  v21 := Tryz.zeroValue21
  t37 := Tryz.underlying162
  a37 := Tryz.isAgg162
  z37 := Tryz.sizeOf162
  v37 := Tryz.zeroValue162
  t46 := Tryz.underlying179
  a46 := Tryz.isAgg179
  z46 := Tryz.sizeOf179
  v46 := Tryz.zeroValue179
  t51 := Tryz.underlying196
  a51 := Tryz.isAgg196
  z51 := Tryz.sizeOf196
  v51 := Tryz.zeroValue196
  t53 := Tryz.underlying176
  a53 := Tryz.isAgg176
  z53 := Tryz.sizeOf176
  v53 := Tryz.zeroValue176
  t75 := Tryz.underlying154
  a75 := Tryz.isAgg154
  z75 := Tryz.sizeOf154
  v75 := Tryz.zeroValue154
  t76 := Tryz.underlying155
  a76 := Tryz.isAgg155
  z76 := Tryz.sizeOf155
  v76 := Tryz.zeroValue155
  t85 := Tryz.underlying169
  a85 := Tryz.isAgg169
  z85 := Tryz.sizeOf169
  v85 := Tryz.zeroValue169
  t127 := Tryz.underlying190
  a127 := Tryz.isAgg190
  z127 := Tryz.sizeOf190
  v127 := Tryz.zeroValue190
  t143 := Tryz.underlying191
  a143 := Tryz.isAgg191
  z143 := Tryz.sizeOf191
  v143 := Tryz.zeroValue191
  t145 := Tryz.underlying193
  a145 := Tryz.isAgg193
  z145 := Tryz.sizeOf193
  v145 := Tryz.zeroValue193
  t167 := Tryz.underlying168
  a167 := Tryz.isAgg168
  z167 := Tryz.sizeOf168
  v167 := Tryz.zeroValue168
  t168 := Tryz.underlying171
  a168 := Tryz.isAgg171
  z168 := Tryz.sizeOf171
  v168 := Tryz.zeroValue171
  t171 := Tryz.underlying184
  a171 := Tryz.isAgg184
  z171 := Tryz.sizeOf184
  v171 := Tryz.zeroValue184
  t173 := Tryz.underlying187
  a173 := Tryz.isAgg187
  z173 := Tryz.sizeOf187
  v173 := Tryz.zeroValue187
  t175 := Tryz.underlying177
  a175 := Tryz.isAgg177
  z175 := Tryz.sizeOf177
  v175 := Tryz.zeroValue177
  t210 := Tryz.underlying182
  a210 := Tryz.isAgg182
  z210 := Tryz.sizeOf182
  v210 := Tryz.zeroValue182
  t212 := Tryz.underlying195
  a212 := Tryz.isAgg195
  z212 := Tryz.sizeOf195
  v212 := Tryz.zeroValue195
  t213 := Tryz.underlying197
  a213 := Tryz.isAgg197
  z213 := Tryz.sizeOf197
  t232 := Tryz.underlying200
  a232 := Tryz.isAgg200
  z232 := Tryz.sizeOf200
  v232 := Tryz.zeroValue200
  t233 := Tryz.underlying201
  a233 := Tryz.isAgg201
  z233 := Tryz.sizeOf201
  v233 := Tryz.zeroValue201
  g15 := by kernel_rfl
  g16 := by kernel_rfl
  g17 := by kernel_rfl
  g18 := by kernel_rfl
  g19 := by kernel_rfl
  t80 := Tryz.underlying202
  a80 := Tryz.isAgg202
  z80 := Tryz.sizeOf202
  v80 := Tryz.zeroValue202
  i0 := by kernel_rfl
  i2 := by kernel_rfl
  i3 := by kernel_rfl
  i4 := by kernel_rfl
  i5 := by kernel_rfl
  i9 := by kernel_rfl
  i20 := by kernel_rfl
  i21 := by kernel_rfl
  i37 := by kernel_rfl
  i46 := by kernel_rfl
  i51 := by kernel_rfl
  i53 := by kernel_rfl
  i75 := by kernel_rfl
  i76 := by kernel_rfl
  i80 := by kernel_rfl
  i85 := by kernel_rfl
  i127 := by kernel_rfl
  i143 := by kernel_rfl
  i145 := by kernel_rfl
  i167 := by kernel_rfl
  i168 := by kernel_rfl
  i171 := by kernel_rfl
  i173 := by kernel_rfl
  i175 := by kernel_rfl
  i210 := by kernel_rfl
  i212 := by kernel_rfl
  i232 := by kernel_rfl
  i233 := by kernel_rfl
  m15 := by kernel_rfl
  m16 := by kernel_rfl
  m17 := by kernel_rfl
  m18 := by kernel_rfl
  m19 := by kernel_rfl
  c0 := by kernel_rfl
  c2 := by kernel_rfl
  c3 := by kernel_rfl
  c4 := by kernel_rfl
  c5 := by kernel_rfl
  c9 := by kernel_rfl
  c20 := by kernel_rfl
  c21 := by kernel_rfl
  c37 := by kernel_rfl
  c46 := by kernel_rfl
  c51 := by kernel_rfl
  c53 := by kernel_rfl
  c75 := by kernel_rfl
  c76 := by kernel_rfl
  c80 := by kernel_rfl
  c85 := by kernel_rfl
  c127 := by kernel_rfl
  c143 := by kernel_rfl
  c145 := by kernel_rfl
  c167 := by kernel_rfl
  c168 := by kernel_rfl
  c171 := by kernel_rfl
  c173 := by kernel_rfl
  c175 := by kernel_rfl
  c210 := by kernel_rfl
  c212 := by kernel_rfl
  c213 := by kernel_rfl
  c232 := by kernel_rfl
  c233 := by kernel_rfl }
theorem atoi_ok (s : ByteArray) (hl : s.size ≤ 100) (v : Int) (h : Lib.atoiAll s.data.toList = .ok v) (w : World) : Calls Tryz.prog 114 #[.string s] w fun e w' => e = .returned (.tuple #[.int .i64 v, .nilIface]) ∧ Below w.heap.size w w' := by
  refine (Any.strconv_Atoi_ok laysAtoi s (by omega) v h w).mono ?_
  rintro e w' ⟨rfl, hw⟩
  refine ⟨rfl, ?_⟩
  rcases hw with rfl | ⟨t, rfl⟩
  · exact Below.refl _ _
  · exact Lib.bytesWorld_below _ _ _
theorem atoi_bad (s : ByteArray) (hl : s.size ≤ 100) (h : ∀ v, Lib.atoiAll s.data.toList ≠ .ok v) (w : World) (hE : TabE w) : Calls Tryz.prog 114 #[.string s] w fun e w' => (∃ z te pe, e = .returned (.tuple #[.int .i64 z, .iface te pe])) ∧ Below w.heap.size w w' := by
  obtain ⟨⟨te1, pe1, h1⟩, te2, pe2, h2⟩ := hE
  rcases hA : Lib.atoiAll s.data.toList with v | _ | _
  · exact absurd hA (h v)
  · refine (Any.strconv_Atoi_syntax laysAtoi s (by omega) hA _ w h1 (Or.inr ⟨_, _, rfl⟩)).mono ?_
    rintro e w' ⟨N, rfl, -, -, hb⟩
    exact ⟨⟨_, _, _, rfl⟩, hb⟩
  · refine (Any.strconv_Atoi_range laysAtoi s (by omega) hA _ w h2 (Or.inr ⟨_, _, rfl⟩)).mono ?_
    rintro e w' ⟨N, rfl, -, -, hb⟩
    exact ⟨⟨_, _, _, rfl⟩, hb⟩
theorem itoa_any (n : Int) (h0 : -9223372036854775808 ≤ n) (h1 : n ≤ 9223372036854775807) (w : World) (hT : TabP w) : Calls Tryz.prog 115 #[.int .i64 n] w fun e w' => e = .returned (.string (itoG n)) ∧ Below w.heap.size w w' := by
  refine (Any.strconv_Itoa laysItoa n h0 h1 w hT).mono ?_
  rintro e w' ⟨rfl, k, os, rfl⟩
  exact ⟨rfl, below_grewN _ _ _⟩
set_option maxHeartbeats 1000000 in
theorem pw_impl (s : ByteArray) (w : World) (hV : TabV w) : Calls Tryz.prog 109 #[.string s, .int .i64 (-1000000000), .int .i64 1000000000] w fun e w' => e = .returned (.tuple #[.int .i64 ((psF s).getD 0), .bool (psF s).isSome]) ∧ Below w.heap.size w w' := by
  have HV := Lib.hid hV
  clear hV
  by_cases h20 : 20 < s.size
  · rw [ps_long h20]
    have hz : s.size ≤ 9223372036854775807 ∨ True := Or.inr trivial
    have h20' : (20 : Int) < (s.size : Int) := by omega
    go_enter Tryz.func109, Tryz.ntmps109
    go_wp2_with fail
    go_ret2
    exact ⟨rfl, Below.refl _ _⟩
  · have h20' : ¬ (20 : Int) < (s.size : Int) := by omega
    by_cases hA : ∃ v, Lib.atoiAll s.data.toList = .ok v
    · obtain ⟨v, hA⟩ := hA
      obtain ⟨hb0, hb1⟩ := Lib.atoiAll_bounds hA
      have e := ps_ok hA
      rw [e]
      have HA := Lib.hid hA
      clear hA e
      have hsz : (itoG v).size ≤ 21 := itoF_size v hb0 hb1
      generalize hg : itoG v = t at *
      have hI := Lib.hid (fun W hT => by have h := itoa_any v hb0 hb1 W hT; rw [hg] at h; exact h)
      have HA2 := Lib.hid (fun W => atoi_ok s (by omega) v HA.out W)
      clear HA
      by_cases h1 : t = s
      · subst h1
        by_cases h2 : v < -1000000000
        · rw [if_neg (by omega)]
          go_enter Tryz.func109, Tryz.ntmps109
          go_wp2_with (first | (go_at_call 114; refine (HA2.out _).mono ?_; rintro e w1 ⟨rfl, hb1⟩) | (go_at_call 115; refine (hI.out _ (HV.out.1.below hb1)).mono ?_; rintro e w2 ⟨rfl, hb2⟩))
          go_ret2
          exact ⟨rfl, hb1.trans (hb2.mono hb1.size)⟩
        · by_cases h3 : 1000000000 < v
          · rw [if_neg (by omega)]
            go_enter Tryz.func109, Tryz.ntmps109
            go_wp2_with (first | (go_at_call 114; refine (HA2.out _).mono ?_; rintro e w1 ⟨rfl, hb1⟩) | (go_at_call 115; refine (hI.out _ (HV.out.1.below hb1)).mono ?_; rintro e w2 ⟨rfl, hb2⟩))
            go_ret2
            exact ⟨rfl, hb1.trans (hb2.mono hb1.size)⟩
          · rw [if_pos ⟨rfl, by omega, by omega⟩]
            go_enter Tryz.func109, Tryz.ntmps109
            go_wp2_with (first | (go_at_call 114; refine (HA2.out _).mono ?_; rintro e w1 ⟨rfl, hb1⟩) | (go_at_call 115; refine (hI.out _ (HV.out.1.below hb1)).mono ?_; rintro e w2 ⟨rfl, hb2⟩))
            go_ret2
            exact ⟨rfl, hb1.trans (hb2.mono hb1.size)⟩
      · rw [if_neg (fun hh => h1 hh.1)]
        have hq : (t.toList == s.toList) = false := by
          rw [beq_eq_false_iff_ne]
          intro hh
          rw [ByteArray.toList_eq, ByteArray.toList_eq] at hh
          exact h1 (str_eq hh)
        go_enter Tryz.func109, Tryz.ntmps109
        go_wp2_with (first | (go_at_call 114; refine (HA2.out _).mono ?_; rintro e w1 ⟨rfl, hb1⟩) | (go_at_call 115; refine (hI.out _ (HV.out.1.below hb1)).mono ?_; rintro e w2 ⟨rfl, hb2⟩))
        go_ret2
        exact ⟨rfl, hb1.trans (hb2.mono hb1.size)⟩
    · have hA' := fun v hv => hA ⟨v, hv⟩
      rw [ps_bad hA']
      have HA2 := Lib.hid (fun W hE => atoi_bad s (by omega) hA' W hE)
      clear hA hA'
      go_enter Tryz.func109, Tryz.ntmps109
      go_wp2_with (go_at_call 114; refine (HA2.out _ HV.out.2).mono ?_; rintro e w1 ⟨⟨z, te, pe, rfl⟩, hb1⟩)
      go_ret2
      exact ⟨rfl, hb1⟩
theorem ps_impl (s : ByteArray) (w : World) (hV : TabV w) : Calls Tryz.prog 100 #[.string s] w fun e w' => e = .returned (.tuple #[.int .i64 ((psF s).getD 0), .bool (psF s).isSome]) ∧ Below w.heap.size w w' := by
  have HC := Lib.hid (pw_impl s w hV)
  clear hV
  generalize psF s = r at *
  go_enter Tryz.func100, Tryz.ntmps100
  go_wp2_with (go_at_call 109; refine HC.out.mono ?_; rintro e w1 ⟨rfl, hb1⟩)
  go_ret2
  exact ⟨rfl, hb1⟩
end Go.Proofs.YtdmbhmhfjappcaaGreatDoor
