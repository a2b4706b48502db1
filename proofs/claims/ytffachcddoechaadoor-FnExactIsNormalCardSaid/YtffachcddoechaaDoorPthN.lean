/-
  strings.Join at a slash; NormalPath of both packages. Conditions: none.
-/
import Derived.Test.YtffachcddoechaaDoorPthI
import Derived.Test.YtffachcddoechaaDoorPthS
import Derived.Shelf.Strings.OnBuilder
namespace Go.Proofs.YtffachcddoechaaDoor
open Go.ChangeShapes Go.WideShapes Go.ChangeAt Go.RowKit Go.Deep Go.Joins Go.Shelf
open Go.ChangeMaps (open_string shut_string)
set_option linter.unusedVariables false
set_option linter.unusedSimpArgs false
set_option maxRecDepth 100000
def laysJoin_ren : Go.Shelf.Ren := ⟨fun | 156 => 38 | 165 => 55 | 166 => 56 | 169 => 57 | 240 => 63 | 241 => 64 | 276 => 70 | 277 => 71 | n => n, fun | 31 => 22 | 9 => 9 | 3 => 3 | 4 => 4 | 0 => 0 | 20 => 20 | 72 => 69 | 76 => 73 | 70 => 67 | 37 => 43 | 75 => 72 | 127 => 83 | 164 => 89 | 5 => 5 | 80 => 75 | n => n, fun | n => n⟩
theorem laysJoin : Go.Proofs.Lays.n156 Tryd.prog laysJoin_ren := {
  mixed := by kernel_rfl
  f156 := Tryd.func38.trans (congrArg some (by kernel_rfl))
  f165 := Tryd.func55.trans (congrArg some (by kernel_rfl))
  f166 := Tryd.func56.trans (congrArg some (by kernel_rfl))
  f169 := Tryd.func57.trans (congrArg some (by kernel_rfl))
  f240 := Tryd.func63.trans (congrArg some (by kernel_rfl))
  f241 := Tryd.func64.trans (congrArg some (by kernel_rfl))
  f276 := Tryd.func70.trans (congrArg some (by kernel_rfl))
  f277 := Tryd.func71.trans (congrArg some (by kernel_rfl))
  t0 := Tryd.underlying0
  a0 := Tryd.isAgg0
  z0 := Tryd.sizeOf0
  v0 := Tryd.zeroValue0
  t3 := Tryd.underlying3
  a3 := Tryd.isAgg3
  z3 := Tryd.sizeOf3
  v3 := Tryd.zeroValue3
  t4 := Tryd.underlying4
  a4 := Tryd.isAgg4
  z4 := Tryd.sizeOf4
  v4 := Tryd.zeroValue4
  t9 := Tryd.underlying9
  a9 := Tryd.isAgg9
  z9 := Tryd.sizeOf9
  v9 := Tryd.zeroValue9
  t20 := Tryd.underlying20
  a20 := Tryd.isAgg20
  z20 := Tryd.sizeOf20
  v20 := Tryd.zeroValue20
  t31 := Tryd.underlying22
  a31 := Tryd.isAgg22
  z31 := Tryd.sizeOf22
  v31 := Tryd.zeroValue22
  t37 := Tryd.underlying43
  a37 := Tryd.isAgg43
  z37 := Tryd.sizeOf43
  v37 := Tryd.zeroValue43
  t70 := Tryd.underlying67
  a70 := Tryd.isAgg67
  z70 := Tryd.sizeOf67
  v70 := Tryd.zeroValue67
  t72 := Tryd.underlying69
  a72 := Tryd.isAgg69
  z72 := Tryd.sizeOf69
  v72 := Tryd.zeroValue69
  t75 := Tryd.underlying72
  a75 := Tryd.isAgg72
  z75 := Tryd.sizeOf72
  v75 := Tryd.zeroValue72
  t76 := Tryd.underlying73
  a76 := Tryd.isAgg73
  z76 := Tryd.sizeOf73
  v76 := Tryd.zeroValue73
  t127 := Tryd.underlying83
  a127 := Tryd.isAgg83
  z127 := Tryd.sizeOf83
  v127 := Tryd.zeroValue83
  t164 := Tryd.underlying89
  a164 := Tryd.isAgg89
  z164 := Tryd.sizeOf89
  v164 := Tryd.zeroValue89 }
theorem joinX : Builder.Extra Tryd.prog laysJoin_ren where
  sizeBuilder := by kernel_rfl
  liesBuilder := by kernel_rfl
  t5 := laysSplit.t5
  a5 := laysSplit.a5
  z5 := laysSplit.z5
  v5 := laysSplit.v5
  infoByte := by kernel_rfl
  cellsByte := by kernel_rfl
  sizeByte := by kernel_rfl
  neB5 := by decide
def jn (V : List ByteArray) : List UInt8 := Lib.join (V.map (·.data.toList)) [47]
theorem jn_snoc : ∀ (V : List ByteArray) (k : Nat) (x : ByteArray), V[k]? = some x → jn (V.take (k + 1)) = (if k = 0 then [] else jn (V.take k) ++ [47]) ++ x.data.toList
  | [], k, x, h => by simp at h
  | a :: r, 0, x, h => by
    obtain rfl : a = x := by simpa using h
    unfold jn
    simp [Lib.join_one]
  | a :: r, k + 1, x, h => by
    have hr : (r.map (·.data.toList))[k]? = some x.data.toList := by
      rw [List.getElem?_map]
      have : r[k]? = some x := by simpa using h
      rw [this]; rfl
    unfold jn
    rw [if_neg (by omega), List.take_succ_cons, List.take_succ_cons, List.map_cons, List.map_cons, Lib.join_cons, Lib.join_cons, List.map_take, List.map_take, Lib.joinTail_take_succ _ _ _ _ hr]
    simp [List.append_assoc]
theorem jn_len (V : List ByteArray) (h : ∀ x ∈ V, x.size ≤ 20) : ∀ k, k ≤ V.length → (jn (V.take k)).length ≤ 21 * k
  | 0, _ => by unfold jn; simp [Lib.join_nil]
  | k + 1, hk => by
    have ih := jn_len V h k (by omega)
    have hx := List.getElem?_eq_getElem (l := V) (i := k) (by omega)
    have h20 := h V[k] (List.getElem_mem _)
    have hze := Lib.size_eq V[k]
    rw [jn_snoc V k _ hx, List.length_append]
    split
    · simp; omega
    · rw [List.length_append]; simp; omega
def nmOk (s : ByteArray) : Bool := decide (s.size ≤ 400) && (spB s && inB ((jn (spV s)).length : Int) 1 60)
def nmS (s : ByteArray) : ByteArray := if nmOk s = true then ⟨(jn (spV s)).toArray⟩ else ⟨#[]⟩
theorem nm_f {s : ByteArray} (h : nmOk s = false) : nmS s = ⟨#[]⟩ := if_neg (by rw [h]; simp)
theorem nm_t {s : ByteArray} (h : nmOk s = true) : nmS s = ⟨(jn (spV s)).toArray⟩ := if_pos h
theorem joinC (V : List ByteArray) (A : Option Addr) (c : Nat) (w : World) {base : Nat} (h : w.ownsRow base 9 1 (.slice A V.length c) V.length (V.map Value.string)) (hs : ∀ x ∈ V, x.size ≤ 20) (hl : V.length ≤ 1000) :
    Calls Tryd.prog 38 #[.slice A V.length c, .string ⟨#[47]⟩] w fun e w' => e = .returned (.string ⟨(jn V).toArray⟩) ∧ Below w.heap.size w w' := by
  have hjl := jn_len V hs V.length (Nat.le_refl _)
  rw [List.take_length] at hjl
  rcases own_row h with ⟨hv, h0, hx⟩ | ⟨g, cap, f, hv, hb, hc, _, hrow, hcell⟩
  · injection hv with e1 e2 e3
    have hV : V = [] := List.length_eq_zero_iff.1 h0
    subst hV e1 e3
    exact (Any.strings_Join_none laysJoin joinX _ 0 slash w).mono fun e w' ⟨he, hw⟩ => ⟨he, hw ▸ Below.refl _ _⟩
  · injection hv with e1 e2 e3
    subst e1 e3
    refine Any.strings_Join laysJoin joinX g 0 c V slash w (fun j x hx => ?_) (own_lt h g rfl).2 (by omega) hc (by show (jn V).length ≤ _; omega)
    have hj : j < V.length := (List.getElem?_eq_some_iff.1 hx).1
    rw [Nat.zero_add, World.ownsRow.cellAt h j (by omega), List.getElem?_map, hx]
    rfl
theorem own_some {w : World} {base c : Nat} {A : Option Addr} {V : List ByteArray} (h : w.ownsRow base 9 1 (.slice A V.length c) V.length (V.map Value.string)) (h0 : 0 < V.length) : ∃ g, A = some ⟨g, 0, none⟩ := by
  rcases own_row h with ⟨hv, h1, hx⟩ | ⟨g, cap, f, hv, hb, hc, _, hrow, hcell⟩
  · omega
  · injection hv with e1 e2 e3
    exact ⟨g, e1⟩
def isnF (s : ByteArray) : Bool := nmOk s && ((nmS s).toList == s.toList)
set_option maxHeartbeats 4000000 in
theorem NormalPath_impl (s : ByteArray) (w : World) (hs : s.size ≤ 1048576) (hm : MaxAt w) :
    Calls Tryd.prog 16 #[.string s] w fun e w' => e = .returned (.tuple #[.string (nmS s), .bool (nmOk s)]) ∧ Below w.heap.size w w' := by
  by_cases h4 : s.size ≤ 400
  case neg =>
    have d4 : decide ((400 : Int) < (s.size : Int)) = true := decide_eq_true (by omega)
    have R := Lib.hid (show nmOk s = false from by unfold nmOk; rw [decide_eq_false h4]; rfl)
    have R2 := Lib.hid (nm_f R.out)
    go_enter Tryd.func16, Tryd.ntmps16
    go_wp2_with fail
    go_ret2
    rw [R.out, R2.out]
    exact ⟨rfl, Below.refl _ _⟩
  have d4 : decide ((400 : Int) < (s.size : Int)) = false := decide_eq_false (by omega)
  obtain ⟨hvl, hvs⟩ := spV_len s
  have HVS := Lib.hid hvs
  have hjl := jn_len (spV s) hvs (spV s).length (Nat.le_refl _)
  rw [List.take_length] at hjl
  have hsz : (⟨(jn (spV s)).toArray⟩ : ByteArray).size = (jn (spV s)).length := by simp [ByteArray.size]
  obtain ⟨n, hn⟩ : ∃ n, n = (jn (spV s)).length := ⟨_, rfl⟩
  rw [← hn] at hsz hjl
  have HOK := Lib.hid (show nmOk s = (spB s && inB (n : Int) 1 60) from by unfold nmOk; rw [decide_eq_true h4, hn]; rfl)
  clear hvs hn
  have hn9 : n ≤ 9223372036854775807 := by omega
  cases hb : spB s with
  | false =>
    have HB := Lib.hid hb
    have R := Lib.hid (show nmOk s = false from by rw [HOK.out, hb]; rfl)
    have R2 := Lib.hid (nm_f R.out)
    clear hb
    go_enter Tryd.func16, Tryd.ntmps16
    go_wp2_with (first | (go_at_call 11; refine (SplitPath_impl s _ hs hm).mono ?_; rw [HB.out]; rintro e w2 ⟨A, c, rfl, own2, hb2⟩; have O2 := Lib.hid own2; have B2 := Lib.hid hb2; clear own2 hb2) | (go_at_call 38; refine (joinC (spV s) A c _ O2.out HVS.out (by omega)).mono ?_; rintro e w3 ⟨rfl, hb3⟩; have B3 := Lib.hid (B2.out.trans (hb3.mono B2.out.size)); clear hb3))
    go_ret2
    rw [R.out, R2.out]
    exact ⟨rfl, B3.out⟩
  | true =>
    have HB := Lib.hid hb
    cases hi : inB (n : Int) 1 60 with
    | false =>
      have R := Lib.hid (show nmOk s = false from by rw [HOK.out, hb, hi]; rfl)
      have R2 := Lib.hid (nm_f R.out)
      clear hb
      go_enter Tryd.func16, Tryd.ntmps16
      go_wp2_with (first | (go_at_call 11; refine (SplitPath_impl s _ hs hm).mono ?_; rw [HB.out]; rintro e w2 ⟨A, c, rfl, own2, hb2⟩; have O2 := Lib.hid own2; have B2 := Lib.hid hb2; clear own2 hb2) | (go_at_call 38; refine (joinC (spV s) A c _ O2.out HVS.out (by omega)).mono ?_; rintro e w3 ⟨rfl, hb3⟩; have B3 := Lib.hid (B2.out.trans (hb3.mono B2.out.size)); clear hb3) | (go_at_call 39; refine (inRange_any _ _ _ _).mono ?_; rintro e w' ⟨rfl, rfl⟩))
      go_ret2
      rw [R.out, R2.out]
      exact ⟨rfl, B3.out⟩
    | true =>
      have R := Lib.hid (show nmOk s = true from by rw [HOK.out, hb, hi]; rfl)
      have R2 := Lib.hid (nm_t R.out)
      clear hb
      go_enter Tryd.func16, Tryd.ntmps16
      go_wp2_with (first | (go_at_call 11; refine (SplitPath_impl s _ hs hm).mono ?_; rw [HB.out]; rintro e w2 ⟨A, c, rfl, own2, hb2⟩; have O2 := Lib.hid own2; have B2 := Lib.hid hb2; clear own2 hb2) | (go_at_call 38; refine (joinC (spV s) A c _ O2.out HVS.out (by omega)).mono ?_; rintro e w3 ⟨rfl, hb3⟩; have B3 := Lib.hid (B2.out.trans (hb3.mono B2.out.size)); clear hb3) | (go_at_call 39; refine (inRange_any _ _ _ _).mono ?_; rintro e w' ⟨rfl, rfl⟩))
      go_ret2
      rw [R.out, R2.out]
      exact ⟨rfl, B3.out⟩
set_option maxHeartbeats 4000000 in
theorem NormalPath_spec (s : ByteArray) (w : World) (hs : s.size ≤ 1048576) :
    Calls Tryd.prog 15 #[.string s] w fun e w' => e = .returned (.tuple #[.string (nmS s), .bool (nmOk s)]) ∧ Below w.heap.size w w' := by
  by_cases h4 : s.size ≤ 400
  case neg =>
    have d4 : decide ((400 : Int) < (s.size : Int)) = true := decide_eq_true (by omega)
    have R := Lib.hid (show nmOk s = false from by unfold nmOk; rw [decide_eq_false h4]; rfl)
    have R2 := Lib.hid (nm_f R.out)
    go_enter Tryd.func15, Tryd.ntmps15
    go_wp2_with fail
    go_ret2
    rw [R.out, R2.out]
    exact ⟨rfl, Below.refl _ _⟩
  have d4 : decide ((400 : Int) < (s.size : Int)) = false := decide_eq_false (by omega)
  obtain ⟨hvl, hvs⟩ := spV_len s
  have HVS := Lib.hid hvs
  have HJL := Lib.hid (jn_len (spV s) hvs)
  have HOK := Lib.hid (show nmOk s = (spB s && inB ((jn (spV s)).length : Int) 1 60) from by unfold nmOk; rw [decide_eq_true h4]; rfl)
  obtain ⟨V, hV⟩ : ∃ V, V = spV s := ⟨_, rfl⟩
  obtain ⟨bb, hbb⟩ : ∃ bb, bb = spB s := ⟨_, rfl⟩
  have HSP := Lib.hid (SplitPath_spec s w hs)
  have HT := Lib.hid (nm_t (s := s))
  rw [← hV] at HVS HJL HOK HSP hvl HT
  rw [← hbb] at HOK HSP
  clear hvs hV hbb
  go_enter Tryd.func15, Tryd.ntmps15
  go_wp2_with (go_at_call 10; refine HSP.out.mono ?_; rintro e w2 ⟨A, c, rfl, own2, hb2⟩; have O2 := Lib.hid own2; have B2 := Lib.hid hb2; clear own2 hb2)
  go_loop [6, 7] (fun v i => ∃ (k : Nat) (o : ByteArray), k ≤ V.length ∧ i = .int .i64 k ∧ v = .string o ∧ o.data.toList = jn (V.take k) ∧ o.size ≤ 21 * k) (fun _ i => V.length - (intOf i).toNat)
  case atStart => exact ⟨0, ⟨#[]⟩, Nat.zero_le _, rfl, rfl, by unfold jn; rfl, by show 0 ≤ _; omega⟩
  case round =>
    obtain ⟨k, o, hk, rfl, rfl, ho, hoz⟩ := hrel
    have HO := Lib.hid ho
    clear ho
    by_cases hlt : k < V.length
    · obtain ⟨g, rfl⟩ := own_some O2.out (by omega)
      obtain ⟨x, hx⟩ : ∃ x, V[k]? = some x := ⟨_, List.getElem?_eq_getElem hlt⟩
      have c_0 : w2.cell? ⟨g, k, none⟩ = some (.string x) := by
        rw [World.ownsRow.cellAt O2.out k (by omega), List.getElem?_map, hx]
        rfl
      have hx20 := HVS.out x (List.mem_of_getElem? hx)
      have HJ := Lib.hid (jn_snoc V k x hx)
      clear hx
      by_cases hk0 : 0 < k
      · have d0 : decide ((0 : Int) < (k : Int)) = true := decide_eq_true (by omega)
        go_wp2_with fail
        go_round
        case rel =>
          refine ⟨k + 1, _, by omega, by go_num, rfl, ?_, ?_⟩
          · rw [HJ.out, if_neg (by omega), ← HO.out]
            simp [ByteArray.data_append, Array.toList_append]
          · rw [ByteArray.size_append, ByteArray.size_append]
            show o.size + 1 + x.size ≤ _
            omega
        case measure => simp [intOf]; omega
      · obtain rfl : k = 0 := by omega
        have d0 : decide ((0 : Int) < ((0 : Nat) : Int)) = false := decide_eq_false (by omega)
        go_wp2_with fail
        go_round
        case rel =>
          refine ⟨0 + 1, _, by omega, by go_num, rfl, ?_, ?_⟩
          · rw [HJ.out, if_pos rfl]
            have h0 := HO.out
            unfold jn at h0
            simp [Lib.join_nil] at h0
            simp [ByteArray.data_append, Array.toList_append, h0]
          · rw [ByteArray.size_append]
            omega
        case measure => simp [intOf]; omega
    · obtain rfl : k = V.length := by omega
      clear hlt
      have hol : o.data.toList = jn V := by rw [HO.out, List.take_length]
      have hoe : o = ⟨(jn V).toArray⟩ := ba_ext (by rw [hol])
      have hosz : o.size = (jn V).length := by rw [Lib.size_eq, hol]
      have HOE := Lib.hid hoe
      rw [← hosz] at HOK
      have hoz9 : o.size ≤ 9223372036854775807 := by omega
      clear hol hoe hosz
      cases bb with
      | false =>
        have R := Lib.hid (show nmOk s = false from HOK.out)
        have R2 := Lib.hid (nm_f R.out)
        go_wp2_with fail
        go_ret2
        rw [R.out, R2.out]
        exact ⟨rfl, B2.out⟩
      | true =>
        cases hi : inB (o.size : Int) 1 60 with
        | false =>
          have R := Lib.hid (show nmOk s = false from by rw [HOK.out, hi]; rfl)
          have R2 := Lib.hid (nm_f R.out)
          go_wp2_with (go_at_call 37; refine (l1In_any _ _ _ _).mono ?_; rintro e w' ⟨rfl, rfl⟩)
          go_ret2
          rw [R.out, R2.out]
          exact ⟨rfl, B2.out⟩
        | true =>
          have R := Lib.hid (show nmOk s = true from by rw [HOK.out, hi]; rfl)
          have R2 := Lib.hid (show nmS s = o from by rw [HT.out R.out, HOE.out])
          go_wp2_with (go_at_call 37; refine (l1In_any _ _ _ _).mono ?_; rintro e w' ⟨rfl, rfl⟩)
          go_ret2
          rw [R.out, R2.out]
          exact ⟨rfl, B2.out⟩
theorem IsNormal_impl (s : ByteArray) (w : World) (hs : s.size ≤ 1048576) (hm : MaxAt w) :
    Calls Tryd.prog 18 #[.string s] w fun e w' => e = .returned (.bool (isnF s)) ∧ Below w.heap.size w w' := by
  have HC := Lib.hid (NormalPath_impl s w hs hm)
  have HR := Lib.hid (show isnF s = (nmOk s && ((nmS s).toList == s.toList)) from rfl)
  generalize nmOk s = b at *
  generalize nmS s = t at *
  cases b with
  | false =>
    have R := Lib.hid (show isnF s = false from HR.out)
    go_enter Tryd.func18, Tryd.ntmps18
    go_wp2_with (go_at_call 16; refine HC.out.mono ?_; rintro e w2 ⟨rfl, hb2⟩; have B2 := Lib.hid hb2; clear hb2)
    go_ret
    exact ⟨ret_bool R.out.symm, B2.out⟩
  | true =>
    have R := Lib.hid (show isnF s = (t.toList == s.toList) from HR.out)
    go_enter Tryd.func18, Tryd.ntmps18
    go_wp2_with (go_at_call 16; refine HC.out.mono ?_; rintro e w2 ⟨rfl, hb2⟩; have B2 := Lib.hid hb2; clear hb2)
    go_ret
    exact ⟨ret_bool R.out.symm, B2.out⟩
theorem IsNormal_spec (s : ByteArray) (w : World) (hs : s.size ≤ 1048576) :
    Calls Tryd.prog 17 #[.string s] w fun e w' => e = .returned (.bool (isnF s)) ∧ Below w.heap.size w w' := by
  have HC := Lib.hid (NormalPath_spec s w hs)
  have HR := Lib.hid (show isnF s = (nmOk s && ((nmS s).toList == s.toList)) from rfl)
  generalize nmOk s = b at *
  generalize nmS s = t at *
  cases b with
  | false =>
    have R := Lib.hid (show isnF s = false from HR.out)
    go_enter Tryd.func17, Tryd.ntmps17
    go_wp2_with (go_at_call 15; refine HC.out.mono ?_; rintro e w2 ⟨rfl, hb2⟩; have B2 := Lib.hid hb2; clear hb2)
    go_ret
    exact ⟨ret_bool R.out.symm, B2.out⟩
  | true =>
    have R := Lib.hid (show isnF s = (t.toList == s.toList) from HR.out)
    go_enter Tryd.func17, Tryd.ntmps17
    go_wp2_with (go_at_call 15; refine HC.out.mono ?_; rintro e w2 ⟨rfl, hb2⟩; have B2 := Lib.hid hb2; clear hb2)
    go_ret
    exact ⟨ret_bool R.out.symm, B2.out⟩
end Go.Proofs.YtffachcddoechaaDoor
