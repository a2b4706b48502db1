/-
  FindFile of both packages. Conditions: none.
-/
import Derived.Test.YtnkidlahmplgnaaDoorPthN
import Derived.Test.YtnkidlahmplgnaaDoorFind
import Derived.Test.YtnkidlahmplgnaaDoorDataF
namespace Go.Proofs.YtnkidlahmplgnaaDoor
open Go.ChangeShapes Go.WideShapes Go.ChangeAt Go.RowKit Go.Deep Go.Joins
open Go.ChangeMaps (open_string shut_string)
set_option linter.unusedVariables false
set_option linter.unusedSimpArgs false
set_option maxRecDepth 100000
def FFile.nm : FFile → ByteArray
  | ⟨a0, _, _⟩ => a0
def fif (l : List FFile) (s : ByteArray) : Int := if nmOk s = true then fidx FFile.nm l (nmS s) else -1
set_option maxHeartbeats 1000000 in
theorem FindFile_impl (l : List FFile) (s : ByteArray) (u : Value) (w : World) (hs : s.size ≤ 1048576) (hm : MaxAt w) (hl : l.length ≤ 1000000000) {B : Nat} (hB0 : B ≤ w.heap.size) (hr0 : RdC w B (.s 39 3 l.length (FFile.flat l)) u) :
    Calls Tryd.prog 11 #[u, .string s] w fun e w' => e = .returned (.int .i64 (fif l s)) ∧ Below w.heap.size w w' := by
  have hr := hr0.up hB0
  clear hr0
  obtain ⟨A, c, rfl⟩ := hr.form
  have HC := Lib.hid hr
  have hn : l.length ≤ 9223372036854775807 := by omega
  clear hr
  have HNP := Lib.hid (NormalPath_impl s w hs hm)
  have HR := Lib.hid (show fif l s = (if nmOk s = true then fidx FFile.nm l (nmS s) else -1) from rfl)
  generalize nmOk s = b at *
  generalize nmS s = t at *
  generalize fif l s = r at *
  cases b with
  | false =>
    have RT := Lib.hid (show r = -1 from HR.out)
    go_enter Tryd.func11, Tryd.ntmps11
    go_wp2_with (go_at_call 6; refine HNP.out.mono ?_; rintro e w2 ⟨rfl, hb2⟩; have B2 := Lib.hid hb2; clear hb2)
    go_ret
    exact ⟨ret_int RT.out.symm, B2.out⟩
  | true =>
    have RT := Lib.hid (show r = fidx FFile.nm l t from HR.out)
    go_enter Tryd.func11, Tryd.ntmps11
    go_wp2_with (go_at_call 6; refine HNP.out.mono ?_; rintro e w2 ⟨rfl, hb2⟩; have B2 := Lib.hid hb2; clear hb2)
    go_loopw [18] (fun i wr => ∃ k : Nat, k ≤ l.length ∧ i = .int .i64 k ∧ (∀ (j : Nat) (y : FFile), j < k → l[j]? = some y → ((FFile.nm y).toList == t.toList) = false) ∧ Below w.heap.size w wr) (fun i _ => l.length - (intOf i).toNat)
    case atStart => exact ⟨0, Nat.zero_le _, rfl, fun j y hj => absurd hj (by omega), B2.out⟩
    case round =>
      obtain ⟨k, hk, rfl, hno, hb⟩ := hrel
      have HNO := Lib.hid hno
      clear hno
      by_cases hlt : k < l.length
      · obtain ⟨x, hx⟩ : ∃ x, l[k]? = some x := ⟨_, List.getElem?_eq_getElem hlt⟩
        obtain ⟨bc, offc, rfl, hblc, hcc⟩ := RdC.at_ FFile.len HC.out hx
        have HX := Lib.hid hx
        have hbs := hb.size
        clear hx
        obtain ⟨z0, z1, z2⟩ := x
        rw [FFile.c_eq] at hcc
        obtain ⟨u0, e0, q0⟩ := hcc 0 _ rfl
        obtain rfl := q0.val
        clear q0
        have c_0 : wr.cell? ⟨bc, offc + k * 3, none⟩ = some (.string z0) := (hb.cell (p := ⟨bc, _, none⟩) hblc).trans (by simpa using e0)
        obtain ⟨u1, e1, q1⟩ := hcc 1 _ rfl
        obtain rfl := q1.val
        clear q1
        have c_1 : wr.cell? ⟨bc, offc + k * 3 + 1, none⟩ = some (.string z1) := (hb.cell (p := ⟨bc, _, none⟩) hblc).trans (by simpa using e1)
        obtain ⟨u2, e2, q2⟩ := hcc 2 _ rfl
        obtain rfl := q2.val
        clear q2
        have c_2 : wr.cell? ⟨bc, offc + k * 3 + 2, none⟩ = some (.int .i64 z2) := (hb.cell (p := ⟨bc, _, none⟩) hblc).trans (by simpa using e2)
        clear hcc e0 e1 e2
        by_cases hq : (z0.toList == t.toList) = true
        · have HQ := Lib.hid hq
          go_wp2_with fail
          go_ret
          exact ⟨ret_int (RT.out.trans (fidx_hit HX.out HQ.out HNO.out)).symm, hb.alloc hb.size _⟩
        · have hq' : (z0.toList == t.toList) = false := by simpa using hq
          have HQ := Lib.hid hq'
          clear hq
          go_wp2_with fail
          go_roundw
          case rel =>
            refine ⟨k + 1, by omega, by go_num, fun j y hj hjy => ?_, hb.alloc hb.size _⟩
            by_cases e : j = k
            · subst e
              rw [HX.out] at hjy
              injection hjy with hjy
              subst hjy
              exact HQ.out
            · exact HNO.out j y (by omega) hjy
          case measure => simp [intOf]; omega
      · obtain rfl : k = l.length := by omega
        clear hlt
        go_wp2_with fail
        go_ret
        exact ⟨ret_int (RT.out.trans (fidx_miss fun j y hy => HNO.out j y (List.getElem?_eq_some_iff.1 hy).1 hy)).symm, hb⟩
set_option maxHeartbeats 1000000 in
theorem FindFile_spec (l : List FFile) (s : ByteArray) (u : Value) (w : World) (hs : s.size ≤ 1048576) (hl : l.length ≤ 1000000000) {B : Nat} (hB0 : B ≤ w.heap.size) (hr0 : RdC w B (.s 39 3 l.length (FFile.flat l)) u) :
    Calls Tryd.prog 34 #[u, .string s] w fun e w' => e = .returned (.int .i64 (fif l s)) ∧ Below w.heap.size w w' := by
  have hr := hr0.up hB0
  clear hr0
  obtain ⟨A, c, rfl⟩ := hr.form
  have HC := Lib.hid hr
  have hn : l.length ≤ 9223372036854775807 := by omega
  clear hr
  have HNP := Lib.hid (NormalPath_spec s w hs)
  have HR := Lib.hid (show fif l s = (if nmOk s = true then fidx FFile.nm l (nmS s) else -1) from rfl)
  generalize nmOk s = b at *
  generalize nmS s = t at *
  generalize fif l s = r at *
  cases b with
  | false =>
    have RT := Lib.hid (show r = -1 from HR.out)
    go_enter Tryd.func34, Tryd.ntmps34
    go_wp2_with (go_at_call 33; refine HNP.out.mono ?_; rintro e w2 ⟨rfl, hb2⟩; have B2 := Lib.hid hb2; clear hb2)
    go_loop [7] (fun i => i = .int .i64 0) (fun _ => 0)
    case atStart => rfl
    case round =>
      subst hrel
      go_wp2_with fail
      go_ret
      exact ⟨ret_int RT.out.symm, B2.out⟩
  | true =>
    have RT := Lib.hid (show r = fidx FFile.nm l t from HR.out)
    go_enter Tryd.func34, Tryd.ntmps34
    go_wp2_with (go_at_call 33; refine HNP.out.mono ?_; rintro e w2 ⟨rfl, hb2⟩; have B2 := Lib.hid hb2; clear hb2)
    go_loopw [7] (fun i wr => ∃ k : Nat, k ≤ l.length ∧ i = .int .i64 k ∧ (∀ (j : Nat) (y : FFile), j < k → l[j]? = some y → ((FFile.nm y).toList == t.toList) = false) ∧ Below w.heap.size w wr) (fun i _ => l.length - (intOf i).toNat)
    case atStart => exact ⟨0, Nat.zero_le _, rfl, fun j y hj => absurd hj (by omega), B2.out⟩
    case round =>
      obtain ⟨k, hk, rfl, hno, hb⟩ := hrel
      have HNO := Lib.hid hno
      clear hno
      by_cases hlt : k < l.length
      · obtain ⟨x, hx⟩ : ∃ x, l[k]? = some x := ⟨_, List.getElem?_eq_getElem hlt⟩
        obtain ⟨bc, offc, rfl, hblc, hcc⟩ := RdC.at_ FFile.len HC.out hx
        have HX := Lib.hid hx
        have hbs := hb.size
        clear hx
        obtain ⟨z0, z1, z2⟩ := x
        rw [FFile.c_eq] at hcc
        obtain ⟨u0, e0, q0⟩ := hcc 0 _ rfl
        obtain rfl := q0.val
        clear q0
        have c_0 : wr.cell? ⟨bc, offc + k * 3, none⟩ = some (.string z0) := (hb.cell (p := ⟨bc, _, none⟩) hblc).trans (by simpa using e0)
        obtain ⟨u1, e1, q1⟩ := hcc 1 _ rfl
        obtain rfl := q1.val
        clear q1
        have c_1 : wr.cell? ⟨bc, offc + k * 3 + 1, none⟩ = some (.string z1) := (hb.cell (p := ⟨bc, _, none⟩) hblc).trans (by simpa using e1)
        obtain ⟨u2, e2, q2⟩ := hcc 2 _ rfl
        obtain rfl := q2.val
        clear q2
        have c_2 : wr.cell? ⟨bc, offc + k * 3 + 2, none⟩ = some (.int .i64 z2) := (hb.cell (p := ⟨bc, _, none⟩) hblc).trans (by simpa using e2)
        clear hcc e0 e1 e2
        by_cases hq : (z0.toList == t.toList) = true
        · have HQ := Lib.hid hq
          go_wp2_with fail
          go_ret
          exact ⟨ret_int (RT.out.trans (fidx_hit HX.out HQ.out HNO.out)).symm, hb⟩
        · have hq' : (z0.toList == t.toList) = false := by simpa using hq
          have HQ := Lib.hid hq'
          clear hq
          go_wp2_with fail
          go_roundw
          case rel =>
            refine ⟨k + 1, by omega, by go_num, fun j y hj hjy => ?_, hb⟩
            by_cases e : j = k
            · subst e
              rw [HX.out] at hjy
              injection hjy with hjy
              subst hjy
              exact HQ.out
            · exact HNO.out j y (by omega) hjy
          case measure => simp [intOf]; omega
      · obtain rfl : k = l.length := by omega
        clear hlt
        go_wp2_with fail
        go_ret
        exact ⟨ret_int (RT.out.trans (fidx_miss fun j y hy => HNO.out j y (List.getElem?_eq_some_iff.1 hy).1 hy)).symm, hb⟩
end Go.Proofs.YtnkidlahmplgnaaDoor
