/-
  FindClass of both packages: the place of the first element with a given name. Conditions: none.
-/
import Derived.Test.YtphcpllafddpfaaFind
import Derived.Test.YtphcpllafddpfaaDataC
namespace Go.Proofs.Ytphcpllafddpfaa
open Go.ChangeShapes Go.WideShapes Go.ChangeAt Go.RowKit Go.Deep Go.Joins
open Go.ChangeMaps (open_string shut_string)
set_option linter.unusedVariables false
set_option linter.unusedSimpArgs false
set_option maxRecDepth 100000
def FClass.nm : FClass → ByteArray
  | ⟨z0, _, _, _⟩ => z0
set_option maxHeartbeats 1000000 in
theorem FindClass_spec (l : List FClass) (s : ByteArray) (u : Value) (w : World) (hl : l.length ≤ 1000000000) {B : Nat} (hB0 : B ≤ w.heap.size) (hr0 : RdC w B (.s 53 4 l.length (FClass.flat l)) u) :
    Calls Try.prog 7 #[u, .string s] w fun e w' => e = .returned (.int .i64 (fidx FClass.nm l s)) ∧ Below w.heap.size w w' := by
  have hr := hr0.up hB0
  clear hr0
  obtain ⟨A, c, rfl⟩ := hr.form
  have HC := Lib.hid hr
  have hn : l.length ≤ 9223372036854775807 := by omega
  clear hr
  go_enter Try.func7, Try.ntmps7
  go_wp2_with fail
  go_loopw [5] (fun i wr => ∃ k : Nat, k ≤ l.length ∧ i = .int .i64 k ∧ (∀ (j : Nat) (y : FClass), j < k → l[j]? = some y → ((FClass.nm y).toList == s.toList) = false) ∧ Below w.heap.size w wr) (fun i _ => l.length - (intOf i).toNat)
  case atStart => exact ⟨0, Nat.zero_le _, rfl, fun j y hj => absurd hj (by omega), Below.refl _ _⟩
  case round =>
    obtain ⟨k, hk, rfl, hno, hb⟩ := hrel
    have HNO := Lib.hid hno
    clear hno
    by_cases hlt : k < l.length
    · obtain ⟨x, hx⟩ : ∃ x, l[k]? = some x := ⟨_, List.getElem?_eq_getElem hlt⟩
      obtain ⟨bc, offc, rfl, hblc, hcc⟩ := RdC.at_ FClass.len HC.out hx
      have HX := Lib.hid hx
      have hbs := hb.size
      clear hx
      obtain ⟨z0, z1, z2, z3⟩ := x
      rw [FClass.c_eq] at hcc
      obtain ⟨u0, e0, q0⟩ := hcc 0 _ rfl
      obtain rfl := q0.val
      clear q0
      have c_0 : wr.cell? ⟨bc, offc + k * 4, none⟩ = some (.string z0) := (hb.cell (p := ⟨bc, _, none⟩) hblc).trans (by simpa using e0)
      obtain ⟨u1, e1, q1⟩ := hcc 1 _ rfl
      obtain rfl := q1.val
      clear q1
      have c_1 : wr.cell? ⟨bc, offc + k * 4 + 1, none⟩ = some (.string z1) := (hb.cell (p := ⟨bc, _, none⟩) hblc).trans (by simpa using e1)
      obtain ⟨u2, e2, q2⟩ := hcc 2 _ rfl
      obtain ⟨A2, c2, rfl⟩ := q2.form
      clear q2
      have c_2 : wr.cell? ⟨bc, offc + k * 4 + 2, none⟩ = some (.slice A2 z2.length c2) := (hb.cell (p := ⟨bc, _, none⟩) hblc).trans (by simpa using e2)
      obtain ⟨u3, e3, q3⟩ := hcc 3 _ rfl
      obtain ⟨A3, c3, rfl⟩ := q3.form
      clear q3
      have c_3 : wr.cell? ⟨bc, offc + k * 4 + 3, none⟩ = some (.slice A3 z3.length c3) := (hb.cell (p := ⟨bc, _, none⟩) hblc).trans (by simpa using e3)
      clear hcc e0 e1 e2 e3
      by_cases hq : (z0.toList == s.toList) = true
      · have HQ := Lib.hid hq
        go_wp2_with fail
        go_ret
        exact ⟨ret_int (fidx_hit HX.out HQ.out HNO.out).symm, hb⟩
      · have hq' : (z0.toList == s.toList) = false := by simpa using hq
        have HQ := Lib.hid hq'
        clear hq
        go_wp2_with fail
        go_roundw
        case rel =>
          refine ⟨k + 1, by omega, by go_num, fun j y hj hjy => ?_, hb⟩
          by_cases e : j = k
          · subst e
            rw [HX.out] at hjy
            injection hjy with hjy
            subst hjy
            exact HQ.out
          · exact HNO.out j y (by omega) hjy
        case measure => simp [intOf]; omega
    · obtain rfl : k = l.length := by omega
      clear hlt
      go_wp2_with fail
      go_ret
      exact ⟨ret_int (fidx_miss fun j y hy => HNO.out j y (List.getElem?_eq_some_iff.1 hy).1 hy).symm, hb⟩
set_option maxHeartbeats 1000000 in
theorem FindClass_impl (l : List FClass) (s : ByteArray) (u : Value) (w : World) (hl : l.length ≤ 1000000000) {B : Nat} (hB0 : B ≤ w.heap.size) (hr0 : RdC w B (.s 53 4 l.length (FClass.flat l)) u) :
    Calls Try.prog 9 #[u, .string s] w fun e w' => e = .returned (.int .i64 (fidx FClass.nm l s)) ∧ Below w.heap.size w w' := by
  have hr := hr0.up hB0
  clear hr0
  obtain ⟨A, c, rfl⟩ := hr.form
  have HC := Lib.hid hr
  have hn : l.length ≤ 9223372036854775807 := by omega
  clear hr
  go_enter Try.func9, Try.ntmps9
  go_wp2_with fail
  go_loopw [9] (fun i wr => ∃ k : Nat, k ≤ l.length ∧ i = .int .i64 k ∧ (∀ (j : Nat) (y : FClass), j < k → l[j]? = some y → ((FClass.nm y).toList == s.toList) = false) ∧ Below w.heap.size w wr) (fun i _ => l.length - (intOf i).toNat)
  case atStart => exact ⟨0, Nat.zero_le _, rfl, fun j y hj => absurd hj (by omega), Below.refl _ _⟩
  case round =>
    obtain ⟨k, hk, rfl, hno, hb⟩ := hrel
    have HNO := Lib.hid hno
    clear hno
    by_cases hlt : k < l.length
    · obtain ⟨x, hx⟩ : ∃ x, l[k]? = some x := ⟨_, List.getElem?_eq_getElem hlt⟩
      obtain ⟨bc, offc, rfl, hblc, hcc⟩ := RdC.at_ FClass.len HC.out hx
      have HX := Lib.hid hx
      have hbs := hb.size
      clear hx
      obtain ⟨z0, z1, z2, z3⟩ := x
      rw [FClass.c_eq] at hcc
      obtain ⟨u0, e0, q0⟩ := hcc 0 _ rfl
      obtain rfl := q0.val
      clear q0
      have c_0 : wr.cell? ⟨bc, offc + k * 4, none⟩ = some (.string z0) := (hb.cell (p := ⟨bc, _, none⟩) hblc).trans (by simpa using e0)
      obtain ⟨u1, e1, q1⟩ := hcc 1 _ rfl
      obtain rfl := q1.val
      clear q1
      have c_1 : wr.cell? ⟨bc, offc + k * 4 + 1, none⟩ = some (.string z1) := (hb.cell (p := ⟨bc, _, none⟩) hblc).trans (by simpa using e1)
      obtain ⟨u2, e2, q2⟩ := hcc 2 _ rfl
      obtain ⟨A2, c2, rfl⟩ := q2.form
      clear q2
      have c_2 : wr.cell? ⟨bc, offc + k * 4 + 2, none⟩ = some (.slice A2 z2.length c2) := (hb.cell (p := ⟨bc, _, none⟩) hblc).trans (by simpa using e2)
      obtain ⟨u3, e3, q3⟩ := hcc 3 _ rfl
      obtain ⟨A3, c3, rfl⟩ := q3.form
      clear q3
      have c_3 : wr.cell? ⟨bc, offc + k * 4 + 3, none⟩ = some (.slice A3 z3.length c3) := (hb.cell (p := ⟨bc, _, none⟩) hblc).trans (by simpa using e3)
      clear hcc e0 e1 e2 e3
      by_cases hq : (z0.toList == s.toList) = true
      · have HQ := Lib.hid hq
        go_wp2_with fail
        go_ret
        exact ⟨ret_int (fidx_hit HX.out HQ.out HNO.out).symm, hb.alloc hb.size _⟩
      · have hq' : (z0.toList == s.toList) = false := by simpa using hq
        have HQ := Lib.hid hq'
        clear hq
        go_wp2_with fail
        go_roundw
        case rel =>
          refine ⟨k + 1, by omega, by go_num, fun j y hj hjy => ?_, hb.alloc hb.size _⟩
          by_cases e : j = k
          · subst e
            rw [HX.out] at hjy
            injection hjy with hjy
            subst hjy
            exact HQ.out
          · exact HNO.out j y (by omega) hjy
        case measure => simp [intOf]; omega
    · obtain rfl : k = l.length := by omega
      clear hlt
      go_wp2_with fail
      go_ret
      exact ⟨ret_int (fidx_miss fun j y hy => HNO.out j y (List.getElem?_eq_some_iff.1 hy).1 hy).symm, hb⟩
end Go.Proofs.Ytphcpllafddpfaa
