/-
  FindFunc of both packages: the place of the first element with a given name. Conditions: none.
-/
import Derived.Test.YtlglndcbkhojaaaFind
import Derived.Test.YtlglndcbkhojaaaDataP
namespace Go.Proofs.Ytlglndcbkhojaaa
open Go.ChangeShapes Go.WideShapes Go.ChangeAt Go.RowKit Go.Deep Go.Joins
open Go.ChangeMaps (open_string shut_string)
set_option linter.unusedVariables false
set_option linter.unusedSimpArgs false
set_option maxRecDepth 100000
def FFunc.nm : FFunc → ByteArray
  | ⟨z0, _, _, _, _, _⟩ => z0
set_option maxHeartbeats 1000000 in
theorem FindFunc_spec (z0 : List FFunc) (z1 : List FClass) (s : ByteArray) (us : List Value) (w : World) (hl : z0.length ≤ 1000000000) {B : Nat} (hB0 : B ≤ w.heap.size) (hr : RdVs w B (FProgram.c ⟨z0, z1⟩) us) :
    Calls Try.prog 15 #[.agg us.toArray, .string s] w fun e w' => e = .returned (.int .i64 (fidx FFunc.nm z0 s)) ∧ Below w.heap.size w w' := by
  rw [FProgram.c_eq] at hr
  obtain ⟨A0, c0, us0, rfl, r0, hr_0⟩ := hr.uns
  obtain ⟨A1, c1, us1, rfl, r1, hr_1⟩ := hr_0.uns
  obtain rfl := hr_1.un0
  have HC := Lib.hid (r0.up hB0)
  have hn : z0.length ≤ 9223372036854775807 := by omega
  clear r0 hr hr_0 hr_1 r1
  go_enter Try.func15, Try.ntmps15
  go_wp2_with fail
  go_loopw [5] (fun i wr => ∃ k : Nat, k ≤ z0.length ∧ i = .int .i64 k ∧ (∀ (j : Nat) (y : FFunc), j < k → z0[j]? = some y → ((FFunc.nm y).toList == s.toList) = false) ∧ Blk wr w.heap.size 45 #[.slice A0 z0.length c0, .slice A1 z1.length c1] ∧ Below w.heap.size w wr) (fun i _ => z0.length - (intOf i).toNat)
  case atStart => exact ⟨0, Nat.zero_le _, rfl, fun j y hj => absurd hj (by omega), Blk.new _ _ _, (Below.refl _ _).alloc (Nat.le_refl _) _⟩
  case round =>
    obtain ⟨k, hk, rfl, hno, ba, hb⟩ := hrel
    have HNO := Lib.hid hno
    clear hno
    have ba_0 : wr.cell? ⟨w.heap.size, 0, none⟩ = some (.slice A0 z0.length c0) := ba.cell 0
    have ba_1 : wr.cell? ⟨w.heap.size, 1, none⟩ = some (.slice A1 z1.length c1) := ba.cell 1
    have ba_l := ba.lt
    by_cases hlt : k < z0.length
    · obtain ⟨x, hx⟩ : ∃ x, z0[k]? = some x := ⟨_, List.getElem?_eq_getElem hlt⟩
      obtain ⟨bc, offc, rfl, hblc, hcc⟩ := RdC.at_ FFunc.len HC.out hx
      have HX := Lib.hid hx
      have hbs := hb.size
      clear hx
      obtain ⟨y0, y1, y2, y3, y4, y5⟩ := x
      rw [FFunc.c_eq] at hcc
      obtain ⟨u0, e0, q0⟩ := hcc 0 _ rfl
      obtain rfl := q0.val
      clear q0
      have c_0 : wr.cell? ⟨bc, offc + k * 6, none⟩ = some (.string y0) := (hb.cell (p := ⟨bc, _, none⟩) hblc).trans (by simpa using e0)
      obtain ⟨u1, e1, q1⟩ := hcc 1 _ rfl
      obtain ⟨B1, d1, rfl⟩ := q1.form
      clear q1
      have c_1 : wr.cell? ⟨bc, offc + k * 6 + 1, none⟩ = some (.slice B1 y1.length d1) := (hb.cell (p := ⟨bc, _, none⟩) hblc).trans (by simpa using e1)
      obtain ⟨u2, e2, q2⟩ := hcc 2 _ rfl
      obtain ⟨B2, d2, rfl⟩ := q2.form
      clear q2
      have c_2 : wr.cell? ⟨bc, offc + k * 6 + 2, none⟩ = some (.slice B2 y2.length d2) := (hb.cell (p := ⟨bc, _, none⟩) hblc).trans (by simpa using e2)
      obtain ⟨u3, e3, q3⟩ := hcc 3 _ rfl
      obtain ⟨B3, d3, rfl⟩ := q3.form
      clear q3
      have c_3 : wr.cell? ⟨bc, offc + k * 6 + 3, none⟩ = some (.slice B3 y3.length d3) := (hb.cell (p := ⟨bc, _, none⟩) hblc).trans (by simpa using e3)
      obtain ⟨u4, e4, q4⟩ := hcc 4 _ rfl
      obtain rfl := q4.val
      clear q4
      have c_4 : wr.cell? ⟨bc, offc + k * 6 + 4, none⟩ = some (.bool y4) := (hb.cell (p := ⟨bc, _, none⟩) hblc).trans (by simpa using e4)
      obtain ⟨u5, e5, q5⟩ := hcc 5 _ rfl
      obtain ⟨B5, d5, rfl⟩ := q5.form
      clear q5
      have c_5 : wr.cell? ⟨bc, offc + k * 6 + 5, none⟩ = some (.slice B5 y5.length d5) := (hb.cell (p := ⟨bc, _, none⟩) hblc).trans (by simpa using e5)
      clear hcc e0 e1 e2 e3 e4 e5
      by_cases hq : (y0.toList == s.toList) = true
      · have HQ := Lib.hid hq
        go_wp2_with fail
        go_ret
        exact ⟨ret_int (fidx_hit HX.out HQ.out HNO.out).symm, hb⟩
      · have hq' : (y0.toList == s.toList) = false := by simpa using hq
        have HQ := Lib.hid hq'
        clear hq
        go_wp2_with fail
        go_roundw
        case rel =>
          refine ⟨k + 1, by omega, by go_num, fun j y hj hjy => ?_, ba, hb⟩
          by_cases e : j = k
          · subst e
            rw [HX.out] at hjy
            injection hjy with hjy
            subst hjy
            exact HQ.out
          · exact HNO.out j y (by omega) hjy
        case measure => simp [intOf]; omega
    · obtain rfl : k = z0.length := by omega
      clear hlt
      go_wp2_with fail
      go_ret
      exact ⟨ret_int (fidx_miss fun j y hy => HNO.out j y (List.getElem?_eq_some_iff.1 hy).1 hy).symm, hb⟩
set_option maxHeartbeats 1000000 in
theorem FindFunc_impl (z0 : List FFunc) (z1 : List FClass) (s : ByteArray) (us : List Value) (w : World) (hl : z0.length ≤ 1000000000) {B : Nat} (hB0 : B ≤ w.heap.size) (hr : RdVs w B (FProgram.c ⟨z0, z1⟩) us) :
    Calls Try.prog 17 #[.agg us.toArray, .string s] w fun e w' => e = .returned (.int .i64 (fidx FFunc.nm z0 s)) ∧ Below w.heap.size w w' := by
  rw [FProgram.c_eq] at hr
  obtain ⟨A0, c0, us0, rfl, r0, hr_0⟩ := hr.uns
  obtain ⟨A1, c1, us1, rfl, r1, hr_1⟩ := hr_0.uns
  obtain rfl := hr_1.un0
  have HC := Lib.hid (r0.up hB0)
  have hn : z0.length ≤ 9223372036854775807 := by omega
  clear r0 hr hr_0 hr_1 r1
  go_enter Try.func17, Try.ntmps17
  go_wp2_with fail
  go_loopw [10] (fun i wr => ∃ k : Nat, k ≤ z0.length ∧ i = .int .i64 k ∧ (∀ (j : Nat) (y : FFunc), j < k → z0[j]? = some y → ((FFunc.nm y).toList == s.toList) = false) ∧ Blk wr w.heap.size 45 #[.slice A0 z0.length c0, .slice A1 z1.length c1] ∧ Below w.heap.size w wr) (fun i _ => z0.length - (intOf i).toNat)
  case atStart => exact ⟨0, Nat.zero_le _, rfl, fun j y hj => absurd hj (by omega), Blk.new _ _ _, (Below.refl _ _).alloc (Nat.le_refl _) _⟩
  case round =>
    obtain ⟨k, hk, rfl, hno, ba, hb⟩ := hrel
    have HNO := Lib.hid hno
    clear hno
    have ba_0 : wr.cell? ⟨w.heap.size, 0, none⟩ = some (.slice A0 z0.length c0) := ba.cell 0
    have ba_1 : wr.cell? ⟨w.heap.size, 1, none⟩ = some (.slice A1 z1.length c1) := ba.cell 1
    have ba_l := ba.lt
    by_cases hlt : k < z0.length
    · obtain ⟨x, hx⟩ : ∃ x, z0[k]? = some x := ⟨_, List.getElem?_eq_getElem hlt⟩
      obtain ⟨bc, offc, rfl, hblc, hcc⟩ := RdC.at_ FFunc.len HC.out hx
      have HX := Lib.hid hx
      have hbs := hb.size
      clear hx
      obtain ⟨y0, y1, y2, y3, y4, y5⟩ := x
      rw [FFunc.c_eq] at hcc
      obtain ⟨u0, e0, q0⟩ := hcc 0 _ rfl
      obtain rfl := q0.val
      clear q0
      have c_0 : wr.cell? ⟨bc, offc + k * 6, none⟩ = some (.string y0) := (hb.cell (p := ⟨bc, _, none⟩) hblc).trans (by simpa using e0)
      obtain ⟨u1, e1, q1⟩ := hcc 1 _ rfl
      obtain ⟨B1, d1, rfl⟩ := q1.form
      clear q1
      have c_1 : wr.cell? ⟨bc, offc + k * 6 + 1, none⟩ = some (.slice B1 y1.length d1) := (hb.cell (p := ⟨bc, _, none⟩) hblc).trans (by simpa using e1)
      obtain ⟨u2, e2, q2⟩ := hcc 2 _ rfl
      obtain ⟨B2, d2, rfl⟩ := q2.form
      clear q2
      have c_2 : wr.cell? ⟨bc, offc + k * 6 + 2, none⟩ = some (.slice B2 y2.length d2) := (hb.cell (p := ⟨bc, _, none⟩) hblc).trans (by simpa using e2)
      obtain ⟨u3, e3, q3⟩ := hcc 3 _ rfl
      obtain ⟨B3, d3, rfl⟩ := q3.form
      clear q3
      have c_3 : wr.cell? ⟨bc, offc + k * 6 + 3, none⟩ = some (.slice B3 y3.length d3) := (hb.cell (p := ⟨bc, _, none⟩) hblc).trans (by simpa using e3)
      obtain ⟨u4, e4, q4⟩ := hcc 4 _ rfl
      obtain rfl := q4.val
      clear q4
      have c_4 : wr.cell? ⟨bc, offc + k * 6 + 4, none⟩ = some (.bool y4) := (hb.cell (p := ⟨bc, _, none⟩) hblc).trans (by simpa using e4)
      obtain ⟨u5, e5, q5⟩ := hcc 5 _ rfl
      obtain ⟨B5, d5, rfl⟩ := q5.form
      clear q5
      have c_5 : wr.cell? ⟨bc, offc + k * 6 + 5, none⟩ = some (.slice B5 y5.length d5) := (hb.cell (p := ⟨bc, _, none⟩) hblc).trans (by simpa using e5)
      clear hcc e0 e1 e2 e3 e4 e5
      by_cases hq : (y0.toList == s.toList) = true
      · have HQ := Lib.hid hq
        go_wp2_with fail
        go_ret
        exact ⟨ret_int (fidx_hit HX.out HQ.out HNO.out).symm, hb.alloc hb.size _⟩
      · have hq' : (y0.toList == s.toList) = false := by simpa using hq
        have HQ := Lib.hid hq'
        clear hq
        go_wp2_with fail
        go_roundw
        case rel =>
          refine ⟨k + 1, by omega, by go_num, fun j y hj hjy => ?_, ba.alloc _, hb.alloc hb.size _⟩
          by_cases e : j = k
          · subst e
            rw [HX.out] at hjy
            injection hjy with hjy
            subst hjy
            exact HQ.out
          · exact HNO.out j y (by omega) hjy
        case measure => simp [intOf]; omega
    · obtain rfl : k = z0.length := by omega
      clear hlt
      go_wp2_with fail
      go_ret
      exact ⟨ret_int (fidx_miss fun j y hy => HNO.out j y (List.getElem?_eq_some_iff.1 hy).1 hy).symm, hb⟩
end Go.Proofs.Ytlglndcbkhojaaa
