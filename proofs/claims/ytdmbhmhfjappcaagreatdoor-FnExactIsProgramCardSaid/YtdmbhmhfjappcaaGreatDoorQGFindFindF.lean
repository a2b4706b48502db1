/-
  Parts of the proof: Find, FindS, FindC, FindF. Conditions: none.
-/
import Derived.Test.YtdmbhmhfjappcaaGreatDoorQGBasePsV
import Derived.Test.YtdmbhmhfjappcaaGreatDoorQDataG
namespace Go.Proofs.YtdmbhmhfjappcaaGreatDoor
open Go.ChangeShapes Go.WideShapes Go.ChangeAt Go.RowKit Go.Deep Go.Joins
open Go.ChangeMaps (open_string shut_string)
set_option linter.unusedVariables false

/-- The place of the first element whose name is s, or -1. -/
def fidx {α : Type} (nm : α → ByteArray) (l : List α) (s : ByteArray) : Int := match l.findIdx? (fun x => (nm x).toList == s.toList) with
  | some i => i
  | none => -1
theorem fidx_hit {α : Type} {nm : α → ByteArray} {l : List α} {s : ByteArray} {k : Nat} {x : α} (hx : l[k]? = some x) (hq : ((nm x).toList == s.toList) = true) (hno : ∀ (j : Nat) (y : α), j < k → l[j]? = some y → ((nm y).toList == s.toList) = false) : fidx nm l s = k := by
  have hk : k < l.length := (List.getElem?_eq_some_iff.1 hx).1
  have he : l[k] = x := (List.getElem?_eq_some_iff.1 hx).2
  have : l.findIdx? (fun x => (nm x).toList == s.toList) = some k := by
    rw [List.findIdx?_eq_some_iff_getElem]
    refine ⟨hk, by rw [he]; exact hq, fun j hj => ?_⟩
    have := hno j l[j] hj (List.getElem?_eq_getElem (by omega))
    rw [this]
    simp
  unfold fidx
  rw [this]
theorem fidx_miss {α : Type} {nm : α → ByteArray} {l : List α} {s : ByteArray} (hno : ∀ (j : Nat) (y : α), l[j]? = some y → ((nm y).toList == s.toList) = false) : fidx nm l s = -1 := by
  have : l.findIdx? (fun x => (nm x).toList == s.toList) = none := by
    rw [List.findIdx?_eq_none_iff]
    intro x hx
    obtain ⟨j, hj⟩ := List.mem_iff_getElem?.1 hx
    rw [hno j x hj]
  unfold fidx
  rw [this]
theorem fidx_lt {α : Type} (nm : α → ByteArray) (l : List α) (s : ByteArray) : fidx nm l s = -1 ∨ ∃ (k : Nat) (x : α), fidx nm l s = k ∧ k < l.length ∧ l[k]? = some x := by
  unfold fidx
  cases h : l.findIdx? (fun x => (nm x).toList == s.toList) with
  | none => exact .inl rfl
  | some k =>
    rw [List.findIdx?_eq_some_iff_getElem] at h
    obtain ⟨hk, _⟩ := h
    exact .inr ⟨k, l[k], rfl, hk, List.getElem?_eq_getElem hk⟩
end Go.Proofs.YtdmbhmhfjappcaaGreatDoor
namespace Go.Proofs.YtdmbhmhfjappcaaGreatDoor
open Go.ChangeShapes Go.WideShapes Go.ChangeAt Go.RowKit Go.Deep Go.Joins
open Go.ChangeMaps (open_string shut_string)
set_option linter.unusedVariables false
set_option linter.unusedSimpArgs false
set_option maxRecDepth 100000
def FStr.nm : FStr → ByteArray
  | ⟨z0⟩ => z0
set_option maxHeartbeats 1000000 in
theorem SlotOf_spec (z0 : ByteArray) (z1 : List FParam) (z2 : List FParam) (z3 : List FStr) (z4 : Bool) (z5 : List FIns) (s : ByteArray) (us : List Value) (w : World) (hl : z3.length ≤ 1000000000) {B : Nat} (hB0 : B ≤ w.heap.size) (hr : RdVs w B (FFunc.c ⟨z0, z1, z2, z3, z4, z5⟩) us) :
    Calls Tryz.prog 51 #[.agg us.toArray, .string s] w fun e w' => e = .returned (.int .i64 (fidx FStr.nm z3 s)) ∧ Below w.heap.size w w' := by
  rw [FFunc.c_eq] at hr
  obtain ⟨us0, rfl, hr_0⟩ := hr.unv
  obtain ⟨A1, c1, us1, rfl, r1, hr_1⟩ := hr_0.uns
  obtain ⟨A2, c2, us2, rfl, r2, hr_2⟩ := hr_1.uns
  obtain ⟨A3, c3, us3, rfl, r3, hr_3⟩ := hr_2.uns
  obtain ⟨us4, rfl, hr_4⟩ := hr_3.unv
  obtain ⟨A5, c5, us5, rfl, r5, hr_5⟩ := hr_4.uns
  obtain rfl := hr_5.un0
  have HC := Lib.hid (r3.up hB0)
  have hn : z3.length ≤ 9223372036854775807 := by omega
  clear r3 hr hr_0 hr_1 hr_2 hr_3 hr_4 hr_5 r1 r2 r5
  go_enter Tryz.func51, Tryz.ntmps51
  go_wp2_with fail
  go_loopw [5] (fun i wr => ∃ k : Nat, k ≤ z3.length ∧ i = .int .i64 k ∧ (∀ (j : Nat) (y : FStr), j < k → z3[j]? = some y → ((FStr.nm y).toList == s.toList) = false) ∧ Blk wr w.heap.size 51 #[.string z0, .slice A1 z1.length c1, .slice A2 z2.length c2, .slice A3 z3.length c3, .bool z4, .slice A5 z5.length c5] ∧ Below w.heap.size w wr) (fun i _ => z3.length - (intOf i).toNat)
  case atStart => exact ⟨0, Nat.zero_le _, rfl, fun j y hj => absurd hj (by omega), Blk.new _ _ _, (Below.refl _ _).alloc (Nat.le_refl _) _⟩
  case round =>
    obtain ⟨k, hk, rfl, hno, ba, hb⟩ := hrel
    have HNO := Lib.hid hno
    clear hno
    have ba_0 : wr.cell? ⟨w.heap.size, 0, none⟩ = some (.string z0) := ba.cell 0
    have ba_1 : wr.cell? ⟨w.heap.size, 1, none⟩ = some (.slice A1 z1.length c1) := ba.cell 1
    have ba_2 : wr.cell? ⟨w.heap.size, 2, none⟩ = some (.slice A2 z2.length c2) := ba.cell 2
    have ba_3 : wr.cell? ⟨w.heap.size, 3, none⟩ = some (.slice A3 z3.length c3) := ba.cell 3
    have ba_4 : wr.cell? ⟨w.heap.size, 4, none⟩ = some (.bool z4) := ba.cell 4
    have ba_5 : wr.cell? ⟨w.heap.size, 5, none⟩ = some (.slice A5 z5.length c5) := ba.cell 5
    have ba_l := ba.lt
    by_cases hlt : k < z3.length
    · obtain ⟨x, hx⟩ : ∃ x, z3[k]? = some x := ⟨_, List.getElem?_eq_getElem hlt⟩
      obtain ⟨bc, offc, rfl, hblc, hcc⟩ := RdC.at_ FStr.len HC.out hx
      have HX := Lib.hid hx
      have hbs := hb.size
      clear hx
      obtain ⟨y0⟩ := x
      rw [FStr.c_eq] at hcc
      obtain ⟨u0, e0, q0⟩ := hcc 0 _ rfl
      obtain rfl := q0.val
      clear q0
      have c_0 : wr.cell? ⟨bc, offc + k, none⟩ = some (.string y0) := (hb.cell (p := ⟨bc, _, none⟩) hblc).trans (by simpa using e0)
      clear hcc e0
      by_cases hq : (y0.toList == s.toList) = true
      · have HQ := Lib.hid hq
        go_wp2_with fail
        go_ret
        exact ⟨ret_int (fidx_hit HX.out HQ.out HNO.out).symm, hb⟩
      · have hq' : (y0.toList == s.toList) = false := by simpa using hq
        have HQ := Lib.hid hq'
        clear hq
        go_wp2_with fail
        go_roundw
        case rel =>
          refine ⟨k + 1, by omega, by go_num, fun j y hj hjy => ?_, ba, hb⟩
          by_cases e : j = k
          · subst e
            rw [HX.out] at hjy
            injection hjy with hjy
            subst hjy
            exact HQ.out
          · exact HNO.out j y (by omega) hjy
        case measure => simp [intOf]; omega
    · obtain rfl : k = z3.length := by omega
      clear hlt
      go_wp2_with fail
      go_ret
      exact ⟨ret_int (fidx_miss fun j y hy => HNO.out j y (List.getElem?_eq_some_iff.1 hy).1 hy).symm, hb⟩
end Go.Proofs.YtdmbhmhfjappcaaGreatDoor
namespace Go.Proofs.YtdmbhmhfjappcaaGreatDoor
open Go.ChangeShapes Go.WideShapes Go.ChangeAt Go.RowKit Go.Deep Go.Joins
open Go.ChangeMaps (open_string shut_string)
set_option linter.unusedVariables false
set_option linter.unusedSimpArgs false
set_option maxRecDepth 100000
def FClass.nm : FClass → ByteArray
  | ⟨z0, _, _, _⟩ => z0
set_option maxHeartbeats 1000000 in
theorem FindClass_spec (l : List FClass) (s : ByteArray) (u : Value) (w : World) (hl : l.length ≤ 1000000000) {B : Nat} (hB0 : B ≤ w.heap.size) (hr0 : RdC w B (.s 40 4 l.length (FClass.flat l)) u) :
    Calls Tryz.prog 13 #[u, .string s] w fun e w' => e = .returned (.int .i64 (fidx FClass.nm l s)) ∧ Below w.heap.size w w' := by
  have hr := hr0.up hB0
  clear hr0
  obtain ⟨A, c, rfl⟩ := hr.form
  have HC := Lib.hid hr
  have hn : l.length ≤ 9223372036854775807 := by omega
  clear hr
  go_enter Tryz.func13, Tryz.ntmps13
  go_wp2_with fail
  go_loopw [5] (fun i wr => ∃ k : Nat, k ≤ l.length ∧ i = .int .i64 k ∧ (∀ (j : Nat) (y : FClass), j < k → l[j]? = some y → ((FClass.nm y).toList == s.toList) = false) ∧ Below w.heap.size w wr) (fun i _ => l.length - (intOf i).toNat)
  case atStart => exact ⟨0, Nat.zero_le _, rfl, fun j y hj => absurd hj (by omega), Below.refl _ _⟩
  case round =>
    obtain ⟨k, hk, rfl, hno, hb⟩ := hrel
    have HNO := Lib.hid hno
    clear hno
    by_cases hlt : k < l.length
    · obtain ⟨x, hx⟩ : ∃ x, l[k]? = some x := ⟨_, List.getElem?_eq_getElem hlt⟩
      obtain ⟨bc, offc, rfl, hblc, hcc⟩ := RdC.at_ FClass.len HC.out hx
      have HX := Lib.hid hx
      have hbs := hb.size
      clear hx
      obtain ⟨z0, z1, z2, z3⟩ := x
      rw [FClass.c_eq] at hcc
      obtain ⟨u0, e0, q0⟩ := hcc 0 _ rfl
      obtain rfl := q0.val
      clear q0
      have c_0 : wr.cell? ⟨bc, offc + k * 4, none⟩ = some (.string z0) := (hb.cell (p := ⟨bc, _, none⟩) hblc).trans (by simpa using e0)
      obtain ⟨u1, e1, q1⟩ := hcc 1 _ rfl
      obtain rfl := q1.val
      clear q1
      have c_1 : wr.cell? ⟨bc, offc + k * 4 + 1, none⟩ = some (.string z1) := (hb.cell (p := ⟨bc, _, none⟩) hblc).trans (by simpa using e1)
      obtain ⟨u2, e2, q2⟩ := hcc 2 _ rfl
      obtain ⟨A2, c2, rfl⟩ := q2.form
      clear q2
      have c_2 : wr.cell? ⟨bc, offc + k * 4 + 2, none⟩ = some (.slice A2 z2.length c2) := (hb.cell (p := ⟨bc, _, none⟩) hblc).trans (by simpa using e2)
      obtain ⟨u3, e3, q3⟩ := hcc 3 _ rfl
      obtain ⟨A3, c3, rfl⟩ := q3.form
      clear q3
      have c_3 : wr.cell? ⟨bc, offc + k * 4 + 3, none⟩ = some (.slice A3 z3.length c3) := (hb.cell (p := ⟨bc, _, none⟩) hblc).trans (by simpa using e3)
      clear hcc e0 e1 e2 e3
      by_cases hq : (z0.toList == s.toList) = true
      · have HQ := Lib.hid hq
        go_wp2_with fail
        go_ret
        exact ⟨ret_int (fidx_hit HX.out HQ.out HNO.out).symm, hb⟩
      · have hq' : (z0.toList == s.toList) = false := by simpa using hq
        have HQ := Lib.hid hq'
        clear hq
        go_wp2_with fail
        go_roundw
        case rel =>
          refine ⟨k + 1, by omega, by go_num, fun j y hj hjy => ?_, hb⟩
          by_cases e : j = k
          · subst e
            rw [HX.out] at hjy
            injection hjy with hjy
            subst hjy
            exact HQ.out
          · exact HNO.out j y (by omega) hjy
        case measure => simp [intOf]; omega
    · obtain rfl : k = l.length := by omega
      clear hlt
      go_wp2_with fail
      go_ret
      exact ⟨ret_int (fidx_miss fun j y hy => HNO.out j y (List.getElem?_eq_some_iff.1 hy).1 hy).symm, hb⟩
end Go.Proofs.YtdmbhmhfjappcaaGreatDoor
namespace Go.Proofs.YtdmbhmhfjappcaaGreatDoor
open Go.ChangeShapes Go.WideShapes Go.ChangeAt Go.RowKit Go.Deep Go.Joins
open Go.ChangeMaps (open_string shut_string)
set_option linter.unusedVariables false
set_option linter.unusedSimpArgs false
set_option maxRecDepth 100000
def FFunc.nm : FFunc → ByteArray
  | ⟨z0, _, _, _, _, _⟩ => z0
set_option maxHeartbeats 1000000 in
theorem FindFunc_spec (z0 : List FFunc) (z1 : List FClass) (s : ByteArray) (us : List Value) (w : World) (hl : z0.length ≤ 1000000000) {B : Nat} (hB0 : B ≤ w.heap.size) (hr : RdVs w B (FProgram.c ⟨z0, z1⟩) us) :
    Calls Tryz.prog 11 #[.agg us.toArray, .string s] w fun e w' => e = .returned (.int .i64 (fidx FFunc.nm z0 s)) ∧ Below w.heap.size w w' := by
  rw [FProgram.c_eq] at hr
  obtain ⟨A0, c0, us0, rfl, r0, hr_0⟩ := hr.uns
  obtain ⟨A1, c1, us1, rfl, r1, hr_1⟩ := hr_0.uns
  obtain rfl := hr_1.un0
  have HC := Lib.hid (r0.up hB0)
  have hn : z0.length ≤ 9223372036854775807 := by omega
  clear r0 hr hr_0 hr_1 r1
  go_enter Tryz.func11, Tryz.ntmps11
  go_wp2_with fail
  go_loopw [5] (fun i wr => ∃ k : Nat, k ≤ z0.length ∧ i = .int .i64 k ∧ (∀ (j : Nat) (y : FFunc), j < k → z0[j]? = some y → ((FFunc.nm y).toList == s.toList) = false) ∧ Blk wr w.heap.size 31 #[.slice A0 z0.length c0, .slice A1 z1.length c1] ∧ Below w.heap.size w wr) (fun i _ => z0.length - (intOf i).toNat)
  case atStart => exact ⟨0, Nat.zero_le _, rfl, fun j y hj => absurd hj (by omega), Blk.new _ _ _, (Below.refl _ _).alloc (Nat.le_refl _) _⟩
  case round =>
    obtain ⟨k, hk, rfl, hno, ba, hb⟩ := hrel
    have HNO := Lib.hid hno
    clear hno
    have ba_0 : wr.cell? ⟨w.heap.size, 0, none⟩ = some (.slice A0 z0.length c0) := ba.cell 0
    have ba_1 : wr.cell? ⟨w.heap.size, 1, none⟩ = some (.slice A1 z1.length c1) := ba.cell 1
    have ba_l := ba.lt
    by_cases hlt : k < z0.length
    · obtain ⟨x, hx⟩ : ∃ x, z0[k]? = some x := ⟨_, List.getElem?_eq_getElem hlt⟩
      obtain ⟨bc, offc, rfl, hblc, hcc⟩ := RdC.at_ FFunc.len HC.out hx
      have HX := Lib.hid hx
      have hbs := hb.size
      clear hx
      obtain ⟨y0, y1, y2, y3, y4, y5⟩ := x
      rw [FFunc.c_eq] at hcc
      obtain ⟨u0, e0, q0⟩ := hcc 0 _ rfl
      obtain rfl := q0.val
      clear q0
      have c_0 : wr.cell? ⟨bc, offc + k * 6, none⟩ = some (.string y0) := (hb.cell (p := ⟨bc, _, none⟩) hblc).trans (by simpa using e0)
      obtain ⟨u1, e1, q1⟩ := hcc 1 _ rfl
      obtain ⟨B1, d1, rfl⟩ := q1.form
      clear q1
      have c_1 : wr.cell? ⟨bc, offc + k * 6 + 1, none⟩ = some (.slice B1 y1.length d1) := (hb.cell (p := ⟨bc, _, none⟩) hblc).trans (by simpa using e1)
      obtain ⟨u2, e2, q2⟩ := hcc 2 _ rfl
      obtain ⟨B2, d2, rfl⟩ := q2.form
      clear q2
      have c_2 : wr.cell? ⟨bc, offc + k * 6 + 2, none⟩ = some (.slice B2 y2.length d2) := (hb.cell (p := ⟨bc, _, none⟩) hblc).trans (by simpa using e2)
      obtain ⟨u3, e3, q3⟩ := hcc 3 _ rfl
      obtain ⟨B3, d3, rfl⟩ := q3.form
      clear q3
      have c_3 : wr.cell? ⟨bc, offc + k * 6 + 3, none⟩ = some (.slice B3 y3.length d3) := (hb.cell (p := ⟨bc, _, none⟩) hblc).trans (by simpa using e3)
      obtain ⟨u4, e4, q4⟩ := hcc 4 _ rfl
      obtain rfl := q4.val
      clear q4
      have c_4 : wr.cell? ⟨bc, offc + k * 6 + 4, none⟩ = some (.bool y4) := (hb.cell (p := ⟨bc, _, none⟩) hblc).trans (by simpa using e4)
      obtain ⟨u5, e5, q5⟩ := hcc 5 _ rfl
      obtain ⟨B5, d5, rfl⟩ := q5.form
      clear q5
      have c_5 : wr.cell? ⟨bc, offc + k * 6 + 5, none⟩ = some (.slice B5 y5.length d5) := (hb.cell (p := ⟨bc, _, none⟩) hblc).trans (by simpa using e5)
      clear hcc e0 e1 e2 e3 e4 e5
      by_cases hq : (y0.toList == s.toList) = true
      · have HQ := Lib.hid hq
        go_wp2_with fail
        go_ret
        exact ⟨ret_int (fidx_hit HX.out HQ.out HNO.out).symm, hb⟩
      · have hq' : (y0.toList == s.toList) = false := by simpa using hq
        have HQ := Lib.hid hq'
        clear hq
        go_wp2_with fail
        go_roundw
        case rel =>
          refine ⟨k + 1, by omega, by go_num, fun j y hj hjy => ?_, ba, hb⟩
          by_cases e : j = k
          · subst e
            rw [HX.out] at hjy
            injection hjy with hjy
            subst hjy
            exact HQ.out
          · exact HNO.out j y (by omega) hjy
        case measure => simp [intOf]; omega
    · obtain rfl : k = z0.length := by omega
      clear hlt
      go_wp2_with fail
      go_ret
      exact ⟨ret_int (fidx_miss fun j y hy => HNO.out j y (List.getElem?_eq_some_iff.1 hy).1 hy).symm, hb⟩
end Go.Proofs.YtdmbhmhfjappcaaGreatDoor
