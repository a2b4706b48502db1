/-
  string, int, Ins, Param, Func: the comparisons of the laws say yes where both read alike. Conditions: none.
-/
import Derived.Test.YtiggmjiodbbceaaDoorDataR
namespace Go.Proofs.YtiggmjiodbbceaaDoor
open Go.ChangeShapes Go.WideShapes Go.ChangeAt Go.RowKit Go.Deep Go.Joins
open Go.ChangeMaps (open_string shut_string)
set_option linter.unusedVariables false
set_option linter.unusedSimpArgs false
set_option maxRecDepth 100000
def EqStringS (l : List FStr) : Prop := ∀ (u v : Value) (w : World), RdC w w.heap.size (.s 9 1 l.length (FStr.flat l)) u → RdC w w.heap.size (.s 9 1 l.length (FStr.flat l)) v → Calls Tryd.prog 55 #[u, v] w fun e w' => e = .returned (.bool true) ∧ Below w.heap.size w w'
set_option maxHeartbeats 1000000 in
theorem eqStringS_of (l : List FStr) (hl : l.length ≤ 1000000000) : EqStringS l := by
  intro u v w hu hv
  obtain ⟨A, c, rfl⟩ := hu.form
  obtain ⟨A', c', rfl⟩ := hv.form
  have HC := Lib.hid hu
  have HD := Lib.hid hv
  have hn : l.length ≤ 9223372036854775807 := by omega
  clear hu hv
  go_enter Tryd.func55, Tryd.ntmps55
  go_wp2
  go_loopw [5] (fun i wr => ∃ k : Nat, k ≤ l.length ∧ i = .int .i64 k ∧ Below w.heap.size w wr) (fun i _ => l.length - (intOf i).toNat)
  case atStart => exact ⟨0, Nat.zero_le _, rfl, Below.refl _ _⟩
  case round =>
    obtain ⟨k, hk, rfl, hb⟩ := hrel
    by_cases hlt : k < l.length
    · obtain ⟨x, hx⟩ : ∃ x, l[k]? = some x := ⟨_, List.getElem?_eq_getElem hlt⟩
      obtain ⟨bc, offc, rfl, hblc, hcc⟩ := RdC.at_ FStr.len HC.out hx
      obtain ⟨bd, offd, rfl, hbld, hcd⟩ := RdC.at_ FStr.len HD.out hx
      clear hx
      obtain ⟨z0⟩ := x
      rw [FStr.c_eq] at hcc hcd
      obtain ⟨u0, e0, q0⟩ := hcc 0 _ rfl
      obtain rfl := q0.val
      clear q0
      have c_0 : wr.cell? ⟨bc, offc + k, none⟩ = some (.string z0) := (hb.cell (p := ⟨bc, _, none⟩) hblc).trans (by simpa using e0)
      clear e0
      obtain ⟨u0, e0, q0⟩ := hcd 0 _ rfl
      obtain rfl := q0.val
      clear q0
      have d_0 : wr.cell? ⟨bd, offd + k, none⟩ = some (.string z0) := (hb.cell (p := ⟨bd, _, none⟩) hbld).trans (by simpa using e0)
      clear e0
      clear hcc hcd
      go_wp2_with fail
      go_quiet (fail)
      all_goals go_wp2_with fail
      all_goals go_roundw
      case rel => exact ⟨k + 1, by omega, by go_num, below_drewN hb _⟩
      case measure => simp [intOf]; omega
    · obtain rfl : k = l.length := by omega
      clear hlt
      go_wp2_with fail
      go_ret
      exact ⟨rfl, hb⟩
theorem eqStringS_any (l : List FStr) (hw : l.length + FStr.wts l ≤ 1000000000) : EqStringS l := (eqStringS_of l (by omega))
def EqIns (x : FIns) : Prop := ∀ (us vs : List Value) (w : World), RdVs w w.heap.size x.c us → RdVs w w.heap.size x.c vs → Calls Tryd.prog 73 #[.agg us.toArray, .agg vs.toArray] w fun e w' => e = .returned (.bool true) ∧ Below w.heap.size w w'
def EqInsS (l : List FIns) : Prop := ∀ (u v : Value) (w : World), RdC w w.heap.size (.s 28 5 l.length (FIns.flat l)) u → RdC w w.heap.size (.s 28 5 l.length (FIns.flat l)) v → Calls Tryd.prog 56 #[u, v] w fun e w' => e = .returned (.bool true) ∧ Below w.heap.size w w'
set_option maxHeartbeats 1000000 in
theorem eqIns_of (z0 : Int) (z1 : Int) (z2 : Int) (z3 : ByteArray) (z4 : ByteArray)  : EqIns ⟨z0, z1, z2, z3, z4⟩ := by
  intro us vs w hr hs
  rw [FIns.c_eq] at hr hs
  obtain ⟨us0, rfl, hr_0⟩ := hr.unv
  obtain ⟨us1, rfl, hr_1⟩ := hr_0.unv
  obtain ⟨us2, rfl, hr_2⟩ := hr_1.unv
  obtain ⟨us3, rfl, hr_3⟩ := hr_2.unv
  obtain ⟨us4, rfl, hr_4⟩ := hr_3.unv
  obtain rfl := hr_4.un0
  obtain ⟨vs0, rfl, hs_0⟩ := hs.unv
  obtain ⟨vs1, rfl, hs_1⟩ := hs_0.unv
  obtain ⟨vs2, rfl, hs_2⟩ := hs_1.unv
  obtain ⟨vs3, rfl, hs_3⟩ := hs_2.unv
  obtain ⟨vs4, rfl, hs_4⟩ := hs_3.unv
  obtain rfl := hs_4.un0
  clear hr hs hr_0 hs_0 hr_1 hs_1 hr_2 hs_2 hr_3 hs_3 hr_4 hs_4
  go_enter Tryd.func73, Tryd.ntmps73
  go_wp2_with fail
  go_ret
  exact ⟨rfl, by repeat (first | exact Below.refl _ _ | (refine Below.alloc ?_ (by simp; try omega) _))⟩
set_option maxHeartbeats 1000000 in
theorem eqInsS_of (l : List FIns) (hl : l.length ≤ 1000000000) (he : ∀ x, x ∈ l → EqIns x) : EqInsS l := by
  intro u v w hu hv
  obtain ⟨A, c, rfl⟩ := hu.form
  obtain ⟨A', c', rfl⟩ := hv.form
  have HC := Lib.hid hu
  have HD := Lib.hid hv
  have hn : l.length ≤ 9223372036854775807 := by omega
  have HE := Lib.hid he
  clear he
  clear hu hv
  go_enter Tryd.func56, Tryd.ntmps56
  go_wp2
  go_loopw [5] (fun i wr => ∃ k : Nat, k ≤ l.length ∧ i = .int .i64 k ∧ Below w.heap.size w wr) (fun i _ => l.length - (intOf i).toNat)
  case atStart => exact ⟨0, Nat.zero_le _, rfl, Below.refl _ _⟩
  case round =>
    obtain ⟨k, hk, rfl, hb⟩ := hrel
    by_cases hlt : k < l.length
    · obtain ⟨x, hx⟩ : ∃ x, l[k]? = some x := ⟨_, List.getElem?_eq_getElem hlt⟩
      obtain ⟨bc, offc, rfl, hblc, hcc⟩ := RdC.at_ FIns.len HC.out hx
      obtain ⟨bd, offd, rfl, hbld, hcd⟩ := RdC.at_ FIns.len HD.out hx
      have HE2 := Lib.hid (HE.out x (List.mem_of_getElem? hx))
      clear hx
      obtain ⟨z0, z1, z2, z3, z4⟩ := x
      rw [FIns.c_eq] at hcc hcd
      obtain ⟨u0, e0, q0⟩ := hcc 0 _ rfl
      obtain rfl := q0.val
      clear q0
      have c_0 : wr.cell? ⟨bc, offc + k * 5, none⟩ = some (.int .i64 z0) := (hb.cell (p := ⟨bc, _, none⟩) hblc).trans (by simpa using e0)
      clear e0
      obtain ⟨u1, e1, q1⟩ := hcc 1 _ rfl
      obtain rfl := q1.val
      clear q1
      have c_1 : wr.cell? ⟨bc, offc + k * 5 + 1, none⟩ = some (.int .i64 z1) := (hb.cell (p := ⟨bc, _, none⟩) hblc).trans (by simpa using e1)
      clear e1
      obtain ⟨u2, e2, q2⟩ := hcc 2 _ rfl
      obtain rfl := q2.val
      clear q2
      have c_2 : wr.cell? ⟨bc, offc + k * 5 + 2, none⟩ = some (.int .i64 z2) := (hb.cell (p := ⟨bc, _, none⟩) hblc).trans (by simpa using e2)
      clear e2
      obtain ⟨u3, e3, q3⟩ := hcc 3 _ rfl
      obtain rfl := q3.val
      clear q3
      have c_3 : wr.cell? ⟨bc, offc + k * 5 + 3, none⟩ = some (.string z3) := (hb.cell (p := ⟨bc, _, none⟩) hblc).trans (by simpa using e3)
      clear e3
      obtain ⟨u4, e4, q4⟩ := hcc 4 _ rfl
      obtain rfl := q4.val
      clear q4
      have c_4 : wr.cell? ⟨bc, offc + k * 5 + 4, none⟩ = some (.string z4) := (hb.cell (p := ⟨bc, _, none⟩) hblc).trans (by simpa using e4)
      clear e4
      obtain ⟨u0, e0, q0⟩ := hcd 0 _ rfl
      obtain rfl := q0.val
      clear q0
      have d_0 : wr.cell? ⟨bd, offd + k * 5, none⟩ = some (.int .i64 z0) := (hb.cell (p := ⟨bd, _, none⟩) hbld).trans (by simpa using e0)
      clear e0
      obtain ⟨u1, e1, q1⟩ := hcd 1 _ rfl
      obtain rfl := q1.val
      clear q1
      have d_1 : wr.cell? ⟨bd, offd + k * 5 + 1, none⟩ = some (.int .i64 z1) := (hb.cell (p := ⟨bd, _, none⟩) hbld).trans (by simpa using e1)
      clear e1
      obtain ⟨u2, e2, q2⟩ := hcd 2 _ rfl
      obtain rfl := q2.val
      clear q2
      have d_2 : wr.cell? ⟨bd, offd + k * 5 + 2, none⟩ = some (.int .i64 z2) := (hb.cell (p := ⟨bd, _, none⟩) hbld).trans (by simpa using e2)
      clear e2
      obtain ⟨u3, e3, q3⟩ := hcd 3 _ rfl
      obtain rfl := q3.val
      clear q3
      have d_3 : wr.cell? ⟨bd, offd + k * 5 + 3, none⟩ = some (.string z3) := (hb.cell (p := ⟨bd, _, none⟩) hbld).trans (by simpa using e3)
      clear e3
      obtain ⟨u4, e4, q4⟩ := hcd 4 _ rfl
      obtain rfl := q4.val
      clear q4
      have d_4 : wr.cell? ⟨bd, offd + k * 5 + 4, none⟩ = some (.string z4) := (hb.cell (p := ⟨bd, _, none⟩) hbld).trans (by simpa using e4)
      clear e4
      clear hcc hcd
      go_wp2_with fail
      go_still_tail 8, (by kernel_rfl)
      have hbd : Below w.heap.size w wr.drew := hb.drew
      change wpList _ _ _ _ _ wr.drew
      generalize wr.drew = wd at *
      go_wp2_with (go_at_call 73; refine (HE2.out [.int .i64 z0, .int .i64 z1, .int .i64 z2, .string z3, .string z4] [.int .i64 z0, .int .i64 z1, .int .i64 z2, .string z3, .string z4] _ (by rw [FIns.c_eq]; exact (RdVs.cons (by unfold RdC; rfl) (RdVs.cons (by unfold RdC; rfl) (RdVs.cons (by unfold RdC; rfl) (RdVs.cons (by unfold RdC; rfl) (RdVs.cons (by unfold RdC; rfl) (RdVs.nil _ _))))))) (by rw [FIns.c_eq]; exact (RdVs.cons (by unfold RdC; rfl) (RdVs.cons (by unfold RdC; rfl) (RdVs.cons (by unfold RdC; rfl) (RdVs.cons (by unfold RdC; rfl) (RdVs.cons (by unfold RdC; rfl) (RdVs.nil _ _)))))))).mono ?_; rintro e w2 ⟨rfl, hb2⟩)
      go_roundw
      case rel => exact ⟨k + 1, by omega, by go_num, hbd.trans (hb2.mono hbd.size)⟩
      case measure => simp [intOf]; omega
    · obtain rfl : k = l.length := by omega
      clear hlt
      go_wp2_with fail
      go_ret
      exact ⟨rfl, hb⟩
theorem eqIns_any (x : FIns) (hw : x.wt ≤ 1000000000) : EqIns x := by
  obtain ⟨z0, z1, z2, z3, z4⟩ := x
  exact eqIns_of z0 z1 z2 z3 z4 
theorem eqInsS_any (l : List FIns) (hw : l.length + FIns.wts l ≤ 1000000000) : EqInsS l := (eqInsS_of l (by omega) (fun x hx => eqIns_any x (by have := FIns.wts_at l x hx; omega)))
def EqParam (x : FParam) : Prop := ∀ (us vs : List Value) (w : World), RdVs w w.heap.size x.c us → RdVs w w.heap.size x.c vs → Calls Tryd.prog 72 #[.agg us.toArray, .agg vs.toArray] w fun e w' => e = .returned (.bool true) ∧ Below w.heap.size w w'
def EqParamS (l : List FParam) : Prop := ∀ (u v : Value) (w : World), RdC w w.heap.size (.s 90 2 l.length (FParam.flat l)) u → RdC w w.heap.size (.s 90 2 l.length (FParam.flat l)) v → Calls Tryd.prog 54 #[u, v] w fun e w' => e = .returned (.bool true) ∧ Below w.heap.size w w'
set_option maxHeartbeats 1000000 in
theorem eqParam_of (z0 : ByteArray) (z1 : Bool)  : EqParam ⟨z0, z1⟩ := by
  intro us vs w hr hs
  rw [FParam.c_eq] at hr hs
  obtain ⟨us0, rfl, hr_0⟩ := hr.unv
  obtain ⟨us1, rfl, hr_1⟩ := hr_0.unv
  obtain rfl := hr_1.un0
  obtain ⟨vs0, rfl, hs_0⟩ := hs.unv
  obtain ⟨vs1, rfl, hs_1⟩ := hs_0.unv
  obtain rfl := hs_1.un0
  clear hr hs hr_0 hs_0 hr_1 hs_1
  go_enter Tryd.func72, Tryd.ntmps72
  go_wp2_with fail
  go_ret
  exact ⟨rfl, by repeat (first | exact Below.refl _ _ | (refine Below.alloc ?_ (by simp; try omega) _))⟩
set_option maxHeartbeats 1000000 in
theorem eqParamS_of (l : List FParam) (hl : l.length ≤ 1000000000) (he : ∀ x, x ∈ l → EqParam x) : EqParamS l := by
  intro u v w hu hv
  obtain ⟨A, c, rfl⟩ := hu.form
  obtain ⟨A', c', rfl⟩ := hv.form
  have HC := Lib.hid hu
  have HD := Lib.hid hv
  have hn : l.length ≤ 9223372036854775807 := by omega
  have HE := Lib.hid he
  clear he
  clear hu hv
  go_enter Tryd.func54, Tryd.ntmps54
  go_wp2
  go_loopw [5] (fun i wr => ∃ k : Nat, k ≤ l.length ∧ i = .int .i64 k ∧ Below w.heap.size w wr) (fun i _ => l.length - (intOf i).toNat)
  case atStart => exact ⟨0, Nat.zero_le _, rfl, Below.refl _ _⟩
  case round =>
    obtain ⟨k, hk, rfl, hb⟩ := hrel
    by_cases hlt : k < l.length
    · obtain ⟨x, hx⟩ : ∃ x, l[k]? = some x := ⟨_, List.getElem?_eq_getElem hlt⟩
      obtain ⟨bc, offc, rfl, hblc, hcc⟩ := RdC.at_ FParam.len HC.out hx
      obtain ⟨bd, offd, rfl, hbld, hcd⟩ := RdC.at_ FParam.len HD.out hx
      have HE2 := Lib.hid (HE.out x (List.mem_of_getElem? hx))
      clear hx
      obtain ⟨z0, z1⟩ := x
      rw [FParam.c_eq] at hcc hcd
      obtain ⟨u0, e0, q0⟩ := hcc 0 _ rfl
      obtain rfl := q0.val
      clear q0
      have c_0 : wr.cell? ⟨bc, offc + k * 2, none⟩ = some (.string z0) := (hb.cell (p := ⟨bc, _, none⟩) hblc).trans (by simpa using e0)
      clear e0
      obtain ⟨u1, e1, q1⟩ := hcc 1 _ rfl
      obtain rfl := q1.val
      clear q1
      have c_1 : wr.cell? ⟨bc, offc + k * 2 + 1, none⟩ = some (.bool z1) := (hb.cell (p := ⟨bc, _, none⟩) hblc).trans (by simpa using e1)
      clear e1
      obtain ⟨u0, e0, q0⟩ := hcd 0 _ rfl
      obtain rfl := q0.val
      clear q0
      have d_0 : wr.cell? ⟨bd, offd + k * 2, none⟩ = some (.string z0) := (hb.cell (p := ⟨bd, _, none⟩) hbld).trans (by simpa using e0)
      clear e0
      obtain ⟨u1, e1, q1⟩ := hcd 1 _ rfl
      obtain rfl := q1.val
      clear q1
      have d_1 : wr.cell? ⟨bd, offd + k * 2 + 1, none⟩ = some (.bool z1) := (hb.cell (p := ⟨bd, _, none⟩) hbld).trans (by simpa using e1)
      clear e1
      clear hcc hcd
      go_wp2_with fail
      go_still_tail 8, (by kernel_rfl)
      have hbd : Below w.heap.size w wr.drew := hb.drew
      change wpList _ _ _ _ _ wr.drew
      generalize wr.drew = wd at *
      go_wp2_with (go_at_call 72; refine (HE2.out [.string z0, .bool z1] [.string z0, .bool z1] _ (by rw [FParam.c_eq]; exact (RdVs.cons (by unfold RdC; rfl) (RdVs.cons (by unfold RdC; rfl) (RdVs.nil _ _)))) (by rw [FParam.c_eq]; exact (RdVs.cons (by unfold RdC; rfl) (RdVs.cons (by unfold RdC; rfl) (RdVs.nil _ _))))).mono ?_; rintro e w2 ⟨rfl, hb2⟩)
      go_roundw
      case rel => exact ⟨k + 1, by omega, by go_num, hbd.trans (hb2.mono hbd.size)⟩
      case measure => simp [intOf]; omega
    · obtain rfl : k = l.length := by omega
      clear hlt
      go_wp2_with fail
      go_ret
      exact ⟨rfl, hb⟩
theorem eqParam_any (x : FParam) (hw : x.wt ≤ 1000000000) : EqParam x := by
  obtain ⟨z0, z1⟩ := x
  exact eqParam_of z0 z1 
theorem eqParamS_any (l : List FParam) (hw : l.length + FParam.wts l ≤ 1000000000) : EqParamS l := (eqParamS_of l (by omega) (fun x hx => eqParam_any x (by have := FParam.wts_at l x hx; omega)))
def EqFunc (x : FFunc) : Prop := ∀ (us vs : List Value) (w : World), RdVs w w.heap.size x.c us → RdVs w w.heap.size x.c vs → Calls Tryd.prog 26 #[.agg us.toArray, .agg vs.toArray] w fun e w' => e = .returned (.bool true) ∧ Below w.heap.size w w'
set_option maxHeartbeats 1000000 in
theorem eqFunc_of (z0 : ByteArray) (z1 : List FParam) (z2 : List FParam) (z3 : List FStr) (z4 : Bool) (z5 : List FIns) (h1 : EqParamS z1) (h2 : EqParamS z2) (h3 : EqStringS z3) (h5 : EqInsS z5) : EqFunc ⟨z0, z1, z2, z3, z4, z5⟩ := by
  intro us vs w hr hs
  rw [FFunc.c_eq] at hr hs
  obtain ⟨us0, rfl, hr_0⟩ := hr.unv
  obtain ⟨A1, c1, us1, rfl, r1, hr_1⟩ := hr_0.uns
  obtain ⟨A2, c2, us2, rfl, r2, hr_2⟩ := hr_1.uns
  obtain ⟨A3, c3, us3, rfl, r3, hr_3⟩ := hr_2.uns
  obtain ⟨us4, rfl, hr_4⟩ := hr_3.unv
  obtain ⟨A5, c5, us5, rfl, r5, hr_5⟩ := hr_4.uns
  obtain rfl := hr_5.un0
  obtain ⟨vs0, rfl, hs_0⟩ := hs.unv
  obtain ⟨B1, d1, vs1, rfl, t1, hs_1⟩ := hs_0.uns
  obtain ⟨B2, d2, vs2, rfl, t2, hs_2⟩ := hs_1.uns
  obtain ⟨B3, d3, vs3, rfl, t3, hs_3⟩ := hs_2.uns
  obtain ⟨vs4, rfl, hs_4⟩ := hs_3.unv
  obtain ⟨B5, d5, vs5, rfl, t5, hs_5⟩ := hs_4.uns
  obtain rfl := hs_5.un0
  clear hr hs hr_0 hs_0 hr_1 hs_1 hr_2 hs_2 hr_3 hs_3 hr_4 hs_4 hr_5 hs_5
  have R1 := Lib.hid r1
  have T1 := Lib.hid t1
  clear r1 t1
  have R2 := Lib.hid r2
  have T2 := Lib.hid t2
  clear r2 t2
  have R3 := Lib.hid r3
  have T3 := Lib.hid t3
  clear r3 t3
  have R5 := Lib.hid r5
  have T5 := Lib.hid t5
  clear r5 t5
  have H1 := Lib.hid h1
  clear h1
  have H2 := Lib.hid h2
  clear h2
  have H3 := Lib.hid h3
  clear h3
  have H5 := Lib.hid h5
  clear h5
  go_enter Tryd.func26, Tryd.ntmps26
  go_wp2_with fail
  refine calls_worldD _ (fun X => Blk X w.heap.size 48 #[.string z0, .slice A1 z1.length c1, .slice A2 z2.length c2, .slice A3 z3.length c3, .bool z4, .slice A5 z5.length c5] ∧ Blk X (w.heap.size + 1) 48 #[.string z0, .slice B1 z1.length d1, .slice B2 z2.length d2, .slice B3 z3.length d3, .bool z4, .slice B5 z5.length d5] ∧ Below w.heap.size w X) ⟨(Blk.new w _ _).alloc _, Blk.new' (w.alloc _) _ _ _ (by simp), ((Below.refl _ _).alloc (Nat.le_refl _) _).alloc (by simp) _⟩ ?_
  rintro X0 ⟨ba, bb, hB⟩
  have s0 := bb.lt
  refine (H1.out _ _ _ (R1.out.on hB (Nat.le_refl _) (by omega)) (T1.out.on hB (Nat.le_refl _) (by omega))).mono ?_
  rintro e Y0 ⟨rfl, hb⟩
  replace ba := ba.below hb (Nat.le_refl _)
  replace bb := bb.below hb (Nat.le_refl _)
  replace hB := hB.trans (hb.mono (by omega))
  clear hb
  have ba_0 : Y0.cell? ⟨w.heap.size, 0, none⟩ = some (.string z0) := ba.cell 0
  have ba_1 : Y0.cell? ⟨w.heap.size, 1, none⟩ = some (.slice A1 z1.length c1) := ba.cell 1
  have ba_2 : Y0.cell? ⟨w.heap.size, 2, none⟩ = some (.slice A2 z2.length c2) := ba.cell 2
  have ba_3 : Y0.cell? ⟨w.heap.size, 3, none⟩ = some (.slice A3 z3.length c3) := ba.cell 3
  have ba_4 : Y0.cell? ⟨w.heap.size, 4, none⟩ = some (.bool z4) := ba.cell 4
  have ba_5 : Y0.cell? ⟨w.heap.size, 5, none⟩ = some (.slice A5 z5.length c5) := ba.cell 5
  have ba_l := ba.lt
  have bb_0 : Y0.cell? ⟨w.heap.size + 1, 0, none⟩ = some (.string z0) := bb.cell 0
  have bb_1 : Y0.cell? ⟨w.heap.size + 1, 1, none⟩ = some (.slice B1 z1.length d1) := bb.cell 1
  have bb_2 : Y0.cell? ⟨w.heap.size + 1, 2, none⟩ = some (.slice B2 z2.length d2) := bb.cell 2
  have bb_3 : Y0.cell? ⟨w.heap.size + 1, 3, none⟩ = some (.slice B3 z3.length d3) := bb.cell 3
  have bb_4 : Y0.cell? ⟨w.heap.size + 1, 4, none⟩ = some (.bool z4) := bb.cell 4
  have bb_5 : Y0.cell? ⟨w.heap.size + 1, 5, none⟩ = some (.slice B5 z5.length d5) := bb.cell 5
  have bb_l := bb.lt
  go_wp2_with fail
  clear ba_0 bb_0 ba_1 bb_1 ba_2 bb_2 ba_3 bb_3 ba_4 bb_4 ba_5 bb_5 ba_l bb_l
  refine calls_worldD _ (fun X => Blk X w.heap.size 48 #[.string z0, .slice A1 z1.length c1, .slice A2 z2.length c2, .slice A3 z3.length c3, .bool z4, .slice A5 z5.length c5] ∧ Blk X (w.heap.size + 1) 48 #[.string z0, .slice B1 z1.length d1, .slice B2 z2.length d2, .slice B3 z3.length d3, .bool z4, .slice B5 z5.length d5] ∧ Below w.heap.size w X) ⟨ba, bb, hB⟩ ?_
  clear ba bb hB
  rintro X1 ⟨ba, bb, hB⟩
  have s1 := bb.lt
  refine (H2.out _ _ _ (R2.out.on hB (Nat.le_refl _) (by omega)) (T2.out.on hB (Nat.le_refl _) (by omega))).mono ?_
  rintro e Y1 ⟨rfl, hb⟩
  replace ba := ba.below hb (Nat.le_refl _)
  replace bb := bb.below hb (Nat.le_refl _)
  replace hB := hB.trans (hb.mono (by omega))
  clear hb
  have ba_0 : Y1.cell? ⟨w.heap.size, 0, none⟩ = some (.string z0) := ba.cell 0
  have ba_1 : Y1.cell? ⟨w.heap.size, 1, none⟩ = some (.slice A1 z1.length c1) := ba.cell 1
  have ba_2 : Y1.cell? ⟨w.heap.size, 2, none⟩ = some (.slice A2 z2.length c2) := ba.cell 2
  have ba_3 : Y1.cell? ⟨w.heap.size, 3, none⟩ = some (.slice A3 z3.length c3) := ba.cell 3
  have ba_4 : Y1.cell? ⟨w.heap.size, 4, none⟩ = some (.bool z4) := ba.cell 4
  have ba_5 : Y1.cell? ⟨w.heap.size, 5, none⟩ = some (.slice A5 z5.length c5) := ba.cell 5
  have ba_l := ba.lt
  have bb_0 : Y1.cell? ⟨w.heap.size + 1, 0, none⟩ = some (.string z0) := bb.cell 0
  have bb_1 : Y1.cell? ⟨w.heap.size + 1, 1, none⟩ = some (.slice B1 z1.length d1) := bb.cell 1
  have bb_2 : Y1.cell? ⟨w.heap.size + 1, 2, none⟩ = some (.slice B2 z2.length d2) := bb.cell 2
  have bb_3 : Y1.cell? ⟨w.heap.size + 1, 3, none⟩ = some (.slice B3 z3.length d3) := bb.cell 3
  have bb_4 : Y1.cell? ⟨w.heap.size + 1, 4, none⟩ = some (.bool z4) := bb.cell 4
  have bb_5 : Y1.cell? ⟨w.heap.size + 1, 5, none⟩ = some (.slice B5 z5.length d5) := bb.cell 5
  have bb_l := bb.lt
  go_wp2_with fail
  clear ba_0 bb_0 ba_1 bb_1 ba_2 bb_2 ba_3 bb_3 ba_4 bb_4 ba_5 bb_5 ba_l bb_l
  refine calls_worldD _ (fun X => Blk X w.heap.size 48 #[.string z0, .slice A1 z1.length c1, .slice A2 z2.length c2, .slice A3 z3.length c3, .bool z4, .slice A5 z5.length c5] ∧ Blk X (w.heap.size + 1) 48 #[.string z0, .slice B1 z1.length d1, .slice B2 z2.length d2, .slice B3 z3.length d3, .bool z4, .slice B5 z5.length d5] ∧ Below w.heap.size w X) ⟨ba, bb, hB⟩ ?_
  clear ba bb hB
  rintro X2 ⟨ba, bb, hB⟩
  have s2 := bb.lt
  refine (H3.out _ _ _ (R3.out.on hB (Nat.le_refl _) (by omega)) (T3.out.on hB (Nat.le_refl _) (by omega))).mono ?_
  rintro e Y2 ⟨rfl, hb⟩
  replace ba := ba.below hb (Nat.le_refl _)
  replace bb := bb.below hb (Nat.le_refl _)
  replace hB := hB.trans (hb.mono (by omega))
  clear hb
  have ba_0 : Y2.cell? ⟨w.heap.size, 0, none⟩ = some (.string z0) := ba.cell 0
  have ba_1 : Y2.cell? ⟨w.heap.size, 1, none⟩ = some (.slice A1 z1.length c1) := ba.cell 1
  have ba_2 : Y2.cell? ⟨w.heap.size, 2, none⟩ = some (.slice A2 z2.length c2) := ba.cell 2
  have ba_3 : Y2.cell? ⟨w.heap.size, 3, none⟩ = some (.slice A3 z3.length c3) := ba.cell 3
  have ba_4 : Y2.cell? ⟨w.heap.size, 4, none⟩ = some (.bool z4) := ba.cell 4
  have ba_5 : Y2.cell? ⟨w.heap.size, 5, none⟩ = some (.slice A5 z5.length c5) := ba.cell 5
  have ba_l := ba.lt
  have bb_0 : Y2.cell? ⟨w.heap.size + 1, 0, none⟩ = some (.string z0) := bb.cell 0
  have bb_1 : Y2.cell? ⟨w.heap.size + 1, 1, none⟩ = some (.slice B1 z1.length d1) := bb.cell 1
  have bb_2 : Y2.cell? ⟨w.heap.size + 1, 2, none⟩ = some (.slice B2 z2.length d2) := bb.cell 2
  have bb_3 : Y2.cell? ⟨w.heap.size + 1, 3, none⟩ = some (.slice B3 z3.length d3) := bb.cell 3
  have bb_4 : Y2.cell? ⟨w.heap.size + 1, 4, none⟩ = some (.bool z4) := bb.cell 4
  have bb_5 : Y2.cell? ⟨w.heap.size + 1, 5, none⟩ = some (.slice B5 z5.length d5) := bb.cell 5
  have bb_l := bb.lt
  go_wp2_with fail
  clear ba_0 bb_0 ba_1 bb_1 ba_2 bb_2 ba_3 bb_3 ba_4 bb_4 ba_5 bb_5 ba_l bb_l
  refine calls_worldD _ (fun X => Blk X w.heap.size 48 #[.string z0, .slice A1 z1.length c1, .slice A2 z2.length c2, .slice A3 z3.length c3, .bool z4, .slice A5 z5.length c5] ∧ Blk X (w.heap.size + 1) 48 #[.string z0, .slice B1 z1.length d1, .slice B2 z2.length d2, .slice B3 z3.length d3, .bool z4, .slice B5 z5.length d5] ∧ Below w.heap.size w X) ⟨ba, bb, hB⟩ ?_
  clear ba bb hB
  rintro X3 ⟨ba, bb, hB⟩
  have s3 := bb.lt
  refine (H5.out _ _ _ (R5.out.on hB (Nat.le_refl _) (by omega)) (T5.out.on hB (Nat.le_refl _) (by omega))).mono ?_
  rintro e Y3 ⟨rfl, hb⟩
  replace ba := ba.below hb (Nat.le_refl _)
  replace bb := bb.below hb (Nat.le_refl _)
  replace hB := hB.trans (hb.mono (by omega))
  clear hb
  have ba_0 : Y3.cell? ⟨w.heap.size, 0, none⟩ = some (.string z0) := ba.cell 0
  have ba_1 : Y3.cell? ⟨w.heap.size, 1, none⟩ = some (.slice A1 z1.length c1) := ba.cell 1
  have ba_2 : Y3.cell? ⟨w.heap.size, 2, none⟩ = some (.slice A2 z2.length c2) := ba.cell 2
  have ba_3 : Y3.cell? ⟨w.heap.size, 3, none⟩ = some (.slice A3 z3.length c3) := ba.cell 3
  have ba_4 : Y3.cell? ⟨w.heap.size, 4, none⟩ = some (.bool z4) := ba.cell 4
  have ba_5 : Y3.cell? ⟨w.heap.size, 5, none⟩ = some (.slice A5 z5.length c5) := ba.cell 5
  have ba_l := ba.lt
  have bb_0 : Y3.cell? ⟨w.heap.size + 1, 0, none⟩ = some (.string z0) := bb.cell 0
  have bb_1 : Y3.cell? ⟨w.heap.size + 1, 1, none⟩ = some (.slice B1 z1.length d1) := bb.cell 1
  have bb_2 : Y3.cell? ⟨w.heap.size + 1, 2, none⟩ = some (.slice B2 z2.length d2) := bb.cell 2
  have bb_3 : Y3.cell? ⟨w.heap.size + 1, 3, none⟩ = some (.slice B3 z3.length d3) := bb.cell 3
  have bb_4 : Y3.cell? ⟨w.heap.size + 1, 4, none⟩ = some (.bool z4) := bb.cell 4
  have bb_5 : Y3.cell? ⟨w.heap.size + 1, 5, none⟩ = some (.slice B5 z5.length d5) := bb.cell 5
  have bb_l := bb.lt
  go_wp2_with fail
  go_ret
  exact ⟨rfl, hB⟩
theorem eqFunc_any (x : FFunc) (hw : x.wt ≤ 1000000000) : EqFunc x := by
  obtain ⟨z0, z1, z2, z3, z4, z5⟩ := x
  exact eqFunc_of z0 z1 z2 z3 z4 z5 (eqParamS_any z1 (by rw [FFunc.wt_eq] at hw; omega)) (eqParamS_any z2 (by rw [FFunc.wt_eq] at hw; omega)) (eqStringS_any z3 (by rw [FFunc.wt_eq] at hw; omega)) (eqInsS_any z5 (by rw [FFunc.wt_eq] at hw; omega))
end Go.Proofs.YtiggmjiodbbceaaDoor
