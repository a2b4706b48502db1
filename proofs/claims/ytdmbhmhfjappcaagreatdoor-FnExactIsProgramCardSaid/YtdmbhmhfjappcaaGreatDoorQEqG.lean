/-
  Parts of the proof: EqG. Conditions: none.
-/
import Derived.Test.YtdmbhmhfjappcaaGreatDoorQDataG
namespace Go.Proofs.YtdmbhmhfjappcaaGreatDoor
open Go.ChangeShapes Go.WideShapes Go.ChangeAt Go.RowKit Go.Deep Go.Joins
open Go.ChangeMaps (open_string shut_string)
set_option linter.unusedVariables false
set_option linter.unusedSimpArgs false
set_option maxRecDepth 100000
def EqStringS (l : List FStr) : Prop := ∀ (u v : Value) (w : World), RdC w w.heap.size (.s 9 1 l.length (FStr.flat l)) u → RdC w w.heap.size (.s 9 1 l.length (FStr.flat l)) v → Calls Tryz.prog 78 #[u, v] w fun e w' => e = .returned (.bool true) ∧ Below w.heap.size w w'
set_option maxHeartbeats 1000000 in
theorem eqStringS_of (l : List FStr) (hl : l.length ≤ 1000000000) : EqStringS l := by
  intro u v w hu hv
  obtain ⟨A, c, rfl⟩ := hu.form
  obtain ⟨A', c', rfl⟩ := hv.form
  have HC := Lib.hid hu
  have HD := Lib.hid hv
  have hn : l.length ≤ 9223372036854775807 := by omega
  clear hu hv
  go_enter Tryz.func78, Tryz.ntmps78
  go_wp2
  go_loopw [5] (fun i wr => ∃ k : Nat, k ≤ l.length ∧ i = .int .i64 k ∧ Below w.heap.size w wr) (fun i _ => l.length - (intOf i).toNat)
  case atStart => exact ⟨0, Nat.zero_le _, rfl, Below.refl _ _⟩
  case round =>
    obtain ⟨k, hk, rfl, hb⟩ := hrel
    by_cases hlt : k < l.length
    · obtain ⟨x, hx⟩ : ∃ x, l[k]? = some x := ⟨_, List.getElem?_eq_getElem hlt⟩
      obtain ⟨bc, offc, rfl, hblc, hcc⟩ := RdC.at_ FStr.len HC.out hx
      obtain ⟨bd, offd, rfl, hbld, hcd⟩ := RdC.at_ FStr.len HD.out hx
      clear hx
      obtain ⟨z0⟩ := x
      rw [FStr.c_eq] at hcc hcd
      obtain ⟨u0, e0, q0⟩ := hcc 0 _ rfl
      obtain rfl := q0.val
      clear q0
      have c_0 : wr.cell? ⟨bc, offc + k, none⟩ = some (.string z0) := (hb.cell (p := ⟨bc, _, none⟩) hblc).trans (by simpa using e0)
      clear e0
      obtain ⟨u0, e0, q0⟩ := hcd 0 _ rfl
      obtain rfl := q0.val
      clear q0
      have d_0 : wr.cell? ⟨bd, offd + k, none⟩ = some (.string z0) := (hb.cell (p := ⟨bd, _, none⟩) hbld).trans (by simpa using e0)
      clear e0
      clear hcc hcd
      go_wp2_with fail
      go_quiet (fail)
      all_goals go_wp2_with fail
      all_goals go_roundw
      case rel => exact ⟨k + 1, by omega, by go_num, below_drewN hb _⟩
      case measure => simp [intOf]; omega
    · obtain rfl : k = l.length := by omega
      clear hlt
      go_wp2_with fail
      go_ret
      exact ⟨rfl, hb⟩
theorem eqStringS_any (l : List FStr) (hw : l.length + FStr.wts l ≤ 1000000000) : EqStringS l := (eqStringS_of l (by omega))
def EqKey (x : FKey) : Prop := ∀ (us vs : List Value) (w : World), RdVs w w.heap.size x.c us → RdVs w w.heap.size x.c vs → Calls Tryz.prog 131 #[.agg us.toArray, .agg vs.toArray] w fun e w' => e = .returned (.bool true) ∧ Below w.heap.size w w'
set_option maxHeartbeats 1000000 in
theorem eqKey_of (z0 : Bool) (z1 : Int) (z2 : ByteArray)  : EqKey ⟨z0, z1, z2⟩ := by
  intro us vs w hr hs
  rw [FKey.c_eq] at hr hs
  obtain ⟨us0, rfl, hr_0⟩ := hr.unv
  obtain ⟨us1, rfl, hr_1⟩ := hr_0.unv
  obtain ⟨us2, rfl, hr_2⟩ := hr_1.unv
  obtain rfl := hr_2.un0
  obtain ⟨vs0, rfl, hs_0⟩ := hs.unv
  obtain ⟨vs1, rfl, hs_1⟩ := hs_0.unv
  obtain ⟨vs2, rfl, hs_2⟩ := hs_1.unv
  obtain rfl := hs_2.un0
  clear hr hs hr_0 hs_0 hr_1 hs_1 hr_2 hs_2
  go_enter Tryz.func131, Tryz.ntmps131
  go_wp2_with fail
  go_ret
  exact ⟨rfl, by repeat (first | exact Below.refl _ _ | (refine Below.alloc ?_ (by simp; try omega) _))⟩
theorem eqKey_any (x : FKey) (hw : x.wt ≤ 1000000000) : EqKey x := by
  obtain ⟨z0, z1, z2⟩ := x
  exact eqKey_of z0 z1 z2 
def EqEntry (x : FEntry) : Prop := ∀ (us vs : List Value) (w : World), RdVs w w.heap.size x.c us → RdVs w w.heap.size x.c vs → Calls Tryz.prog 122 #[.agg us.toArray, .agg vs.toArray] w fun e w' => e = .returned (.bool true) ∧ Below w.heap.size w w'
def EqEntryS (l : List FEntry) : Prop := ∀ (u v : Value) (w : World), RdC w w.heap.size (.s 106 8 l.length (FEntry.flat l)) u → RdC w w.heap.size (.s 106 8 l.length (FEntry.flat l)) v → Calls Tryz.prog 116 #[u, v] w fun e w' => e = .returned (.bool true) ∧ Below w.heap.size w w'
def EqValue (x : FValue) : Prop := ∀ (us vs : List Value) (w : World), RdVs w w.heap.size x.c us → RdVs w w.heap.size x.c vs → Calls Tryz.prog 110 #[.agg us.toArray, .agg vs.toArray] w fun e w' => e = .returned (.bool true) ∧ Below w.heap.size w w'
set_option maxHeartbeats 1000000 in
theorem eqEntry_of (z0 : Bool) (z1 : Int) (z2 : ByteArray) (z3 : Int) (z4 : Int) (z5 : ByteArray) (z6 : Int) (z7 : List FEntry) (h0 : EqKey ⟨z0, z1, z2⟩) (h3 : EqValue ⟨z3, z4, z5, z6, z7⟩) : EqEntry ⟨⟨z0, z1, z2⟩, ⟨z3, z4, z5, z6, z7⟩⟩ := by
  intro us vs w hr hs
  rw [FEntry.c_eq] at hr hs
  obtain ⟨us0, rfl, hr_0⟩ := hr.unv
  obtain ⟨us1, rfl, hr_1⟩ := hr_0.unv
  obtain ⟨us2, rfl, hr_2⟩ := hr_1.unv
  obtain ⟨us3, rfl, hr_3⟩ := hr_2.unv
  obtain ⟨us4, rfl, hr_4⟩ := hr_3.unv
  obtain ⟨us5, rfl, hr_5⟩ := hr_4.unv
  obtain ⟨us6, rfl, hr_6⟩ := hr_5.unv
  obtain ⟨A7, c7, us7, rfl, r7, hr_7⟩ := hr_6.uns
  obtain rfl := hr_7.un0
  obtain ⟨vs0, rfl, hs_0⟩ := hs.unv
  obtain ⟨vs1, rfl, hs_1⟩ := hs_0.unv
  obtain ⟨vs2, rfl, hs_2⟩ := hs_1.unv
  obtain ⟨vs3, rfl, hs_3⟩ := hs_2.unv
  obtain ⟨vs4, rfl, hs_4⟩ := hs_3.unv
  obtain ⟨vs5, rfl, hs_5⟩ := hs_4.unv
  obtain ⟨vs6, rfl, hs_6⟩ := hs_5.unv
  obtain ⟨B7, d7, vs7, rfl, t7, hs_7⟩ := hs_6.uns
  obtain rfl := hs_7.un0
  clear hr hs hr_0 hs_0 hr_1 hs_1 hr_2 hs_2 hr_3 hs_3 hr_4 hs_4 hr_5 hs_5 hr_6 hs_6 hr_7 hs_7
  have R7 := Lib.hid r7
  have T7 := Lib.hid t7
  clear r7 t7
  have H0 := Lib.hid h0
  clear h0
  have H3 := Lib.hid h3
  clear h3
  go_enter Tryz.func122, Tryz.ntmps122
  go_wp2_with fail
  refine calls_worldD _ (fun X => Blk X w.heap.size 106 #[.bool z0, .int .i64 z1, .string z2, .int .i64 z3, .int .i64 z4, .string z5, .int .i64 z6, .slice A7 z7.length c7] ∧ Blk X (w.heap.size + 1) 106 #[.bool z0, .int .i64 z1, .string z2, .int .i64 z3, .int .i64 z4, .string z5, .int .i64 z6, .slice B7 z7.length d7] ∧ Below w.heap.size w X) ⟨(Blk.new w _ _).alloc _, Blk.new' (w.alloc _) _ _ _ (by simp), ((Below.refl _ _).alloc (Nat.le_refl _) _).alloc (by simp) _⟩ ?_
  rintro X0 ⟨ba, bb, hB⟩
  have s0 := bb.lt
  refine (H0.out [.bool z0, .int .i64 z1, .string z2] [.bool z0, .int .i64 z1, .string z2] _ (by rw [FKey.c_eq]; exact (RdVs.cons (by unfold RdC; rfl) (RdVs.cons (by unfold RdC; rfl) (RdVs.cons (by unfold RdC; rfl) (RdVs.nil _ _))))) (by rw [FKey.c_eq]; exact (RdVs.cons (by unfold RdC; rfl) (RdVs.cons (by unfold RdC; rfl) (RdVs.cons (by unfold RdC; rfl) (RdVs.nil _ _)))))).mono ?_
  rintro e Y0 ⟨rfl, hb⟩
  replace ba := ba.below hb (Nat.le_refl _)
  replace bb := bb.below hb (Nat.le_refl _)
  replace hB := hB.trans (hb.mono (by omega))
  clear hb
  have ba_3 : Y0.cell? ⟨w.heap.size, 3, none⟩ = some (.int .i64 z3) := ba.cell 3
  have ba_4 : Y0.cell? ⟨w.heap.size, 4, none⟩ = some (.int .i64 z4) := ba.cell 4
  have ba_5 : Y0.cell? ⟨w.heap.size, 5, none⟩ = some (.string z5) := ba.cell 5
  have ba_6 : Y0.cell? ⟨w.heap.size, 6, none⟩ = some (.int .i64 z6) := ba.cell 6
  have ba_7 : Y0.cell? ⟨w.heap.size, 7, none⟩ = some (.slice A7 z7.length c7) := ba.cell 7
  have ba_l := ba.lt
  have bb_3 : Y0.cell? ⟨w.heap.size + 1, 3, none⟩ = some (.int .i64 z3) := bb.cell 3
  have bb_4 : Y0.cell? ⟨w.heap.size + 1, 4, none⟩ = some (.int .i64 z4) := bb.cell 4
  have bb_5 : Y0.cell? ⟨w.heap.size + 1, 5, none⟩ = some (.string z5) := bb.cell 5
  have bb_6 : Y0.cell? ⟨w.heap.size + 1, 6, none⟩ = some (.int .i64 z6) := bb.cell 6
  have bb_7 : Y0.cell? ⟨w.heap.size + 1, 7, none⟩ = some (.slice B7 z7.length d7) := bb.cell 7
  have bb_l := bb.lt
  go_wp2_with fail
  clear ba_3 bb_3 ba_4 bb_4 ba_5 bb_5 ba_6 bb_6 ba_7 bb_7 ba_l bb_l
  refine calls_worldD _ (fun X => Blk X w.heap.size 106 #[.bool z0, .int .i64 z1, .string z2, .int .i64 z3, .int .i64 z4, .string z5, .int .i64 z6, .slice A7 z7.length c7] ∧ Blk X (w.heap.size + 1) 106 #[.bool z0, .int .i64 z1, .string z2, .int .i64 z3, .int .i64 z4, .string z5, .int .i64 z6, .slice B7 z7.length d7] ∧ Below w.heap.size w X) ⟨ba, bb, hB⟩ ?_
  clear ba bb hB
  rintro X1 ⟨ba, bb, hB⟩
  have s1 := bb.lt
  refine (H3.out [.int .i64 z3, .int .i64 z4, .string z5, .int .i64 z6, .slice A7 z7.length c7] [.int .i64 z3, .int .i64 z4, .string z5, .int .i64 z6, .slice B7 z7.length d7] _ (by rw [FValue.c_eq]; exact (RdVs.cons (by unfold RdC; rfl) (RdVs.cons (by unfold RdC; rfl) (RdVs.cons (by unfold RdC; rfl) (RdVs.cons (by unfold RdC; rfl) (RdVs.cons (R7.out.on hB (Nat.le_refl _) (by omega)) (RdVs.nil _ _))))))) (by rw [FValue.c_eq]; exact (RdVs.cons (by unfold RdC; rfl) (RdVs.cons (by unfold RdC; rfl) (RdVs.cons (by unfold RdC; rfl) (RdVs.cons (by unfold RdC; rfl) (RdVs.cons (T7.out.on hB (Nat.le_refl _) (by omega)) (RdVs.nil _ _)))))))).mono ?_
  rintro e Y1 ⟨rfl, hb⟩
  replace ba := ba.below hb (Nat.le_refl _)
  replace bb := bb.below hb (Nat.le_refl _)
  replace hB := hB.trans (hb.mono (by omega))
  clear hb
  have ba_l := ba.lt
  have bb_l := bb.lt
  go_wp2_with fail
  go_ret
  exact ⟨rfl, hB⟩
set_option maxHeartbeats 1000000 in
theorem eqEntryS_of (l : List FEntry) (hl : l.length ≤ 1000000000) (he : ∀ x, x ∈ l → EqEntry x) : EqEntryS l := by
  intro u v w hu hv
  obtain ⟨A, c, rfl⟩ := hu.form
  obtain ⟨A', c', rfl⟩ := hv.form
  have HC := Lib.hid hu
  have HD := Lib.hid hv
  have hn : l.length ≤ 9223372036854775807 := by omega
  have HE := Lib.hid he
  clear he
  clear hu hv
  go_enter Tryz.func116, Tryz.ntmps116
  go_wp2
  go_loopw [5] (fun i wr => ∃ k : Nat, k ≤ l.length ∧ i = .int .i64 k ∧ Below w.heap.size w wr) (fun i _ => l.length - (intOf i).toNat)
  case atStart => exact ⟨0, Nat.zero_le _, rfl, Below.refl _ _⟩
  case round =>
    obtain ⟨k, hk, rfl, hb⟩ := hrel
    by_cases hlt : k < l.length
    · obtain ⟨x, hx⟩ : ∃ x, l[k]? = some x := ⟨_, List.getElem?_eq_getElem hlt⟩
      obtain ⟨bc, offc, rfl, hblc, hcc⟩ := RdC.at_ FEntry.len HC.out hx
      obtain ⟨bd, offd, rfl, hbld, hcd⟩ := RdC.at_ FEntry.len HD.out hx
      have HE2 := Lib.hid (HE.out x (List.mem_of_getElem? hx))
      clear hx
      obtain ⟨⟨z0, z1, z2⟩, ⟨z3, z4, z5, z6, z7⟩⟩ := x
      rw [FEntry.c_eq] at hcc hcd
      obtain ⟨u0, e0, q0⟩ := hcc 0 _ rfl
      obtain rfl := q0.val
      clear q0
      have c_0 : wr.cell? ⟨bc, offc + k * 8, none⟩ = some (.bool z0) := (hb.cell (p := ⟨bc, _, none⟩) hblc).trans (by simpa using e0)
      clear e0
      obtain ⟨u1, e1, q1⟩ := hcc 1 _ rfl
      obtain rfl := q1.val
      clear q1
      have c_1 : wr.cell? ⟨bc, offc + k * 8 + 1, none⟩ = some (.int .i64 z1) := (hb.cell (p := ⟨bc, _, none⟩) hblc).trans (by simpa using e1)
      clear e1
      obtain ⟨u2, e2, q2⟩ := hcc 2 _ rfl
      obtain rfl := q2.val
      clear q2
      have c_2 : wr.cell? ⟨bc, offc + k * 8 + 2, none⟩ = some (.string z2) := (hb.cell (p := ⟨bc, _, none⟩) hblc).trans (by simpa using e2)
      clear e2
      obtain ⟨u3, e3, q3⟩ := hcc 3 _ rfl
      obtain rfl := q3.val
      clear q3
      have c_3 : wr.cell? ⟨bc, offc + k * 8 + 3, none⟩ = some (.int .i64 z3) := (hb.cell (p := ⟨bc, _, none⟩) hblc).trans (by simpa using e3)
      clear e3
      obtain ⟨u4, e4, q4⟩ := hcc 4 _ rfl
      obtain rfl := q4.val
      clear q4
      have c_4 : wr.cell? ⟨bc, offc + k * 8 + 4, none⟩ = some (.int .i64 z4) := (hb.cell (p := ⟨bc, _, none⟩) hblc).trans (by simpa using e4)
      clear e4
      obtain ⟨u5, e5, q5⟩ := hcc 5 _ rfl
      obtain rfl := q5.val
      clear q5
      have c_5 : wr.cell? ⟨bc, offc + k * 8 + 5, none⟩ = some (.string z5) := (hb.cell (p := ⟨bc, _, none⟩) hblc).trans (by simpa using e5)
      clear e5
      obtain ⟨u6, e6, q6⟩ := hcc 6 _ rfl
      obtain rfl := q6.val
      clear q6
      have c_6 : wr.cell? ⟨bc, offc + k * 8 + 6, none⟩ = some (.int .i64 z6) := (hb.cell (p := ⟨bc, _, none⟩) hblc).trans (by simpa using e6)
      clear e6
      obtain ⟨u7, e7, q7⟩ := hcc 7 _ rfl
      obtain ⟨A7, c7, rfl⟩ := q7.form
      have R7 := Lib.hid q7
      clear q7
      have c_7 : wr.cell? ⟨bc, offc + k * 8 + 7, none⟩ = some (.slice A7 z7.length c7) := (hb.cell (p := ⟨bc, _, none⟩) hblc).trans (by simpa using e7)
      clear e7
      obtain ⟨u0, e0, q0⟩ := hcd 0 _ rfl
      obtain rfl := q0.val
      clear q0
      have d_0 : wr.cell? ⟨bd, offd + k * 8, none⟩ = some (.bool z0) := (hb.cell (p := ⟨bd, _, none⟩) hbld).trans (by simpa using e0)
      clear e0
      obtain ⟨u1, e1, q1⟩ := hcd 1 _ rfl
      obtain rfl := q1.val
      clear q1
      have d_1 : wr.cell? ⟨bd, offd + k * 8 + 1, none⟩ = some (.int .i64 z1) := (hb.cell (p := ⟨bd, _, none⟩) hbld).trans (by simpa using e1)
      clear e1
      obtain ⟨u2, e2, q2⟩ := hcd 2 _ rfl
      obtain rfl := q2.val
      clear q2
      have d_2 : wr.cell? ⟨bd, offd + k * 8 + 2, none⟩ = some (.string z2) := (hb.cell (p := ⟨bd, _, none⟩) hbld).trans (by simpa using e2)
      clear e2
      obtain ⟨u3, e3, q3⟩ := hcd 3 _ rfl
      obtain rfl := q3.val
      clear q3
      have d_3 : wr.cell? ⟨bd, offd + k * 8 + 3, none⟩ = some (.int .i64 z3) := (hb.cell (p := ⟨bd, _, none⟩) hbld).trans (by simpa using e3)
      clear e3
      obtain ⟨u4, e4, q4⟩ := hcd 4 _ rfl
      obtain rfl := q4.val
      clear q4
      have d_4 : wr.cell? ⟨bd, offd + k * 8 + 4, none⟩ = some (.int .i64 z4) := (hb.cell (p := ⟨bd, _, none⟩) hbld).trans (by simpa using e4)
      clear e4
      obtain ⟨u5, e5, q5⟩ := hcd 5 _ rfl
      obtain rfl := q5.val
      clear q5
      have d_5 : wr.cell? ⟨bd, offd + k * 8 + 5, none⟩ = some (.string z5) := (hb.cell (p := ⟨bd, _, none⟩) hbld).trans (by simpa using e5)
      clear e5
      obtain ⟨u6, e6, q6⟩ := hcd 6 _ rfl
      obtain rfl := q6.val
      clear q6
      have d_6 : wr.cell? ⟨bd, offd + k * 8 + 6, none⟩ = some (.int .i64 z6) := (hb.cell (p := ⟨bd, _, none⟩) hbld).trans (by simpa using e6)
      clear e6
      obtain ⟨u7, e7, q7⟩ := hcd 7 _ rfl
      obtain ⟨B7, d7, rfl⟩ := q7.form
      have T7 := Lib.hid q7
      clear q7
      have d_7 : wr.cell? ⟨bd, offd + k * 8 + 7, none⟩ = some (.slice B7 z7.length d7) := (hb.cell (p := ⟨bd, _, none⟩) hbld).trans (by simpa using e7)
      clear e7
      clear hcc hcd
      go_wp2_with fail
      go_still_tail 8, (by kernel_rfl)
      have hbd : Below w.heap.size w wr.drew := hb.drew
      change wpList _ _ _ _ _ wr.drew
      generalize wr.drew = wd at *
      go_wp2_with (go_at_call 122; refine (HE2.out [.bool z0, .int .i64 z1, .string z2, .int .i64 z3, .int .i64 z4, .string z5, .int .i64 z6, .slice A7 z7.length c7] [.bool z0, .int .i64 z1, .string z2, .int .i64 z3, .int .i64 z4, .string z5, .int .i64 z6, .slice B7 z7.length d7] _ (by rw [FEntry.c_eq]; exact (RdVs.cons (by unfold RdC; rfl) (RdVs.cons (by unfold RdC; rfl) (RdVs.cons (by unfold RdC; rfl) (RdVs.cons (by unfold RdC; rfl) (RdVs.cons (by unfold RdC; rfl) (RdVs.cons (by unfold RdC; rfl) (RdVs.cons (by unfold RdC; rfl) (RdVs.cons (R7.out.on hbd (Nat.le_refl _) hbd.size) (RdVs.nil _ _)))))))))) (by rw [FEntry.c_eq]; exact (RdVs.cons (by unfold RdC; rfl) (RdVs.cons (by unfold RdC; rfl) (RdVs.cons (by unfold RdC; rfl) (RdVs.cons (by unfold RdC; rfl) (RdVs.cons (by unfold RdC; rfl) (RdVs.cons (by unfold RdC; rfl) (RdVs.cons (by unfold RdC; rfl) (RdVs.cons (T7.out.on hbd (Nat.le_refl _) hbd.size) (RdVs.nil _ _))))))))))).mono ?_; rintro e w2 ⟨rfl, hb2⟩)
      go_roundw
      case rel => exact ⟨k + 1, by omega, by go_num, hbd.trans (hb2.mono hbd.size)⟩
      case measure => simp [intOf]; omega
    · obtain rfl : k = l.length := by omega
      clear hlt
      go_wp2_with fail
      go_ret
      exact ⟨rfl, hb⟩
set_option maxHeartbeats 1000000 in
theorem eqValue_of (z0 : Int) (z1 : Int) (z2 : ByteArray) (z3 : Int) (z4 : List FEntry) (h4 : EqEntryS z4) : EqValue ⟨z0, z1, z2, z3, z4⟩ := by
  intro us vs w hr hs
  rw [FValue.c_eq] at hr hs
  obtain ⟨us0, rfl, hr_0⟩ := hr.unv
  obtain ⟨us1, rfl, hr_1⟩ := hr_0.unv
  obtain ⟨us2, rfl, hr_2⟩ := hr_1.unv
  obtain ⟨us3, rfl, hr_3⟩ := hr_2.unv
  obtain ⟨A4, c4, us4, rfl, r4, hr_4⟩ := hr_3.uns
  obtain rfl := hr_4.un0
  obtain ⟨vs0, rfl, hs_0⟩ := hs.unv
  obtain ⟨vs1, rfl, hs_1⟩ := hs_0.unv
  obtain ⟨vs2, rfl, hs_2⟩ := hs_1.unv
  obtain ⟨vs3, rfl, hs_3⟩ := hs_2.unv
  obtain ⟨B4, d4, vs4, rfl, t4, hs_4⟩ := hs_3.uns
  obtain rfl := hs_4.un0
  clear hr hs hr_0 hs_0 hr_1 hs_1 hr_2 hs_2 hr_3 hs_3 hr_4 hs_4
  have R4 := Lib.hid r4
  have T4 := Lib.hid t4
  clear r4 t4
  have H4 := Lib.hid h4
  clear h4
  go_enter Tryz.func110, Tryz.ntmps110
  go_wp2_with fail
  refine calls_worldD _ (fun X => Blk X w.heap.size 43 #[.int .i64 z0, .int .i64 z1, .string z2, .int .i64 z3, .slice A4 z4.length c4] ∧ Blk X (w.heap.size + 1) 43 #[.int .i64 z0, .int .i64 z1, .string z2, .int .i64 z3, .slice B4 z4.length d4] ∧ Below w.heap.size w X) ⟨(Blk.new w _ _).alloc _, Blk.new' (w.alloc _) _ _ _ (by simp), ((Below.refl _ _).alloc (Nat.le_refl _) _).alloc (by simp) _⟩ ?_
  rintro X0 ⟨ba, bb, hB⟩
  have s0 := bb.lt
  refine (H4.out _ _ _ (R4.out.on hB (Nat.le_refl _) (by omega)) (T4.out.on hB (Nat.le_refl _) (by omega))).mono ?_
  rintro e Y0 ⟨rfl, hb⟩
  replace ba := ba.below hb (Nat.le_refl _)
  replace bb := bb.below hb (Nat.le_refl _)
  replace hB := hB.trans (hb.mono (by omega))
  clear hb
  have ba_l := ba.lt
  have bb_l := bb.lt
  go_wp2_with fail
  go_ret
  exact ⟨rfl, hB⟩
mutual
theorem eqEntry_any : ∀ (x : FEntry), x.wt ≤ 1000000000 → EqEntry x
  | .mk a0 a1, hw => by
    unfold FEntry.wt at hw
    have k0 := eqKey_any a0 (by omega)
    have k1 := eqValue_any a1 (by omega)
    obtain ⟨b0_0, b0_1, b0_2⟩ := a0
    obtain ⟨b1_0, b1_1, b1_2, b1_3, b1_4⟩ := a1
    exact eqEntry_of b0_0 b0_1 b0_2 b1_0 b1_1 b1_2 b1_3 b1_4 k0 k1
theorem eqValue_any : ∀ (x : FValue), x.wt ≤ 1000000000 → EqValue x
  | .mk a0 a1 a2 a3 a4, hw => by
    unfold FValue.wt at hw
    exact eqValue_of a0 a1 a2 a3 a4 (eqEntryS_of a4 (by omega) (eqEntry_all a4 (by omega)))
theorem eqEntry_all : ∀ (l : List FEntry), l.length + FEntry.wts l ≤ 1000000000 → ∀ x, x ∈ l → EqEntry x
  | [], _, x, hx => by cases hx
  | y :: r, hw, x, hx => by
    unfold FEntry.wts at hw
    simp only [List.length_cons] at hw
    rcases List.mem_cons.1 hx with e | hx
    · rw [e]
      exact eqEntry_any y (by omega)
    · exact eqEntry_all r (by omega) x hx
end
theorem eqEntryS_any (l : List FEntry) (hw : l.length + FEntry.wts l ≤ 1000000000) : EqEntryS l := (eqEntryS_of l (by omega) (eqEntry_all l hw))
def EqIns (x : FIns) : Prop := ∀ (us vs : List Value) (w : World), RdVs w w.heap.size x.c us → RdVs w w.heap.size x.c vs → Calls Tryz.prog 102 #[.agg us.toArray, .agg vs.toArray] w fun e w' => e = .returned (.bool true) ∧ Below w.heap.size w w'
def EqInsS (l : List FIns) : Prop := ∀ (u v : Value) (w : World), RdC w w.heap.size (.s 77 5 l.length (FIns.flat l)) u → RdC w w.heap.size (.s 77 5 l.length (FIns.flat l)) v → Calls Tryz.prog 79 #[u, v] w fun e w' => e = .returned (.bool true) ∧ Below w.heap.size w w'
set_option maxHeartbeats 1000000 in
theorem eqIns_of (z0 : Int) (z1 : Int) (z2 : Int) (z3 : ByteArray) (z4 : ByteArray)  : EqIns ⟨z0, z1, z2, z3, z4⟩ := by
  intro us vs w hr hs
  rw [FIns.c_eq] at hr hs
  obtain ⟨us0, rfl, hr_0⟩ := hr.unv
  obtain ⟨us1, rfl, hr_1⟩ := hr_0.unv
  obtain ⟨us2, rfl, hr_2⟩ := hr_1.unv
  obtain ⟨us3, rfl, hr_3⟩ := hr_2.unv
  obtain ⟨us4, rfl, hr_4⟩ := hr_3.unv
  obtain rfl := hr_4.un0
  obtain ⟨vs0, rfl, hs_0⟩ := hs.unv
  obtain ⟨vs1, rfl, hs_1⟩ := hs_0.unv
  obtain ⟨vs2, rfl, hs_2⟩ := hs_1.unv
  obtain ⟨vs3, rfl, hs_3⟩ := hs_2.unv
  obtain ⟨vs4, rfl, hs_4⟩ := hs_3.unv
  obtain rfl := hs_4.un0
  clear hr hs hr_0 hs_0 hr_1 hs_1 hr_2 hs_2 hr_3 hs_3 hr_4 hs_4
  go_enter Tryz.func102, Tryz.ntmps102
  go_wp2_with fail
  go_ret
  exact ⟨rfl, by repeat (first | exact Below.refl _ _ | (refine Below.alloc ?_ (by simp; try omega) _))⟩
set_option maxHeartbeats 1000000 in
theorem eqInsS_of (l : List FIns) (hl : l.length ≤ 1000000000) (he : ∀ x, x ∈ l → EqIns x) : EqInsS l := by
  intro u v w hu hv
  obtain ⟨A, c, rfl⟩ := hu.form
  obtain ⟨A', c', rfl⟩ := hv.form
  have HC := Lib.hid hu
  have HD := Lib.hid hv
  have hn : l.length ≤ 9223372036854775807 := by omega
  have HE := Lib.hid he
  clear he
  clear hu hv
  go_enter Tryz.func79, Tryz.ntmps79
  go_wp2
  go_loopw [5] (fun i wr => ∃ k : Nat, k ≤ l.length ∧ i = .int .i64 k ∧ Below w.heap.size w wr) (fun i _ => l.length - (intOf i).toNat)
  case atStart => exact ⟨0, Nat.zero_le _, rfl, Below.refl _ _⟩
  case round =>
    obtain ⟨k, hk, rfl, hb⟩ := hrel
    by_cases hlt : k < l.length
    · obtain ⟨x, hx⟩ : ∃ x, l[k]? = some x := ⟨_, List.getElem?_eq_getElem hlt⟩
      obtain ⟨bc, offc, rfl, hblc, hcc⟩ := RdC.at_ FIns.len HC.out hx
      obtain ⟨bd, offd, rfl, hbld, hcd⟩ := RdC.at_ FIns.len HD.out hx
      have HE2 := Lib.hid (HE.out x (List.mem_of_getElem? hx))
      clear hx
      obtain ⟨z0, z1, z2, z3, z4⟩ := x
      rw [FIns.c_eq] at hcc hcd
      obtain ⟨u0, e0, q0⟩ := hcc 0 _ rfl
      obtain rfl := q0.val
      clear q0
      have c_0 : wr.cell? ⟨bc, offc + k * 5, none⟩ = some (.int .i64 z0) := (hb.cell (p := ⟨bc, _, none⟩) hblc).trans (by simpa using e0)
      clear e0
      obtain ⟨u1, e1, q1⟩ := hcc 1 _ rfl
      obtain rfl := q1.val
      clear q1
      have c_1 : wr.cell? ⟨bc, offc + k * 5 + 1, none⟩ = some (.int .i64 z1) := (hb.cell (p := ⟨bc, _, none⟩) hblc).trans (by simpa using e1)
      clear e1
      obtain ⟨u2, e2, q2⟩ := hcc 2 _ rfl
      obtain rfl := q2.val
      clear q2
      have c_2 : wr.cell? ⟨bc, offc + k * 5 + 2, none⟩ = some (.int .i64 z2) := (hb.cell (p := ⟨bc, _, none⟩) hblc).trans (by simpa using e2)
      clear e2
      obtain ⟨u3, e3, q3⟩ := hcc 3 _ rfl
      obtain rfl := q3.val
      clear q3
      have c_3 : wr.cell? ⟨bc, offc + k * 5 + 3, none⟩ = some (.string z3) := (hb.cell (p := ⟨bc, _, none⟩) hblc).trans (by simpa using e3)
      clear e3
      obtain ⟨u4, e4, q4⟩ := hcc 4 _ rfl
      obtain rfl := q4.val
      clear q4
      have c_4 : wr.cell? ⟨bc, offc + k * 5 + 4, none⟩ = some (.string z4) := (hb.cell (p := ⟨bc, _, none⟩) hblc).trans (by simpa using e4)
      clear e4
      obtain ⟨u0, e0, q0⟩ := hcd 0 _ rfl
      obtain rfl := q0.val
      clear q0
      have d_0 : wr.cell? ⟨bd, offd + k * 5, none⟩ = some (.int .i64 z0) := (hb.cell (p := ⟨bd, _, none⟩) hbld).trans (by simpa using e0)
      clear e0
      obtain ⟨u1, e1, q1⟩ := hcd 1 _ rfl
      obtain rfl := q1.val
      clear q1
      have d_1 : wr.cell? ⟨bd, offd + k * 5 + 1, none⟩ = some (.int .i64 z1) := (hb.cell (p := ⟨bd, _, none⟩) hbld).trans (by simpa using e1)
      clear e1
      obtain ⟨u2, e2, q2⟩ := hcd 2 _ rfl
      obtain rfl := q2.val
      clear q2
      have d_2 : wr.cell? ⟨bd, offd + k * 5 + 2, none⟩ = some (.int .i64 z2) := (hb.cell (p := ⟨bd, _, none⟩) hbld).trans (by simpa using e2)
      clear e2
      obtain ⟨u3, e3, q3⟩ := hcd 3 _ rfl
      obtain rfl := q3.val
      clear q3
      have d_3 : wr.cell? ⟨bd, offd + k * 5 + 3, none⟩ = some (.string z3) := (hb.cell (p := ⟨bd, _, none⟩) hbld).trans (by simpa using e3)
      clear e3
      obtain ⟨u4, e4, q4⟩ := hcd 4 _ rfl
      obtain rfl := q4.val
      clear q4
      have d_4 : wr.cell? ⟨bd, offd + k * 5 + 4, none⟩ = some (.string z4) := (hb.cell (p := ⟨bd, _, none⟩) hbld).trans (by simpa using e4)
      clear e4
      clear hcc hcd
      go_wp2_with fail
      go_still_tail 8, (by kernel_rfl)
      have hbd : Below w.heap.size w wr.drew := hb.drew
      change wpList _ _ _ _ _ wr.drew
      generalize wr.drew = wd at *
      go_wp2_with (go_at_call 102; refine (HE2.out [.int .i64 z0, .int .i64 z1, .int .i64 z2, .string z3, .string z4] [.int .i64 z0, .int .i64 z1, .int .i64 z2, .string z3, .string z4] _ (by rw [FIns.c_eq]; exact (RdVs.cons (by unfold RdC; rfl) (RdVs.cons (by unfold RdC; rfl) (RdVs.cons (by unfold RdC; rfl) (RdVs.cons (by unfold RdC; rfl) (RdVs.cons (by unfold RdC; rfl) (RdVs.nil _ _))))))) (by rw [FIns.c_eq]; exact (RdVs.cons (by unfold RdC; rfl) (RdVs.cons (by unfold RdC; rfl) (RdVs.cons (by unfold RdC; rfl) (RdVs.cons (by unfold RdC; rfl) (RdVs.cons (by unfold RdC; rfl) (RdVs.nil _ _)))))))).mono ?_; rintro e w2 ⟨rfl, hb2⟩)
      go_roundw
      case rel => exact ⟨k + 1, by omega, by go_num, hbd.trans (hb2.mono hbd.size)⟩
      case measure => simp [intOf]; omega
    · obtain rfl : k = l.length := by omega
      clear hlt
      go_wp2_with fail
      go_ret
      exact ⟨rfl, hb⟩
theorem eqIns_any (x : FIns) (hw : x.wt ≤ 1000000000) : EqIns x := by
  obtain ⟨z0, z1, z2, z3, z4⟩ := x
  exact eqIns_of z0 z1 z2 z3 z4 
theorem eqInsS_any (l : List FIns) (hw : l.length + FIns.wts l ≤ 1000000000) : EqInsS l := (eqInsS_of l (by omega) (fun x hx => eqIns_any x (by have := FIns.wts_at l x hx; omega)))
def EqParam (x : FParam) : Prop := ∀ (us vs : List Value) (w : World), RdVs w w.heap.size x.c us → RdVs w w.heap.size x.c vs → Calls Tryz.prog 101 #[.agg us.toArray, .agg vs.toArray] w fun e w' => e = .returned (.bool true) ∧ Below w.heap.size w w'
def EqParamS (l : List FParam) : Prop := ∀ (u v : Value) (w : World), RdC w w.heap.size (.s 86 2 l.length (FParam.flat l)) u → RdC w w.heap.size (.s 86 2 l.length (FParam.flat l)) v → Calls Tryz.prog 77 #[u, v] w fun e w' => e = .returned (.bool true) ∧ Below w.heap.size w w'
set_option maxHeartbeats 1000000 in
theorem eqParam_of (z0 : ByteArray) (z1 : Bool)  : EqParam ⟨z0, z1⟩ := by
  intro us vs w hr hs
  rw [FParam.c_eq] at hr hs
  obtain ⟨us0, rfl, hr_0⟩ := hr.unv
  obtain ⟨us1, rfl, hr_1⟩ := hr_0.unv
  obtain rfl := hr_1.un0
  obtain ⟨vs0, rfl, hs_0⟩ := hs.unv
  obtain ⟨vs1, rfl, hs_1⟩ := hs_0.unv
  obtain rfl := hs_1.un0
  clear hr hs hr_0 hs_0 hr_1 hs_1
  go_enter Tryz.func101, Tryz.ntmps101
  go_wp2_with fail
  go_ret
  exact ⟨rfl, by repeat (first | exact Below.refl _ _ | (refine Below.alloc ?_ (by simp; try omega) _))⟩
set_option maxHeartbeats 1000000 in
theorem eqParamS_of (l : List FParam) (hl : l.length ≤ 1000000000) (he : ∀ x, x ∈ l → EqParam x) : EqParamS l := by
  intro u v w hu hv
  obtain ⟨A, c, rfl⟩ := hu.form
  obtain ⟨A', c', rfl⟩ := hv.form
  have HC := Lib.hid hu
  have HD := Lib.hid hv
  have hn : l.length ≤ 9223372036854775807 := by omega
  have HE := Lib.hid he
  clear he
  clear hu hv
  go_enter Tryz.func77, Tryz.ntmps77
  go_wp2
  go_loopw [5] (fun i wr => ∃ k : Nat, k ≤ l.length ∧ i = .int .i64 k ∧ Below w.heap.size w wr) (fun i _ => l.length - (intOf i).toNat)
  case atStart => exact ⟨0, Nat.zero_le _, rfl, Below.refl _ _⟩
  case round =>
    obtain ⟨k, hk, rfl, hb⟩ := hrel
    by_cases hlt : k < l.length
    · obtain ⟨x, hx⟩ : ∃ x, l[k]? = some x := ⟨_, List.getElem?_eq_getElem hlt⟩
      obtain ⟨bc, offc, rfl, hblc, hcc⟩ := RdC.at_ FParam.len HC.out hx
      obtain ⟨bd, offd, rfl, hbld, hcd⟩ := RdC.at_ FParam.len HD.out hx
      have HE2 := Lib.hid (HE.out x (List.mem_of_getElem? hx))
      clear hx
      obtain ⟨z0, z1⟩ := x
      rw [FParam.c_eq] at hcc hcd
      obtain ⟨u0, e0, q0⟩ := hcc 0 _ rfl
      obtain rfl := q0.val
      clear q0
      have c_0 : wr.cell? ⟨bc, offc + k * 2, none⟩ = some (.string z0) := (hb.cell (p := ⟨bc, _, none⟩) hblc).trans (by simpa using e0)
      clear e0
      obtain ⟨u1, e1, q1⟩ := hcc 1 _ rfl
      obtain rfl := q1.val
      clear q1
      have c_1 : wr.cell? ⟨bc, offc + k * 2 + 1, none⟩ = some (.bool z1) := (hb.cell (p := ⟨bc, _, none⟩) hblc).trans (by simpa using e1)
      clear e1
      obtain ⟨u0, e0, q0⟩ := hcd 0 _ rfl
      obtain rfl := q0.val
      clear q0
      have d_0 : wr.cell? ⟨bd, offd + k * 2, none⟩ = some (.string z0) := (hb.cell (p := ⟨bd, _, none⟩) hbld).trans (by simpa using e0)
      clear e0
      obtain ⟨u1, e1, q1⟩ := hcd 1 _ rfl
      obtain rfl := q1.val
      clear q1
      have d_1 : wr.cell? ⟨bd, offd + k * 2 + 1, none⟩ = some (.bool z1) := (hb.cell (p := ⟨bd, _, none⟩) hbld).trans (by simpa using e1)
      clear e1
      clear hcc hcd
      go_wp2_with fail
      go_still_tail 8, (by kernel_rfl)
      have hbd : Below w.heap.size w wr.drew := hb.drew
      change wpList _ _ _ _ _ wr.drew
      generalize wr.drew = wd at *
      go_wp2_with (go_at_call 101; refine (HE2.out [.string z0, .bool z1] [.string z0, .bool z1] _ (by rw [FParam.c_eq]; exact (RdVs.cons (by unfold RdC; rfl) (RdVs.cons (by unfold RdC; rfl) (RdVs.nil _ _)))) (by rw [FParam.c_eq]; exact (RdVs.cons (by unfold RdC; rfl) (RdVs.cons (by unfold RdC; rfl) (RdVs.nil _ _))))).mono ?_; rintro e w2 ⟨rfl, hb2⟩)
      go_roundw
      case rel => exact ⟨k + 1, by omega, by go_num, hbd.trans (hb2.mono hbd.size)⟩
      case measure => simp [intOf]; omega
    · obtain rfl : k = l.length := by omega
      clear hlt
      go_wp2_with fail
      go_ret
      exact ⟨rfl, hb⟩
theorem eqParam_any (x : FParam) (hw : x.wt ≤ 1000000000) : EqParam x := by
  obtain ⟨z0, z1⟩ := x
  exact eqParam_of z0 z1 
theorem eqParamS_any (l : List FParam) (hw : l.length + FParam.wts l ≤ 1000000000) : EqParamS l := (eqParamS_of l (by omega) (fun x hx => eqParam_any x (by have := FParam.wts_at l x hx; omega)))
def EqFunc (x : FFunc) : Prop := ∀ (us vs : List Value) (w : World), RdVs w w.heap.size x.c us → RdVs w w.heap.size x.c vs → Calls Tryz.prog 44 #[.agg us.toArray, .agg vs.toArray] w fun e w' => e = .returned (.bool true) ∧ Below w.heap.size w w'
def EqFuncS (l : List FFunc) : Prop := ∀ (u v : Value) (w : World), RdC w w.heap.size (.s 51 6 l.length (FFunc.flat l)) u → RdC w w.heap.size (.s 51 6 l.length (FFunc.flat l)) v → Calls Tryz.prog 24 #[u, v] w fun e w' => e = .returned (.bool true) ∧ Below w.heap.size w w'
set_option maxHeartbeats 1000000 in
theorem eqFunc_of (z0 : ByteArray) (z1 : List FParam) (z2 : List FParam) (z3 : List FStr) (z4 : Bool) (z5 : List FIns) (h1 : EqParamS z1) (h2 : EqParamS z2) (h3 : EqStringS z3) (h5 : EqInsS z5) : EqFunc ⟨z0, z1, z2, z3, z4, z5⟩ := by
  intro us vs w hr hs
  rw [FFunc.c_eq] at hr hs
  obtain ⟨us0, rfl, hr_0⟩ := hr.unv
  obtain ⟨A1, c1, us1, rfl, r1, hr_1⟩ := hr_0.uns
  obtain ⟨A2, c2, us2, rfl, r2, hr_2⟩ := hr_1.uns
  obtain ⟨A3, c3, us3, rfl, r3, hr_3⟩ := hr_2.uns
  obtain ⟨us4, rfl, hr_4⟩ := hr_3.unv
  obtain ⟨A5, c5, us5, rfl, r5, hr_5⟩ := hr_4.uns
  obtain rfl := hr_5.un0
  obtain ⟨vs0, rfl, hs_0⟩ := hs.unv
  obtain ⟨B1, d1, vs1, rfl, t1, hs_1⟩ := hs_0.uns
  obtain ⟨B2, d2, vs2, rfl, t2, hs_2⟩ := hs_1.uns
  obtain ⟨B3, d3, vs3, rfl, t3, hs_3⟩ := hs_2.uns
  obtain ⟨vs4, rfl, hs_4⟩ := hs_3.unv
  obtain ⟨B5, d5, vs5, rfl, t5, hs_5⟩ := hs_4.uns
  obtain rfl := hs_5.un0
  clear hr hs hr_0 hs_0 hr_1 hs_1 hr_2 hs_2 hr_3 hs_3 hr_4 hs_4 hr_5 hs_5
  have R1 := Lib.hid r1
  have T1 := Lib.hid t1
  clear r1 t1
  have R2 := Lib.hid r2
  have T2 := Lib.hid t2
  clear r2 t2
  have R3 := Lib.hid r3
  have T3 := Lib.hid t3
  clear r3 t3
  have R5 := Lib.hid r5
  have T5 := Lib.hid t5
  clear r5 t5
  have H1 := Lib.hid h1
  clear h1
  have H2 := Lib.hid h2
  clear h2
  have H3 := Lib.hid h3
  clear h3
  have H5 := Lib.hid h5
  clear h5
  go_enter Tryz.func44, Tryz.ntmps44
  go_wp2_with fail
  refine calls_worldD _ (fun X => Blk X w.heap.size 51 #[.string z0, .slice A1 z1.length c1, .slice A2 z2.length c2, .slice A3 z3.length c3, .bool z4, .slice A5 z5.length c5] ∧ Blk X (w.heap.size + 1) 51 #[.string z0, .slice B1 z1.length d1, .slice B2 z2.length d2, .slice B3 z3.length d3, .bool z4, .slice B5 z5.length d5] ∧ Below w.heap.size w X) ⟨(Blk.new w _ _).alloc _, Blk.new' (w.alloc _) _ _ _ (by simp), ((Below.refl _ _).alloc (Nat.le_refl _) _).alloc (by simp) _⟩ ?_
  rintro X0 ⟨ba, bb, hB⟩
  have s0 := bb.lt
  refine (H1.out _ _ _ (R1.out.on hB (Nat.le_refl _) (by omega)) (T1.out.on hB (Nat.le_refl _) (by omega))).mono ?_
  rintro e Y0 ⟨rfl, hb⟩
  replace ba := ba.below hb (Nat.le_refl _)
  replace bb := bb.below hb (Nat.le_refl _)
  replace hB := hB.trans (hb.mono (by omega))
  clear hb
  have ba_2 : Y0.cell? ⟨w.heap.size, 2, none⟩ = some (.slice A2 z2.length c2) := ba.cell 2
  have ba_l := ba.lt
  have bb_2 : Y0.cell? ⟨w.heap.size + 1, 2, none⟩ = some (.slice B2 z2.length d2) := bb.cell 2
  have bb_l := bb.lt
  go_wp2_with fail
  clear ba_2 bb_2 ba_l bb_l
  refine calls_worldD _ (fun X => Blk X w.heap.size 51 #[.string z0, .slice A1 z1.length c1, .slice A2 z2.length c2, .slice A3 z3.length c3, .bool z4, .slice A5 z5.length c5] ∧ Blk X (w.heap.size + 1) 51 #[.string z0, .slice B1 z1.length d1, .slice B2 z2.length d2, .slice B3 z3.length d3, .bool z4, .slice B5 z5.length d5] ∧ Below w.heap.size w X) ⟨ba, bb, hB⟩ ?_
  clear ba bb hB
  rintro X1 ⟨ba, bb, hB⟩
  have s1 := bb.lt
  refine (H2.out _ _ _ (R2.out.on hB (Nat.le_refl _) (by omega)) (T2.out.on hB (Nat.le_refl _) (by omega))).mono ?_
  rintro e Y1 ⟨rfl, hb⟩
  replace ba := ba.below hb (Nat.le_refl _)
  replace bb := bb.below hb (Nat.le_refl _)
  replace hB := hB.trans (hb.mono (by omega))
  clear hb
  have ba_3 : Y1.cell? ⟨w.heap.size, 3, none⟩ = some (.slice A3 z3.length c3) := ba.cell 3
  have ba_l := ba.lt
  have bb_3 : Y1.cell? ⟨w.heap.size + 1, 3, none⟩ = some (.slice B3 z3.length d3) := bb.cell 3
  have bb_l := bb.lt
  go_wp2_with fail
  clear ba_3 bb_3 ba_l bb_l
  refine calls_worldD _ (fun X => Blk X w.heap.size 51 #[.string z0, .slice A1 z1.length c1, .slice A2 z2.length c2, .slice A3 z3.length c3, .bool z4, .slice A5 z5.length c5] ∧ Blk X (w.heap.size + 1) 51 #[.string z0, .slice B1 z1.length d1, .slice B2 z2.length d2, .slice B3 z3.length d3, .bool z4, .slice B5 z5.length d5] ∧ Below w.heap.size w X) ⟨ba, bb, hB⟩ ?_
  clear ba bb hB
  rintro X2 ⟨ba, bb, hB⟩
  have s2 := bb.lt
  refine (H3.out _ _ _ (R3.out.on hB (Nat.le_refl _) (by omega)) (T3.out.on hB (Nat.le_refl _) (by omega))).mono ?_
  rintro e Y2 ⟨rfl, hb⟩
  replace ba := ba.below hb (Nat.le_refl _)
  replace bb := bb.below hb (Nat.le_refl _)
  replace hB := hB.trans (hb.mono (by omega))
  clear hb
  have ba_4 : Y2.cell? ⟨w.heap.size, 4, none⟩ = some (.bool z4) := ba.cell 4
  have ba_5 : Y2.cell? ⟨w.heap.size, 5, none⟩ = some (.slice A5 z5.length c5) := ba.cell 5
  have ba_l := ba.lt
  have bb_4 : Y2.cell? ⟨w.heap.size + 1, 4, none⟩ = some (.bool z4) := bb.cell 4
  have bb_5 : Y2.cell? ⟨w.heap.size + 1, 5, none⟩ = some (.slice B5 z5.length d5) := bb.cell 5
  have bb_l := bb.lt
  go_wp2_with fail
  clear ba_4 bb_4 ba_5 bb_5 ba_l bb_l
  refine calls_worldD _ (fun X => Blk X w.heap.size 51 #[.string z0, .slice A1 z1.length c1, .slice A2 z2.length c2, .slice A3 z3.length c3, .bool z4, .slice A5 z5.length c5] ∧ Blk X (w.heap.size + 1) 51 #[.string z0, .slice B1 z1.length d1, .slice B2 z2.length d2, .slice B3 z3.length d3, .bool z4, .slice B5 z5.length d5] ∧ Below w.heap.size w X) ⟨ba, bb, hB⟩ ?_
  clear ba bb hB
  rintro X3 ⟨ba, bb, hB⟩
  have s3 := bb.lt
  refine (H5.out _ _ _ (R5.out.on hB (Nat.le_refl _) (by omega)) (T5.out.on hB (Nat.le_refl _) (by omega))).mono ?_
  rintro e Y3 ⟨rfl, hb⟩
  replace ba := ba.below hb (Nat.le_refl _)
  replace bb := bb.below hb (Nat.le_refl _)
  replace hB := hB.trans (hb.mono (by omega))
  clear hb
  have ba_l := ba.lt
  have bb_l := bb.lt
  go_wp2_with fail
  go_ret
  exact ⟨rfl, hB⟩
set_option maxHeartbeats 1000000 in
theorem eqFuncS_of (l : List FFunc) (hl : l.length ≤ 1000000000) (he : ∀ x, x ∈ l → EqFunc x) : EqFuncS l := by
  intro u v w hu hv
  obtain ⟨A, c, rfl⟩ := hu.form
  obtain ⟨A', c', rfl⟩ := hv.form
  have HC := Lib.hid hu
  have HD := Lib.hid hv
  have hn : l.length ≤ 9223372036854775807 := by omega
  have HE := Lib.hid he
  clear he
  clear hu hv
  go_enter Tryz.func24, Tryz.ntmps24
  go_wp2
  go_loopw [5] (fun i wr => ∃ k : Nat, k ≤ l.length ∧ i = .int .i64 k ∧ Below w.heap.size w wr) (fun i _ => l.length - (intOf i).toNat)
  case atStart => exact ⟨0, Nat.zero_le _, rfl, Below.refl _ _⟩
  case round =>
    obtain ⟨k, hk, rfl, hb⟩ := hrel
    by_cases hlt : k < l.length
    · obtain ⟨x, hx⟩ : ∃ x, l[k]? = some x := ⟨_, List.getElem?_eq_getElem hlt⟩
      obtain ⟨bc, offc, rfl, hblc, hcc⟩ := RdC.at_ FFunc.len HC.out hx
      obtain ⟨bd, offd, rfl, hbld, hcd⟩ := RdC.at_ FFunc.len HD.out hx
      have HE2 := Lib.hid (HE.out x (List.mem_of_getElem? hx))
      clear hx
      obtain ⟨z0, z1, z2, z3, z4, z5⟩ := x
      rw [FFunc.c_eq] at hcc hcd
      obtain ⟨u0, e0, q0⟩ := hcc 0 _ rfl
      obtain rfl := q0.val
      clear q0
      have c_0 : wr.cell? ⟨bc, offc + k * 6, none⟩ = some (.string z0) := (hb.cell (p := ⟨bc, _, none⟩) hblc).trans (by simpa using e0)
      clear e0
      obtain ⟨u1, e1, q1⟩ := hcc 1 _ rfl
      obtain ⟨A1, c1, rfl⟩ := q1.form
      have R1 := Lib.hid q1
      clear q1
      have c_1 : wr.cell? ⟨bc, offc + k * 6 + 1, none⟩ = some (.slice A1 z1.length c1) := (hb.cell (p := ⟨bc, _, none⟩) hblc).trans (by simpa using e1)
      clear e1
      obtain ⟨u2, e2, q2⟩ := hcc 2 _ rfl
      obtain ⟨A2, c2, rfl⟩ := q2.form
      have R2 := Lib.hid q2
      clear q2
      have c_2 : wr.cell? ⟨bc, offc + k * 6 + 2, none⟩ = some (.slice A2 z2.length c2) := (hb.cell (p := ⟨bc, _, none⟩) hblc).trans (by simpa using e2)
      clear e2
      obtain ⟨u3, e3, q3⟩ := hcc 3 _ rfl
      obtain ⟨A3, c3, rfl⟩ := q3.form
      have R3 := Lib.hid q3
      clear q3
      have c_3 : wr.cell? ⟨bc, offc + k * 6 + 3, none⟩ = some (.slice A3 z3.length c3) := (hb.cell (p := ⟨bc, _, none⟩) hblc).trans (by simpa using e3)
      clear e3
      obtain ⟨u4, e4, q4⟩ := hcc 4 _ rfl
      obtain rfl := q4.val
      clear q4
      have c_4 : wr.cell? ⟨bc, offc + k * 6 + 4, none⟩ = some (.bool z4) := (hb.cell (p := ⟨bc, _, none⟩) hblc).trans (by simpa using e4)
      clear e4
      obtain ⟨u5, e5, q5⟩ := hcc 5 _ rfl
      obtain ⟨A5, c5, rfl⟩ := q5.form
      have R5 := Lib.hid q5
      clear q5
      have c_5 : wr.cell? ⟨bc, offc + k * 6 + 5, none⟩ = some (.slice A5 z5.length c5) := (hb.cell (p := ⟨bc, _, none⟩) hblc).trans (by simpa using e5)
      clear e5
      obtain ⟨u0, e0, q0⟩ := hcd 0 _ rfl
      obtain rfl := q0.val
      clear q0
      have d_0 : wr.cell? ⟨bd, offd + k * 6, none⟩ = some (.string z0) := (hb.cell (p := ⟨bd, _, none⟩) hbld).trans (by simpa using e0)
      clear e0
      obtain ⟨u1, e1, q1⟩ := hcd 1 _ rfl
      obtain ⟨B1, d1, rfl⟩ := q1.form
      have T1 := Lib.hid q1
      clear q1
      have d_1 : wr.cell? ⟨bd, offd + k * 6 + 1, none⟩ = some (.slice B1 z1.length d1) := (hb.cell (p := ⟨bd, _, none⟩) hbld).trans (by simpa using e1)
      clear e1
      obtain ⟨u2, e2, q2⟩ := hcd 2 _ rfl
      obtain ⟨B2, d2, rfl⟩ := q2.form
      have T2 := Lib.hid q2
      clear q2
      have d_2 : wr.cell? ⟨bd, offd + k * 6 + 2, none⟩ = some (.slice B2 z2.length d2) := (hb.cell (p := ⟨bd, _, none⟩) hbld).trans (by simpa using e2)
      clear e2
      obtain ⟨u3, e3, q3⟩ := hcd 3 _ rfl
      obtain ⟨B3, d3, rfl⟩ := q3.form
      have T3 := Lib.hid q3
      clear q3
      have d_3 : wr.cell? ⟨bd, offd + k * 6 + 3, none⟩ = some (.slice B3 z3.length d3) := (hb.cell (p := ⟨bd, _, none⟩) hbld).trans (by simpa using e3)
      clear e3
      obtain ⟨u4, e4, q4⟩ := hcd 4 _ rfl
      obtain rfl := q4.val
      clear q4
      have d_4 : wr.cell? ⟨bd, offd + k * 6 + 4, none⟩ = some (.bool z4) := (hb.cell (p := ⟨bd, _, none⟩) hbld).trans (by simpa using e4)
      clear e4
      obtain ⟨u5, e5, q5⟩ := hcd 5 _ rfl
      obtain ⟨B5, d5, rfl⟩ := q5.form
      have T5 := Lib.hid q5
      clear q5
      have d_5 : wr.cell? ⟨bd, offd + k * 6 + 5, none⟩ = some (.slice B5 z5.length d5) := (hb.cell (p := ⟨bd, _, none⟩) hbld).trans (by simpa using e5)
      clear e5
      clear hcc hcd
      go_wp2_with fail
      go_still_tail 8, (by kernel_rfl)
      have hbd : Below w.heap.size w wr.drew := hb.drew
      change wpList _ _ _ _ _ wr.drew
      generalize wr.drew = wd at *
      go_wp2_with (go_at_call 44; refine (HE2.out [.string z0, .slice A1 z1.length c1, .slice A2 z2.length c2, .slice A3 z3.length c3, .bool z4, .slice A5 z5.length c5] [.string z0, .slice B1 z1.length d1, .slice B2 z2.length d2, .slice B3 z3.length d3, .bool z4, .slice B5 z5.length d5] _ (by rw [FFunc.c_eq]; exact (RdVs.cons (by unfold RdC; rfl) (RdVs.cons (R1.out.on hbd (Nat.le_refl _) hbd.size) (RdVs.cons (R2.out.on hbd (Nat.le_refl _) hbd.size) (RdVs.cons (R3.out.on hbd (Nat.le_refl _) hbd.size) (RdVs.cons (by unfold RdC; rfl) (RdVs.cons (R5.out.on hbd (Nat.le_refl _) hbd.size) (RdVs.nil _ _)))))))) (by rw [FFunc.c_eq]; exact (RdVs.cons (by unfold RdC; rfl) (RdVs.cons (T1.out.on hbd (Nat.le_refl _) hbd.size) (RdVs.cons (T2.out.on hbd (Nat.le_refl _) hbd.size) (RdVs.cons (T3.out.on hbd (Nat.le_refl _) hbd.size) (RdVs.cons (by unfold RdC; rfl) (RdVs.cons (T5.out.on hbd (Nat.le_refl _) hbd.size) (RdVs.nil _ _))))))))).mono ?_; rintro e w2 ⟨rfl, hb2⟩)
      go_roundw
      case rel => exact ⟨k + 1, by omega, by go_num, hbd.trans (hb2.mono hbd.size)⟩
      case measure => simp [intOf]; omega
    · obtain rfl : k = l.length := by omega
      clear hlt
      go_wp2_with fail
      go_ret
      exact ⟨rfl, hb⟩
theorem eqFunc_any (x : FFunc) (hw : x.wt ≤ 1000000000) : EqFunc x := by
  obtain ⟨z0, z1, z2, z3, z4, z5⟩ := x
  exact eqFunc_of z0 z1 z2 z3 z4 z5 (eqParamS_any z1 (by rw [FFunc.wt_eq] at hw; omega)) (eqParamS_any z2 (by rw [FFunc.wt_eq] at hw; omega)) (eqStringS_any z3 (by rw [FFunc.wt_eq] at hw; omega)) (eqInsS_any z5 (by rw [FFunc.wt_eq] at hw; omega))
theorem eqFuncS_any (l : List FFunc) (hw : l.length + FFunc.wts l ≤ 1000000000) : EqFuncS l := (eqFuncS_of l (by omega) (fun x hx => eqFunc_any x (by have := FFunc.wts_at l x hx; omega)))
def EqMethod (x : FMethod) : Prop := ∀ (us vs : List Value) (w : World), RdVs w w.heap.size x.c us → RdVs w w.heap.size x.c vs → Calls Tryz.prog 104 #[.agg us.toArray, .agg vs.toArray] w fun e w' => e = .returned (.bool true) ∧ Below w.heap.size w w'
def EqMethodS (l : List FMethod) : Prop := ∀ (u v : Value) (w : World), RdC w w.heap.size (.s 57 5 l.length (FMethod.flat l)) u → RdC w w.heap.size (.s 57 5 l.length (FMethod.flat l)) v → Calls Tryz.prog 81 #[u, v] w fun e w' => e = .returned (.bool true) ∧ Below w.heap.size w w'
set_option maxHeartbeats 1000000 in
theorem eqMethod_of (z0 : ByteArray) (z1 : ByteArray) (z2 : ByteArray) (z3 : Bool) (z4 : Bool)  : EqMethod ⟨z0, z1, z2, z3, z4⟩ := by
  intro us vs w hr hs
  rw [FMethod.c_eq] at hr hs
  obtain ⟨us0, rfl, hr_0⟩ := hr.unv
  obtain ⟨us1, rfl, hr_1⟩ := hr_0.unv
  obtain ⟨us2, rfl, hr_2⟩ := hr_1.unv
  obtain ⟨us3, rfl, hr_3⟩ := hr_2.unv
  obtain ⟨us4, rfl, hr_4⟩ := hr_3.unv
  obtain rfl := hr_4.un0
  obtain ⟨vs0, rfl, hs_0⟩ := hs.unv
  obtain ⟨vs1, rfl, hs_1⟩ := hs_0.unv
  obtain ⟨vs2, rfl, hs_2⟩ := hs_1.unv
  obtain ⟨vs3, rfl, hs_3⟩ := hs_2.unv
  obtain ⟨vs4, rfl, hs_4⟩ := hs_3.unv
  obtain rfl := hs_4.un0
  clear hr hs hr_0 hs_0 hr_1 hs_1 hr_2 hs_2 hr_3 hs_3 hr_4 hs_4
  go_enter Tryz.func104, Tryz.ntmps104
  go_wp2_with fail
  go_ret
  exact ⟨rfl, by repeat (first | exact Below.refl _ _ | (refine Below.alloc ?_ (by simp; try omega) _))⟩
set_option maxHeartbeats 1000000 in
theorem eqMethodS_of (l : List FMethod) (hl : l.length ≤ 1000000000) (he : ∀ x, x ∈ l → EqMethod x) : EqMethodS l := by
  intro u v w hu hv
  obtain ⟨A, c, rfl⟩ := hu.form
  obtain ⟨A', c', rfl⟩ := hv.form
  have HC := Lib.hid hu
  have HD := Lib.hid hv
  have hn : l.length ≤ 9223372036854775807 := by omega
  have HE := Lib.hid he
  clear he
  clear hu hv
  go_enter Tryz.func81, Tryz.ntmps81
  go_wp2
  go_loopw [5] (fun i wr => ∃ k : Nat, k ≤ l.length ∧ i = .int .i64 k ∧ Below w.heap.size w wr) (fun i _ => l.length - (intOf i).toNat)
  case atStart => exact ⟨0, Nat.zero_le _, rfl, Below.refl _ _⟩
  case round =>
    obtain ⟨k, hk, rfl, hb⟩ := hrel
    by_cases hlt : k < l.length
    · obtain ⟨x, hx⟩ : ∃ x, l[k]? = some x := ⟨_, List.getElem?_eq_getElem hlt⟩
      obtain ⟨bc, offc, rfl, hblc, hcc⟩ := RdC.at_ FMethod.len HC.out hx
      obtain ⟨bd, offd, rfl, hbld, hcd⟩ := RdC.at_ FMethod.len HD.out hx
      have HE2 := Lib.hid (HE.out x (List.mem_of_getElem? hx))
      clear hx
      obtain ⟨z0, z1, z2, z3, z4⟩ := x
      rw [FMethod.c_eq] at hcc hcd
      obtain ⟨u0, e0, q0⟩ := hcc 0 _ rfl
      obtain rfl := q0.val
      clear q0
      have c_0 : wr.cell? ⟨bc, offc + k * 5, none⟩ = some (.string z0) := (hb.cell (p := ⟨bc, _, none⟩) hblc).trans (by simpa using e0)
      clear e0
      obtain ⟨u1, e1, q1⟩ := hcc 1 _ rfl
      obtain rfl := q1.val
      clear q1
      have c_1 : wr.cell? ⟨bc, offc + k * 5 + 1, none⟩ = some (.string z1) := (hb.cell (p := ⟨bc, _, none⟩) hblc).trans (by simpa using e1)
      clear e1
      obtain ⟨u2, e2, q2⟩ := hcc 2 _ rfl
      obtain rfl := q2.val
      clear q2
      have c_2 : wr.cell? ⟨bc, offc + k * 5 + 2, none⟩ = some (.string z2) := (hb.cell (p := ⟨bc, _, none⟩) hblc).trans (by simpa using e2)
      clear e2
      obtain ⟨u3, e3, q3⟩ := hcc 3 _ rfl
      obtain rfl := q3.val
      clear q3
      have c_3 : wr.cell? ⟨bc, offc + k * 5 + 3, none⟩ = some (.bool z3) := (hb.cell (p := ⟨bc, _, none⟩) hblc).trans (by simpa using e3)
      clear e3
      obtain ⟨u4, e4, q4⟩ := hcc 4 _ rfl
      obtain rfl := q4.val
      clear q4
      have c_4 : wr.cell? ⟨bc, offc + k * 5 + 4, none⟩ = some (.bool z4) := (hb.cell (p := ⟨bc, _, none⟩) hblc).trans (by simpa using e4)
      clear e4
      obtain ⟨u0, e0, q0⟩ := hcd 0 _ rfl
      obtain rfl := q0.val
      clear q0
      have d_0 : wr.cell? ⟨bd, offd + k * 5, none⟩ = some (.string z0) := (hb.cell (p := ⟨bd, _, none⟩) hbld).trans (by simpa using e0)
      clear e0
      obtain ⟨u1, e1, q1⟩ := hcd 1 _ rfl
      obtain rfl := q1.val
      clear q1
      have d_1 : wr.cell? ⟨bd, offd + k * 5 + 1, none⟩ = some (.string z1) := (hb.cell (p := ⟨bd, _, none⟩) hbld).trans (by simpa using e1)
      clear e1
      obtain ⟨u2, e2, q2⟩ := hcd 2 _ rfl
      obtain rfl := q2.val
      clear q2
      have d_2 : wr.cell? ⟨bd, offd + k * 5 + 2, none⟩ = some (.string z2) := (hb.cell (p := ⟨bd, _, none⟩) hbld).trans (by simpa using e2)
      clear e2
      obtain ⟨u3, e3, q3⟩ := hcd 3 _ rfl
      obtain rfl := q3.val
      clear q3
      have d_3 : wr.cell? ⟨bd, offd + k * 5 + 3, none⟩ = some (.bool z3) := (hb.cell (p := ⟨bd, _, none⟩) hbld).trans (by simpa using e3)
      clear e3
      obtain ⟨u4, e4, q4⟩ := hcd 4 _ rfl
      obtain rfl := q4.val
      clear q4
      have d_4 : wr.cell? ⟨bd, offd + k * 5 + 4, none⟩ = some (.bool z4) := (hb.cell (p := ⟨bd, _, none⟩) hbld).trans (by simpa using e4)
      clear e4
      clear hcc hcd
      go_wp2_with fail
      go_still_tail 8, (by kernel_rfl)
      have hbd : Below w.heap.size w wr.drew := hb.drew
      change wpList _ _ _ _ _ wr.drew
      generalize wr.drew = wd at *
      go_wp2_with (go_at_call 104; refine (HE2.out [.string z0, .string z1, .string z2, .bool z3, .bool z4] [.string z0, .string z1, .string z2, .bool z3, .bool z4] _ (by rw [FMethod.c_eq]; exact (RdVs.cons (by unfold RdC; rfl) (RdVs.cons (by unfold RdC; rfl) (RdVs.cons (by unfold RdC; rfl) (RdVs.cons (by unfold RdC; rfl) (RdVs.cons (by unfold RdC; rfl) (RdVs.nil _ _))))))) (by rw [FMethod.c_eq]; exact (RdVs.cons (by unfold RdC; rfl) (RdVs.cons (by unfold RdC; rfl) (RdVs.cons (by unfold RdC; rfl) (RdVs.cons (by unfold RdC; rfl) (RdVs.cons (by unfold RdC; rfl) (RdVs.nil _ _)))))))).mono ?_; rintro e w2 ⟨rfl, hb2⟩)
      go_roundw
      case rel => exact ⟨k + 1, by omega, by go_num, hbd.trans (hb2.mono hbd.size)⟩
      case measure => simp [intOf]; omega
    · obtain rfl : k = l.length := by omega
      clear hlt
      go_wp2_with fail
      go_ret
      exact ⟨rfl, hb⟩
theorem eqMethod_any (x : FMethod) (hw : x.wt ≤ 1000000000) : EqMethod x := by
  obtain ⟨z0, z1, z2, z3, z4⟩ := x
  exact eqMethod_of z0 z1 z2 z3 z4 
theorem eqMethodS_any (l : List FMethod) (hw : l.length + FMethod.wts l ≤ 1000000000) : EqMethodS l := (eqMethodS_of l (by omega) (fun x hx => eqMethod_any x (by have := FMethod.wts_at l x hx; omega)))
def EqField (x : FField) : Prop := ∀ (us vs : List Value) (w : World), RdVs w w.heap.size x.c us → RdVs w w.heap.size x.c vs → Calls Tryz.prog 103 #[.agg us.toArray, .agg vs.toArray] w fun e w' => e = .returned (.bool true) ∧ Below w.heap.size w w'
def EqFieldS (l : List FField) : Prop := ∀ (u v : Value) (w : World), RdC w w.heap.size (.s 45 8 l.length (FField.flat l)) u → RdC w w.heap.size (.s 45 8 l.length (FField.flat l)) v → Calls Tryz.prog 80 #[u, v] w fun e w' => e = .returned (.bool true) ∧ Below w.heap.size w w'
set_option maxHeartbeats 1000000 in
theorem eqField_of (z0 : ByteArray) (z1 : ByteArray) (z2 : Bool) (z3 : Int) (z4 : Int) (z5 : ByteArray) (z6 : Int) (z7 : List FEntry) (h3 : EqValue ⟨z3, z4, z5, z6, z7⟩) : EqField ⟨z0, z1, z2, ⟨z3, z4, z5, z6, z7⟩⟩ := by
  intro us vs w hr hs
  rw [FField.c_eq] at hr hs
  obtain ⟨us0, rfl, hr_0⟩ := hr.unv
  obtain ⟨us1, rfl, hr_1⟩ := hr_0.unv
  obtain ⟨us2, rfl, hr_2⟩ := hr_1.unv
  obtain ⟨us3, rfl, hr_3⟩ := hr_2.unv
  obtain ⟨us4, rfl, hr_4⟩ := hr_3.unv
  obtain ⟨us5, rfl, hr_5⟩ := hr_4.unv
  obtain ⟨us6, rfl, hr_6⟩ := hr_5.unv
  obtain ⟨A7, c7, us7, rfl, r7, hr_7⟩ := hr_6.uns
  obtain rfl := hr_7.un0
  obtain ⟨vs0, rfl, hs_0⟩ := hs.unv
  obtain ⟨vs1, rfl, hs_1⟩ := hs_0.unv
  obtain ⟨vs2, rfl, hs_2⟩ := hs_1.unv
  obtain ⟨vs3, rfl, hs_3⟩ := hs_2.unv
  obtain ⟨vs4, rfl, hs_4⟩ := hs_3.unv
  obtain ⟨vs5, rfl, hs_5⟩ := hs_4.unv
  obtain ⟨vs6, rfl, hs_6⟩ := hs_5.unv
  obtain ⟨B7, d7, vs7, rfl, t7, hs_7⟩ := hs_6.uns
  obtain rfl := hs_7.un0
  clear hr hs hr_0 hs_0 hr_1 hs_1 hr_2 hs_2 hr_3 hs_3 hr_4 hs_4 hr_5 hs_5 hr_6 hs_6 hr_7 hs_7
  have R7 := Lib.hid r7
  have T7 := Lib.hid t7
  clear r7 t7
  have H3 := Lib.hid h3
  clear h3
  go_enter Tryz.func103, Tryz.ntmps103
  go_wp2_with fail
  refine calls_worldD _ (fun X => Blk X w.heap.size 45 #[.string z0, .string z1, .bool z2, .int .i64 z3, .int .i64 z4, .string z5, .int .i64 z6, .slice A7 z7.length c7] ∧ Blk X (w.heap.size + 1) 45 #[.string z0, .string z1, .bool z2, .int .i64 z3, .int .i64 z4, .string z5, .int .i64 z6, .slice B7 z7.length d7] ∧ Below w.heap.size w X) ⟨(Blk.new w _ _).alloc _, Blk.new' (w.alloc _) _ _ _ (by simp), ((Below.refl _ _).alloc (Nat.le_refl _) _).alloc (by simp) _⟩ ?_
  rintro X0 ⟨ba, bb, hB⟩
  have s0 := bb.lt
  refine (H3.out [.int .i64 z3, .int .i64 z4, .string z5, .int .i64 z6, .slice A7 z7.length c7] [.int .i64 z3, .int .i64 z4, .string z5, .int .i64 z6, .slice B7 z7.length d7] _ (by rw [FValue.c_eq]; exact (RdVs.cons (by unfold RdC; rfl) (RdVs.cons (by unfold RdC; rfl) (RdVs.cons (by unfold RdC; rfl) (RdVs.cons (by unfold RdC; rfl) (RdVs.cons (R7.out.on hB (Nat.le_refl _) (by omega)) (RdVs.nil _ _))))))) (by rw [FValue.c_eq]; exact (RdVs.cons (by unfold RdC; rfl) (RdVs.cons (by unfold RdC; rfl) (RdVs.cons (by unfold RdC; rfl) (RdVs.cons (by unfold RdC; rfl) (RdVs.cons (T7.out.on hB (Nat.le_refl _) (by omega)) (RdVs.nil _ _)))))))).mono ?_
  rintro e Y0 ⟨rfl, hb⟩
  replace ba := ba.below hb (Nat.le_refl _)
  replace bb := bb.below hb (Nat.le_refl _)
  replace hB := hB.trans (hb.mono (by omega))
  clear hb
  have ba_l := ba.lt
  have bb_l := bb.lt
  go_wp2_with fail
  go_ret
  exact ⟨rfl, hB⟩
set_option maxHeartbeats 1000000 in
theorem eqFieldS_of (l : List FField) (hl : l.length ≤ 1000000000) (he : ∀ x, x ∈ l → EqField x) : EqFieldS l := by
  intro u v w hu hv
  obtain ⟨A, c, rfl⟩ := hu.form
  obtain ⟨A', c', rfl⟩ := hv.form
  have HC := Lib.hid hu
  have HD := Lib.hid hv
  have hn : l.length ≤ 9223372036854775807 := by omega
  have HE := Lib.hid he
  clear he
  clear hu hv
  go_enter Tryz.func80, Tryz.ntmps80
  go_wp2
  go_loopw [5] (fun i wr => ∃ k : Nat, k ≤ l.length ∧ i = .int .i64 k ∧ Below w.heap.size w wr) (fun i _ => l.length - (intOf i).toNat)
  case atStart => exact ⟨0, Nat.zero_le _, rfl, Below.refl _ _⟩
  case round =>
    obtain ⟨k, hk, rfl, hb⟩ := hrel
    by_cases hlt : k < l.length
    · obtain ⟨x, hx⟩ : ∃ x, l[k]? = some x := ⟨_, List.getElem?_eq_getElem hlt⟩
      obtain ⟨bc, offc, rfl, hblc, hcc⟩ := RdC.at_ FField.len HC.out hx
      obtain ⟨bd, offd, rfl, hbld, hcd⟩ := RdC.at_ FField.len HD.out hx
      have HE2 := Lib.hid (HE.out x (List.mem_of_getElem? hx))
      clear hx
      obtain ⟨z0, z1, z2, ⟨z3, z4, z5, z6, z7⟩⟩ := x
      rw [FField.c_eq] at hcc hcd
      obtain ⟨u0, e0, q0⟩ := hcc 0 _ rfl
      obtain rfl := q0.val
      clear q0
      have c_0 : wr.cell? ⟨bc, offc + k * 8, none⟩ = some (.string z0) := (hb.cell (p := ⟨bc, _, none⟩) hblc).trans (by simpa using e0)
      clear e0
      obtain ⟨u1, e1, q1⟩ := hcc 1 _ rfl
      obtain rfl := q1.val
      clear q1
      have c_1 : wr.cell? ⟨bc, offc + k * 8 + 1, none⟩ = some (.string z1) := (hb.cell (p := ⟨bc, _, none⟩) hblc).trans (by simpa using e1)
      clear e1
      obtain ⟨u2, e2, q2⟩ := hcc 2 _ rfl
      obtain rfl := q2.val
      clear q2
      have c_2 : wr.cell? ⟨bc, offc + k * 8 + 2, none⟩ = some (.bool z2) := (hb.cell (p := ⟨bc, _, none⟩) hblc).trans (by simpa using e2)
      clear e2
      obtain ⟨u3, e3, q3⟩ := hcc 3 _ rfl
      obtain rfl := q3.val
      clear q3
      have c_3 : wr.cell? ⟨bc, offc + k * 8 + 3, none⟩ = some (.int .i64 z3) := (hb.cell (p := ⟨bc, _, none⟩) hblc).trans (by simpa using e3)
      clear e3
      obtain ⟨u4, e4, q4⟩ := hcc 4 _ rfl
      obtain rfl := q4.val
      clear q4
      have c_4 : wr.cell? ⟨bc, offc + k * 8 + 4, none⟩ = some (.int .i64 z4) := (hb.cell (p := ⟨bc, _, none⟩) hblc).trans (by simpa using e4)
      clear e4
      obtain ⟨u5, e5, q5⟩ := hcc 5 _ rfl
      obtain rfl := q5.val
      clear q5
      have c_5 : wr.cell? ⟨bc, offc + k * 8 + 5, none⟩ = some (.string z5) := (hb.cell (p := ⟨bc, _, none⟩) hblc).trans (by simpa using e5)
      clear e5
      obtain ⟨u6, e6, q6⟩ := hcc 6 _ rfl
      obtain rfl := q6.val
      clear q6
      have c_6 : wr.cell? ⟨bc, offc + k * 8 + 6, none⟩ = some (.int .i64 z6) := (hb.cell (p := ⟨bc, _, none⟩) hblc).trans (by simpa using e6)
      clear e6
      obtain ⟨u7, e7, q7⟩ := hcc 7 _ rfl
      obtain ⟨A7, c7, rfl⟩ := q7.form
      have R7 := Lib.hid q7
      clear q7
      have c_7 : wr.cell? ⟨bc, offc + k * 8 + 7, none⟩ = some (.slice A7 z7.length c7) := (hb.cell (p := ⟨bc, _, none⟩) hblc).trans (by simpa using e7)
      clear e7
      obtain ⟨u0, e0, q0⟩ := hcd 0 _ rfl
      obtain rfl := q0.val
      clear q0
      have d_0 : wr.cell? ⟨bd, offd + k * 8, none⟩ = some (.string z0) := (hb.cell (p := ⟨bd, _, none⟩) hbld).trans (by simpa using e0)
      clear e0
      obtain ⟨u1, e1, q1⟩ := hcd 1 _ rfl
      obtain rfl := q1.val
      clear q1
      have d_1 : wr.cell? ⟨bd, offd + k * 8 + 1, none⟩ = some (.string z1) := (hb.cell (p := ⟨bd, _, none⟩) hbld).trans (by simpa using e1)
      clear e1
      obtain ⟨u2, e2, q2⟩ := hcd 2 _ rfl
      obtain rfl := q2.val
      clear q2
      have d_2 : wr.cell? ⟨bd, offd + k * 8 + 2, none⟩ = some (.bool z2) := (hb.cell (p := ⟨bd, _, none⟩) hbld).trans (by simpa using e2)
      clear e2
      obtain ⟨u3, e3, q3⟩ := hcd 3 _ rfl
      obtain rfl := q3.val
      clear q3
      have d_3 : wr.cell? ⟨bd, offd + k * 8 + 3, none⟩ = some (.int .i64 z3) := (hb.cell (p := ⟨bd, _, none⟩) hbld).trans (by simpa using e3)
      clear e3
      obtain ⟨u4, e4, q4⟩ := hcd 4 _ rfl
      obtain rfl := q4.val
      clear q4
      have d_4 : wr.cell? ⟨bd, offd + k * 8 + 4, none⟩ = some (.int .i64 z4) := (hb.cell (p := ⟨bd, _, none⟩) hbld).trans (by simpa using e4)
      clear e4
      obtain ⟨u5, e5, q5⟩ := hcd 5 _ rfl
      obtain rfl := q5.val
      clear q5
      have d_5 : wr.cell? ⟨bd, offd + k * 8 + 5, none⟩ = some (.string z5) := (hb.cell (p := ⟨bd, _, none⟩) hbld).trans (by simpa using e5)
      clear e5
      obtain ⟨u6, e6, q6⟩ := hcd 6 _ rfl
      obtain rfl := q6.val
      clear q6
      have d_6 : wr.cell? ⟨bd, offd + k * 8 + 6, none⟩ = some (.int .i64 z6) := (hb.cell (p := ⟨bd, _, none⟩) hbld).trans (by simpa using e6)
      clear e6
      obtain ⟨u7, e7, q7⟩ := hcd 7 _ rfl
      obtain ⟨B7, d7, rfl⟩ := q7.form
      have T7 := Lib.hid q7
      clear q7
      have d_7 : wr.cell? ⟨bd, offd + k * 8 + 7, none⟩ = some (.slice B7 z7.length d7) := (hb.cell (p := ⟨bd, _, none⟩) hbld).trans (by simpa using e7)
      clear e7
      clear hcc hcd
      go_wp2_with fail
      go_still_tail 8, (by kernel_rfl)
      have hbd : Below w.heap.size w wr.drew := hb.drew
      change wpList _ _ _ _ _ wr.drew
      generalize wr.drew = wd at *
      go_wp2_with (go_at_call 103; refine (HE2.out [.string z0, .string z1, .bool z2, .int .i64 z3, .int .i64 z4, .string z5, .int .i64 z6, .slice A7 z7.length c7] [.string z0, .string z1, .bool z2, .int .i64 z3, .int .i64 z4, .string z5, .int .i64 z6, .slice B7 z7.length d7] _ (by rw [FField.c_eq]; exact (RdVs.cons (by unfold RdC; rfl) (RdVs.cons (by unfold RdC; rfl) (RdVs.cons (by unfold RdC; rfl) (RdVs.cons (by unfold RdC; rfl) (RdVs.cons (by unfold RdC; rfl) (RdVs.cons (by unfold RdC; rfl) (RdVs.cons (by unfold RdC; rfl) (RdVs.cons (R7.out.on hbd (Nat.le_refl _) hbd.size) (RdVs.nil _ _)))))))))) (by rw [FField.c_eq]; exact (RdVs.cons (by unfold RdC; rfl) (RdVs.cons (by unfold RdC; rfl) (RdVs.cons (by unfold RdC; rfl) (RdVs.cons (by unfold RdC; rfl) (RdVs.cons (by unfold RdC; rfl) (RdVs.cons (by unfold RdC; rfl) (RdVs.cons (by unfold RdC; rfl) (RdVs.cons (T7.out.on hbd (Nat.le_refl _) hbd.size) (RdVs.nil _ _))))))))))).mono ?_; rintro e w2 ⟨rfl, hb2⟩)
      go_roundw
      case rel => exact ⟨k + 1, by omega, by go_num, hbd.trans (hb2.mono hbd.size)⟩
      case measure => simp [intOf]; omega
    · obtain rfl : k = l.length := by omega
      clear hlt
      go_wp2_with fail
      go_ret
      exact ⟨rfl, hb⟩
theorem eqField_any (x : FField) (hw : x.wt ≤ 1000000000) : EqField x := by
  obtain ⟨z0, z1, z2, ⟨z3, z4, z5, z6, z7⟩⟩ := x
  exact eqField_of z0 z1 z2 z3 z4 z5 z6 z7 (eqValue_any _ (by rw [FField.wt_eq] at hw; rw [FValue.wt_eq]; omega))
theorem eqFieldS_any (l : List FField) (hw : l.length + FField.wts l ≤ 1000000000) : EqFieldS l := (eqFieldS_of l (by omega) (fun x hx => eqField_any x (by have := FField.wts_at l x hx; omega)))
def EqClass (x : FClass) : Prop := ∀ (us vs : List Value) (w : World), RdVs w w.heap.size x.c us → RdVs w w.heap.size x.c vs → Calls Tryz.prog 45 #[.agg us.toArray, .agg vs.toArray] w fun e w' => e = .returned (.bool true) ∧ Below w.heap.size w w'
def EqClassS (l : List FClass) : Prop := ∀ (u v : Value) (w : World), RdC w w.heap.size (.s 40 4 l.length (FClass.flat l)) u → RdC w w.heap.size (.s 40 4 l.length (FClass.flat l)) v → Calls Tryz.prog 25 #[u, v] w fun e w' => e = .returned (.bool true) ∧ Below w.heap.size w w'
set_option maxHeartbeats 1000000 in
theorem eqClass_of (z0 : ByteArray) (z1 : ByteArray) (z2 : List FField) (z3 : List FMethod) (h2 : EqFieldS z2) (h3 : EqMethodS z3) : EqClass ⟨z0, z1, z2, z3⟩ := by
  intro us vs w hr hs
  rw [FClass.c_eq] at hr hs
  obtain ⟨us0, rfl, hr_0⟩ := hr.unv
  obtain ⟨us1, rfl, hr_1⟩ := hr_0.unv
  obtain ⟨A2, c2, us2, rfl, r2, hr_2⟩ := hr_1.uns
  obtain ⟨A3, c3, us3, rfl, r3, hr_3⟩ := hr_2.uns
  obtain rfl := hr_3.un0
  obtain ⟨vs0, rfl, hs_0⟩ := hs.unv
  obtain ⟨vs1, rfl, hs_1⟩ := hs_0.unv
  obtain ⟨B2, d2, vs2, rfl, t2, hs_2⟩ := hs_1.uns
  obtain ⟨B3, d3, vs3, rfl, t3, hs_3⟩ := hs_2.uns
  obtain rfl := hs_3.un0
  clear hr hs hr_0 hs_0 hr_1 hs_1 hr_2 hs_2 hr_3 hs_3
  have R2 := Lib.hid r2
  have T2 := Lib.hid t2
  clear r2 t2
  have R3 := Lib.hid r3
  have T3 := Lib.hid t3
  clear r3 t3
  have H2 := Lib.hid h2
  clear h2
  have H3 := Lib.hid h3
  clear h3
  go_enter Tryz.func45, Tryz.ntmps45
  go_wp2_with fail
  refine calls_worldD _ (fun X => Blk X w.heap.size 40 #[.string z0, .string z1, .slice A2 z2.length c2, .slice A3 z3.length c3] ∧ Blk X (w.heap.size + 1) 40 #[.string z0, .string z1, .slice B2 z2.length d2, .slice B3 z3.length d3] ∧ Below w.heap.size w X) ⟨(Blk.new w _ _).alloc _, Blk.new' (w.alloc _) _ _ _ (by simp), ((Below.refl _ _).alloc (Nat.le_refl _) _).alloc (by simp) _⟩ ?_
  rintro X0 ⟨ba, bb, hB⟩
  have s0 := bb.lt
  refine (H2.out _ _ _ (R2.out.on hB (Nat.le_refl _) (by omega)) (T2.out.on hB (Nat.le_refl _) (by omega))).mono ?_
  rintro e Y0 ⟨rfl, hb⟩
  replace ba := ba.below hb (Nat.le_refl _)
  replace bb := bb.below hb (Nat.le_refl _)
  replace hB := hB.trans (hb.mono (by omega))
  clear hb
  have ba_3 : Y0.cell? ⟨w.heap.size, 3, none⟩ = some (.slice A3 z3.length c3) := ba.cell 3
  have ba_l := ba.lt
  have bb_3 : Y0.cell? ⟨w.heap.size + 1, 3, none⟩ = some (.slice B3 z3.length d3) := bb.cell 3
  have bb_l := bb.lt
  go_wp2_with fail
  clear ba_3 bb_3 ba_l bb_l
  refine calls_worldD _ (fun X => Blk X w.heap.size 40 #[.string z0, .string z1, .slice A2 z2.length c2, .slice A3 z3.length c3] ∧ Blk X (w.heap.size + 1) 40 #[.string z0, .string z1, .slice B2 z2.length d2, .slice B3 z3.length d3] ∧ Below w.heap.size w X) ⟨ba, bb, hB⟩ ?_
  clear ba bb hB
  rintro X1 ⟨ba, bb, hB⟩
  have s1 := bb.lt
  refine (H3.out _ _ _ (R3.out.on hB (Nat.le_refl _) (by omega)) (T3.out.on hB (Nat.le_refl _) (by omega))).mono ?_
  rintro e Y1 ⟨rfl, hb⟩
  replace ba := ba.below hb (Nat.le_refl _)
  replace bb := bb.below hb (Nat.le_refl _)
  replace hB := hB.trans (hb.mono (by omega))
  clear hb
  have ba_l := ba.lt
  have bb_l := bb.lt
  go_wp2_with fail
  go_ret
  exact ⟨rfl, hB⟩
set_option maxHeartbeats 1000000 in
theorem eqClassS_of (l : List FClass) (hl : l.length ≤ 1000000000) (he : ∀ x, x ∈ l → EqClass x) : EqClassS l := by
  intro u v w hu hv
  obtain ⟨A, c, rfl⟩ := hu.form
  obtain ⟨A', c', rfl⟩ := hv.form
  have HC := Lib.hid hu
  have HD := Lib.hid hv
  have hn : l.length ≤ 9223372036854775807 := by omega
  have HE := Lib.hid he
  clear he
  clear hu hv
  go_enter Tryz.func25, Tryz.ntmps25
  go_wp2
  go_loopw [5] (fun i wr => ∃ k : Nat, k ≤ l.length ∧ i = .int .i64 k ∧ Below w.heap.size w wr) (fun i _ => l.length - (intOf i).toNat)
  case atStart => exact ⟨0, Nat.zero_le _, rfl, Below.refl _ _⟩
  case round =>
    obtain ⟨k, hk, rfl, hb⟩ := hrel
    by_cases hlt : k < l.length
    · obtain ⟨x, hx⟩ : ∃ x, l[k]? = some x := ⟨_, List.getElem?_eq_getElem hlt⟩
      obtain ⟨bc, offc, rfl, hblc, hcc⟩ := RdC.at_ FClass.len HC.out hx
      obtain ⟨bd, offd, rfl, hbld, hcd⟩ := RdC.at_ FClass.len HD.out hx
      have HE2 := Lib.hid (HE.out x (List.mem_of_getElem? hx))
      clear hx
      obtain ⟨z0, z1, z2, z3⟩ := x
      rw [FClass.c_eq] at hcc hcd
      obtain ⟨u0, e0, q0⟩ := hcc 0 _ rfl
      obtain rfl := q0.val
      clear q0
      have c_0 : wr.cell? ⟨bc, offc + k * 4, none⟩ = some (.string z0) := (hb.cell (p := ⟨bc, _, none⟩) hblc).trans (by simpa using e0)
      clear e0
      obtain ⟨u1, e1, q1⟩ := hcc 1 _ rfl
      obtain rfl := q1.val
      clear q1
      have c_1 : wr.cell? ⟨bc, offc + k * 4 + 1, none⟩ = some (.string z1) := (hb.cell (p := ⟨bc, _, none⟩) hblc).trans (by simpa using e1)
      clear e1
      obtain ⟨u2, e2, q2⟩ := hcc 2 _ rfl
      obtain ⟨A2, c2, rfl⟩ := q2.form
      have R2 := Lib.hid q2
      clear q2
      have c_2 : wr.cell? ⟨bc, offc + k * 4 + 2, none⟩ = some (.slice A2 z2.length c2) := (hb.cell (p := ⟨bc, _, none⟩) hblc).trans (by simpa using e2)
      clear e2
      obtain ⟨u3, e3, q3⟩ := hcc 3 _ rfl
      obtain ⟨A3, c3, rfl⟩ := q3.form
      have R3 := Lib.hid q3
      clear q3
      have c_3 : wr.cell? ⟨bc, offc + k * 4 + 3, none⟩ = some (.slice A3 z3.length c3) := (hb.cell (p := ⟨bc, _, none⟩) hblc).trans (by simpa using e3)
      clear e3
      obtain ⟨u0, e0, q0⟩ := hcd 0 _ rfl
      obtain rfl := q0.val
      clear q0
      have d_0 : wr.cell? ⟨bd, offd + k * 4, none⟩ = some (.string z0) := (hb.cell (p := ⟨bd, _, none⟩) hbld).trans (by simpa using e0)
      clear e0
      obtain ⟨u1, e1, q1⟩ := hcd 1 _ rfl
      obtain rfl := q1.val
      clear q1
      have d_1 : wr.cell? ⟨bd, offd + k * 4 + 1, none⟩ = some (.string z1) := (hb.cell (p := ⟨bd, _, none⟩) hbld).trans (by simpa using e1)
      clear e1
      obtain ⟨u2, e2, q2⟩ := hcd 2 _ rfl
      obtain ⟨B2, d2, rfl⟩ := q2.form
      have T2 := Lib.hid q2
      clear q2
      have d_2 : wr.cell? ⟨bd, offd + k * 4 + 2, none⟩ = some (.slice B2 z2.length d2) := (hb.cell (p := ⟨bd, _, none⟩) hbld).trans (by simpa using e2)
      clear e2
      obtain ⟨u3, e3, q3⟩ := hcd 3 _ rfl
      obtain ⟨B3, d3, rfl⟩ := q3.form
      have T3 := Lib.hid q3
      clear q3
      have d_3 : wr.cell? ⟨bd, offd + k * 4 + 3, none⟩ = some (.slice B3 z3.length d3) := (hb.cell (p := ⟨bd, _, none⟩) hbld).trans (by simpa using e3)
      clear e3
      clear hcc hcd
      go_wp2_with fail
      go_still_tail 8, (by kernel_rfl)
      have hbd : Below w.heap.size w wr.drew := hb.drew
      change wpList _ _ _ _ _ wr.drew
      generalize wr.drew = wd at *
      go_wp2_with (go_at_call 45; refine (HE2.out [.string z0, .string z1, .slice A2 z2.length c2, .slice A3 z3.length c3] [.string z0, .string z1, .slice B2 z2.length d2, .slice B3 z3.length d3] _ (by rw [FClass.c_eq]; exact (RdVs.cons (by unfold RdC; rfl) (RdVs.cons (by unfold RdC; rfl) (RdVs.cons (R2.out.on hbd (Nat.le_refl _) hbd.size) (RdVs.cons (R3.out.on hbd (Nat.le_refl _) hbd.size) (RdVs.nil _ _)))))) (by rw [FClass.c_eq]; exact (RdVs.cons (by unfold RdC; rfl) (RdVs.cons (by unfold RdC; rfl) (RdVs.cons (T2.out.on hbd (Nat.le_refl _) hbd.size) (RdVs.cons (T3.out.on hbd (Nat.le_refl _) hbd.size) (RdVs.nil _ _))))))).mono ?_; rintro e w2 ⟨rfl, hb2⟩)
      go_roundw
      case rel => exact ⟨k + 1, by omega, by go_num, hbd.trans (hb2.mono hbd.size)⟩
      case measure => simp [intOf]; omega
    · obtain rfl : k = l.length := by omega
      clear hlt
      go_wp2_with fail
      go_ret
      exact ⟨rfl, hb⟩
theorem eqClass_any (x : FClass) (hw : x.wt ≤ 1000000000) : EqClass x := by
  obtain ⟨z0, z1, z2, z3⟩ := x
  exact eqClass_of z0 z1 z2 z3 (eqFieldS_any z2 (by rw [FClass.wt_eq] at hw; omega)) (eqMethodS_any z3 (by rw [FClass.wt_eq] at hw; omega))
theorem eqClassS_any (l : List FClass) (hw : l.length + FClass.wts l ≤ 1000000000) : EqClassS l := (eqClassS_of l (by omega) (fun x hx => eqClass_any x (by have := FClass.wts_at l x hx; omega)))
def EqProgram (x : FProgram) : Prop := ∀ (us vs : List Value) (w : World), RdVs w w.heap.size x.c us → RdVs w w.heap.size x.c vs → Calls Tryz.prog 8 #[.agg us.toArray, .agg vs.toArray] w fun e w' => e = .returned (.bool true) ∧ Below w.heap.size w w'
set_option maxHeartbeats 1000000 in
theorem eqProgram_of (z0 : List FFunc) (z1 : List FClass) (h0 : EqFuncS z0) (h1 : EqClassS z1) : EqProgram ⟨z0, z1⟩ := by
  intro us vs w hr hs
  rw [FProgram.c_eq] at hr hs
  obtain ⟨A0, c0, us0, rfl, r0, hr_0⟩ := hr.uns
  obtain ⟨A1, c1, us1, rfl, r1, hr_1⟩ := hr_0.uns
  obtain rfl := hr_1.un0
  obtain ⟨B0, d0, vs0, rfl, t0, hs_0⟩ := hs.uns
  obtain ⟨B1, d1, vs1, rfl, t1, hs_1⟩ := hs_0.uns
  obtain rfl := hs_1.un0
  clear hr hs hr_0 hs_0 hr_1 hs_1
  have R0 := Lib.hid r0
  have T0 := Lib.hid t0
  clear r0 t0
  have R1 := Lib.hid r1
  have T1 := Lib.hid t1
  clear r1 t1
  have H0 := Lib.hid h0
  clear h0
  have H1 := Lib.hid h1
  clear h1
  go_enter Tryz.func8, Tryz.ntmps8
  go_wp2_with fail
  refine calls_worldD _ (fun X => Blk X w.heap.size 31 #[.slice A0 z0.length c0, .slice A1 z1.length c1] ∧ Blk X (w.heap.size + 1) 31 #[.slice B0 z0.length d0, .slice B1 z1.length d1] ∧ Below w.heap.size w X) ⟨(Blk.new w _ _).alloc _, Blk.new' (w.alloc _) _ _ _ (by simp), ((Below.refl _ _).alloc (Nat.le_refl _) _).alloc (by simp) _⟩ ?_
  rintro X0 ⟨ba, bb, hB⟩
  have s0 := bb.lt
  refine (H0.out _ _ _ (R0.out.on hB (Nat.le_refl _) (by omega)) (T0.out.on hB (Nat.le_refl _) (by omega))).mono ?_
  rintro e Y0 ⟨rfl, hb⟩
  replace ba := ba.below hb (Nat.le_refl _)
  replace bb := bb.below hb (Nat.le_refl _)
  replace hB := hB.trans (hb.mono (by omega))
  clear hb
  have ba_1 : Y0.cell? ⟨w.heap.size, 1, none⟩ = some (.slice A1 z1.length c1) := ba.cell 1
  have ba_l := ba.lt
  have bb_1 : Y0.cell? ⟨w.heap.size + 1, 1, none⟩ = some (.slice B1 z1.length d1) := bb.cell 1
  have bb_l := bb.lt
  go_wp2_with fail
  clear ba_1 bb_1 ba_l bb_l
  refine calls_worldD _ (fun X => Blk X w.heap.size 31 #[.slice A0 z0.length c0, .slice A1 z1.length c1] ∧ Blk X (w.heap.size + 1) 31 #[.slice B0 z0.length d0, .slice B1 z1.length d1] ∧ Below w.heap.size w X) ⟨ba, bb, hB⟩ ?_
  clear ba bb hB
  rintro X1 ⟨ba, bb, hB⟩
  have s1 := bb.lt
  refine (H1.out _ _ _ (R1.out.on hB (Nat.le_refl _) (by omega)) (T1.out.on hB (Nat.le_refl _) (by omega))).mono ?_
  rintro e Y1 ⟨rfl, hb⟩
  replace ba := ba.below hb (Nat.le_refl _)
  replace bb := bb.below hb (Nat.le_refl _)
  replace hB := hB.trans (hb.mono (by omega))
  clear hb
  have ba_l := ba.lt
  have bb_l := bb.lt
  go_wp2_with fail
  go_ret
  exact ⟨rfl, hB⟩
theorem eqProgram_any (x : FProgram) (hw : x.wt ≤ 1000000000) : EqProgram x := by
  obtain ⟨z0, z1⟩ := x
  exact eqProgram_of z0 z1 (eqFuncS_any z0 (by rw [FProgram.wt_eq] at hw; omega)) (eqClassS_any z1 (by rw [FProgram.wt_eq] at hw; omega))
end Go.Proofs.YtdmbhmhfjappcaaGreatDoor
