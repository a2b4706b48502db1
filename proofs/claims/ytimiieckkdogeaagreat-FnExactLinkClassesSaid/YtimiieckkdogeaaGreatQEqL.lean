/-
  Parts of the proof: EqL. Conditions: none.
-/
import Derived.Test.YtimiieckkdogeaaGreatQGBaseNd
set_option linter.unusedVariables false
set_option linter.unusedSimpArgs false
namespace Go.Proofs.YtimiieckkdogeaaGreat
set_option maxHeartbeats 40000000
open Lib (hid)
open Go.ChangeShapes Go.WideShapes Go.ChangeAt Go.RowKit Go.Deep Go.Joins
open Go.ChangeMaps (open_string shut_string)
set_option maxRecDepth 100000
def EqKey (x : FKey) : Prop := ∀ (us vs : List Value) (w : World), RdVs w w.heap.size x.c us → RdVs w w.heap.size x.c vs → Calls Tryz.prog 167 #[.agg us.toArray, .agg vs.toArray] w fun e w' => e = .returned (.bool true) ∧ Below w.heap.size w w'
theorem eqKey_of (z0 : Bool) (z1 : Int) (z2 : ByteArray)  : EqKey ⟨z0, z1, z2⟩ := by
  intro us vs w hr hs
  rw [FKey.c_eq] at hr hs
  obtain ⟨us0, rfl, hr_0⟩ := hr.unv
  obtain ⟨us1, rfl, hr_1⟩ := hr_0.unv
  obtain ⟨us2, rfl, hr_2⟩ := hr_1.unv
  obtain rfl := hr_2.un0
  obtain ⟨vs0, rfl, hs_0⟩ := hs.unv
  obtain ⟨vs1, rfl, hs_1⟩ := hs_0.unv
  obtain ⟨vs2, rfl, hs_2⟩ := hs_1.unv
  obtain rfl := hs_2.un0
  clear hr hs hr_0 hs_0 hr_1 hs_1 hr_2 hs_2
  go_enter Tryz.func167, Tryz.ntmps167
  go_wp2_with fail
  go_ret
  exact ⟨rfl, by repeat (first | exact Below.refl _ _ | (refine Below.alloc ?_ (by simp; try omega) _))⟩
theorem eqKey_any (x : FKey) (hw : x.wt ≤ 1000000000) : EqKey x := by
  obtain ⟨z0, z1, z2⟩ := x
  exact eqKey_of z0 z1 z2 
def EqEntry (x : FEntry) : Prop := ∀ (us vs : List Value) (w : World), RdVs w w.heap.size x.c us → RdVs w w.heap.size x.c vs → Calls Tryz.prog 160 #[.agg us.toArray, .agg vs.toArray] w fun e w' => e = .returned (.bool true) ∧ Below w.heap.size w w'
def EqEntryS (l : List FEntry) : Prop := ∀ (u v : Value) (w : World), RdC w w.heap.size (.s 108 8 l.length (FEntry.flat l)) u → RdC w w.heap.size (.s 108 8 l.length (FEntry.flat l)) v → Calls Tryz.prog 135 #[u, v] w fun e w' => e = .returned (.bool true) ∧ Below w.heap.size w w'
def EqValue (x : FValue) : Prop := ∀ (us vs : List Value) (w : World), RdVs w w.heap.size x.c us → RdVs w w.heap.size x.c vs → Calls Tryz.prog 118 #[.agg us.toArray, .agg vs.toArray] w fun e w' => e = .returned (.bool true) ∧ Below w.heap.size w w'
theorem eqEntry_of (z0 : Bool) (z1 : Int) (z2 : ByteArray) (z3 : Int) (z4 : Int) (z5 : ByteArray) (z6 : Int) (z7 : List FEntry) (h0 : EqKey ⟨z0, z1, z2⟩) (h3 : EqValue ⟨z3, z4, z5, z6, z7⟩) : EqEntry ⟨⟨z0, z1, z2⟩, ⟨z3, z4, z5, z6, z7⟩⟩ := by
  intro us vs w hr hs
  rw [FEntry.c_eq] at hr hs
  obtain ⟨us0, rfl, hr_0⟩ := hr.unv
  obtain ⟨us1, rfl, hr_1⟩ := hr_0.unv
  obtain ⟨us2, rfl, hr_2⟩ := hr_1.unv
  obtain ⟨us3, rfl, hr_3⟩ := hr_2.unv
  obtain ⟨us4, rfl, hr_4⟩ := hr_3.unv
  obtain ⟨us5, rfl, hr_5⟩ := hr_4.unv
  obtain ⟨us6, rfl, hr_6⟩ := hr_5.unv
  obtain ⟨A7, c7, us7, rfl, r7, hr_7⟩ := hr_6.uns
  obtain rfl := hr_7.un0
  obtain ⟨vs0, rfl, hs_0⟩ := hs.unv
  obtain ⟨vs1, rfl, hs_1⟩ := hs_0.unv
  obtain ⟨vs2, rfl, hs_2⟩ := hs_1.unv
  obtain ⟨vs3, rfl, hs_3⟩ := hs_2.unv
  obtain ⟨vs4, rfl, hs_4⟩ := hs_3.unv
  obtain ⟨vs5, rfl, hs_5⟩ := hs_4.unv
  obtain ⟨vs6, rfl, hs_6⟩ := hs_5.unv
  obtain ⟨B7, d7, vs7, rfl, t7, hs_7⟩ := hs_6.uns
  obtain rfl := hs_7.un0
  clear hr hs hr_0 hs_0 hr_1 hs_1 hr_2 hs_2 hr_3 hs_3 hr_4 hs_4 hr_5 hs_5 hr_6 hs_6 hr_7 hs_7
  have R7 := hid r7
  have T7 := hid t7
  clear r7 t7
  have H0 := hid h0
  clear h0
  have H3 := hid h3
  clear h3
  go_enter Tryz.func160, Tryz.ntmps160
  go_wp2_with fail
  refine calls_worldD _ (fun X => Blk X w.heap.size 108 #[.bool z0, .int .i64 z1, .string z2, .int .i64 z3, .int .i64 z4, .string z5, .int .i64 z6, .slice A7 z7.length c7] ∧ Blk X (w.heap.size + 1) 108 #[.bool z0, .int .i64 z1, .string z2, .int .i64 z3, .int .i64 z4, .string z5, .int .i64 z6, .slice B7 z7.length d7] ∧ Below w.heap.size w X) ⟨(Blk.new w _ _).alloc _, Blk.new' (w.alloc _) _ _ _ (by simp), ((Below.refl _ _).alloc (Nat.le_refl _) _).alloc (by simp) _⟩ ?_
  rintro X0 ⟨ba, bb, hB⟩
  have s0 := bb.lt
  refine (H0.out [.bool z0, .int .i64 z1, .string z2] [.bool z0, .int .i64 z1, .string z2] _ (by rw [FKey.c_eq]; exact (RdVs.cons (by unfold RdC; rfl) (RdVs.cons (by unfold RdC; rfl) (RdVs.cons (by unfold RdC; rfl) (RdVs.nil _ _))))) (by rw [FKey.c_eq]; exact (RdVs.cons (by unfold RdC; rfl) (RdVs.cons (by unfold RdC; rfl) (RdVs.cons (by unfold RdC; rfl) (RdVs.nil _ _)))))).mono ?_
  rintro e Y0 ⟨rfl, hb⟩
  replace ba := ba.below hb (Nat.le_refl _)
  replace bb := bb.below hb (Nat.le_refl _)
  replace hB := hB.trans (hb.mono (by omega))
  clear hb
  have ba_3 : Y0.cell? ⟨w.heap.size, 3, none⟩ = some (.int .i64 z3) := ba.cell 3
  have ba_4 : Y0.cell? ⟨w.heap.size, 4, none⟩ = some (.int .i64 z4) := ba.cell 4
  have ba_5 : Y0.cell? ⟨w.heap.size, 5, none⟩ = some (.string z5) := ba.cell 5
  have ba_6 : Y0.cell? ⟨w.heap.size, 6, none⟩ = some (.int .i64 z6) := ba.cell 6
  have ba_7 : Y0.cell? ⟨w.heap.size, 7, none⟩ = some (.slice A7 z7.length c7) := ba.cell 7
  have ba_l := ba.lt
  have bb_3 : Y0.cell? ⟨w.heap.size + 1, 3, none⟩ = some (.int .i64 z3) := bb.cell 3
  have bb_4 : Y0.cell? ⟨w.heap.size + 1, 4, none⟩ = some (.int .i64 z4) := bb.cell 4
  have bb_5 : Y0.cell? ⟨w.heap.size + 1, 5, none⟩ = some (.string z5) := bb.cell 5
  have bb_6 : Y0.cell? ⟨w.heap.size + 1, 6, none⟩ = some (.int .i64 z6) := bb.cell 6
  have bb_7 : Y0.cell? ⟨w.heap.size + 1, 7, none⟩ = some (.slice B7 z7.length d7) := bb.cell 7
  have bb_l := bb.lt
  go_wp2_with fail
  clear ba_3 bb_3 ba_4 bb_4 ba_5 bb_5 ba_6 bb_6 ba_7 bb_7 ba_l bb_l
  refine calls_worldD _ (fun X => Blk X w.heap.size 108 #[.bool z0, .int .i64 z1, .string z2, .int .i64 z3, .int .i64 z4, .string z5, .int .i64 z6, .slice A7 z7.length c7] ∧ Blk X (w.heap.size + 1) 108 #[.bool z0, .int .i64 z1, .string z2, .int .i64 z3, .int .i64 z4, .string z5, .int .i64 z6, .slice B7 z7.length d7] ∧ Below w.heap.size w X) ⟨ba, bb, hB⟩ ?_
  clear ba bb hB
  rintro X1 ⟨ba, bb, hB⟩
  have s1 := bb.lt
  refine (H3.out [.int .i64 z3, .int .i64 z4, .string z5, .int .i64 z6, .slice A7 z7.length c7] [.int .i64 z3, .int .i64 z4, .string z5, .int .i64 z6, .slice B7 z7.length d7] _ (by rw [FValue.c_eq]; exact (RdVs.cons (by unfold RdC; rfl) (RdVs.cons (by unfold RdC; rfl) (RdVs.cons (by unfold RdC; rfl) (RdVs.cons (by unfold RdC; rfl) (RdVs.cons (R7.out.on hB (Nat.le_refl _) (by omega)) (RdVs.nil _ _))))))) (by rw [FValue.c_eq]; exact (RdVs.cons (by unfold RdC; rfl) (RdVs.cons (by unfold RdC; rfl) (RdVs.cons (by unfold RdC; rfl) (RdVs.cons (by unfold RdC; rfl) (RdVs.cons (T7.out.on hB (Nat.le_refl _) (by omega)) (RdVs.nil _ _)))))))).mono ?_
  rintro e Y1 ⟨rfl, hb⟩
  replace ba := ba.below hb (Nat.le_refl _)
  replace bb := bb.below hb (Nat.le_refl _)
  replace hB := hB.trans (hb.mono (by omega))
  clear hb
  have ba_l := ba.lt
  have bb_l := bb.lt
  go_wp2_with fail
  go_ret
  exact ⟨rfl, hB⟩
theorem eqEntryS_of (l : List FEntry) (hl : l.length ≤ 1000000000) (he : ∀ x, x ∈ l → EqEntry x) : EqEntryS l := by
  intro u v w hu hv
  obtain ⟨A, c, rfl⟩ := hu.form
  obtain ⟨A', c', rfl⟩ := hv.form
  have HC := hid hu
  have HD := hid hv
  have hn : l.length ≤ 9223372036854775807 := by omega
  have HE := hid he
  clear he
  clear hu hv
  go_enter Tryz.func135, Tryz.ntmps135
  go_wp2
  go_loopw [5] (fun i wr => ∃ k : Nat, k ≤ l.length ∧ i = .int .i64 k ∧ Below w.heap.size w wr) (fun i _ => l.length - (intOf i).toNat)
  case atStart => exact ⟨0, Nat.zero_le _, rfl, Below.refl _ _⟩
  case round =>
    obtain ⟨k, hk, rfl, hb⟩ := hrel
    by_cases hlt : k < l.length
    · obtain ⟨x, hx⟩ : ∃ x, l[k]? = some x := ⟨_, List.getElem?_eq_getElem hlt⟩
      obtain ⟨bc, offc, rfl, hblc, hcc⟩ := RdC.at_ FEntry.len HC.out hx
      obtain ⟨bd, offd, rfl, hbld, hcd⟩ := RdC.at_ FEntry.len HD.out hx
      have HE2 := hid (HE.out x (List.mem_of_getElem? hx))
      clear hx
      obtain ⟨⟨z0, z1, z2⟩, ⟨z3, z4, z5, z6, z7⟩⟩ := x
      rw [FEntry.c_eq] at hcc hcd
      obtain ⟨u0, e0, q0⟩ := hcc 0 _ rfl
      obtain rfl := q0.val
      clear q0
      have c_0 : wr.cell? ⟨bc, offc + k * 8, none⟩ = some (.bool z0) := (hb.cell (p := ⟨bc, _, none⟩) hblc).trans (by simpa using e0)
      clear e0
      obtain ⟨u1, e1, q1⟩ := hcc 1 _ rfl
      obtain rfl := q1.val
      clear q1
      have c_1 : wr.cell? ⟨bc, offc + k * 8 + 1, none⟩ = some (.int .i64 z1) := (hb.cell (p := ⟨bc, _, none⟩) hblc).trans (by simpa using e1)
      clear e1
      obtain ⟨u2, e2, q2⟩ := hcc 2 _ rfl
      obtain rfl := q2.val
      clear q2
      have c_2 : wr.cell? ⟨bc, offc + k * 8 + 2, none⟩ = some (.string z2) := (hb.cell (p := ⟨bc, _, none⟩) hblc).trans (by simpa using e2)
      clear e2
      obtain ⟨u3, e3, q3⟩ := hcc 3 _ rfl
      obtain rfl := q3.val
      clear q3
      have c_3 : wr.cell? ⟨bc, offc + k * 8 + 3, none⟩ = some (.int .i64 z3) := (hb.cell (p := ⟨bc, _, none⟩) hblc).trans (by simpa using e3)
      clear e3
      obtain ⟨u4, e4, q4⟩ := hcc 4 _ rfl
      obtain rfl := q4.val
      clear q4
      have c_4 : wr.cell? ⟨bc, offc + k * 8 + 4, none⟩ = some (.int .i64 z4) := (hb.cell (p := ⟨bc, _, none⟩) hblc).trans (by simpa using e4)
      clear e4
      obtain ⟨u5, e5, q5⟩ := hcc 5 _ rfl
      obtain rfl := q5.val
      clear q5
      have c_5 : wr.cell? ⟨bc, offc + k * 8 + 5, none⟩ = some (.string z5) := (hb.cell (p := ⟨bc, _, none⟩) hblc).trans (by simpa using e5)
      clear e5
      obtain ⟨u6, e6, q6⟩ := hcc 6 _ rfl
      obtain rfl := q6.val
      clear q6
      have c_6 : wr.cell? ⟨bc, offc + k * 8 + 6, none⟩ = some (.int .i64 z6) := (hb.cell (p := ⟨bc, _, none⟩) hblc).trans (by simpa using e6)
      clear e6
      obtain ⟨u7, e7, q7⟩ := hcc 7 _ rfl
      obtain ⟨A7, c7, rfl⟩ := q7.form
      have R7 := hid q7
      clear q7
      have c_7 : wr.cell? ⟨bc, offc + k * 8 + 7, none⟩ = some (.slice A7 z7.length c7) := (hb.cell (p := ⟨bc, _, none⟩) hblc).trans (by simpa using e7)
      clear e7
      obtain ⟨u0, e0, q0⟩ := hcd 0 _ rfl
      obtain rfl := q0.val
      clear q0
      have d_0 : wr.cell? ⟨bd, offd + k * 8, none⟩ = some (.bool z0) := (hb.cell (p := ⟨bd, _, none⟩) hbld).trans (by simpa using e0)
      clear e0
      obtain ⟨u1, e1, q1⟩ := hcd 1 _ rfl
      obtain rfl := q1.val
      clear q1
      have d_1 : wr.cell? ⟨bd, offd + k * 8 + 1, none⟩ = some (.int .i64 z1) := (hb.cell (p := ⟨bd, _, none⟩) hbld).trans (by simpa using e1)
      clear e1
      obtain ⟨u2, e2, q2⟩ := hcd 2 _ rfl
      obtain rfl := q2.val
      clear q2
      have d_2 : wr.cell? ⟨bd, offd + k * 8 + 2, none⟩ = some (.string z2) := (hb.cell (p := ⟨bd, _, none⟩) hbld).trans (by simpa using e2)
      clear e2
      obtain ⟨u3, e3, q3⟩ := hcd 3 _ rfl
      obtain rfl := q3.val
      clear q3
      have d_3 : wr.cell? ⟨bd, offd + k * 8 + 3, none⟩ = some (.int .i64 z3) := (hb.cell (p := ⟨bd, _, none⟩) hbld).trans (by simpa using e3)
      clear e3
      obtain ⟨u4, e4, q4⟩ := hcd 4 _ rfl
      obtain rfl := q4.val
      clear q4
      have d_4 : wr.cell? ⟨bd, offd + k * 8 + 4, none⟩ = some (.int .i64 z4) := (hb.cell (p := ⟨bd, _, none⟩) hbld).trans (by simpa using e4)
      clear e4
      obtain ⟨u5, e5, q5⟩ := hcd 5 _ rfl
      obtain rfl := q5.val
      clear q5
      have d_5 : wr.cell? ⟨bd, offd + k * 8 + 5, none⟩ = some (.string z5) := (hb.cell (p := ⟨bd, _, none⟩) hbld).trans (by simpa using e5)
      clear e5
      obtain ⟨u6, e6, q6⟩ := hcd 6 _ rfl
      obtain rfl := q6.val
      clear q6
      have d_6 : wr.cell? ⟨bd, offd + k * 8 + 6, none⟩ = some (.int .i64 z6) := (hb.cell (p := ⟨bd, _, none⟩) hbld).trans (by simpa using e6)
      clear e6
      obtain ⟨u7, e7, q7⟩ := hcd 7 _ rfl
      obtain ⟨B7, d7, rfl⟩ := q7.form
      have T7 := hid q7
      clear q7
      have d_7 : wr.cell? ⟨bd, offd + k * 8 + 7, none⟩ = some (.slice B7 z7.length d7) := (hb.cell (p := ⟨bd, _, none⟩) hbld).trans (by simpa using e7)
      clear e7
      clear hcc hcd
      go_wp2_with fail
      go_still_tail 8, (by kernel_rfl)
      have hbd : Below w.heap.size w wr.drew := hb.drew
      change wpList _ _ _ _ _ wr.drew
      generalize wr.drew = wd at *
      go_wp2_with (go_at_call 160; refine (HE2.out [.bool z0, .int .i64 z1, .string z2, .int .i64 z3, .int .i64 z4, .string z5, .int .i64 z6, .slice A7 z7.length c7] [.bool z0, .int .i64 z1, .string z2, .int .i64 z3, .int .i64 z4, .string z5, .int .i64 z6, .slice B7 z7.length d7] _ (by rw [FEntry.c_eq]; exact (RdVs.cons (by unfold RdC; rfl) (RdVs.cons (by unfold RdC; rfl) (RdVs.cons (by unfold RdC; rfl) (RdVs.cons (by unfold RdC; rfl) (RdVs.cons (by unfold RdC; rfl) (RdVs.cons (by unfold RdC; rfl) (RdVs.cons (by unfold RdC; rfl) (RdVs.cons (R7.out.on hbd (Nat.le_refl _) hbd.size) (RdVs.nil _ _)))))))))) (by rw [FEntry.c_eq]; exact (RdVs.cons (by unfold RdC; rfl) (RdVs.cons (by unfold RdC; rfl) (RdVs.cons (by unfold RdC; rfl) (RdVs.cons (by unfold RdC; rfl) (RdVs.cons (by unfold RdC; rfl) (RdVs.cons (by unfold RdC; rfl) (RdVs.cons (by unfold RdC; rfl) (RdVs.cons (T7.out.on hbd (Nat.le_refl _) hbd.size) (RdVs.nil _ _))))))))))).mono ?_; rintro e w2 ⟨rfl, hb2⟩)
      go_roundw
      case rel => exact ⟨k + 1, by omega, by go_num, hbd.trans (hb2.mono hbd.size)⟩
      case measure => simp [intOf]; omega
    · obtain rfl : k = l.length := by omega
      clear hlt
      go_wp2_with fail
      go_ret
      exact ⟨rfl, hb⟩
theorem eqValue_of (z0 : Int) (z1 : Int) (z2 : ByteArray) (z3 : Int) (z4 : List FEntry) (h4 : EqEntryS z4) : EqValue ⟨z0, z1, z2, z3, z4⟩ := by
  intro us vs w hr hs
  rw [FValue.c_eq] at hr hs
  obtain ⟨us0, rfl, hr_0⟩ := hr.unv
  obtain ⟨us1, rfl, hr_1⟩ := hr_0.unv
  obtain ⟨us2, rfl, hr_2⟩ := hr_1.unv
  obtain ⟨us3, rfl, hr_3⟩ := hr_2.unv
  obtain ⟨A4, c4, us4, rfl, r4, hr_4⟩ := hr_3.uns
  obtain rfl := hr_4.un0
  obtain ⟨vs0, rfl, hs_0⟩ := hs.unv
  obtain ⟨vs1, rfl, hs_1⟩ := hs_0.unv
  obtain ⟨vs2, rfl, hs_2⟩ := hs_1.unv
  obtain ⟨vs3, rfl, hs_3⟩ := hs_2.unv
  obtain ⟨B4, d4, vs4, rfl, t4, hs_4⟩ := hs_3.uns
  obtain rfl := hs_4.un0
  clear hr hs hr_0 hs_0 hr_1 hs_1 hr_2 hs_2 hr_3 hs_3 hr_4 hs_4
  have R4 := hid r4
  have T4 := hid t4
  clear r4 t4
  have H4 := hid h4
  clear h4
  go_enter Tryz.func118, Tryz.ntmps118
  go_wp2_with fail
  refine calls_worldD _ (fun X => Blk X w.heap.size 49 #[.int .i64 z0, .int .i64 z1, .string z2, .int .i64 z3, .slice A4 z4.length c4] ∧ Blk X (w.heap.size + 1) 49 #[.int .i64 z0, .int .i64 z1, .string z2, .int .i64 z3, .slice B4 z4.length d4] ∧ Below w.heap.size w X) ⟨(Blk.new w _ _).alloc _, Blk.new' (w.alloc _) _ _ _ (by simp), ((Below.refl _ _).alloc (Nat.le_refl _) _).alloc (by simp) _⟩ ?_
  rintro X0 ⟨ba, bb, hB⟩
  have s0 := bb.lt
  refine (H4.out _ _ _ (R4.out.on hB (Nat.le_refl _) (by omega)) (T4.out.on hB (Nat.le_refl _) (by omega))).mono ?_
  rintro e Y0 ⟨rfl, hb⟩
  replace ba := ba.below hb (Nat.le_refl _)
  replace bb := bb.below hb (Nat.le_refl _)
  replace hB := hB.trans (hb.mono (by omega))
  clear hb
  have ba_l := ba.lt
  have bb_l := bb.lt
  go_wp2_with fail
  go_ret
  exact ⟨rfl, hB⟩
mutual
theorem eqEntry_any : ∀ (x : FEntry), x.wt ≤ 1000000000 → EqEntry x
  | .mk a0 a1, hw => by
    unfold FEntry.wt at hw
    have k0 := eqKey_any a0 (by omega)
    have k1 := eqValue_any a1 (by omega)
    obtain ⟨b0_0, b0_1, b0_2⟩ := a0
    obtain ⟨b1_0, b1_1, b1_2, b1_3, b1_4⟩ := a1
    exact eqEntry_of b0_0 b0_1 b0_2 b1_0 b1_1 b1_2 b1_3 b1_4 k0 k1
theorem eqValue_any : ∀ (x : FValue), x.wt ≤ 1000000000 → EqValue x
  | .mk a0 a1 a2 a3 a4, hw => by
    unfold FValue.wt at hw
    exact eqValue_of a0 a1 a2 a3 a4 (eqEntryS_of a4 (by omega) (eqEntry_all a4 (by omega)))
theorem eqEntry_all : ∀ (l : List FEntry), l.length + FEntry.wts l ≤ 1000000000 → ∀ x, x ∈ l → EqEntry x
  | [], _, x, hx => by cases hx
  | y :: r, hw, x, hx => by
    unfold FEntry.wts at hw
    simp only [List.length_cons] at hw
    rcases List.mem_cons.1 hx with e | hx
    · rw [e]
      exact eqEntry_any y (by omega)
    · exact eqEntry_all r (by omega) x hx
end
def EqMethod (x : FMethod) : Prop := ∀ (us vs : List Value) (w : World), RdVs w w.heap.size x.c us → RdVs w w.heap.size x.c vs → Calls Tryz.prog 100 #[.agg us.toArray, .agg vs.toArray] w fun e w' => e = .returned (.bool true) ∧ Below w.heap.size w w'
def EqMethodS (l : List FMethod) : Prop := ∀ (u v : Value) (w : World), RdC w w.heap.size (.s 44 5 l.length (FMethod.flat l)) u → RdC w w.heap.size (.s 44 5 l.length (FMethod.flat l)) v → Calls Tryz.prog 59 #[u, v] w fun e w' => e = .returned (.bool true) ∧ Below w.heap.size w w'
theorem eqMethod_of (z0 : ByteArray) (z1 : ByteArray) (z2 : ByteArray) (z3 : Bool) (z4 : Bool)  : EqMethod ⟨z0, z1, z2, z3, z4⟩ := by
  intro us vs w hr hs
  rw [FMethod.c_eq] at hr hs
  obtain ⟨us0, rfl, hr_0⟩ := hr.unv
  obtain ⟨us1, rfl, hr_1⟩ := hr_0.unv
  obtain ⟨us2, rfl, hr_2⟩ := hr_1.unv
  obtain ⟨us3, rfl, hr_3⟩ := hr_2.unv
  obtain ⟨us4, rfl, hr_4⟩ := hr_3.unv
  obtain rfl := hr_4.un0
  obtain ⟨vs0, rfl, hs_0⟩ := hs.unv
  obtain ⟨vs1, rfl, hs_1⟩ := hs_0.unv
  obtain ⟨vs2, rfl, hs_2⟩ := hs_1.unv
  obtain ⟨vs3, rfl, hs_3⟩ := hs_2.unv
  obtain ⟨vs4, rfl, hs_4⟩ := hs_3.unv
  obtain rfl := hs_4.un0
  clear hr hs hr_0 hs_0 hr_1 hs_1 hr_2 hs_2 hr_3 hs_3 hr_4 hs_4
  go_enter Tryz.func100, Tryz.ntmps100
  go_wp2_with fail
  go_ret
  exact ⟨rfl, by repeat (first | exact Below.refl _ _ | (refine Below.alloc ?_ (by simp; try omega) _))⟩
theorem eqMethodS_of (l : List FMethod) (hl : l.length ≤ 1000000000) (he : ∀ x, x ∈ l → EqMethod x) : EqMethodS l := by
  intro u v w hu hv
  obtain ⟨A, c, rfl⟩ := hu.form
  obtain ⟨A', c', rfl⟩ := hv.form
  have HC := hid hu
  have HD := hid hv
  have hn : l.length ≤ 9223372036854775807 := by omega
  have HE := hid he
  clear he
  clear hu hv
  go_enter Tryz.func59, Tryz.ntmps59
  go_wp2
  go_loopw [5] (fun i wr => ∃ k : Nat, k ≤ l.length ∧ i = .int .i64 k ∧ Below w.heap.size w wr) (fun i _ => l.length - (intOf i).toNat)
  case atStart => exact ⟨0, Nat.zero_le _, rfl, Below.refl _ _⟩
  case round =>
    obtain ⟨k, hk, rfl, hb⟩ := hrel
    by_cases hlt : k < l.length
    · obtain ⟨x, hx⟩ : ∃ x, l[k]? = some x := ⟨_, List.getElem?_eq_getElem hlt⟩
      obtain ⟨bc, offc, rfl, hblc, hcc⟩ := RdC.at_ FMethod.len HC.out hx
      obtain ⟨bd, offd, rfl, hbld, hcd⟩ := RdC.at_ FMethod.len HD.out hx
      have HE2 := hid (HE.out x (List.mem_of_getElem? hx))
      clear hx
      obtain ⟨z0, z1, z2, z3, z4⟩ := x
      rw [FMethod.c_eq] at hcc hcd
      obtain ⟨u0, e0, q0⟩ := hcc 0 _ rfl
      obtain rfl := q0.val
      clear q0
      have c_0 : wr.cell? ⟨bc, offc + k * 5, none⟩ = some (.string z0) := (hb.cell (p := ⟨bc, _, none⟩) hblc).trans (by simpa using e0)
      clear e0
      obtain ⟨u1, e1, q1⟩ := hcc 1 _ rfl
      obtain rfl := q1.val
      clear q1
      have c_1 : wr.cell? ⟨bc, offc + k * 5 + 1, none⟩ = some (.string z1) := (hb.cell (p := ⟨bc, _, none⟩) hblc).trans (by simpa using e1)
      clear e1
      obtain ⟨u2, e2, q2⟩ := hcc 2 _ rfl
      obtain rfl := q2.val
      clear q2
      have c_2 : wr.cell? ⟨bc, offc + k * 5 + 2, none⟩ = some (.string z2) := (hb.cell (p := ⟨bc, _, none⟩) hblc).trans (by simpa using e2)
      clear e2
      obtain ⟨u3, e3, q3⟩ := hcc 3 _ rfl
      obtain rfl := q3.val
      clear q3
      have c_3 : wr.cell? ⟨bc, offc + k * 5 + 3, none⟩ = some (.bool z3) := (hb.cell (p := ⟨bc, _, none⟩) hblc).trans (by simpa using e3)
      clear e3
      obtain ⟨u4, e4, q4⟩ := hcc 4 _ rfl
      obtain rfl := q4.val
      clear q4
      have c_4 : wr.cell? ⟨bc, offc + k * 5 + 4, none⟩ = some (.bool z4) := (hb.cell (p := ⟨bc, _, none⟩) hblc).trans (by simpa using e4)
      clear e4
      obtain ⟨u0, e0, q0⟩ := hcd 0 _ rfl
      obtain rfl := q0.val
      clear q0
      have d_0 : wr.cell? ⟨bd, offd + k * 5, none⟩ = some (.string z0) := (hb.cell (p := ⟨bd, _, none⟩) hbld).trans (by simpa using e0)
      clear e0
      obtain ⟨u1, e1, q1⟩ := hcd 1 _ rfl
      obtain rfl := q1.val
      clear q1
      have d_1 : wr.cell? ⟨bd, offd + k * 5 + 1, none⟩ = some (.string z1) := (hb.cell (p := ⟨bd, _, none⟩) hbld).trans (by simpa using e1)
      clear e1
      obtain ⟨u2, e2, q2⟩ := hcd 2 _ rfl
      obtain rfl := q2.val
      clear q2
      have d_2 : wr.cell? ⟨bd, offd + k * 5 + 2, none⟩ = some (.string z2) := (hb.cell (p := ⟨bd, _, none⟩) hbld).trans (by simpa using e2)
      clear e2
      obtain ⟨u3, e3, q3⟩ := hcd 3 _ rfl
      obtain rfl := q3.val
      clear q3
      have d_3 : wr.cell? ⟨bd, offd + k * 5 + 3, none⟩ = some (.bool z3) := (hb.cell (p := ⟨bd, _, none⟩) hbld).trans (by simpa using e3)
      clear e3
      obtain ⟨u4, e4, q4⟩ := hcd 4 _ rfl
      obtain rfl := q4.val
      clear q4
      have d_4 : wr.cell? ⟨bd, offd + k * 5 + 4, none⟩ = some (.bool z4) := (hb.cell (p := ⟨bd, _, none⟩) hbld).trans (by simpa using e4)
      clear e4
      clear hcc hcd
      go_wp2_with fail
      go_still_tail 8, (by kernel_rfl)
      have hbd : Below w.heap.size w wr.drew := hb.drew
      change wpList _ _ _ _ _ wr.drew
      generalize wr.drew = wd at *
      go_wp2_with (go_at_call 100; refine (HE2.out [.string z0, .string z1, .string z2, .bool z3, .bool z4] [.string z0, .string z1, .string z2, .bool z3, .bool z4] _ (by rw [FMethod.c_eq]; exact (RdVs.cons (by unfold RdC; rfl) (RdVs.cons (by unfold RdC; rfl) (RdVs.cons (by unfold RdC; rfl) (RdVs.cons (by unfold RdC; rfl) (RdVs.cons (by unfold RdC; rfl) (RdVs.nil _ _))))))) (by rw [FMethod.c_eq]; exact (RdVs.cons (by unfold RdC; rfl) (RdVs.cons (by unfold RdC; rfl) (RdVs.cons (by unfold RdC; rfl) (RdVs.cons (by unfold RdC; rfl) (RdVs.cons (by unfold RdC; rfl) (RdVs.nil _ _)))))))).mono ?_; rintro e w2 ⟨rfl, hb2⟩)
      go_roundw
      case rel => exact ⟨k + 1, by omega, by go_num, hbd.trans (hb2.mono hbd.size)⟩
      case measure => simp [intOf]; omega
    · obtain rfl : k = l.length := by omega
      clear hlt
      go_wp2_with fail
      go_ret
      exact ⟨rfl, hb⟩
theorem eqMethod_any (x : FMethod) (hw : x.wt ≤ 1000000000) : EqMethod x := by
  obtain ⟨z0, z1, z2, z3, z4⟩ := x
  exact eqMethod_of z0 z1 z2 z3 z4 
def EqField (x : FField) : Prop := ∀ (us vs : List Value) (w : World), RdVs w w.heap.size x.c us → RdVs w w.heap.size x.c vs → Calls Tryz.prog 99 #[.agg us.toArray, .agg vs.toArray] w fun e w' => e = .returned (.bool true) ∧ Below w.heap.size w w'
def EqFieldS (l : List FField) : Prop := ∀ (u v : Value) (w : World), RdC w w.heap.size (.s 51 8 l.length (FField.flat l)) u → RdC w w.heap.size (.s 51 8 l.length (FField.flat l)) v → Calls Tryz.prog 58 #[u, v] w fun e w' => e = .returned (.bool true) ∧ Below w.heap.size w w'
theorem eqField_of (z0 : ByteArray) (z1 : ByteArray) (z2 : Bool) (z3 : Int) (z4 : Int) (z5 : ByteArray) (z6 : Int) (z7 : List FEntry) (h3 : EqValue ⟨z3, z4, z5, z6, z7⟩) : EqField ⟨z0, z1, z2, ⟨z3, z4, z5, z6, z7⟩⟩ := by
  intro us vs w hr hs
  rw [FField.c_eq] at hr hs
  obtain ⟨us0, rfl, hr_0⟩ := hr.unv
  obtain ⟨us1, rfl, hr_1⟩ := hr_0.unv
  obtain ⟨us2, rfl, hr_2⟩ := hr_1.unv
  obtain ⟨us3, rfl, hr_3⟩ := hr_2.unv
  obtain ⟨us4, rfl, hr_4⟩ := hr_3.unv
  obtain ⟨us5, rfl, hr_5⟩ := hr_4.unv
  obtain ⟨us6, rfl, hr_6⟩ := hr_5.unv
  obtain ⟨A7, c7, us7, rfl, r7, hr_7⟩ := hr_6.uns
  obtain rfl := hr_7.un0
  obtain ⟨vs0, rfl, hs_0⟩ := hs.unv
  obtain ⟨vs1, rfl, hs_1⟩ := hs_0.unv
  obtain ⟨vs2, rfl, hs_2⟩ := hs_1.unv
  obtain ⟨vs3, rfl, hs_3⟩ := hs_2.unv
  obtain ⟨vs4, rfl, hs_4⟩ := hs_3.unv
  obtain ⟨vs5, rfl, hs_5⟩ := hs_4.unv
  obtain ⟨vs6, rfl, hs_6⟩ := hs_5.unv
  obtain ⟨B7, d7, vs7, rfl, t7, hs_7⟩ := hs_6.uns
  obtain rfl := hs_7.un0
  clear hr hs hr_0 hs_0 hr_1 hs_1 hr_2 hs_2 hr_3 hs_3 hr_4 hs_4 hr_5 hs_5 hr_6 hs_6 hr_7 hs_7
  have R7 := hid r7
  have T7 := hid t7
  clear r7 t7
  have H3 := hid h3
  clear h3
  go_enter Tryz.func99, Tryz.ntmps99
  go_wp2_with fail
  refine calls_worldD _ (fun X => Blk X w.heap.size 51 #[.string z0, .string z1, .bool z2, .int .i64 z3, .int .i64 z4, .string z5, .int .i64 z6, .slice A7 z7.length c7] ∧ Blk X (w.heap.size + 1) 51 #[.string z0, .string z1, .bool z2, .int .i64 z3, .int .i64 z4, .string z5, .int .i64 z6, .slice B7 z7.length d7] ∧ Below w.heap.size w X) ⟨(Blk.new w _ _).alloc _, Blk.new' (w.alloc _) _ _ _ (by simp), ((Below.refl _ _).alloc (Nat.le_refl _) _).alloc (by simp) _⟩ ?_
  rintro X0 ⟨ba, bb, hB⟩
  have s0 := bb.lt
  refine (H3.out [.int .i64 z3, .int .i64 z4, .string z5, .int .i64 z6, .slice A7 z7.length c7] [.int .i64 z3, .int .i64 z4, .string z5, .int .i64 z6, .slice B7 z7.length d7] _ (by rw [FValue.c_eq]; exact (RdVs.cons (by unfold RdC; rfl) (RdVs.cons (by unfold RdC; rfl) (RdVs.cons (by unfold RdC; rfl) (RdVs.cons (by unfold RdC; rfl) (RdVs.cons (R7.out.on hB (Nat.le_refl _) (by omega)) (RdVs.nil _ _))))))) (by rw [FValue.c_eq]; exact (RdVs.cons (by unfold RdC; rfl) (RdVs.cons (by unfold RdC; rfl) (RdVs.cons (by unfold RdC; rfl) (RdVs.cons (by unfold RdC; rfl) (RdVs.cons (T7.out.on hB (Nat.le_refl _) (by omega)) (RdVs.nil _ _)))))))).mono ?_
  rintro e Y0 ⟨rfl, hb⟩
  replace ba := ba.below hb (Nat.le_refl _)
  replace bb := bb.below hb (Nat.le_refl _)
  replace hB := hB.trans (hb.mono (by omega))
  clear hb
  have ba_l := ba.lt
  have bb_l := bb.lt
  go_wp2_with fail
  go_ret
  exact ⟨rfl, hB⟩
theorem eqFieldS_of (l : List FField) (hl : l.length ≤ 1000000000) (he : ∀ x, x ∈ l → EqField x) : EqFieldS l := by
  intro u v w hu hv
  obtain ⟨A, c, rfl⟩ := hu.form
  obtain ⟨A', c', rfl⟩ := hv.form
  have HC := hid hu
  have HD := hid hv
  have hn : l.length ≤ 9223372036854775807 := by omega
  have HE := hid he
  clear he
  clear hu hv
  go_enter Tryz.func58, Tryz.ntmps58
  go_wp2
  go_loopw [5] (fun i wr => ∃ k : Nat, k ≤ l.length ∧ i = .int .i64 k ∧ Below w.heap.size w wr) (fun i _ => l.length - (intOf i).toNat)
  case atStart => exact ⟨0, Nat.zero_le _, rfl, Below.refl _ _⟩
  case round =>
    obtain ⟨k, hk, rfl, hb⟩ := hrel
    by_cases hlt : k < l.length
    · obtain ⟨x, hx⟩ : ∃ x, l[k]? = some x := ⟨_, List.getElem?_eq_getElem hlt⟩
      obtain ⟨bc, offc, rfl, hblc, hcc⟩ := RdC.at_ FField.len HC.out hx
      obtain ⟨bd, offd, rfl, hbld, hcd⟩ := RdC.at_ FField.len HD.out hx
      have HE2 := hid (HE.out x (List.mem_of_getElem? hx))
      clear hx
      obtain ⟨z0, z1, z2, ⟨z3, z4, z5, z6, z7⟩⟩ := x
      rw [FField.c_eq] at hcc hcd
      obtain ⟨u0, e0, q0⟩ := hcc 0 _ rfl
      obtain rfl := q0.val
      clear q0
      have c_0 : wr.cell? ⟨bc, offc + k * 8, none⟩ = some (.string z0) := (hb.cell (p := ⟨bc, _, none⟩) hblc).trans (by simpa using e0)
      clear e0
      obtain ⟨u1, e1, q1⟩ := hcc 1 _ rfl
      obtain rfl := q1.val
      clear q1
      have c_1 : wr.cell? ⟨bc, offc + k * 8 + 1, none⟩ = some (.string z1) := (hb.cell (p := ⟨bc, _, none⟩) hblc).trans (by simpa using e1)
      clear e1
      obtain ⟨u2, e2, q2⟩ := hcc 2 _ rfl
      obtain rfl := q2.val
      clear q2
      have c_2 : wr.cell? ⟨bc, offc + k * 8 + 2, none⟩ = some (.bool z2) := (hb.cell (p := ⟨bc, _, none⟩) hblc).trans (by simpa using e2)
      clear e2
      obtain ⟨u3, e3, q3⟩ := hcc 3 _ rfl
      obtain rfl := q3.val
      clear q3
      have c_3 : wr.cell? ⟨bc, offc + k * 8 + 3, none⟩ = some (.int .i64 z3) := (hb.cell (p := ⟨bc, _, none⟩) hblc).trans (by simpa using e3)
      clear e3
      obtain ⟨u4, e4, q4⟩ := hcc 4 _ rfl
      obtain rfl := q4.val
      clear q4
      have c_4 : wr.cell? ⟨bc, offc + k * 8 + 4, none⟩ = some (.int .i64 z4) := (hb.cell (p := ⟨bc, _, none⟩) hblc).trans (by simpa using e4)
      clear e4
      obtain ⟨u5, e5, q5⟩ := hcc 5 _ rfl
      obtain rfl := q5.val
      clear q5
      have c_5 : wr.cell? ⟨bc, offc + k * 8 + 5, none⟩ = some (.string z5) := (hb.cell (p := ⟨bc, _, none⟩) hblc).trans (by simpa using e5)
      clear e5
      obtain ⟨u6, e6, q6⟩ := hcc 6 _ rfl
      obtain rfl := q6.val
      clear q6
      have c_6 : wr.cell? ⟨bc, offc + k * 8 + 6, none⟩ = some (.int .i64 z6) := (hb.cell (p := ⟨bc, _, none⟩) hblc).trans (by simpa using e6)
      clear e6
      obtain ⟨u7, e7, q7⟩ := hcc 7 _ rfl
      obtain ⟨A7, c7, rfl⟩ := q7.form
      have R7 := hid q7
      clear q7
      have c_7 : wr.cell? ⟨bc, offc + k * 8 + 7, none⟩ = some (.slice A7 z7.length c7) := (hb.cell (p := ⟨bc, _, none⟩) hblc).trans (by simpa using e7)
      clear e7
      obtain ⟨u0, e0, q0⟩ := hcd 0 _ rfl
      obtain rfl := q0.val
      clear q0
      have d_0 : wr.cell? ⟨bd, offd + k * 8, none⟩ = some (.string z0) := (hb.cell (p := ⟨bd, _, none⟩) hbld).trans (by simpa using e0)
      clear e0
      obtain ⟨u1, e1, q1⟩ := hcd 1 _ rfl
      obtain rfl := q1.val
      clear q1
      have d_1 : wr.cell? ⟨bd, offd + k * 8 + 1, none⟩ = some (.string z1) := (hb.cell (p := ⟨bd, _, none⟩) hbld).trans (by simpa using e1)
      clear e1
      obtain ⟨u2, e2, q2⟩ := hcd 2 _ rfl
      obtain rfl := q2.val
      clear q2
      have d_2 : wr.cell? ⟨bd, offd + k * 8 + 2, none⟩ = some (.bool z2) := (hb.cell (p := ⟨bd, _, none⟩) hbld).trans (by simpa using e2)
      clear e2
      obtain ⟨u3, e3, q3⟩ := hcd 3 _ rfl
      obtain rfl := q3.val
      clear q3
      have d_3 : wr.cell? ⟨bd, offd + k * 8 + 3, none⟩ = some (.int .i64 z3) := (hb.cell (p := ⟨bd, _, none⟩) hbld).trans (by simpa using e3)
      clear e3
      obtain ⟨u4, e4, q4⟩ := hcd 4 _ rfl
      obtain rfl := q4.val
      clear q4
      have d_4 : wr.cell? ⟨bd, offd + k * 8 + 4, none⟩ = some (.int .i64 z4) := (hb.cell (p := ⟨bd, _, none⟩) hbld).trans (by simpa using e4)
      clear e4
      obtain ⟨u5, e5, q5⟩ := hcd 5 _ rfl
      obtain rfl := q5.val
      clear q5
      have d_5 : wr.cell? ⟨bd, offd + k * 8 + 5, none⟩ = some (.string z5) := (hb.cell (p := ⟨bd, _, none⟩) hbld).trans (by simpa using e5)
      clear e5
      obtain ⟨u6, e6, q6⟩ := hcd 6 _ rfl
      obtain rfl := q6.val
      clear q6
      have d_6 : wr.cell? ⟨bd, offd + k * 8 + 6, none⟩ = some (.int .i64 z6) := (hb.cell (p := ⟨bd, _, none⟩) hbld).trans (by simpa using e6)
      clear e6
      obtain ⟨u7, e7, q7⟩ := hcd 7 _ rfl
      obtain ⟨B7, d7, rfl⟩ := q7.form
      have T7 := hid q7
      clear q7
      have d_7 : wr.cell? ⟨bd, offd + k * 8 + 7, none⟩ = some (.slice B7 z7.length d7) := (hb.cell (p := ⟨bd, _, none⟩) hbld).trans (by simpa using e7)
      clear e7
      clear hcc hcd
      go_wp2_with fail
      go_still_tail 8, (by kernel_rfl)
      have hbd : Below w.heap.size w wr.drew := hb.drew
      change wpList _ _ _ _ _ wr.drew
      generalize wr.drew = wd at *
      go_wp2_with (go_at_call 99; refine (HE2.out [.string z0, .string z1, .bool z2, .int .i64 z3, .int .i64 z4, .string z5, .int .i64 z6, .slice A7 z7.length c7] [.string z0, .string z1, .bool z2, .int .i64 z3, .int .i64 z4, .string z5, .int .i64 z6, .slice B7 z7.length d7] _ (by rw [FField.c_eq]; exact (RdVs.cons (by unfold RdC; rfl) (RdVs.cons (by unfold RdC; rfl) (RdVs.cons (by unfold RdC; rfl) (RdVs.cons (by unfold RdC; rfl) (RdVs.cons (by unfold RdC; rfl) (RdVs.cons (by unfold RdC; rfl) (RdVs.cons (by unfold RdC; rfl) (RdVs.cons (R7.out.on hbd (Nat.le_refl _) hbd.size) (RdVs.nil _ _)))))))))) (by rw [FField.c_eq]; exact (RdVs.cons (by unfold RdC; rfl) (RdVs.cons (by unfold RdC; rfl) (RdVs.cons (by unfold RdC; rfl) (RdVs.cons (by unfold RdC; rfl) (RdVs.cons (by unfold RdC; rfl) (RdVs.cons (by unfold RdC; rfl) (RdVs.cons (by unfold RdC; rfl) (RdVs.cons (T7.out.on hbd (Nat.le_refl _) hbd.size) (RdVs.nil _ _))))))))))).mono ?_; rintro e w2 ⟨rfl, hb2⟩)
      go_roundw
      case rel => exact ⟨k + 1, by omega, by go_num, hbd.trans (hb2.mono hbd.size)⟩
      case measure => simp [intOf]; omega
    · obtain rfl : k = l.length := by omega
      clear hlt
      go_wp2_with fail
      go_ret
      exact ⟨rfl, hb⟩
theorem eqField_any (x : FField) (hw : x.wt ≤ 1000000000) : EqField x := by
  obtain ⟨z0, z1, z2, ⟨z3, z4, z5, z6, z7⟩⟩ := x
  exact eqField_of z0 z1 z2 z3 z4 z5 z6 z7 (eqValue_any _ (by rw [FField.wt_eq] at hw; rw [FValue.wt_eq]; omega))
def EqClass (x : FClass) : Prop := ∀ (us vs : List Value) (w : World), RdVs w w.heap.size x.c us → RdVs w w.heap.size x.c vs → Calls Tryz.prog 30 #[.agg us.toArray, .agg vs.toArray] w fun e w' => e = .returned (.bool true) ∧ Below w.heap.size w w'
def EqClassS (l : List FClass) : Prop := ∀ (u v : Value) (w : World), RdC w w.heap.size (.s 40 4 l.length (FClass.flat l)) u → RdC w w.heap.size (.s 40 4 l.length (FClass.flat l)) v → Calls Tryz.prog 9 #[u, v] w fun e w' => e = .returned (.bool true) ∧ Below w.heap.size w w'
theorem eqClass_of (z0 : ByteArray) (z1 : ByteArray) (z2 : List FField) (z3 : List FMethod) (h2 : EqFieldS z2) (h3 : EqMethodS z3) : EqClass ⟨z0, z1, z2, z3⟩ := by
  intro us vs w hr hs
  rw [FClass.c_eq] at hr hs
  obtain ⟨us0, rfl, hr_0⟩ := hr.unv
  obtain ⟨us1, rfl, hr_1⟩ := hr_0.unv
  obtain ⟨A2, c2, us2, rfl, r2, hr_2⟩ := hr_1.uns
  obtain ⟨A3, c3, us3, rfl, r3, hr_3⟩ := hr_2.uns
  obtain rfl := hr_3.un0
  obtain ⟨vs0, rfl, hs_0⟩ := hs.unv
  obtain ⟨vs1, rfl, hs_1⟩ := hs_0.unv
  obtain ⟨B2, d2, vs2, rfl, t2, hs_2⟩ := hs_1.uns
  obtain ⟨B3, d3, vs3, rfl, t3, hs_3⟩ := hs_2.uns
  obtain rfl := hs_3.un0
  clear hr hs hr_0 hs_0 hr_1 hs_1 hr_2 hs_2 hr_3 hs_3
  have R2 := hid r2
  have T2 := hid t2
  clear r2 t2
  have R3 := hid r3
  have T3 := hid t3
  clear r3 t3
  have H2 := hid h2
  clear h2
  have H3 := hid h3
  clear h3
  go_enter Tryz.func30, Tryz.ntmps30
  go_wp2_with fail
  refine calls_worldD _ (fun X => Blk X w.heap.size 40 #[.string z0, .string z1, .slice A2 z2.length c2, .slice A3 z3.length c3] ∧ Blk X (w.heap.size + 1) 40 #[.string z0, .string z1, .slice B2 z2.length d2, .slice B3 z3.length d3] ∧ Below w.heap.size w X) ⟨(Blk.new w _ _).alloc _, Blk.new' (w.alloc _) _ _ _ (by simp), ((Below.refl _ _).alloc (Nat.le_refl _) _).alloc (by simp) _⟩ ?_
  rintro X0 ⟨ba, bb, hB⟩
  have s0 := bb.lt
  refine (H2.out _ _ _ (R2.out.on hB (Nat.le_refl _) (by omega)) (T2.out.on hB (Nat.le_refl _) (by omega))).mono ?_
  rintro e Y0 ⟨rfl, hb⟩
  replace ba := ba.below hb (Nat.le_refl _)
  replace bb := bb.below hb (Nat.le_refl _)
  replace hB := hB.trans (hb.mono (by omega))
  clear hb
  have ba_3 : Y0.cell? ⟨w.heap.size, 3, none⟩ = some (.slice A3 z3.length c3) := ba.cell 3
  have ba_l := ba.lt
  have bb_3 : Y0.cell? ⟨w.heap.size + 1, 3, none⟩ = some (.slice B3 z3.length d3) := bb.cell 3
  have bb_l := bb.lt
  go_wp2_with fail
  clear ba_3 bb_3 ba_l bb_l
  refine calls_worldD _ (fun X => Blk X w.heap.size 40 #[.string z0, .string z1, .slice A2 z2.length c2, .slice A3 z3.length c3] ∧ Blk X (w.heap.size + 1) 40 #[.string z0, .string z1, .slice B2 z2.length d2, .slice B3 z3.length d3] ∧ Below w.heap.size w X) ⟨ba, bb, hB⟩ ?_
  clear ba bb hB
  rintro X1 ⟨ba, bb, hB⟩
  have s1 := bb.lt
  refine (H3.out _ _ _ (R3.out.on hB (Nat.le_refl _) (by omega)) (T3.out.on hB (Nat.le_refl _) (by omega))).mono ?_
  rintro e Y1 ⟨rfl, hb⟩
  replace ba := ba.below hb (Nat.le_refl _)
  replace bb := bb.below hb (Nat.le_refl _)
  replace hB := hB.trans (hb.mono (by omega))
  clear hb
  have ba_l := ba.lt
  have bb_l := bb.lt
  go_wp2_with fail
  go_ret
  exact ⟨rfl, hB⟩
theorem eqClassS_of (l : List FClass) (hl : l.length ≤ 1000000000) (he : ∀ x, x ∈ l → EqClass x) : EqClassS l := by
  intro u v w hu hv
  obtain ⟨A, c, rfl⟩ := hu.form
  obtain ⟨A', c', rfl⟩ := hv.form
  have HC := hid hu
  have HD := hid hv
  have hn : l.length ≤ 9223372036854775807 := by omega
  have HE := hid he
  clear he
  clear hu hv
  go_enter Tryz.func9, Tryz.ntmps9
  go_wp2
  go_loopw [5] (fun i wr => ∃ k : Nat, k ≤ l.length ∧ i = .int .i64 k ∧ Below w.heap.size w wr) (fun i _ => l.length - (intOf i).toNat)
  case atStart => exact ⟨0, Nat.zero_le _, rfl, Below.refl _ _⟩
  case round =>
    obtain ⟨k, hk, rfl, hb⟩ := hrel
    by_cases hlt : k < l.length
    · obtain ⟨x, hx⟩ : ∃ x, l[k]? = some x := ⟨_, List.getElem?_eq_getElem hlt⟩
      obtain ⟨bc, offc, rfl, hblc, hcc⟩ := RdC.at_ FClass.len HC.out hx
      obtain ⟨bd, offd, rfl, hbld, hcd⟩ := RdC.at_ FClass.len HD.out hx
      have HE2 := hid (HE.out x (List.mem_of_getElem? hx))
      clear hx
      obtain ⟨z0, z1, z2, z3⟩ := x
      rw [FClass.c_eq] at hcc hcd
      obtain ⟨u0, e0, q0⟩ := hcc 0 _ rfl
      obtain rfl := q0.val
      clear q0
      have c_0 : wr.cell? ⟨bc, offc + k * 4, none⟩ = some (.string z0) := (hb.cell (p := ⟨bc, _, none⟩) hblc).trans (by simpa using e0)
      clear e0
      obtain ⟨u1, e1, q1⟩ := hcc 1 _ rfl
      obtain rfl := q1.val
      clear q1
      have c_1 : wr.cell? ⟨bc, offc + k * 4 + 1, none⟩ = some (.string z1) := (hb.cell (p := ⟨bc, _, none⟩) hblc).trans (by simpa using e1)
      clear e1
      obtain ⟨u2, e2, q2⟩ := hcc 2 _ rfl
      obtain ⟨A2, c2, rfl⟩ := q2.form
      have R2 := hid q2
      clear q2
      have c_2 : wr.cell? ⟨bc, offc + k * 4 + 2, none⟩ = some (.slice A2 z2.length c2) := (hb.cell (p := ⟨bc, _, none⟩) hblc).trans (by simpa using e2)
      clear e2
      obtain ⟨u3, e3, q3⟩ := hcc 3 _ rfl
      obtain ⟨A3, c3, rfl⟩ := q3.form
      have R3 := hid q3
      clear q3
      have c_3 : wr.cell? ⟨bc, offc + k * 4 + 3, none⟩ = some (.slice A3 z3.length c3) := (hb.cell (p := ⟨bc, _, none⟩) hblc).trans (by simpa using e3)
      clear e3
      obtain ⟨u0, e0, q0⟩ := hcd 0 _ rfl
      obtain rfl := q0.val
      clear q0
      have d_0 : wr.cell? ⟨bd, offd + k * 4, none⟩ = some (.string z0) := (hb.cell (p := ⟨bd, _, none⟩) hbld).trans (by simpa using e0)
      clear e0
      obtain ⟨u1, e1, q1⟩ := hcd 1 _ rfl
      obtain rfl := q1.val
      clear q1
      have d_1 : wr.cell? ⟨bd, offd + k * 4 + 1, none⟩ = some (.string z1) := (hb.cell (p := ⟨bd, _, none⟩) hbld).trans (by simpa using e1)
      clear e1
      obtain ⟨u2, e2, q2⟩ := hcd 2 _ rfl
      obtain ⟨B2, d2, rfl⟩ := q2.form
      have T2 := hid q2
      clear q2
      have d_2 : wr.cell? ⟨bd, offd + k * 4 + 2, none⟩ = some (.slice B2 z2.length d2) := (hb.cell (p := ⟨bd, _, none⟩) hbld).trans (by simpa using e2)
      clear e2
      obtain ⟨u3, e3, q3⟩ := hcd 3 _ rfl
      obtain ⟨B3, d3, rfl⟩ := q3.form
      have T3 := hid q3
      clear q3
      have d_3 : wr.cell? ⟨bd, offd + k * 4 + 3, none⟩ = some (.slice B3 z3.length d3) := (hb.cell (p := ⟨bd, _, none⟩) hbld).trans (by simpa using e3)
      clear e3
      clear hcc hcd
      go_wp2_with fail
      go_still_tail 8, (by kernel_rfl)
      have hbd : Below w.heap.size w wr.drew := hb.drew
      change wpList _ _ _ _ _ wr.drew
      generalize wr.drew = wd at *
      go_wp2_with (go_at_call 30; refine (HE2.out [.string z0, .string z1, .slice A2 z2.length c2, .slice A3 z3.length c3] [.string z0, .string z1, .slice B2 z2.length d2, .slice B3 z3.length d3] _ (by rw [FClass.c_eq]; exact (RdVs.cons (by unfold RdC; rfl) (RdVs.cons (by unfold RdC; rfl) (RdVs.cons (R2.out.on hbd (Nat.le_refl _) hbd.size) (RdVs.cons (R3.out.on hbd (Nat.le_refl _) hbd.size) (RdVs.nil _ _)))))) (by rw [FClass.c_eq]; exact (RdVs.cons (by unfold RdC; rfl) (RdVs.cons (by unfold RdC; rfl) (RdVs.cons (T2.out.on hbd (Nat.le_refl _) hbd.size) (RdVs.cons (T3.out.on hbd (Nat.le_refl _) hbd.size) (RdVs.nil _ _))))))).mono ?_; rintro e w2 ⟨rfl, hb2⟩)
      go_roundw
      case rel => exact ⟨k + 1, by omega, by go_num, hbd.trans (hb2.mono hbd.size)⟩
      case measure => simp [intOf]; omega
    · obtain rfl : k = l.length := by omega
      clear hlt
      go_wp2_with fail
      go_ret
      exact ⟨rfl, hb⟩
def EqNode (x : FNode) : Prop := ∀ (us vs : List Value) (w : World), RdVs w w.heap.size x.c us → RdVs w w.heap.size x.c vs → Calls Tryz.prog 31 #[.agg us.toArray, .agg vs.toArray] w fun e w' => e = .returned (.bool true) ∧ Below w.heap.size w w'
def EqNodeS (l : List FNode) : Prop := ∀ (u v : Value) (w : World), RdC w w.heap.size (.s 61 4 l.length (FNode.flat l)) u → RdC w w.heap.size (.s 61 4 l.length (FNode.flat l)) v → Calls Tryz.prog 10 #[u, v] w fun e w' => e = .returned (.bool true) ∧ Below w.heap.size w w'
theorem eqNode_of (z0 : Int) (z1 : Int) (z2 : ByteArray) (z3 : List FNode) (h3 : EqNodeS z3) : EqNode ⟨z0, z1, z2, z3⟩ := by
  intro us vs w hr hs
  rw [FNode.c_eq] at hr hs
  obtain ⟨us0, rfl, hr_0⟩ := hr.unv
  obtain ⟨us1, rfl, hr_1⟩ := hr_0.unv
  obtain ⟨us2, rfl, hr_2⟩ := hr_1.unv
  obtain ⟨A3, c3, us3, rfl, r3, hr_3⟩ := hr_2.uns
  obtain rfl := hr_3.un0
  obtain ⟨vs0, rfl, hs_0⟩ := hs.unv
  obtain ⟨vs1, rfl, hs_1⟩ := hs_0.unv
  obtain ⟨vs2, rfl, hs_2⟩ := hs_1.unv
  obtain ⟨B3, d3, vs3, rfl, t3, hs_3⟩ := hs_2.uns
  obtain rfl := hs_3.un0
  clear hr hs hr_0 hs_0 hr_1 hs_1 hr_2 hs_2 hr_3 hs_3
  have R3 := hid r3
  have T3 := hid t3
  clear r3 t3
  have H3 := hid h3
  clear h3
  go_enter Tryz.func31, Tryz.ntmps31
  go_wp2_with fail
  refine calls_worldD _ (fun X => Blk X w.heap.size 61 #[.int .i64 z0, .int .i64 z1, .string z2, .slice A3 z3.length c3] ∧ Blk X (w.heap.size + 1) 61 #[.int .i64 z0, .int .i64 z1, .string z2, .slice B3 z3.length d3] ∧ Below w.heap.size w X) ⟨(Blk.new w _ _).alloc _, Blk.new' (w.alloc _) _ _ _ (by simp), ((Below.refl _ _).alloc (Nat.le_refl _) _).alloc (by simp) _⟩ ?_
  rintro X0 ⟨ba, bb, hB⟩
  have s0 := bb.lt
  refine (H3.out _ _ _ (R3.out.on hB (Nat.le_refl _) (by omega)) (T3.out.on hB (Nat.le_refl _) (by omega))).mono ?_
  rintro e Y0 ⟨rfl, hb⟩
  replace ba := ba.below hb (Nat.le_refl _)
  replace bb := bb.below hb (Nat.le_refl _)
  replace hB := hB.trans (hb.mono (by omega))
  clear hb
  have ba_l := ba.lt
  have bb_l := bb.lt
  go_wp2_with fail
  go_ret
  exact ⟨rfl, hB⟩
theorem eqNodeS_of (l : List FNode) (hl : l.length ≤ 1000000000) (he : ∀ x, x ∈ l → EqNode x) : EqNodeS l := by
  intro u v w hu hv
  obtain ⟨A, c, rfl⟩ := hu.form
  obtain ⟨A', c', rfl⟩ := hv.form
  have HC := hid hu
  have HD := hid hv
  have hn : l.length ≤ 9223372036854775807 := by omega
  have HE := hid he
  clear he
  clear hu hv
  go_enter Tryz.func10, Tryz.ntmps10
  go_wp2
  go_loopw [5] (fun i wr => ∃ k : Nat, k ≤ l.length ∧ i = .int .i64 k ∧ Below w.heap.size w wr) (fun i _ => l.length - (intOf i).toNat)
  case atStart => exact ⟨0, Nat.zero_le _, rfl, Below.refl _ _⟩
  case round =>
    obtain ⟨k, hk, rfl, hb⟩ := hrel
    by_cases hlt : k < l.length
    · obtain ⟨x, hx⟩ : ∃ x, l[k]? = some x := ⟨_, List.getElem?_eq_getElem hlt⟩
      obtain ⟨bc, offc, rfl, hblc, hcc⟩ := RdC.at_ FNode.len HC.out hx
      obtain ⟨bd, offd, rfl, hbld, hcd⟩ := RdC.at_ FNode.len HD.out hx
      have HE2 := hid (HE.out x (List.mem_of_getElem? hx))
      clear hx
      obtain ⟨z0, z1, z2, z3⟩ := x
      rw [FNode.c_eq] at hcc hcd
      obtain ⟨u0, e0, q0⟩ := hcc 0 _ rfl
      obtain rfl := q0.val
      clear q0
      have c_0 : wr.cell? ⟨bc, offc + k * 4, none⟩ = some (.int .i64 z0) := (hb.cell (p := ⟨bc, _, none⟩) hblc).trans (by simpa using e0)
      clear e0
      obtain ⟨u1, e1, q1⟩ := hcc 1 _ rfl
      obtain rfl := q1.val
      clear q1
      have c_1 : wr.cell? ⟨bc, offc + k * 4 + 1, none⟩ = some (.int .i64 z1) := (hb.cell (p := ⟨bc, _, none⟩) hblc).trans (by simpa using e1)
      clear e1
      obtain ⟨u2, e2, q2⟩ := hcc 2 _ rfl
      obtain rfl := q2.val
      clear q2
      have c_2 : wr.cell? ⟨bc, offc + k * 4 + 2, none⟩ = some (.string z2) := (hb.cell (p := ⟨bc, _, none⟩) hblc).trans (by simpa using e2)
      clear e2
      obtain ⟨u3, e3, q3⟩ := hcc 3 _ rfl
      obtain ⟨A3, c3, rfl⟩ := q3.form
      have R3 := hid q3
      clear q3
      have c_3 : wr.cell? ⟨bc, offc + k * 4 + 3, none⟩ = some (.slice A3 z3.length c3) := (hb.cell (p := ⟨bc, _, none⟩) hblc).trans (by simpa using e3)
      clear e3
      obtain ⟨u0, e0, q0⟩ := hcd 0 _ rfl
      obtain rfl := q0.val
      clear q0
      have d_0 : wr.cell? ⟨bd, offd + k * 4, none⟩ = some (.int .i64 z0) := (hb.cell (p := ⟨bd, _, none⟩) hbld).trans (by simpa using e0)
      clear e0
      obtain ⟨u1, e1, q1⟩ := hcd 1 _ rfl
      obtain rfl := q1.val
      clear q1
      have d_1 : wr.cell? ⟨bd, offd + k * 4 + 1, none⟩ = some (.int .i64 z1) := (hb.cell (p := ⟨bd, _, none⟩) hbld).trans (by simpa using e1)
      clear e1
      obtain ⟨u2, e2, q2⟩ := hcd 2 _ rfl
      obtain rfl := q2.val
      clear q2
      have d_2 : wr.cell? ⟨bd, offd + k * 4 + 2, none⟩ = some (.string z2) := (hb.cell (p := ⟨bd, _, none⟩) hbld).trans (by simpa using e2)
      clear e2
      obtain ⟨u3, e3, q3⟩ := hcd 3 _ rfl
      obtain ⟨B3, d3, rfl⟩ := q3.form
      have T3 := hid q3
      clear q3
      have d_3 : wr.cell? ⟨bd, offd + k * 4 + 3, none⟩ = some (.slice B3 z3.length d3) := (hb.cell (p := ⟨bd, _, none⟩) hbld).trans (by simpa using e3)
      clear e3
      clear hcc hcd
      go_wp2_with fail
      go_still_tail 8, (by kernel_rfl)
      have hbd : Below w.heap.size w wr.drew := hb.drew
      change wpList _ _ _ _ _ wr.drew
      generalize wr.drew = wd at *
      go_wp2_with (go_at_call 31; refine (HE2.out [.int .i64 z0, .int .i64 z1, .string z2, .slice A3 z3.length c3] [.int .i64 z0, .int .i64 z1, .string z2, .slice B3 z3.length d3] _ (by rw [FNode.c_eq]; exact (RdVs.cons (by unfold RdC; rfl) (RdVs.cons (by unfold RdC; rfl) (RdVs.cons (by unfold RdC; rfl) (RdVs.cons (R3.out.on hbd (Nat.le_refl _) hbd.size) (RdVs.nil _ _)))))) (by rw [FNode.c_eq]; exact (RdVs.cons (by unfold RdC; rfl) (RdVs.cons (by unfold RdC; rfl) (RdVs.cons (by unfold RdC; rfl) (RdVs.cons (T3.out.on hbd (Nat.le_refl _) hbd.size) (RdVs.nil _ _))))))).mono ?_; rintro e w2 ⟨rfl, hb2⟩)
      go_roundw
      case rel => exact ⟨k + 1, by omega, by go_num, hbd.trans (hb2.mono hbd.size)⟩
      case measure => simp [intOf]; omega
    · obtain rfl : k = l.length := by omega
      clear hlt
      go_wp2_with fail
      go_ret
      exact ⟨rfl, hb⟩
mutual
theorem eqNode_any : ∀ (x : FNode), x.wt ≤ 1000000000 → EqNode x
  | .mk a0 a1 a2 a3, hw => by
    unfold FNode.wt at hw
    exact eqNode_of a0 a1 a2 a3 (eqNodeS_of a3 (by omega) (eqNode_all a3 (by omega)))
theorem eqNode_all : ∀ (l : List FNode), l.length + FNode.wts l ≤ 1000000000 → ∀ x, x ∈ l → EqNode x
  | [], _, x, hx => by cases hx
  | y :: r, hw, x, hx => by
    unfold FNode.wts at hw
    simp only [List.length_cons] at hw
    rcases List.mem_cons.1 hx with e | hx
    · rw [e]
      exact eqNode_any y (by omega)
    · exact eqNode_all r (by omega) x hx
end
theorem eqNodeS_any (l : List FNode) (hw : l.length + FNode.wts l ≤ 1000000000) : EqNodeS l := (eqNodeS_of l (by omega) (eqNode_all l hw))
end Go.Proofs.YtimiieckkdogeaaGreat
