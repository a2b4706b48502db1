/-
 Parts of the proof: EqLu. Conditions: none.
-/
import Derived.Test.YtkkjnfappndmpaaGreatDoorQFold
import Derived.Test.YtkkjnfappndmpaaGreatDoorQaa
set_option linter.unusedVariables false
set_option linter.unusedSimpArgs false
namespace Go.Proofs.YtkkjnfappndmpaaGreatDoor
set_option maxHeartbeats 40000000
open Lib (hid)
open Go.ChangeShapes Go.WideShapes Go.ChangeAt Go.RowKit Go.Deep Go.Joins
open Go.ChangeMaps (open_string shut_string)
set_option maxRecDepth 100000
def EqEntryS (l : List FEntry) : Prop := ∀ (u v : Value) (w : World), RdC w w.heap.size (.s 114 8 l.length (FEntry.flat l)) u → RdC w w.heap.size (.s 114 8 l.length (FEntry.flat l)) v → Calls Tryz.prog 141 #[u, v] w fun e w' => e = .returned (.bool true) ∧ Below w.heap.size w w'
def EqValue (x : FValue) : Prop := ∀ (us vs : List Value) (w : World), RdVs w w.heap.size x.c us → RdVs w w.heap.size x.c vs → Calls Tryz.prog 120 #[.agg us.toArray, .agg vs.toArray] w fun e w' => e = .returned (.bool true) ∧ Below w.heap.size w w'
theorem eqValue_of (z0 : Int) (z1 : Int) (z2 : ByteArray) (z3 : Int) (z4 : List FEntry) (h4 : EqEntryS z4) : EqValue ⟨z0, z1, z2, z3, z4⟩ := by
 intro us vs w hr hs
 rw [FValue.c_eq] at hr hs
 obtain ⟨us0, rfl, hr_0⟩ := hr.unv
 obtain ⟨us1, rfl, hr_1⟩ := hr_0.unv
 obtain ⟨us2, rfl, hr_2⟩ := hr_1.unv
 obtain ⟨us3, rfl, hr_3⟩ := hr_2.unv
 obtain ⟨A4, c4, us4, rfl, r4, hr_4⟩ := hr_3.uns
 obtain rfl := hr_4.un0
 obtain ⟨vs0, rfl, hs_0⟩ := hs.unv
 obtain ⟨vs1, rfl, hs_1⟩ := hs_0.unv
 obtain ⟨vs2, rfl, hs_2⟩ := hs_1.unv
 obtain ⟨vs3, rfl, hs_3⟩ := hs_2.unv
 obtain ⟨B4, d4, vs4, rfl, t4, hs_4⟩ := hs_3.uns
 obtain rfl := hs_4.un0
 clear hr hs hr_0 hs_0 hr_1 hs_1 hr_2 hs_2 hr_3 hs_3 hr_4 hs_4
 have R4 := hid r4
 have T4 := hid t4
 clear r4 t4
 have H4 := hid h4
 clear h4
 go_enter Tryz.func120, Tryz.ntmps120
 go_wp2_with fail
 refine calls_worldD _ (fun X => Blk X w.heap.size 77 #[.int .i64 z0, .int .i64 z1, .string z2, .int .i64 z3, .slice A4 z4.length c4] ∧ Blk X (w.heap.size + 1) 77 #[.int .i64 z0, .int .i64 z1, .string z2, .int .i64 z3, .slice B4 z4.length d4] ∧ Below w.heap.size w X) ⟨(Blk.new w _ _).alloc _, Blk.new' (w.alloc _) _ _ _ qag, ((Below.refl _ _).alloc nr _).alloc qag _⟩ ?_
 rintro X0 ⟨ba, bb, hB⟩
 have s0 := bb.lt
 refine (H4.out _ _ _ (R4.out.on hB nr qaa) (T4.out.on hB nr qaa)).mono ?_
 rintro e Y0 ⟨rfl, hb⟩
 exact zz44
def EqMethod (x : FMethod) : Prop := ∀ (us vs : List Value) (w : World), RdVs w w.heap.size x.c us → RdVs w w.heap.size x.c vs → Calls Tryz.prog 80 #[.agg us.toArray, .agg vs.toArray] w fun e w' => e = .returned (.bool true) ∧ Below w.heap.size w w'
def EqMethodS (l : List FMethod) : Prop := ∀ (u v : Value) (w : World), RdC w w.heap.size (.s 87 5 l.length (FMethod.flat l)) u → RdC w w.heap.size (.s 87 5 l.length (FMethod.flat l)) v → Calls Tryz.prog 45 #[u, v] w fun e w' => e = .returned (.bool true) ∧ Below w.heap.size w w'
theorem eqMethod_of (z0 : ByteArray) (z1 : ByteArray) (z2 : ByteArray) (z3 : Bool) (z4 : Bool)  : EqMethod ⟨z0, z1, z2, z3, z4⟩ := by
 intro us vs w hr hs
 rw [FMethod.c_eq] at hr hs
 obtain ⟨us0, rfl, hr_0⟩ := hr.unv
 obtain ⟨us1, rfl, hr_1⟩ := hr_0.unv
 obtain ⟨us2, rfl, hr_2⟩ := hr_1.unv
 obtain ⟨us3, rfl, hr_3⟩ := hr_2.unv
 obtain ⟨us4, rfl, hr_4⟩ := hr_3.unv
 obtain rfl := hr_4.un0
 obtain ⟨vs0, rfl, hs_0⟩ := hs.unv
 obtain ⟨vs1, rfl, hs_1⟩ := hs_0.unv
 obtain ⟨vs2, rfl, hs_2⟩ := hs_1.unv
 obtain ⟨vs3, rfl, hs_3⟩ := hs_2.unv
 obtain ⟨vs4, rfl, hs_4⟩ := hs_3.unv
 obtain rfl := hs_4.un0
 clear hr hs hr_0 hs_0 hr_1 hs_1 hr_2 hs_2 hr_3 hs_3 hr_4 hs_4
 go_enter Tryz.func80, Tryz.ntmps80
 go_wp2_with fail
 go_ret
 exact ⟨rfl, by repeat (first | exact Below.refl _ _ | (refine Below.alloc ?_ (by simp; try omega) _))⟩
theorem eqMethodS_of (l : List FMethod) (hl : l.length ≤ 1000000000) (he : ∀ x, x ∈ l → EqMethod x) : EqMethodS l := by
 intro u v w hu hv
 obtain ⟨A, c, rfl⟩ := hu.form
 obtain ⟨A', c', rfl⟩ := hv.form
 have HC := hid hu
 have HD := hid hv
 have hn : l.length ≤ 9223372036854775807 := qaa
 have HE := hid he
 clear he
 clear hu hv
 go_enter Tryz.func45, Tryz.ntmps45
 go_wp2
 go_loopw [5] (fun i wr => ∃ k : Nat, k ≤ l.length ∧ i = .int .i64 k ∧ Below w.heap.size w wr) (fun i _ => l.length - (intOf i).toNat)
 case atStart => exact zz132
 case round =>
  obtain ⟨k, hk, rfl, hb⟩ := hrel
  by_cases hlt : k < l.length
  ·obtain ⟨x, hx⟩ : ∃ x, l[k]? = some x := ⟨_, List.getElem?_eq_getElem hlt⟩
   obtain ⟨bc, offc, rfl, hblc, hcc⟩ := RdC.at_ FMethod.len HC.out hx
   obtain ⟨bd, offd, rfl, hbld, hcd⟩ := RdC.at_ FMethod.len HD.out hx
   have HE2 := hid (HE.out x (List.mem_of_getElem? hx))
   clear hx
   obtain ⟨z0, z1, z2, z3, z4⟩ := x
   rw [FMethod.c_eq] at hcc hcd
   obtain ⟨u0, e0, q0⟩ := hcc 0 _ rfl
   obtain rfl := q0.val
   clear q0
   have c_0 : wr.cell? ⟨bc, offc + k * 5, none⟩ = some (.string z0) := (hb.cell (p := ⟨bc, _, none⟩) hblc).trans qa3
   clear e0
   obtain ⟨u1, e1, q1⟩ := hcc 1 _ rfl
   obtain rfl := q1.val
   clear q1
   have c_1 : wr.cell? ⟨bc, offc + k * 5 + 1, none⟩ = some (.string z1) := (hb.cell (p := ⟨bc, _, none⟩) hblc).trans qa4
   clear e1
   obtain ⟨u2, e2, q2⟩ := hcc 2 _ rfl
   obtain rfl := q2.val
   clear q2
   have c_2 : wr.cell? ⟨bc, offc + k * 5 + 2, none⟩ = some (.string z2) := (hb.cell (p := ⟨bc, _, none⟩) hblc).trans qa5
   clear e2
   obtain ⟨u3, e3, q3⟩ := hcc 3 _ rfl
   obtain rfl := q3.val
   clear q3
   have c_3 : wr.cell? ⟨bc, offc + k * 5 + 3, none⟩ = some (.bool z3) := (hb.cell (p := ⟨bc, _, none⟩) hblc).trans qa6
   clear e3
   obtain ⟨u4, e4, q4⟩ := hcc 4 _ rfl
   obtain rfl := q4.val
   clear q4
   have c_4 : wr.cell? ⟨bc, offc + k * 5 + 4, none⟩ = some (.bool z4) := (hb.cell (p := ⟨bc, _, none⟩) hblc).trans qbn
   clear e4
   obtain ⟨u0, e0, q0⟩ := hcd 0 _ rfl
   obtain rfl := q0.val
   clear q0
   have d_0 : wr.cell? ⟨bd, offd + k * 5, none⟩ = some (.string z0) := (hb.cell (p := ⟨bd, _, none⟩) hbld).trans qa3
   clear e0
   obtain ⟨u1, e1, q1⟩ := hcd 1 _ rfl
   obtain rfl := q1.val
   clear q1
   have d_1 : wr.cell? ⟨bd, offd + k * 5 + 1, none⟩ = some (.string z1) := (hb.cell (p := ⟨bd, _, none⟩) hbld).trans qa4
   clear e1
   obtain ⟨u2, e2, q2⟩ := hcd 2 _ rfl
   obtain rfl := q2.val
   clear q2
   have d_2 : wr.cell? ⟨bd, offd + k * 5 + 2, none⟩ = some (.string z2) := (hb.cell (p := ⟨bd, _, none⟩) hbld).trans qa5
   clear e2
   obtain ⟨u3, e3, q3⟩ := hcd 3 _ rfl
   obtain rfl := q3.val
   clear q3
   have d_3 : wr.cell? ⟨bd, offd + k * 5 + 3, none⟩ = some (.bool z3) := (hb.cell (p := ⟨bd, _, none⟩) hbld).trans qa6
   clear e3
   obtain ⟨u4, e4, q4⟩ := hcd 4 _ rfl
   obtain rfl := q4.val
   clear q4
   have d_4 : wr.cell? ⟨bd, offd + k * 5 + 4, none⟩ = some (.bool z4) := (hb.cell (p := ⟨bd, _, none⟩) hbld).trans qbn
   clear e4
   clear hcc hcd
   go_wp2_with fail
   go_still_tail 8, qab
   have hbd : Below w.heap.size w wr.drew := hb.drew
   change wpList _ _ _ _ _ wr.drew
   generalize wr.drew = wd at *
   go_wp2_with (go_at_call 80; refine (HE2.out [.string z0, .string z1, .string z2, .bool z3, .bool z4] [.string z0, .string z1, .string z2, .bool z3, .bool z4] _ qaz qaz).mono ?_; rintro e w2 ⟨rfl, hb2⟩)
   exact zz69
  ·exact zz91
theorem eqMethod_any (x : FMethod) (hw : x.wt ≤ 1000000000) : EqMethod x := by
 obtain ⟨z0, z1, z2, z3, z4⟩ := x
 exact eqMethod_of z0 z1 z2 z3 z4 
def EqField (x : FField) : Prop := ∀ (us vs : List Value) (w : World), RdVs w w.heap.size x.c us → RdVs w w.heap.size x.c vs → Calls Tryz.prog 79 #[.agg us.toArray, .agg vs.toArray] w fun e w' => e = .returned (.bool true) ∧ Below w.heap.size w w'
def EqFieldS (l : List FField) : Prop := ∀ (u v : Value) (w : World), RdC w w.heap.size (.s 79 8 l.length (FField.flat l)) u → RdC w w.heap.size (.s 79 8 l.length (FField.flat l)) v → Calls Tryz.prog 44 #[u, v] w fun e w' => e = .returned (.bool true) ∧ Below w.heap.size w w'
theorem eqField_of (z0 : ByteArray) (z1 : ByteArray) (z2 : Bool) (z3 : Int) (z4 : Int) (z5 : ByteArray) (z6 : Int) (z7 : List FEntry) (h3 : EqValue ⟨z3, z4, z5, z6, z7⟩) : EqField ⟨z0, z1, z2, ⟨z3, z4, z5, z6, z7⟩⟩ := by
 intro us vs w hr hs
 rw [FField.c_eq] at hr hs
 obtain ⟨us0, rfl, hr_0⟩ := hr.unv
 obtain ⟨us1, rfl, hr_1⟩ := hr_0.unv
 obtain ⟨us2, rfl, hr_2⟩ := hr_1.unv
 obtain ⟨us3, rfl, hr_3⟩ := hr_2.unv
 obtain ⟨us4, rfl, hr_4⟩ := hr_3.unv
 obtain ⟨us5, rfl, hr_5⟩ := hr_4.unv
 obtain ⟨us6, rfl, hr_6⟩ := hr_5.unv
 obtain ⟨A7, c7, us7, rfl, r7, hr_7⟩ := hr_6.uns
 obtain rfl := hr_7.un0
 obtain ⟨vs0, rfl, hs_0⟩ := hs.unv
 obtain ⟨vs1, rfl, hs_1⟩ := hs_0.unv
 obtain ⟨vs2, rfl, hs_2⟩ := hs_1.unv
 obtain ⟨vs3, rfl, hs_3⟩ := hs_2.unv
 obtain ⟨vs4, rfl, hs_4⟩ := hs_3.unv
 obtain ⟨vs5, rfl, hs_5⟩ := hs_4.unv
 obtain ⟨vs6, rfl, hs_6⟩ := hs_5.unv
 obtain ⟨B7, d7, vs7, rfl, t7, hs_7⟩ := hs_6.uns
 obtain rfl := hs_7.un0
 clear hr hs hr_0 hs_0 hr_1 hs_1 hr_2 hs_2 hr_3 hs_3 hr_4 hs_4 hr_5 hs_5 hr_6 hs_6 hr_7 hs_7
 have R7 := hid r7
 have T7 := hid t7
 clear r7 t7
 have H3 := hid h3
 clear h3
 go_enter Tryz.func79, Tryz.ntmps79
 go_wp2_with fail
 refine calls_worldD _ (fun X => Blk X w.heap.size 79 #[.string z0, .string z1, .bool z2, .int .i64 z3, .int .i64 z4, .string z5, .int .i64 z6, .slice A7 z7.length c7] ∧ Blk X (w.heap.size + 1) 79 #[.string z0, .string z1, .bool z2, .int .i64 z3, .int .i64 z4, .string z5, .int .i64 z6, .slice B7 z7.length d7] ∧ Below w.heap.size w X) ⟨(Blk.new w _ _).alloc _, Blk.new' (w.alloc _) _ _ _ qag, ((Below.refl _ _).alloc nr _).alloc qag _⟩ ?_
 rintro X0 ⟨ba, bb, hB⟩
 have s0 := bb.lt
 refine (H3.out [.int .i64 z3, .int .i64 z4, .string z5, .int .i64 z6, .slice A7 z7.length c7] [.int .i64 z3, .int .i64 z4, .string z5, .int .i64 z6, .slice B7 z7.length d7] _ (by rw [FValue.c_eq]; exact (RdVs.cons qaf (RdVs.cons qaf (RdVs.cons qaf (RdVs.cons qaf (RdVs.cons (R7.out.on hB nr qaa) (RdVs.nil _ _))))))) (by rw [FValue.c_eq]; exact (RdVs.cons qaf (RdVs.cons qaf (RdVs.cons qaf (RdVs.cons qaf (RdVs.cons (T7.out.on hB nr qaa) (RdVs.nil _ _)))))))).mono ?_
 rintro e Y0 ⟨rfl, hb⟩
 exact zz44
theorem eqFieldS_of (l : List FField) (hl : l.length ≤ 1000000000) (he : ∀ x, x ∈ l → EqField x) : EqFieldS l := by
 intro u v w hu hv
 obtain ⟨A, c, rfl⟩ := hu.form
 obtain ⟨A', c', rfl⟩ := hv.form
 have HC := hid hu
 have HD := hid hv
 have hn : l.length ≤ 9223372036854775807 := qaa
 have HE := hid he
 clear he
 clear hu hv
 go_enter Tryz.func44, Tryz.ntmps44
 go_wp2
 go_loopw [5] (fun i wr => ∃ k : Nat, k ≤ l.length ∧ i = .int .i64 k ∧ Below w.heap.size w wr) (fun i _ => l.length - (intOf i).toNat)
 case atStart => exact zz132
 case round =>
  obtain ⟨k, hk, rfl, hb⟩ := hrel
  by_cases hlt : k < l.length
  ·obtain ⟨x, hx⟩ : ∃ x, l[k]? = some x := ⟨_, List.getElem?_eq_getElem hlt⟩
   obtain ⟨bc, offc, rfl, hblc, hcc⟩ := RdC.at_ FField.len HC.out hx
   obtain ⟨bd, offd, rfl, hbld, hcd⟩ := RdC.at_ FField.len HD.out hx
   have HE2 := hid (HE.out x (List.mem_of_getElem? hx))
   clear hx
   obtain ⟨z0, z1, z2, ⟨z3, z4, z5, z6, z7⟩⟩ := x
   rw [FField.c_eq] at hcc hcd
   obtain ⟨u0, e0, q0⟩ := hcc 0 _ rfl
   obtain rfl := q0.val
   clear q0
   have c_0 : wr.cell? ⟨bc, offc + k * 8, none⟩ = some (.string z0) := (hb.cell (p := ⟨bc, _, none⟩) hblc).trans qa3
   clear e0
   obtain ⟨u1, e1, q1⟩ := hcc 1 _ rfl
   obtain rfl := q1.val
   clear q1
   have c_1 : wr.cell? ⟨bc, offc + k * 8 + 1, none⟩ = some (.string z1) := (hb.cell (p := ⟨bc, _, none⟩) hblc).trans qa4
   clear e1
   obtain ⟨u2, e2, q2⟩ := hcc 2 _ rfl
   obtain rfl := q2.val
   clear q2
   have c_2 : wr.cell? ⟨bc, offc + k * 8 + 2, none⟩ = some (.bool z2) := (hb.cell (p := ⟨bc, _, none⟩) hblc).trans qa5
   clear e2
   obtain ⟨u3, e3, q3⟩ := hcc 3 _ rfl
   obtain rfl := q3.val
   clear q3
   have c_3 : wr.cell? ⟨bc, offc + k * 8 + 3, none⟩ = some (.int .i64 z3) := (hb.cell (p := ⟨bc, _, none⟩) hblc).trans qa6
   clear e3
   obtain ⟨u4, e4, q4⟩ := hcc 4 _ rfl
   obtain rfl := q4.val
   clear q4
   have c_4 : wr.cell? ⟨bc, offc + k * 8 + 4, none⟩ = some (.int .i64 z4) := (hb.cell (p := ⟨bc, _, none⟩) hblc).trans qbn
   clear e4
   obtain ⟨u5, e5, q5⟩ := hcc 5 _ rfl
   obtain rfl := q5.val
   clear q5
   have c_5 : wr.cell? ⟨bc, offc + k * 8 + 5, none⟩ = some (.string z5) := (hb.cell (p := ⟨bc, _, none⟩) hblc).trans (by simpa using e5)
   clear e5
   obtain ⟨u6, e6, q6⟩ := hcc 6 _ rfl
   obtain rfl := q6.val
   clear q6
   have c_6 : wr.cell? ⟨bc, offc + k * 8 + 6, none⟩ = some (.int .i64 z6) := (hb.cell (p := ⟨bc, _, none⟩) hblc).trans (by simpa using e6)
   clear e6
   obtain ⟨u7, e7, q7⟩ := hcc 7 _ rfl
   obtain ⟨A7, c7, rfl⟩ := q7.form
   have R7 := hid q7
   clear q7
   have c_7 : wr.cell? ⟨bc, offc + k * 8 + 7, none⟩ = some (.slice A7 z7.length c7) := (hb.cell (p := ⟨bc, _, none⟩) hblc).trans (by simpa using e7)
   clear e7
   obtain ⟨u0, e0, q0⟩ := hcd 0 _ rfl
   obtain rfl := q0.val
   clear q0
   have d_0 : wr.cell? ⟨bd, offd + k * 8, none⟩ = some (.string z0) := (hb.cell (p := ⟨bd, _, none⟩) hbld).trans qa3
   clear e0
   obtain ⟨u1, e1, q1⟩ := hcd 1 _ rfl
   obtain rfl := q1.val
   clear q1
   have d_1 : wr.cell? ⟨bd, offd + k * 8 + 1, none⟩ = some (.string z1) := (hb.cell (p := ⟨bd, _, none⟩) hbld).trans qa4
   clear e1
   obtain ⟨u2, e2, q2⟩ := hcd 2 _ rfl
   obtain rfl := q2.val
   clear q2
   have d_2 : wr.cell? ⟨bd, offd + k * 8 + 2, none⟩ = some (.bool z2) := (hb.cell (p := ⟨bd, _, none⟩) hbld).trans qa5
   clear e2
   obtain ⟨u3, e3, q3⟩ := hcd 3 _ rfl
   obtain rfl := q3.val
   clear q3
   have d_3 : wr.cell? ⟨bd, offd + k * 8 + 3, none⟩ = some (.int .i64 z3) := (hb.cell (p := ⟨bd, _, none⟩) hbld).trans qa6
   clear e3
   obtain ⟨u4, e4, q4⟩ := hcd 4 _ rfl
   obtain rfl := q4.val
   clear q4
   have d_4 : wr.cell? ⟨bd, offd + k * 8 + 4, none⟩ = some (.int .i64 z4) := (hb.cell (p := ⟨bd, _, none⟩) hbld).trans qbn
   clear e4
   obtain ⟨u5, e5, q5⟩ := hcd 5 _ rfl
   obtain rfl := q5.val
   clear q5
   have d_5 : wr.cell? ⟨bd, offd + k * 8 + 5, none⟩ = some (.string z5) := (hb.cell (p := ⟨bd, _, none⟩) hbld).trans (by simpa using e5)
   clear e5
   obtain ⟨u6, e6, q6⟩ := hcd 6 _ rfl
   obtain rfl := q6.val
   clear q6
   have d_6 : wr.cell? ⟨bd, offd + k * 8 + 6, none⟩ = some (.int .i64 z6) := (hb.cell (p := ⟨bd, _, none⟩) hbld).trans (by simpa using e6)
   clear e6
   obtain ⟨u7, e7, q7⟩ := hcd 7 _ rfl
   obtain ⟨B7, d7, rfl⟩ := q7.form
   have T7 := hid q7
   clear q7
   have d_7 : wr.cell? ⟨bd, offd + k * 8 + 7, none⟩ = some (.slice B7 z7.length d7) := (hb.cell (p := ⟨bd, _, none⟩) hbld).trans (by simpa using e7)
   clear e7
   clear hcc hcd
   go_wp2_with fail
   go_still_tail 8, qab
   have hbd : Below w.heap.size w wr.drew := hb.drew
   change wpList _ _ _ _ _ wr.drew
   generalize wr.drew = wd at *
   go_wp2_with (go_at_call 79; refine (HE2.out [.string z0, .string z1, .bool z2, .int .i64 z3, .int .i64 z4, .string z5, .int .i64 z6, .slice A7 z7.length c7] [.string z0, .string z1, .bool z2, .int .i64 z3, .int .i64 z4, .string z5, .int .i64 z6, .slice B7 z7.length d7] _ (by rw [FField.c_eq]; exact (RdVs.cons qaf (RdVs.cons qaf (RdVs.cons qaf (RdVs.cons qaf (RdVs.cons qaf (RdVs.cons qaf (RdVs.cons qaf (RdVs.cons (R7.out.on hbd nr hbd.size) (RdVs.nil _ _)))))))))) (by rw [FField.c_eq]; exact (RdVs.cons qaf (RdVs.cons qaf (RdVs.cons qaf (RdVs.cons qaf (RdVs.cons qaf (RdVs.cons qaf (RdVs.cons qaf (RdVs.cons (T7.out.on hbd nr hbd.size) (RdVs.nil _ _))))))))))).mono ?_; rintro e w2 ⟨rfl, hb2⟩)
   exact zz69
  ·exact zz91
def EqClass (x : FClass) : Prop := ∀ (us vs : List Value) (w : World), RdVs w w.heap.size x.c us → RdVs w w.heap.size x.c vs → Calls Tryz.prog 23 #[.agg us.toArray, .agg vs.toArray] w fun e w' => e = .returned (.bool true) ∧ Below w.heap.size w w'
def EqClassS (l : List FClass) : Prop := ∀ (u v : Value) (w : World), RdC w w.heap.size (.s 56 4 l.length (FClass.flat l)) u → RdC w w.heap.size (.s 56 4 l.length (FClass.flat l)) v → Calls Tryz.prog 8 #[u, v] w fun e w' => e = .returned (.bool true) ∧ Below w.heap.size w w'
theorem eqClass_of (z0 : ByteArray) (z1 : ByteArray) (z2 : List FField) (z3 : List FMethod) (h2 : EqFieldS z2) (h3 : EqMethodS z3) : EqClass ⟨z0, z1, z2, z3⟩ := by
 intro us vs w hr hs
 rw [FClass.c_eq] at hr hs
 obtain ⟨us0, rfl, hr_0⟩ := hr.unv
 obtain ⟨us1, rfl, hr_1⟩ := hr_0.unv
 obtain ⟨A2, c2, us2, rfl, r2, hr_2⟩ := hr_1.uns
 obtain ⟨A3, c3, us3, rfl, r3, hr_3⟩ := hr_2.uns
 obtain rfl := hr_3.un0
 obtain ⟨vs0, rfl, hs_0⟩ := hs.unv
 obtain ⟨vs1, rfl, hs_1⟩ := hs_0.unv
 obtain ⟨B2, d2, vs2, rfl, t2, hs_2⟩ := hs_1.uns
 obtain ⟨B3, d3, vs3, rfl, t3, hs_3⟩ := hs_2.uns
 obtain rfl := hs_3.un0
 clear hr hs hr_0 hs_0 hr_1 hs_1 hr_2 hs_2 hr_3 hs_3
 have R2 := hid r2
 have T2 := hid t2
 clear r2 t2
 have R3 := hid r3
 have T3 := hid t3
 clear r3 t3
 have H2 := hid h2
 clear h2
 have H3 := hid h3
 clear h3
 go_enter Tryz.func23, Tryz.ntmps23
 go_wp2_with fail
 refine calls_worldD _ (fun X => Blk X w.heap.size 56 #[.string z0, .string z1, .slice A2 z2.length c2, .slice A3 z3.length c3] ∧ Blk X (w.heap.size + 1) 56 #[.string z0, .string z1, .slice B2 z2.length d2, .slice B3 z3.length d3] ∧ Below w.heap.size w X) ⟨(Blk.new w _ _).alloc _, Blk.new' (w.alloc _) _ _ _ qag, ((Below.refl _ _).alloc nr _).alloc qag _⟩ ?_
 rintro X0 ⟨ba, bb, hB⟩
 have s0 := bb.lt
 refine (H2.out _ _ _ (R2.out.on hB nr qaa) (T2.out.on hB nr qaa)).mono ?_
 rintro e Y0 ⟨rfl, hb⟩
 replace ba := ba.below hb nr
 replace bb := bb.below hb nr
 replace hB := hB.trans (hb.mono qaa)
 clear hb
 have ba_3 : Y0.cell? ⟨w.heap.size, 3, none⟩ = some (.slice A3 z3.length c3) := ba.cell 3
 have ba_l := ba.lt
 have bb_3 : Y0.cell? ⟨w.heap.size + 1, 3, none⟩ = some (.slice B3 z3.length d3) := bb.cell 3
 have bb_l := bb.lt
 go_wp2_with fail
 clear ba_3 bb_3 ba_l bb_l
 refine calls_worldD _ (fun X => Blk X w.heap.size 56 #[.string z0, .string z1, .slice A2 z2.length c2, .slice A3 z3.length c3] ∧ Blk X (w.heap.size + 1) 56 #[.string z0, .string z1, .slice B2 z2.length d2, .slice B3 z3.length d3] ∧ Below w.heap.size w X) ⟨ba, bb, hB⟩ ?_
 clear ba bb hB
 rintro X1 ⟨ba, bb, hB⟩
 have s1 := bb.lt
 refine (H3.out _ _ _ (R3.out.on hB nr qaa) (T3.out.on hB nr qaa)).mono ?_
 rintro e Y1 ⟨rfl, hb⟩
 exact zz44
theorem eqClassS_of (l : List FClass) (hl : l.length ≤ 1000000000) (he : ∀ x, x ∈ l → EqClass x) : EqClassS l := by
 intro u v w hu hv
 obtain ⟨A, c, rfl⟩ := hu.form
 obtain ⟨A', c', rfl⟩ := hv.form
 have HC := hid hu
 have HD := hid hv
 have hn : l.length ≤ 9223372036854775807 := qaa
 have HE := hid he
 clear he
 clear hu hv
 go_enter Tryz.func8, Tryz.ntmps8
 go_wp2
 go_loopw [5] (fun i wr => ∃ k : Nat, k ≤ l.length ∧ i = .int .i64 k ∧ Below w.heap.size w wr) (fun i _ => l.length - (intOf i).toNat)
 case atStart => exact zz132
 case round =>
  obtain ⟨k, hk, rfl, hb⟩ := hrel
  by_cases hlt : k < l.length
  ·obtain ⟨x, hx⟩ : ∃ x, l[k]? = some x := ⟨_, List.getElem?_eq_getElem hlt⟩
   obtain ⟨bc, offc, rfl, hblc, hcc⟩ := RdC.at_ FClass.len HC.out hx
   obtain ⟨bd, offd, rfl, hbld, hcd⟩ := RdC.at_ FClass.len HD.out hx
   have HE2 := hid (HE.out x (List.mem_of_getElem? hx))
   clear hx
   obtain ⟨z0, z1, z2, z3⟩ := x
   rw [FClass.c_eq] at hcc hcd
   obtain ⟨u0, e0, q0⟩ := hcc 0 _ rfl
   obtain rfl := q0.val
   clear q0
   have c_0 : wr.cell? ⟨bc, offc + k * 4, none⟩ = some (.string z0) := (hb.cell (p := ⟨bc, _, none⟩) hblc).trans qa3
   clear e0
   obtain ⟨u1, e1, q1⟩ := hcc 1 _ rfl
   obtain rfl := q1.val
   clear q1
   have c_1 : wr.cell? ⟨bc, offc + k * 4 + 1, none⟩ = some (.string z1) := (hb.cell (p := ⟨bc, _, none⟩) hblc).trans qa4
   clear e1
   obtain ⟨u2, e2, q2⟩ := hcc 2 _ rfl
   obtain ⟨A2, c2, rfl⟩ := q2.form
   have R2 := hid q2
   clear q2
   have c_2 : wr.cell? ⟨bc, offc + k * 4 + 2, none⟩ = some (.slice A2 z2.length c2) := (hb.cell (p := ⟨bc, _, none⟩) hblc).trans qa5
   clear e2
   obtain ⟨u3, e3, q3⟩ := hcc 3 _ rfl
   obtain ⟨A3, c3, rfl⟩ := q3.form
   have R3 := hid q3
   clear q3
   have c_3 : wr.cell? ⟨bc, offc + k * 4 + 3, none⟩ = some (.slice A3 z3.length c3) := (hb.cell (p := ⟨bc, _, none⟩) hblc).trans qa6
   clear e3
   obtain ⟨u0, e0, q0⟩ := hcd 0 _ rfl
   obtain rfl := q0.val
   clear q0
   have d_0 : wr.cell? ⟨bd, offd + k * 4, none⟩ = some (.string z0) := (hb.cell (p := ⟨bd, _, none⟩) hbld).trans qa3
   clear e0
   obtain ⟨u1, e1, q1⟩ := hcd 1 _ rfl
   obtain rfl := q1.val
   clear q1
   have d_1 : wr.cell? ⟨bd, offd + k * 4 + 1, none⟩ = some (.string z1) := (hb.cell (p := ⟨bd, _, none⟩) hbld).trans qa4
   clear e1
   obtain ⟨u2, e2, q2⟩ := hcd 2 _ rfl
   obtain ⟨B2, d2, rfl⟩ := q2.form
   have T2 := hid q2
   clear q2
   have d_2 : wr.cell? ⟨bd, offd + k * 4 + 2, none⟩ = some (.slice B2 z2.length d2) := (hb.cell (p := ⟨bd, _, none⟩) hbld).trans qa5
   clear e2
   obtain ⟨u3, e3, q3⟩ := hcd 3 _ rfl
   obtain ⟨B3, d3, rfl⟩ := q3.form
   have T3 := hid q3
   clear q3
   have d_3 : wr.cell? ⟨bd, offd + k * 4 + 3, none⟩ = some (.slice B3 z3.length d3) := (hb.cell (p := ⟨bd, _, none⟩) hbld).trans qa6
   clear e3
   clear hcc hcd
   go_wp2_with fail
   go_still_tail 8, qab
   have hbd : Below w.heap.size w wr.drew := hb.drew
   change wpList _ _ _ _ _ wr.drew
   generalize wr.drew = wd at *
   go_wp2_with (go_at_call 23; refine (HE2.out [.string z0, .string z1, .slice A2 z2.length c2, .slice A3 z3.length c3] [.string z0, .string z1, .slice B2 z2.length d2, .slice B3 z3.length d3] _ (by rw [FClass.c_eq]; exact (RdVs.cons qaf (RdVs.cons qaf (RdVs.cons (R2.out.on hbd nr hbd.size) (RdVs.cons (R3.out.on hbd nr hbd.size) (RdVs.nil _ _)))))) (by rw [FClass.c_eq]; exact (RdVs.cons qaf (RdVs.cons qaf (RdVs.cons (T2.out.on hbd nr hbd.size) (RdVs.cons (T3.out.on hbd nr hbd.size) (RdVs.nil _ _))))))).mono ?_; rintro e w2 ⟨rfl, hb2⟩)
   exact zz69
  ·exact zz91
def EqNode (x : FNode) : Prop := ∀ (us vs : List Value) (w : World), RdVs w w.heap.size x.c us → RdVs w w.heap.size x.c vs → Calls Tryz.prog 46 #[.agg us.toArray, .agg vs.toArray] w fun e w' => e = .returned (.bool true) ∧ Below w.heap.size w w'
def EqNodeS (l : List FNode) : Prop := ∀ (u v : Value) (w : World), RdC w w.heap.size (.s 44 4 l.length (FNode.flat l)) u → RdC w w.heap.size (.s 44 4 l.length (FNode.flat l)) v → Calls Tryz.prog 81 #[u, v] w fun e w' => e = .returned (.bool true) ∧ Below w.heap.size w w'
theorem eqNode_of (z0 : Int) (z1 : Int) (z2 : ByteArray) (z3 : List FNode) (h3 : EqNodeS z3) : EqNode ⟨z0, z1, z2, z3⟩ := by
 intro us vs w hr hs
 rw [FNode.c_eq] at hr hs
 obtain ⟨us0, rfl, hr_0⟩ := hr.unv
 obtain ⟨us1, rfl, hr_1⟩ := hr_0.unv
 obtain ⟨us2, rfl, hr_2⟩ := hr_1.unv
 obtain ⟨A3, c3, us3, rfl, r3, hr_3⟩ := hr_2.uns
 obtain rfl := hr_3.un0
 obtain ⟨vs0, rfl, hs_0⟩ := hs.unv
 obtain ⟨vs1, rfl, hs_1⟩ := hs_0.unv
 obtain ⟨vs2, rfl, hs_2⟩ := hs_1.unv
 obtain ⟨B3, d3, vs3, rfl, t3, hs_3⟩ := hs_2.uns
 obtain rfl := hs_3.un0
 clear hr hs hr_0 hs_0 hr_1 hs_1 hr_2 hs_2 hr_3 hs_3
 have R3 := hid r3
 have T3 := hid t3
 clear r3 t3
 have H3 := hid h3
 clear h3
 go_enter Tryz.func46, Tryz.ntmps46
 go_wp2_with fail
 refine calls_worldD _ (fun X => Blk X w.heap.size 44 #[.int .i64 z0, .int .i64 z1, .string z2, .slice A3 z3.length c3] ∧ Blk X (w.heap.size + 1) 44 #[.int .i64 z0, .int .i64 z1, .string z2, .slice B3 z3.length d3] ∧ Below w.heap.size w X) ⟨(Blk.new w _ _).alloc _, Blk.new' (w.alloc _) _ _ _ qag, ((Below.refl _ _).alloc nr _).alloc qag _⟩ ?_
 rintro X0 ⟨ba, bb, hB⟩
 have s0 := bb.lt
 refine (H3.out _ _ _ (R3.out.on hB nr qaa) (T3.out.on hB nr qaa)).mono ?_
 rintro e Y0 ⟨rfl, hb⟩
 exact zz44
theorem eqNodeS_of (l : List FNode) (hl : l.length ≤ 1000000000) (he : ∀ x, x ∈ l → EqNode x) : EqNodeS l := by
 intro u v w hu hv
 obtain ⟨A, c, rfl⟩ := hu.form
 obtain ⟨A', c', rfl⟩ := hv.form
 have HC := hid hu
 have HD := hid hv
 have hn : l.length ≤ 9223372036854775807 := qaa
 have HE := hid he
 clear he
 clear hu hv
 go_enter Tryz.func81, Tryz.ntmps81
 go_wp2
 go_loopw [5] (fun i wr => ∃ k : Nat, k ≤ l.length ∧ i = .int .i64 k ∧ Below w.heap.size w wr) (fun i _ => l.length - (intOf i).toNat)
 case atStart => exact zz132
 case round =>
  obtain ⟨k, hk, rfl, hb⟩ := hrel
  by_cases hlt : k < l.length
  ·obtain ⟨x, hx⟩ : ∃ x, l[k]? = some x := ⟨_, List.getElem?_eq_getElem hlt⟩
   obtain ⟨bc, offc, rfl, hblc, hcc⟩ := RdC.at_ FNode.len HC.out hx
   obtain ⟨bd, offd, rfl, hbld, hcd⟩ := RdC.at_ FNode.len HD.out hx
   have HE2 := hid (HE.out x (List.mem_of_getElem? hx))
   clear hx
   obtain ⟨z0, z1, z2, z3⟩ := x
   rw [FNode.c_eq] at hcc hcd
   obtain ⟨u0, e0, q0⟩ := hcc 0 _ rfl
   obtain rfl := q0.val
   clear q0
   have c_0 : wr.cell? ⟨bc, offc + k * 4, none⟩ = some (.int .i64 z0) := (hb.cell (p := ⟨bc, _, none⟩) hblc).trans qa3
   clear e0
   obtain ⟨u1, e1, q1⟩ := hcc 1 _ rfl
   obtain rfl := q1.val
   clear q1
   have c_1 : wr.cell? ⟨bc, offc + k * 4 + 1, none⟩ = some (.int .i64 z1) := (hb.cell (p := ⟨bc, _, none⟩) hblc).trans qa4
   clear e1
   obtain ⟨u2, e2, q2⟩ := hcc 2 _ rfl
   obtain rfl := q2.val
   clear q2
   have c_2 : wr.cell? ⟨bc, offc + k * 4 + 2, none⟩ = some (.string z2) := (hb.cell (p := ⟨bc, _, none⟩) hblc).trans qa5
   clear e2
   obtain ⟨u3, e3, q3⟩ := hcc 3 _ rfl
   obtain ⟨A3, c3, rfl⟩ := q3.form
   have R3 := hid q3
   clear q3
   have c_3 : wr.cell? ⟨bc, offc + k * 4 + 3, none⟩ = some (.slice A3 z3.length c3) := (hb.cell (p := ⟨bc, _, none⟩) hblc).trans qa6
   clear e3
   obtain ⟨u0, e0, q0⟩ := hcd 0 _ rfl
   obtain rfl := q0.val
   clear q0
   have d_0 : wr.cell? ⟨bd, offd + k * 4, none⟩ = some (.int .i64 z0) := (hb.cell (p := ⟨bd, _, none⟩) hbld).trans qa3
   clear e0
   obtain ⟨u1, e1, q1⟩ := hcd 1 _ rfl
   obtain rfl := q1.val
   clear q1
   have d_1 : wr.cell? ⟨bd, offd + k * 4 + 1, none⟩ = some (.int .i64 z1) := (hb.cell (p := ⟨bd, _, none⟩) hbld).trans qa4
   clear e1
   obtain ⟨u2, e2, q2⟩ := hcd 2 _ rfl
   obtain rfl := q2.val
   clear q2
   have d_2 : wr.cell? ⟨bd, offd + k * 4 + 2, none⟩ = some (.string z2) := (hb.cell (p := ⟨bd, _, none⟩) hbld).trans qa5
   clear e2
   obtain ⟨u3, e3, q3⟩ := hcd 3 _ rfl
   obtain ⟨B3, d3, rfl⟩ := q3.form
   have T3 := hid q3
   clear q3
   have d_3 : wr.cell? ⟨bd, offd + k * 4 + 3, none⟩ = some (.slice B3 z3.length d3) := (hb.cell (p := ⟨bd, _, none⟩) hbld).trans qa6
   clear e3
   clear hcc hcd
   go_wp2_with fail
   go_still_tail 8, qab
   have hbd : Below w.heap.size w wr.drew := hb.drew
   change wpList _ _ _ _ _ wr.drew
   generalize wr.drew = wd at *
   go_wp2_with (go_at_call 46; refine (HE2.out [.int .i64 z0, .int .i64 z1, .string z2, .slice A3 z3.length c3] [.int .i64 z0, .int .i64 z1, .string z2, .slice B3 z3.length d3] _ (by rw [FNode.c_eq]; exact (RdVs.cons qaf (RdVs.cons qaf (RdVs.cons qaf (RdVs.cons (R3.out.on hbd nr hbd.size) (RdVs.nil _ _)))))) (by rw [FNode.c_eq]; exact (RdVs.cons qaf (RdVs.cons qaf (RdVs.cons qaf (RdVs.cons (T3.out.on hbd nr hbd.size) (RdVs.nil _ _))))))).mono ?_; rintro e w2 ⟨rfl, hb2⟩)
   exact zz69
  ·exact zz91
mutual
theorem eqNode_any : ∀ (x : FNode), x.wt ≤ 1000000000 → EqNode x
 | .mk a0 a1 a2 a3, hw => by
  unfold FNode.wt at hw
  exact eqNode_of a0 a1 a2 a3 (eqNodeS_of a3 qaa (eqNode_all a3 qaa))
theorem eqNode_all : ∀ (l : List FNode), l.length + FNode.wts l ≤ 1000000000 → ∀ x, x ∈ l → EqNode x
 | [], _, x, hx => by cases hx
 | y :: r, hw, x, hx => by
  unfold FNode.wts at hw
  simp only [List.length_cons] at hw
  rcases List.mem_cons.1 hx with e | hx
  ·rw [e]
   exact eqNode_any y qaa
  ·exact eqNode_all r qaa x hx
end
def EqUnit (x : FUnit) : Prop := ∀ (us vs : List Value) (w : World), RdVs w w.heap.size x.c us → RdVs w w.heap.size x.c vs → Calls Tryz.prog 24 #[.agg us.toArray, .agg vs.toArray] w fun e w' => e = .returned (.bool true) ∧ Below w.heap.size w w'
def EqUnitS (l : List FUnit) : Prop := ∀ (u v : Value) (w : World), RdC w w.heap.size (.s 46 5 l.length (FUnit.flat l)) u → RdC w w.heap.size (.s 46 5 l.length (FUnit.flat l)) v → Calls Tryz.prog 9 #[u, v] w fun e w' => e = .returned (.bool true) ∧ Below w.heap.size w w'
theorem eqUnit_of (z0 : ByteArray) (z1 : Int) (z2 : Int) (z3 : ByteArray) (z4 : List FNode) (h1 : EqNode ⟨z1, z2, z3, z4⟩) : EqUnit ⟨z0, ⟨z1, z2, z3, z4⟩⟩ := by
 intro us vs w hr hs
 rw [FUnit.c_eq] at hr hs
 obtain ⟨us0, rfl, hr_0⟩ := hr.unv
 obtain ⟨us1, rfl, hr_1⟩ := hr_0.unv
 obtain ⟨us2, rfl, hr_2⟩ := hr_1.unv
 obtain ⟨us3, rfl, hr_3⟩ := hr_2.unv
 obtain ⟨A4, c4, us4, rfl, r4, hr_4⟩ := hr_3.uns
 obtain rfl := hr_4.un0
 obtain ⟨vs0, rfl, hs_0⟩ := hs.unv
 obtain ⟨vs1, rfl, hs_1⟩ := hs_0.unv
 obtain ⟨vs2, rfl, hs_2⟩ := hs_1.unv
 obtain ⟨vs3, rfl, hs_3⟩ := hs_2.unv
 obtain ⟨B4, d4, vs4, rfl, t4, hs_4⟩ := hs_3.uns
 obtain rfl := hs_4.un0
 clear hr hs hr_0 hs_0 hr_1 hs_1 hr_2 hs_2 hr_3 hs_3 hr_4 hs_4
 have R4 := hid r4
 have T4 := hid t4
 clear r4 t4
 have H1 := hid h1
 clear h1
 go_enter Tryz.func24, Tryz.ntmps24
 go_wp2_with fail
 refine calls_worldD _ (fun X => Blk X w.heap.size 46 #[.string z0, .int .i64 z1, .int .i64 z2, .string z3, .slice A4 z4.length c4] ∧ Blk X (w.heap.size + 1) 46 #[.string z0, .int .i64 z1, .int .i64 z2, .string z3, .slice B4 z4.length d4] ∧ Below w.heap.size w X) ⟨(Blk.new w _ _).alloc _, Blk.new' (w.alloc _) _ _ _ qag, ((Below.refl _ _).alloc nr _).alloc qag _⟩ ?_
 rintro X0 ⟨ba, bb, hB⟩
 have s0 := bb.lt
 refine (H1.out [.int .i64 z1, .int .i64 z2, .string z3, .slice A4 z4.length c4] [.int .i64 z1, .int .i64 z2, .string z3, .slice B4 z4.length d4] _ (by rw [FNode.c_eq]; exact (RdVs.cons qaf (RdVs.cons qaf (RdVs.cons qaf (RdVs.cons (R4.out.on hB nr qaa) (RdVs.nil _ _)))))) (by rw [FNode.c_eq]; exact (RdVs.cons qaf (RdVs.cons qaf (RdVs.cons qaf (RdVs.cons (T4.out.on hB nr qaa) (RdVs.nil _ _))))))).mono ?_
 rintro e Y0 ⟨rfl, hb⟩
 exact zz44
theorem eqUnitS_of (l : List FUnit) (hl : l.length ≤ 1000000000) (he : ∀ x, x ∈ l → EqUnit x) : EqUnitS l := by
 intro u v w hu hv
 obtain ⟨A, c, rfl⟩ := hu.form
 obtain ⟨A', c', rfl⟩ := hv.form
 have HC := hid hu
 have HD := hid hv
 have hn : l.length ≤ 9223372036854775807 := qaa
 have HE := hid he
 clear he
 clear hu hv
 go_enter Tryz.func9, Tryz.ntmps9
 go_wp2
 go_loopw [5] (fun i wr => ∃ k : Nat, k ≤ l.length ∧ i = .int .i64 k ∧ Below w.heap.size w wr) (fun i _ => l.length - (intOf i).toNat)
 case atStart => exact zz132
 case round =>
  obtain ⟨k, hk, rfl, hb⟩ := hrel
  by_cases hlt : k < l.length
  ·obtain ⟨x, hx⟩ : ∃ x, l[k]? = some x := ⟨_, List.getElem?_eq_getElem hlt⟩
   obtain ⟨bc, offc, rfl, hblc, hcc⟩ := RdC.at_ FUnit.len HC.out hx
   obtain ⟨bd, offd, rfl, hbld, hcd⟩ := RdC.at_ FUnit.len HD.out hx
   have HE2 := hid (HE.out x (List.mem_of_getElem? hx))
   clear hx
   obtain ⟨z0, ⟨z1, z2, z3, z4⟩⟩ := x
   rw [FUnit.c_eq] at hcc hcd
   obtain ⟨u0, e0, q0⟩ := hcc 0 _ rfl
   obtain rfl := q0.val
   clear q0
   have c_0 : wr.cell? ⟨bc, offc + k * 5, none⟩ = some (.string z0) := (hb.cell (p := ⟨bc, _, none⟩) hblc).trans qa3
   clear e0
   obtain ⟨u1, e1, q1⟩ := hcc 1 _ rfl
   obtain rfl := q1.val
   clear q1
   have c_1 : wr.cell? ⟨bc, offc + k * 5 + 1, none⟩ = some (.int .i64 z1) := (hb.cell (p := ⟨bc, _, none⟩) hblc).trans qa4
   clear e1
   obtain ⟨u2, e2, q2⟩ := hcc 2 _ rfl
   obtain rfl := q2.val
   clear q2
   have c_2 : wr.cell? ⟨bc, offc + k * 5 + 2, none⟩ = some (.int .i64 z2) := (hb.cell (p := ⟨bc, _, none⟩) hblc).trans qa5
   clear e2
   obtain ⟨u3, e3, q3⟩ := hcc 3 _ rfl
   obtain rfl := q3.val
   clear q3
   have c_3 : wr.cell? ⟨bc, offc + k * 5 + 3, none⟩ = some (.string z3) := (hb.cell (p := ⟨bc, _, none⟩) hblc).trans qa6
   clear e3
   obtain ⟨u4, e4, q4⟩ := hcc 4 _ rfl
   obtain ⟨A4, c4, rfl⟩ := q4.form
   have R4 := hid q4
   clear q4
   have c_4 : wr.cell? ⟨bc, offc + k * 5 + 4, none⟩ = some (.slice A4 z4.length c4) := (hb.cell (p := ⟨bc, _, none⟩) hblc).trans qbn
   clear e4
   obtain ⟨u0, e0, q0⟩ := hcd 0 _ rfl
   obtain rfl := q0.val
   clear q0
   have d_0 : wr.cell? ⟨bd, offd + k * 5, none⟩ = some (.string z0) := (hb.cell (p := ⟨bd, _, none⟩) hbld).trans qa3
   clear e0
   obtain ⟨u1, e1, q1⟩ := hcd 1 _ rfl
   obtain rfl := q1.val
   clear q1
   have d_1 : wr.cell? ⟨bd, offd + k * 5 + 1, none⟩ = some (.int .i64 z1) := (hb.cell (p := ⟨bd, _, none⟩) hbld).trans qa4
   clear e1
   obtain ⟨u2, e2, q2⟩ := hcd 2 _ rfl
   obtain rfl := q2.val
   clear q2
   have d_2 : wr.cell? ⟨bd, offd + k * 5 + 2, none⟩ = some (.int .i64 z2) := (hb.cell (p := ⟨bd, _, none⟩) hbld).trans qa5
   clear e2
   obtain ⟨u3, e3, q3⟩ := hcd 3 _ rfl
   obtain rfl := q3.val
   clear q3
   have d_3 : wr.cell? ⟨bd, offd + k * 5 + 3, none⟩ = some (.string z3) := (hb.cell (p := ⟨bd, _, none⟩) hbld).trans qa6
   clear e3
   obtain ⟨u4, e4, q4⟩ := hcd 4 _ rfl
   obtain ⟨B4, d4, rfl⟩ := q4.form
   have T4 := hid q4
   clear q4
   have d_4 : wr.cell? ⟨bd, offd + k * 5 + 4, none⟩ = some (.slice B4 z4.length d4) := (hb.cell (p := ⟨bd, _, none⟩) hbld).trans qbn
   clear e4
   clear hcc hcd
   go_wp2_with fail
   go_still_tail 8, qab
   have hbd : Below w.heap.size w wr.drew := hb.drew
   change wpList _ _ _ _ _ wr.drew
   generalize wr.drew = wd at *
   go_wp2_with (go_at_call 24; refine (HE2.out [.string z0, .int .i64 z1, .int .i64 z2, .string z3, .slice A4 z4.length c4] [.string z0, .int .i64 z1, .int .i64 z2, .string z3, .slice B4 z4.length d4] _ (by rw [FUnit.c_eq]; exact (RdVs.cons qaf (RdVs.cons qaf (RdVs.cons qaf (RdVs.cons qaf (RdVs.cons (R4.out.on hbd nr hbd.size) (RdVs.nil _ _))))))) (by rw [FUnit.c_eq]; exact (RdVs.cons qaf (RdVs.cons qaf (RdVs.cons qaf (RdVs.cons qaf (RdVs.cons (T4.out.on hbd nr hbd.size) (RdVs.nil _ _)))))))).mono ?_; rintro e w2 ⟨rfl, hb2⟩)
   exact zz69
  ·exact zz91
theorem eqUnit_any (x : FUnit) (hw : x.wt ≤ 1000000000) : EqUnit x := by
 obtain ⟨z0, ⟨z1, z2, z3, z4⟩⟩ := x
 exact eqUnit_of z0 z1 z2 z3 z4 (eqNode_any _ (by rw [FUnit.wt_eq] at hw; rw [FNode.wt_eq]; omega))
theorem eqUnitS_any (l : List FUnit) (hw : l.length + FUnit.wts l ≤ 1000000000) : EqUnitS l := (eqUnitS_of l qaa (fun x hx => eqUnit_any x (by have := FUnit.wts_at l x hx; omega)))
end Go.Proofs.YtkkjnfappndmpaaGreatDoor
