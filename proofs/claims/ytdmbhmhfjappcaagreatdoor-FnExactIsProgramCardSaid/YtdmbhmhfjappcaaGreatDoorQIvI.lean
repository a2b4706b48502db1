/-
  Parts of the proof: IvI. Conditions: none.
-/
import Derived.Test.YtdmbhmhfjappcaaGreatDoorQIvM
import Derived.Test.YtdmbhmhfjappcaaGreatDoorQPsI
namespace Go.Proofs.YtdmbhmhfjappcaaGreatDoor
open Go.ChangeShapes Go.WideShapes Go.ChangeAt Go.RowKit Go.Deep Go.Joins
open Go.ChangeMaps (open_string shut_string)
set_option linter.unusedVariables false
set_option linter.unusedSimpArgs false
set_option maxRecDepth 100000
set_option maxHeartbeats 1000000 in
theorem key_impl (a : FKey) (w : World) (hV : TabV w) : Calls Tryz.prog 75 #[kv a] w fun e w' => e = .returned (.bool (keyF a)) ∧ Below w.heap.size w w' := by
  obtain ⟨a0, a1, a2⟩ := a
  unfold kv
  dsimp only
  have HB := Lib.hid ((Below.refl _ w).alloc (Nat.le_refl _) (.cells #[.bool a0, .int .i64 a1, .string a2] 104))
  have HP := Lib.hid (fun W hb => ps_impl a2 W (hV.below hb))
  clear hV
  have HF : keyF ⟨a0, a1, a2⟩ = if a0 then a1 == 0 && decide (a2.size ≤ 400) && (psF a2).isNone else emS a2 && inB a1 (-1000000000) 1000000000 := rfl
  cases a0 with
  | false =>
    have HG := Lib.hid HF
    clear HF
    go_enter Tryz.func75, Tryz.ntmps75
    go_wp2_with (first | (go_at_call 22; refine (inRange_any _ _ _ _).mono ?_; rintro e w1 ⟨rfl, rfl⟩))
    all_goals (go_ret; exact ⟨ret_bool (by rw [HG.out]; simp_all [emS]), HB.out⟩)
  | true =>
    have hsz : (a2.size ≤ 400) = ((a2.size : Int) ≤ 400) := by apply propext; omega
    generalize hq : psF a2 = q at *
    by_cases h0 : a1 = 0
    · subst h0
      have HG := Lib.hid HF
      clear HF
      cases q with
      | none =>
        go_enter Tryz.func75, Tryz.ntmps75
        go_wp2_with (first | (go_at_call 100; refine (HP.out _ HB.out).mono ?_; rintro e w1 ⟨rfl, hb1⟩; have b1 := ((Blk.new w 104 #[.bool true, .int .i64 0, .string a2]).below hb1 (Nat.le_refl _)); have k1 := b1.cell 1; have k2 := b1.cell 2))
        all_goals (go_ret; exact ⟨ret_bool (by rw [HG.out]; simp_all), HB.out.trans (hb1.mono HB.out.size)⟩)
      | some n =>
        go_enter Tryz.func75, Tryz.ntmps75
        go_wp2_with (first | (go_at_call 100; refine (HP.out _ HB.out).mono ?_; rintro e w1 ⟨rfl, hb1⟩; have b1 := ((Blk.new w 104 #[.bool true, .int .i64 0, .string a2]).below hb1 (Nat.le_refl _)); have k1 := b1.cell 1; have k2 := b1.cell 2))
        all_goals (go_ret; exact ⟨ret_bool (by rw [HG.out]; simp_all), HB.out.trans (hb1.mono HB.out.size)⟩)
    · have h1 : (a1 == 0) = false := beq_false_of_ne h0
      have HG := Lib.hid (show keyF ⟨true, a1, a2⟩ = false by rw [HF, h1]; rfl)
      clear HF
      go_enter Tryz.func75, Tryz.ntmps75
      go_wp2_with (first | (go_at_call 100; refine (HP.out _ HB.out).mono ?_; rintro e w1 ⟨rfl, hb1⟩; have b1 := ((Blk.new w 104 #[.bool true, .int .i64 a1, .string a2]).below hb1 (Nat.le_refl _)); have k1 := b1.cell 1; have k2 := b1.cell 2))
      all_goals (go_ret; exact ⟨ret_bool (by rw [HG.out]), HB.out.trans (hb1.mono HB.out.size)⟩)
/-- A function on a value that answers by a plain one, for the program. -/
def WtI (x : FValue) : Prop := ∀ (us : List Value) (w : World) (B : Nat), B ≤ w.heap.size → RdVs w B x.c us → Calls Tryz.prog 41 #[.agg us.toArray] w fun e w' => e = .returned (.int .i64 (wtF x)) ∧ Below w.heap.size w w'
set_option maxHeartbeats 1000000 in
theorem wtI_of (z0 z1 : Int) (z2 : ByteArray) (z3 : Int) (l : List FEntry) (hw : l.length + FEntry.wts l ≤ 1000000000) (he : ∀ y, y ∈ l → WtI y.vv) : WtI ⟨z0, z1, z2, z3, l⟩ := by
  intro us w B hB0 hr
  rw [FValue.c_eq] at hr
  obtain ⟨us0, rfl, hr_0⟩ := hr.unv
  obtain ⟨us1, rfl, hr_1⟩ := hr_0.unv
  obtain ⟨us2, rfl, hr_2⟩ := hr_1.unv
  obtain ⟨us3, rfl, hr_3⟩ := hr_2.unv
  obtain ⟨A, c, us4, rfl, r4, hr_4⟩ := hr_3.uns
  obtain rfl := hr_4.un0
  have HC := Lib.hid (r4.up hB0)
  clear r4 hr hr_0 hr_1 hr_2 hr_3 hr_4
  have HE := Lib.hid he
  clear he
  have hn : l.length ≤ 9223372036854775807 := by omega
  have hsum := wtFs_le l
  by_cases h4 : z0 = 4
  · subst h4
    have HG := Lib.hid (show wtF ⟨4, z1, z2, z3, l⟩ = 1 + wtFs l from by rw [wtF]; rfl)
    go_enter Tryz.func41, Tryz.ntmps41
    go_wp2_with fail
    go_loopw [3, 12] (fun v i wr => ∃ k m : Nat, k ≤ l.length ∧ i = .int .i64 k ∧ v = .int .i64 m ∧ m = 1 + wtFs (l.take k) ∧ Blk wr w.heap.size 43 #[.int .i64 4, .int .i64 z1, .string z2, .int .i64 z3, .slice A l.length c] ∧ Below w.heap.size w wr) (fun _ i _ => l.length - (intOf i).toNat)
    case atStart => exact ⟨0, 1, Nat.zero_le _, rfl, rfl, by rw [List.take_zero, wtFs], Blk.new w _ _, (Below.refl _ _).alloc (Nat.le_refl _) _⟩
    case round =>
      obtain ⟨k, m, hk, rfl, rfl, hm, b0, hb0⟩ := hrel
      have hle := wtFs_takele l k
      by_cases hlt : k < l.length
      · skip
        obtain ⟨x, hx⟩ : ∃ x, l[k]? = some x := ⟨_, List.getElem?_eq_getElem hlt⟩
        obtain ⟨bc, offc, rfl, hblc, hcc⟩ := RdC.at_ FEntry.len HC.out hx
        have HX := Lib.hid (wtFs_take hx)
        have HP := Lib.hid (HE.out x (List.mem_of_getElem? hx))
        have hle2 := wtFs_takele l (k + 1)
        rw [wtFs_take hx] at hle2
        clear hx
        obtain ⟨⟨y0, y1, y2⟩, ⟨y3, y4, y5, y6, y7⟩⟩ := x
        rw [FEntry.c_eq] at hcc
        obtain ⟨u0, e0, q0⟩ := hcc 0 _ rfl
        obtain rfl := q0.val
        have g0 : wr.cell? ⟨bc, offc + k * 8, none⟩ = some (.bool y0) := (hb0.cell (p := ⟨bc, _, none⟩) hblc).trans (by simpa using e0)
        obtain ⟨u1, e1, q1⟩ := hcc 1 _ rfl
        obtain rfl := q1.val
        have g1 : wr.cell? ⟨bc, offc + k * 8 + 1, none⟩ = some (.int .i64 y1) := (hb0.cell (p := ⟨bc, _, none⟩) hblc).trans (by simpa using e1)
        obtain ⟨u2, e2, q2⟩ := hcc 2 _ rfl
        obtain rfl := q2.val
        have g2 : wr.cell? ⟨bc, offc + k * 8 + 2, none⟩ = some (.string y2) := (hb0.cell (p := ⟨bc, _, none⟩) hblc).trans (by simpa using e2)
        obtain ⟨u3, e3, q3⟩ := hcc 3 _ rfl
        obtain rfl := q3.val
        have g3 : wr.cell? ⟨bc, offc + k * 8 + 3, none⟩ = some (.int .i64 y3) := (hb0.cell (p := ⟨bc, _, none⟩) hblc).trans (by simpa using e3)
        obtain ⟨u4, e4, q4⟩ := hcc 4 _ rfl
        obtain rfl := q4.val
        have g4 : wr.cell? ⟨bc, offc + k * 8 + 4, none⟩ = some (.int .i64 y4) := (hb0.cell (p := ⟨bc, _, none⟩) hblc).trans (by simpa using e4)
        obtain ⟨u5, e5, q5⟩ := hcc 5 _ rfl
        obtain rfl := q5.val
        have g5 : wr.cell? ⟨bc, offc + k * 8 + 5, none⟩ = some (.string y5) := (hb0.cell (p := ⟨bc, _, none⟩) hblc).trans (by simpa using e5)
        obtain ⟨u6, e6, q6⟩ := hcc 6 _ rfl
        obtain rfl := q6.val
        have g6 : wr.cell? ⟨bc, offc + k * 8 + 6, none⟩ = some (.int .i64 y6) := (hb0.cell (p := ⟨bc, _, none⟩) hblc).trans (by simpa using e6)
        obtain ⟨u7, e7, q7⟩ := hcc 7 _ rfl
        obtain ⟨A7, c7, rfl⟩ := q7.form
        have g7 : wr.cell? ⟨bc, offc + k * 8 + 7, none⟩ = some (.slice A7 y7.length c7) := (hb0.cell (p := ⟨bc, _, none⟩) hblc).trans (by simpa using e7)
        have Q7 := Lib.hid q7
        clear hcc e0 q0 e1 q1 e2 q2 e3 q3 e4 q4 e5 q5 e6 q6 e7 q7
        have HM := Lib.hid (show m + wtF ⟨y3, y4, y5, y6, y7⟩ = 1 + wtFs (l.take (k + 1)) from by rw [HX.out, hm]; show _ = 1 + (_ + wtF ⟨y3, y4, y5, y6, y7⟩); omega)
        have HB1 := Lib.hid (hb0.alloc hb0.size (.cells #[.bool y0, .int .i64 y1, .string y2, .int .i64 y3, .int .i64 y4, .string y5, .int .i64 y6, .slice A7 y7.length c7] 106))
        have B0 := Lib.hid b0
        have hnb : wtF ⟨y3, y4, y5, y6, y7⟩ ≤ 2000000000 := by
          have e : wtF (FEntry.vv (.mk ⟨y0, y1, y2⟩ ⟨y3, y4, y5, y6, y7⟩)) = wtF ⟨y3, y4, y5, y6, y7⟩ := rfl
          rw [e] at hle2
          omega
        have hP2 := HP.out
        unfold FEntry.vv at hP2
        dsimp only at hP2
        unfold WtI at hP2
        have hmb : m ≤ 2000000000 := by omega
        clear HP HX hm hle hle2 hb0 b0
        generalize hnn : wtF ⟨y3, y4, y5, y6, y7⟩ = nn at *
        have HP := Lib.hid hP2
        clear hP2 hnn
        go_wp2_with (go_at_call 41; refine (HP.out [.int .i64 y3, .int .i64 y4, .string y5, .int .i64 y6, .slice A7 y7.length c7] _ w.heap.size HB1.out.size (by rw [FValue.c_eq]; exact RdVs.cons (by unfold RdC; rfl) (RdVs.cons (by unfold RdC; rfl) (RdVs.cons (by unfold RdC; rfl) (RdVs.cons (by unfold RdC; rfl) (RdVs.cons (Q7.out.below HB1.out (Nat.le_refl _)) (RdVs.nil _ _))))))).mono ?_; rintro e w2 ⟨rfl, hb2⟩)
        go_roundw
        case rel => exact ⟨k + 1, m + nn, by omega, by go_num, by go_num, HM.out, (B0.out.alloc _).below hb2 (Nat.le_refl _), HB1.out.trans (hb2.mono HB1.out.size)⟩
        case measure => simp [intOf]; omega
      · obtain rfl : k = l.length := by omega
        have HM := Lib.hid (show (m : Int) = (wtF ⟨4, z1, z2, z3, l⟩ : Int) from by rw [HG.out, hm, List.take_length])
        have HB1 := Lib.hid hb0
        clear hm b0 hb0
        go_wp2_with fail
        go_ret
        exact ⟨ret_int HM.out, HB1.out⟩
  · have hz : (z0 == 4) = false := beq_false_of_ne h4
    have HG := Lib.hid (show wtF ⟨z0, z1, z2, z3, l⟩ = 1 from by rw [wtF, hz]; rfl)
    have HB1 := Lib.hid ((Below.refl _ w).alloc (Nat.le_refl _) (.cells #[.int .i64 z0, .int .i64 z1, .string z2, .int .i64 z3, .slice A l.length c] 43))
    clear h4
    go_enter Tryz.func41, Tryz.ntmps41
    go_wp2_with fail
    go_ret
    exact ⟨ret_int (by rw [HG.out]; rfl), HB1.out⟩
def PlI (x : FValue) : Prop := True
theorem plI_of (z0 z1 : Int) (z2 : ByteArray) (z3 : Int) (l : List FEntry) (hw : l.length ≤ 1000000000) (he : ∀ y, y ∈ l → PlI y.vv) : PlI ⟨z0, z1, z2, z3, l⟩ := trivial
end Go.Proofs.YtdmbhmhfjappcaaGreatDoor
