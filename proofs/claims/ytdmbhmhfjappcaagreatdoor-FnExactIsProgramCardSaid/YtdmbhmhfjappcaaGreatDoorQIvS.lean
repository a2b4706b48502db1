/-
  Parts of the proof: IvS. Conditions: none.
-/
import Derived.Test.YtdmbhmhfjappcaaGreatDoorQGPsPIvP
import Derived.Test.YtdmbhmhfjappcaaGreatDoorQPsS
import Derived.BigQuiet
namespace Go.Proofs.YtdmbhmhfjappcaaGreatDoor
open Go.ChangeShapes Go.WideShapes Go.ChangeAt Go.RowKit Go.Deep Go.Joins
open Go.ChangeMaps (open_string shut_string)
set_option linter.unusedVariables false
set_option linter.unusedSimpArgs false
set_option maxRecDepth 100000
set_option maxHeartbeats 1000000 in
theorem key_spec (a : FKey) (hs : a.a2.size ≤ 9223372036854775807) (w : World) : Calls Tryz.prog 59 #[.agg #[.bool a.a0, .int .i64 a.a1, .string a.a2]] w fun e w' => e = .returned (.bool (keyF a)) ∧ Below w.heap.size w w' := by
  obtain ⟨a0, a1, a2⟩ := a
  dsimp only at hs ⊢
  have HB := Lib.hid ((Below.refl _ w).alloc (Nat.le_refl _) (.cells #[.bool a0, .int .i64 a1, .string a2] 104))
  have HP := Lib.hid (fun W => ps_spec a2 W hs)
  have HF : keyF ⟨a0, a1, a2⟩ = if a0 then a1 == 0 && decide (a2.size ≤ 400) && (psF a2).isNone else emS a2 && inB a1 (-1000000000) 1000000000 := rfl
  cases a0 with
  | false =>
    cases hin : inB a1 (-1000000000) 1000000000 with
    | false =>
      have HG := Lib.hid (show keyF ⟨false, a1, a2⟩ = false by rw [HF, hin]; simp)
      clear HF
      go_enter Tryz.func59, Tryz.ntmps59
      go_wp2_with (first | (go_at_call 28; refine (l1In_any _ _ _ _).mono ?_; rw [hin]; rintro e w1 ⟨rfl, rfl⟩))
      go_ret
      exact ⟨ret_bool HG.out.symm, HB.out⟩
    | true =>
      have HG := Lib.hid (show keyF ⟨false, a1, a2⟩ = a2.toList.isEmpty by rw [HF, hin]; simp [emS])
      clear HF
      go_enter Tryz.func59, Tryz.ntmps59
      go_wp2_with (first | (go_at_call 28; refine (l1In_any _ _ _ _).mono ?_; rw [hin]; rintro e w1 ⟨rfl, rfl⟩))
      all_goals (go_ret; exact ⟨ret_bool (by rw [HG.out]), HB.out⟩)
  | true =>
    have hsz : (a2.size ≤ 400) = ((a2.size : Int) ≤ 400) := by apply propext; omega
    generalize hq : psF a2 = q at *
    by_cases h0 : a1 = 0
    · subst h0
      have HG := Lib.hid HF
      clear HF
      cases q with
      | none =>
        go_enter Tryz.func59, Tryz.ntmps59
        go_wp2_with (first | (go_at_call 88; refine (HP.out _).mono ?_; rintro e w1 ⟨rfl, hb1⟩; have b1 := ((Blk.new w 104 #[.bool true, .int .i64 0, .string a2]).below hb1 (Nat.le_refl _)); have k1 := b1.cell 1; have k2 := b1.cell 2))
        all_goals (go_ret; exact ⟨ret_bool (by rw [HG.out]; simp_all), HB.out.trans (hb1.mono HB.out.size)⟩)
      | some n =>
        go_enter Tryz.func59, Tryz.ntmps59
        go_wp2_with (first | (go_at_call 88; refine (HP.out _).mono ?_; rintro e w1 ⟨rfl, hb1⟩; have b1 := ((Blk.new w 104 #[.bool true, .int .i64 0, .string a2]).below hb1 (Nat.le_refl _)); have k1 := b1.cell 1; have k2 := b1.cell 2))
        all_goals (go_ret; exact ⟨ret_bool (by rw [HG.out]; simp_all), HB.out.trans (hb1.mono HB.out.size)⟩)
    · have h1 : (a1 == 0) = false := beq_false_of_ne h0
      have HG := Lib.hid (show keyF ⟨true, a1, a2⟩ = false by rw [HF, h1]; rfl)
      clear HF
      go_enter Tryz.func59, Tryz.ntmps59
      go_wp2_with (first | (go_at_call 88; refine (HP.out _).mono ?_; rintro e w1 ⟨rfl, hb1⟩; have b1 := ((Blk.new w 104 #[.bool true, .int .i64 a1, .string a2]).below hb1 (Nat.le_refl _)); have k1 := b1.cell 1; have k2 := b1.cell 2))
      all_goals (go_ret; exact ⟨ret_bool (by rw [HG.out]), HB.out.trans (hb1.mono HB.out.size)⟩)
def PlS (x : FValue) : Prop := True
theorem plS_of (z0 z1 : Int) (z2 : ByteArray) (z3 : Int) (l : List FEntry) (hw : l.length ≤ 1000000000) (he : ∀ y, y ∈ l → PlS y.vv) : PlS ⟨z0, z1, z2, z3, l⟩ := trivial
/-- The weight, or more than most. -/
def WgS (x : FValue) : Prop := ∀ (us : List Value) (M : Nat) (w : World) (B : Nat), M ≤ 1000000 → B ≤ w.heap.size → RdVs w B x.c us → Calls Tryz.prog 31 #[.agg us.toArray, .int .i64 M] w fun e w' => (∃ z : Nat, e = .returned (.int .i64 z) ∧ z ≤ wtF x ∧ (z ≤ M → z = wtF x)) ∧ Below w.heap.size w w'
set_option maxHeartbeats 1000000 in
theorem wgS_of (z0 z1 : Int) (z2 : ByteArray) (z3 : Int) (l : List FEntry) (hw : l.length + FEntry.wts l ≤ 1000000000) (he : ∀ y, y ∈ l → WgS y.vv) : WgS ⟨z0, z1, z2, z3, l⟩ := by
  intro us M w B hM hB0 hr
  rw [FValue.c_eq] at hr
  obtain ⟨us0, rfl, hr_0⟩ := hr.unv
  obtain ⟨us1, rfl, hr_1⟩ := hr_0.unv
  obtain ⟨us2, rfl, hr_2⟩ := hr_1.unv
  obtain ⟨us3, rfl, hr_3⟩ := hr_2.unv
  obtain ⟨A, c, us4, rfl, r4, hr_4⟩ := hr_3.uns
  obtain rfl := hr_4.un0
  have HC := Lib.hid (r4.up hB0)
  clear r4 hr hr_0 hr_1 hr_2 hr_3 hr_4
  have HE := Lib.hid he
  clear he
  have hn : l.length ≤ 9223372036854775807 := by omega
  have hsum := wtFs_le l
  by_cases h4 : z0 = 4
  · subst h4
    have HG := Lib.hid (show wtF ⟨4, z1, z2, z3, l⟩ = 1 + wtFs l from by rw [wtF]; rfl)
    go_enter Tryz.func31, Tryz.ntmps31
    go_wp2_with fail
    go_loopw [5, 6] (fun v i wr => ∃ k m : Nat, k ≤ l.length ∧ i = .int .i64 k ∧ v = .int .i64 m ∧ m ≤ 1 + wtFs (l.take k) ∧ (m ≤ M → m = 1 + wtFs (l.take k)) ∧ Blk wr w.heap.size 43 #[.int .i64 4, .int .i64 z1, .string z2, .int .i64 z3, .slice A l.length c] ∧ Below w.heap.size w wr) (fun _ i _ => l.length - (intOf i).toNat)
    case atStart => exact ⟨0, 1, Nat.zero_le _, rfl, rfl, by omega, fun _ => by rw [List.take_zero, wtFs], Blk.new w _ _, (Below.refl _ _).alloc (Nat.le_refl _) _⟩
    case round =>
      obtain ⟨k, m, hk, rfl, rfl, hm1, hm2, b0, hb0⟩ := hrel
      have b00 := b0.cell 0
      have b04 := b0.cell 4
      have b0l := b0.lt
      have hle := wtFs_takele l k
      by_cases hlt : k < l.length
      · by_cases hmM : m ≤ M
        · skip
          obtain ⟨x, hx⟩ : ∃ x, l[k]? = some x := ⟨_, List.getElem?_eq_getElem hlt⟩
          obtain ⟨bc, offc, rfl, hblc, hcc⟩ := RdC.at_ FEntry.len HC.out hx
          have HX := Lib.hid (wtFs_take hx)
          have HP := Lib.hid (HE.out x (List.mem_of_getElem? hx))
          have hle2 := wtFs_takele l (k + 1)
          rw [wtFs_take hx] at hle2
          clear hx
          obtain ⟨⟨y0, y1, y2⟩, ⟨y3, y4, y5, y6, y7⟩⟩ := x
          rw [FEntry.c_eq] at hcc
          obtain ⟨u0, e0, q0⟩ := hcc 0 _ rfl
          obtain rfl := q0.val
          have g0 : wr.cell? ⟨bc, offc + k * 8, none⟩ = some (.bool y0) := (hb0.cell (p := ⟨bc, _, none⟩) hblc).trans (by simpa [Nat.add_assoc] using e0)
          obtain ⟨u1, e1, q1⟩ := hcc 1 _ rfl
          obtain rfl := q1.val
          have g1 : wr.cell? ⟨bc, offc + k * 8 + 1, none⟩ = some (.int .i64 y1) := (hb0.cell (p := ⟨bc, _, none⟩) hblc).trans (by simpa [Nat.add_assoc] using e1)
          obtain ⟨u2, e2, q2⟩ := hcc 2 _ rfl
          obtain rfl := q2.val
          have g2 : wr.cell? ⟨bc, offc + k * 8 + 2, none⟩ = some (.string y2) := (hb0.cell (p := ⟨bc, _, none⟩) hblc).trans (by simpa [Nat.add_assoc] using e2)
          obtain ⟨u3, e3, q3⟩ := hcc 3 _ rfl
          obtain rfl := q3.val
          have g3 : wr.cell? ⟨bc, offc + k * 8 + 3, none⟩ = some (.int .i64 y3) := (hb0.cell (p := ⟨bc, _, none⟩) hblc).trans (by simpa [Nat.add_assoc] using e3)
          obtain ⟨u4, e4, q4⟩ := hcc 4 _ rfl
          obtain rfl := q4.val
          have g4 : wr.cell? ⟨bc, offc + k * 8 + 3 + 1, none⟩ = some (.int .i64 y4) := (hb0.cell (p := ⟨bc, _, none⟩) hblc).trans (by simpa [Nat.add_assoc] using e4)
          obtain ⟨u5, e5, q5⟩ := hcc 5 _ rfl
          obtain rfl := q5.val
          have g5 : wr.cell? ⟨bc, offc + k * 8 + 3 + 2, none⟩ = some (.string y5) := (hb0.cell (p := ⟨bc, _, none⟩) hblc).trans (by simpa [Nat.add_assoc] using e5)
          obtain ⟨u6, e6, q6⟩ := hcc 6 _ rfl
          obtain rfl := q6.val
          have g6 : wr.cell? ⟨bc, offc + k * 8 + 3 + 3, none⟩ = some (.int .i64 y6) := (hb0.cell (p := ⟨bc, _, none⟩) hblc).trans (by simpa [Nat.add_assoc] using e6)
          obtain ⟨u7, e7, q7⟩ := hcc 7 _ rfl
          obtain ⟨A7, c7, rfl⟩ := q7.form
          have g7 : wr.cell? ⟨bc, offc + k * 8 + 3 + 4, none⟩ = some (.slice A7 y7.length c7) := (hb0.cell (p := ⟨bc, _, none⟩) hblc).trans (by simpa [Nat.add_assoc] using e7)
          have Q7 := Lib.hid q7
          clear hcc e0 q0 e1 q1 e2 q2 e3 q3 e4 q4 e5 q5 e6 q6 e7 q7
          have hm := hm2 hmM
          have HX2 := HX.out
          have HB1 := Lib.hid hb0
          have B0 := Lib.hid b0
          have hP2 := HP.out
          unfold FEntry.vv at hP2 HX2 hle2
          dsimp only at hP2 HX2 hle2
          unfold WgS at hP2
          clear HP HX hb0 b0 hm2 hm1
          generalize hnn : wtF ⟨y3, y4, y5, y6, y7⟩ = nn at *
          generalize hTk : wtFs (l.take k) = tk at *
          subst hm
          have hmM' : (1 : Int) + (tk : Int) ≤ (M : Int) := by omega
          have hsub : ((M : Int) - (1 + (tk : Int))) = ((M - (1 + tk) : Nat) : Int) := by omega
          have HX3 := Lib.hid HX2
          have HP := Lib.hid (fun W (hb : Below w.heap.size w W) => by have h := hP2 [.int .i64 y3, .int .i64 y4, .string y5, .int .i64 y6, .slice A7 y7.length c7] (M - (1 + tk)) W w.heap.size (by omega) hb.size (by rw [FValue.c_eq]; exact RdVs.cons (by unfold RdC; rfl) (RdVs.cons (by unfold RdC; rfl) (RdVs.cons (by unfold RdC; rfl) (RdVs.cons (by unfold RdC; rfl) (RdVs.cons (Q7.out.below hb (Nat.le_refl _)) (RdVs.nil _ _)))))); exact h)
          clear hP2 hnn HX2 hTk
          have hnb : nn ≤ 2000000000 := by omega
          go_wp2_with (go_at_call 31; refine (HP.out _ HB1.out).mono ?_; rintro e w2 ⟨⟨z, rfl, hz1, hz2⟩, hb2⟩)
          go_roundw
          case rel => exact ⟨k + 1, 1 + tk + z, by omega, by go_num, by go_num, by rw [HX3.out]; omega, fun h => by rw [HX3.out]; have := hz2 (by omega); omega, B0.out.below hb2 (Nat.le_refl _), HB1.out.trans (hb2.mono HB1.out.size)⟩
          case measure => simp [intOf]; omega
        · have hmM' : ¬ (m : Int) ≤ (M : Int) := by omega
          have HB1 := Lib.hid hb0
          have hres : m ≤ wtF ⟨4, z1, z2, z3, l⟩ ∧ (m ≤ M → m = wtF ⟨4, z1, z2, z3, l⟩) := ⟨by rw [HG.out]; omega, fun h => absurd h hmM⟩
          have HR := Lib.hid hres
          clear hres hm1 hm2 hb0 b0
          go_wp2_with fail
          go_ret
          exact ⟨⟨m, rfl, HR.out⟩, HB1.out⟩
      · obtain rfl : k = l.length := by omega
        rw [List.take_length] at hm1 hm2
        have HR := Lib.hid (show m ≤ wtF ⟨4, z1, z2, z3, l⟩ ∧ (m ≤ M → m = wtF ⟨4, z1, z2, z3, l⟩) from by rw [HG.out]; exact ⟨hm1, hm2⟩)
        have HB1 := Lib.hid hb0
        clear hm1 hm2 b0 hb0
        go_wp2_with fail
        go_ret
        exact ⟨⟨m, rfl, HR.out⟩, HB1.out⟩
  · have hz : (z0 == 4) = false := beq_false_of_ne h4
    have HG := Lib.hid (show wtF ⟨z0, z1, z2, z3, l⟩ = 1 from by rw [wtF, hz]; rfl)
    have HB1 := Lib.hid ((Below.refl _ w).alloc (Nat.le_refl _) (.cells #[.int .i64 z0, .int .i64 z1, .string z2, .int .i64 z3, .slice A l.length c] 43))
    have b0 := Blk.new w 43 #[.int .i64 z0, .int .i64 z1, .string z2, .int .i64 z3, .slice A l.length c]
    go_enter Tryz.func31, Tryz.ntmps31
    go_wp2_with fail
    go_loopw [5, 6] (fun v i wr => v = .int .i64 1 ∧ i = .int .i64 0 ∧ wr = w.alloc (.cells #[.int .i64 z0, .int .i64 z1, .string z2, .int .i64 z3, .slice A l.length c] 43)) (fun _ i _ => 0)
    case atStart => exact ⟨rfl, rfl, rfl⟩
    case round =>
      obtain ⟨rfl, rfl, rfl⟩ := hrel
      go_wp2_with fail
      go_ret
      exact ⟨⟨1, rfl, by rw [HG.out]; exact Nat.le_refl _, fun _ => by rw [HG.out]⟩, HB1.out⟩
set_option maxHeartbeats 1000000 in
theorem find_spec (z1 : Int) (z2 : ByteArray) (z3 : Int) (l : List FEntry) (hw : l.length ≤ 1000000000) (a : FKey) (us : List Value) (w : World) (B : Nat) (hB0 : B ≤ w.heap.size) (hr : RdVs w B (FValue.c ⟨4, z1, z2, z3, l⟩) us) :
    Calls Tryz.prog 60 #[.agg us.toArray, .agg #[.bool a.a0, .int .i64 a.a1, .string a.a2]] w fun e w' => e = .returned (.int .i64 (fkF a 0 l)) ∧ Below w.heap.size w w' := by
  obtain ⟨a0, a1, a2⟩ := a
  dsimp only
  rw [FValue.c_eq] at hr
  obtain ⟨us0, rfl, hr_0⟩ := hr.unv
  obtain ⟨us1, rfl, hr_1⟩ := hr_0.unv
  obtain ⟨us2, rfl, hr_2⟩ := hr_1.unv
  obtain ⟨us3, rfl, hr_3⟩ := hr_2.unv
  obtain ⟨A, c, us4, rfl, r4, hr_4⟩ := hr_3.uns
  obtain rfl := hr_4.un0
  have HC := Lib.hid (r4.up hB0)
  clear r4 hr hr_0 hr_1 hr_2 hr_3 hr_4
  have hn : l.length ≤ 9223372036854775807 := by omega
  have HB1 := Lib.hid (((Below.refl w.heap.size w).alloc (Nat.le_refl _) (.cells #[.int .i64 4, .int .i64 z1, .string z2, .int .i64 z3, .slice A l.length c] 43)).alloc (by simp) (.cells #[.bool a0, .int .i64 a1, .string a2] 104))
  go_enter Tryz.func60, Tryz.ntmps60
  go_wp2_with fail
  go_loopw [5] (fun i wr => ∃ k : Nat, k ≤ l.length ∧ i = .int .i64 k ∧ fkF ⟨a0, a1, a2⟩ 0 l = fkF ⟨a0, a1, a2⟩ k (l.drop k) ∧ Blk wr w.heap.size 43 #[.int .i64 4, .int .i64 z1, .string z2, .int .i64 z3, .slice A l.length c] ∧ Blk wr (w.heap.size + 1) 104 #[.bool a0, .int .i64 a1, .string a2] ∧ Below w.heap.size w wr) (fun i _ => l.length - (intOf i).toNat)
  case atStart => exact ⟨0, Nat.zero_le _, rfl, rfl, (Blk.new w _ _).alloc _, Blk.new' (w.alloc _) _ _ _ (by simp), HB1.out⟩
  case round =>
    clear HB1
    obtain ⟨k, hk, rfl, hm, b0, b1, hb0⟩ := hrel
    have b00 := b0.cell 0
    have b04 := b0.cell 4
    have b0l := b0.lt
    have b10 := b1.cell 0
    have b11 := b1.cell 1
    have b12 := b1.cell 2
    have b1l := b1.lt
    by_cases hlt : k < l.length
    · skip
      obtain ⟨x, hx⟩ : ∃ x, l[k]? = some x := ⟨_, List.getElem?_eq_getElem hlt⟩
      obtain ⟨bc, offc, rfl, hblc, hcc⟩ := RdC.at_ FEntry.len HC.out hx
      rw [drop_of hx, fkF] at hm
      clear hx
      obtain ⟨⟨y0, y1, y2⟩, ⟨y3, y4, y5, y6, y7⟩⟩ := x
      rw [FEntry.c_eq] at hcc
      obtain ⟨u0, e0, q0⟩ := hcc 0 _ rfl
      obtain rfl := q0.val
      have g0 : wr.cell? ⟨bc, offc + k * 8, none⟩ = some (.bool y0) := (hb0.cell (p := ⟨bc, _, none⟩) hblc).trans (by simpa [Nat.add_assoc] using e0)
      obtain ⟨u1, e1, q1⟩ := hcc 1 _ rfl
      obtain rfl := q1.val
      have g1 : wr.cell? ⟨bc, offc + k * 8 + 1, none⟩ = some (.int .i64 y1) := (hb0.cell (p := ⟨bc, _, none⟩) hblc).trans (by simpa [Nat.add_assoc] using e1)
      obtain ⟨u2, e2, q2⟩ := hcc 2 _ rfl
      obtain rfl := q2.val
      have g2 : wr.cell? ⟨bc, offc + k * 8 + 2, none⟩ = some (.string y2) := (hb0.cell (p := ⟨bc, _, none⟩) hblc).trans (by simpa [Nat.add_assoc] using e2)
      obtain ⟨u3, e3, q3⟩ := hcc 3 _ rfl
      obtain rfl := q3.val
      have g3 : wr.cell? ⟨bc, offc + k * 8 + 3, none⟩ = some (.int .i64 y3) := (hb0.cell (p := ⟨bc, _, none⟩) hblc).trans (by simpa [Nat.add_assoc] using e3)
      obtain ⟨u4, e4, q4⟩ := hcc 4 _ rfl
      obtain rfl := q4.val
      have g4 : wr.cell? ⟨bc, offc + k * 8 + 3 + 1, none⟩ = some (.int .i64 y4) := (hb0.cell (p := ⟨bc, _, none⟩) hblc).trans (by simpa [Nat.add_assoc] using e4)
      obtain ⟨u5, e5, q5⟩ := hcc 5 _ rfl
      obtain rfl := q5.val
      have g5 : wr.cell? ⟨bc, offc + k * 8 + 3 + 2, none⟩ = some (.string y5) := (hb0.cell (p := ⟨bc, _, none⟩) hblc).trans (by simpa [Nat.add_assoc] using e5)
      obtain ⟨u6, e6, q6⟩ := hcc 6 _ rfl
      obtain rfl := q6.val
      have g6 : wr.cell? ⟨bc, offc + k * 8 + 3 + 3, none⟩ = some (.int .i64 y6) := (hb0.cell (p := ⟨bc, _, none⟩) hblc).trans (by simpa [Nat.add_assoc] using e6)
      obtain ⟨u7, e7, q7⟩ := hcc 7 _ rfl
      obtain ⟨A7, c7, rfl⟩ := q7.form
      have g7 : wr.cell? ⟨bc, offc + k * 8 + 3 + 4, none⟩ = some (.slice A7 y7.length c7) := (hb0.cell (p := ⟨bc, _, none⟩) hblc).trans (by simpa [Nat.add_assoc] using e7)
      have Q7 := Lib.hid q7
      clear hcc e0 q0 e1 q1 e2 q2 e3 q3 e4 q4 e5 q5 e6 q6 e7 q7
      unfold FEntry.key at hm
      dsimp only at hm
      have HB1 := Lib.hid hb0
      have B0 := Lib.hid b0
      have B1 := Lib.hid b1
      clear hb0 b0 b1
      by_cases hq : (⟨y0, y1, y2⟩ : FKey) = ⟨a0, a1, a2⟩
      · injection hq with hq0 hq1 hq2
        subst hq0 hq1 hq2
        rw [if_pos (kEq_iff.2 rfl)] at hm
        have HM := Lib.hid hm
        clear hm
        go_wp2_with fail
        go_quiet (fail)
        go_wp2_with fail
        go_ret
        exact ⟨ret_int HM.out.symm, below_drewN HB1.out _⟩
      · rw [if_neg (fun h => hq (kEq_iff.1 h))] at hm
        have HM := Lib.hid hm
        clear hm
        by_cases q0 : y0 = a0
        · subst q0
          by_cases q1 : y1 = a1
          · subst q1
            have q2 : (y2.toList == a2.toList) = false := beq_str (fun h => hq (by rw [h]))
            clear hq
            go_wp2_with fail
            go_quiet (fail)
            go_wp2_with fail
            go_roundw
            case rel => exact ⟨k + 1, by omega, by go_num, HM.out, B0.out, B1.out, below_drewN HB1.out _⟩
            case measure => simp [intOf]; omega
          · have q1' : (y1 == a1) = false := beq_false_of_ne q1
            clear hq
            go_wp2_with fail
            go_quiet (fail)
            go_wp2_with fail
            go_roundw
            case rel => exact ⟨k + 1, by omega, by go_num, HM.out, B0.out, B1.out, below_drewN HB1.out _⟩
            case measure => simp [intOf]; omega
        · have q0' : (y0 == a0) = false := beq_false_of_ne q0
          clear hq
          go_wp2_with fail
          go_quiet (fail)
          go_wp2_with fail
          go_roundw
          case rel => exact ⟨k + 1, by omega, by go_num, HM.out, B0.out, B1.out, below_drewN HB1.out _⟩
          case measure => simp [intOf]; omega
    · obtain rfl : k = l.length := by omega
      have HM := Lib.hid (show (-1 : Int) = fkF ⟨a0, a1, a2⟩ 0 l from by rw [hm, List.drop_length, fkF])
      have HB1 := Lib.hid hb0
      clear hm b0 hb0
      go_wp2_with fail
      go_ret
      exact ⟨ret_int HM.out, HB1.out⟩
end Go.Proofs.YtdmbhmhfjappcaaGreatDoor
