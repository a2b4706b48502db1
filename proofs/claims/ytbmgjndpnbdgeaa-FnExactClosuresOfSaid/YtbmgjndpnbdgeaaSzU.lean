/-
  Node, Unit, string: the sizes that the laws reckon. Conditions: none.
-/
import Derived.Test.YtbmgjndpnbdgeaaDataU
namespace Go.Proofs.Ytbmgjndpnbdgeaa
open Go.ChangeShapes Go.WideShapes Go.ChangeAt Go.RowKit Go.Deep Go.Joins
open Go.ChangeMaps (open_string shut_string)
set_option linter.unusedVariables false
set_option linter.unusedSimpArgs false
set_option maxRecDepth 100000
def SzNode (x : FNode) : Prop := ∀ (us : List Value) (left : Int) (w : World) (B : Nat), 0 ≤ left → left ≤ 1048576 → B ≤ w.heap.size → RdVs w B x.c us → Calls Try.prog 14 #[.agg us.toArray, .int .i64 left] w fun e w' => e = .returned (.int .i64 (bud left x.wt)) ∧ Below w.heap.size w w'
def SzNodeS (l : List FNode) : Prop := ∀ (u : Value) (left : Int) (w : World) (B : Nat), 0 ≤ left → left ≤ 1048576 → B ≤ w.heap.size → RdC w B (.s 38 4 l.length (FNode.flat l)) u → Calls Try.prog 5 #[u, .int .i64 left] w fun e w' => e = .returned (.int .i64 (bud left (l.length + FNode.wts l))) ∧ Below w.heap.size w w'
set_option maxHeartbeats 1000000 in
theorem szNode_of (z0 : Int) (z1 : Int) (z2 : ByteArray) (z3 : List FNode) (hok : FNode.ok ⟨z0, z1, z2, z3⟩) (h3 : SzNodeS z3) : SzNode ⟨z0, z1, z2, z3⟩ := by
  intro us left w B hl0 hl1 hB0 hr
  rw [FNode.c_eq] at hr
  rw [FNode.wt_eq]
  rw [FNode.ok_eq] at hok
  obtain ⟨us0, rfl, hr_0⟩ := hr.unv
  obtain ⟨us1, rfl, hr_1⟩ := hr_0.unv
  obtain ⟨us2, rfl, hr_2⟩ := hr_1.unv
  obtain ⟨A3, c3, us3, rfl, r3, hr_3⟩ := hr_2.uns
  obtain rfl := hr_3.un0
  clear hr hr_0 hr_1 hr_2 hr_3
  have R3 := Lib.hid r3
  clear r3
  have H3 := Lib.hid h3
  clear h3
  have ks2 := hok.1
  clear hok
  obtain ⟨W, hW⟩ : ∃ W : Nat, W = z2.size + (z3.length + FNode.wts z3) := ⟨_, rfl⟩
  rw [← hW]
  have HW := Lib.hid hW
  clear hW
  by_cases c2 : left - z2.size < 0
  case pos =>
    go_enter Try.func14, Try.ntmps14
    go_wp2_with fail
    go_ret
    exact ⟨ret_int (by rw [bud_neg (by have := HW.out; omega)]), (Below.refl _ _).alloc (Nat.le_refl _) _⟩
  go_enter Try.func14, Try.ntmps14
  go_wp2_with fail
  refine calls_worldD _ (fun X => Blk X w.heap.size 34 #[.int .i64 z0, .int .i64 z1, .string z2, .slice A3 z3.length c3] ∧ Below w.heap.size w X) ⟨Blk.new w _ _, (Below.refl _ _).alloc (Nat.le_refl _) _⟩ ?_
  rintro X0 ⟨ba, hB⟩
  have s0 := ba.lt
  refine (H3.out _ _ _ B (by omega) (by omega) (by omega) (R3.out.below hB hB0)).mono ?_
  generalize hq0 : (z3.length + FNode.wts z3 : Nat) = q0 at *
  have Q0 := Lib.hid hq0
  clear hq0
  rintro e Y0 ⟨rfl, hb⟩
  replace ba := ba.below hb (Nat.le_refl _)
  replace hB := hB.trans (hb.mono (by omega))
  clear hb
  by_cases f0 : (q0 : Int) ≤ left - z2.size
  case neg =>
    have e0 := bud_neg f0
    rw [e0]
    clear e0
    have ba_0 : Y0.cell? ⟨w.heap.size, 0, none⟩ = some (.int .i64 z0) := ba.cell 0
    have ba_1 : Y0.cell? ⟨w.heap.size, 1, none⟩ = some (.int .i64 z1) := ba.cell 1
    have ba_2 : Y0.cell? ⟨w.heap.size, 2, none⟩ = some (.string z2) := ba.cell 2
    have ba_3 : Y0.cell? ⟨w.heap.size, 3, none⟩ = some (.slice A3 z3.length c3) := ba.cell 3
    have ba_l := ba.lt
    go_wp2_with fail
    go_ret
    exact ⟨ret_int (by rw [bud_neg (by have := HW.out; have := Q0.out; omega)]), hB⟩
  have e0 := bud_pos f0
  rw [e0]
  clear e0
  have ba_0 : Y0.cell? ⟨w.heap.size, 0, none⟩ = some (.int .i64 z0) := ba.cell 0
  have ba_1 : Y0.cell? ⟨w.heap.size, 1, none⟩ = some (.int .i64 z1) := ba.cell 1
  have ba_2 : Y0.cell? ⟨w.heap.size, 2, none⟩ = some (.string z2) := ba.cell 2
  have ba_3 : Y0.cell? ⟨w.heap.size, 3, none⟩ = some (.slice A3 z3.length c3) := ba.cell 3
  have ba_l := ba.lt
  go_wp2_with fail
  go_ret
  exact ⟨ret_int (by have := HW.out; have := Q0.out; rw [bud_pos (by omega)]; omega), hB⟩
set_option maxHeartbeats 1000000 in
theorem szNodeS_of (l : List FNode) (he : ∀ x, x ∈ l → SzNode x) : SzNodeS l := by
  intro u left w B hl0 hl1 hB0 hr0
  have hr := hr0.up hB0
  clear hr0
  obtain ⟨A, c, rfl⟩ := hr.form
  have HC := Lib.hid hr
  have hcap := hr.cap
  have hcm : l.length ≤ 9223372036854775807 := by unfold maxLen at hcap; omega
  have HE := Lib.hid he
  clear hr hcap he
  by_cases hfit : left - l.length < 0
  · go_enter Try.func5, Try.ntmps5
    go_wp2_with fail
    go_ret
    exact ⟨ret_int (by rw [bud_neg (by omega)]), Below.refl _ _⟩
  go_enter Try.func5, Try.ntmps5
  go_wp2_with fail
  go_loopw [1, 5] (fun lv i wr => ∃ k : Nat, k ≤ l.length ∧ i = .int .i64 k ∧ lv = .int .i64 (left - l.length - (FNode.wts (l.take k) : Nat)) ∧ ((FNode.wts (l.take k) : Nat) : Int) ≤ left - l.length ∧ Below w.heap.size w wr) (fun _ i _ => l.length - (intOf i).toNat)
  case atStart => exact ⟨0, Nat.zero_le _, rfl, by simp [FNode.wts], by simp [FNode.wts]; omega, Below.refl _ _⟩
  case round =>
    obtain ⟨k, hk, rfl, rfl, hw, hb⟩ := hrel
    by_cases hlt : k < l.length
    · obtain ⟨x, hx⟩ : ∃ x, l[k]? = some x := ⟨_, List.getElem?_eq_getElem hlt⟩
      obtain ⟨bc, offc, rfl, hblc, hcc⟩ := RdC.at_ FNode.len HC.out hx
      have HZ := Lib.hid (HE.out x (List.mem_of_getElem? hx))
      have HT := Lib.hid (FNode.wts_take l k x hx)
      have HL := Lib.hid (FNode.wts_le l (k + 1))
      clear hx
      obtain ⟨z0, z1, z2, z3⟩ := x
      rw [FNode.c_eq] at hcc
      obtain ⟨u0, e0, q0⟩ := hcc 0 _ rfl
      obtain rfl := q0.val
      clear q0
      have c_0 : wr.cell? ⟨bc, offc + k * 4, none⟩ = some (.int .i64 z0) := (hb.cell (p := ⟨bc, _, none⟩) hblc).trans (by simpa using e0)
      obtain ⟨u1, e1, q1⟩ := hcc 1 _ rfl
      obtain rfl := q1.val
      clear q1
      have c_1 : wr.cell? ⟨bc, offc + k * 4 + 1, none⟩ = some (.int .i64 z1) := (hb.cell (p := ⟨bc, _, none⟩) hblc).trans (by simpa using e1)
      obtain ⟨u2, e2, q2⟩ := hcc 2 _ rfl
      obtain rfl := q2.val
      clear q2
      have c_2 : wr.cell? ⟨bc, offc + k * 4 + 2, none⟩ = some (.string z2) := (hb.cell (p := ⟨bc, _, none⟩) hblc).trans (by simpa using e2)
      obtain ⟨u3, e3, q3⟩ := hcc 3 _ rfl
      obtain ⟨A3, c3, rfl⟩ := q3.form
      have R3 := Lib.hid q3
      clear q3
      have c_3 : wr.cell? ⟨bc, offc + k * 4 + 3, none⟩ = some (.slice A3 z3.length c3) := (hb.cell (p := ⟨bc, _, none⟩) hblc).trans (by simpa using e3)
      clear hcc e0 e1 e2 e3
      generalize hu : FNode.wts (l.take k) = U at *
      have HU := Lib.hid hu
      clear hu
      generalize hv : FNode.wt ⟨z0, z1, z2, z3⟩ = V at *
      have HV := Lib.hid hv
      clear hv
      by_cases hf : (V : Int) ≤ left - l.length - U
      · have hbp : 0 ≤ bud (left - l.length - U) V := by rw [bud_pos hf]; omega
        have HBP := Lib.hid (bud_pos hf)
        go_wp2_with fail
        refine (HZ.out [.int .i64 z0, .int .i64 z1, .string z2, .slice A3 z3.length c3] _ _ w.heap.size (by omega) (by omega) (by have := hb.size; omega) (by rw [FNode.c_eq]; exact (RdVs.cons (by unfold RdC; rfl) (RdVs.cons (by unfold RdC; rfl) (RdVs.cons (by unfold RdC; rfl) (RdVs.cons (R3.out.below hb (Nat.le_refl _)) (RdVs.nil _ _))))))).mono ?_
        rw [HV.out]
        rintro e w2 ⟨rfl, hb2⟩
        go_wp2_with fail
        go_roundw
        case rel =>
          have e := HT.out
          have e9 := HV.out
          rw [← HU.out] at *
          refine ⟨k + 1, by omega, by go_num, ?_, by rw [e, HU.out]; omega, hb.trans (hb2.mono hb.size)⟩
          rw [HBP.out, e, HU.out]
          congr 1
          omega
        case measure => simp [intOf]; omega
      · have hbp : bud (left - l.length - U) V = -1 := bud_neg hf
        have hbn : bud (left - l.length - U) V < 0 := by rw [hbp]; omega
        clear hbp
        go_wp2_with fail
        refine (HZ.out [.int .i64 z0, .int .i64 z1, .string z2, .slice A3 z3.length c3] _ _ w.heap.size (by omega) (by omega) (by have := hb.size; omega) (by rw [FNode.c_eq]; exact (RdVs.cons (by unfold RdC; rfl) (RdVs.cons (by unfold RdC; rfl) (RdVs.cons (by unfold RdC; rfl) (RdVs.cons (R3.out.below hb (Nat.le_refl _)) (RdVs.nil _ _))))))).mono ?_
        rw [HV.out]
        rintro e w2 ⟨rfl, hb2⟩
        go_wp2_with fail
        go_ret
        refine ⟨ret_int ?_, hb.trans (hb2.mono hb.size)⟩
        have e := HT.out
        have e2 := HL.out
        have e3 := HU.out
        have e4 := HV.out
        rw [bud_neg (by omega)]
    · obtain rfl : k = l.length := by omega
      clear hlt
      go_wp2_with fail
      go_ret
      refine ⟨ret_int ?_, hb⟩
      rw [List.take_length] at *
      rw [bud_pos (by omega)]
      omega
mutual
theorem szNode_any : ∀ (x : FNode), x.ok → SzNode x
  | .mk a0 a1 a2 a3, hw => by
    have hw2 := hw
    unfold FNode.ok at hw2
    exact szNode_of a0 a1 a2 a3 hw (szNodeS_of a3 (szNode_all a3 hw2.2))
theorem szNode_all : ∀ (l : List FNode), FNode.oks l → ∀ x, x ∈ l → SzNode x
  | [], _, x, hx => by cases hx
  | y :: r, hw, x, hx => by
    unfold FNode.oks at hw
    rcases List.mem_cons.1 hx with e | hx
    · rw [e]
      exact szNode_any y hw.1
    · exact szNode_all r hw.2 x hx
end
theorem szNodeS_any (l : List FNode) (hw : FNode.oks l) : SzNodeS l := (szNodeS_of l (szNode_all l hw))
end Go.Proofs.Ytbmgjndpnbdgeaa
