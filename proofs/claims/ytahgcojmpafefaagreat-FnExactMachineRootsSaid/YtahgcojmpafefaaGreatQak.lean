/-
  Parts of the proof: Reg, RoU. Conditions: none.
-/
import Derived.Test.YtahgcojmpafefaaGreatQaa
import Derived.Deep.RegionHeld3
import Derived.Test.YtahgcojmpafefaaGreatQaj
set_option linter.unusedVariables false
set_option linter.unusedSimpArgs false
namespace Go.Proofs.YtahgcojmpafefaaGreat
section
variable {P : Program} {ops : Array Oper} {Q : Exit → Act → World → Prop} {md : Region.Mode} {S : World → Prop} {i fuel : Nat} {d : Tmp} {op : Op} {ty : TypeId} {pos : String} {af : Array Edge} {gd : Option (Nat × Bool)} {v : Value} {listed : Array Bool} {a : Act} {w : World}
theorem regTake (hi : ops[i]? = some ⟨some d, op, ty, pos, af, gd⟩) (hs : Region.noSelect ops = true) (hf : Region.free md ops listed i = true) (hr : (Region.ready md ops listed).contains i = true)
    (hQ : ∀ c a w, Q (.panic c) (a.put (some d) v) w → Q (.panic c) a w) (hw : Region.wanted ⟨some d, op, ty, pos, af, gd⟩ (yielded ops a.tmps) = true)
    (hy : ∀ w, S w → (execOp a.eval ⟨some d, op, ty, pos, af, gd⟩).run P w = .ok (.value v) w) (hS : S w) (h : wpAnyH P md ops Q S fuel (listed.setIfInBounds i true) (a.put (some d) v) w) :
    wpAnyH P md ops Q S (fuel + 1) listed a w := wpAnyH_take hi hs hf hr hQ (Or.inl ⟨hw, hy⟩) hS h
theorem regCall (hr : Region.ready md ops listed = [i]) (hi : ops[i]? = some ⟨some d, op, ty, pos, af, gd⟩) (hw : Region.wanted ⟨some d, op, ty, pos, af, gd⟩ (yielded ops a.tmps) = true)
    (h : ∀ K' : Act → World → Prop, Shut (∀ a w, S w → (S w → wpAnyH P md ops Q S fuel (listed.setIfInBounds i true) a w) → K' a w) → Oper.wp P ⟨some d, op, ty, pos, af, gd⟩ a w K' Q) :
    wpAnyH P md ops Q S (fuel + 1) listed a w :=
  wpAnyH_ready hr (by simp) (AllReadyH.cons hi (fun K hK => by rw [if_pos hw]; exact h K hK) AllReadyH.nil)
end
end Go.Proofs.YtahgcojmpafefaaGreat
namespace Go.Proofs.YtahgcojmpafefaaGreat
set_option maxHeartbeats 40000000
open Lib (hid)
open Go.ChangeShapes Go.WideShapes Go.ChangeAt Go.RowKit Go.Deep Go.Joins
open Go.ChangeMaps (open_string shut_string)
set_option maxRecDepth 100000

theorem roots_spec (w0 : World) (x : FMachine) (hw : x.wt ≤ 1048576) (us : List Value) (w : World) (B0 lo : Nat) (hlo9 : lo = w.heap.size) (hB0 : B0 ≤ lo) (hB0w : B0 ≤ w0.heap.size) (hbw : Below B0 w0 w) (hr : RdVs w0 B0 x.c us) :
    Calls Tryz.prog 22 #[.agg us.toArray] w fun e w' => ∃ A' c', e = .returned (.slice A' (mVals x).length c') ∧ SvO w0 B0 lo w' A' c' (mVals x) ∧ Below lo w w' := by
  have hlo : lo ≤ w.heap.size := by omega
  obtain ⟨z0, z1, z2, z3, z4, z5, ⟨z6⟩, z7, z8, z9, z10, ⟨z11, z12, z13⟩⟩ := x
  rw [FMachine.wt_eq] at hw
  rw [FMachine.c_eq] at hr
  obtain ⟨us_0, rfl, hr_0⟩ := hr.unv
  obtain ⟨us_1, rfl, hr_1⟩ := hr_0.unv
  obtain ⟨us_2, rfl, hr_2⟩ := hr_1.unv
  obtain ⟨us_3, rfl, hr_3⟩ := hr_2.unv
  obtain ⟨A4, c4, us_4, rfl, q4, hr_4⟩ := hr_3.uns
  have zQ4 := hid q4
  clear q4
  obtain ⟨A5, c5, us_5, rfl, q5, hr_5⟩ := hr_4.uns
  have zQ5 := hid q5
  clear q5
  obtain ⟨A6, c6, us_6, rfl, q6, hr_6⟩ := hr_5.uns
  have zQ6 := hid q6
  clear q6
  obtain ⟨A7, c7, us_7, rfl, q7, hr_7⟩ := hr_6.uns
  have zQ7 := hid q7
  clear q7
  obtain ⟨A8, c8, us_8, rfl, q8, hr_8⟩ := hr_7.uns
  have zQ8 := hid q8
  clear q8
  obtain ⟨A9, c9, us_9, rfl, q9, hr_9⟩ := hr_8.uns
  have zQ9 := hid q9
  clear q9
  obtain ⟨A10, c10, us_10, rfl, q10, hr_10⟩ := hr_9.uns
  have zQ10 := hid q10
  clear q10
  obtain ⟨us_11, rfl, hr_11⟩ := hr_10.unv
  obtain ⟨A12, c12, us_12, rfl, q12, hr_12⟩ := hr_11.uns
  have zQ12 := hid q12
  clear q12
  obtain ⟨A13, c13, us_13, rfl, q13, hr_13⟩ := hr_12.uns
  have zQ13 := hid q13
  clear q13
  obtain rfl := hr_13.un0
  clear hr hr_0 hr_1 hr_2 hr_3 hr_4 hr_5 hr_6 hr_7 hr_8 hr_9 hr_10 hr_11 hr_12 hr_13
  have HF := hid (show mVals ⟨z0, z1, z2, z3, z4, z5, ⟨z6⟩, z7, z8, z9, z10, ⟨z11, z12, z13⟩⟩ = z4 ++ (oVals z7 ++ (gVals z9 ++ rVals z10)) from rfl)
  rw [HF.out]
  generalize hv4 : (Value.slice A4 z4.length c4) = v4
  have HPE := hid hv4.symm
  clear hv4
  obtain ⟨us3, RD3, RV3⟩ := zQ4.out.rowV
  have hsb : (w.alloc (.cells #[.int .i64 z0, .string z1, .int .i64 z2, .int .i64 z3, v4, .slice A5 z5.length c5, .slice A6 z6.length c6, .slice A7 z7.length c7, .slice A8 z8.length c8, .slice A9 z9.length c9, .slice A10 z10.length c10, .string z11, .slice A12 z12.length c12, .slice A13 z13.length c13] 53)).heap.size = w.heap.size + 1 := by simp
  have hst := SvO.start w0 (w.alloc (.cells #[.int .i64 z0, .string z1, .int .i64 z2, .int .i64 z3, v4, .slice A5 z5.length c5, .slice A6 z6.length c6, .slice A7 z7.length c7, .slice A8 z8.length c8, .slice A9 z9.length c9, .slice A10 z10.length c10, .string z11, .slice A12 z12.length c12, .slice A13 z13.length c13] 53)) B0 lo (by omega)
  rw [hsb] at hst
  obtain ⟨us9, PA⟩ := SvO.pre (m := z4) hst (Below.refl _ _) (by simp; omega) RV3
  have HPA := hid PA
  have RDY := hid (RD3.below ((hbw.alloc (by omega) (.cells #[.int .i64 z0, .string z1, .int .i64 z2, .int .i64 z3, v4, .slice A5 z5.length c5, .slice A6 z6.length c6, .slice A7 z7.length c7, .slice A8 z8.length c8, .slice A9 z9.length c9, .slice A10 z10.length c10, .string z11, .slice A12 z12.length c12, .slice A13 z13.length c13] 53)).alloc (by simp; omega) (.cells #[] 82)) (Nat.le_refl _))
  have KB := hid ((Blk.new w 53 #[.int .i64 z0, .string z1, .int .i64 z2, .int .i64 z3, v4, .slice A5 z5.length c5, .slice A6 z6.length c6, .slice A7 z7.length c7, .slice A8 z8.length c8, .slice A9 z9.length c9, .slice A10 z10.length c10, .string z11, .slice A12 z12.length c12, .slice A13 z13.length c13]).alloc (.cells #[] 82))
  have HB := hid (((Below.refl lo w).alloc hlo (.cells #[.int .i64 z0, .string z1, .int .i64 z2, .int .i64 z3, v4, .slice A5 z5.length c5, .slice A6 z6.length c6, .slice A7 z7.length c7, .slice A8 z8.length c8, .slice A9 z9.length c9, .slice A10 z10.length c10, .string z11, .slice A12 z12.length c12, .slice A13 z13.length c13] 53)).alloc (by simp; omega) (.cells #[] 82))
  have HNB := hid (show NoB (some ⟨w.heap.size + 1, 0, none⟩) w.heap.size from fun g hg => by have e9 : w.heap.size + 1 = g := Option.some.inj hg; omega)
  have hwl2 : w.heap.size < ((w.alloc (.cells #[.int .i64 z0, .string z1, .int .i64 z2, .int .i64 z3, v4, .slice A5 z5.length c5, .slice A6 z6.length c6, .slice A7 z7.length c7, .slice A8 z8.length c8, .slice A9 z9.length c9, .slice A10 z10.length c10, .string z11, .slice A12 z12.length c12, .slice A13 z13.length c13] 53)).alloc (.cells #[] 82)).heap.size := by simp; omega
  clear PA hst hsb RD3 RV3
  go_enter Tryz.func22, Tryz.ntmps22
  go_upto_region 2 with (at_builtin; go_must (refine wpList_append_rd _ rfl _ _ _ rfl lo _ _ _ 64 Tryz.underlying38 infoValueR rfl (by omega) (.slice (some ⟨w.heap.size + 1, 0, none⟩) 0 0) 0 us9 rfl HPA.out.ho B0 A4 z4.length c4 us3 HPE.out RDY.out HPA.out.h1 (by unfold maxLen; omega) (by omega) HPA.out.le ?_); intro v1 w1 hown1 hg1 hat1; obtain ⟨E0, e0, rfl, N0, HBK, HBL, HNN⟩ := HPA.out.done _ _ hown1 hg1 hat1; clear hown1 hg1 hat1 HPA)
  have hb := HBK _ HB.out
  have kb := HBL _ _ _ KB.out HNB.out
  have hnb := HNN _ hwl2 HNB.out
  clear HBK HBL HNN HB KB HNB RDY hwl2
  rw [List.nil_append] at N0
  (try simp only [List.nil_append, Nat.zero_add, List.length_nil])
  go_wp2_with fail
  go_loopw [3, 4] (fun v i wr => ∃ (k : Nat) (A' : Option Addr) (c' : Nat), k ≤ z7.length ∧ i = .int .i64 k ∧ v = .slice A' (z4 ++ oVals (z7.take k)).length c' ∧ SvO w0 B0 lo wr A' c' (z4 ++ oVals (z7.take k)) ∧ Blk wr w.heap.size 53 #[.int .i64 z0, .string z1, .int .i64 z2, .int .i64 z3, v4, .slice A5 z5.length c5, .slice A6 z6.length c6, .slice A7 z7.length c7, .slice A8 z8.length c8, .slice A9 z9.length c9, .slice A10 z10.length c10, .string z11, .slice A12 z12.length c12, .slice A13 z13.length c13] ∧ Below lo w wr ∧ NoB A' w.heap.size) (fun _ i _ => z7.length - (intOf i).toNat)
  case atStart => exact ⟨0, E0, e0, Nat.zero_le _, rfl, by rw [show (z4 ++ oVals (z7.take 0)) = z4 from by simp [oVals]], by rw [show (z4 ++ oVals (z7.take 0)) = z4 from by simp [oVals]]; exact N0, kb, hb, hnb⟩
  case round =>
    clear kb hb hnb
    obtain ⟨k, A', c', hkk, rfl, rfl, SV, kb, hb, hnb⟩ := hrel
    have hbW := hbw.trans (hb.mono hB0)
    have hlow := Nat.le_trans hlo hb.size
    have hwl := kb.lt
    have hal : (z4 ++ oVals (z7.take k)).length ≤ 2097152 := by
      rw [List.length_append]
      have h1 := lw_o (z7.take k)
      have h2 := FObject.wts_le z7 k
      have h3 := List.length_take_le k z7
      unfold lw at h1
      omega
    by_cases hltx : k < z7.length
    · skip
      obtain ⟨xx, hxx⟩ : ∃ x, z7[k]? = some x := ⟨_, List.getElem?_eq_getElem hltx⟩
      obtain ⟨bcx, offx, rfl, hblx, hccx⟩ := RdC.at_ FObject.len zQ7.out hxx
      have HXx := hid hxx
      have HWx := hid (FObject.wts_at z7 xx (List.mem_of_getElem? hxx))
      clear hxx
      obtain ⟨x0, x1, x2⟩ := xx
      rw [FObject.c_eq] at hccx
      obtain ⟨u2, e2, q2⟩ := hccx 2 _ rfl
      obtain ⟨xA2, xc2, rfl⟩ := q2.form
      have xQ2 := hid q2
      clear q2
      have xE2 := hid (fun (X : World) (h : Below B0 w0 X) => (show X.cell? ⟨bcx, offx + k * 3 + 2, none⟩ = some (.slice xA2 x2.length xc2) from (h.cell (p := ⟨bcx, _, none⟩) (by show bcx < B0; omega)).trans (by simpa using e2)))
      clear e2
      clear hccx
      have hxw := HWx.out
      rw [FObject.wt_eq] at hxw
      have hkl : (k : Int) < (z7.length : Int) := by omega
      have hkl9 : z7.length ≤ 9223372036854775807 := by omega
      have hk0 : (0 : Int) ≤ (k : Int) := by omega
      generalize hac : z4 ++ oVals (z7.take k) = ac at *
      have HAC := hid hac
      clear hac
      have kz : wr.cell? ⟨w.heap.size, 7, none⟩ = some (.slice (some ⟨bcx, offx, none⟩) z7.length c7) := kb.cell 7
      have xk2 := xE2.out wr hbW
      go_wp2_with fail
      clear kz xk2 hbW hlow
      go_loopw [3, 5] (fun v i wq => ∃ (j : Nat) (A' : Option Addr) (c' : Nat), j ≤ x2.length ∧ i = .int .i64 j ∧ v = .slice A' (ac ++ bVals (x2.take j)).length c' ∧ SvO w0 B0 lo wq A' c' (ac ++ bVals (x2.take j)) ∧ Blk wq w.heap.size 53 #[.int .i64 z0, .string z1, .int .i64 z2, .int .i64 z3, v4, .slice A5 z5.length c5, .slice A6 z6.length c6, .slice (some ⟨bcx, offx, none⟩) z7.length c7, .slice A8 z8.length c8, .slice A9 z9.length c9, .slice A10 z10.length c10, .string z11, .slice A12 z12.length c12, .slice A13 z13.length c13] ∧ Below lo w wq ∧ NoB A' w.heap.size) (fun _ i _ => x2.length - (intOf i).toNat)
      case atStart => exact ⟨0, A', c', Nat.zero_le _, rfl, by rw [show (ac ++ bVals (x2.take 0)) = ac from by simp [bVals]], by rw [show (ac ++ bVals (x2.take 0)) = ac from by simp [bVals]]; exact SV, kb, hb, hnb⟩
      case round =>
        obtain ⟨wq, rfl⟩ : ∃ X : World, X = wr := ⟨_, rfl⟩
        clear kb hb hnb
        obtain ⟨j, A', c', hkj, rfl, rfl, SV, kb, hb, hnb⟩ := hrel
        have hbW := hbw.trans (hb.mono hB0)
        have hlow := Nat.le_trans hlo hb.size
        have hwl := kb.lt
        have hal2 : (ac ++ bVals (x2.take j)).length ≤ 3145728 := by rw [List.length_append]; unfold bVals; rw [List.length_map]; have := List.length_take_le j x2; omega
        have kz : wq.cell? ⟨w.heap.size, 7, none⟩ = some (.slice (some ⟨bcx, offx, none⟩) z7.length c7) := kb.cell 7
        have xk2 := xE2.out wq hbW
        by_cases hlty : j < x2.length
        · skip
          clear xk2
          obtain ⟨xy, hxy⟩ : ∃ x, x2[j]? = some x := ⟨_, List.getElem?_eq_getElem hlty⟩
          obtain ⟨bcy, offy, rfl, hbly, hccy⟩ := RdC.at_ FBinding.len xQ2.out hxy
          have HXy := hid hxy
          have HWy := hid (FBinding.wts_at x2 xy (List.mem_of_getElem? hxy))
          clear hxy
          obtain ⟨y0, ⟨y1, y2, y3, y4, y5⟩⟩ := xy
          rw [FBinding.c_eq] at hccy
          obtain ⟨u1, e1, q1⟩ := hccy 1 _ rfl
          obtain rfl := q1.val
          clear q1
          have yE1 := hid (fun (X : World) (h : Below B0 w0 X) => (show X.cell? ⟨bcy, offy + j * 6 + 1, none⟩ = some (.int .i64 y1) from (h.cell (p := ⟨bcy, _, none⟩) (by show bcy < B0; omega)).trans (by simpa using e1)))
          clear e1
          obtain ⟨u2, e2, q2⟩ := hccy 2 _ rfl
          obtain rfl := q2.val
          clear q2
          have yE2 := hid (fun (X : World) (h : Below B0 w0 X) => (show X.cell? ⟨bcy, offy + j * 6 + 2, none⟩ = some (.int .i64 y2) from (h.cell (p := ⟨bcy, _, none⟩) (by show bcy < B0; omega)).trans (by simpa using e2)))
          clear e2
          obtain ⟨u3, e3, q3⟩ := hccy 3 _ rfl
          obtain rfl := q3.val
          clear q3
          have yE3 := hid (fun (X : World) (h : Below B0 w0 X) => (show X.cell? ⟨bcy, offy + j * 6 + 3, none⟩ = some (.string y3) from (h.cell (p := ⟨bcy, _, none⟩) (by show bcy < B0; omega)).trans (by simpa using e3)))
          clear e3
          obtain ⟨u4, e4, q4⟩ := hccy 4 _ rfl
          obtain rfl := q4.val
          clear q4
          have yE4 := hid (fun (X : World) (h : Below B0 w0 X) => (show X.cell? ⟨bcy, offy + j * 6 + 4, none⟩ = some (.int .i64 y4) from (h.cell (p := ⟨bcy, _, none⟩) (by show bcy < B0; omega)).trans (by simpa using e4)))
          clear e4
          obtain ⟨u5, e5, q5⟩ := hccy 5 _ rfl
          obtain ⟨yA5, yc5, rfl⟩ := q5.form
          have yQ5 := hid q5
          clear q5
          have yE5 := hid (fun (X : World) (h : Below B0 w0 X) => (show X.cell? ⟨bcy, offy + j * 6 + 5, none⟩ = some (.slice yA5 y5.length yc5) from (h.cell (p := ⟨bcy, _, none⟩) (by show bcy < B0; omega)).trans (by simpa using e5)))
          clear e5
          clear hccy
          have xk2 := xE2.out wq hbW
          have yk1 := yE1.out wq hbW
          have yk2 := yE2.out wq hbW
          have yk3 := yE3.out wq hbW
          have yk4 := yE4.out wq hbW
          have yk5 := yE5.out wq hbW
          have hjl : (j : Int) < (x2.length : Int) := by omega
          have hjl9 : x2.length ≤ 9223372036854775807 := by omega
          have hj0 : (0 : Int) ≤ (j : Int) := by omega
          generalize hac2 : ac ++ bVals (x2.take j) = ac2 at *
          have HAC2 := hid hac2
          clear hac2
          obtain ⟨us9, PA⟩ := SvO.pre (m := [(.mk y1 y2 y3 y4 y5)]) SV ((Below.refl _ _).alloc (Nat.le_refl _) (.cells #[.int .i64 y1, .int .i64 y2, .string y3, .int .i64 y4, .slice yA5 y5.length yc5] 82)) hlow (show RdVs w0 B0 (FValue.flat [(.mk y1 y2 y3 y4 y5)]) [.int .i64 y1, .int .i64 y2, .string y3, .int .i64 y4, .slice yA5 y5.length yc5] from by rw [show FValue.flat [(.mk y1 y2 y3 y4 y5)] = FValue.c (.mk y1 y2 y3 y4 y5) from by simp [FValue.flat]]; exact (by rw [FValue.c_eq]; exact (RdVs.cons (by unfold RdC; rfl) (RdVs.cons (by unfold RdC; rfl) (RdVs.cons (by unfold RdC; rfl) (RdVs.cons (by unfold RdC; rfl) (RdVs.cons yQ5.out (RdVs.nil _ _))))))))
          have HPA := hid PA
          have KB := hid (kb.alloc (.cells #[.int .i64 y1, .int .i64 y2, .string y3, .int .i64 y4, .slice yA5 y5.length yc5] 82))
          have HB := hid (hb.alloc hlow (.cells #[.int .i64 y1, .int .i64 y2, .string y3, .int .i64 y4, .slice yA5 y5.length yc5] 82))
          have HNB := hid hnb
          have hwl2 : w.heap.size < (wq.alloc (.cells #[.int .i64 y1, .int .i64 y2, .string y3, .int .i64 y4, .slice yA5 y5.length yc5] 82)).heap.size := by simp; omega
          clear PA SV
          go_wp2_with (at_builtin; go_must (refine wpList_append_rd _ rfl _ _ _ rfl lo _ _ _ 64 Tryz.underlying38 infoValueR rfl (by omega) (.slice A' ac2.length c') ac2.length us9 rfl HPA.out.ho (wq.heap.size + 1) _ 1 1 _ rfl (rd_new wq 82 5 [.int .i64 y1, .int .i64 y2, .string y3, .int .i64 y4, .slice yA5 y5.length yc5] rfl) HPA.out.h1 (by unfold maxLen; omega) (by omega) HPA.out.le ?_); intro v1 w1 hown1 hg1 hat1; obtain ⟨E1, e1, rfl, N1, HBK, HBL, HNN⟩ := HPA.out.done _ _ hown1 hg1 hat1; clear hown1 hg1 hat1 HPA)
          replace hb := HBK _ HB.out
          replace kb := HBL _ _ _ KB.out HNB.out
          replace hnb := HNN _ hwl2 HNB.out
          clear HBK HBL HNN HB KB HNB hwl2
          go_roundw
          case rel =>
            have e : ac ++ bVals (x2.take (j + 1)) = ac2 ++ [(.mk y1 y2 y3 y4 y5)] := by unfold bVals; rw [map_take1 _ _ _ _ HXy.out, ← List.append_assoc, show ac ++ (x2.take j).map _ = _ from HAC2.out]
            exact ⟨j + 1, E1, e1, by omega, by go_num, by rw [e]; simp, by rw [e]; exact N1, kb, hb, hnb⟩
          case measure => simp [intOf]; omega
        · obtain rfl : j = x2.length := by omega
          rw [List.take_length] at SV ⊢
          clear hlty
          go_wp2_with fail
          go_roundw
          case rel =>
            have e : z4 ++ oVals (z7.take (k + 1)) = ac ++ bVals x2 := by unfold oVals; rw [flat_take1 _ _ _ _ HXx.out, ← List.append_assoc, show z4 ++ (z7.take k).flatMap _ = _ from HAC.out]
            exact ⟨k + 1, A', c', by omega, by go_num, by rw [e], by rw [e]; exact SV, kb, hb, hnb⟩
          case measure => simp [intOf]; omega
    · obtain rfl : k = z7.length := by omega
      rw [List.take_length] at SV hal ⊢
      have kz : wr.cell? ⟨w.heap.size, 7, none⟩ = some (.slice A7 z7.length c7) := kb.cell 7
      clear hltx
      generalize hac : z4 ++ oVals z7 = ac at *
      have HAC := hid hac
      clear hac
      go_wp2_with fail
      clear kz hbW hlow
      go_loopw [3, 6] (fun v i wr => ∃ (k : Nat) (A' : Option Addr) (c' : Nat), k ≤ z9.length ∧ i = .int .i64 k ∧ v = .slice A' (ac ++ gVals (z9.take k)).length c' ∧ SvO w0 B0 lo wr A' c' (ac ++ gVals (z9.take k)) ∧ Blk wr w.heap.size 53 #[.int .i64 z0, .string z1, .int .i64 z2, .int .i64 z3, v4, .slice A5 z5.length c5, .slice A6 z6.length c6, .slice A7 z7.length c7, .slice A8 z8.length c8, .slice A9 z9.length c9, .slice A10 z10.length c10, .string z11, .slice A12 z12.length c12, .slice A13 z13.length c13] ∧ Below lo w wr ∧ NoB A' w.heap.size) (fun _ i _ => z9.length - (intOf i).toNat)
      case atStart => exact ⟨0, A', c', Nat.zero_le _, rfl, by rw [show (ac ++ gVals (z9.take 0)) = ac from by simp [gVals]], by rw [show (ac ++ gVals (z9.take 0)) = ac from by simp [gVals]]; exact SV, kb, hb, hnb⟩
      case round =>
        clear kb hb hnb
        obtain ⟨k, A', c', hkk, rfl, rfl, SV, kb, hb, hnb⟩ := hrel
        have hbW := hbw.trans (hb.mono hB0)
        have hlow := Nat.le_trans hlo hb.size
        have hwl := kb.lt
        have hal2 : (ac ++ gVals (z9.take k)).length ≤ 4194304 := by
          rw [List.length_append]
          have h1 := lw_g (z9.take k)
          have h2 := FGen.wts_le z9 k
          have h3 := List.length_take_le k z9
          unfold lw at h1
          omega
        by_cases hlty : k < z9.length
        · skip
          obtain ⟨xx, hx⟩ : ∃ x, z9[k]? = some x := ⟨_, List.getElem?_eq_getElem hlty⟩
          obtain ⟨bcx, offx, usx, rfl, hblx, hulx, hv, hra⟩ := RdC.elem FGen.len zQ9.out hx
          have HXx := hid hx
          have hxw := FGen.wts_at z9 xx (List.mem_of_getElem? hx)
          clear hx
          obtain ⟨x0, ⟨x1, x2, x3, x4, x5⟩, xf⟩ := xx
          rw [gen_wtV] at hxw
          rw [gen_cV] at hv
          obtain ⟨us_r, rfl, hv_0⟩ := hv.unv
          obtain ⟨usv, usf, rfl, hvv, hvf⟩ := hv_0.cutV
          have hlv : usv.length = 5 := hvv.1.trans (FValue.len _)
          have hlf : usf.length = 13 := hvf.1.trans (FFrame.len _)
          have HR1 := hid (fun (X : World) (h : Below B0 w0 X) => range_below (range_subV [.int .i64 x0] usv usf hra) h hblx)
          have HR2 := hid (fun (X : World) (h : Below B0 w0 X) => (show X.rangeAt bcx (offx + k * 19 + 6) usf from by have h9 := range_below (range_subV (.int .i64 x0 :: usv) usf [] (by rw [List.append_nil]; exact hra)) h hblx; rw [List.length_cons, hlv] at h9; exact h9))
          have HVF := hid hvf
          have HLF := hid hlf
          have HVV := hid (show RdVs w0 B0 (FValue.flat [(FValue.mk x1 x2 x3 x4 x5)]) usv from by rw [show FValue.flat [(FValue.mk x1 x2 x3 x4 x5)] = FValue.c (.mk x1 x2 x3 x4 x5) from by simp [FValue.flat]]; exact hvv)
          rw [FValue.c_eq] at hvv
          obtain ⟨us_1, rfl, hv_1⟩ := hvv.unv
          obtain ⟨us_2, rfl, hv_2⟩ := hv_1.unv
          obtain ⟨us_3, rfl, hv_3⟩ := hv_2.unv
          obtain ⟨us_4, rfl, hv_4⟩ := hv_3.unv
          obtain ⟨D5, d5, us_5, rfl, _, hv_5⟩ := hv_4.uns
          obtain rfl := hv_5.un0
          clear hv hv_0 hvv hvf hra hulx hlv hlf hv_1 hv_2 hv_3 hv_4 hv_5
          have kz : wr.cell? ⟨w.heap.size, 9, none⟩ = some (.slice (some ⟨bcx, offx, none⟩) z9.length c9) := kb.cell 9
          have hkl : (k : Int) < (z9.length : Int) := by omega
          have hkl9 : z9.length ≤ 9223372036854775807 := by omega
          have hk0 : (0 : Int) ≤ (k : Int) := by omega
          have hfw : FFrame.wt xf ≤ 1048576 := by omega
          generalize hac2 : ac ++ gVals (z9.take k) = ac2 at *
          have HAC2 := hid hac2
          clear hac2
          obtain ⟨us9, PA⟩ := SvO.pre (m := [(FValue.mk x1 x2 x3 x4 x5)]) SV.drew ((Below.refl _ _).alloc (Nat.le_refl _) (.cells #[.int .i64 x1, .int .i64 x2, .string x3, .int .i64 x4, .slice D5 x5.length d5] 82)) hlow HVV.out
          have HW0 := hid hbW.drew
          have HK0 := hid kb.drew
          have HPA := hid PA
          have KB := hid (kb.drew.alloc (.cells #[.int .i64 x1, .int .i64 x2, .string x3, .int .i64 x4, .slice D5 x5.length d5] 82))
          have HB := hid (hb.drew.alloc hlow (.cells #[.int .i64 x1, .int .i64 x2, .string x3, .int .i64 x4, .slice D5 x5.length d5] 82))
          have HW1 := hid (hbW.drew.alloc (Nat.le_trans hB0 hlow) (.cells #[.int .i64 x1, .int .i64 x2, .string x3, .int .i64 x4, .slice D5 x5.length d5] 82))
          have HNB := hid hnb
          have hwl2 : w.heap.size < (wr.drew.alloc (.cells #[.int .i64 x1, .int .i64 x2, .string x3, .int .i64 x4, .slice D5 x5.length d5] 82)).heap.size := by simp; omega
          clear PA SV HVV
          go_wp2_with fail
          clear kz
          refine wp_region_held_drew (S := (fun w_ => Below B0 w0 w_ ∧ Blk w_ w.heap.size 53 #[.int .i64 z0, .string z1, .int .i64 z2, .int .i64 z3, v4, .slice A5 z5.length c5, .slice A6 z6.length c6, .slice A7 z7.length c7, .slice A8 z8.length c8, .slice (some ⟨bcx, offx, none⟩) z9.length c9, .slice A10 z10.length c10, .string z11, .slice A12 z12.length c12, .slice A13 z13.length c13])) (by kernel_rfl) ?_ (fun hHeld => ?_)
          · (try dsimp only)
            (exact ⟨HW0.out, HK0.out⟩)
          refine regTake (i := 0) (v := ?_) rfl (by kernel_rfl) (by kernel_rfl) (by kernel_rfl) (fun _ _ _ h => h) (by rfl) ?_ hHeld ?_
          rotate_left
          · intro w_ hSw
            go_simp
            (try with_reducible rfl)
          try simp only [Act.put, List.setIfInBounds_toArray, List.set_cons_zero, List.set_cons_succ]
          refine regTake (i := 1) (v := ?_) rfl (by kernel_rfl) (by kernel_rfl) (by kernel_rfl) (fun _ _ _ h => h) (by rfl) ?_ hHeld ?_
          rotate_left
          · intro w_ hSw
            have kz : w_.cell? ⟨w.heap.size, 9, none⟩ = some (.slice (some ⟨bcx, offx, none⟩) z9.length c9) := hSw.2.cell 9
            go_simp
            (try with_reducible rfl)
          try simp only [Act.put, List.setIfInBounds_toArray, List.set_cons_zero, List.set_cons_succ]
          refine regTake (i := 2) (v := ?_) rfl (by kernel_rfl) (by kernel_rfl) (by kernel_rfl) (fun _ _ _ h => h) (by rfl) ?_ hHeld ?_
          rotate_left
          · intro w_ hSw
            go_simp
            (try with_reducible rfl)
          try simp only [Act.put, List.setIfInBounds_toArray, List.set_cons_zero, List.set_cons_succ]
          refine regTake (i := 3) (v := ?_) rfl (by kernel_rfl) (by kernel_rfl) (by kernel_rfl) (fun _ _ _ h => h) (by rfl) ?_ hHeld ?_
          rotate_left
          · intro w_ hSw
            go_simp
            (try with_reducible rfl)
          try simp only [Act.put, List.setIfInBounds_toArray, List.set_cons_zero, List.set_cons_succ]
          refine regTake (i := 4) (v := ?_) rfl (by kernel_rfl) (by kernel_rfl) (by kernel_rfl) (fun _ _ _ h => h) (by rfl) ?_ hHeld ?_
          rotate_left
          · intro w_ hSw
            go_simp
            (try with_reducible rfl)
          try simp only [Act.put, List.setIfInBounds_toArray, List.set_cons_zero, List.set_cons_succ]
          refine regTake (i := 5) (v := ?_) rfl (by kernel_rfl) (by kernel_rfl) (by kernel_rfl) (fun _ _ _ h => h) (by rfl) ?_ hHeld ?_
          rotate_left
          · intro w_ hSw
            refine run_load_at 91 (.tmp 54) bcx (offx + k * 19 + 6) usf (.struct (flds Tryz.prog 91)) (HR2.out w_ hSw.1) ?ho ?hx (by kernel_rfl) rfl HLF.out (by kernel_rfl)
            case ho => rfl
            case hx => rfl
          try simp only [Act.put, List.setIfInBounds_toArray, List.set_cons_zero, List.set_cons_succ]
          refine regTake (i := 6) (v := ?_) rfl (by kernel_rfl) (by kernel_rfl) (by kernel_rfl) (fun _ _ _ h => h) (by rfl) ?_ hHeld ?_
          rotate_left
          · intro w_ hSw
            go_simp
            (try with_reducible rfl)
          try simp only [Act.put, List.setIfInBounds_toArray, List.set_cons_zero, List.set_cons_succ]
          refine regTake (i := 7) (v := ?_) rfl (by kernel_rfl) (by kernel_rfl) (by kernel_rfl) (fun _ _ _ h => h) (by rfl) ?_ hHeld ?_
          rotate_left
          · intro w_ hSw
            go_simp
            (try with_reducible rfl)
          try simp only [Act.put, List.setIfInBounds_toArray, List.set_cons_zero, List.set_cons_succ]
          refine regTake (i := 8) (v := ?_) rfl (by kernel_rfl) (by kernel_rfl) (by kernel_rfl) (fun _ _ _ h => h) (by rfl) ?_ hHeld ?_
          rotate_left
          · intro w_ hSw
            have kz : w_.cell? ⟨w.heap.size, 9, none⟩ = some (.slice (some ⟨bcx, offx, none⟩) z9.length c9) := hSw.2.cell 9
            go_simp
            (try with_reducible rfl)
          try simp only [Act.put, List.setIfInBounds_toArray, List.set_cons_zero, List.set_cons_succ]
          refine regTake (i := 9) (v := ?_) rfl (by kernel_rfl) (by kernel_rfl) (by kernel_rfl) (fun _ _ _ h => h) (by rfl) ?_ hHeld ?_
          rotate_left
          · intro w_ hSw
            go_simp
            (try with_reducible rfl)
          try simp only [Act.put, List.setIfInBounds_toArray, List.set_cons_zero, List.set_cons_succ]
          refine regTake (i := 10) (v := ?_) rfl (by kernel_rfl) (by kernel_rfl) (by kernel_rfl) (fun _ _ _ h => h) (by rfl) ?_ hHeld ?_
          rotate_left
          · intro w_ hSw
            go_simp
            (try with_reducible rfl)
          try simp only [Act.put, List.setIfInBounds_toArray, List.set_cons_zero, List.set_cons_succ]
          refine regTake (i := 11) (v := ?_) rfl (by kernel_rfl) (by kernel_rfl) (by kernel_rfl) (fun _ _ _ h => h) (by rfl) ?_ hHeld ?_
          rotate_left
          · intro w_ hSw
            go_simp
            (try with_reducible rfl)
          try simp only [Act.put, List.setIfInBounds_toArray, List.set_cons_zero, List.set_cons_succ]
          refine regTake (i := 12) (v := ?_) rfl (by kernel_rfl) (by kernel_rfl) (by kernel_rfl) (fun _ _ _ h => h) (by rfl) ?_ hHeld ?_
          rotate_left
          · intro w_ hSw
            refine run_load_at 82 (.tmp 61) bcx (offx + k * 19 + 1) [.int .i64 x1, .int .i64 x2, .string x3, .int .i64 x4, .slice D5 x5.length d5] (.struct (flds Tryz.prog 82)) (HR1.out w_ hSw.1) ?ho ?hx (by kernel_rfl) rfl rfl (by kernel_rfl)
            case ho => rfl
            case hx => rfl
          try simp only [Act.put, List.setIfInBounds_toArray, List.set_cons_zero, List.set_cons_succ]
          refine regCall (i := 13) (by kernel_rfl) rfl (by rfl) (fun K hK => ?_)
          go_simp
          refine hK.out _ _ ?_ (fun hHeld => ?_)
          · (try dsimp only)
            (exact ⟨HW1.out, KB.out⟩)
          clear hK K
          try simp only [Act.put, List.setIfInBounds_toArray, List.set_cons_zero, List.set_cons_succ]
          refine regCall (i := 14) (by kernel_rfl) rfl (by rfl) (fun K hK => ?_)
          refine wp_append_rd _ _ _ _ rfl lo _ _ _ 64 Tryz.underlying38 infoValueR rfl (by omega) (.slice A' ac2.length c') ac2.length us9 rfl HPA.out.ho (wr.drew.heap.size + 1) _ 1 1 _ rfl (rd_new wr.drew 82 5 [.int .i64 x1, .int .i64 x2, .string x3, .int .i64 x4, .slice D5 x5.length d5] rfl) HPA.out.h1 (by unfold maxLen; omega) (by omega) HPA.out.le ?_
          intro v1 w1 hown1 hg1 hat1
          obtain ⟨E1, e1, rfl, N1, HBK, HBL, HNN⟩ := HPA.out.done _ _ hown1 hg1 hat1
          clear hown1 hg1 hat1 HPA
          have hb := HBK _ HB.out
          have kb := HBL _ _ _ KB.out HNB.out
          have hnb := HNN _ hwl2 HNB.out
          have hbW := hbw.trans (hb.mono hB0)
          clear HBK HBL HNN HB KB HNB HW1
          generalize hac3 : ac2 ++ [(FValue.mk x1 x2 x3 x4 x5)] = ac3 at *
          have HAC3 := hid hac3
          have hl3 : ac3.length ≤ 4194305 := by rw [← hac3, List.length_append]; simp; omega
          clear hac3
          refine hK.out _ _ ?_ (fun hHeld => ?_)
          · (try dsimp only)
            (exact ⟨hbW, kb⟩)
          clear hK K
          try simp only [Act.put, List.setIfInBounds_toArray, List.set_cons_zero, List.set_cons_succ]
          refine regCall (i := 15) (by kernel_rfl) rfl (by rfl) (fun K hK => ?_)
          go_simp
          go_at_call 62
          refine (frRo_spec w0 xf hfw usf w1 B0 (lo + 1) ac3 E1 e1 (by omega) (by omega) (by have := kb.lt; omega) hbW HVF.out (N1.raise (by rw [hlo9]; exact hnb))).mono ?_
          rintro e w2 ⟨R5, r5, rfl, SV5, hb5⟩
          have hb9 := hb.trans (hb5.mono (Nat.le_succ _))
          have kb9 : Blk w2 w.heap.size 53 #[.int .i64 z0, .string z1, .int .i64 z2, .int .i64 z3, v4, .slice A5 z5.length c5, .slice A6 z6.length c6, .slice A7 z7.length c7, .slice A8 z8.length c8, .slice (some ⟨bcx, offx, none⟩) z9.length c9, .slice A10 z10.length c10, .string z11, .slice A12 z12.length c12, .slice A13 z13.length c13] := (hb5.block w.heap.size (by omega)).trans kb
          have hnb9 : NoB R5 w.heap.size := SV5.noBlo (by omega)
          clear kb hb hnb hbW
          refine hK.out _ _ ?_ (fun hHeld => ?_)
          · (try dsimp only)
            (exact ⟨hbw.trans (hb9.mono hB0), kb9⟩)
          clear hK K
          try simp only [Act.put, List.setIfInBounds_toArray, List.set_cons_zero, List.set_cons_succ]
          refine regTake (i := 16) (v := ?_) rfl (by kernel_rfl) (by kernel_rfl) (by kernel_rfl) (fun _ _ _ h => h) (by rfl) ?_ hHeld ?_
          rotate_left
          · intro w_ hSw
            go_simp
            (try with_reducible rfl)
          try simp only [Act.put, List.setIfInBounds_toArray, List.set_cons_zero, List.set_cons_succ]
          refine wpAnyH_done (by kernel_rfl) ?_ _
          go_wp2_with fail
          go_roundw
          case rel =>
            have e : ac ++ gVals (z9.take (k + 1)) = ac3 ++ fVals xf := by
              rw [← HAC3.out, ← HAC2.out]
              unfold gVals
              rw [flat_take1 _ _ _ _ HXx.out]
              simp
            exact ⟨k + 1, R5, r5, by omega, by go_num, by rw [e]; simp, by rw [e]; exact SV5.up lo (Nat.le_succ _), kb9, hb9, hnb9⟩
          case measure => simp [intOf]; omega
        · obtain rfl : k = z9.length := by omega
          rw [List.take_length] at SV hal2 ⊢
          have kz : wr.cell? ⟨w.heap.size, 9, none⟩ = some (.slice A9 z9.length c9) := kb.cell 9
          clear hlty
          generalize hac2 : ac ++ gVals z9 = ac2 at *
          have HAC2 := hid hac2
          clear hac2
          go_wp2_with fail
          clear kz hbW hlow
          go_loopw [3, 7] (fun v i wr => ∃ (k : Nat) (A' : Option Addr) (c' : Nat), k ≤ z10.length ∧ i = .int .i64 k ∧ v = .slice A' (ac2 ++ rVals (z10.take k)).length c' ∧ SvO w0 B0 lo wr A' c' (ac2 ++ rVals (z10.take k)) ∧ Blk wr w.heap.size 53 #[.int .i64 z0, .string z1, .int .i64 z2, .int .i64 z3, v4, .slice A5 z5.length c5, .slice A6 z6.length c6, .slice A7 z7.length c7, .slice A8 z8.length c8, .slice A9 z9.length c9, .slice A10 z10.length c10, .string z11, .slice A12 z12.length c12, .slice A13 z13.length c13] ∧ Below lo w wr ∧ NoB A' w.heap.size) (fun _ i _ => z10.length - (intOf i).toNat)
          case atStart => exact ⟨0, A', c', Nat.zero_le _, rfl, by rw [show (ac2 ++ rVals (z10.take 0)) = ac2 from by simp [rVals]], by rw [show (ac2 ++ rVals (z10.take 0)) = ac2 from by simp [rVals]]; exact SV, kb, hb, hnb⟩
          case round =>
            clear kb hb hnb
            obtain ⟨k, A', c', hkk, rfl, rfl, SV, kb, hb, hnb⟩ := hrel
            have hbW := hbw.trans (hb.mono hB0)
            have hlow := Nat.le_trans hlo hb.size
            have hwl := kb.lt
            have hal3 : (ac2 ++ rVals (z10.take k)).length ≤ 8388608 := by
              rw [List.length_append]
              have h1 := lw_r (z10.take k)
              have h2 := FFrame.wts_le z10 k
              have h3 := List.length_take_le k z10
              unfold lw at h1
              omega
            by_cases hlty : k < z10.length
            · skip
              obtain ⟨xf, hx⟩ : ∃ x, z10[k]? = some x := ⟨_, List.getElem?_eq_getElem hlty⟩
              obtain ⟨bcx, offx, usf, rfl, hblx, hulx, hvf, hra⟩ := RdC.elem FFrame.len zQ10.out hx
              have HXx := hid hx
              have hfw9 := FFrame.wts_at z10 xf (List.mem_of_getElem? hx)
              have hfw : FFrame.wt xf ≤ 1048576 := by omega
              have HVF := hid hvf
              have HLF := hid hulx
              have HRA := hid (range_below hra hbW hblx)
              clear hx hvf hulx hra
              have kz : wr.cell? ⟨w.heap.size, 10, none⟩ = some (.slice (some ⟨bcx, offx, none⟩) z10.length c10) := kb.cell 10
              have hkl : (k : Int) < (z10.length : Int) := by omega
              have hkl9 : z10.length ≤ 9223372036854775807 := by omega
              have hk0 : (0 : Int) ≤ (k : Int) := by omega
              generalize hac3 : ac2 ++ rVals (z10.take k) = ac3 at *
              have HAC3 := hid hac3
              clear hac3
              go_wp2_with (refine wpList_load_elem 91 _ bcx (offx + k * 13) usf (.struct (flds Tryz.prog 91)) HRA.out rfl rfl (by kernel_rfl) rfl HLF.out (by kernel_rfl) rfl ?_)
              refine (frRo_spec w0 xf hfw usf wr B0 (lo + 1) ac3 A' c' (by omega) (by omega) (by omega) hbW HVF.out (SV.raise (by rw [hlo9]; exact hnb))).mono ?_
              rintro e w2 ⟨R5, r5, rfl, SV5, hb5⟩
              have hb9 := hb.trans (hb5.mono (Nat.le_succ _))
              have kb9 : Blk w2 w.heap.size 53 #[.int .i64 z0, .string z1, .int .i64 z2, .int .i64 z3, v4, .slice A5 z5.length c5, .slice A6 z6.length c6, .slice A7 z7.length c7, .slice A8 z8.length c8, .slice A9 z9.length c9, .slice (some ⟨bcx, offx, none⟩) z10.length c10, .string z11, .slice A12 z12.length c12, .slice A13 z13.length c13] := (hb5.block w.heap.size (by omega)).trans kb
              have hnb9 : NoB R5 w.heap.size := SV5.noBlo (by omega)
              clear kb hb hnb hbW kz SV hb5
              go_wp2_with fail
              go_roundw
              case rel =>
                have e : ac2 ++ rVals (z10.take (k + 1)) = ac3 ++ fVals xf := by
                  rw [← HAC3.out]
                  unfold rVals
                  rw [flat_take1 _ _ _ _ HXx.out, List.append_assoc]
                exact ⟨k + 1, R5, r5, by omega, by go_num, by rw [e]; simp, by rw [e]; exact SV5.up lo (Nat.le_succ _), kb9, hb9, hnb9⟩
              case measure => simp [intOf]; omega
            · obtain rfl : k = z10.length := by omega
              rw [List.take_length] at SV ⊢
              have kz : wr.cell? ⟨w.heap.size, 10, none⟩ = some (.slice A10 z10.length c10) := kb.cell 10
              clear hlty
              go_wp2_with fail
              go_ret
              have e : ac2 ++ rVals z10 = z4 ++ (oVals z7 ++ (gVals z9 ++ rVals z10)) := by rw [← HAC2.out, ← HAC.out]; simp
              rw [e] at SV ⊢
              exact ⟨_, _, rfl, SV, hb⟩
end Go.Proofs.YtahgcojmpafefaaGreat
