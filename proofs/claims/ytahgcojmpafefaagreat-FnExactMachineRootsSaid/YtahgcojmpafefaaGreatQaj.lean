/-
  Parts of the proof: RoT. Conditions: none.
-/
import Derived.Test.YtahgcojmpafefaaGreatQah
set_option linter.unusedVariables false
set_option linter.unusedSimpArgs false
namespace Go.Proofs.YtahgcojmpafefaaGreat
set_option maxHeartbeats 40000000
open Lib (hid)
open Go.ChangeShapes Go.WideShapes Go.ChangeAt Go.RowKit Go.Deep Go.Joins
open Go.ChangeMaps (open_string shut_string)
set_option maxRecDepth 100000

theorem frRo_spec (w0 : World) (x : FFrame) (hw : x.wt ≤ 1048576) (us : List Value) (w : World) (B0 lo : Nat) (l : List FValue) (A : Option Addr) (c : Nat) (hl : l.length ≤ 16777216) (hB0 : B0 ≤ lo) (hlo : lo ≤ w.heap.size) (hbw : Below B0 w0 w) (hr : RdVs w0 B0 x.c us) (hs : SvO w0 B0 lo w A c l) :
    Calls Tryz.prog 62 #[.agg us.toArray, .slice A l.length c] w fun e w' => ∃ A' c', e = .returned (.slice A' (l ++ fVals x).length c') ∧ SvO w0 B0 lo w' A' c' (l ++ fVals x) ∧ Below lo w w' := by
  obtain ⟨z0, z1, z2, z3, z4, z5, z6, z7, z8, z9, z10, z11, z12⟩ := x
  rw [FFrame.wt_eq] at hw
  rw [FFrame.c_eq] at hr
  obtain ⟨us_0, rfl, hr_0⟩ := hr.unv
  obtain ⟨us_1, rfl, hr_1⟩ := hr_0.unv
  obtain ⟨A2, c2, us_2, rfl, q2, hr_2⟩ := hr_1.uns
  have zQ2 := hid q2
  clear q2
  obtain ⟨A3, c3, us_3, rfl, q3, hr_3⟩ := hr_2.uns
  have zQ3 := hid q3
  clear q3
  obtain ⟨A4, c4, us_4, rfl, q4, hr_4⟩ := hr_3.uns
  have zQ4 := hid q4
  clear q4
  obtain ⟨A5, c5, us_5, rfl, q5, hr_5⟩ := hr_4.uns
  have zQ5 := hid q5
  clear q5
  obtain ⟨A6, c6, us_6, rfl, q6, hr_6⟩ := hr_5.uns
  have zQ6 := hid q6
  clear q6
  obtain ⟨us_7, rfl, hr_7⟩ := hr_6.unv
  obtain ⟨us_8, rfl, hr_8⟩ := hr_7.unv
  obtain ⟨us_9, rfl, hr_9⟩ := hr_8.unv
  obtain ⟨us_10, rfl, hr_10⟩ := hr_9.unv
  obtain ⟨us_11, rfl, hr_11⟩ := hr_10.unv
  obtain ⟨us_12, rfl, hr_12⟩ := hr_11.unv
  obtain rfl := hr_12.un0
  clear hr hr_0 hr_1 hr_2 hr_3 hr_4 hr_5 hr_6 hr_7 hr_8 hr_9 hr_10 hr_11 hr_12
  have HF := hid (show fVals ⟨z0, z1, z2, z3, z4, z5, z6, z7, z8, z9, z10, z11, z12⟩ = z3 ++ (cVals z4 ++ eVals z6) from rfl)
  rw [HF.out]
  obtain ⟨us3, RD3, RV3⟩ := zQ3.out.rowV
  obtain ⟨us9, PA⟩ := SvO.pre (m := z3) hs ((Below.refl _ _).alloc (Nat.le_refl _) (.cells #[.int .i64 z0, .int .i64 z1, .slice A2 z2.length c2, .slice A3 z3.length c3, .slice A4 z4.length c4, .slice A5 z5.length c5, .slice A6 z6.length c6, .int .i64 z7, .string z8, .string z9, .int .i64 z10, .int .i64 z11, .int .i64 z12] 91)) hlo RV3
  have HPA := hid PA
  have RDY := hid (RD3.below (hbw.alloc (Nat.le_trans hB0 hlo) (.cells #[.int .i64 z0, .int .i64 z1, .slice A2 z2.length c2, .slice A3 z3.length c3, .slice A4 z4.length c4, .slice A5 z5.length c5, .slice A6 z6.length c6, .int .i64 z7, .string z8, .string z9, .int .i64 z10, .int .i64 z11, .int .i64 z12] 91)) (Nat.le_refl _))
  have KB := hid (Blk.new w 91 #[.int .i64 z0, .int .i64 z1, .slice A2 z2.length c2, .slice A3 z3.length c3, .slice A4 z4.length c4, .slice A5 z5.length c5, .slice A6 z6.length c6, .int .i64 z7, .string z8, .string z9, .int .i64 z10, .int .i64 z11, .int .i64 z12])
  have HB := hid ((Below.refl lo w).alloc hlo (.cells #[.int .i64 z0, .int .i64 z1, .slice A2 z2.length c2, .slice A3 z3.length c3, .slice A4 z4.length c4, .slice A5 z5.length c5, .slice A6 z6.length c6, .int .i64 z7, .string z8, .string z9, .int .i64 z10, .int .i64 z11, .int .i64 z12] 91))
  have HNB := hid hs.noB
  have hwl2 : w.heap.size < (w.alloc (.cells #[.int .i64 z0, .int .i64 z1, .slice A2 z2.length c2, .slice A3 z3.length c3, .slice A4 z4.length c4, .slice A5 z5.length c5, .slice A6 z6.length c6, .int .i64 z7, .string z8, .string z9, .int .i64 z10, .int .i64 z11, .int .i64 z12] 91)).heap.size := by simp
  clear PA hs RD3 RV3
  go_enter Tryz.func62, Tryz.ntmps62
  go_upto_region 2 with (at_builtin; go_must (refine wpList_append_rd _ rfl _ _ _ rfl lo _ _ _ 64 Tryz.underlying38 infoValueR rfl (by omega) (.slice A l.length c) l.length us9 rfl HPA.out.ho B0 A3 z3.length c3 us3 rfl RDY.out HPA.out.h1 (by unfold maxLen; omega) (by omega) HPA.out.le ?_); intro v1 w1 hown1 hg1 hat1; obtain ⟨E0, e0, rfl, N0, HBK, HBL, HNN⟩ := HPA.out.done _ _ hown1 hg1 hat1; clear hown1 hg1 hat1 HPA)
  have hb := HBK _ HB.out
  have kb := HBL _ _ _ KB.out HNB.out
  have hnb := HNN _ hwl2 HNB.out
  clear HBK HBL HNN HB KB HNB RDY hwl2
  generalize hbs0 : l ++ z3 = bs0 at *
  have HBS := hid hbs0
  have hle0 : l.length + z3.length = bs0.length := by rw [← hbs0, List.length_append]
  try rw [hle0]
  clear hbs0
  go_wp2_with fail
  go_loopw [1, 5] (fun v i wr => ∃ (k : Nat) (A' : Option Addr) (c' : Nat), k ≤ z4.length ∧ i = .int .i64 k ∧ v = .slice A' (bs0 ++ cVals (z4.take k)).length c' ∧ SvO w0 B0 lo wr A' c' (bs0 ++ cVals (z4.take k)) ∧ Blk wr w.heap.size 91 #[.int .i64 z0, .int .i64 z1, .slice A2 z2.length c2, .slice A3 z3.length c3, .slice A4 z4.length c4, .slice A5 z5.length c5, .slice A6 z6.length c6, .int .i64 z7, .string z8, .string z9, .int .i64 z10, .int .i64 z11, .int .i64 z12] ∧ Below lo w wr ∧ NoB A' w.heap.size) (fun _ i _ => z4.length - (intOf i).toNat)
  case atStart => exact ⟨0, E0, e0, Nat.zero_le _, rfl, by rw [show (bs0 ++ cVals (z4.take 0)) = bs0 from by simp [cVals]], by rw [show (bs0 ++ cVals (z4.take 0)) = bs0 from by simp [cVals]]; exact N0, kb, hb, hnb⟩
  case round =>
    clear kb hb hnb
    obtain ⟨k, A', c', hkk, rfl, rfl, SV, kb, hb, hnb⟩ := hrel
    have hbW := hbw.trans (hb.mono hB0)
    have hlow := Nat.le_trans hlo hb.size
    have hwl := kb.lt
    have hal : (bs0 ++ cVals (z4.take k)).length ≤ 33554432 := by
      rw [List.length_append]
      have h1 := lw_c (z4.take k)
      have h2 := FCall.wts_le z4 k
      have h3 := List.length_take_le k z4
      unfold lw at h1
      omega
    by_cases hltx : k < z4.length
    · skip
      obtain ⟨xx, hxx⟩ : ∃ x, z4[k]? = some x := ⟨_, List.getElem?_eq_getElem hltx⟩
      obtain ⟨bcx, offx, rfl, hblx, hccx⟩ := RdC.at_ FCall.len zQ4.out hxx
      have HXx := hid hxx
      have HWx := hid (FCall.wts_at z4 xx (List.mem_of_getElem? hxx))
      clear hxx
      obtain ⟨x0, x1, x2, x3, x4, x5, x6, x7, x8⟩ := xx
      rw [FCall.c_eq] at hccx
      obtain ⟨u8, e8, q8⟩ := hccx 8 _ rfl
      obtain ⟨xA8, xc8, rfl⟩ := q8.form
      have xQ8 := hid q8
      clear q8
      have xE8 := hid (fun (X : World) (h : Below B0 w0 X) => (show X.cell? ⟨bcx, offx + k * 9 + 8, none⟩ = some (.slice xA8 x8.length xc8) from (h.cell (p := ⟨bcx, _, none⟩) (by show bcx < B0; omega)).trans (by simpa using e8)))
      clear e8
      clear hccx
      have hxw := HWx.out
      rw [FCall.wt_eq] at hxw
      have hkl : (k : Int) < (z4.length : Int) := by omega
      have hkl9 : z4.length ≤ 9223372036854775807 := by omega
      have hk0 : (0 : Int) ≤ (k : Int) := by omega
      generalize hac : bs0 ++ cVals (z4.take k) = ac at *
      have HAC := hid hac
      clear hac
      have kz : wr.cell? ⟨w.heap.size, 4, none⟩ = some (.slice (some ⟨bcx, offx, none⟩) z4.length c4) := kb.cell 4
      have xk8 := xE8.out wr hbW
      go_wp2_with fail
      clear kz xk8 hbW hlow
      go_loopw [1, 6] (fun v i wq => ∃ (j : Nat) (A' : Option Addr) (c' : Nat), j ≤ x8.length ∧ i = .int .i64 j ∧ v = .slice A' (ac ++ aVals (x8.take j)).length c' ∧ SvO w0 B0 lo wq A' c' (ac ++ aVals (x8.take j)) ∧ Blk wq w.heap.size 91 #[.int .i64 z0, .int .i64 z1, .slice A2 z2.length c2, .slice A3 z3.length c3, .slice (some ⟨bcx, offx, none⟩) z4.length c4, .slice A5 z5.length c5, .slice A6 z6.length c6, .int .i64 z7, .string z8, .string z9, .int .i64 z10, .int .i64 z11, .int .i64 z12] ∧ Below lo w wq ∧ NoB A' w.heap.size) (fun _ i _ => x8.length - (intOf i).toNat)
      case atStart => exact ⟨0, A', c', Nat.zero_le _, rfl, by rw [show (ac ++ aVals (x8.take 0)) = ac from by simp [aVals]], by rw [show (ac ++ aVals (x8.take 0)) = ac from by simp [aVals]]; exact SV, kb, hb, hnb⟩
      case round =>
        obtain ⟨wq, rfl⟩ : ∃ X : World, X = wr := ⟨_, rfl⟩
        clear kb hb hnb
        obtain ⟨j, A', c', hkj, rfl, rfl, SV, kb, hb, hnb⟩ := hrel
        have hbW := hbw.trans (hb.mono hB0)
        have hlow := Nat.le_trans hlo hb.size
        have hwl := kb.lt
        have hal2 : (ac ++ aVals (x8.take j)).length ≤ 34603008 := by rw [List.length_append]; unfold aVals; rw [List.length_map]; have := List.length_take_le j x8; omega
        have kz : wq.cell? ⟨w.heap.size, 4, none⟩ = some (.slice (some ⟨bcx, offx, none⟩) z4.length c4) := kb.cell 4
        have xk8 := xE8.out wq hbW
        by_cases hlty : j < x8.length
        · skip
          clear xk8
          obtain ⟨xy, hxy⟩ : ∃ x, x8[j]? = some x := ⟨_, List.getElem?_eq_getElem hlty⟩
          obtain ⟨bcy, offy, rfl, hbly, hccy⟩ := RdC.at_ FArg.len xQ8.out hxy
          have HXy := hid hxy
          have HWy := hid (FArg.wts_at x8 xy (List.mem_of_getElem? hxy))
          clear hxy
          obtain ⟨y0, ⟨y1, y2, y3, y4, y5⟩⟩ := xy
          rw [FArg.c_eq] at hccy
          obtain ⟨u1, e1, q1⟩ := hccy 1 _ rfl
          obtain rfl := q1.val
          clear q1
          have yE1 := hid (fun (X : World) (h : Below B0 w0 X) => (show X.cell? ⟨bcy, offy + j * 6 + 1, none⟩ = some (.int .i64 y1) from (h.cell (p := ⟨bcy, _, none⟩) (by show bcy < B0; omega)).trans (by simpa using e1)))
          clear e1
          obtain ⟨u2, e2, q2⟩ := hccy 2 _ rfl
          obtain rfl := q2.val
          clear q2
          have yE2 := hid (fun (X : World) (h : Below B0 w0 X) => (show X.cell? ⟨bcy, offy + j * 6 + 2, none⟩ = some (.int .i64 y2) from (h.cell (p := ⟨bcy, _, none⟩) (by show bcy < B0; omega)).trans (by simpa using e2)))
          clear e2
          obtain ⟨u3, e3, q3⟩ := hccy 3 _ rfl
          obtain rfl := q3.val
          clear q3
          have yE3 := hid (fun (X : World) (h : Below B0 w0 X) => (show X.cell? ⟨bcy, offy + j * 6 + 3, none⟩ = some (.string y3) from (h.cell (p := ⟨bcy, _, none⟩) (by show bcy < B0; omega)).trans (by simpa using e3)))
          clear e3
          obtain ⟨u4, e4, q4⟩ := hccy 4 _ rfl
          obtain rfl := q4.val
          clear q4
          have yE4 := hid (fun (X : World) (h : Below B0 w0 X) => (show X.cell? ⟨bcy, offy + j * 6 + 4, none⟩ = some (.int .i64 y4) from (h.cell (p := ⟨bcy, _, none⟩) (by show bcy < B0; omega)).trans (by simpa using e4)))
          clear e4
          obtain ⟨u5, e5, q5⟩ := hccy 5 _ rfl
          obtain ⟨yA5, yc5, rfl⟩ := q5.form
          have yQ5 := hid q5
          clear q5
          have yE5 := hid (fun (X : World) (h : Below B0 w0 X) => (show X.cell? ⟨bcy, offy + j * 6 + 5, none⟩ = some (.slice yA5 y5.length yc5) from (h.cell (p := ⟨bcy, _, none⟩) (by show bcy < B0; omega)).trans (by simpa using e5)))
          clear e5
          clear hccy
          have xk8 := xE8.out wq hbW
          have yk1 := yE1.out wq hbW
          have yk2 := yE2.out wq hbW
          have yk3 := yE3.out wq hbW
          have yk4 := yE4.out wq hbW
          have yk5 := yE5.out wq hbW
          have hjl : (j : Int) < (x8.length : Int) := by omega
          have hjl9 : x8.length ≤ 9223372036854775807 := by omega
          have hj0 : (0 : Int) ≤ (j : Int) := by omega
          generalize hac2 : ac ++ aVals (x8.take j) = ac2 at *
          have HAC2 := hid hac2
          clear hac2
          obtain ⟨us9, PA⟩ := SvO.pre (m := [(.mk y1 y2 y3 y4 y5)]) SV ((Below.refl _ _).alloc (Nat.le_refl _) (.cells #[.int .i64 y1, .int .i64 y2, .string y3, .int .i64 y4, .slice yA5 y5.length yc5] 82)) hlow (show RdVs w0 B0 (FValue.flat [(.mk y1 y2 y3 y4 y5)]) [.int .i64 y1, .int .i64 y2, .string y3, .int .i64 y4, .slice yA5 y5.length yc5] from by rw [show FValue.flat [(.mk y1 y2 y3 y4 y5)] = FValue.c (.mk y1 y2 y3 y4 y5) from by simp [FValue.flat]]; exact (by rw [FValue.c_eq]; exact (RdVs.cons (by unfold RdC; rfl) (RdVs.cons (by unfold RdC; rfl) (RdVs.cons (by unfold RdC; rfl) (RdVs.cons (by unfold RdC; rfl) (RdVs.cons yQ5.out (RdVs.nil _ _))))))))
          have HPA := hid PA
          have KB := hid (kb.alloc (.cells #[.int .i64 y1, .int .i64 y2, .string y3, .int .i64 y4, .slice yA5 y5.length yc5] 82))
          have HB := hid (hb.alloc hlow (.cells #[.int .i64 y1, .int .i64 y2, .string y3, .int .i64 y4, .slice yA5 y5.length yc5] 82))
          have HNB := hid hnb
          have hwl2 : w.heap.size < (wq.alloc (.cells #[.int .i64 y1, .int .i64 y2, .string y3, .int .i64 y4, .slice yA5 y5.length yc5] 82)).heap.size := by simp; omega
          clear PA SV
          go_wp2_with (at_builtin; go_must (refine wpList_append_rd _ rfl _ _ _ rfl lo _ _ _ 64 Tryz.underlying38 infoValueR rfl (by omega) (.slice A' ac2.length c') ac2.length us9 rfl HPA.out.ho (wq.heap.size + 1) _ 1 1 _ rfl (rd_new wq 82 5 [.int .i64 y1, .int .i64 y2, .string y3, .int .i64 y4, .slice yA5 y5.length yc5] rfl) HPA.out.h1 (by unfold maxLen; omega) (by omega) HPA.out.le ?_); intro v1 w1 hown1 hg1 hat1; obtain ⟨E1, e1, rfl, N1, HBK, HBL, HNN⟩ := HPA.out.done _ _ hown1 hg1 hat1; clear hown1 hg1 hat1 HPA)
          replace hb := HBK _ HB.out
          replace kb := HBL _ _ _ KB.out HNB.out
          replace hnb := HNN _ hwl2 HNB.out
          clear HBK HBL HNN HB KB HNB hwl2
          go_roundw
          case rel =>
            have e : ac ++ aVals (x8.take (j + 1)) = ac2 ++ [(.mk y1 y2 y3 y4 y5)] := by unfold aVals; rw [map_take1 _ _ _ _ HXy.out, ← List.append_assoc, show ac ++ (x8.take j).map _ = _ from HAC2.out]
            exact ⟨j + 1, E1, e1, by omega, by go_num, by rw [e]; simp, by rw [e]; exact N1, kb, hb, hnb⟩
          case measure => simp [intOf]; omega
        · obtain rfl : j = x8.length := by omega
          rw [List.take_length] at SV ⊢
          clear hlty
          go_wp2_with fail
          go_roundw
          case rel =>
            have e : bs0 ++ cVals (z4.take (k + 1)) = ac ++ aVals x8 := by unfold cVals; rw [flat_take1 _ _ _ _ HXx.out, ← List.append_assoc, show bs0 ++ (z4.take k).flatMap _ = _ from HAC.out]
            exact ⟨k + 1, A', c', by omega, by go_num, by rw [e], by rw [e]; exact SV, kb, hb, hnb⟩
          case measure => simp [intOf]; omega
    · obtain rfl : k = z4.length := by omega
      rw [List.take_length] at SV hal ⊢
      have kz : wr.cell? ⟨w.heap.size, 4, none⟩ = some (.slice A4 z4.length c4) := kb.cell 4
      clear hltx
      generalize hac : bs0 ++ cVals z4 = ac at *
      have HAC := hid hac
      clear hac
      go_wp2_with fail
      clear kz hbW hlow
      go_loopw [1, 7] (fun v i wr => ∃ (k : Nat) (A' : Option Addr) (c' : Nat), k ≤ z6.length ∧ i = .int .i64 k ∧ v = .slice A' (ac ++ eVals (z6.take k)).length c' ∧ SvO w0 B0 lo wr A' c' (ac ++ eVals (z6.take k)) ∧ Blk wr w.heap.size 91 #[.int .i64 z0, .int .i64 z1, .slice A2 z2.length c2, .slice A3 z3.length c3, .slice A4 z4.length c4, .slice A5 z5.length c5, .slice A6 z6.length c6, .int .i64 z7, .string z8, .string z9, .int .i64 z10, .int .i64 z11, .int .i64 z12] ∧ Below lo w wr ∧ NoB A' w.heap.size) (fun _ i _ => z6.length - (intOf i).toNat)
      case atStart => exact ⟨0, A', c', Nat.zero_le _, rfl, by rw [show (ac ++ eVals (z6.take 0)) = ac from by simp [eVals]], by rw [show (ac ++ eVals (z6.take 0)) = ac from by simp [eVals]]; exact SV, kb, hb, hnb⟩
      case round =>
        clear kb hb hnb
        obtain ⟨k, A', c', hkk, rfl, rfl, SV, kb, hb, hnb⟩ := hrel
        have hbW := hbw.trans (hb.mono hB0)
        have hlow := Nat.le_trans hlo hb.size
        have hwl := kb.lt
        have hal2 : (ac ++ eVals (z6.take k)).length ≤ 67108864 := by rw [List.length_append]; unfold eVals; rw [List.length_map]; have := List.length_take_le k z6; omega
        by_cases hlty : k < z6.length
        · skip
          obtain ⟨xy, hxy⟩ : ∃ x, z6[k]? = some x := ⟨_, List.getElem?_eq_getElem hlty⟩
          obtain ⟨bcy, offy, rfl, hbly, hccy⟩ := RdC.at_ FEnd.len zQ6.out hxy
          have HXy := hid hxy
          have HWy := hid (FEnd.wts_at z6 xy (List.mem_of_getElem? hxy))
          clear hxy
          obtain ⟨y0, ⟨y1, y2, y3, y4, y5⟩, y6, y7, y8⟩ := xy
          rw [FEnd.c_eq] at hccy
          obtain ⟨u1, e1, q1⟩ := hccy 1 _ rfl
          obtain rfl := q1.val
          clear q1
          have yE1 := hid (fun (X : World) (h : Below B0 w0 X) => (show X.cell? ⟨bcy, offy + k * 9 + 1, none⟩ = some (.int .i64 y1) from (h.cell (p := ⟨bcy, _, none⟩) (by show bcy < B0; omega)).trans (by simpa using e1)))
          clear e1
          obtain ⟨u2, e2, q2⟩ := hccy 2 _ rfl
          obtain rfl := q2.val
          clear q2
          have yE2 := hid (fun (X : World) (h : Below B0 w0 X) => (show X.cell? ⟨bcy, offy + k * 9 + 2, none⟩ = some (.int .i64 y2) from (h.cell (p := ⟨bcy, _, none⟩) (by show bcy < B0; omega)).trans (by simpa using e2)))
          clear e2
          obtain ⟨u3, e3, q3⟩ := hccy 3 _ rfl
          obtain rfl := q3.val
          clear q3
          have yE3 := hid (fun (X : World) (h : Below B0 w0 X) => (show X.cell? ⟨bcy, offy + k * 9 + 3, none⟩ = some (.string y3) from (h.cell (p := ⟨bcy, _, none⟩) (by show bcy < B0; omega)).trans (by simpa using e3)))
          clear e3
          obtain ⟨u4, e4, q4⟩ := hccy 4 _ rfl
          obtain rfl := q4.val
          clear q4
          have yE4 := hid (fun (X : World) (h : Below B0 w0 X) => (show X.cell? ⟨bcy, offy + k * 9 + 4, none⟩ = some (.int .i64 y4) from (h.cell (p := ⟨bcy, _, none⟩) (by show bcy < B0; omega)).trans (by simpa using e4)))
          clear e4
          obtain ⟨u5, e5, q5⟩ := hccy 5 _ rfl
          obtain ⟨yA5, yc5, rfl⟩ := q5.form
          have yQ5 := hid q5
          clear q5
          have yE5 := hid (fun (X : World) (h : Below B0 w0 X) => (show X.cell? ⟨bcy, offy + k * 9 + 5, none⟩ = some (.slice yA5 y5.length yc5) from (h.cell (p := ⟨bcy, _, none⟩) (by show bcy < B0; omega)).trans (by simpa using e5)))
          clear e5
          clear hccy
          have kz : wr.cell? ⟨w.heap.size, 6, none⟩ = some (.slice (some ⟨bcy, offy, none⟩) z6.length c6) := kb.cell 6
          have yk1 := yE1.out wr hbW
          have yk2 := yE2.out wr hbW
          have yk3 := yE3.out wr hbW
          have yk4 := yE4.out wr hbW
          have yk5 := yE5.out wr hbW
          have hjl : (k : Int) < (z6.length : Int) := by omega
          have hjl9 : z6.length ≤ 9223372036854775807 := by omega
          have hk0 : (0 : Int) ≤ (k : Int) := by omega
          generalize hac2 : ac ++ eVals (z6.take k) = ac2 at *
          have HAC2 := hid hac2
          clear hac2
          obtain ⟨us9, PA⟩ := SvO.pre (m := [(.mk y1 y2 y3 y4 y5)]) SV ((Below.refl _ _).alloc (Nat.le_refl _) (.cells #[.int .i64 y1, .int .i64 y2, .string y3, .int .i64 y4, .slice yA5 y5.length yc5] 82)) hlow (show RdVs w0 B0 (FValue.flat [(.mk y1 y2 y3 y4 y5)]) [.int .i64 y1, .int .i64 y2, .string y3, .int .i64 y4, .slice yA5 y5.length yc5] from by rw [show FValue.flat [(.mk y1 y2 y3 y4 y5)] = FValue.c (.mk y1 y2 y3 y4 y5) from by simp [FValue.flat]]; exact (by rw [FValue.c_eq]; exact (RdVs.cons (by unfold RdC; rfl) (RdVs.cons (by unfold RdC; rfl) (RdVs.cons (by unfold RdC; rfl) (RdVs.cons (by unfold RdC; rfl) (RdVs.cons yQ5.out (RdVs.nil _ _))))))))
          have HPA := hid PA
          have KB := hid (kb.alloc (.cells #[.int .i64 y1, .int .i64 y2, .string y3, .int .i64 y4, .slice yA5 y5.length yc5] 82))
          have HB := hid (hb.alloc hlow (.cells #[.int .i64 y1, .int .i64 y2, .string y3, .int .i64 y4, .slice yA5 y5.length yc5] 82))
          have HNB := hid hnb
          have hwl2 : w.heap.size < (wr.alloc (.cells #[.int .i64 y1, .int .i64 y2, .string y3, .int .i64 y4, .slice yA5 y5.length yc5] 82)).heap.size := by simp; omega
          clear PA SV
          go_wp2_with (at_builtin; go_must (refine wpList_append_rd _ rfl _ _ _ rfl lo _ _ _ 64 Tryz.underlying38 infoValueR rfl (by omega) (.slice A' ac2.length c') ac2.length us9 rfl HPA.out.ho (wr.heap.size + 1) _ 1 1 _ rfl (rd_new wr 82 5 [.int .i64 y1, .int .i64 y2, .string y3, .int .i64 y4, .slice yA5 y5.length yc5] rfl) HPA.out.h1 (by unfold maxLen; omega) (by omega) HPA.out.le ?_); intro v1 w1 hown1 hg1 hat1; obtain ⟨E2, e2, rfl, N2, HBK, HBL, HNN⟩ := HPA.out.done _ _ hown1 hg1 hat1; clear hown1 hg1 hat1 HPA)
          replace hb := HBK _ HB.out
          replace kb := HBL _ _ _ KB.out HNB.out
          replace hnb := HNN _ hwl2 HNB.out
          clear HBK HBL HNN HB KB HNB hwl2
          go_roundw
          case rel =>
            have e : ac ++ eVals (z6.take (k + 1)) = ac2 ++ [(.mk y1 y2 y3 y4 y5)] := by unfold eVals; rw [map_take1 _ _ _ _ HXy.out, ← List.append_assoc, show ac ++ (z6.take k).map _ = _ from HAC2.out]
            exact ⟨k + 1, E2, e2, by omega, by go_num, by rw [e]; simp, by rw [e]; exact N2, kb, hb, hnb⟩
          case measure => simp [intOf]; omega
        · obtain rfl : k = z6.length := by omega
          rw [List.take_length] at SV ⊢
          have kz : wr.cell? ⟨w.heap.size, 6, none⟩ = some (.slice A6 z6.length c6) := kb.cell 6
          clear hlty
          go_wp2_with fail
          go_ret
          have e : ac ++ eVals z6 = l ++ (z3 ++ (cVals z4 ++ eVals z6)) := by rw [← HAC.out, ← HBS.out]; simp
          rw [e] at SV ⊢
          exact ⟨_, _, rfl, SV, hb⟩
end Go.Proofs.YtahgcojmpafefaaGreat
