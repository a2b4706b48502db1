/-
  Parts of the proof: RoV. Conditions: none.
-/
import Derived.Test.YtahgcojmpafefaaGreatQak
import Derived.Test.YtahgcojmpafefaaGreatQal
set_option linter.unusedVariables false
set_option linter.unusedSimpArgs false
namespace Go.Proofs.YtahgcojmpafefaaGreat
set_option maxHeartbeats 40000000
open Lib (hid)
open Go.ChangeShapes Go.WideShapes Go.ChangeAt Go.RowKit Go.Deep Go.Joins
open Go.ChangeMaps (open_string shut_string)
set_option maxRecDepth 100000

theorem all_spec (l : List FValue) (hw : lw l ≤ 1000000000) (hl : l.length ≤ 1048576) (u : Value) (w : World) (B : Nat) (hB0 : B ≤ w.heap.size) (hr : RdC w B (.s 82 5 l.length (FValue.flat l)) u) :
    Calls Tryz.prog 21 #[u] w fun e w' => ∃ A c, e = .returned (.slice A l.length c) ∧ VlO w.heap.size w' A c l ∧ Below w.heap.size w w' := by
  obtain ⟨A, c, rfl⟩ := hr.form
  have HC := hid hr
  have hn : l.length ≤ 9223372036854775807 := by omega
  have hwl : FValue.wts l ≤ 1000000000 := by unfold lw at hw; omega
  obtain ⟨lo, hlo⟩ : ∃ lo, lo = w.heap.size := ⟨_, rfl⟩
  have hlo1 : lo ≤ w.heap.size := by omega
  have hlo2 : w.heap.size ≤ lo := by omega
  have HLO := hid hlo
  clear hlo hr
  go_enter Tryz.func21, Tryz.ntmps21
  go_wp2_with fail
  go_loopw [3, 4] (fun v i wr => ∃ (k : Nat) (A' : Option Addr) (c' : Nat), k ≤ l.length ∧ i = .int .i64 k ∧ v = .slice A' (l.take k).length c' ∧ VlO lo wr A' c' (l.take k) ∧ Below w.heap.size w wr) (fun _ i _ => l.length - (intOf i).toNat)
  case atStart => exact ⟨0, _, 0, Nat.zero_le _, rfl, rfl, vl_empty w lo hlo1, (Below.refl _ _).alloc (Nat.le_refl _) _⟩
  case round =>
    obtain ⟨k, A', c', hk, rfl, rfl, hown, hb⟩ := hrel
    have HOWN := hid hown
    have hbs := hb.size
    clear hown
    by_cases hlty : k < l.length
    · skip
      obtain ⟨xy, hxy⟩ : ∃ x, l[k]? = some x := ⟨_, List.getElem?_eq_getElem hlty⟩
      obtain ⟨bcy, offy, rfl, hbly, hccy⟩ := RdC.at_ FValue.len HC.out hxy
      have HXy := hid hxy
      have HWy := hid (FValue.wts_at l xy (List.mem_of_getElem? hxy))
      clear hxy
      obtain ⟨y0, y1, y2, y3, y4⟩ := xy
      rw [FValue.c_eq] at hccy
      obtain ⟨u0, e0, q0⟩ := hccy 0 _ rfl
      obtain rfl := q0.val
      clear q0
      have yk0 : wr.cell? ⟨bcy, offy + k * 5, none⟩ = some (.int .i64 y0) := (hb.cell (p := ⟨bcy, _, none⟩) (by show bcy < w.heap.size; omega)).trans (by simpa using e0)
      clear e0
      obtain ⟨u1, e1, q1⟩ := hccy 1 _ rfl
      obtain rfl := q1.val
      clear q1
      have yk1 : wr.cell? ⟨bcy, offy + k * 5 + 1, none⟩ = some (.int .i64 y1) := (hb.cell (p := ⟨bcy, _, none⟩) (by show bcy < w.heap.size; omega)).trans (by simpa using e1)
      clear e1
      obtain ⟨u2, e2, q2⟩ := hccy 2 _ rfl
      obtain rfl := q2.val
      clear q2
      have yk2 : wr.cell? ⟨bcy, offy + k * 5 + 2, none⟩ = some (.string y2) := (hb.cell (p := ⟨bcy, _, none⟩) (by show bcy < w.heap.size; omega)).trans (by simpa using e2)
      clear e2
      obtain ⟨u3, e3, q3⟩ := hccy 3 _ rfl
      obtain rfl := q3.val
      clear q3
      have yk3 : wr.cell? ⟨bcy, offy + k * 5 + 3, none⟩ = some (.int .i64 y3) := (hb.cell (p := ⟨bcy, _, none⟩) (by show bcy < w.heap.size; omega)).trans (by simpa using e3)
      clear e3
      obtain ⟨u4, e4, q4⟩ := hccy 4 _ rfl
      obtain ⟨yA4, yc4, rfl⟩ := q4.form
      have yQ4 := hid q4
      clear q4
      have yk4 : wr.cell? ⟨bcy, offy + k * 5 + 4, none⟩ = some (.slice yA4 y4.length yc4) := (hb.cell (p := ⟨bcy, _, none⟩) (by show bcy < w.heap.size; omega)).trans (by simpa using e4)
      clear e4
      clear hccy
      have hkl : (k : Int) < (l.length : Int) := by omega
      have hk0 : (0 : Int) ≤ (k : Int) := by omega
      have hyw : FValue.wt (.mk y0 y1 y2 y3 y4) ≤ 1000000000 := by have := HWy.out; omega
      have htl := List.length_take_le k l
      generalize hac : l.take k = ac at *
      have HAC := hid hac
      clear hac
      go_wp2_with fail
      refine calls_worldD _ (fun X => VlO lo X A' c' ac ∧ Below w.heap.size w X ∧ lo ≤ X.heap.size) ⟨HOWN.out, hb, by omega⟩ ?_
      clear HOWN hb 
      rintro X1 ⟨hown, hb, hlX⟩
      refine (cpValS_any (.mk y0 y1 y2 y3 y4) (by omega) [.int .i64 y0, .int .i64 y1, .string y2, .int .i64 y3, .slice yA4 y4.length yc4] _ w.heap.size hb.size (by rw [FValue.c_eq]; exact (RdVs.cons (by unfold RdC; rfl) (RdVs.cons (by unfold RdC; rfl) (RdVs.cons (by unfold RdC; rfl) (RdVs.cons (by unfold RdC; rfl) (RdVs.cons ((yQ4.out.up hB0).below hb (Nat.le_refl _)) (RdVs.nil _ _)))))))).mono ?_
      rintro e w21 ⟨us2, rfl, own2, hb2⟩
      have hv := own2.vs
      rw [FValue.c_eq] at hv
      obtain ⟨us2_0, rfl, hv_0⟩ := hv.unv
      obtain ⟨us2_1, rfl, hv_1⟩ := hv_0.unv
      obtain ⟨us2_2, rfl, hv_2⟩ := hv_1.unv
      obtain ⟨us2_3, rfl, hv_3⟩ := hv_2.unv
      obtain ⟨D4, d4, us2_4, rfl, _, hv_4⟩ := hv_3.uns
      obtain rfl := hv_4.un0
      clear hv hv_0 hv_1 hv_2 hv_3 hv_4
      have hs2 : X1.heap.size ≤ w21.heap.size := hb2.size
      obtain ⟨us, PA⟩ := VlO.one hown hlX hb2 own2
      replace hb := hb.trans (hb2.mono hb.size)
      have HPA := hid PA
      clear PA own2 hown hb2
      go_wp2_with (at_builtin; go_must (refine wpList_append_rd _ rfl _ _ _ rfl lo _ _ _ 64 Tryz.underlying38 infoValueR rfl (by omega) (.slice A' ac.length c') ac.length us rfl HPA.out.ho (w21.heap.size + 1) _ 1 1 _ rfl (rd_new w21 82 5 [.int .i64 y0, .int .i64 y1, .string y2, .int .i64 y3, .slice D4 y4.length d4] rfl) HPA.out.h1 (by unfold maxLen; omega) (by omega) HPA.out.le ?_); intro v1 w1 hown1 hg1 hat1; obtain ⟨E1, e1, rfl, N1, HBK, HBL⟩ := HPA.out.done _ _ hown1 hg1 hat1; have hle9 := Nat.le_trans HPA.out.le (HBK lo _ (Below.refl _ _) (Nat.le_refl _)).size; clear hown1 hg1 hat1 HPA)
      replace hb := HBK _ _ (hb.alloc hb.size _) (by omega)
      have HOWN := hid N1
      clear HBK HBL N1
      go_roundw
      case rel =>
        have e : l.take (k + 1) = ac ++ [(.mk y0 y1 y2 y3 y4)] := by rw [List.take_add_one, HXy.out, HAC.out]; rfl
        exact ⟨k + 1, E1, e1, by omega, by go_num, by rw [e]; simp, by rw [e]; exact HOWN.out, hb⟩
      case measure => simp [intOf]; omega
    · obtain rfl : k = l.length := by omega
      clear hlty
      go_wp2_with fail
      go_ret
      have ho := HOWN.out
      rw [List.take_length] at ho ⊢
      rw [HLO.out] at ho
      exact ⟨_, _, rfl, ho, hb⟩
theorem maRo_spec (x : FMachine) (hw : x.wt ≤ 1048576) (us : List Value) (w : World) (B : Nat) (hB0 : B ≤ w.heap.size) (hr : RdVs w B x.c us) :
    Calls Tryz.prog 5 #[.agg us.toArray] w fun e w' => ∃ A c, e = .returned (.slice A (mVals x).length c) ∧ VlO w.heap.size w' A c (mVals x) ∧ Below w.heap.size w w' := by
  have hlw := lw_m x
  have HM := hid hr
  obtain ⟨mv, hmv⟩ : ∃ v, v = mVals x := ⟨_, rfl⟩
  rw [← hmv] at hlw ⊢
  have HMV := hid hmv
  have HW := hid hw
  obtain ⟨xm, hxm⟩ : ∃ v, v = x := ⟨_, rfl⟩
  have hw2 : xm.wt ≤ 1048576 := by rw [hxm]; exact hw
  rw [← hxm] at hmv
  have HMV2 := hid hmv
  have HM2 := hid (show RdVs w B xm.c us from by rw [hxm]; exact hr)
  clear hmv hxm HM HMV
  obtain ⟨z0, z1, z2, z3, z4, z5, ⟨z6⟩, z7, z8, z9, z10, ⟨z11, z12, z13⟩⟩ := x
  rw [FMachine.c_eq] at hr
  obtain ⟨us_0, rfl, hr_0⟩ := hr.unv
  obtain ⟨us_1, rfl, hr_1⟩ := hr_0.unv
  obtain ⟨us_2, rfl, hr_2⟩ := hr_1.unv
  obtain ⟨us_3, rfl, hr_3⟩ := hr_2.unv
  obtain ⟨A4, c4, us_4, rfl, _, hr_4⟩ := hr_3.uns
  obtain ⟨A5, c5, us_5, rfl, _, hr_5⟩ := hr_4.uns
  obtain ⟨A6, c6, us_6, rfl, _, hr_6⟩ := hr_5.uns
  obtain ⟨A7, c7, us_7, rfl, _, hr_7⟩ := hr_6.uns
  obtain ⟨A8, c8, us_8, rfl, _, hr_8⟩ := hr_7.uns
  obtain ⟨A9, c9, us_9, rfl, _, hr_9⟩ := hr_8.uns
  obtain ⟨A10, c10, us_10, rfl, _, hr_10⟩ := hr_9.uns
  obtain ⟨us_11, rfl, hr_11⟩ := hr_10.unv
  obtain ⟨A12, c12, us_12, rfl, _, hr_12⟩ := hr_11.uns
  obtain ⟨A13, c13, us_13, rfl, _, hr_13⟩ := hr_12.uns
  obtain rfl := hr_13.un0
  clear hr hr_0 hr_1 hr_2 hr_3 hr_4 hr_5 hr_6 hr_7 hr_8 hr_9 hr_10 hr_11 hr_12 hr_13
  go_enter Tryz.func5, Tryz.ntmps5
  go_wp2_with fail
  refine calls_worldD _ (fun X => Below w.heap.size w X ∧ w.heap.size < X.heap.size) ⟨(Below.refl _ _).alloc (Nat.le_refl _) _, by simp⟩ ?_
  rintro X0 ⟨hb, hs0⟩
  refine (roots_spec X0 xm hw2 [.int .i64 z0, .string z1, .int .i64 z2, .int .i64 z3, .slice A4 z4.length c4, .slice A5 z5.length c5, .slice A6 z6.length c6, .slice A7 z7.length c7, .slice A8 z8.length c8, .slice A9 z9.length c9, .slice A10 z10.length c10, .string z11, .slice A12 z12.length c12, .slice A13 z13.length c13] X0 w.heap.size X0.heap.size rfl (by omega) (by omega) (Below.refl _ _) ((HM2.out.on hb hB0 hB0))).mono ?_
  rintro e X1 ⟨A1, c1, rfl, SV, hb1⟩
  rw [← HMV2.out] at SV ⊢
  have hb2 := hb.trans (hb1.mono hb.size)
  have hs1 := hb1.size
  have RDX := SV.read (hb1.mono (by omega)) (by omega)
  go_wp2_with fail
  refine (all_spec mv (by unfold lw at *; omega) (by unfold lw at hlw; omega) _ X1 X1.heap.size (Nat.le_refl _) RDX).mono ?_
  rintro e X2 ⟨A2, c2, rfl, own, hb3⟩
  go_wp2_with fail
  go_ret
  exact ⟨_, _, rfl, OwnI.wide own (by omega) (Nat.le_refl _), hb2.trans (hb3.mono (by omega))⟩
end Go.Proofs.YtahgcojmpafefaaGreat
