/-
  Parts of the proof: RoM. Conditions: none.
-/
import Derived.Test.YtahgcojmpafefaaGreatQag
import Derived.Test.YtahgcojmpafefaaGreatQah
set_option linter.unusedVariables false
set_option linter.unusedSimpArgs false
namespace Go.Proofs.YtahgcojmpafefaaGreat
set_option maxHeartbeats 40000000
open Lib (hid)
open Go.ChangeShapes Go.WideShapes Go.ChangeAt Go.RowKit Go.Deep Go.Joins
open Go.ChangeMaps (open_string shut_string)
set_option maxRecDepth 100000

theorem VlO.one2 {lo : Nat} {wr X w2 : World} {A : Option Addr} {c : Nat} {l : List FValue} {x : FValue} {us2 : List Value} (h : OwnI X lo wr.heap.size [.s 82 5 l.length (FValue.flat l)] [.slice A l.length c]) (hl : lo ≤ wr.heap.size) (hs : wr.heap.size ≤ X.heap.size) (hb : Below X.heap.size X w2) (own2 : OwnI w2 X.heap.size w2.heap.size x.c us2) :
    ∃ us, PreA (w2.alloc (.cells us2.toArray 82)) lo wr A c l [x] us us2 := by
  obtain ⟨us, G, ho, hol, hG, hGb, hGv⟩ := (OwnI.below h hb (Nat.le_refl _)).row
  obtain ⟨G2, g1, g2, g3⟩ := own2
  have hs2 := hb.size
  refine ⟨us, pre_core hl (by simp; omega) (World.ownsRow.alloc ho _) (OwnL.keep _ _ _ hol fun g hg => Below.heap_alloc w2 _ g (OwnL.lt _ _ _ hol g hg)) hG hGb hGv ?_ g2 (fun b hb => Nat.le_trans hs (g3 b hb).1)⟩
  have e : FValue.flat [x] = x.c := by simp [FValue.flat]
  rw [e]
  exact OwnL.keep _ _ _ g1 fun g hg => Below.heap_alloc w2 _ g (OwnL.lt _ _ _ g1 g hg)
theorem frm_one (x : FFrame) : ∀ y, y ∈ FFrame.c x → ∀ u, y = .v u → u.oneCell' = true := by
  obtain ⟨z0, z1, z2, z3, z4, z5, z6, z7, z8, z9, z10, z11, z12⟩ := x
  rw [FFrame.c_eq]
  intro y hx u hu
  simp only [List.mem_cons, List.not_mem_nil, or_false] at hx
  rcases hx with rfl | rfl | rfl | rfl | rfl | rfl | rfl | rfl | rfl | rfl | rfl | rfl | rfl <;> (first | (injection hu with hu; subst hu; rfl) | cases hu)
theorem gen_oneV (x0 : Int) (xv : FValue) (xf : FFrame) : ∀ y, y ∈ (.v (.int .i64 x0) :: (xv.c ++ xf.c)) → ∀ u, y = .v u → u.oneCell' = true := by
  intro y hy u e
  rcases List.mem_cons.1 hy with hy | hy
  · subst hy
    injection e with e
    subst e
    rfl
  · rcases List.mem_append.1 hy with hy | hy
    · exact val_one _ _ hy u e
    · exact frm_one xf _ hy u e
theorem gen_dropV (u : Value) (a b : List Value) (ha : a.length = 5) : (([] ++ ((u :: (a ++ b)) ++ ([] : List Value))).toArray.toList.drop 6).take b.length = b := by
  have h : List.drop 5 (a ++ b) = b := by rw [← ha]; exact List.drop_left
  simp [h]
theorem maRo_any (x : FMachine) (hw : x.wt ≤ 1048576) (us : List Value) (w : World) (B : Nat) (hB0 : B ≤ w.heap.size) (hr : RdVs w B x.c us) :
    Calls Tryz.prog 7 #[.agg us.toArray] w fun e w' => ∃ A c, e = .returned (.slice A (mVals x).length c) ∧ VlO w.heap.size w' A c (mVals x) ∧ Below w.heap.size w w' := by
  have hlw := lw_m x
  obtain ⟨z0, z1, z2, z3, z4, z5, ⟨z6⟩, z7, z8, z9, z10, ⟨z11, z12, z13⟩⟩ := x
  rw [FMachine.wt_eq] at hw
  rw [FMachine.c_eq] at hr
  obtain ⟨us0, rfl, hr_0⟩ := hr.unv
  obtain ⟨us1, rfl, hr_1⟩ := hr_0.unv
  obtain ⟨us2, rfl, hr_2⟩ := hr_1.unv
  obtain ⟨us3, rfl, hr_3⟩ := hr_2.unv
  obtain ⟨A4, c4, us4, rfl, r4, hr_4⟩ := hr_3.uns
  obtain ⟨A5, c5, us5, rfl, r5, hr_5⟩ := hr_4.uns
  obtain ⟨A6, c6, us6, rfl, r6, hr_6⟩ := hr_5.uns
  obtain ⟨A7, c7, us7, rfl, r7, hr_7⟩ := hr_6.uns
  obtain ⟨A8, c8, us8, rfl, r8, hr_8⟩ := hr_7.uns
  obtain ⟨A9, c9, us9, rfl, r9, hr_9⟩ := hr_8.uns
  obtain ⟨A10, c10, us10, rfl, r10, hr_10⟩ := hr_9.uns
  obtain ⟨us11, rfl, hr_11⟩ := hr_10.unv
  obtain ⟨A12, c12, us12, rfl, r12, hr_12⟩ := hr_11.uns
  obtain ⟨A13, c13, us13, rfl, r13, hr_13⟩ := hr_12.uns
  obtain rfl := hr_13.un0
  have zQ4 := hid r4
  clear r4
  have zQ5 := hid r5
  clear r5
  have zQ6 := hid r6
  clear r6
  have zQ7 := hid r7
  clear r7
  have zQ8 := hid r8
  clear r8
  have zQ9 := hid r9
  clear r9
  have zQ10 := hid r10
  clear r10
  have zQ12 := hid r12
  clear r12
  have zQ13 := hid r13
  clear r13
  clear hr hr_0 hr_1 hr_2 hr_3 hr_4 hr_5 hr_6 hr_7 hr_8 hr_9 hr_10 hr_11 hr_12 hr_13
  have HF := hid (show mVals ⟨z0, z1, z2, z3, z4, z5, ⟨z6⟩, z7, z8, z9, z10, ⟨z11, z12, z13⟩⟩ = z4 ++ (oVals z7 ++ (gVals z9 ++ rVals z10)) from rfl)
  rw [HF.out]
  clear hlw
  go_enter Tryz.func7, Tryz.ntmps7
  go_wp2_with fail
  refine calls_worldD _ (fun X => Blk X w.heap.size 53 #[.int .i64 z0, .string z1, .int .i64 z2, .int .i64 z3, .slice A4 z4.length c4, .slice A5 z5.length c5, .slice A6 z6.length c6, .slice A7 z7.length c7, .slice A8 z8.length c8, .slice A9 z9.length c9, .slice A10 z10.length c10, .string z11, .slice A12 z12.length c12, .slice A13 z13.length c13] ∧ Below w.heap.size w X ∧ w.heap.size < X.heap.size) ⟨Blk.new _ _ _, (Below.refl _ _).alloc (Nat.le_refl _) _, by simp⟩ ?_
  rintro X0 ⟨kb, hb, hs0⟩
  refine (cpVals_any z4 (by unfold lw; omega) (by omega) _ X0 w.heap.size (by omega) ((zQ4.out.up hB0).below hb (Nat.le_refl _))).mono ?_
  rintro e Y0 ⟨E0, e0, rfl, own, hb2⟩
  have hs1 := hb2.size
  replace kb := kb.below hb2 (Nat.le_refl _)
  replace hb := hb.trans (hb2.mono hb.size)
  obtain ⟨lo, hlo⟩ : ∃ lo, lo = X0.heap.size := ⟨_, rfl⟩
  rw [← hlo] at own
  have hlo1 : w.heap.size < lo := by omega
  have hlo2 : w.heap.size ≤ lo := by omega
  have hlo3 : lo ≤ Y0.heap.size := by omega
  clear hlo hb2 hs0
  have kz7 : Y0.cell? ⟨w.heap.size, 7, none⟩ = some (.slice A7 z7.length c7) := kb.cell 7
  go_wp2_with fail
  clear kz7
  go_loopw [3, 18] (fun v i wr => ∃ (k : Nat) (A' : Option Addr) (c' : Nat), k ≤ z7.length ∧ i = .int .i64 k ∧ v = .slice A' (z4 ++ oVals (z7.take k)).length c' ∧ VlO lo wr A' c' (z4 ++ oVals (z7.take k)) ∧ Blk wr w.heap.size 53 #[.int .i64 z0, .string z1, .int .i64 z2, .int .i64 z3, .slice A4 z4.length c4, .slice A5 z5.length c5, .slice A6 z6.length c6, .slice A7 z7.length c7, .slice A8 z8.length c8, .slice A9 z9.length c9, .slice A10 z10.length c10, .string z11, .slice A12 z12.length c12, .slice A13 z13.length c13] ∧ Below w.heap.size w wr ∧ lo ≤ wr.heap.size) (fun _ i _ => z7.length - (intOf i).toNat)
  case atStart => exact ⟨0, E0, e0, Nat.zero_le _, rfl, by rw [show (z4 ++ oVals (z7.take 0)) = z4 from by simp [oVals]], by rw [show (z4 ++ oVals (z7.take 0)) = z4 from by simp [oVals]]; exact own, kb, hb, hlo3⟩
  case round =>
    obtain ⟨k, A', c', hk, rfl, rfl, hown, kb, hb, hlo3⟩ := hrel
    have HOWN := hid hown
    have hbs := hb.size
    have hlw1 := (OwnI.below hown (Below.refl _ _) (Nat.le_refl _))
    clear hown hlw1
    clear own
    have hLt := lw_o (z7.take k)
    have hWt := FObject.wts_le z7 k
    have hTl := List.length_take_le k z7
    have hal : (z4 ++ oVals (z7.take k)).length ≤ 2097152 := by rw [List.length_append]; unfold lw at hLt; omega
    by_cases hltx : k < z7.length
    · skip
      obtain ⟨xx, hxx⟩ : ∃ x, z7[k]? = some x := ⟨_, List.getElem?_eq_getElem hltx⟩
      obtain ⟨bcx, offx, rfl, hblx, hccx⟩ := RdC.at_ FObject.len zQ7.out hxx
      have HXx := hid hxx
      have HWx := hid (FObject.wts_at z7 xx (List.mem_of_getElem? hxx))
      clear hxx
      obtain ⟨x0, x1, x2⟩ := xx
      rw [FObject.c_eq] at hccx
      obtain ⟨u0, e0, q0⟩ := hccx 0 _ rfl
      obtain rfl := q0.val
      clear q0
      have xk0 : wr.cell? ⟨bcx, offx + k * 3, none⟩ = some (.string x0) := (hb.cell (p := ⟨bcx, _, none⟩) (by show bcx < w.heap.size; omega)).trans (by simpa using e0)
      clear e0
      obtain ⟨u1, e1, q1⟩ := hccx 1 _ rfl
      obtain rfl := q1.val
      clear q1
      have xk1 : wr.cell? ⟨bcx, offx + k * 3 + 1, none⟩ = some (.bool x1) := (hb.cell (p := ⟨bcx, _, none⟩) (by show bcx < w.heap.size; omega)).trans (by simpa using e1)
      clear e1
      obtain ⟨u2, e2, q2⟩ := hccx 2 _ rfl
      obtain ⟨xA2, xc2, rfl⟩ := q2.form
      have xQ2 := hid q2
      clear q2
      have xk2 : wr.cell? ⟨bcx, offx + k * 3 + 2, none⟩ = some (.slice xA2 x2.length xc2) := (hb.cell (p := ⟨bcx, _, none⟩) (by show bcx < w.heap.size; omega)).trans (by simpa using e2)
      clear e2
      clear hccx
      have hxw := HWx.out
      rw [FObject.wt_eq] at hxw
      have hkl : (k : Int) < (z7.length : Int) := by omega
      have hkl9 : z7.length ≤ 9223372036854775807 := by omega
      generalize hac : z4 ++ oVals (z7.take k) = ac at *
      have HAC := hid hac
      clear hac hLt
      go_wp2_with fail
      have HO2 := hid ((OwnI.alloc HOWN.out (.cells #[.string x0, .bool x1, .slice xA2 x2.length xc2] 79)).wide (Nat.le_refl _) (by simp) : VlO lo (wr.alloc (.cells #[.string x0, .bool x1, .slice xA2 x2.length xc2] 79)) A' c' ac)
      replace kb := kb.alloc (.cells #[.string x0, .bool x1, .slice xA2 x2.length xc2] 79)
      replace hb := hb.alloc hbs (.cells #[.string x0, .bool x1, .slice xA2 x2.length xc2] 79)
      clear HOWN hbs xk0 xk1 xk2
      replace hlo3 : lo ≤ (wr.alloc (.cells #[.string x0, .bool x1, .slice xA2 x2.length xc2] 79)).heap.size := by simp; omega
      generalize wr.alloc (.cells #[.string x0, .bool x1, .slice xA2 x2.length xc2] 79) = wa at *
      have HOWN := HO2
      have hbs := hb.size
      clear HO2
      go_loopw [3, 25] (fun v i wq => ∃ (j : Nat) (A' : Option Addr) (c' : Nat), j ≤ x2.length ∧ i = .int .i64 j ∧ v = .slice A' (ac ++ bVals (x2.take j)).length c' ∧ VlO lo wq A' c' (ac ++ bVals (x2.take j)) ∧ Blk wq w.heap.size 53 #[.int .i64 z0, .string z1, .int .i64 z2, .int .i64 z3, .slice A4 z4.length c4, .slice A5 z5.length c5, .slice A6 z6.length c6, .slice (some ⟨bcx, offx, none⟩) z7.length c7, .slice A8 z8.length c8, .slice A9 z9.length c9, .slice A10 z10.length c10, .string z11, .slice A12 z12.length c12, .slice A13 z13.length c13] ∧ Below w.heap.size w wq ∧ lo ≤ wq.heap.size) (fun _ i _ => x2.length - (intOf i).toNat)
      case atStart => exact ⟨0, A', c', Nat.zero_le _, rfl, by rw [show (ac ++ bVals (x2.take 0)) = ac from by simp [bVals]], by rw [show (ac ++ bVals (x2.take 0)) = ac from by simp [bVals]]; exact HOWN.out, kb, hb, hlo3⟩
      case round =>
        obtain ⟨wq, rfl⟩ : ∃ X : World, X = wr := ⟨_, rfl⟩
        clear HOWN kb hb hbs
        obtain ⟨j, A', c', hj, rfl, rfl, hown, kb, hb, hlo3⟩ := hrel
        have HOWN := hid hown
        have hbs := hb.size
        clear hown
        have hal2 : (ac ++ bVals (x2.take j)).length ≤ 4194304 := by rw [List.length_append]; unfold bVals; rw [List.length_map]; have := List.length_take_le j x2; omega
        by_cases hlty : j < x2.length
        · skip
          obtain ⟨xy, hxy⟩ : ∃ x, x2[j]? = some x := ⟨_, List.getElem?_eq_getElem hlty⟩
          obtain ⟨bcy, offy, rfl, hbly, hccy⟩ := RdC.at_ FBinding.len xQ2.out hxy
          have HXy := hid hxy
          have HWy := hid (FBinding.wts_at x2 xy (List.mem_of_getElem? hxy))
          clear hxy
          obtain ⟨y0, ⟨y1, y2, y3, y4, y5⟩⟩ := xy
          rw [FBinding.c_eq] at hccy
          obtain ⟨u0, e0, q0⟩ := hccy 0 _ rfl
          obtain rfl := q0.val
          clear q0
          have yk0 : wq.cell? ⟨bcy, offy + j * 6, none⟩ = some (.string y0) := (hb.cell (p := ⟨bcy, _, none⟩) (by show bcy < w.heap.size; omega)).trans (by simpa using e0)
          clear e0
          obtain ⟨u1, e1, q1⟩ := hccy 1 _ rfl
          obtain rfl := q1.val
          clear q1
          have yk1 : wq.cell? ⟨bcy, offy + j * 6 + 1, none⟩ = some (.int .i64 y1) := (hb.cell (p := ⟨bcy, _, none⟩) (by show bcy < w.heap.size; omega)).trans (by simpa using e1)
          clear e1
          obtain ⟨u2, e2, q2⟩ := hccy 2 _ rfl
          obtain rfl := q2.val
          clear q2
          have yk2 : wq.cell? ⟨bcy, offy + j * 6 + 2, none⟩ = some (.int .i64 y2) := (hb.cell (p := ⟨bcy, _, none⟩) (by show bcy < w.heap.size; omega)).trans (by simpa using e2)
          clear e2
          obtain ⟨u3, e3, q3⟩ := hccy 3 _ rfl
          obtain rfl := q3.val
          clear q3
          have yk3 : wq.cell? ⟨bcy, offy + j * 6 + 3, none⟩ = some (.string y3) := (hb.cell (p := ⟨bcy, _, none⟩) (by show bcy < w.heap.size; omega)).trans (by simpa using e3)
          clear e3
          obtain ⟨u4, e4, q4⟩ := hccy 4 _ rfl
          obtain rfl := q4.val
          clear q4
          have yk4 : wq.cell? ⟨bcy, offy + j * 6 + 4, none⟩ = some (.int .i64 y4) := (hb.cell (p := ⟨bcy, _, none⟩) (by show bcy < w.heap.size; omega)).trans (by simpa using e4)
          clear e4
          obtain ⟨u5, e5, q5⟩ := hccy 5 _ rfl
          obtain ⟨yA5, yc5, rfl⟩ := q5.form
          have yQ5 := hid q5
          clear q5
          have yk5 : wq.cell? ⟨bcy, offy + j * 6 + 5, none⟩ = some (.slice yA5 y5.length yc5) := (hb.cell (p := ⟨bcy, _, none⟩) (by show bcy < w.heap.size; omega)).trans (by simpa using e5)
          clear e5
          clear hccy
          have hjl : (j : Int) < (x2.length : Int) := by omega
          have hjl9 : x2.length ≤ 9223372036854775807 := by omega
          have hvw : FValue.wt (.mk y1 y2 y3 y4 y5) ≤ 1000000000 := by have := HWy.out; have := FBinding.wt_eq y0 y1 y2 y3 y4 y5; have := FValue.wt_eq y1 y2 y3 y4 y5; omega
          generalize hac2 : (ac ++ bVals (x2.take j)) = ac2 at *
          have HAC2 := hid hac2
          clear hac2
          go_wp2_with fail
          refine calls_worldD _ (fun X => VlO lo X A' c' ac2 ∧ Blk X w.heap.size 53 #[.int .i64 z0, .string z1, .int .i64 z2, .int .i64 z3, .slice A4 z4.length c4, .slice A5 z5.length c5, .slice A6 z6.length c6, .slice (some ⟨bcx, offx, none⟩) z7.length c7, .slice A8 z8.length c8, .slice A9 z9.length c9, .slice A10 z10.length c10, .string z11, .slice A12 z12.length c12, .slice A13 z13.length c13] ∧ Blk X wq.heap.size 84 #[.string y0, .int .i64 y1, .int .i64 y2, .string y3, .int .i64 y4, .slice yA5 y5.length yc5] ∧ Below w.heap.size w X ∧ lo ≤ X.heap.size ∧ wq.heap.size < X.heap.size) ⟨(OwnI.alloc HOWN.out _).wide (Nat.le_refl _) (by simp), kb.alloc _, Blk.new _ _ _, hb.alloc hb.size _, by simp; omega, by simp⟩ ?_
          clear HOWN hb kb
          rintro X1 ⟨hown, kb, nb, hb, hlX, hgX⟩
          refine (cpVal_any (.mk y1 y2 y3 y4 y5) (by omega) [.int .i64 y1, .int .i64 y2, .string y3, .int .i64 y4, .slice yA5 y5.length yc5] _ w.heap.size hb.size (by rw [FValue.c_eq]; exact (RdVs.cons (by unfold RdC; rfl) (RdVs.cons (by unfold RdC; rfl) (RdVs.cons (by unfold RdC; rfl) (RdVs.cons (by unfold RdC; rfl) (RdVs.cons ((yQ5.out.up hB0).below hb (Nat.le_refl _)) (RdVs.nil _ _)))))))).mono ?_
          rintro e w21 ⟨us2, rfl, own2, hb2⟩
          have hv := own2.vs
          rw [FValue.c_eq] at hv
          obtain ⟨us2_0, rfl, hv_0⟩ := hv.unv
          obtain ⟨us2_1, rfl, hv_1⟩ := hv_0.unv
          obtain ⟨us2_2, rfl, hv_2⟩ := hv_1.unv
          obtain ⟨us2_3, rfl, hv_3⟩ := hv_2.unv
          obtain ⟨D4, d4, us2_4, rfl, _, hv_4⟩ := hv_3.uns
          obtain rfl := hv_4.un0
          clear hv hv_0 hv_1 hv_2 hv_3 hv_4
          have hs2 : X1.heap.size ≤ w21.heap.size := hb2.size
          obtain ⟨us, PA⟩ := VlO.one hown hlX hb2 own2
          replace kb := kb.below hb2 (Nat.le_refl _)
          replace nb := nb.below hb2 (Nat.le_refl _)
          replace hb := hb.trans (hb2.mono hb.size)
          have HPA := hid PA
          clear PA own2 hown hb2
          go_wp2_with (at_builtin; go_must (refine wpList_append_rd _ rfl _ _ _ rfl lo _ _ _ 64 Tryz.underlying38 infoValueR rfl (by omega) (.slice A' ac2.length c') ac2.length us rfl HPA.out.ho (w21.heap.size + 1) _ 1 1 _ rfl (rd_new w21 82 5 [.int .i64 y1, .int .i64 y2, .string y3, .int .i64 y4, .slice D4 y5.length d4] rfl) HPA.out.h1 (by unfold maxLen; omega) (by omega) HPA.out.le ?_); intro v1 w1 hown1 hg1 hat1; obtain ⟨E1, e1, rfl, N1, HBK, HBL⟩ := HPA.out.done _ _ hown1 hg1 hat1; have hle9 := Nat.le_trans HPA.out.le (HBK lo _ (Below.refl _ _) (Nat.le_refl _)).size; clear hown1 hg1 hat1 HPA)
          replace hb := HBK _ _ (hb.alloc hb.size _) (by omega)
          replace kb := HBL _ _ _ (kb.alloc _) (by omega)
          have HOWN := hid N1
          clear HBK HBL N1
          go_roundw
          case rel =>
            have e : (ac ++ bVals (x2.take (j + 1))) = ac2 ++ [(.mk y1 y2 y3 y4 y5)] := by unfold bVals; rw [map_take1 _ _ _ _ HXy.out, ← List.append_assoc, show ac ++ (x2.take j).map _ = _ from HAC2.out]
            exact ⟨j + 1, E1, e1, by omega, by go_num, by rw [e]; simp, by rw [e]; exact HOWN.out, kb, hb, hle9⟩
          case measure => simp [intOf]; omega
        · obtain rfl : j = x2.length := by omega
          have hown := HOWN.out
          rw [List.take_length] at hown ⊢
          have HOWN2 := hid hown
          clear HOWN hown hlty
          go_wp2_with fail
          go_roundw
          case rel =>
            have e : z4 ++ oVals (z7.take (k + 1)) = ac ++ bVals x2 := by unfold oVals; rw [flat_take1 _ _ _ _ HXx.out, ← List.append_assoc, show z4 ++ (z7.take k).flatMap _ = _ from HAC.out]
            exact ⟨k + 1, _, _, by omega, by go_num, by rw [e], by rw [e]; exact HOWN2.out, kb, hb, hlo3⟩
          case measure => simp [intOf]; omega
    · obtain rfl : k = z7.length := by omega
      have hown := HOWN.out
      rw [List.take_length] at hown hal ⊢
      clear HOWN hltx hLt hWt hTl
      generalize hac : z4 ++ oVals z7 = ac at *
      have HAC := hid hac
      clear hac
      have kz9 : wr.cell? ⟨w.heap.size, 9, none⟩ = some (.slice A9 z9.length c9) := kb.cell 9
      go_wp2_with fail
      clear kz9
      go_loopw [3, 40] (fun v i wr => ∃ (k : Nat) (A' : Option Addr) (c' : Nat), k ≤ z9.length ∧ i = .int .i64 k ∧ v = .slice A' (ac ++ gVals (z9.take k)).length c' ∧ VlO lo wr A' c' (ac ++ gVals (z9.take k)) ∧ Blk wr w.heap.size 53 #[.int .i64 z0, .string z1, .int .i64 z2, .int .i64 z3, .slice A4 z4.length c4, .slice A5 z5.length c5, .slice A6 z6.length c6, .slice A7 z7.length c7, .slice A8 z8.length c8, .slice A9 z9.length c9, .slice A10 z10.length c10, .string z11, .slice A12 z12.length c12, .slice A13 z13.length c13] ∧ Below w.heap.size w wr ∧ lo ≤ wr.heap.size) (fun _ i _ => z9.length - (intOf i).toNat)
      case atStart => exact ⟨0, A', c', Nat.zero_le _, rfl, by rw [show (ac ++ gVals (z9.take 0)) = ac from by simp [gVals]], by rw [show (ac ++ gVals (z9.take 0)) = ac from by simp [gVals]]; exact hown, kb, hb, hlo3⟩
      case round =>
        obtain ⟨k, A', c', hk, rfl, rfl, hown, kb, hb, hlo3⟩ := hrel
        have HOWN := hid hown
        have hbs := hb.size
        have hlw1 := (OwnI.below hown (Below.refl _ _) (Nat.le_refl _))
        clear hown hlw1
        clear hown
        have hLt := lw_g (z9.take k)
        have hWt := FGen.wts_le z9 k
        have hTl := List.length_take_le k z9
        have hal2 : (ac ++ gVals (z9.take k)).length ≤ 4194304 := by rw [List.length_append]; unfold lw at hLt; omega
        by_cases hltx : k < z9.length
        · skip
          obtain ⟨xx, hx⟩ : ∃ x, z9[k]? = some x := ⟨_, List.getElem?_eq_getElem hltx⟩
          obtain ⟨bcx, offx, usx, rfl, hblx, hulx, hv, hra⟩ := RdC.elem FGen.len zQ9.out hx
          have HXx := hid hx
          have hxw := FGen.wts_at z9 xx (List.mem_of_getElem? hx)
          clear hx
          obtain ⟨x0, ⟨x1, x2, x3, x4, x5⟩, xf⟩ := xx
          rw [gen_wtV] at hxw
          rw [gen_cV] at hv
          obtain ⟨us_r, rfl, hv_0⟩ := hv.unv
          obtain ⟨usv, usf, rfl, hvv, hvf⟩ := hv_0.cutV
          have ON := hid (hv.onecell (gen_oneV x0 _ xf))
          have HUL := hid hulx
          have HVV := hid hvv
          have HVF := hid hvf
          have hlv : usv.length = 5 := hvv.1.trans (FValue.len _)
          have hlf : usf.length = 13 := hvf.1.trans (FFrame.len _)
          have HLV := hid hlv
          have HLF := hid hlf
          have HRA := hid (range_below hra hb (by omega))
          clear hv hv_0 hvv hvf hra hulx hlv hlf
          have hkl : (k : Int) < (z9.length : Int) := by omega
          have hkl9 : z9.length ≤ 9223372036854775807 := by omega
          have hvw : FValue.wt (.mk x1 x2 x3 x4 x5) ≤ 1000000000 := by omega
          have hfw : FFrame.wt xf ≤ 1048576 := by omega
          have hfl : (fVals xf).length ≤ 1048576 := by have := lw_f xf; unfold lw at this; omega
          generalize hac2 : ac ++ gVals (z9.take k) = ac2 at *
          have HAC2 := hid hac2
          clear hac2 hLt
          have KB := hid (kb.alloc (.cells #[.int .i64 0, .int .i64 0, .int .i64 0, .string ⟨#[]⟩, .int .i64 0, .slice none 0 0, .int .i64 0, .int .i64 0, .slice none 0 0, .slice none 0 0, .slice none 0 0, .slice none 0 0, .slice none 0 0, .int .i64 0, .string ⟨#[]⟩, .string ⟨#[]⟩, .int .i64 0, .int .i64 0, .int .i64 0] 93))
          have HB := hid (hb.alloc hb.size (.cells #[.int .i64 0, .int .i64 0, .int .i64 0, .string ⟨#[]⟩, .int .i64 0, .slice none 0 0, .int .i64 0, .int .i64 0, .slice none 0 0, .slice none 0 0, .slice none 0 0, .slice none 0 0, .slice none 0 0, .int .i64 0, .string ⟨#[]⟩, .string ⟨#[]⟩, .int .i64 0, .int .i64 0, .int .i64 0] 93))
          have OW := hid (OwnI.alloc HOWN.out (.cells #[.int .i64 0, .int .i64 0, .int .i64 0, .string ⟨#[]⟩, .int .i64 0, .slice none 0 0, .int .i64 0, .int .i64 0, .slice none 0 0, .slice none 0 0, .slice none 0 0, .slice none 0 0, .slice none 0 0, .int .i64 0, .string ⟨#[]⟩, .string ⟨#[]⟩, .int .i64 0, .int .i64 0, .int .i64 0] 93))
          have hkbl := kb.lt
          clear HOWN kb hb
          go_wp2_with (first | (refine wpList_load_elem 93 _ bcx (offx + k * 19) (.int .i64 x0 :: (usv ++ usf)) (.struct (flds Tryz.prog 93)) HRA.out rfl rfl (by kernel_rfl) rfl HUL.out (by kernel_rfl) rfl ?_) | (refine wpList_store_blk 93 _ _ wr.heap.size 93 [] [.int .i64 0, .int .i64 0, .int .i64 0, .string ⟨#[]⟩, .int .i64 0, .slice none 0 0, .int .i64 0, .int .i64 0, .slice none 0 0, .slice none 0 0, .slice none 0 0, .slice none 0 0, .slice none 0 0, .int .i64 0, .string ⟨#[]⟩, .string ⟨#[]⟩, .int .i64 0, .int .i64 0, .int .i64 0] [] (.int .i64 x0 :: (usv ++ usf)) (Blk.new wr 93 #[.int .i64 0, .int .i64 0, .int .i64 0, .string ⟨#[]⟩, .int .i64 0, .slice none 0 0, .int .i64 0, .int .i64 0, .slice none 0 0, .slice none 0 0, .slice none 0 0, .slice none 0 0, .slice none 0 0, .int .i64 0, .string ⟨#[]⟩, .string ⟨#[]⟩, .int .i64 0, .int .i64 0, .int .i64 0]) rfl rfl rfl (by rw [HUL.out]; rfl) (by rw [HUL.out]; kernel_rfl) ON.out rfl ?_; intro Z1 bo1 gr1; have BO1 := hid bo1; have GR1 := hid gr1; clear bo1 gr1) | (refine wpList_load_blk 82 _ wr.heap.size 1 93 _ usv (.struct (flds Tryz.prog 82)) BO1.out rfl rfl (by simp [HLV.out]) (by kernel_rfl) rfl (by rw [HLV.out]; kernel_rfl) rfl ?_))
          have kb := KB.out.grownB GR1.out (Nat.ne_of_lt hkbl)
          have nb := BO1.out
          have hb := below_grownB HB.out GR1.out (by simp; omega) (by omega)
          have hown := OwnI.grownB OW.out GR1.out (.inr (Nat.le_refl _))
          have hsz1 : wr.heap.size < Z1.heap.size := nb.lt
          clear KB HB OW BO1 GR1 HRA HUL
          refine (cpVal_any (.mk x1 x2 x3 x4 x5) hvw usv _ w.heap.size hb.size (HVV.out.on hb hB0 hB0)).mono ?_
          rintro e w22 ⟨us2, rfl, own2, hb2⟩
          have hv := own2.vs
          rw [FValue.c_eq] at hv
          obtain ⟨us2_0, rfl, hv_0⟩ := hv.unv
          obtain ⟨us2_1, rfl, hv_1⟩ := hv_0.unv
          obtain ⟨us2_2, rfl, hv_2⟩ := hv_1.unv
          obtain ⟨us2_3, rfl, hv_3⟩ := hv_2.unv
          obtain ⟨D4, d4, us2_4, rfl, _, hv_4⟩ := hv_3.uns
          obtain rfl := hv_4.un0
          clear hv hv_0 hv_1 hv_2 hv_3 hv_4
          have hs2 : Z1.heap.size ≤ w22.heap.size := hb2.size
          obtain ⟨us, PA⟩ := VlO.one2 hown hlo3 (Nat.le_of_lt hsz1) hb2 own2
          replace kb := kb.below hb2 (Nat.le_refl _)
          replace nb := nb.below hb2 (Nat.le_refl _)
          replace hb := hb.trans (hb2.mono hb.size)
          have HPA := hid PA
          clear PA own2 hown hb2
          go_upto_region 15 with (at_builtin; go_must (refine wpList_append_rd _ rfl _ _ _ rfl lo _ _ _ 64 Tryz.underlying38 infoValueR rfl (by omega) (.slice A' ac2.length c') ac2.length us rfl HPA.out.ho (w22.heap.size + 1) _ 1 1 _ rfl (rd_new w22 82 5 [.int .i64 x1, .int .i64 x2, .string x3, .int .i64 x4, .slice D4 x5.length d4] rfl) HPA.out.h1 (by unfold maxLen; omega) (by omega) HPA.out.le ?_); intro v1 w1 hown1 hg1 hat1; obtain ⟨E2, e2, rfl, N2, HBK, HBL⟩ := HPA.out.done _ _ hown1 hg1 hat1; have hle9 := Nat.le_trans HPA.out.le (HBK lo _ (Below.refl _ _) (Nat.le_refl _)).size; clear hown1 hg1 hat1 HPA)
          replace hb := HBK _ _ (hb.alloc hb.size _) (by omega)
          replace kb := HBL _ _ _ (kb.alloc _) (by omega)
          replace nb := HBL _ _ _ (nb.alloc _) (by omega)
          have HOWN := hid N2
          clear HBK HBL N2
          generalize hac3 : ac2 ++ [(.mk x1 x2 x3 x4 x5)] = ac3 at *
          have HAC3 := hid hac3
          have hl3e : ac2.length + 1 = ac3.length := by rw [← hac3, List.length_append]; rfl
          have hl3 : ac3.length ≤ 4194305 := by omega
          try rw [hl3e]
          clear hac3 hl3e
          have NB := hid nb
          clear nb
          go_wp2_with (refine wpList_load_blk 91 _ wr.heap.size 6 93 _ usf (.struct (flds Tryz.prog 91)) NB.out rfl rfl (gen_dropV _ _ _ HLV.out) (by kernel_rfl) rfl (by rw [HLF.out]; kernel_rfl) rfl ?_)
          clear NB
          have hown := HOWN.out
          have hlX3 := hle9
          clear HOWN
          refine (frVals_any xf (by omega) usf _ w.heap.size hb.size (HVF.out.on hb hB0 hB0)).mono ?_
          rintro e w23 ⟨D4, d4, rfl, own2, hb2⟩
          have hs2 : w1.heap.size ≤ w23.heap.size := hb2.size
          obtain ⟨us, us2, PA, RD⟩ := VlO.many hown hlX3 hb2 own2
          replace kb := kb.below hb2 (Nat.le_refl _)
          replace hb := hb.trans (hb2.mono hb.size)
          have HPA := hid PA
          have HRD := hid RD
          clear PA RD own2 hown hb2
          go_wp2_with (at_builtin; go_must (refine wpList_append_rd _ rfl _ _ _ rfl lo _ _ _ 64 Tryz.underlying38 infoValueR rfl (by omega) (.slice E2 ac3.length e2) ac3.length us rfl HPA.out.ho w23.heap.size _ _ _ us2 rfl HRD.out HPA.out.h1 (by unfold maxLen; omega) (by omega) HPA.out.le ?_); intro v1 w1 hown1 hg1 hat1; obtain ⟨E3, e3, rfl, N3, HBK, HBL⟩ := HPA.out.done _ _ hown1 hg1 hat1; have hle8 := Nat.le_trans HPA.out.le (HBK lo _ (Below.refl _ _) (Nat.le_refl _)).size; clear hown1 hg1 hat1 HPA)
          replace hb := HBK _ _ hb (by omega)
          replace kb := HBL _ _ _ kb (by omega)
          have HOWN := hid N3
          clear HBK HBL N3
          go_roundw
          case rel =>
            have e : ac ++ gVals (z9.take (k + 1)) = ac3 ++ fVals xf := by
              rw [← HAC3.out, ← HAC2.out]
              unfold gVals
              rw [flat_take1 _ _ _ _ HXx.out]
              simp
            exact ⟨k + 1, E3, e3, by omega, by go_num, by rw [e]; simp, by rw [e]; exact HOWN.out, kb, hb, hle8⟩
          case measure => simp [intOf]; omega
        · obtain rfl : k = z9.length := by omega
          have hown := HOWN.out
          rw [List.take_length] at hown hal2 ⊢
          clear HOWN hltx hLt hWt hTl
          generalize hac2 : ac ++ gVals z9 = ac2 at *
          have HAC2 := hid hac2
          clear hac2
          have kz10 : wr.cell? ⟨w.heap.size, 10, none⟩ = some (.slice A10 z10.length c10) := kb.cell 10
          go_wp2_with fail
          clear kz10
          go_loopw [3, 59] (fun v i wr => ∃ (k : Nat) (A' : Option Addr) (c' : Nat), k ≤ z10.length ∧ i = .int .i64 k ∧ v = .slice A' (ac2 ++ rVals (z10.take k)).length c' ∧ VlO lo wr A' c' (ac2 ++ rVals (z10.take k)) ∧ Blk wr w.heap.size 53 #[.int .i64 z0, .string z1, .int .i64 z2, .int .i64 z3, .slice A4 z4.length c4, .slice A5 z5.length c5, .slice A6 z6.length c6, .slice A7 z7.length c7, .slice A8 z8.length c8, .slice A9 z9.length c9, .slice A10 z10.length c10, .string z11, .slice A12 z12.length c12, .slice A13 z13.length c13] ∧ Below w.heap.size w wr ∧ lo ≤ wr.heap.size) (fun _ i _ => z10.length - (intOf i).toNat)
          case atStart => exact ⟨0, A', c', Nat.zero_le _, rfl, by rw [show (ac2 ++ rVals (z10.take 0)) = ac2 from by simp [rVals]], by rw [show (ac2 ++ rVals (z10.take 0)) = ac2 from by simp [rVals]]; exact hown, kb, hb, hlo3⟩
          case round =>
            obtain ⟨k, A', c', hk, rfl, rfl, hown, kb, hb, hlo3⟩ := hrel
            have HOWN := hid hown
            have hbs := hb.size
            have hlw1 := (OwnI.below hown (Below.refl _ _) (Nat.le_refl _))
            clear hown hlw1
            clear hown
            have hLt := lw_r (z10.take k)
            have hWt := FFrame.wts_le z10 k
            have hTl := List.length_take_le k z10
            have hal3 : (ac2 ++ rVals (z10.take k)).length ≤ 8388608 := by rw [List.length_append]; unfold lw at hLt; omega
            by_cases hltx : k < z10.length
            · skip
              obtain ⟨xx, hxx⟩ : ∃ x, z10[k]? = some x := ⟨_, List.getElem?_eq_getElem hltx⟩
              obtain ⟨bcx, offx, usx, rfl, hblx, hulx, hv, hra⟩ := RdC.elem FFrame.len zQ10.out hxx
              have HXx := hid hxx
              have HWx := hid (FFrame.wts_at z10 xx (List.mem_of_getElem? hxx))
              clear hxx hulx
              obtain ⟨x0, x1, x2, x3, x4, x5, x6, x7, x8, x9, x10, x11, x12⟩ := xx
              rw [FFrame.c_eq] at hv
              obtain ⟨us_0, rfl, hv_0⟩ := hv.unv
              obtain ⟨us_1, rfl, hv_1⟩ := hv_0.unv
              obtain ⟨xA2, xc2, us_2, rfl, q2, hv_2⟩ := hv_1.uns
              have xQ2 := hid q2
              clear q2
              obtain ⟨xA3, xc3, us_3, rfl, q3, hv_3⟩ := hv_2.uns
              have xQ3 := hid q3
              clear q3
              obtain ⟨xA4, xc4, us_4, rfl, q4, hv_4⟩ := hv_3.uns
              have xQ4 := hid q4
              clear q4
              obtain ⟨xA5, xc5, us_5, rfl, q5, hv_5⟩ := hv_4.uns
              have xQ5 := hid q5
              clear q5
              obtain ⟨xA6, xc6, us_6, rfl, q6, hv_6⟩ := hv_5.uns
              have xQ6 := hid q6
              clear q6
              obtain ⟨us_7, rfl, hv_7⟩ := hv_6.unv
              obtain ⟨us_8, rfl, hv_8⟩ := hv_7.unv
              obtain ⟨us_9, rfl, hv_9⟩ := hv_8.unv
              obtain ⟨us_10, rfl, hv_10⟩ := hv_9.unv
              obtain ⟨us_11, rfl, hv_11⟩ := hv_10.unv
              obtain ⟨us_12, rfl, hv_12⟩ := hv_11.unv
              obtain rfl := hv_12.un0
              clear hv hv_0 hv_1 hv_2 hv_3 hv_4 hv_5 hv_6 hv_7 hv_8 hv_9 hv_10 hv_11 hv_12
              have HRAx := hid (range_below hra hb (by omega))
              clear hra
              have hkl : (k : Int) < (z10.length : Int) := by omega
              have hkl9 : z10.length ≤ 9223372036854775807 := by omega
              have hfw : FFrame.wt (FFrame.mk x0 x1 x2 x3 x4 x5 x6 x7 x8 x9 x10 x11 x12) ≤ 1048576 := by have := HWx.out; omega
              have hfl : (fVals (FFrame.mk x0 x1 x2 x3 x4 x5 x6 x7 x8 x9 x10 x11 x12)).length ≤ 1048576 := by have := lw_f (FFrame.mk x0 x1 x2 x3 x4 x5 x6 x7 x8 x9 x10 x11 x12); unfold lw at this; omega
              generalize hac3 : ac2 ++ rVals (z10.take k) = ac3 at *
              have HAC3 := hid hac3
              clear hac3 hLt
              go_wp2_with (refine wpList_load_elem 91 _ bcx (offx + k * 13) [.int .i64 x0, .int .i64 x1, .slice xA2 x2.length xc2, .slice xA3 x3.length xc3, .slice xA4 x4.length xc4, .slice xA5 x5.length xc5, .slice xA6 x6.length xc6, .int .i64 x7, .string x8, .string x9, .int .i64 x10, .int .i64 x11, .int .i64 x12] (.struct (flds Tryz.prog 91)) HRAx.out rfl rfl (by kernel_rfl) rfl rfl (by kernel_rfl) rfl ?_)
              refine calls_worldD _ (fun X => VlO lo X A' c' ac3 ∧ Blk X w.heap.size 53 #[.int .i64 z0, .string z1, .int .i64 z2, .int .i64 z3, .slice A4 z4.length c4, .slice A5 z5.length c5, .slice A6 z6.length c6, .slice A7 z7.length c7, .slice A8 z8.length c8, .slice A9 z9.length c9, .slice (some ⟨bcx, offx, none⟩) z10.length c10, .string z11, .slice A12 z12.length c12, .slice A13 z13.length c13] ∧ Below w.heap.size w X ∧ lo ≤ X.heap.size) ⟨(OwnI.alloc HOWN.out _).wide (Nat.le_refl _) (by simp), kb.alloc _, hb.alloc hb.size _, by simp; omega⟩ ?_
              clear HOWN kb hb
              rintro X4 ⟨hown, kb, hb, hlX4⟩
              refine (frVals_any (FFrame.mk x0 x1 x2 x3 x4 x5 x6 x7 x8 x9 x10 x11 x12) (by omega) [.int .i64 x0, .int .i64 x1, .slice xA2 x2.length xc2, .slice xA3 x3.length xc3, .slice xA4 x4.length xc4, .slice xA5 x5.length xc5, .slice xA6 x6.length xc6, .int .i64 x7, .string x8, .string x9, .int .i64 x10, .int .i64 x11, .int .i64 x12] _ w.heap.size hb.size (by rw [FFrame.c_eq]; exact (RdVs.cons (by unfold RdC; rfl) (RdVs.cons (by unfold RdC; rfl) (RdVs.cons ((xQ2.out.up hB0).below hb (Nat.le_refl _)) (RdVs.cons ((xQ3.out.up hB0).below hb (Nat.le_refl _)) (RdVs.cons ((xQ4.out.up hB0).below hb (Nat.le_refl _)) (RdVs.cons ((xQ5.out.up hB0).below hb (Nat.le_refl _)) (RdVs.cons ((xQ6.out.up hB0).below hb (Nat.le_refl _)) (RdVs.cons (by unfold RdC; rfl) (RdVs.cons (by unfold RdC; rfl) (RdVs.cons (by unfold RdC; rfl) (RdVs.cons (by unfold RdC; rfl) (RdVs.cons (by unfold RdC; rfl) (RdVs.cons (by unfold RdC; rfl) (RdVs.nil _ _)))))))))))))))).mono ?_
              rintro e w24 ⟨D4, d4, rfl, own2, hb2⟩
              have hs2 : X4.heap.size ≤ w24.heap.size := hb2.size
              obtain ⟨us, us2, PA, RD⟩ := VlO.many hown hlX4 hb2 own2
              replace kb := kb.below hb2 (Nat.le_refl _)
              replace hb := hb.trans (hb2.mono hb.size)
              have HPA := hid PA
              have HRD := hid RD
              clear PA RD own2 hown hb2
              go_wp2_with (at_builtin; go_must (refine wpList_append_rd _ rfl _ _ _ rfl lo _ _ _ 64 Tryz.underlying38 infoValueR rfl (by omega) (.slice A' ac3.length c') ac3.length us rfl HPA.out.ho w24.heap.size _ _ _ us2 rfl HRD.out HPA.out.h1 (by unfold maxLen; omega) (by omega) HPA.out.le ?_); intro v1 w1 hown1 hg1 hat1; obtain ⟨E4, e4, rfl, N4, HBK, HBL⟩ := HPA.out.done _ _ hown1 hg1 hat1; have hle8 := Nat.le_trans HPA.out.le (HBK lo _ (Below.refl _ _) (Nat.le_refl _)).size; clear hown1 hg1 hat1 HPA)
              replace hb := HBK _ _ hb (by omega)
              replace kb := HBL _ _ _ kb (by omega)
              have HOWN := hid N4
              clear HBK HBL N4
              go_roundw
              case rel =>
                have e : ac2 ++ rVals (z10.take (k + 1)) = ac3 ++ fVals (FFrame.mk x0 x1 x2 x3 x4 x5 x6 x7 x8 x9 x10 x11 x12) := by
                  rw [← HAC3.out]
                  unfold rVals
                  rw [flat_take1 _ _ _ _ HXx.out, List.append_assoc]
                exact ⟨k + 1, E4, e4, by omega, by go_num, by rw [e]; simp, by rw [e]; exact HOWN.out, kb, hb, hle8⟩
              case measure => simp [intOf]; omega
            · obtain rfl : k = z10.length := by omega
              have hown := HOWN.out
              rw [List.take_length] at hown ⊢
              clear HOWN hltx
              go_wp2_with fail
              go_ret
              have e : ac2 ++ rVals z10 = z4 ++ (oVals z7 ++ (gVals z9 ++ rVals z10)) := by rw [← HAC2.out, ← HAC.out]; simp
              rw [e] at hown ⊢
              exact ⟨_, _, rfl, hown.wide hlo2 (Nat.le_refl _), hb⟩
end Go.Proofs.YtahgcojmpafefaaGreat
