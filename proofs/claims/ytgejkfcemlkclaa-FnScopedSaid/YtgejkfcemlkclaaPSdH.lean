/-
  Parts of the proof: SdH. Conditions: none.
-/
import Derived.Test.YtgejkfcemlkclaaPGToUSdF
set_option linter.unusedVariables false
set_option linter.unusedSimpArgs false
namespace Go.Proofs.Ytgejkfcemlkclaa
set_option maxHeartbeats 40000000
open Go.ChangeShapes Go.WideShapes Go.ChangeAt Go.RowKit Go.Deep Go.Joins
open Go.ChangeMaps (open_string shut_string)
set_option maxRecDepth 100000
theorem step_of (deep : Int) (hd : -1000 ≤ deep) (hd2 : deep ≤ 1000) (KM KD : Nat) (hKD : KD ≤ 1000000000) (hM : MkI 2 KM) (hA : ∀ (g B : Nat) (w : World), Cur w g B → Calls Try.prog 77 #[.pointer (some ⟨g, 0, none⟩), .int .i64 1] w (DrT g B KM w)) (hD : 0 < deep → DoI (deep - 1) KD) : StpI deep (KM + 2 * KD + 20000) := by
  intro lp gn g B w hc
  have hgw := hc.lt
  have k1 := (Below.refl w.heap.size w).alloc (Nat.le_refl _) (.cells #[.int .i64 0, .int .i64 0, .string ⟨#[]⟩, .slice none 0 0] 29)
  have TK := Trk.start (hc.alloc (.cells #[.int .i64 0, .int .i64 0, .string ⟨#[]⟩, .slice none 0 0] 29))
  have RB := Blk.new w 29 #[.int .i64 0, .int .i64 0, .string ⟨#[]⟩, .slice none 0 0]
  clear hc
  go_enter Try.func47, Try.ntmps47
  go_upto_region 1 with fail
  generalize hw1 : w.alloc (.cells #[.int .i64 0, .int .i64 0, .string ⟨#[]⟩, .slice none 0 0] 29) = w1 at *
  have hs1 : w.heap.size < w1.heap.size := RB.lt
  have hgl : g < w1.heap.size := by omega
  go_upto_region 2 with (first | (go_at_call 75; refine (hM g B _ TK.cur).mono ?_; rintro e W1 hD; obtain ⟨k2, n2, t2, A2, m2, c2, rfl, q2, U, O⟩ := hD.out w1.heap.size TK.size; clear hD; replace RB := RB.only O (Nat.le_refl _) (by omega); replace TK := TK.call U O; clear U O; have hgW := Nat.lt_of_lt_of_le hgl TK.size; have tok1_1 : True := trivial))
  have sT := stp_new g W1 (.cells #[.int .i64 k2, .int .i64 n2, .string t2, .slice A2 m2 c2] 29)
  replace q2 := q2.stp sT hgl
  replace RB := RB.only sT (Nat.le_refl _) (by omega)
  clear sT
  replace TK := TK.alloc (.cells #[.int .i64 k2, .int .i64 n2, .string t2, .slice A2 m2 c2] 29)
  have hBXe : g < W1.heap.size := by omega
  have BXe := Blk.new' W1 29 #[.int .i64 k2, .int .i64 n2, .string t2, .slice A2 m2 c2] W1.heap.size (by simp)
  by_cases hd0 : deep ≤ 0
  · have hb0 : decide (deep ≤ 0) = true := by simp [hd0]
    clear hD
    go_upto_if 28 with (first | (go_at_call 30; refine (l1Below_any g B 9 (by decide) (by decide) _ TK.cur).mono ?_; rintro e W3 ⟨⟨x4, hx4, rfl⟩, U, O⟩; replace q2 := q2.stp O hgl; replace RB := RB.only O (Nat.le_refl _) (by omega); replace BXe := BXe.only O (Nat.le_refl _) (by omega); replace TK := TK.call U O; clear U O; have hgW := Nat.lt_of_lt_of_le hgl TK.size; have tok3_1 : True := trivial))
    have H := (show x4 = 0 ∨ x4 = 1 ∨ x4 = 2 ∨ x4 = 3 ∨ x4 = 4 ∨ x4 = 5 ∨ x4 = 6 ∨ x4 = 7 ∨ x4 = 8 from by omega)
    rcases H with rfl | rfl | rfl | rfl | rfl | rfl | rfl | rfl | rfl
    · cases lp
      · have ⟨BXel, BXef, BXe0, BXe1, BXe2, BXe3⟩ := BXe.all
        go_wp2_with (first | (go_at_call 27; have r5 := Rw.row1 W3.heap.size (by simp) TK.size q2; have sT := stp_new g W3 (.cells #[.int .i64 k2, .int .i64 n2, .string t2, .slice A2 m2 c2] 29); replace q2 := q2.stp sT hgl; replace RB := RB.only sT (Nat.le_refl _) (by omega); replace BXe := BXe.only sT (Nat.le_refl _) (by omega); clear sT; replace TK := TK.alloc (.cells #[.int .i64 k2, .int .i64 n2, .string t2, .slice A2 m2 c2] 29); have q7 := r5.mk (32) (0) (⟨#[]⟩) (0 + 1) (by decide); clear r5; refine (l15N_any _ _ _ _ _ _).mono ?_; rintro e W6 ⟨rfl, hb⟩; have sT := only_of_below (lo := g) (hi := g + 1) hb; replace q2 := q2.stp sT hgl; replace q7 := q7.stp sT hgl; replace RB := RB.only sT (Nat.le_refl _) (by omega); replace BXe := BXe.only sT (Nat.le_refl _) (by omega); clear sT; replace TK := TK.new hb; clear hb; have hgW := Nat.lt_of_lt_of_le hgl TK.size; have ⟨RBl, RBf, RB0, RB1, RB2, RB3⟩ := RB.all; have tok22_1 : True := trivial))
        have RQ := fun x0 x1 x2 x3 => DrT.done (q7.le (show ((KM)) + (0 + 1) ≤ KM + 2 * KD + 20000 from by omega)) TK k1 hgw hs1 x0 x1 x2 x3
        refine bodyPost_ret (v := .agg #[.int .i64 (32), .int .i64 (0), .string ⟨#[]⟩, .slice (some ⟨W3.heap.size, 0, none⟩) 1 1]) (by simp [results, Try.results47, go_sem, RB0, RB1, RB2, RB3, RBl, RBf]) rfl (RQ _ _ _ _)
      · go_wp2_with (first | (have _q := tok6_1; go_at_call 27; have q8 := (Rw.no (X := W5) (lo := w1.heap.size)).mk ((37 + (x6 : Int))) (0) (⟨#[]⟩) (0 + 0) (by decide); refine (l15N_any _ _ _ _ _ _).mono ?_; rintro e W7 ⟨rfl, hb⟩; have sT := only_of_below (lo := g) (hi := g + 1) hb; replace q2 := q2.stp sT hgl; replace q8 := q8.stp sT hgl; replace RB := RB.only sT (Nat.le_refl _) (by omega); replace BXe := BXe.only sT (Nat.le_refl _) (by omega); clear sT; replace TK := TK.new hb; clear hb; have hgW := Nat.lt_of_lt_of_le hgl TK.size; have ⟨RBl, RBf, RB0, RB1, RB2, RB3⟩ := RB.all; have tok6_2 : True := trivial) | (go_at_call 30; refine (l1Below_any g B 2 (by decide) (by decide) _ TK.cur).mono ?_; rintro e W5 ⟨⟨x6, hx6, rfl⟩, U, O⟩; replace q2 := q2.stp O hgl; replace RB := RB.only O (Nat.le_refl _) (by omega); replace BXe := BXe.only O (Nat.le_refl _) (by omega); replace TK := TK.call U O; clear U O; have hgW := Nat.lt_of_lt_of_le hgl TK.size; have tok6_1 : True := trivial))
        have RQ := fun x0 x1 x2 x3 => DrT.done (q8.le (show (0) + (0 + 0) ≤ KM + 2 * KD + 20000 from by omega)) TK k1 hgw hs1 x0 x1 x2 x3
        refine bodyPost_ret (v := .agg #[.int .i64 ((37 + (x6 : Int))), .int .i64 (0), .string ⟨#[]⟩, .slice none 0 0]) (by simp [results, Try.results47, go_sem, RB0, RB1, RB2, RB3, RBl, RBf]) rfl (RQ _ _ _ _)
    · cases gn
      · have ⟨BXel, BXef, BXe0, BXe1, BXe2, BXe3⟩ := BXe.all
        go_wp2_with (first | (go_at_call 27; have r5 := Rw.row1 W3.heap.size (by simp) TK.size q2; have sT := stp_new g W3 (.cells #[.int .i64 k2, .int .i64 n2, .string t2, .slice A2 m2 c2] 29); replace q2 := q2.stp sT hgl; replace RB := RB.only sT (Nat.le_refl _) (by omega); replace BXe := BXe.only sT (Nat.le_refl _) (by omega); clear sT; replace TK := TK.alloc (.cells #[.int .i64 k2, .int .i64 n2, .string t2, .slice A2 m2 c2] 29); have q7 := r5.mk (32) (0) (⟨#[]⟩) (0 + 1) (by decide); clear r5; refine (l15N_any _ _ _ _ _ _).mono ?_; rintro e W6 ⟨rfl, hb⟩; have sT := only_of_below (lo := g) (hi := g + 1) hb; replace q2 := q2.stp sT hgl; replace q7 := q7.stp sT hgl; replace RB := RB.only sT (Nat.le_refl _) (by omega); replace BXe := BXe.only sT (Nat.le_refl _) (by omega); clear sT; replace TK := TK.new hb; clear hb; have hgW := Nat.lt_of_lt_of_le hgl TK.size; have ⟨RBl, RBf, RB0, RB1, RB2, RB3⟩ := RB.all; have tok22_1 : True := trivial))
        have RQ := fun x0 x1 x2 x3 => DrT.done (q7.le (show ((KM)) + (0 + 1) ≤ KM + 2 * KD + 20000 from by omega)) TK k1 hgw hs1 x0 x1 x2 x3
        refine bodyPost_ret (v := .agg #[.int .i64 (32), .int .i64 (0), .string ⟨#[]⟩, .slice (some ⟨W3.heap.size, 0, none⟩) 1 1]) (by simp [results, Try.results47, go_sem, RB0, RB1, RB2, RB3, RBl, RBf]) rfl (RQ _ _ _ _)
      · go_upto_region 9 with fail
        have TQ0 : Trk g B W3 W3 := Trk.start TK.cur
        replace q2 := q2.stp (stp_drew g W3) hgl
        have hYs := TK.size
        have hgY := Nat.lt_of_lt_of_le hgl TK.size
        have TQ := TQ0.drew
        refine lateStart (S := (fun w_ => Trk g B W3 w_)) [5] (by kernel_rfl) ?_ (fun hHeld => ?_)
        · (try dsimp only)
          (exact TQ0.drew)
        generalize hW3d : World.drew W3 = W3d at *
        have hgW : g < W3d.heap.size := Nat.lt_of_lt_of_le hgY TQ.size
        (refine lgt (i := 0) (v := ?_) rfl ?_ hHeld ?_; rotate_left; (focus (intro w_ hSw; (try dsimp only at hSw); go_simp; (try with_reducible rfl); done)); try simp only [aS])
        (refine lgt (i := 2) (v := ?_) rfl ?_ hHeld ?_; rotate_left; (focus (intro w_ hSw; (try dsimp only at hSw); have yb := hSw.blk BXe (by omega); have ⟨ybl, ybf, yb0, yb1, yb2, yb3⟩ := yb.all; go_simp; (try with_reducible rfl); done)); try simp only [aS])
        refine lateOne (i := 1) (by kernel_rfl) ?_
        refine lateOp (i := 1) rfl (by rfl) (fun K hK => ?_)
        go_simp
        (go_at_call 76; refine (l15Var_any g B _ TQ.cur).mono ?_; rintro e W5 hD; obtain ⟨k6, n6, t6, A6, m6, c6, rfl, q6, U, O⟩ := hD.out w1.heap.size (Nat.le_trans hYs TQ.size); clear hD; replace q2 := q2.stp O hgl; replace TQ := TQ.call U O; clear U O; have hgW := Nat.lt_of_lt_of_le hgY TQ.size; have hS_ := TQ)
        clear hHeld
        refine hK.out _ _ hS_ (fun hHeld => ?_)
        clear hK K hS_
        try simp only [aS]
        refine lateOne (i := 3) (by kernel_rfl) ?_
        refine lateOp (i := 3) rfl (by rfl) (fun K hK => ?_)
        go_simp
        (have r7 := Rw.row2 W5.heap.size (by simp) (Nat.le_trans hYs TQ.size) q6 q2; clear q6; have sT := stp_new g W5 (.cells #[.int .i64 k6, .int .i64 n6, .string t6, .slice A6 m6 c6, .int .i64 k2, .int .i64 n2, .string t2, .slice A2 m2 c2] 29); replace q2 := q2.stp sT hgl; clear sT; replace TQ := TQ.alloc (.cells #[.int .i64 k6, .int .i64 n6, .string t6, .slice A6 m6 c6, .int .i64 k2, .int .i64 n2, .string t2, .slice A2 m2 c2] 29); have hS_ := TQ)
        clear hHeld
        refine hK.out _ _ hS_ (fun hHeld => ?_)
        clear hK K hS_
        try simp only [aS]
        refine lateOne (i := 4) (by kernel_rfl) ?_
        refine lateOp (i := 4) rfl (by rfl) (fun K hK => ?_)
        go_simp
        (go_at_call 27; have q9 := r7.mk (46) (0) (⟨#[]⟩) (0 + 2) (by decide); clear r7; refine (l15N_any _ _ _ _ _ _).mono ?_; rintro e W8 ⟨rfl, hb⟩; have sT := only_of_below (lo := g) (hi := g + 1) hb; replace q2 := q2.stp sT hgl; replace q9 := q9.stp sT hgl; clear sT; replace TQ := TQ.new hb; clear hb; have hgW := Nat.lt_of_lt_of_le hgY TQ.size; have hS_ := TQ)
        clear hHeld
        refine hK.out _ _ hS_ (fun hHeld => ?_)
        clear hK K hS_
        try simp only [aS]
        refine lateOne (i := 5) (by kernel_rfl) ?_
        refine lateLast (i := 5) rfl (by kernel_rfl) (by rfl) (fun K hK => ?_)
        have RB := hHeld.blk RB (by omega); have ⟨RBl, RBf, RB0, RB1, RB2, RB3⟩ := RB.all
        go_simp
        refine hK.out _ _ ?_
        clear hK K
        try simp only [aS]
        refine lateDone (by kernel_rfl) ?_ _
        replace TK := TK.next hHeld
        (try go_wp2_with fail)
        have RQ := fun x0 x1 x2 x3 => DrT.done (q9.le (show ((100) + (KM)) + (0 + 2) ≤ KM + 2 * KD + 20000 from by omega)) TK k1 hgw hs1 x0 x1 x2 x3
        refine bodyPost_ret (v := .agg #[.int .i64 (46), .int .i64 (0), .string ⟨#[]⟩, .slice (some ⟨W5.heap.size, 0, none⟩) 2 2]) (by simp [results, Try.results47, go_sem, RB0, RB1, RB2, RB3, RBl, RBf]) rfl (RQ _ _ _ _)
    · have ⟨BXel, BXef, BXe0, BXe1, BXe2, BXe3⟩ := BXe.all
      go_wp2_with (first | (have _q := tok11_1; go_at_call 27; have r8 := Rw.row1 W6.heap.size (by simp) TK.size q7; clear q7; have sT := stp_new g W6 (.cells #[.int .i64 (22), .int .i64 (0), .string ⟨#[69, 114, 114, 111, 114]⟩, .slice (some ⟨W3.heap.size, 0, none⟩) 1 1] 29); replace q2 := q2.stp sT hgl; replace RB := RB.only sT (Nat.le_refl _) (by omega); replace BXe := BXe.only sT (Nat.le_refl _) (by omega); clear sT; replace TK := TK.alloc (.cells #[.int .i64 (22), .int .i64 (0), .string ⟨#[69, 114, 114, 111, 114]⟩, .slice (some ⟨W3.heap.size, 0, none⟩) 1 1] 29); have q10 := r8.mk (42) (0) (⟨#[]⟩) (0 + 1) (by decide); clear r8; refine (l15N_any _ _ _ _ _ _).mono ?_; rintro e W9 ⟨rfl, hb⟩; have sT := only_of_below (lo := g) (hi := g + 1) hb; replace q2 := q2.stp sT hgl; replace q10 := q10.stp sT hgl; replace RB := RB.only sT (Nat.le_refl _) (by omega); replace BXe := BXe.only sT (Nat.le_refl _) (by omega); clear sT; replace TK := TK.new hb; clear hb; have hgW := Nat.lt_of_lt_of_le hgl TK.size; have ⟨RBl, RBf, RB0, RB1, RB2, RB3⟩ := RB.all; have tok11_2 : True := trivial) | (go_at_call 27; have r5 := Rw.row1 W3.heap.size (by simp) TK.size q2; have sT := stp_new g W3 (.cells #[.int .i64 k2, .int .i64 n2, .string t2, .slice A2 m2 c2] 29); replace q2 := q2.stp sT hgl; replace RB := RB.only sT (Nat.le_refl _) (by omega); replace BXe := BXe.only sT (Nat.le_refl _) (by omega); clear sT; replace TK := TK.alloc (.cells #[.int .i64 k2, .int .i64 n2, .string t2, .slice A2 m2 c2] 29); have q7 := r5.mk (22) (0) (⟨#[69, 114, 114, 111, 114]⟩) (5 + 1) (by decide); clear r5; refine (l15N_any _ _ _ _ _ _).mono ?_; rintro e W6 ⟨rfl, hb⟩; have sT := only_of_below (lo := g) (hi := g + 1) hb; replace q2 := q2.stp sT hgl; replace q7 := q7.stp sT hgl; replace RB := RB.only sT (Nat.le_refl _) (by omega); replace BXe := BXe.only sT (Nat.le_refl _) (by omega); clear sT; replace TK := TK.new hb; clear hb; have hgW := Nat.lt_of_lt_of_le hgl TK.size; have tok11_1 : True := trivial))
      have RQ := fun x0 x1 x2 x3 => DrT.done (q10.le (show ((((KM)) + (5 + 1))) + (0 + 1) ≤ KM + 2 * KD + 20000 from by omega)) TK k1 hgw hs1 x0 x1 x2 x3
      refine bodyPost_ret (v := .agg #[.int .i64 (42), .int .i64 (0), .string ⟨#[]⟩, .slice (some ⟨W6.heap.size, 0, none⟩) 1 1]) (by simp [results, Try.results47, go_sem, RB0, RB1, RB2, RB3, RBl, RBf]) rfl (RQ _ _ _ _)
    · have ⟨BXel, BXef, BXe0, BXe1, BXe2, BXe3⟩ := BXe.all
      go_wp2_with (first | (go_at_call 27; have r5 := Rw.row1 W3.heap.size (by simp) TK.size q2; have sT := stp_new g W3 (.cells #[.int .i64 k2, .int .i64 n2, .string t2, .slice A2 m2 c2] 29); replace q2 := q2.stp sT hgl; replace RB := RB.only sT (Nat.le_refl _) (by omega); replace BXe := BXe.only sT (Nat.le_refl _) (by omega); clear sT; replace TK := TK.alloc (.cells #[.int .i64 k2, .int .i64 n2, .string t2, .slice A2 m2 c2] 29); have q7 := r5.mk (39) (0) (⟨#[]⟩) (0 + 1) (by decide); clear r5; refine (l15N_any _ _ _ _ _ _).mono ?_; rintro e W6 ⟨rfl, hb⟩; have sT := only_of_below (lo := g) (hi := g + 1) hb; replace q2 := q2.stp sT hgl; replace q7 := q7.stp sT hgl; replace RB := RB.only sT (Nat.le_refl _) (by omega); replace BXe := BXe.only sT (Nat.le_refl _) (by omega); clear sT; replace TK := TK.new hb; clear hb; have hgW := Nat.lt_of_lt_of_le hgl TK.size; have ⟨RBl, RBf, RB0, RB1, RB2, RB3⟩ := RB.all; have tok13_1 : True := trivial))
      have RQ := fun x0 x1 x2 x3 => DrT.done (q7.le (show ((KM)) + (0 + 1) ≤ KM + 2 * KD + 20000 from by omega)) TK k1 hgw hs1 x0 x1 x2 x3
      refine bodyPost_ret (v := .agg #[.int .i64 (39), .int .i64 (0), .string ⟨#[]⟩, .slice (some ⟨W3.heap.size, 0, none⟩) 1 1]) (by simp [results, Try.results47, go_sem, RB0, RB1, RB2, RB3, RBl, RBf]) rfl (RQ _ _ _ _)
    · go_wp2_with (first | (have _q := tok15_1; go_at_call 27; have r7 := Rw.row1 W5.heap.size (by simp) TK.size q6; clear q6; have sT := stp_new g W5 (.cells #[.int .i64 k6, .int .i64 n6, .string t6, .slice A6 m6 c6] 29); replace q2 := q2.stp sT hgl; replace RB := RB.only sT (Nat.le_refl _) (by omega); replace BXe := BXe.only sT (Nat.le_refl _) (by omega); clear sT; replace TK := TK.alloc (.cells #[.int .i64 k6, .int .i64 n6, .string t6, .slice A6 m6 c6] 29); have q9 := r7.mk (41) (0) (⟨#[]⟩) (0 + 1) (by decide); clear r7; refine (l15N_any _ _ _ _ _ _).mono ?_; rintro e W8 ⟨rfl, hb⟩; have sT := only_of_below (lo := g) (hi := g + 1) hb; replace q2 := q2.stp sT hgl; replace q9 := q9.stp sT hgl; replace RB := RB.only sT (Nat.le_refl _) (by omega); replace BXe := BXe.only sT (Nat.le_refl _) (by omega); clear sT; replace TK := TK.new hb; clear hb; have hgW := Nat.lt_of_lt_of_le hgl TK.size; have ⟨RBl, RBf, RB0, RB1, RB2, RB3⟩ := RB.all; have tok15_2 : True := trivial) | (go_at_call 77; refine (hA g B _ TK.cur).mono ?_; rintro e W5 hD; obtain ⟨k6, n6, t6, A6, m6, c6, rfl, q6, U, O⟩ := hD.out w1.heap.size TK.size; clear hD; replace q2 := q2.stp O hgl; replace RB := RB.only O (Nat.le_refl _) (by omega); replace BXe := BXe.only O (Nat.le_refl _) (by omega); replace TK := TK.call U O; clear U O; have hgW := Nat.lt_of_lt_of_le hgl TK.size; have tok15_1 : True := trivial))
      have RQ := fun x0 x1 x2 x3 => DrT.done (q9.le (show ((KM)) + (0 + 1) ≤ KM + 2 * KD + 20000 from by omega)) TK k1 hgw hs1 x0 x1 x2 x3
      refine bodyPost_ret (v := .agg #[.int .i64 (41), .int .i64 (0), .string ⟨#[]⟩, .slice (some ⟨W5.heap.size, 0, none⟩) 1 1]) (by simp [results, Try.results47, go_sem, RB0, RB1, RB2, RB3, RBl, RBf]) rfl (RQ _ _ _ _)
    · go_wp2_with (first | (go_at_call 27; have q6 := (Rw.no (X := W3) (lo := w1.heap.size)).mk (31) (0) (⟨#[60, 112, 62]⟩) (3 + 0) (by decide); refine (l15N_any _ _ _ _ _ _).mono ?_; rintro e W5 ⟨rfl, hb⟩; have sT := only_of_below (lo := g) (hi := g + 1) hb; replace q2 := q2.stp sT hgl; replace q6 := q6.stp sT hgl; replace RB := RB.only sT (Nat.le_refl _) (by omega); replace BXe := BXe.only sT (Nat.le_refl _) (by omega); clear sT; replace TK := TK.new hb; clear hb; have hgW := Nat.lt_of_lt_of_le hgl TK.size; have ⟨RBl, RBf, RB0, RB1, RB2, RB3⟩ := RB.all; have tok17_1 : True := trivial))
      have RQ := fun x0 x1 x2 x3 => DrT.done (q6.le (show (0) + (3 + 0) ≤ KM + 2 * KD + 20000 from by omega)) TK k1 hgw hs1 x0 x1 x2 x3
      refine bodyPost_ret (v := .agg #[.int .i64 (31), .int .i64 (0), .string ⟨#[60, 112, 62]⟩, .slice none 0 0]) (by simp [results, Try.results47, go_sem, RB0, RB1, RB2, RB3, RBl, RBf]) rfl (RQ _ _ _ _)
    · go_wp2_with (first | (go_at_call 27; have q6 := (Rw.no (X := W3) (lo := w1.heap.size)).mk (40) (0) (⟨#[97]⟩) (1 + 0) (by decide); refine (l15N_any _ _ _ _ _ _).mono ?_; rintro e W5 ⟨rfl, hb⟩; have sT := only_of_below (lo := g) (hi := g + 1) hb; replace q2 := q2.stp sT hgl; replace q6 := q6.stp sT hgl; replace RB := RB.only sT (Nat.le_refl _) (by omega); replace BXe := BXe.only sT (Nat.le_refl _) (by omega); clear sT; replace TK := TK.new hb; clear hb; have hgW := Nat.lt_of_lt_of_le hgl TK.size; have ⟨RBl, RBf, RB0, RB1, RB2, RB3⟩ := RB.all; have tok19_1 : True := trivial))
      have RQ := fun x0 x1 x2 x3 => DrT.done (q6.le (show (0) + (1 + 0) ≤ KM + 2 * KD + 20000 from by omega)) TK k1 hgw hs1 x0 x1 x2 x3
      refine bodyPost_ret (v := .agg #[.int .i64 (40), .int .i64 (0), .string ⟨#[97]⟩, .slice none 0 0]) (by simp [results, Try.results47, go_sem, RB0, RB1, RB2, RB3, RBl, RBf]) rfl (RQ _ _ _ _)
    · have ⟨BXel, BXef, BXe0, BXe1, BXe2, BXe3⟩ := BXe.all
      go_wp2_with (first | (go_at_call 27; have r5 := Rw.row1 W3.heap.size (by simp) TK.size q2; have sT := stp_new g W3 (.cells #[.int .i64 k2, .int .i64 n2, .string t2, .slice A2 m2 c2] 29); replace q2 := q2.stp sT hgl; replace RB := RB.only sT (Nat.le_refl _) (by omega); replace BXe := BXe.only sT (Nat.le_refl _) (by omega); clear sT; replace TK := TK.alloc (.cells #[.int .i64 k2, .int .i64 n2, .string t2, .slice A2 m2 c2] 29); have q7 := r5.mk (33) (0) (⟨#[]⟩) (0 + 1) (by decide); clear r5; refine (l15N_any _ _ _ _ _ _).mono ?_; rintro e W6 ⟨rfl, hb⟩; have sT := only_of_below (lo := g) (hi := g + 1) hb; replace q2 := q2.stp sT hgl; replace q7 := q7.stp sT hgl; replace RB := RB.only sT (Nat.le_refl _) (by omega); replace BXe := BXe.only sT (Nat.le_refl _) (by omega); clear sT; replace TK := TK.new hb; clear hb; have hgW := Nat.lt_of_lt_of_le hgl TK.size; have ⟨RBl, RBf, RB0, RB1, RB2, RB3⟩ := RB.all; have tok21_1 : True := trivial))
      have RQ := fun x0 x1 x2 x3 => DrT.done (q7.le (show ((KM)) + (0 + 1) ≤ KM + 2 * KD + 20000 from by omega)) TK k1 hgw hs1 x0 x1 x2 x3
      refine bodyPost_ret (v := .agg #[.int .i64 (33), .int .i64 (0), .string ⟨#[]⟩, .slice (some ⟨W3.heap.size, 0, none⟩) 1 1]) (by simp [results, Try.results47, go_sem, RB0, RB1, RB2, RB3, RBl, RBf]) rfl (RQ _ _ _ _)
    · have ⟨BXel, BXef, BXe0, BXe1, BXe2, BXe3⟩ := BXe.all
      go_wp2_with (first | (go_at_call 27; have r5 := Rw.row1 W3.heap.size (by simp) TK.size q2; have sT := stp_new g W3 (.cells #[.int .i64 k2, .int .i64 n2, .string t2, .slice A2 m2 c2] 29); replace q2 := q2.stp sT hgl; replace RB := RB.only sT (Nat.le_refl _) (by omega); replace BXe := BXe.only sT (Nat.le_refl _) (by omega); clear sT; replace TK := TK.alloc (.cells #[.int .i64 k2, .int .i64 n2, .string t2, .slice A2 m2 c2] 29); have q7 := r5.mk (32) (0) (⟨#[]⟩) (0 + 1) (by decide); clear r5; refine (l15N_any _ _ _ _ _ _).mono ?_; rintro e W6 ⟨rfl, hb⟩; have sT := only_of_below (lo := g) (hi := g + 1) hb; replace q2 := q2.stp sT hgl; replace q7 := q7.stp sT hgl; replace RB := RB.only sT (Nat.le_refl _) (by omega); replace BXe := BXe.only sT (Nat.le_refl _) (by omega); clear sT; replace TK := TK.new hb; clear hb; have hgW := Nat.lt_of_lt_of_le hgl TK.size; have ⟨RBl, RBf, RB0, RB1, RB2, RB3⟩ := RB.all; have tok22_1 : True := trivial))
      have RQ := fun x0 x1 x2 x3 => DrT.done (q7.le (show ((KM)) + (0 + 1) ≤ KM + 2 * KD + 20000 from by omega)) TK k1 hgw hs1 x0 x1 x2 x3
      refine bodyPost_ret (v := .agg #[.int .i64 (32), .int .i64 (0), .string ⟨#[]⟩, .slice (some ⟨W3.heap.size, 0, none⟩) 1 1]) (by simp [results, Try.results47, go_sem, RB0, RB1, RB2, RB3, RBl, RBf]) rfl (RQ _ _ _ _)
  · have hb0 : decide (deep ≤ 0) = false := by simp [hd0]
    have HD := hD (by omega)
    have hwd : IntKind.i64.wrap (deep - 1) = deep - 1 := by rw [IntKind.wrap_i64]; omega
    have HDw : DoI (IntKind.i64.wrap (deep - 1)) KD := by rw [hwd]; exact HD
    clear hD hwd
    go_upto_if 25 with (first | (go_at_call 45; refine (l1Once_any g B 3 (by decide) (by decide) _ TK.cur).mono ?_; rintro e W3 ⟨⟨x4, rfl⟩, U, O⟩; replace q2 := q2.stp O hgl; replace RB := RB.only O (Nat.le_refl _) (by omega); replace BXe := BXe.only O (Nat.le_refl _) (by omega); replace TK := TK.call U O; clear U O; have hgW := Nat.lt_of_lt_of_le hgl TK.size; have tok2_1 : True := trivial))
    cases x4
    · go_upto_region 24 with (first | (go_at_call 29; refine (HD _ _ g B _ TK.cur).mono ?_; rintro e W5 hD; obtain ⟨k6, n6, t6, A6, m6, c6, rfl, q6, U, O⟩ := hD.out w1.heap.size TK.size; clear hD; replace q2 := q2.stp O hgl; replace RB := RB.only O (Nat.le_refl _) (by omega); replace BXe := BXe.only O (Nat.le_refl _) (by omega); replace TK := TK.call U O; clear U O; have hgW := Nat.lt_of_lt_of_le hgl TK.size; have tok23_1 : True := trivial))
      have sT := stp_new g W5 (.cells #[.int .i64 k6, .int .i64 n6, .string t6, .slice A6 m6 c6] 29)
      replace q2 := q2.stp sT hgl
      replace q6 := q6.stp sT hgl
      replace RB := RB.only sT (Nat.le_refl _) (by omega)
      replace BXe := BXe.only sT (Nat.le_refl _) (by omega)
      clear sT
      replace TK := TK.alloc (.cells #[.int .i64 k6, .int .i64 n6, .string t6, .slice A6 m6 c6] 29)
      have hBXb : g < W5.heap.size := by omega
      have BXb := Blk.new' W5 29 #[.int .i64 k6, .int .i64 n6, .string t6, .slice A6 m6 c6] W5.heap.size (by simp)
      go_upto_if 83 with (first | (go_at_call 30; refine (l1Below_any g B 6 (by decide) (by decide) _ TK.cur).mono ?_; rintro e W7 ⟨⟨x8, hx8, rfl⟩, U, O⟩; replace q2 := q2.stp O hgl; replace q6 := q6.stp O hgl; replace RB := RB.only O (Nat.le_refl _) (by omega); replace BXe := BXe.only O (Nat.le_refl _) (by omega); replace BXb := BXb.only O (Nat.le_refl _) (by omega); replace TK := TK.call U O; clear U O; have hgW := Nat.lt_of_lt_of_le hgl TK.size; have tok24_1 : True := trivial))
      have H := (show x8 = 0 ∨ x8 = 1 ∨ x8 = 2 ∨ x8 = 3 ∨ x8 = 4 ∨ x8 = 5 from by omega)
      rcases H with rfl | rfl | rfl | rfl | rfl | rfl
      · go_upto_region 26 with fail
        have TQ0 : Trk g B W7 W7 := Trk.start TK.cur
        replace q2 := q2.stp (stp_drew g W7) hgl
        replace q6 := q6.stp (stp_drew g W7) hgl
        have hYs := TK.size
        have hgY := Nat.lt_of_lt_of_le hgl TK.size
        have TQ := TQ0.drew
        refine lateStart (S := (fun w_ => Trk g B W7 w_)) [10] (by kernel_rfl) ?_ (fun hHeld => ?_)
        · (try dsimp only)
          (exact TQ0.drew)
        generalize hW7d : World.drew W7 = W7d at *
        have hgW : g < W7d.heap.size := Nat.lt_of_lt_of_le hgY TQ.size
        (refine lgt (i := 0) (v := ?_) rfl ?_ hHeld ?_; rotate_left; (focus (intro w_ hSw; (try dsimp only at hSw); have yb := hSw.blk BXe (by omega); have ⟨ybl, ybf, yb0, yb1, yb2, yb3⟩ := yb.all; go_simp; (try with_reducible rfl); done)); try simp only [aS])
        (refine lgt (i := 1) (v := ?_) rfl ?_ hHeld ?_; rotate_left; (focus (intro w_ hSw; (try dsimp only at hSw); have yb := hSw.blk BXb (by omega); have ⟨ybl, ybf, yb0, yb1, yb2, yb3⟩ := yb.all; go_simp; (try with_reducible rfl); done)); try simp only [aS])
        (refine lgt (i := 2) (v := ?_) rfl ?_ hHeld ?_; rotate_left; (focus (intro w_ hSw; (try dsimp only at hSw); go_simp; (try with_reducible rfl); done)); try simp only [aS])
        (refine lgt (i := 3) (v := ?_) rfl ?_ hHeld ?_; rotate_left; (focus (intro w_ hSw; (try dsimp only at hSw); go_simp; (try with_reducible rfl); done)); try simp only [aS])
        (refine lgt (i := 4) (v := ?_) rfl ?_ hHeld ?_; rotate_left; (focus (intro w_ hSw; (try dsimp only at hSw); go_simp; (try with_reducible rfl); done)); try simp only [aS])
        (refine lgt (i := 5) (v := ?_) rfl ?_ hHeld ?_; rotate_left; (focus (intro w_ hSw; (try dsimp only at hSw); go_simp; (try with_reducible rfl); done)); try simp only [aS])
        (refine lgt (i := 6) (v := ?_) rfl ?_ hHeld ?_; rotate_left; (focus (intro w_ hSw; (try dsimp only at hSw); go_simp; (try with_reducible rfl); done)); try simp only [aS])
        refine lateOne (i := 7) (by kernel_rfl) ?_
        refine lateOp (i := 7) rfl (by rfl) (fun K hK => ?_)
        go_simp
        (go_at_call 29; refine (HDw _ _ g B _ TQ.cur).mono ?_; rintro e W9 hD; obtain ⟨k10, n10, t10, A10, m10, c10, rfl, q10, U, O⟩ := hD.out w1.heap.size (Nat.le_trans hYs TQ.size); clear hD; replace q2 := q2.stp O hgl; replace q6 := q6.stp O hgl; replace TQ := TQ.call U O; clear U O; have hgW := Nat.lt_of_lt_of_le hgY TQ.size; have hS_ := TQ)
        clear hHeld
        refine hK.out _ _ hS_ (fun hHeld => ?_)
        clear hK K hS_
        try simp only [aS]
        refine lateOne (i := 8) (by kernel_rfl) ?_
        refine lateOp (i := 8) rfl (by rfl) (fun K hK => ?_)
        go_simp
        (have r11 := Rw.row3 W9.heap.size (by simp) (Nat.le_trans hYs TQ.size) q2 q6 q10; clear q10; have sT := stp_new g W9 (.cells #[.int .i64 k2, .int .i64 n2, .string t2, .slice A2 m2 c2, .int .i64 k6, .int .i64 n6, .string t6, .slice A6 m6 c6, .int .i64 k10, .int .i64 n10, .string t10, .slice A10 m10 c10] 29); replace q2 := q2.stp sT hgl; replace q6 := q6.stp sT hgl; clear sT; replace TQ := TQ.alloc (.cells #[.int .i64 k2, .int .i64 n2, .string t2, .slice A2 m2 c2, .int .i64 k6, .int .i64 n6, .string t6, .slice A6 m6 c6, .int .i64 k10, .int .i64 n10, .string t10, .slice A10 m10 c10] 29); have hS_ := TQ)
        clear hHeld
        refine hK.out _ _ hS_ (fun hHeld => ?_)
        clear hK K hS_
        try simp only [aS]
        refine lateOne (i := 9) (by kernel_rfl) ?_
        refine lateOp (i := 9) rfl (by rfl) (fun K hK => ?_)
        go_simp
        (go_at_call 27; have q13 := r11.mk (34) (0) (⟨#[]⟩) (0 + 3) (by decide); clear r11; refine (l15N_any _ _ _ _ _ _).mono ?_; rintro e W12 ⟨rfl, hb⟩; have sT := only_of_below (lo := g) (hi := g + 1) hb; replace q2 := q2.stp sT hgl; replace q6 := q6.stp sT hgl; replace q13 := q13.stp sT hgl; clear sT; replace TQ := TQ.new hb; clear hb; have hgW := Nat.lt_of_lt_of_le hgY TQ.size; have hS_ := TQ)
        clear hHeld
        refine hK.out _ _ hS_ (fun hHeld => ?_)
        clear hK K hS_
        try simp only [aS]
        refine lateOne (i := 10) (by kernel_rfl) ?_
        refine lateLast (i := 10) rfl (by kernel_rfl) (by rfl) (fun K hK => ?_)
        have RB := hHeld.blk RB (by omega); have ⟨RBl, RBf, RB0, RB1, RB2, RB3⟩ := RB.all
        go_simp
        refine hK.out _ _ ?_
        clear hK K
        try simp only [aS]
        refine lateDone (by kernel_rfl) ?_ _
        replace TK := TK.next hHeld
        (try go_wp2_with fail)
        have RQ := fun x0 x1 x2 x3 => DrT.done (q13.le (show ((KM) + (KD) + (KD)) + (0 + 3) ≤ KM + 2 * KD + 20000 from by omega)) TK k1 hgw hs1 x0 x1 x2 x3
        refine bodyPost_ret (v := .agg #[.int .i64 (34), .int .i64 (0), .string ⟨#[]⟩, .slice (some ⟨W9.heap.size, 0, none⟩) 3 3]) (by simp [results, Try.results47, go_sem, RB0, RB1, RB2, RB3, RBl, RBf]) rfl (RQ _ _ _ _)
      · skip
        go_upto_region 29 with (first | (go_at_call 27; have q10 := (Rw.no (X := W7) (lo := w1.heap.size)).mk (4) (0) (⟨#[105]⟩) (1 + 0) (by decide); refine (l15N_any _ _ _ _ _ _).mono ?_; rintro e W9 ⟨rfl, hb⟩; have sT := only_of_below (lo := g) (hi := g + 1) hb; replace q2 := q2.stp sT hgl; replace q6 := q6.stp sT hgl; replace q10 := q10.stp sT hgl; replace RB := RB.only sT (Nat.le_refl _) (by omega); replace BXe := BXe.only sT (Nat.le_refl _) (by omega); replace BXb := BXb.only sT (Nat.le_refl _) (by omega); clear sT; replace TK := TK.new hb; clear hb; have hgW := Nat.lt_of_lt_of_le hgl TK.size; have tok28_1 : True := trivial))
        have sT := stp_new g W9 (.cells #[.int .i64 (4), .int .i64 (0), .string ⟨#[105]⟩, .slice none 0 0] 29)
        replace q2 := q2.stp sT hgl
        replace q6 := q6.stp sT hgl
        replace q10 := q10.stp sT hgl
        replace RB := RB.only sT (Nat.le_refl _) (by omega)
        replace BXe := BXe.only sT (Nat.le_refl _) (by omega)
        replace BXb := BXb.only sT (Nat.le_refl _) (by omega)
        clear sT
        replace TK := TK.alloc (.cells #[.int .i64 (4), .int .i64 (0), .string ⟨#[105]⟩, .slice none 0 0] 29)
        have hBXi : g < W9.heap.size := by omega
        have BXi := Blk.new' W9 29 #[.int .i64 (4), .int .i64 (0), .string ⟨#[105]⟩, .slice none 0 0] W9.heap.size (by simp)
        go_upto_region 30 with fail
        have q11 := (Rw.no (X := (World.alloc W9 (.cells #[.int .i64 (4), .int .i64 (0), .string ⟨#[105]⟩, .slice none 0 0] 29))) (lo := w1.heap.size)).mk (1) (1) (⟨#[]⟩) (0 + 0) (by decide)
        have sT := stp_new g (World.alloc W9 (.cells #[.int .i64 (4), .int .i64 (0), .string ⟨#[105]⟩, .slice none 0 0] 29)) (.cells #[.int .i64 (1), .int .i64 (1), .string ⟨#[]⟩, .slice none 0 0] 29)
        replace q2 := q2.stp sT hgl
        replace q6 := q6.stp sT hgl
        replace q10 := q10.stp sT hgl
        replace q11 := q11.stp sT hgl
        replace RB := RB.only sT (Nat.le_refl _) (by omega)
        replace BXe := BXe.only sT (Nat.le_refl _) (by omega)
        replace BXb := BXb.only sT (Nat.le_refl _) (by omega)
        replace BXi := BXi.only sT (Nat.le_refl _) (by omega)
        clear sT
        replace TK := TK.alloc (.cells #[.int .i64 (1), .int .i64 (1), .string ⟨#[]⟩, .slice none 0 0] 29)
        have hBXone : g < (W9.heap.size + 1) := by omega
        have BXone := Blk.new' (World.alloc W9 (.cells #[.int .i64 (4), .int .i64 (0), .string ⟨#[105]⟩, .slice none 0 0] 29)) 29 #[.int .i64 (1), .int .i64 (1), .string ⟨#[]⟩, .slice none 0 0] (W9.heap.size + 1) (by simp)
        have ⟨BXil, BXif, BXi0, BXi1, BXi2, BXi3⟩ := BXi.all
        go_upto_region 31 with fail
        have q12 := (Rw.no (X := (World.alloc (World.alloc W9 (.cells #[.int .i64 (4), .int .i64 (0), .string ⟨#[105]⟩, .slice none 0 0] 29)) (.cells #[.int .i64 (1), .int .i64 (1), .string ⟨#[]⟩, .slice none 0 0] 29))) (lo := w1.heap.size)).mk (1) (3) (⟨#[]⟩) (0 + 0) (by decide)
        have r13 := Rw.row2 (W9.heap.size + 2) (by simp) TK.size q10 q12
        clear q12
        have sT := stp_new g (World.alloc (World.alloc W9 (.cells #[.int .i64 (4), .int .i64 (0), .string ⟨#[105]⟩, .slice none 0 0] 29)) (.cells #[.int .i64 (1), .int .i64 (1), .string ⟨#[]⟩, .slice none 0 0] 29)) (.cells #[.int .i64 (4), .int .i64 (0), .string ⟨#[105]⟩, .slice none 0 0, .int .i64 (1), .int .i64 (3), .string ⟨#[]⟩, .slice none 0 0] 29)
        replace q2 := q2.stp sT hgl
        replace q6 := q6.stp sT hgl
        replace q10 := q10.stp sT hgl
        replace q11 := q11.stp sT hgl
        replace RB := RB.only sT (Nat.le_refl _) (by omega)
        replace BXe := BXe.only sT (Nat.le_refl _) (by omega)
        replace BXb := BXb.only sT (Nat.le_refl _) (by omega)
        replace BXi := BXi.only sT (Nat.le_refl _) (by omega)
        replace BXone := BXone.only sT (Nat.le_refl _) (by omega)
        clear sT
        replace TK := TK.alloc (.cells #[.int .i64 (4), .int .i64 (0), .string ⟨#[105]⟩, .slice none 0 0, .int .i64 (1), .int .i64 (3), .string ⟨#[]⟩, .slice none 0 0] 29)
        have q14 := r13.mk (10) (11) (⟨#[]⟩) (0 + 2) (by decide)
        clear r13
        have sT := stp_new g (World.alloc (World.alloc (World.alloc W9 (.cells #[.int .i64 (4), .int .i64 (0), .string ⟨#[105]⟩, .slice none 0 0] 29)) (.cells #[.int .i64 (1), .int .i64 (1), .string ⟨#[]⟩, .slice none 0 0] 29)) (.cells #[.int .i64 (4), .int .i64 (0), .string ⟨#[105]⟩, .slice none 0 0, .int .i64 (1), .int .i64 (3), .string ⟨#[]⟩, .slice none 0 0] 29)) (.cells #[.int .i64 (10), .int .i64 (11), .string ⟨#[]⟩, .slice (some ⟨(W9.heap.size + 2), 0, none⟩) 2 2] 29)
        replace q2 := q2.stp sT hgl
        replace q6 := q6.stp sT hgl
        replace q10 := q10.stp sT hgl
        replace q11 := q11.stp sT hgl
        replace q14 := q14.stp sT hgl
        replace RB := RB.only sT (Nat.le_refl _) (by omega)
        replace BXe := BXe.only sT (Nat.le_refl _) (by omega)
        replace BXb := BXb.only sT (Nat.le_refl _) (by omega)
        replace BXi := BXi.only sT (Nat.le_refl _) (by omega)
        replace BXone := BXone.only sT (Nat.le_refl _) (by omega)
        clear sT
        replace TK := TK.alloc (.cells #[.int .i64 (10), .int .i64 (11), .string ⟨#[]⟩, .slice (some ⟨(W9.heap.size + 2), 0, none⟩) 2 2] 29)
        have hBXless : g < (W9.heap.size + 3) := by omega
        have BXless := Blk.new' (World.alloc (World.alloc (World.alloc W9 (.cells #[.int .i64 (4), .int .i64 (0), .string ⟨#[105]⟩, .slice none 0 0] 29)) (.cells #[.int .i64 (1), .int .i64 (1), .string ⟨#[]⟩, .slice none 0 0] 29)) (.cells #[.int .i64 (4), .int .i64 (0), .string ⟨#[105]⟩, .slice none 0 0, .int .i64 (1), .int .i64 (3), .string ⟨#[]⟩, .slice none 0 0] 29)) 29 #[.int .i64 (10), .int .i64 (11), .string ⟨#[]⟩, .slice (some ⟨(W9.heap.size + 2), 0, none⟩) 2 2] (W9.heap.size + 3) (by simp)
        have ⟨BXil, BXif, BXi0, BXi1, BXi2, BXi3⟩ := BXi.all
        have ⟨BXonel, BXonef, BXone0, BXone1, BXone2, BXone3⟩ := BXone.all
        go_upto_region 32 with (first | (go_at_call 27; have r15 := Rw.row2 (W9.heap.size + 4) (by simp) TK.size q10 q11; have sT := stp_new g (World.alloc (World.alloc (World.alloc (World.alloc W9 (.cells #[.int .i64 (4), .int .i64 (0), .string ⟨#[105]⟩, .slice none 0 0] 29)) (.cells #[.int .i64 (1), .int .i64 (1), .string ⟨#[]⟩, .slice none 0 0] 29)) (.cells #[.int .i64 (4), .int .i64 (0), .string ⟨#[105]⟩, .slice none 0 0, .int .i64 (1), .int .i64 (3), .string ⟨#[]⟩, .slice none 0 0] 29)) (.cells #[.int .i64 (10), .int .i64 (11), .string ⟨#[]⟩, .slice (some ⟨(W9.heap.size + 2), 0, none⟩) 2 2] 29)) (.cells #[.int .i64 (4), .int .i64 (0), .string ⟨#[105]⟩, .slice none 0 0, .int .i64 (1), .int .i64 (1), .string ⟨#[]⟩, .slice none 0 0] 29); replace q2 := q2.stp sT hgl; replace q6 := q6.stp sT hgl; replace q10 := q10.stp sT hgl; replace q11 := q11.stp sT hgl; replace q14 := q14.stp sT hgl; replace RB := RB.only sT (Nat.le_refl _) (by omega); replace BXe := BXe.only sT (Nat.le_refl _) (by omega); replace BXb := BXb.only sT (Nat.le_refl _) (by omega); replace BXi := BXi.only sT (Nat.le_refl _) (by omega); replace BXone := BXone.only sT (Nat.le_refl _) (by omega); replace BXless := BXless.only sT (Nat.le_refl _) (by omega); clear sT; replace TK := TK.alloc (.cells #[.int .i64 (4), .int .i64 (0), .string ⟨#[105]⟩, .slice none 0 0, .int .i64 (1), .int .i64 (1), .string ⟨#[]⟩, .slice none 0 0] 29); have q16 := r15.mk (10) (1) (⟨#[]⟩) (0 + 2) (by decide); clear r15; have r17 := Rw.row2 (W9.heap.size + 5) (by simp) TK.size q10 q16; clear q16; have sT := stp_new g (World.alloc (World.alloc (World.alloc (World.alloc (World.alloc W9 (.cells #[.int .i64 (4), .int .i64 (0), .string ⟨#[105]⟩, .slice none 0 0] 29)) (.cells #[.int .i64 (1), .int .i64 (1), .string ⟨#[]⟩, .slice none 0 0] 29)) (.cells #[.int .i64 (4), .int .i64 (0), .string ⟨#[105]⟩, .slice none 0 0, .int .i64 (1), .int .i64 (3), .string ⟨#[]⟩, .slice none 0 0] 29)) (.cells #[.int .i64 (10), .int .i64 (11), .string ⟨#[]⟩, .slice (some ⟨(W9.heap.size + 2), 0, none⟩) 2 2] 29)) (.cells #[.int .i64 (4), .int .i64 (0), .string ⟨#[105]⟩, .slice none 0 0, .int .i64 (1), .int .i64 (1), .string ⟨#[]⟩, .slice none 0 0] 29)) (.cells #[.int .i64 (4), .int .i64 (0), .string ⟨#[105]⟩, .slice none 0 0, .int .i64 (10), .int .i64 (1), .string ⟨#[]⟩, .slice (some ⟨(W9.heap.size + 4), 0, none⟩) 2 2] 29); replace q2 := q2.stp sT hgl; replace q6 := q6.stp sT hgl; replace q10 := q10.stp sT hgl; replace q11 := q11.stp sT hgl; replace q14 := q14.stp sT hgl; replace RB := RB.only sT (Nat.le_refl _) (by omega); replace BXe := BXe.only sT (Nat.le_refl _) (by omega); replace BXb := BXb.only sT (Nat.le_refl _) (by omega); replace BXi := BXi.only sT (Nat.le_refl _) (by omega); replace BXone := BXone.only sT (Nat.le_refl _) (by omega); replace BXless := BXless.only sT (Nat.le_refl _) (by omega); clear sT; replace TK := TK.alloc (.cells #[.int .i64 (4), .int .i64 (0), .string ⟨#[105]⟩, .slice none 0 0, .int .i64 (10), .int .i64 (1), .string ⟨#[]⟩, .slice (some ⟨(W9.heap.size + 4), 0, none⟩) 2 2] 29); have q19 := r17.mk (15) (0) (⟨#[]⟩) (0 + 2) (by decide); clear r17; refine (l15N_any _ _ _ _ _ _).mono ?_; rintro e W18 ⟨rfl, hb⟩; have sT := only_of_below (lo := g) (hi := g + 1) hb; replace q2 := q2.stp sT hgl; replace q6 := q6.stp sT hgl; replace q10 := q10.stp sT hgl; replace q11 := q11.stp sT hgl; replace q14 := q14.stp sT hgl; replace q19 := q19.stp sT hgl; replace RB := RB.only sT (Nat.le_refl _) (by omega); replace BXe := BXe.only sT (Nat.le_refl _) (by omega); replace BXb := BXb.only sT (Nat.le_refl _) (by omega); replace BXi := BXi.only sT (Nat.le_refl _) (by omega); replace BXone := BXone.only sT (Nat.le_refl _) (by omega); replace BXless := BXless.only sT (Nat.le_refl _) (by omega); clear sT; replace TK := TK.new hb; clear hb; have hgW := Nat.lt_of_lt_of_le hgl TK.size; have tok31_1 : True := trivial))
        have sT := stp_new g W18 (.cells #[.int .i64 (15), .int .i64 (0), .string ⟨#[]⟩, .slice (some ⟨(W9.heap.size + 5), 0, none⟩) 2 2] 29)
        replace q2 := q2.stp sT hgl
        replace q6 := q6.stp sT hgl
        replace q10 := q10.stp sT hgl
        replace q11 := q11.stp sT hgl
        replace q14 := q14.stp sT hgl
        replace q19 := q19.stp sT hgl
        replace RB := RB.only sT (Nat.le_refl _) (by omega)
        replace BXe := BXe.only sT (Nat.le_refl _) (by omega)
        replace BXb := BXb.only sT (Nat.le_refl _) (by omega)
        replace BXi := BXi.only sT (Nat.le_refl _) (by omega)
        replace BXone := BXone.only sT (Nat.le_refl _) (by omega)
        replace BXless := BXless.only sT (Nat.le_refl _) (by omega)
        clear sT
        replace TK := TK.alloc (.cells #[.int .i64 (15), .int .i64 (0), .string ⟨#[]⟩, .slice (some ⟨(W9.heap.size + 5), 0, none⟩) 2 2] 29)
        have hBXmore : g < W18.heap.size := by omega
        have BXmore := Blk.new' W18 29 #[.int .i64 (15), .int .i64 (0), .string ⟨#[]⟩, .slice (some ⟨(W9.heap.size + 5), 0, none⟩) 2 2] W18.heap.size (by simp)
        generalize hYm : (World.alloc W18 (.cells #[.int .i64 (15), .int .i64 (0), .string ⟨#[]⟩, .slice (some ⟨(W9.heap.size + 5), 0, none⟩) 2 2] 29)) = Ym at *
        clear hYm
        have hls := BXless.lt
        have TB : Trk g B Ym Ym := Trk.start TK.cur
        have hgm : g < Ym.heap.size := Nat.lt_of_lt_of_le hgl TK.size
        have hwm := TK.size
        clear q2 q6 q10 q11
        go_upto_region 33 with (first | (go_at_call 29; refine (HD _ _ g B _ TB.cur).mono ?_; rintro e W20 hD; obtain ⟨k21, n21, t21, A21, m21, c21, rfl, q21, U, O⟩ := hD.out Ym.heap.size TB.size; clear hD; replace RB := RB.only O (Nat.le_refl _) (by omega); replace BXe := BXe.only O (Nat.le_refl _) (by omega); replace BXb := BXb.only O (Nat.le_refl _) (by omega); replace BXi := BXi.only O (Nat.le_refl _) (by omega); replace BXone := BXone.only O (Nat.le_refl _) (by omega); replace BXless := BXless.only O (Nat.le_refl _) (by omega); replace BXmore := BXmore.only O (Nat.le_refl _) (by omega); replace TB := TB.call U O; clear U O; have hgW := Nat.lt_of_lt_of_le hgm TB.size; have tok32_1 : True := trivial))
        have hqs := q21.sz
        obtain ⟨us, l1, hl1, hN, hR, ho1, hw9⟩ := q21.rw.vals
        have hms := TB.size
        have sT := stp_new g W20 (.cells #[.int .i64 k21, .int .i64 n21, .string t21, .slice A21 m21 c21] 29)
        replace q21 := q21.stp sT hgm
        replace RB := RB.only sT (Nat.le_refl _) (by omega)
        replace BXe := BXe.only sT (Nat.le_refl _) (by omega)
        replace BXb := BXb.only sT (Nat.le_refl _) (by omega)
        replace BXi := BXi.only sT (Nat.le_refl _) (by omega)
        replace BXone := BXone.only sT (Nat.le_refl _) (by omega)
        replace BXless := BXless.only sT (Nat.le_refl _) (by omega)
        replace BXmore := BXmore.only sT (Nat.le_refl _) (by omega)
        clear sT
        replace TB := TB.alloc (.cells #[.int .i64 k21, .int .i64 n21, .string t21, .slice A21 m21 c21] 29)
        have hBXin : g < W20.heap.size := by omega
        have BXin := Blk.new' W20 29 #[.int .i64 k21, .int .i64 n21, .string t21, .slice A21 m21 c21] W20.heap.size (by simp)
        have HBx : Below W20.heap.size W20 (World.alloc W20 (.cells #[.int .i64 k21, .int .i64 n21, .string t21, .slice A21 m21 c21] 29)) := (Below.refl _ _).alloc (Nat.le_refl _) _
        generalize hYb : (World.alloc W20 (.cells #[.int .i64 k21, .int .i64 n21, .string t21, .slice A21 m21 c21] 29)) = Yb at *
        have hwb : W20.heap.size < Yb.heap.size := BXin.lt
        clear hYb
        have TQ0 : Trk g B Yb Yb := Trk.start TB.cur
        have hyb := TB.size
        have hgY : g < Yb.heap.size := by omega
        have TQ := TQ0.drew
        replace HBx := HBx.drew
        obtain ⟨xm, hxm, hwx⟩ := q19.vals
        refine lateStart (S := (fun w_ => Trk g B Yb w_)) [8] (by kernel_rfl) ?_ (fun hHeld => ?_)
        · (try dsimp only)
          (exact TQ0.drew)
        generalize hYbd : World.drew Yb = Ybd at *
        have hm0 : NdS Ybd (fun q => w1.heap.size ≤ q ∧ q < Ym.heap.size) (FNode.flat [xm]) [.int .i64 (15), .int .i64 (0), .string ⟨#[]⟩, .slice (some ⟨(W9.heap.size + 5), 0, none⟩) 2 2] := by have hx := hxm.toS.keep (fun p hp => (TB.next TQ).only.cellB hp.2 (by have := hp.1; omega)) (TB.next TQ).size; simpa [FNode.flat] using hx
        have hwd2 := TQ.size
        have hm0s : Ym.heap.size ≤ Ybd.heap.size := by omega
        (refine lgt (i := 0) (v := ?_) rfl ?_ hHeld ?_; rotate_left; (focus (intro w_ hSw; (try dsimp only at hSw); have yb := hSw.blk BXmore (by omega); have ⟨ybl, ybf, yb0, yb1, yb2, yb3⟩ := yb.all; go_simp; (try with_reducible rfl); done)); try simp only [aS])
        (refine lgt (i := 4) (v := ?_) rfl ?_ hHeld ?_; rotate_left; (focus (intro w_ hSw; (try dsimp only at hSw); go_simp; (try with_reducible rfl); done)); try simp only [aS])
        (refine lgt (i := 5) (v := ?_) rfl ?_ hHeld ?_; rotate_left; (focus (intro w_ hSw; (try dsimp only at hSw); have yb := hSw.blk BXin (by omega); have ⟨ybl, ybf, yb0, yb1, yb2, yb3⟩ := yb.all; go_simp; (try with_reducible rfl); done)); try simp only [aS])
        refine lateOne (i := 1) (by kernel_rfl) ?_
        refine lateOp (i := 1) rfl (by rfl) (fun K hK => ?_)
        go_simp
        have hm1 := hm0.node (l := [xm]) (us := [.int .i64 (15), .int .i64 (0), .string ⟨#[]⟩, .slice (some ⟨(W9.heap.size + 5), 0, none⟩) 2 2]) (p := 1) (fun q hq => by have := hq.2; omega) rfl (by omega) 33 0 ⟨#[]⟩; replace TQ := TQ.alloc (.cells #[.int .i64 (15), .int .i64 (0), .string ⟨#[]⟩, .slice (some ⟨(W9.heap.size + 5), 0, none⟩) 2 2] 29); replace HBx := HBx.alloc HBx.size (.cells #[.int .i64 (15), .int .i64 (0), .string ⟨#[]⟩, .slice (some ⟨(W9.heap.size + 5), 0, none⟩) 2 2] 29); have hs1_ := TQ.size; have hS_ := TQ
        clear hHeld
        refine hK.out _ _ hS_ (fun hHeld => ?_)
        clear hK K hS_
        try simp only [aS]
        refine lateOne (i := 2) (by kernel_rfl) ?_
        refine lateOp (i := 2) rfl (by rfl) (fun K hK => ?_)
        go_simp
        go_at_call 27; refine (l15N_any _ _ _ _ _ _).mono ?_; rintro e W5 ⟨rfl, hb⟩; have hm2 := hm1.keep (fun p hp => hb.cell (Or.elim hp (fun h => Nat.lt_of_lt_of_le (Nat.lt_of_lt_of_le h.2 hm0s) (by simp)) (fun h => by rw [h]; simp))) hb.size; replace TQ := TQ.new hb; replace HBx := HBx.trans (hb.mono HBx.size); have hw5 : Ybd.heap.size < W5.heap.size := Nat.lt_of_lt_of_le (by simp) hb.size; clear hb; have hS_ := TQ
        clear hHeld
        refine hK.out _ _ hS_ (fun hHeld => ?_)
        clear hK K hS_
        try simp only [aS]
        refine lateOne (i := 3) (by kernel_rfl) ?_
        refine lateOp (i := 3) rfl (by rfl) (fun K hK => ?_)
        go_simp
        have G3 := GRs.lits (X := W5) (lo := w1.heap.size) (K1 := (((0) + (1 + 0)) + ((((0) + (1 + 0)) + ((0) + (0 + 0))) + (0 + 2))) + (0 + 2) + 1) (n := 1) (l := [FNode.mk 33 0 ⟨#[]⟩ [xm]]) (us := [.int .i64 33, .int .i64 0, .string ⟨#[]⟩, .slice (some ⟨Ybd.heap.size, 0, none⟩) 1 1]) (by simpa [FNode.flat] using hm2) (fun q hq => Or.elim hq (fun h => ⟨by have := h.1; omega, by have := h.2; omega⟩) (fun h => ⟨by omega, by omega⟩)) rfl (by omega) rfl (by simp only [FNode.wts, FNode.wt_eq, List.length_cons, List.length_nil]; have : (⟨#[]⟩ : ByteArray).size = 0 := rfl; omega) (by omega); replace TQ := TQ.alloc (.cells #[.int .i64 33, .int .i64 0, .string ⟨#[]⟩, .slice (some ⟨Ybd.heap.size, 0, none⟩) 1 1] 29); replace HBx := HBx.alloc HBx.size (.cells #[.int .i64 33, .int .i64 0, .string ⟨#[]⟩, .slice (some ⟨Ybd.heap.size, 0, none⟩) 1 1] 29); have hS_ := TQ
        clear hHeld
        refine hK.out _ _ hS_ (fun hHeld => ?_)
        clear hK K hS_
        try simp only [aS]
        refine lateOne (i := 6) (by kernel_rfl) ?_
        refine lateOp (i := 6) rfl (by rfl) (fun K hK => ?_)
        have hlit : (W5.alloc (.cells #[.int .i64 33, .int .i64 0, .string ⟨#[]⟩, .slice (some ⟨Ybd.heap.size, 0, none⟩) 1 1] 29)).heap.size = W5.heap.size + 1 := by simp
        refine wp_append_rd _ (.tmp 118) (.tmp 120) _ rfl w1.heap.size 29 _ 4 56 Try.underlying27 infoNodeC rfl (by decide) (.slice (some ⟨W5.heap.size, 0, none⟩) 1 1) 1 [.int .i64 33, .int .i64 0, .string ⟨#[]⟩, .slice (some ⟨Ybd.heap.size, 0, none⟩) 1 1] rfl (GRl.own ⟨_, G3⟩) W20.heap.size A21 m21 c21 us rfl (hR.below HBx (Nat.le_refl _)) ho1 (by unfold maxLen; omega) (by omega) (by omega) ?_
        intro v7 w7 own7 hg7 hat7
        have hob : (Value.slice (some ⟨W5.heap.size, 0, none⟩) 1 1).ownBlock = some W5.heap.size := rfl
        obtain ⟨A7, c7, rfl, G7⟩ := G3.cat hl1 (hN.keep (fun p hp => HBx.cell hp.2) HBx.size) (fun q hq => ⟨by have := hq.1; omega, by have := hq.2; omega⟩) (fun b hb hq => by rw [hob] at hb; injection hb with hb; have := hq.2; omega) hw9 own7 hg7 hat7
        replace TQ := TQ.grow hg7 (fun b hb => by rw [hob] at hb; injection hb with hb; omega) hgY
        have hS_ := TQ
        clear hHeld
        refine hK.out _ _ hS_ (fun hHeld => ?_)
        clear hK K hS_
        try simp only [aS]
        (refine lgt (i := 7) (v := ?_) rfl ?_ hHeld ?_; rotate_left; (focus (intro w_ hSw; (try dsimp only at hSw); go_simp; (try with_reducible rfl); done)); try simp only [aS])
        refine lateOne (i := 8) (by kernel_rfl) ?_
        refine lateLast (i := 8) rfl (by kernel_rfl) (by rfl) (fun K hK => ?_)
        have BXin7 := TQ.blk BXin (by omega); have RB7 := TQ.blk RB (by omega); have BXless7 := TQ.blk BXless (by omega); have o_l := BXin7.lt; have o_f := fun i => BXin7.frozen i; have o3 := BXin7.cell 3
        go_simp
        refine hK.out _ _ ?_
        clear hK K
        try simp only [aS]
        refine lateDone (by kernel_rfl) ?_ _
        have G8 := G7.keep (X' := w7.setCell ⟨W20.heap.size, 3, none⟩ (.slice A7 (1 + m21) c7)) (fun b hb => Below.heap_setCell _ _ _ _ (Or.elim hb (fun h => Or.elim h (fun h => Or.elim h (fun h => by have := h.2; show b ≠ W20.heap.size; omega) (fun h => by show b ≠ W20.heap.size; omega)) (fun h => by have := h.2; show b ≠ W20.heap.size; omega)) (fun hb => Or.elim hat7 (fun e => by rw [e, hob] at hb; injection hb with hb; show b ≠ W20.heap.size; omega) (fun e => by rw [e] at hb; injection hb with hb; show b ≠ W20.heap.size; omega)))) (by simp [World.setCell])
        have qin := (GRl.row ⟨_, G8⟩).mk (k21) (n21) t21 (KD + 1) (by omega)
        have TB8 := (TB.next TQ).set (p := ⟨W20.heap.size, 3, none⟩) hms hgm (.slice A7 (1 + m21) c7)
        replace q14 := q14.stp TB8.only hgl
        replace TK := TK.next TB8
        have BXin8 : Blk (w7.setCell ⟨W20.heap.size, 3, none⟩ (.slice A7 (1 + m21) c7)) W20.heap.size 29 #[.int .i64 k21, .int .i64 n21, .string t21, .slice A7 (1 + m21) c7] := by simpa using Blk.set_ BXin7 3 (.slice A7 (1 + m21) c7)
        have RB8 := Blk.far RB7 (p := ⟨W20.heap.size, 3, none⟩) (by show w.heap.size ≠ W20.heap.size; omega) (.slice A7 (1 + m21) c7)
        have BXless8 := Blk.far BXless7 (p := ⟨W20.heap.size, 3, none⟩) (by show (W9.heap.size + 3) ≠ W20.heap.size; omega) (.slice A7 (1 + m21) c7)
        generalize hZ : w7.setCell ⟨W20.heap.size, 3, none⟩ (.slice A7 (1 + m21) c7) = Z at *
        clear RB BXless BXin
        skip
        have ⟨BXless8l, BXless8f, BXless80, BXless81, BXless82, BXless83⟩ := BXless8.all
        have ⟨BXin8l, BXin8f, BXin80, BXin81, BXin82, BXin83⟩ := BXin8.all
        go_wp2_with (first | (go_at_call 27; have r20 := Rw.row2 Z.heap.size (by simp) TK.size q14 qin; have sT := stp_new g Z (.cells #[.int .i64 (10), .int .i64 (11), .string ⟨#[]⟩, .slice (some ⟨(W9.heap.size + 2), 0, none⟩) 2 2, .int .i64 k21, .int .i64 n21, .string t21, .slice A7 (1 + m21) c7] 29); replace q14 := q14.stp sT hgl; replace qin := qin.stp sT hgl; replace RB8 := RB8.only sT (Nat.le_refl _) (by omega); replace BXless8 := BXless8.only sT (Nat.le_refl _) (by omega); replace BXin8 := BXin8.only sT (Nat.le_refl _) (by omega); clear sT; replace TK := TK.alloc (.cells #[.int .i64 (10), .int .i64 (11), .string ⟨#[]⟩, .slice (some ⟨(W9.heap.size + 2), 0, none⟩) 2 2, .int .i64 k21, .int .i64 n21, .string t21, .slice A7 (1 + m21) c7] 29); have q22 := r20.mk (35) (0) (⟨#[]⟩) (0 + 2) (by decide); clear r20; refine (l15N_any _ _ _ _ _ _).mono ?_; rintro e W21 ⟨rfl, hb⟩; have sT := only_of_below (lo := g) (hi := g + 1) hb; replace q14 := q14.stp sT hgl; replace qin := qin.stp sT hgl; replace q22 := q22.stp sT hgl; replace RB8 := RB8.only sT (Nat.le_refl _) (by omega); replace BXless8 := BXless8.only sT (Nat.le_refl _) (by omega); replace BXin8 := BXin8.only sT (Nat.le_refl _) (by omega); clear sT; replace TK := TK.new hb; clear hb; have hgW := Nat.lt_of_lt_of_le hgl TK.size; have ⟨RB8l, RB8f, RB80, RB81, RB82, RB83⟩ := RB8.all; have tok34_1 : True := trivial))
        have RQ := fun x0 x1 x2 x3 => DrT.done (q22.le (show (((((0) + (1 + 0)) + ((0) + (0 + 0))) + (0 + 2)) + (((((0) + (1 + 0)) + ((((0) + (1 + 0)) + ((0) + (0 + 0))) + (0 + 2))) + (0 + 2) + 1 + KD) + (KD + 1))) + (0 + 2) ≤ KM + 2 * KD + 20000 from by omega)) TK k1 hgw hs1 x0 x1 x2 x3
        refine bodyPost_ret (v := .agg #[.int .i64 (35), .int .i64 (0), .string ⟨#[]⟩, .slice (some ⟨Z.heap.size, 0, none⟩) 2 2]) (by simp [results, Try.results47, go_sem, RB80, RB81, RB82, RB83, RB8l, RB8f]) rfl (RQ _ _ _ _)
      · go_upto_region 36 with fail
        have TQ0 : Trk g B W7 W7 := Trk.start TK.cur
        replace q2 := q2.stp (stp_drew g W7) hgl
        replace q6 := q6.stp (stp_drew g W7) hgl
        have hYs := TK.size
        have hgY := Nat.lt_of_lt_of_le hgl TK.size
        have TQ := TQ0.drew
        refine lateStart (S := (fun w_ => Trk g B W7 w_)) [12] (by kernel_rfl) ?_ (fun hHeld => ?_)
        · (try dsimp only)
          (exact TQ0.drew)
        generalize hW7d : World.drew W7 = W7d at *
        have hgW : g < W7d.heap.size := Nat.lt_of_lt_of_le hgY TQ.size
        (refine lgt (i := 0) (v := ?_) rfl ?_ hHeld ?_; rotate_left; (focus (intro w_ hSw; (try dsimp only at hSw); have yb := hSw.blk BXe (by omega); have ⟨ybl, ybf, yb0, yb1, yb2, yb3⟩ := yb.all; go_simp; (try with_reducible rfl); done)); try simp only [aS])
        (refine lgt (i := 1) (v := ?_) rfl ?_ hHeld ?_; rotate_left; (focus (intro w_ hSw; (try dsimp only at hSw); go_simp; (try with_reducible rfl); done)); try simp only [aS])
        (refine lgt (i := 3) (v := ?_) rfl ?_ hHeld ?_; rotate_left; (focus (intro w_ hSw; (try dsimp only at hSw); go_simp; (try with_reducible rfl); done)); try simp only [aS])
        (refine lgt (i := 5) (v := ?_) rfl ?_ hHeld ?_; rotate_left; (focus (intro w_ hSw; (try dsimp only at hSw); go_simp; (try with_reducible rfl); done)); try simp only [aS])
        (refine lgt (i := 6) (v := ?_) rfl ?_ hHeld ?_; rotate_left; (focus (intro w_ hSw; (try dsimp only at hSw); go_simp; (try with_reducible rfl); done)); try simp only [aS])
        (refine lgt (i := 7) (v := ?_) rfl ?_ hHeld ?_; rotate_left; (focus (intro w_ hSw; (try dsimp only at hSw); go_simp; (try with_reducible rfl); done)); try simp only [aS])
        (refine lgt (i := 8) (v := ?_) rfl ?_ hHeld ?_; rotate_left; (focus (intro w_ hSw; (try dsimp only at hSw); go_simp; (try with_reducible rfl); done)); try simp only [aS])
        refine lateOne (i := 2) (by kernel_rfl) ?_
        refine lateOp (i := 2) rfl (by rfl) (fun K hK => ?_)
        go_simp
        (go_at_call 76; refine (l15Var_any g B _ TQ.cur).mono ?_; rintro e W9 hD; obtain ⟨k10, n10, t10, A10, m10, c10, rfl, q10, U, O⟩ := hD.out w1.heap.size (Nat.le_trans hYs TQ.size); clear hD; replace q2 := q2.stp O hgl; replace q6 := q6.stp O hgl; replace TQ := TQ.call U O; clear U O; have hgW := Nat.lt_of_lt_of_le hgY TQ.size; have hS_ := TQ)
        clear hHeld
        refine hK.out _ _ hS_ (fun hHeld => ?_)
        clear hK K hS_
        try simp only [aS]
        refine lateOne (i := 4) (by kernel_rfl) ?_
        refine lateOp (i := 4) rfl (by rfl) (fun K hK => ?_)
        go_simp
        (go_at_call 76; refine (l15Var_any g B _ TQ.cur).mono ?_; rintro e W11 hD; obtain ⟨k12, n12, t12, A12, m12, c12, rfl, q12, U, O⟩ := hD.out w1.heap.size (Nat.le_trans hYs TQ.size); clear hD; replace q2 := q2.stp O hgl; replace q6 := q6.stp O hgl; replace q10 := q10.stp O hgl; replace TQ := TQ.call U O; clear U O; have hgW := Nat.lt_of_lt_of_le hgY TQ.size; have hS_ := TQ)
        clear hHeld
        refine hK.out _ _ hS_ (fun hHeld => ?_)
        clear hK K hS_
        try simp only [aS]
        refine lateOne (i := 9) (by kernel_rfl) ?_
        refine lateOp (i := 9) rfl (by rfl) (fun K hK => ?_)
        go_simp
        (go_at_call 29; refine (HDw _ _ g B _ TQ.cur).mono ?_; rintro e W13 hD; obtain ⟨k14, n14, t14, A14, m14, c14, rfl, q14, U, O⟩ := hD.out w1.heap.size (Nat.le_trans hYs TQ.size); clear hD; replace q2 := q2.stp O hgl; replace q6 := q6.stp O hgl; replace q10 := q10.stp O hgl; replace q12 := q12.stp O hgl; replace TQ := TQ.call U O; clear U O; have hgW := Nat.lt_of_lt_of_le hgY TQ.size; have hS_ := TQ)
        clear hHeld
        refine hK.out _ _ hS_ (fun hHeld => ?_)
        clear hK K hS_
        try simp only [aS]
        refine lateOne (i := 10) (by kernel_rfl) ?_
        refine lateOp (i := 10) rfl (by rfl) (fun K hK => ?_)
        go_simp
        (have r15 := Rw.row4 W13.heap.size (by simp) (Nat.le_trans hYs TQ.size) q2 q10 q12 q14; clear q10 q12 q14; have sT := stp_new g W13 (.cells #[.int .i64 k2, .int .i64 n2, .string t2, .slice A2 m2 c2, .int .i64 k10, .int .i64 n10, .string t10, .slice A10 m10 c10, .int .i64 k12, .int .i64 n12, .string t12, .slice A12 m12 c12, .int .i64 k14, .int .i64 n14, .string t14, .slice A14 m14 c14] 29); replace q2 := q2.stp sT hgl; replace q6 := q6.stp sT hgl; clear sT; replace TQ := TQ.alloc (.cells #[.int .i64 k2, .int .i64 n2, .string t2, .slice A2 m2 c2, .int .i64 k10, .int .i64 n10, .string t10, .slice A10 m10 c10, .int .i64 k12, .int .i64 n12, .string t12, .slice A12 m12 c12, .int .i64 k14, .int .i64 n14, .string t14, .slice A14 m14 c14] 29); have hS_ := TQ)
        clear hHeld
        refine hK.out _ _ hS_ (fun hHeld => ?_)
        clear hK K hS_
        try simp only [aS]
        refine lateOne (i := 11) (by kernel_rfl) ?_
        refine lateOp (i := 11) rfl (by rfl) (fun K hK => ?_)
        go_simp
        (go_at_call 27; have q17 := r15.mk (36) (0) (⟨#[]⟩) (0 + 4) (by decide); clear r15; refine (l15N_any _ _ _ _ _ _).mono ?_; rintro e W16 ⟨rfl, hb⟩; have sT := only_of_below (lo := g) (hi := g + 1) hb; replace q2 := q2.stp sT hgl; replace q6 := q6.stp sT hgl; replace q17 := q17.stp sT hgl; clear sT; replace TQ := TQ.new hb; clear hb; have hgW := Nat.lt_of_lt_of_le hgY TQ.size; have hS_ := TQ)
        clear hHeld
        refine hK.out _ _ hS_ (fun hHeld => ?_)
        clear hK K hS_
        try simp only [aS]
        refine lateOne (i := 12) (by kernel_rfl) ?_
        refine lateLast (i := 12) rfl (by kernel_rfl) (by rfl) (fun K hK => ?_)
        have RB := hHeld.blk RB (by omega); have ⟨RBl, RBf, RB0, RB1, RB2, RB3⟩ := RB.all
        go_simp
        refine hK.out _ _ ?_
        clear hK K
        try simp only [aS]
        refine lateDone (by kernel_rfl) ?_ _
        replace TK := TK.next hHeld
        (try go_wp2_with fail)
        have RQ := fun x0 x1 x2 x3 => DrT.done (q17.le (show ((KM) + (100) + (100) + (KD)) + (0 + 4) ≤ KM + 2 * KD + 20000 from by omega)) TK k1 hgw hs1 x0 x1 x2 x3
        refine bodyPost_ret (v := .agg #[.int .i64 (36), .int .i64 (0), .string ⟨#[]⟩, .slice (some ⟨W13.heap.size, 0, none⟩) 4 4]) (by simp [results, Try.results47, go_sem, RB0, RB1, RB2, RB3, RBl, RBf]) rfl (RQ _ _ _ _)
      · go_upto_region 39 with (first | (have _q := tok38_2; go_at_call 27; have r13 := Rw.row2 W11.heap.size (by simp) TK.size q10 q12; clear q10 q12; have sT := stp_new g W11 (.cells #[.int .i64 k10, .int .i64 n10, .string t10, .slice A10 m10 c10, .int .i64 k12, .int .i64 n12, .string t12, .slice A12 m12 c12] 29); replace q2 := q2.stp sT hgl; replace q6 := q6.stp sT hgl; replace RB := RB.only sT (Nat.le_refl _) (by omega); replace BXe := BXe.only sT (Nat.le_refl _) (by omega); replace BXb := BXb.only sT (Nat.le_refl _) (by omega); clear sT; replace TK := TK.alloc (.cells #[.int .i64 k10, .int .i64 n10, .string t10, .slice A10 m10 c10, .int .i64 k12, .int .i64 n12, .string t12, .slice A12 m12 c12] 29); have q15 := r13.mk (44) (0) (⟨#[69, 114, 114, 111, 114]⟩) (5 + 2) (by decide); clear r13; refine (l15N_any _ _ _ _ _ _).mono ?_; rintro e W14 ⟨rfl, hb⟩; have sT := only_of_below (lo := g) (hi := g + 1) hb; replace q2 := q2.stp sT hgl; replace q6 := q6.stp sT hgl; replace q15 := q15.stp sT hgl; replace RB := RB.only sT (Nat.le_refl _) (by omega); replace BXe := BXe.only sT (Nat.le_refl _) (by omega); replace BXb := BXb.only sT (Nat.le_refl _) (by omega); clear sT; replace TK := TK.new hb; clear hb; have hgW := Nat.lt_of_lt_of_le hgl TK.size; have tok38_3 : True := trivial) | (have _q := tok38_1; go_at_call 29; refine (HD _ _ g B _ TK.cur).mono ?_; rintro e W11 hD; obtain ⟨k12, n12, t12, A12, m12, c12, rfl, q12, U, O⟩ := hD.out w1.heap.size TK.size; clear hD; replace q2 := q2.stp O hgl; replace q6 := q6.stp O hgl; replace q10 := q10.stp O hgl; replace RB := RB.only O (Nat.le_refl _) (by omega); replace BXe := BXe.only O (Nat.le_refl _) (by omega); replace BXb := BXb.only O (Nat.le_refl _) (by omega); replace TK := TK.call U O; clear U O; have hgW := Nat.lt_of_lt_of_le hgl TK.size; have tok38_2 : True := trivial) | (go_at_call 76; refine (l15Var_any g B _ TK.cur).mono ?_; rintro e W9 hD; obtain ⟨k10, n10, t10, A10, m10, c10, rfl, q10, U, O⟩ := hD.out w1.heap.size TK.size; clear hD; replace q2 := q2.stp O hgl; replace q6 := q6.stp O hgl; replace RB := RB.only O (Nat.le_refl _) (by omega); replace BXe := BXe.only O (Nat.le_refl _) (by omega); replace BXb := BXb.only O (Nat.le_refl _) (by omega); replace TK := TK.call U O; clear U O; have hgW := Nat.lt_of_lt_of_le hgl TK.size; have tok38_1 : True := trivial))
        have sT := stp_new g W14 (.cells #[.int .i64 (44), .int .i64 (0), .string ⟨#[69, 114, 114, 111, 114]⟩, .slice (some ⟨W11.heap.size, 0, none⟩) 2 2] 29)
        replace q2 := q2.stp sT hgl
        replace q6 := q6.stp sT hgl
        replace q15 := q15.stp sT hgl
        replace RB := RB.only sT (Nat.le_refl _) (by omega)
        replace BXe := BXe.only sT (Nat.le_refl _) (by omega)
        replace BXb := BXb.only sT (Nat.le_refl _) (by omega)
        clear sT
        replace TK := TK.alloc (.cells #[.int .i64 (44), .int .i64 (0), .string ⟨#[69, 114, 114, 111, 114]⟩, .slice (some ⟨W11.heap.size, 0, none⟩) 2 2] 29)
        have hBXc : g < W14.heap.size := by omega
        have BXc := Blk.new' W14 29 #[.int .i64 (44), .int .i64 (0), .string ⟨#[69, 114, 114, 111, 114]⟩, .slice (some ⟨W11.heap.size, 0, none⟩) 2 2] W14.heap.size (by simp)
        have ⟨BXbl, BXbf, BXb0, BXb1, BXb2, BXb3⟩ := BXb.all
        have ⟨BXcl, BXcf, BXc0, BXc1, BXc2, BXc3⟩ := BXc.all
        go_wp2_with (first | (go_at_call 27; have r16 := Rw.row2 (W14.heap.size + 1) (by simp) TK.size q6 q15; have sT := stp_new g (World.alloc W14 (.cells #[.int .i64 (44), .int .i64 (0), .string ⟨#[69, 114, 114, 111, 114]⟩, .slice (some ⟨W11.heap.size, 0, none⟩) 2 2] 29)) (.cells #[.int .i64 k6, .int .i64 n6, .string t6, .slice A6 m6 c6, .int .i64 (44), .int .i64 (0), .string ⟨#[69, 114, 114, 111, 114]⟩, .slice (some ⟨W11.heap.size, 0, none⟩) 2 2] 29); replace q2 := q2.stp sT hgl; replace q6 := q6.stp sT hgl; replace q15 := q15.stp sT hgl; replace RB := RB.only sT (Nat.le_refl _) (by omega); replace BXe := BXe.only sT (Nat.le_refl _) (by omega); replace BXb := BXb.only sT (Nat.le_refl _) (by omega); replace BXc := BXc.only sT (Nat.le_refl _) (by omega); clear sT; replace TK := TK.alloc (.cells #[.int .i64 k6, .int .i64 n6, .string t6, .slice A6 m6 c6, .int .i64 (44), .int .i64 (0), .string ⟨#[69, 114, 114, 111, 114]⟩, .slice (some ⟨W11.heap.size, 0, none⟩) 2 2] 29); have q18 := r16.mk (43) (0) (⟨#[]⟩) (0 + 2) (by decide); clear r16; refine (l15N_any _ _ _ _ _ _).mono ?_; rintro e W17 ⟨rfl, hb⟩; have sT := only_of_below (lo := g) (hi := g + 1) hb; replace q2 := q2.stp sT hgl; replace q6 := q6.stp sT hgl; replace q15 := q15.stp sT hgl; replace q18 := q18.stp sT hgl; replace RB := RB.only sT (Nat.le_refl _) (by omega); replace BXe := BXe.only sT (Nat.le_refl _) (by omega); replace BXb := BXb.only sT (Nat.le_refl _) (by omega); replace BXc := BXc.only sT (Nat.le_refl _) (by omega); clear sT; replace TK := TK.new hb; clear hb; have hgW := Nat.lt_of_lt_of_le hgl TK.size; have ⟨RBl, RBf, RB0, RB1, RB2, RB3⟩ := RB.all; have tok39_1 : True := trivial))
        have RQ := fun x0 x1 x2 x3 => DrT.done (q18.le (show ((KD) + (((100) + (KD)) + (5 + 2))) + (0 + 2) ≤ KM + 2 * KD + 20000 from by omega)) TK k1 hgw hs1 x0 x1 x2 x3
        refine bodyPost_ret (v := .agg #[.int .i64 (43), .int .i64 (0), .string ⟨#[]⟩, .slice (some ⟨(W14.heap.size + 1), 0, none⟩) 2 2]) (by simp [results, Try.results47, go_sem, RB0, RB1, RB2, RB3, RBl, RBf]) rfl (RQ _ _ _ _)
      · go_upto_region 42 with (first | (have _q := tok41_1; go_at_call 27; have r11 := Rw.row1 W9.heap.size (by simp) TK.size q10; clear q10; have sT := stp_new g W9 (.cells #[.int .i64 k10, .int .i64 n10, .string t10, .slice A10 m10 c10] 29); replace q2 := q2.stp sT hgl; replace q6 := q6.stp sT hgl; replace RB := RB.only sT (Nat.le_refl _) (by omega); replace BXe := BXe.only sT (Nat.le_refl _) (by omega); replace BXb := BXb.only sT (Nat.le_refl _) (by omega); clear sT; replace TK := TK.alloc (.cells #[.int .i64 k10, .int .i64 n10, .string t10, .slice A10 m10 c10] 29); have q13 := r11.mk (45) (0) (⟨#[]⟩) (0 + 1) (by decide); clear r11; refine (l15N_any _ _ _ _ _ _).mono ?_; rintro e W12 ⟨rfl, hb⟩; have sT := only_of_below (lo := g) (hi := g + 1) hb; replace q2 := q2.stp sT hgl; replace q6 := q6.stp sT hgl; replace q13 := q13.stp sT hgl; replace RB := RB.only sT (Nat.le_refl _) (by omega); replace BXe := BXe.only sT (Nat.le_refl _) (by omega); replace BXb := BXb.only sT (Nat.le_refl _) (by omega); clear sT; replace TK := TK.new hb; clear hb; have hgW := Nat.lt_of_lt_of_le hgl TK.size; have tok41_2 : True := trivial) | (go_at_call 29; refine (HD _ _ g B _ TK.cur).mono ?_; rintro e W9 hD; obtain ⟨k10, n10, t10, A10, m10, c10, rfl, q10, U, O⟩ := hD.out w1.heap.size TK.size; clear hD; replace q2 := q2.stp O hgl; replace q6 := q6.stp O hgl; replace RB := RB.only O (Nat.le_refl _) (by omega); replace BXe := BXe.only O (Nat.le_refl _) (by omega); replace BXb := BXb.only O (Nat.le_refl _) (by omega); replace TK := TK.call U O; clear U O; have hgW := Nat.lt_of_lt_of_le hgl TK.size; have tok41_1 : True := trivial))
        have sT := stp_new g W12 (.cells #[.int .i64 (45), .int .i64 (0), .string ⟨#[]⟩, .slice (some ⟨W9.heap.size, 0, none⟩) 1 1] 29)
        replace q2 := q2.stp sT hgl
        replace q6 := q6.stp sT hgl
        replace q13 := q13.stp sT hgl
        replace RB := RB.only sT (Nat.le_refl _) (by omega)
        replace BXe := BXe.only sT (Nat.le_refl _) (by omega)
        replace BXb := BXb.only sT (Nat.le_refl _) (by omega)
        clear sT
        replace TK := TK.alloc (.cells #[.int .i64 (45), .int .i64 (0), .string ⟨#[]⟩, .slice (some ⟨W9.heap.size, 0, none⟩) 1 1] 29)
        have hBXf : g < W12.heap.size := by omega
        have BXf := Blk.new' W12 29 #[.int .i64 (45), .int .i64 (0), .string ⟨#[]⟩, .slice (some ⟨W9.heap.size, 0, none⟩) 1 1] W12.heap.size (by simp)
        have ⟨BXbl, BXbf, BXb0, BXb1, BXb2, BXb3⟩ := BXb.all
        have ⟨BXfl, BXff, BXf0, BXf1, BXf2, BXf3⟩ := BXf.all
        go_wp2_with (first | (go_at_call 27; have r14 := Rw.row2 (W12.heap.size + 1) (by simp) TK.size q6 q13; have sT := stp_new g (World.alloc W12 (.cells #[.int .i64 (45), .int .i64 (0), .string ⟨#[]⟩, .slice (some ⟨W9.heap.size, 0, none⟩) 1 1] 29)) (.cells #[.int .i64 k6, .int .i64 n6, .string t6, .slice A6 m6 c6, .int .i64 (45), .int .i64 (0), .string ⟨#[]⟩, .slice (some ⟨W9.heap.size, 0, none⟩) 1 1] 29); replace q2 := q2.stp sT hgl; replace q6 := q6.stp sT hgl; replace q13 := q13.stp sT hgl; replace RB := RB.only sT (Nat.le_refl _) (by omega); replace BXe := BXe.only sT (Nat.le_refl _) (by omega); replace BXb := BXb.only sT (Nat.le_refl _) (by omega); replace BXf := BXf.only sT (Nat.le_refl _) (by omega); clear sT; replace TK := TK.alloc (.cells #[.int .i64 k6, .int .i64 n6, .string t6, .slice A6 m6 c6, .int .i64 (45), .int .i64 (0), .string ⟨#[]⟩, .slice (some ⟨W9.heap.size, 0, none⟩) 1 1] 29); have q16 := r14.mk (43) (0) (⟨#[]⟩) (0 + 2) (by decide); clear r14; refine (l15N_any _ _ _ _ _ _).mono ?_; rintro e W15 ⟨rfl, hb⟩; have sT := only_of_below (lo := g) (hi := g + 1) hb; replace q2 := q2.stp sT hgl; replace q6 := q6.stp sT hgl; replace q13 := q13.stp sT hgl; replace q16 := q16.stp sT hgl; replace RB := RB.only sT (Nat.le_refl _) (by omega); replace BXe := BXe.only sT (Nat.le_refl _) (by omega); replace BXb := BXb.only sT (Nat.le_refl _) (by omega); replace BXf := BXf.only sT (Nat.le_refl _) (by omega); clear sT; replace TK := TK.new hb; clear hb; have hgW := Nat.lt_of_lt_of_le hgl TK.size; have ⟨RBl, RBf, RB0, RB1, RB2, RB3⟩ := RB.all; have tok42_1 : True := trivial))
        have RQ := fun x0 x1 x2 x3 => DrT.done (q16.le (show ((KD) + (((KD)) + (0 + 1))) + (0 + 2) ≤ KM + 2 * KD + 20000 from by omega)) TK k1 hgw hs1 x0 x1 x2 x3
        refine bodyPost_ret (v := .agg #[.int .i64 (43), .int .i64 (0), .string ⟨#[]⟩, .slice (some ⟨(W12.heap.size + 1), 0, none⟩) 2 2]) (by simp [results, Try.results47, go_sem, RB0, RB1, RB2, RB3, RBl, RBf]) rfl (RQ _ _ _ _)
      · have ⟨RBl, RBf, RB0, RB1, RB2, RB3⟩ := RB.all
        have ⟨BXbl, BXbf, BXb0, BXb1, BXb2, BXb3⟩ := BXb.all
        go_wp2_with fail
        have ⟨RBl, RBf, RB0, RB1, RB2, RB3⟩ := RB.all
        have RQ := fun x0 x1 x2 x3 => DrT.done (q6.le (show KD ≤ KM + 2 * KD + 20000 from by omega)) TK k1 hgw hs1 x0 x1 x2 x3
        refine bodyPost_ret (v := .agg #[.int .i64 k6, .int .i64 n6, .string t6, .slice A6 m6 c6]) (by simp [results, Try.results47, go_sem, RB0, RB1, RB2, RB3, RBl, RBf]) rfl (RQ _ _ _ _)
    · go_upto_if 28 with (first | (go_at_call 30; refine (l1Below_any g B 9 (by decide) (by decide) _ TK.cur).mono ?_; rintro e W5 ⟨⟨x6, hx6, rfl⟩, U, O⟩; replace q2 := q2.stp O hgl; replace RB := RB.only O (Nat.le_refl _) (by omega); replace BXe := BXe.only O (Nat.le_refl _) (by omega); replace TK := TK.call U O; clear U O; have hgW := Nat.lt_of_lt_of_le hgl TK.size; have tok3_1 : True := trivial))
      have H := (show x6 = 0 ∨ x6 = 1 ∨ x6 = 2 ∨ x6 = 3 ∨ x6 = 4 ∨ x6 = 5 ∨ x6 = 6 ∨ x6 = 7 ∨ x6 = 8 from by omega)
      rcases H with rfl | rfl | rfl | rfl | rfl | rfl | rfl | rfl | rfl
      · cases lp
        · have ⟨BXel, BXef, BXe0, BXe1, BXe2, BXe3⟩ := BXe.all
          go_wp2_with (first | (go_at_call 27; have r7 := Rw.row1 W5.heap.size (by simp) TK.size q2; have sT := stp_new g W5 (.cells #[.int .i64 k2, .int .i64 n2, .string t2, .slice A2 m2 c2] 29); replace q2 := q2.stp sT hgl; replace RB := RB.only sT (Nat.le_refl _) (by omega); replace BXe := BXe.only sT (Nat.le_refl _) (by omega); clear sT; replace TK := TK.alloc (.cells #[.int .i64 k2, .int .i64 n2, .string t2, .slice A2 m2 c2] 29); have q9 := r7.mk (32) (0) (⟨#[]⟩) (0 + 1) (by decide); clear r7; refine (l15N_any _ _ _ _ _ _).mono ?_; rintro e W8 ⟨rfl, hb⟩; have sT := only_of_below (lo := g) (hi := g + 1) hb; replace q2 := q2.stp sT hgl; replace q9 := q9.stp sT hgl; replace RB := RB.only sT (Nat.le_refl _) (by omega); replace BXe := BXe.only sT (Nat.le_refl _) (by omega); clear sT; replace TK := TK.new hb; clear hb; have hgW := Nat.lt_of_lt_of_le hgl TK.size; have ⟨RBl, RBf, RB0, RB1, RB2, RB3⟩ := RB.all; have tok22_1 : True := trivial))
          have RQ := fun x0 x1 x2 x3 => DrT.done (q9.le (show ((KM)) + (0 + 1) ≤ KM + 2 * KD + 20000 from by omega)) TK k1 hgw hs1 x0 x1 x2 x3
          refine bodyPost_ret (v := .agg #[.int .i64 (32), .int .i64 (0), .string ⟨#[]⟩, .slice (some ⟨W5.heap.size, 0, none⟩) 1 1]) (by simp [results, Try.results47, go_sem, RB0, RB1, RB2, RB3, RBl, RBf]) rfl (RQ _ _ _ _)
        · go_wp2_with (first | (have _q := tok6_1; go_at_call 27; have q10 := (Rw.no (X := W7) (lo := w1.heap.size)).mk ((37 + (x8 : Int))) (0) (⟨#[]⟩) (0 + 0) (by decide); refine (l15N_any _ _ _ _ _ _).mono ?_; rintro e W9 ⟨rfl, hb⟩; have sT := only_of_below (lo := g) (hi := g + 1) hb; replace q2 := q2.stp sT hgl; replace q10 := q10.stp sT hgl; replace RB := RB.only sT (Nat.le_refl _) (by omega); replace BXe := BXe.only sT (Nat.le_refl _) (by omega); clear sT; replace TK := TK.new hb; clear hb; have hgW := Nat.lt_of_lt_of_le hgl TK.size; have ⟨RBl, RBf, RB0, RB1, RB2, RB3⟩ := RB.all; have tok6_2 : True := trivial) | (go_at_call 30; refine (l1Below_any g B 2 (by decide) (by decide) _ TK.cur).mono ?_; rintro e W7 ⟨⟨x8, hx8, rfl⟩, U, O⟩; replace q2 := q2.stp O hgl; replace RB := RB.only O (Nat.le_refl _) (by omega); replace BXe := BXe.only O (Nat.le_refl _) (by omega); replace TK := TK.call U O; clear U O; have hgW := Nat.lt_of_lt_of_le hgl TK.size; have tok6_1 : True := trivial))
          have RQ := fun x0 x1 x2 x3 => DrT.done (q10.le (show (0) + (0 + 0) ≤ KM + 2 * KD + 20000 from by omega)) TK k1 hgw hs1 x0 x1 x2 x3
          refine bodyPost_ret (v := .agg #[.int .i64 ((37 + (x8 : Int))), .int .i64 (0), .string ⟨#[]⟩, .slice none 0 0]) (by simp [results, Try.results47, go_sem, RB0, RB1, RB2, RB3, RBl, RBf]) rfl (RQ _ _ _ _)
      · cases gn
        · have ⟨BXel, BXef, BXe0, BXe1, BXe2, BXe3⟩ := BXe.all
          go_wp2_with (first | (go_at_call 27; have r7 := Rw.row1 W5.heap.size (by simp) TK.size q2; have sT := stp_new g W5 (.cells #[.int .i64 k2, .int .i64 n2, .string t2, .slice A2 m2 c2] 29); replace q2 := q2.stp sT hgl; replace RB := RB.only sT (Nat.le_refl _) (by omega); replace BXe := BXe.only sT (Nat.le_refl _) (by omega); clear sT; replace TK := TK.alloc (.cells #[.int .i64 k2, .int .i64 n2, .string t2, .slice A2 m2 c2] 29); have q9 := r7.mk (32) (0) (⟨#[]⟩) (0 + 1) (by decide); clear r7; refine (l15N_any _ _ _ _ _ _).mono ?_; rintro e W8 ⟨rfl, hb⟩; have sT := only_of_below (lo := g) (hi := g + 1) hb; replace q2 := q2.stp sT hgl; replace q9 := q9.stp sT hgl; replace RB := RB.only sT (Nat.le_refl _) (by omega); replace BXe := BXe.only sT (Nat.le_refl _) (by omega); clear sT; replace TK := TK.new hb; clear hb; have hgW := Nat.lt_of_lt_of_le hgl TK.size; have ⟨RBl, RBf, RB0, RB1, RB2, RB3⟩ := RB.all; have tok22_1 : True := trivial))
          have RQ := fun x0 x1 x2 x3 => DrT.done (q9.le (show ((KM)) + (0 + 1) ≤ KM + 2 * KD + 20000 from by omega)) TK k1 hgw hs1 x0 x1 x2 x3
          refine bodyPost_ret (v := .agg #[.int .i64 (32), .int .i64 (0), .string ⟨#[]⟩, .slice (some ⟨W5.heap.size, 0, none⟩) 1 1]) (by simp [results, Try.results47, go_sem, RB0, RB1, RB2, RB3, RBl, RBf]) rfl (RQ _ _ _ _)
        · go_upto_region 9 with fail
          have TQ0 : Trk g B W5 W5 := Trk.start TK.cur
          replace q2 := q2.stp (stp_drew g W5) hgl
          have hYs := TK.size
          have hgY := Nat.lt_of_lt_of_le hgl TK.size
          have TQ := TQ0.drew
          refine lateStart (S := (fun w_ => Trk g B W5 w_)) [5] (by kernel_rfl) ?_ (fun hHeld => ?_)
          · (try dsimp only)
            (exact TQ0.drew)
          generalize hW5d : World.drew W5 = W5d at *
          have hgW : g < W5d.heap.size := Nat.lt_of_lt_of_le hgY TQ.size
          (refine lgt (i := 0) (v := ?_) rfl ?_ hHeld ?_; rotate_left; (focus (intro w_ hSw; (try dsimp only at hSw); go_simp; (try with_reducible rfl); done)); try simp only [aS])
          (refine lgt (i := 2) (v := ?_) rfl ?_ hHeld ?_; rotate_left; (focus (intro w_ hSw; (try dsimp only at hSw); have yb := hSw.blk BXe (by omega); have ⟨ybl, ybf, yb0, yb1, yb2, yb3⟩ := yb.all; go_simp; (try with_reducible rfl); done)); try simp only [aS])
          refine lateOne (i := 1) (by kernel_rfl) ?_
          refine lateOp (i := 1) rfl (by rfl) (fun K hK => ?_)
          go_simp
          (go_at_call 76; refine (l15Var_any g B _ TQ.cur).mono ?_; rintro e W7 hD; obtain ⟨k8, n8, t8, A8, m8, c8, rfl, q8, U, O⟩ := hD.out w1.heap.size (Nat.le_trans hYs TQ.size); clear hD; replace q2 := q2.stp O hgl; replace TQ := TQ.call U O; clear U O; have hgW := Nat.lt_of_lt_of_le hgY TQ.size; have hS_ := TQ)
          clear hHeld
          refine hK.out _ _ hS_ (fun hHeld => ?_)
          clear hK K hS_
          try simp only [aS]
          refine lateOne (i := 3) (by kernel_rfl) ?_
          refine lateOp (i := 3) rfl (by rfl) (fun K hK => ?_)
          go_simp
          (have r9 := Rw.row2 W7.heap.size (by simp) (Nat.le_trans hYs TQ.size) q8 q2; clear q8; have sT := stp_new g W7 (.cells #[.int .i64 k8, .int .i64 n8, .string t8, .slice A8 m8 c8, .int .i64 k2, .int .i64 n2, .string t2, .slice A2 m2 c2] 29); replace q2 := q2.stp sT hgl; clear sT; replace TQ := TQ.alloc (.cells #[.int .i64 k8, .int .i64 n8, .string t8, .slice A8 m8 c8, .int .i64 k2, .int .i64 n2, .string t2, .slice A2 m2 c2] 29); have hS_ := TQ)
          clear hHeld
          refine hK.out _ _ hS_ (fun hHeld => ?_)
          clear hK K hS_
          try simp only [aS]
          refine lateOne (i := 4) (by kernel_rfl) ?_
          refine lateOp (i := 4) rfl (by rfl) (fun K hK => ?_)
          go_simp
          (go_at_call 27; have q11 := r9.mk (46) (0) (⟨#[]⟩) (0 + 2) (by decide); clear r9; refine (l15N_any _ _ _ _ _ _).mono ?_; rintro e W10 ⟨rfl, hb⟩; have sT := only_of_below (lo := g) (hi := g + 1) hb; replace q2 := q2.stp sT hgl; replace q11 := q11.stp sT hgl; clear sT; replace TQ := TQ.new hb; clear hb; have hgW := Nat.lt_of_lt_of_le hgY TQ.size; have hS_ := TQ)
          clear hHeld
          refine hK.out _ _ hS_ (fun hHeld => ?_)
          clear hK K hS_
          try simp only [aS]
          refine lateOne (i := 5) (by kernel_rfl) ?_
          refine lateLast (i := 5) rfl (by kernel_rfl) (by rfl) (fun K hK => ?_)
          have RB := hHeld.blk RB (by omega); have ⟨RBl, RBf, RB0, RB1, RB2, RB3⟩ := RB.all
          go_simp
          refine hK.out _ _ ?_
          clear hK K
          try simp only [aS]
          refine lateDone (by kernel_rfl) ?_ _
          replace TK := TK.next hHeld
          (try go_wp2_with fail)
          have RQ := fun x0 x1 x2 x3 => DrT.done (q11.le (show ((100) + (KM)) + (0 + 2) ≤ KM + 2 * KD + 20000 from by omega)) TK k1 hgw hs1 x0 x1 x2 x3
          refine bodyPost_ret (v := .agg #[.int .i64 (46), .int .i64 (0), .string ⟨#[]⟩, .slice (some ⟨W7.heap.size, 0, none⟩) 2 2]) (by simp [results, Try.results47, go_sem, RB0, RB1, RB2, RB3, RBl, RBf]) rfl (RQ _ _ _ _)
      · have ⟨BXel, BXef, BXe0, BXe1, BXe2, BXe3⟩ := BXe.all
        go_wp2_with (first | (have _q := tok11_1; go_at_call 27; have r10 := Rw.row1 W8.heap.size (by simp) TK.size q9; clear q9; have sT := stp_new g W8 (.cells #[.int .i64 (22), .int .i64 (0), .string ⟨#[69, 114, 114, 111, 114]⟩, .slice (some ⟨W5.heap.size, 0, none⟩) 1 1] 29); replace q2 := q2.stp sT hgl; replace RB := RB.only sT (Nat.le_refl _) (by omega); replace BXe := BXe.only sT (Nat.le_refl _) (by omega); clear sT; replace TK := TK.alloc (.cells #[.int .i64 (22), .int .i64 (0), .string ⟨#[69, 114, 114, 111, 114]⟩, .slice (some ⟨W5.heap.size, 0, none⟩) 1 1] 29); have q12 := r10.mk (42) (0) (⟨#[]⟩) (0 + 1) (by decide); clear r10; refine (l15N_any _ _ _ _ _ _).mono ?_; rintro e W11 ⟨rfl, hb⟩; have sT := only_of_below (lo := g) (hi := g + 1) hb; replace q2 := q2.stp sT hgl; replace q12 := q12.stp sT hgl; replace RB := RB.only sT (Nat.le_refl _) (by omega); replace BXe := BXe.only sT (Nat.le_refl _) (by omega); clear sT; replace TK := TK.new hb; clear hb; have hgW := Nat.lt_of_lt_of_le hgl TK.size; have ⟨RBl, RBf, RB0, RB1, RB2, RB3⟩ := RB.all; have tok11_2 : True := trivial) | (go_at_call 27; have r7 := Rw.row1 W5.heap.size (by simp) TK.size q2; have sT := stp_new g W5 (.cells #[.int .i64 k2, .int .i64 n2, .string t2, .slice A2 m2 c2] 29); replace q2 := q2.stp sT hgl; replace RB := RB.only sT (Nat.le_refl _) (by omega); replace BXe := BXe.only sT (Nat.le_refl _) (by omega); clear sT; replace TK := TK.alloc (.cells #[.int .i64 k2, .int .i64 n2, .string t2, .slice A2 m2 c2] 29); have q9 := r7.mk (22) (0) (⟨#[69, 114, 114, 111, 114]⟩) (5 + 1) (by decide); clear r7; refine (l15N_any _ _ _ _ _ _).mono ?_; rintro e W8 ⟨rfl, hb⟩; have sT := only_of_below (lo := g) (hi := g + 1) hb; replace q2 := q2.stp sT hgl; replace q9 := q9.stp sT hgl; replace RB := RB.only sT (Nat.le_refl _) (by omega); replace BXe := BXe.only sT (Nat.le_refl _) (by omega); clear sT; replace TK := TK.new hb; clear hb; have hgW := Nat.lt_of_lt_of_le hgl TK.size; have tok11_1 : True := trivial))
        have RQ := fun x0 x1 x2 x3 => DrT.done (q12.le (show ((((KM)) + (5 + 1))) + (0 + 1) ≤ KM + 2 * KD + 20000 from by omega)) TK k1 hgw hs1 x0 x1 x2 x3
        refine bodyPost_ret (v := .agg #[.int .i64 (42), .int .i64 (0), .string ⟨#[]⟩, .slice (some ⟨W8.heap.size, 0, none⟩) 1 1]) (by simp [results, Try.results47, go_sem, RB0, RB1, RB2, RB3, RBl, RBf]) rfl (RQ _ _ _ _)
      · have ⟨BXel, BXef, BXe0, BXe1, BXe2, BXe3⟩ := BXe.all
        go_wp2_with (first | (go_at_call 27; have r7 := Rw.row1 W5.heap.size (by simp) TK.size q2; have sT := stp_new g W5 (.cells #[.int .i64 k2, .int .i64 n2, .string t2, .slice A2 m2 c2] 29); replace q2 := q2.stp sT hgl; replace RB := RB.only sT (Nat.le_refl _) (by omega); replace BXe := BXe.only sT (Nat.le_refl _) (by omega); clear sT; replace TK := TK.alloc (.cells #[.int .i64 k2, .int .i64 n2, .string t2, .slice A2 m2 c2] 29); have q9 := r7.mk (39) (0) (⟨#[]⟩) (0 + 1) (by decide); clear r7; refine (l15N_any _ _ _ _ _ _).mono ?_; rintro e W8 ⟨rfl, hb⟩; have sT := only_of_below (lo := g) (hi := g + 1) hb; replace q2 := q2.stp sT hgl; replace q9 := q9.stp sT hgl; replace RB := RB.only sT (Nat.le_refl _) (by omega); replace BXe := BXe.only sT (Nat.le_refl _) (by omega); clear sT; replace TK := TK.new hb; clear hb; have hgW := Nat.lt_of_lt_of_le hgl TK.size; have ⟨RBl, RBf, RB0, RB1, RB2, RB3⟩ := RB.all; have tok13_1 : True := trivial))
        have RQ := fun x0 x1 x2 x3 => DrT.done (q9.le (show ((KM)) + (0 + 1) ≤ KM + 2 * KD + 20000 from by omega)) TK k1 hgw hs1 x0 x1 x2 x3
        refine bodyPost_ret (v := .agg #[.int .i64 (39), .int .i64 (0), .string ⟨#[]⟩, .slice (some ⟨W5.heap.size, 0, none⟩) 1 1]) (by simp [results, Try.results47, go_sem, RB0, RB1, RB2, RB3, RBl, RBf]) rfl (RQ _ _ _ _)
      · go_wp2_with (first | (have _q := tok15_1; go_at_call 27; have r9 := Rw.row1 W7.heap.size (by simp) TK.size q8; clear q8; have sT := stp_new g W7 (.cells #[.int .i64 k8, .int .i64 n8, .string t8, .slice A8 m8 c8] 29); replace q2 := q2.stp sT hgl; replace RB := RB.only sT (Nat.le_refl _) (by omega); replace BXe := BXe.only sT (Nat.le_refl _) (by omega); clear sT; replace TK := TK.alloc (.cells #[.int .i64 k8, .int .i64 n8, .string t8, .slice A8 m8 c8] 29); have q11 := r9.mk (41) (0) (⟨#[]⟩) (0 + 1) (by decide); clear r9; refine (l15N_any _ _ _ _ _ _).mono ?_; rintro e W10 ⟨rfl, hb⟩; have sT := only_of_below (lo := g) (hi := g + 1) hb; replace q2 := q2.stp sT hgl; replace q11 := q11.stp sT hgl; replace RB := RB.only sT (Nat.le_refl _) (by omega); replace BXe := BXe.only sT (Nat.le_refl _) (by omega); clear sT; replace TK := TK.new hb; clear hb; have hgW := Nat.lt_of_lt_of_le hgl TK.size; have ⟨RBl, RBf, RB0, RB1, RB2, RB3⟩ := RB.all; have tok15_2 : True := trivial) | (go_at_call 77; refine (hA g B _ TK.cur).mono ?_; rintro e W7 hD; obtain ⟨k8, n8, t8, A8, m8, c8, rfl, q8, U, O⟩ := hD.out w1.heap.size TK.size; clear hD; replace q2 := q2.stp O hgl; replace RB := RB.only O (Nat.le_refl _) (by omega); replace BXe := BXe.only O (Nat.le_refl _) (by omega); replace TK := TK.call U O; clear U O; have hgW := Nat.lt_of_lt_of_le hgl TK.size; have tok15_1 : True := trivial))
        have RQ := fun x0 x1 x2 x3 => DrT.done (q11.le (show ((KM)) + (0 + 1) ≤ KM + 2 * KD + 20000 from by omega)) TK k1 hgw hs1 x0 x1 x2 x3
        refine bodyPost_ret (v := .agg #[.int .i64 (41), .int .i64 (0), .string ⟨#[]⟩, .slice (some ⟨W7.heap.size, 0, none⟩) 1 1]) (by simp [results, Try.results47, go_sem, RB0, RB1, RB2, RB3, RBl, RBf]) rfl (RQ _ _ _ _)
      · go_wp2_with (first | (go_at_call 27; have q8 := (Rw.no (X := W5) (lo := w1.heap.size)).mk (31) (0) (⟨#[60, 112, 62]⟩) (3 + 0) (by decide); refine (l15N_any _ _ _ _ _ _).mono ?_; rintro e W7 ⟨rfl, hb⟩; have sT := only_of_below (lo := g) (hi := g + 1) hb; replace q2 := q2.stp sT hgl; replace q8 := q8.stp sT hgl; replace RB := RB.only sT (Nat.le_refl _) (by omega); replace BXe := BXe.only sT (Nat.le_refl _) (by omega); clear sT; replace TK := TK.new hb; clear hb; have hgW := Nat.lt_of_lt_of_le hgl TK.size; have ⟨RBl, RBf, RB0, RB1, RB2, RB3⟩ := RB.all; have tok17_1 : True := trivial))
        have RQ := fun x0 x1 x2 x3 => DrT.done (q8.le (show (0) + (3 + 0) ≤ KM + 2 * KD + 20000 from by omega)) TK k1 hgw hs1 x0 x1 x2 x3
        refine bodyPost_ret (v := .agg #[.int .i64 (31), .int .i64 (0), .string ⟨#[60, 112, 62]⟩, .slice none 0 0]) (by simp [results, Try.results47, go_sem, RB0, RB1, RB2, RB3, RBl, RBf]) rfl (RQ _ _ _ _)
      · go_wp2_with (first | (go_at_call 27; have q8 := (Rw.no (X := W5) (lo := w1.heap.size)).mk (40) (0) (⟨#[97]⟩) (1 + 0) (by decide); refine (l15N_any _ _ _ _ _ _).mono ?_; rintro e W7 ⟨rfl, hb⟩; have sT := only_of_below (lo := g) (hi := g + 1) hb; replace q2 := q2.stp sT hgl; replace q8 := q8.stp sT hgl; replace RB := RB.only sT (Nat.le_refl _) (by omega); replace BXe := BXe.only sT (Nat.le_refl _) (by omega); clear sT; replace TK := TK.new hb; clear hb; have hgW := Nat.lt_of_lt_of_le hgl TK.size; have ⟨RBl, RBf, RB0, RB1, RB2, RB3⟩ := RB.all; have tok19_1 : True := trivial))
        have RQ := fun x0 x1 x2 x3 => DrT.done (q8.le (show (0) + (1 + 0) ≤ KM + 2 * KD + 20000 from by omega)) TK k1 hgw hs1 x0 x1 x2 x3
        refine bodyPost_ret (v := .agg #[.int .i64 (40), .int .i64 (0), .string ⟨#[97]⟩, .slice none 0 0]) (by simp [results, Try.results47, go_sem, RB0, RB1, RB2, RB3, RBl, RBf]) rfl (RQ _ _ _ _)
      · have ⟨BXel, BXef, BXe0, BXe1, BXe2, BXe3⟩ := BXe.all
        go_wp2_with (first | (go_at_call 27; have r7 := Rw.row1 W5.heap.size (by simp) TK.size q2; have sT := stp_new g W5 (.cells #[.int .i64 k2, .int .i64 n2, .string t2, .slice A2 m2 c2] 29); replace q2 := q2.stp sT hgl; replace RB := RB.only sT (Nat.le_refl _) (by omega); replace BXe := BXe.only sT (Nat.le_refl _) (by omega); clear sT; replace TK := TK.alloc (.cells #[.int .i64 k2, .int .i64 n2, .string t2, .slice A2 m2 c2] 29); have q9 := r7.mk (33) (0) (⟨#[]⟩) (0 + 1) (by decide); clear r7; refine (l15N_any _ _ _ _ _ _).mono ?_; rintro e W8 ⟨rfl, hb⟩; have sT := only_of_below (lo := g) (hi := g + 1) hb; replace q2 := q2.stp sT hgl; replace q9 := q9.stp sT hgl; replace RB := RB.only sT (Nat.le_refl _) (by omega); replace BXe := BXe.only sT (Nat.le_refl _) (by omega); clear sT; replace TK := TK.new hb; clear hb; have hgW := Nat.lt_of_lt_of_le hgl TK.size; have ⟨RBl, RBf, RB0, RB1, RB2, RB3⟩ := RB.all; have tok21_1 : True := trivial))
        have RQ := fun x0 x1 x2 x3 => DrT.done (q9.le (show ((KM)) + (0 + 1) ≤ KM + 2 * KD + 20000 from by omega)) TK k1 hgw hs1 x0 x1 x2 x3
        refine bodyPost_ret (v := .agg #[.int .i64 (33), .int .i64 (0), .string ⟨#[]⟩, .slice (some ⟨W5.heap.size, 0, none⟩) 1 1]) (by simp [results, Try.results47, go_sem, RB0, RB1, RB2, RB3, RBl, RBf]) rfl (RQ _ _ _ _)
      · have ⟨BXel, BXef, BXe0, BXe1, BXe2, BXe3⟩ := BXe.all
        go_wp2_with (first | (go_at_call 27; have r7 := Rw.row1 W5.heap.size (by simp) TK.size q2; have sT := stp_new g W5 (.cells #[.int .i64 k2, .int .i64 n2, .string t2, .slice A2 m2 c2] 29); replace q2 := q2.stp sT hgl; replace RB := RB.only sT (Nat.le_refl _) (by omega); replace BXe := BXe.only sT (Nat.le_refl _) (by omega); clear sT; replace TK := TK.alloc (.cells #[.int .i64 k2, .int .i64 n2, .string t2, .slice A2 m2 c2] 29); have q9 := r7.mk (32) (0) (⟨#[]⟩) (0 + 1) (by decide); clear r7; refine (l15N_any _ _ _ _ _ _).mono ?_; rintro e W8 ⟨rfl, hb⟩; have sT := only_of_below (lo := g) (hi := g + 1) hb; replace q2 := q2.stp sT hgl; replace q9 := q9.stp sT hgl; replace RB := RB.only sT (Nat.le_refl _) (by omega); replace BXe := BXe.only sT (Nat.le_refl _) (by omega); clear sT; replace TK := TK.new hb; clear hb; have hgW := Nat.lt_of_lt_of_le hgl TK.size; have ⟨RBl, RBf, RB0, RB1, RB2, RB3⟩ := RB.all; have tok22_1 : True := trivial))
        have RQ := fun x0 x1 x2 x3 => DrT.done (q9.le (show ((KM)) + (0 + 1) ≤ KM + 2 * KD + 20000 from by omega)) TK k1 hgw hs1 x0 x1 x2 x3
        refine bodyPost_ret (v := .agg #[.int .i64 (32), .int .i64 (0), .string ⟨#[]⟩, .slice (some ⟨W5.heap.size, 0, none⟩) 1 1]) (by simp [results, Try.results47, go_sem, RB0, RB1, RB2, RB3, RBl, RBf]) rfl (RQ _ _ _ _)
end Go.Proofs.Ytgejkfcemlkclaa
