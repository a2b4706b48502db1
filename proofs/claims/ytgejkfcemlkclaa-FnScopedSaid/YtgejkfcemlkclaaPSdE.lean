/-
  Parts of the proof: SdE. Conditions: none.
-/
import Derived.Test.YtgejkfcemlkclaaPGToUSdF
import Derived.Test.YtgejkfcemlkclaaPGRegRegL
set_option linter.unusedVariables false
set_option linter.unusedSimpArgs false
namespace Go.Proofs.Ytgejkfcemlkclaa
set_option maxHeartbeats 40000000
open Go.ChangeShapes Go.WideShapes Go.ChangeAt Go.RowKit Go.Deep Go.Joins
open Go.ChangeMaps (open_string shut_string)
set_option maxRecDepth 100000
theorem mk_of (deep : Int) (hd : -1000 ≤ deep) (hd2 : deep ≤ 1000) (K : Nat) (hM : 0 < deep → MkI (deep - 1) K) (hA : 0 < deep → ∀ (g B : Nat) (w : World), Cur w g B → Calls Try.prog 77 #[.pointer (some ⟨g, 0, none⟩), .int .i64 (deep - 1)] w (DrT g B (K + 1000) w)) : MkI deep (4 * K + 8000) := by
  intro g B w hc
  have hgw := hc.lt
  have k1 := (Below.refl w.heap.size w).alloc (Nat.le_refl _) (.cells #[.int .i64 0, .int .i64 0, .string ⟨#[]⟩, .slice none 0 0] 29)
  have TK := Trk.start (hc.alloc (.cells #[.int .i64 0, .int .i64 0, .string ⟨#[]⟩, .slice none 0 0] 29))
  have RB := Blk.new w 29 #[.int .i64 0, .int .i64 0, .string ⟨#[]⟩, .slice none 0 0]
  clear hc
  go_enter Try.func75, Try.ntmps75
  go_upto_region 1 with fail
  generalize hw1 : w.alloc (.cells #[.int .i64 0, .int .i64 0, .string ⟨#[]⟩, .slice none 0 0] 29) = w1 at *
  have hs1 : w.heap.size < w1.heap.size := RB.lt
  have hgl : g < w1.heap.size := by omega
  by_cases hd0 : deep ≤ 0
  · have hb0 : decide (deep ≤ 0) = true := by simp [hd0]
    clear hM hA
    go_upto_if 18 with (first | (go_at_call 30; refine (l1Below_any g B 6 (by decide) (by decide) _ TK.cur).mono ?_; rintro e W1 ⟨⟨x2, hx2, rfl⟩, U, O⟩; replace RB := RB.only O (Nat.le_refl _) (by omega); replace TK := TK.call U O; clear U O; have hgW := Nat.lt_of_lt_of_le hgl TK.size; have tok2_1 : True := trivial))
    have H := (show x2 = 0 ∨ x2 = 1 ∨ x2 = 2 ∨ x2 = 3 ∨ x2 = 4 ∨ x2 = 5 from by omega)
    rcases H with rfl | rfl | rfl | rfl | rfl | rfl
    · go_wp2_with (first | (go_at_call 28; have sT := stp_new g W1 (.cells #[.string ⟨#[]⟩, .string ⟨#[120]⟩, .string ⟨#[55]⟩, .string ⟨#[105, 116, 39, 115]⟩, .string ⟨#[97, 47, 98]⟩] 9); replace RB := RB.only sT (Nat.le_refl _) (by omega); clear sT; replace TK := TK.alloc (.cells #[.string ⟨#[]⟩, .string ⟨#[120]⟩, .string ⟨#[55]⟩, .string ⟨#[105, 116, 39, 115]⟩, .string ⟨#[97, 47, 98]⟩] 9); have bk3 := Blk.new' W1 9 #[.string ⟨#[]⟩, .string ⟨#[120]⟩, .string ⟨#[55]⟩, .string ⟨#[105, 116, 39, 115]⟩, .string ⟨#[97, 47, 98]⟩] W1.heap.size (by simp); refine (l1StrK g B 5 100 W1.heap.size _ _ _ (by decide) (by decide) (by kernel_rfl) TK.cur bk3 (by omega)).mono ?_; rintro e W4 ⟨⟨s5, hs5, rfl⟩, U, O⟩; replace bk3 := bk3.only O (Nat.le_refl _) (by omega); replace RB := RB.only O (Nat.le_refl _) (by omega); replace TK := TK.call U O; clear U O; have hgW := Nat.lt_of_lt_of_le hgl TK.size; have ⟨RBl, RBf, RB0, RB1, RB2, RB3⟩ := RB.all; have tok4_1 : True := trivial))
      have q6 := (Rw.no (X := W4) (lo := w1.heap.size)).mk (2) (0) (s5) (100 + 0) (by omega)
      have RQ := fun x0 x1 x2 x3 => DrT.done (q6.le (show (0) + (100 + 0) ≤ 4 * K + 8000 from by omega)) TK k1 hgw hs1 x0 x1 x2 x3
      refine bodyPost_ret (v := .agg #[.int .i64 (2), .int .i64 (0), .string s5, .slice none 0 0]) (by simp [results, Try.results75, go_sem, RB0, RB1, RB2, RB3, RBl, RBf]) rfl (RQ _ _ _ _)
    · go_wp2_with (first | (go_at_call 30; refine (l1Below_any g B 3 (by decide) (by decide) _ TK.cur).mono ?_; rintro e W3 ⟨⟨x4, hx4, rfl⟩, U, O⟩; replace RB := RB.only O (Nat.le_refl _) (by omega); replace TK := TK.call U O; clear U O; have hgW := Nat.lt_of_lt_of_le hgl TK.size; have ⟨RBl, RBf, RB0, RB1, RB2, RB3⟩ := RB.all; have tok6_1 : True := trivial))
      have q5 := (Rw.no (X := W3) (lo := w1.heap.size)).mk (3) ((x4 : Int)) (⟨#[]⟩) (0 + 0) (by decide)
      have RQ := fun x0 x1 x2 x3 => DrT.done (q5.le (show (0) + (0 + 0) ≤ 4 * K + 8000 from by omega)) TK k1 hgw hs1 x0 x1 x2 x3
      refine bodyPost_ret (v := .agg #[.int .i64 (3), .int .i64 ((x4 : Int)), .string ⟨#[]⟩, .slice none 0 0]) (by simp [results, Try.results75, go_sem, RB0, RB1, RB2, RB3, RBl, RBf]) rfl (RQ _ _ _ _)
    · go_wp2_with (first | (go_at_call 76; refine (l15Var_any g B _ TK.cur).mono ?_; rintro e W3 hD; obtain ⟨k4, n4, t4, A4, m4, c4, rfl, q4, U, O⟩ := hD.out w1.heap.size TK.size; clear hD; replace RB := RB.only O (Nat.le_refl _) (by omega); replace TK := TK.call U O; clear U O; have hgW := Nat.lt_of_lt_of_le hgl TK.size; have ⟨RBl, RBf, RB0, RB1, RB2, RB3⟩ := RB.all; have tok9_1 : True := trivial))
      have RQ := fun x0 x1 x2 x3 => DrT.done (q4.le (show 100 ≤ 4 * K + 8000 from by omega)) TK k1 hgw hs1 x0 x1 x2 x3
      refine bodyPost_ret (v := .agg #[.int .i64 k4, .int .i64 n4, .string t4, .slice A4 m4 c4]) (by simp [results, Try.results75, go_sem, RB0, RB1, RB2, RB3, RBl, RBf]) rfl (RQ _ _ _ _)
    · go_wp2_with (first | (go_at_call 76; refine (l15Var_any g B _ TK.cur).mono ?_; rintro e W3 hD; obtain ⟨k4, n4, t4, A4, m4, c4, rfl, q4, U, O⟩ := hD.out w1.heap.size TK.size; clear hD; replace RB := RB.only O (Nat.le_refl _) (by omega); replace TK := TK.call U O; clear U O; have hgW := Nat.lt_of_lt_of_le hgl TK.size; have ⟨RBl, RBf, RB0, RB1, RB2, RB3⟩ := RB.all; have tok9_1 : True := trivial))
      have RQ := fun x0 x1 x2 x3 => DrT.done (q4.le (show 100 ≤ 4 * K + 8000 from by omega)) TK k1 hgw hs1 x0 x1 x2 x3
      refine bodyPost_ret (v := .agg #[.int .i64 k4, .int .i64 n4, .string t4, .slice A4 m4 c4]) (by simp [results, Try.results75, go_sem, RB0, RB1, RB2, RB3, RBl, RBf]) rfl (RQ _ _ _ _)
    · go_wp2_with (first | (go_at_call 87; have sT := stp_new g W1 (.cells #[.int .i64 0, .int .i64 1, .int .i64 2, .int .i64 3, .int .i64 5, .int .i64 10, .int .i64 1000000000] 3); replace RB := RB.only sT (Nat.le_refl _) (by omega); clear sT; replace TK := TK.alloc (.cells #[.int .i64 0, .int .i64 1, .int .i64 2, .int .i64 3, .int .i64 5, .int .i64 10, .int .i64 1000000000] 3); have bk3 := Blk.new' W1 3 #[.int .i64 0, .int .i64 1, .int .i64 2, .int .i64 3, .int .i64 5, .int .i64 10, .int .i64 1000000000] W1.heap.size (by simp); refine (l1IntK g B 7 W1.heap.size (0) (1000000000) _ _ _ (by decide) (by decide) (by kernel_rfl) TK.cur bk3 (by omega)).mono ?_; rintro e W4 ⟨⟨z5, hlz5, hhz5, rfl⟩, U, O⟩; replace bk3 := bk3.only O (Nat.le_refl _) (by omega); replace RB := RB.only O (Nat.le_refl _) (by omega); replace TK := TK.call U O; clear U O; have hgW := Nat.lt_of_lt_of_le hgl TK.size; have ⟨RBl, RBf, RB0, RB1, RB2, RB3⟩ := RB.all; have tok10_1 : True := trivial))
      have q6 := (Rw.no (X := W4) (lo := w1.heap.size)).mk (1) (z5) (⟨#[]⟩) (0 + 0) (by decide)
      have RQ := fun x0 x1 x2 x3 => DrT.done (q6.le (show (0) + (0 + 0) ≤ 4 * K + 8000 from by omega)) TK k1 hgw hs1 x0 x1 x2 x3
      refine bodyPost_ret (v := .agg #[.int .i64 (1), .int .i64 (z5), .string ⟨#[]⟩, .slice none 0 0]) (by simp [results, Try.results75, go_sem, RB0, RB1, RB2, RB3, RBl, RBf]) rfl (RQ _ _ _ _)
    · go_wp2_with (first | (go_at_call 87; have sT := stp_new g W1 (.cells #[.int .i64 0, .int .i64 1, .int .i64 2, .int .i64 3, .int .i64 5, .int .i64 10, .int .i64 1000000000] 3); replace RB := RB.only sT (Nat.le_refl _) (by omega); clear sT; replace TK := TK.alloc (.cells #[.int .i64 0, .int .i64 1, .int .i64 2, .int .i64 3, .int .i64 5, .int .i64 10, .int .i64 1000000000] 3); have bk3 := Blk.new' W1 3 #[.int .i64 0, .int .i64 1, .int .i64 2, .int .i64 3, .int .i64 5, .int .i64 10, .int .i64 1000000000] W1.heap.size (by simp); refine (l1IntK g B 7 W1.heap.size (0) (1000000000) _ _ _ (by decide) (by decide) (by kernel_rfl) TK.cur bk3 (by omega)).mono ?_; rintro e W4 ⟨⟨z5, hlz5, hhz5, rfl⟩, U, O⟩; replace bk3 := bk3.only O (Nat.le_refl _) (by omega); replace RB := RB.only O (Nat.le_refl _) (by omega); replace TK := TK.call U O; clear U O; have hgW := Nat.lt_of_lt_of_le hgl TK.size; have ⟨RBl, RBf, RB0, RB1, RB2, RB3⟩ := RB.all; have tok10_1 : True := trivial))
      have q6 := (Rw.no (X := W4) (lo := w1.heap.size)).mk (1) (z5) (⟨#[]⟩) (0 + 0) (by decide)
      have RQ := fun x0 x1 x2 x3 => DrT.done (q6.le (show (0) + (0 + 0) ≤ 4 * K + 8000 from by omega)) TK k1 hgw hs1 x0 x1 x2 x3
      refine bodyPost_ret (v := .agg #[.int .i64 (1), .int .i64 (z5), .string ⟨#[]⟩, .slice none 0 0]) (by simp [results, Try.results75, go_sem, RB0, RB1, RB2, RB3, RBl, RBf]) rfl (RQ _ _ _ _)
  · have hb0 : decide (deep ≤ 0) = false := by simp [hd0]
    have HM := hM (by omega)
    have HA := hA (by omega)
    clear hM hA
    go_upto_if 15 with (first | (go_at_call 45; refine (l1Once_any g B 3 (by decide) (by decide) _ TK.cur).mono ?_; rintro e W1 ⟨⟨x2, rfl⟩, U, O⟩; replace RB := RB.only O (Nat.le_refl _) (by omega); replace TK := TK.call U O; clear U O; have hgW := Nat.lt_of_lt_of_le hgl TK.size; have tok1_1 : True := trivial))
    cases x2
    · go_upto_region 12 with (first | (go_at_call 75; refine (HM g B _ TK.cur).mono ?_; rintro e W3 hD; obtain ⟨k4, n4, t4, A4, m4, c4, rfl, q4, U, O⟩ := hD.out w1.heap.size TK.size; clear hD; replace RB := RB.only O (Nat.le_refl _) (by omega); replace TK := TK.call U O; clear U O; have hgW := Nat.lt_of_lt_of_le hgl TK.size; have tok11_1 : True := trivial))
      have sT := stp_new g W3 (.cells #[.int .i64 k4, .int .i64 n4, .string t4, .slice A4 m4 c4] 29)
      replace q4 := q4.stp sT hgl
      replace RB := RB.only sT (Nat.le_refl _) (by omega)
      clear sT
      replace TK := TK.alloc (.cells #[.int .i64 k4, .int .i64 n4, .string t4, .slice A4 m4 c4] 29)
      have hBXa : g < W3.heap.size := by omega
      have BXa := Blk.new' W3 29 #[.int .i64 k4, .int .i64 n4, .string t4, .slice A4 m4 c4] W3.heap.size (by simp)
      go_upto_region 13 with (first | (go_at_call 75; refine (HM g B _ TK.cur).mono ?_; rintro e W5 hD; obtain ⟨k6, n6, t6, A6, m6, c6, rfl, q6, U, O⟩ := hD.out w1.heap.size TK.size; clear hD; replace q4 := q4.stp O hgl; replace RB := RB.only O (Nat.le_refl _) (by omega); replace BXa := BXa.only O (Nat.le_refl _) (by omega); replace TK := TK.call U O; clear U O; have hgW := Nat.lt_of_lt_of_le hgl TK.size; have tok12_1 : True := trivial))
      have sT := stp_new g W5 (.cells #[.int .i64 k6, .int .i64 n6, .string t6, .slice A6 m6 c6] 29)
      replace q4 := q4.stp sT hgl
      replace q6 := q6.stp sT hgl
      replace RB := RB.only sT (Nat.le_refl _) (by omega)
      replace BXa := BXa.only sT (Nat.le_refl _) (by omega)
      clear sT
      replace TK := TK.alloc (.cells #[.int .i64 k6, .int .i64 n6, .string t6, .slice A6 m6 c6] 29)
      have hBXb : g < W5.heap.size := by omega
      have BXb := Blk.new' W5 29 #[.int .i64 k6, .int .i64 n6, .string t6, .slice A6 m6 c6] W5.heap.size (by simp)
      go_upto_region 14 with (first | (go_at_call 77; refine (HA g B _ TK.cur).mono ?_; rintro e W7 hD; obtain ⟨k8, n8, t8, A8, m8, c8, rfl, q8, U, O⟩ := hD.out w1.heap.size TK.size; clear hD; replace q4 := q4.stp O hgl; replace q6 := q6.stp O hgl; replace RB := RB.only O (Nat.le_refl _) (by omega); replace BXa := BXa.only O (Nat.le_refl _) (by omega); replace BXb := BXb.only O (Nat.le_refl _) (by omega); replace TK := TK.call U O; clear U O; have hgW := Nat.lt_of_lt_of_le hgl TK.size; have tok13_1 : True := trivial))
      have sT := stp_new g W7 (.cells #[.int .i64 k8, .int .i64 n8, .string t8, .slice A8 m8 c8] 29)
      replace q4 := q4.stp sT hgl
      replace q6 := q6.stp sT hgl
      replace q8 := q8.stp sT hgl
      replace RB := RB.only sT (Nat.le_refl _) (by omega)
      replace BXa := BXa.only sT (Nat.le_refl _) (by omega)
      replace BXb := BXb.only sT (Nat.le_refl _) (by omega)
      clear sT
      replace TK := TK.alloc (.cells #[.int .i64 k8, .int .i64 n8, .string t8, .slice A8 m8 c8] 29)
      have hBXt : g < W7.heap.size := by omega
      have BXt := Blk.new' W7 29 #[.int .i64 k8, .int .i64 n8, .string t8, .slice A8 m8 c8] W7.heap.size (by simp)
      have ⟨BXal, BXaf, BXa0, BXa1, BXa2, BXa3⟩ := BXa.all
      have ⟨BXbl, BXbf, BXb0, BXb1, BXb2, BXb3⟩ := BXb.all
      go_upto_region 15 with fail
      have r9 := Rw.row2 (W7.heap.size + 1) (by simp) TK.size q4 q6
      have sT := stp_new g (World.alloc W7 (.cells #[.int .i64 k8, .int .i64 n8, .string t8, .slice A8 m8 c8] 29)) (.cells #[.int .i64 k4, .int .i64 n4, .string t4, .slice A4 m4 c4, .int .i64 k6, .int .i64 n6, .string t6, .slice A6 m6 c6] 29)
      replace q4 := q4.stp sT hgl
      replace q6 := q6.stp sT hgl
      replace q8 := q8.stp sT hgl
      replace RB := RB.only sT (Nat.le_refl _) (by omega)
      replace BXa := BXa.only sT (Nat.le_refl _) (by omega)
      replace BXb := BXb.only sT (Nat.le_refl _) (by omega)
      replace BXt := BXt.only sT (Nat.le_refl _) (by omega)
      clear sT
      replace TK := TK.alloc (.cells #[.int .i64 k4, .int .i64 n4, .string t4, .slice A4 m4 c4, .int .i64 k6, .int .i64 n6, .string t6, .slice A6 m6 c6] 29)
      go_upto_if 55 with (first | (go_at_call 30; refine (l1Below_any g B 20 (by decide) (by decide) _ TK.cur).mono ?_; rintro e W10 ⟨⟨x11, hx11, rfl⟩, U, O⟩; replace q4 := q4.stp O hgl; replace q6 := q6.stp O hgl; replace q8 := q8.stp O hgl; replace r9 := r9.stp O hgl; replace RB := RB.only O (Nat.le_refl _) (by omega); replace BXa := BXa.only O (Nat.le_refl _) (by omega); replace BXb := BXb.only O (Nat.le_refl _) (by omega); replace BXt := BXt.only O (Nat.le_refl _) (by omega); replace TK := TK.call U O; clear U O; have hgW := Nat.lt_of_lt_of_le hgl TK.size; have tok15_1 : True := trivial))
      have H := (show x11 = 0 ∨ x11 = 1 ∨ x11 = 2 ∨ x11 = 3 ∨ x11 = 4 ∨ x11 = 5 ∨ x11 = 6 ∨ x11 = 7 ∨ x11 = 8 ∨ x11 = 9 ∨ x11 = 10 ∨ x11 = 11 ∨ x11 = 12 ∨ x11 = 13 ∨ x11 = 14 ∨ x11 = 15 ∨ x11 = 16 ∨ x11 = 17 ∨ x11 = 18 ∨ x11 = 19 from by omega)
      rcases H with rfl | rfl | rfl | rfl | rfl | rfl | rfl | rfl | rfl | rfl | rfl | rfl | rfl | rfl | rfl | rfl | rfl | rfl | rfl | rfl
      · have ⟨BXal, BXaf, BXa0, BXa1, BXa2, BXa3⟩ := BXa.all
        go_wp2_with (first | (have _q := tok17_2; go_at_call 27; have r17 := Rw.row2 W15.heap.size (by simp) TK.size q14 q16; clear q14 q16; have sT := stp_new g W15 (.cells #[.int .i64 (6), .int .i64 (0), .string ⟨#[]⟩, .slice (some ⟨W10.heap.size, 0, none⟩) 1 1, .int .i64 (6), .int .i64 (0), .string ⟨#[]⟩, .slice (some ⟨(W7.heap.size + 1), 0, none⟩) 2 2] 29); replace q4 := q4.stp sT hgl; replace q6 := q6.stp sT hgl; replace q8 := q8.stp sT hgl; replace RB := RB.only sT (Nat.le_refl _) (by omega); replace BXa := BXa.only sT (Nat.le_refl _) (by omega); replace BXb := BXb.only sT (Nat.le_refl _) (by omega); replace BXt := BXt.only sT (Nat.le_refl _) (by omega); clear sT; replace TK := TK.alloc (.cells #[.int .i64 (6), .int .i64 (0), .string ⟨#[]⟩, .slice (some ⟨W10.heap.size, 0, none⟩) 1 1, .int .i64 (6), .int .i64 (0), .string ⟨#[]⟩, .slice (some ⟨(W7.heap.size + 1), 0, none⟩) 2 2] 29); have q19 := r17.mk (5) (0) (⟨#[]⟩) (0 + 2) (by decide); clear r17; refine (l15N_any _ _ _ _ _ _).mono ?_; rintro e W18 ⟨rfl, hb⟩; have sT := only_of_below (lo := g) (hi := g + 1) hb; replace q4 := q4.stp sT hgl; replace q6 := q6.stp sT hgl; replace q8 := q8.stp sT hgl; replace q19 := q19.stp sT hgl; replace RB := RB.only sT (Nat.le_refl _) (by omega); replace BXa := BXa.only sT (Nat.le_refl _) (by omega); replace BXb := BXb.only sT (Nat.le_refl _) (by omega); replace BXt := BXt.only sT (Nat.le_refl _) (by omega); clear sT; replace TK := TK.new hb; clear hb; have hgW := Nat.lt_of_lt_of_le hgl TK.size; have ⟨RBl, RBf, RB0, RB1, RB2, RB3⟩ := RB.all; have tok17_3 : True := trivial) | (have _q := tok17_1; go_at_call 27; have q16 := r9.mk (6) (0) (⟨#[]⟩) (0 + 2) (by decide); clear r9; refine (l15N_any _ _ _ _ _ _).mono ?_; rintro e W15 ⟨rfl, hb⟩; have sT := only_of_below (lo := g) (hi := g + 1) hb; replace q4 := q4.stp sT hgl; replace q6 := q6.stp sT hgl; replace q8 := q8.stp sT hgl; replace q14 := q14.stp sT hgl; replace q16 := q16.stp sT hgl; replace RB := RB.only sT (Nat.le_refl _) (by omega); replace BXa := BXa.only sT (Nat.le_refl _) (by omega); replace BXb := BXb.only sT (Nat.le_refl _) (by omega); replace BXt := BXt.only sT (Nat.le_refl _) (by omega); clear sT; replace TK := TK.new hb; clear hb; have hgW := Nat.lt_of_lt_of_le hgl TK.size; have tok17_2 : True := trivial) | (go_at_call 27; have r12 := Rw.row1 W10.heap.size (by simp) TK.size q4; have sT := stp_new g W10 (.cells #[.int .i64 k4, .int .i64 n4, .string t4, .slice A4 m4 c4] 29); replace q4 := q4.stp sT hgl; replace q6 := q6.stp sT hgl; replace q8 := q8.stp sT hgl; replace r9 := r9.stp sT hgl; replace RB := RB.only sT (Nat.le_refl _) (by omega); replace BXa := BXa.only sT (Nat.le_refl _) (by omega); replace BXb := BXb.only sT (Nat.le_refl _) (by omega); replace BXt := BXt.only sT (Nat.le_refl _) (by omega); clear sT; replace TK := TK.alloc (.cells #[.int .i64 k4, .int .i64 n4, .string t4, .slice A4 m4 c4] 29); have q14 := r12.mk (6) (0) (⟨#[]⟩) (0 + 1) (by decide); clear r12; refine (l15N_any _ _ _ _ _ _).mono ?_; rintro e W13 ⟨rfl, hb⟩; have sT := only_of_below (lo := g) (hi := g + 1) hb; replace q4 := q4.stp sT hgl; replace q6 := q6.stp sT hgl; replace q8 := q8.stp sT hgl; replace r9 := r9.stp sT hgl; replace q14 := q14.stp sT hgl; replace RB := RB.only sT (Nat.le_refl _) (by omega); replace BXa := BXa.only sT (Nat.le_refl _) (by omega); replace BXb := BXb.only sT (Nat.le_refl _) (by omega); replace BXt := BXt.only sT (Nat.le_refl _) (by omega); clear sT; replace TK := TK.new hb; clear hb; have hgW := Nat.lt_of_lt_of_le hgl TK.size; have tok17_1 : True := trivial))
        have RQ := fun x0 x1 x2 x3 => DrT.done (q19.le (show ((((K)) + (0 + 1)) + (((K) + (K)) + (0 + 2))) + (0 + 2) ≤ 4 * K + 8000 from by omega)) TK k1 hgw hs1 x0 x1 x2 x3
        refine bodyPost_ret (v := .agg #[.int .i64 (5), .int .i64 (0), .string ⟨#[]⟩, .slice (some ⟨W15.heap.size, 0, none⟩) 2 2]) (by simp [results, Try.results75, go_sem, RB0, RB1, RB2, RB3, RBl, RBf]) rfl (RQ _ _ _ _)
      · go_wp2_with (first | (go_at_call 27; have q13 := r9.mk (7) (0) (⟨#[]⟩) (0 + 2) (by decide); clear r9; refine (l15N_any _ _ _ _ _ _).mono ?_; rintro e W12 ⟨rfl, hb⟩; have sT := only_of_below (lo := g) (hi := g + 1) hb; replace q4 := q4.stp sT hgl; replace q6 := q6.stp sT hgl; replace q8 := q8.stp sT hgl; replace q13 := q13.stp sT hgl; replace RB := RB.only sT (Nat.le_refl _) (by omega); replace BXa := BXa.only sT (Nat.le_refl _) (by omega); replace BXb := BXb.only sT (Nat.le_refl _) (by omega); replace BXt := BXt.only sT (Nat.le_refl _) (by omega); clear sT; replace TK := TK.new hb; clear hb; have hgW := Nat.lt_of_lt_of_le hgl TK.size; have ⟨RBl, RBf, RB0, RB1, RB2, RB3⟩ := RB.all; have tok19_1 : True := trivial))
        have RQ := fun x0 x1 x2 x3 => DrT.done (q13.le (show ((K) + (K)) + (0 + 2) ≤ 4 * K + 8000 from by omega)) TK k1 hgw hs1 x0 x1 x2 x3
        refine bodyPost_ret (v := .agg #[.int .i64 (7), .int .i64 (0), .string ⟨#[]⟩, .slice (some ⟨(W7.heap.size + 1), 0, none⟩) 2 2]) (by simp [results, Try.results75, go_sem, RB0, RB1, RB2, RB3, RBl, RBf]) rfl (RQ _ _ _ _)
      · go_wp2_with (first | (have _q := tok21_1; go_at_call 27; have r14 := Rw.row1 W12.heap.size (by simp) TK.size q13; clear q13; have sT := stp_new g W12 (.cells #[.int .i64 k13, .int .i64 n13, .string t13, .slice A13 m13 c13] 29); replace q4 := q4.stp sT hgl; replace q6 := q6.stp sT hgl; replace q8 := q8.stp sT hgl; replace r9 := r9.stp sT hgl; replace RB := RB.only sT (Nat.le_refl _) (by omega); replace BXa := BXa.only sT (Nat.le_refl _) (by omega); replace BXb := BXb.only sT (Nat.le_refl _) (by omega); replace BXt := BXt.only sT (Nat.le_refl _) (by omega); clear sT; replace TK := TK.alloc (.cells #[.int .i64 k13, .int .i64 n13, .string t13, .slice A13 m13 c13] 29); have q16 := r14.mk (8) (0) (⟨#[112]⟩) (1 + 1) (by decide); clear r14; refine (l15N_any _ _ _ _ _ _).mono ?_; rintro e W15 ⟨rfl, hb⟩; have sT := only_of_below (lo := g) (hi := g + 1) hb; replace q4 := q4.stp sT hgl; replace q6 := q6.stp sT hgl; replace q8 := q8.stp sT hgl; replace r9 := r9.stp sT hgl; replace q16 := q16.stp sT hgl; replace RB := RB.only sT (Nat.le_refl _) (by omega); replace BXa := BXa.only sT (Nat.le_refl _) (by omega); replace BXb := BXb.only sT (Nat.le_refl _) (by omega); replace BXt := BXt.only sT (Nat.le_refl _) (by omega); clear sT; replace TK := TK.new hb; clear hb; have hgW := Nat.lt_of_lt_of_le hgl TK.size; have ⟨RBl, RBf, RB0, RB1, RB2, RB3⟩ := RB.all; have tok21_2 : True := trivial) | (go_at_call 76; refine (l15Var_any g B _ TK.cur).mono ?_; rintro e W12 hD; obtain ⟨k13, n13, t13, A13, m13, c13, rfl, q13, U, O⟩ := hD.out w1.heap.size TK.size; clear hD; replace q4 := q4.stp O hgl; replace q6 := q6.stp O hgl; replace q8 := q8.stp O hgl; replace r9 := r9.stp O hgl; replace RB := RB.only O (Nat.le_refl _) (by omega); replace BXa := BXa.only O (Nat.le_refl _) (by omega); replace BXb := BXb.only O (Nat.le_refl _) (by omega); replace BXt := BXt.only O (Nat.le_refl _) (by omega); replace TK := TK.call U O; clear U O; have hgW := Nat.lt_of_lt_of_le hgl TK.size; have tok21_1 : True := trivial))
        have RQ := fun x0 x1 x2 x3 => DrT.done (q16.le (show ((100)) + (1 + 1) ≤ 4 * K + 8000 from by omega)) TK k1 hgw hs1 x0 x1 x2 x3
        refine bodyPost_ret (v := .agg #[.int .i64 (8), .int .i64 (0), .string ⟨#[112]⟩, .slice (some ⟨W12.heap.size, 0, none⟩) 1 1]) (by simp [results, Try.results75, go_sem, RB0, RB1, RB2, RB3, RBl, RBf]) rfl (RQ _ _ _ _)
      · go_upto_region 23 with fail
        have TQ0 : Trk g B W10 W10 := Trk.start TK.cur
        replace q4 := q4.stp (stp_drew g W10) hgl
        replace q6 := q6.stp (stp_drew g W10) hgl
        replace q8 := q8.stp (stp_drew g W10) hgl
        replace r9 := r9.stp (stp_drew g W10) hgl
        have hYs := TK.size
        have hgY := Nat.lt_of_lt_of_le hgl TK.size
        have TQ := TQ0.drew
        refine lateStart (S := (fun w_ => Trk g B W10 w_)) [6] (by kernel_rfl) ?_ (fun hHeld => ?_)
        · (try dsimp only)
          (exact TQ0.drew)
        generalize hW10d : World.drew W10 = W10d at *
        have hgW : g < W10d.heap.size := Nat.lt_of_lt_of_le hgY TQ.size
        (refine lgt (i := 0) (v := ?_) rfl ?_ hHeld ?_; rotate_left; (focus (intro w_ hSw; (try dsimp only at hSw); go_simp; (try with_reducible rfl); done)); try simp only [aS])
        (refine lgt (i := 3) (v := ?_) rfl ?_ hHeld ?_; rotate_left; (focus (intro w_ hSw; (try dsimp only at hSw); have yb := hSw.blk BXa (by omega); have ⟨ybl, ybf, yb0, yb1, yb2, yb3⟩ := yb.all; go_simp; (try with_reducible rfl); done)); try simp only [aS])
        refine lateTwo (i := 1) (j := 4) (by kernel_rfl) ?_ ?_
        · skip
          refine lateOp (i := 1) rfl (by rfl) (fun K hK => ?_)
          go_simp
          (go_at_call 30; refine (l1Below_any g B 2 (by decide) (by decide) _ TQ.cur).mono ?_; rintro e W12 ⟨⟨x13, hx13, rfl⟩, U, O⟩; replace q4 := q4.stp O hgl; replace q6 := q6.stp O hgl; replace q8 := q8.stp O hgl; replace r9 := r9.stp O hgl; replace TQ := TQ.call U O; clear U O; have hgW := Nat.lt_of_lt_of_le hgY TQ.size; have hS_ := TQ)
          clear hHeld
          refine hK.out _ _ hS_ (fun hHeld => ?_)
          clear hK K hS_
          try simp only [aS]
          (refine lgt (i := 2) (v := ?_) rfl ?_ hHeld ?_; rotate_left; (focus (intro w_ hSw; (try dsimp only at hSw); go_simp; (try with_reducible rfl); done)); try simp only [aS])
          refine lateOne (i := 4) (by kernel_rfl) ?_
          refine lateOp (i := 4) rfl (by rfl) (fun K hK => ?_)
          go_simp
          (have r14 := Rw.row1 W12.heap.size (by simp) (Nat.le_trans hYs TQ.size) q4; have sT := stp_new g W12 (.cells #[.int .i64 k4, .int .i64 n4, .string t4, .slice A4 m4 c4] 29); replace q4 := q4.stp sT hgl; replace q6 := q6.stp sT hgl; replace q8 := q8.stp sT hgl; replace r9 := r9.stp sT hgl; clear sT; replace TQ := TQ.alloc (.cells #[.int .i64 k4, .int .i64 n4, .string t4, .slice A4 m4 c4] 29); have hS_ := TQ)
          clear hHeld
          refine hK.out _ _ hS_ (fun hHeld => ?_)
          clear hK K hS_
          try simp only [aS]
          (refine lgt (i := 5) (v := ?_) rfl ?_ hHeld ?_; rotate_left; (focus (intro w_ hSw; (try dsimp only at hSw); go_simp; (try with_reducible rfl); done)); try simp only [aS])
          refine lateOne (i := 6) (by kernel_rfl) ?_
          refine lateLast (i := 6) rfl (by kernel_rfl) (by rfl) (fun K hK => ?_)
          have RB := hHeld.blk RB (by omega); have ⟨RBl, RBf, RB0, RB1, RB2, RB3⟩ := RB.all
          go_simp
          refine hK.out _ _ ?_
          clear hK K
          try simp only [aS]
          refine lateDone (by kernel_rfl) ?_ _
          have q15 := r14.mk (9) ((IntKind.i64.wrap (1 + (x13 : Int)))) (⟨#[]⟩) (0 + 1) (by decide)
          clear r14
          replace TK := TK.next hHeld
          (try go_wp2_with fail)
          have RQ := fun x0 x1 x2 x3 => DrT.done (q15.le (show ((K)) + (0 + 1) ≤ 4 * K + 8000 from by omega)) TK k1 hgw hs1 x0 x1 x2 x3
          refine bodyPost_ret (v := .agg #[.int .i64 (9), .int .i64 ((IntKind.i64.wrap (1 + (x13 : Int)))), .string ⟨#[]⟩, .slice (some ⟨W12.heap.size, 0, none⟩) 1 1]) (by simp [results, Try.results75, go_sem, RB0, RB1, RB2, RB3, RBl, RBf]) rfl (RQ _ _ _ _)
        · skip
          refine lateOp (i := 4) rfl (by rfl) (fun K hK => ?_)
          go_simp
          (have r12 := Rw.row1 W10d.heap.size (by simp) (Nat.le_trans hYs TQ.size) q4; have sT := stp_new g W10d (.cells #[.int .i64 k4, .int .i64 n4, .string t4, .slice A4 m4 c4] 29); replace q4 := q4.stp sT hgl; replace q6 := q6.stp sT hgl; replace q8 := q8.stp sT hgl; replace r9 := r9.stp sT hgl; clear sT; replace TQ := TQ.alloc (.cells #[.int .i64 k4, .int .i64 n4, .string t4, .slice A4 m4 c4] 29); have hS_ := TQ)
          clear hHeld
          refine hK.out _ _ hS_ (fun hHeld => ?_)
          clear hK K hS_
          try simp only [aS]
          refine lateOne (i := 1) (by kernel_rfl) ?_
          refine lateOp (i := 1) rfl (by rfl) (fun K hK => ?_)
          go_simp
          (go_at_call 30; refine (l1Below_any g B 2 (by decide) (by decide) _ TQ.cur).mono ?_; rintro e W13 ⟨⟨x14, hx14, rfl⟩, U, O⟩; replace q4 := q4.stp O hgl; replace q6 := q6.stp O hgl; replace q8 := q8.stp O hgl; replace r9 := r9.stp O hgl; replace r12 := r12.stp O hgl; replace TQ := TQ.call U O; clear U O; have hgW := Nat.lt_of_lt_of_le hgY TQ.size; have hS_ := TQ)
          clear hHeld
          refine hK.out _ _ hS_ (fun hHeld => ?_)
          clear hK K hS_
          try simp only [aS]
          (refine lgt (i := 2) (v := ?_) rfl ?_ hHeld ?_; rotate_left; (focus (intro w_ hSw; (try dsimp only at hSw); go_simp; (try with_reducible rfl); done)); try simp only [aS])
          (refine lgt (i := 5) (v := ?_) rfl ?_ hHeld ?_; rotate_left; (focus (intro w_ hSw; (try dsimp only at hSw); go_simp; (try with_reducible rfl); done)); try simp only [aS])
          refine lateOne (i := 6) (by kernel_rfl) ?_
          refine lateLast (i := 6) rfl (by kernel_rfl) (by rfl) (fun K hK => ?_)
          have RB := hHeld.blk RB (by omega); have ⟨RBl, RBf, RB0, RB1, RB2, RB3⟩ := RB.all
          go_simp
          refine hK.out _ _ ?_
          clear hK K
          try simp only [aS]
          refine lateDone (by kernel_rfl) ?_ _
          have q15 := r12.mk (9) ((IntKind.i64.wrap (1 + (x14 : Int)))) (⟨#[]⟩) (0 + 1) (by decide)
          clear r12
          replace TK := TK.next hHeld
          (try go_wp2_with fail)
          have RQ := fun x0 x1 x2 x3 => DrT.done (q15.le (show ((K)) + (0 + 1) ≤ 4 * K + 8000 from by omega)) TK k1 hgw hs1 x0 x1 x2 x3
          refine bodyPost_ret (v := .agg #[.int .i64 (9), .int .i64 ((IntKind.i64.wrap (1 + (x14 : Int)))), .string ⟨#[]⟩, .slice (some ⟨W10d.heap.size, 0, none⟩) 1 1]) (by simp [results, Try.results75, go_sem, RB0, RB1, RB2, RB3, RBl, RBf]) rfl (RQ _ _ _ _)
      · go_wp2_with (first | (have _q := tok25_1; go_at_call 27; have q15 := r9.mk ((11 + (x13 : Int))) (0) (⟨#[]⟩) (0 + 2) (by decide); clear r9; refine (l15N_any _ _ _ _ _ _).mono ?_; rintro e W14 ⟨rfl, hb⟩; have sT := only_of_below (lo := g) (hi := g + 1) hb; replace q4 := q4.stp sT hgl; replace q6 := q6.stp sT hgl; replace q8 := q8.stp sT hgl; replace q15 := q15.stp sT hgl; replace RB := RB.only sT (Nat.le_refl _) (by omega); replace BXa := BXa.only sT (Nat.le_refl _) (by omega); replace BXb := BXb.only sT (Nat.le_refl _) (by omega); replace BXt := BXt.only sT (Nat.le_refl _) (by omega); clear sT; replace TK := TK.new hb; clear hb; have hgW := Nat.lt_of_lt_of_le hgl TK.size; have ⟨RBl, RBf, RB0, RB1, RB2, RB3⟩ := RB.all; have tok25_2 : True := trivial) | (go_at_call 30; refine (l1Below_any g B 3 (by decide) (by decide) _ TK.cur).mono ?_; rintro e W12 ⟨⟨x13, hx13, rfl⟩, U, O⟩; replace q4 := q4.stp O hgl; replace q6 := q6.stp O hgl; replace q8 := q8.stp O hgl; replace r9 := r9.stp O hgl; replace RB := RB.only O (Nat.le_refl _) (by omega); replace BXa := BXa.only O (Nat.le_refl _) (by omega); replace BXb := BXb.only O (Nat.le_refl _) (by omega); replace BXt := BXt.only O (Nat.le_refl _) (by omega); replace TK := TK.call U O; clear U O; have hgW := Nat.lt_of_lt_of_le hgl TK.size; have tok25_1 : True := trivial))
        have RQ := fun x0 x1 x2 x3 => DrT.done (q15.le (show ((K) + (K)) + (0 + 2) ≤ 4 * K + 8000 from by omega)) TK k1 hgw hs1 x0 x1 x2 x3
        refine bodyPost_ret (v := .agg #[.int .i64 ((11 + (x13 : Int))), .int .i64 (0), .string ⟨#[]⟩, .slice (some ⟨(W7.heap.size + 1), 0, none⟩) 2 2]) (by simp [results, Try.results75, go_sem, RB0, RB1, RB2, RB3, RBl, RBf]) rfl (RQ _ _ _ _)
      · go_upto_region 27 with fail
        have TQ0 : Trk g B W10 W10 := Trk.start TK.cur
        replace q4 := q4.stp (stp_drew g W10) hgl
        replace q6 := q6.stp (stp_drew g W10) hgl
        replace q8 := q8.stp (stp_drew g W10) hgl
        replace r9 := r9.stp (stp_drew g W10) hgl
        have hYs := TK.size
        have hgY := Nat.lt_of_lt_of_le hgl TK.size
        have TQ := TQ0.drew
        refine lateStart (S := (fun w_ => Trk g B W10 w_)) [6] (by kernel_rfl) ?_ (fun hHeld => ?_)
        · (try dsimp only)
          (exact TQ0.drew)
        generalize hW10d : World.drew W10 = W10d at *
        have hgW : g < W10d.heap.size := Nat.lt_of_lt_of_le hgY TQ.size
        (refine lgt (i := 0) (v := ?_) rfl ?_ hHeld ?_; rotate_left; (focus (intro w_ hSw; (try dsimp only at hSw); have yb := hSw.blk BXa (by omega); have ⟨ybl, ybf, yb0, yb1, yb2, yb3⟩ := yb.all; go_simp; (try with_reducible rfl); done)); try simp only [aS])
        (refine lgt (i := 1) (v := ?_) rfl ?_ hHeld ?_; rotate_left; (focus (intro w_ hSw; (try dsimp only at hSw); have yb := hSw.blk BXb (by omega); have ⟨ybl, ybf, yb0, yb1, yb2, yb3⟩ := yb.all; go_simp; (try with_reducible rfl); done)); try simp only [aS])
        (refine lgt (i := 2) (v := ?_) rfl ?_ hHeld ?_; rotate_left; (focus (intro w_ hSw; (try dsimp only at hSw); go_simp; (try with_reducible rfl); done)); try simp only [aS])
        refine lateOne (i := 3) (by kernel_rfl) ?_
        refine lateOp (i := 3) rfl (by rfl) (fun K hK => ?_)
        go_simp
        (go_at_call 76; refine (l15Var_any g B _ TQ.cur).mono ?_; rintro e W12 hD; obtain ⟨k13, n13, t13, A13, m13, c13, rfl, q13, U, O⟩ := hD.out w1.heap.size (Nat.le_trans hYs TQ.size); clear hD; replace q4 := q4.stp O hgl; replace q6 := q6.stp O hgl; replace q8 := q8.stp O hgl; replace r9 := r9.stp O hgl; replace TQ := TQ.call U O; clear U O; have hgW := Nat.lt_of_lt_of_le hgY TQ.size; have hS_ := TQ)
        clear hHeld
        refine hK.out _ _ hS_ (fun hHeld => ?_)
        clear hK K hS_
        try simp only [aS]
        refine lateOne (i := 4) (by kernel_rfl) ?_
        refine lateOp (i := 4) rfl (by rfl) (fun K hK => ?_)
        go_simp
        (have r14 := Rw.row3 W12.heap.size (by simp) (Nat.le_trans hYs TQ.size) q4 q6 q13; clear q13; have sT := stp_new g W12 (.cells #[.int .i64 k4, .int .i64 n4, .string t4, .slice A4 m4 c4, .int .i64 k6, .int .i64 n6, .string t6, .slice A6 m6 c6, .int .i64 k13, .int .i64 n13, .string t13, .slice A13 m13 c13] 29); replace q4 := q4.stp sT hgl; replace q6 := q6.stp sT hgl; replace q8 := q8.stp sT hgl; replace r9 := r9.stp sT hgl; clear sT; replace TQ := TQ.alloc (.cells #[.int .i64 k4, .int .i64 n4, .string t4, .slice A4 m4 c4, .int .i64 k6, .int .i64 n6, .string t6, .slice A6 m6 c6, .int .i64 k13, .int .i64 n13, .string t13, .slice A13 m13 c13] 29); have hS_ := TQ)
        clear hHeld
        refine hK.out _ _ hS_ (fun hHeld => ?_)
        clear hK K hS_
        try simp only [aS]
        refine lateOne (i := 5) (by kernel_rfl) ?_
        refine lateOp (i := 5) rfl (by rfl) (fun K hK => ?_)
        go_simp
        (go_at_call 27; have q16 := r14.mk (14) (0) (⟨#[]⟩) (0 + 3) (by decide); clear r14; refine (l15N_any _ _ _ _ _ _).mono ?_; rintro e W15 ⟨rfl, hb⟩; have sT := only_of_below (lo := g) (hi := g + 1) hb; replace q4 := q4.stp sT hgl; replace q6 := q6.stp sT hgl; replace q8 := q8.stp sT hgl; replace r9 := r9.stp sT hgl; replace q16 := q16.stp sT hgl; clear sT; replace TQ := TQ.new hb; clear hb; have hgW := Nat.lt_of_lt_of_le hgY TQ.size; have hS_ := TQ)
        clear hHeld
        refine hK.out _ _ hS_ (fun hHeld => ?_)
        clear hK K hS_
        try simp only [aS]
        refine lateOne (i := 6) (by kernel_rfl) ?_
        refine lateLast (i := 6) rfl (by kernel_rfl) (by rfl) (fun K hK => ?_)
        have RB := hHeld.blk RB (by omega); have ⟨RBl, RBf, RB0, RB1, RB2, RB3⟩ := RB.all
        go_simp
        refine hK.out _ _ ?_
        clear hK K
        try simp only [aS]
        refine lateDone (by kernel_rfl) ?_ _
        replace TK := TK.next hHeld
        (try go_wp2_with fail)
        have RQ := fun x0 x1 x2 x3 => DrT.done (q16.le (show ((K) + (K) + (100)) + (0 + 3) ≤ 4 * K + 8000 from by omega)) TK k1 hgw hs1 x0 x1 x2 x3
        refine bodyPost_ret (v := .agg #[.int .i64 (14), .int .i64 (0), .string ⟨#[]⟩, .slice (some ⟨W12.heap.size, 0, none⟩) 3 3]) (by simp [results, Try.results75, go_sem, RB0, RB1, RB2, RB3, RBl, RBf]) rfl (RQ _ _ _ _)
      · have ⟨BXbl, BXbf, BXb0, BXb1, BXb2, BXb3⟩ := BXb.all
        have ⟨BXtl, BXtf, BXt0, BXt1, BXt2, BXt3⟩ := BXt.all
        go_wp2_with (first | (go_at_call 27; have r12 := Rw.row2 W10.heap.size (by simp) TK.size q8 q6; have sT := stp_new g W10 (.cells #[.int .i64 k8, .int .i64 n8, .string t8, .slice A8 m8 c8, .int .i64 k6, .int .i64 n6, .string t6, .slice A6 m6 c6] 29); replace q4 := q4.stp sT hgl; replace q6 := q6.stp sT hgl; replace q8 := q8.stp sT hgl; replace r9 := r9.stp sT hgl; replace RB := RB.only sT (Nat.le_refl _) (by omega); replace BXa := BXa.only sT (Nat.le_refl _) (by omega); replace BXb := BXb.only sT (Nat.le_refl _) (by omega); replace BXt := BXt.only sT (Nat.le_refl _) (by omega); clear sT; replace TK := TK.alloc (.cells #[.int .i64 k8, .int .i64 n8, .string t8, .slice A8 m8 c8, .int .i64 k6, .int .i64 n6, .string t6, .slice A6 m6 c6] 29); have q14 := r12.mk (15) (0) (⟨#[]⟩) (0 + 2) (by decide); clear r12; refine (l15N_any _ _ _ _ _ _).mono ?_; rintro e W13 ⟨rfl, hb⟩; have sT := only_of_below (lo := g) (hi := g + 1) hb; replace q4 := q4.stp sT hgl; replace q6 := q6.stp sT hgl; replace q8 := q8.stp sT hgl; replace r9 := r9.stp sT hgl; replace q14 := q14.stp sT hgl; replace RB := RB.only sT (Nat.le_refl _) (by omega); replace BXa := BXa.only sT (Nat.le_refl _) (by omega); replace BXb := BXb.only sT (Nat.le_refl _) (by omega); replace BXt := BXt.only sT (Nat.le_refl _) (by omega); clear sT; replace TK := TK.new hb; clear hb; have hgW := Nat.lt_of_lt_of_le hgl TK.size; have ⟨RBl, RBf, RB0, RB1, RB2, RB3⟩ := RB.all; have tok31_1 : True := trivial))
        have RQ := fun x0 x1 x2 x3 => DrT.done (q14.le (show ((K + 1000) + (K)) + (0 + 2) ≤ 4 * K + 8000 from by omega)) TK k1 hgw hs1 x0 x1 x2 x3
        refine bodyPost_ret (v := .agg #[.int .i64 (15), .int .i64 (0), .string ⟨#[]⟩, .slice (some ⟨W10.heap.size, 0, none⟩) 2 2]) (by simp [results, Try.results75, go_sem, RB0, RB1, RB2, RB3, RBl, RBf]) rfl (RQ _ _ _ _)
      · have ⟨BXbl, BXbf, BXb0, BXb1, BXb2, BXb3⟩ := BXb.all
        have ⟨BXtl, BXtf, BXt0, BXt1, BXt2, BXt3⟩ := BXt.all
        go_wp2_with (first | (go_at_call 27; have r12 := Rw.row2 W10.heap.size (by simp) TK.size q8 q6; have sT := stp_new g W10 (.cells #[.int .i64 k8, .int .i64 n8, .string t8, .slice A8 m8 c8, .int .i64 k6, .int .i64 n6, .string t6, .slice A6 m6 c6] 29); replace q4 := q4.stp sT hgl; replace q6 := q6.stp sT hgl; replace q8 := q8.stp sT hgl; replace r9 := r9.stp sT hgl; replace RB := RB.only sT (Nat.le_refl _) (by omega); replace BXa := BXa.only sT (Nat.le_refl _) (by omega); replace BXb := BXb.only sT (Nat.le_refl _) (by omega); replace BXt := BXt.only sT (Nat.le_refl _) (by omega); clear sT; replace TK := TK.alloc (.cells #[.int .i64 k8, .int .i64 n8, .string t8, .slice A8 m8 c8, .int .i64 k6, .int .i64 n6, .string t6, .slice A6 m6 c6] 29); have q14 := r12.mk (15) (0) (⟨#[]⟩) (0 + 2) (by decide); clear r12; refine (l15N_any _ _ _ _ _ _).mono ?_; rintro e W13 ⟨rfl, hb⟩; have sT := only_of_below (lo := g) (hi := g + 1) hb; replace q4 := q4.stp sT hgl; replace q6 := q6.stp sT hgl; replace q8 := q8.stp sT hgl; replace r9 := r9.stp sT hgl; replace q14 := q14.stp sT hgl; replace RB := RB.only sT (Nat.le_refl _) (by omega); replace BXa := BXa.only sT (Nat.le_refl _) (by omega); replace BXb := BXb.only sT (Nat.le_refl _) (by omega); replace BXt := BXt.only sT (Nat.le_refl _) (by omega); clear sT; replace TK := TK.new hb; clear hb; have hgW := Nat.lt_of_lt_of_le hgl TK.size; have ⟨RBl, RBf, RB0, RB1, RB2, RB3⟩ := RB.all; have tok31_1 : True := trivial))
        have RQ := fun x0 x1 x2 x3 => DrT.done (q14.le (show ((K + 1000) + (K)) + (0 + 2) ≤ 4 * K + 8000 from by omega)) TK k1 hgw hs1 x0 x1 x2 x3
        refine bodyPost_ret (v := .agg #[.int .i64 (15), .int .i64 (0), .string ⟨#[]⟩, .slice (some ⟨W10.heap.size, 0, none⟩) 2 2]) (by simp [results, Try.results75, go_sem, RB0, RB1, RB2, RB3, RBl, RBf]) rfl (RQ _ _ _ _)
      · have ⟨BXbl, BXbf, BXb0, BXb1, BXb2, BXb3⟩ := BXb.all
        have ⟨BXtl, BXtf, BXt0, BXt1, BXt2, BXt3⟩ := BXt.all
        go_wp2_with (first | (go_at_call 27; have r12 := Rw.row2 W10.heap.size (by simp) TK.size q8 q6; have sT := stp_new g W10 (.cells #[.int .i64 k8, .int .i64 n8, .string t8, .slice A8 m8 c8, .int .i64 k6, .int .i64 n6, .string t6, .slice A6 m6 c6] 29); replace q4 := q4.stp sT hgl; replace q6 := q6.stp sT hgl; replace q8 := q8.stp sT hgl; replace r9 := r9.stp sT hgl; replace RB := RB.only sT (Nat.le_refl _) (by omega); replace BXa := BXa.only sT (Nat.le_refl _) (by omega); replace BXb := BXb.only sT (Nat.le_refl _) (by omega); replace BXt := BXt.only sT (Nat.le_refl _) (by omega); clear sT; replace TK := TK.alloc (.cells #[.int .i64 k8, .int .i64 n8, .string t8, .slice A8 m8 c8, .int .i64 k6, .int .i64 n6, .string t6, .slice A6 m6 c6] 29); have q14 := r12.mk (15) (0) (⟨#[]⟩) (0 + 2) (by decide); clear r12; refine (l15N_any _ _ _ _ _ _).mono ?_; rintro e W13 ⟨rfl, hb⟩; have sT := only_of_below (lo := g) (hi := g + 1) hb; replace q4 := q4.stp sT hgl; replace q6 := q6.stp sT hgl; replace q8 := q8.stp sT hgl; replace r9 := r9.stp sT hgl; replace q14 := q14.stp sT hgl; replace RB := RB.only sT (Nat.le_refl _) (by omega); replace BXa := BXa.only sT (Nat.le_refl _) (by omega); replace BXb := BXb.only sT (Nat.le_refl _) (by omega); replace BXt := BXt.only sT (Nat.le_refl _) (by omega); clear sT; replace TK := TK.new hb; clear hb; have hgW := Nat.lt_of_lt_of_le hgl TK.size; have ⟨RBl, RBf, RB0, RB1, RB2, RB3⟩ := RB.all; have tok31_1 : True := trivial))
        have RQ := fun x0 x1 x2 x3 => DrT.done (q14.le (show ((K + 1000) + (K)) + (0 + 2) ≤ 4 * K + 8000 from by omega)) TK k1 hgw hs1 x0 x1 x2 x3
        refine bodyPost_ret (v := .agg #[.int .i64 (15), .int .i64 (0), .string ⟨#[]⟩, .slice (some ⟨W10.heap.size, 0, none⟩) 2 2]) (by simp [results, Try.results75, go_sem, RB0, RB1, RB2, RB3, RBl, RBf]) rfl (RQ _ _ _ _)
      · have ⟨BXbl, BXbf, BXb0, BXb1, BXb2, BXb3⟩ := BXb.all
        have ⟨BXtl, BXtf, BXt0, BXt1, BXt2, BXt3⟩ := BXt.all
        go_wp2_with (first | (go_at_call 27; have r12 := Rw.row2 W10.heap.size (by simp) TK.size q8 q6; have sT := stp_new g W10 (.cells #[.int .i64 k8, .int .i64 n8, .string t8, .slice A8 m8 c8, .int .i64 k6, .int .i64 n6, .string t6, .slice A6 m6 c6] 29); replace q4 := q4.stp sT hgl; replace q6 := q6.stp sT hgl; replace q8 := q8.stp sT hgl; replace r9 := r9.stp sT hgl; replace RB := RB.only sT (Nat.le_refl _) (by omega); replace BXa := BXa.only sT (Nat.le_refl _) (by omega); replace BXb := BXb.only sT (Nat.le_refl _) (by omega); replace BXt := BXt.only sT (Nat.le_refl _) (by omega); clear sT; replace TK := TK.alloc (.cells #[.int .i64 k8, .int .i64 n8, .string t8, .slice A8 m8 c8, .int .i64 k6, .int .i64 n6, .string t6, .slice A6 m6 c6] 29); have q14 := r12.mk (16) (0) (⟨#[]⟩) (0 + 2) (by decide); clear r12; refine (l15N_any _ _ _ _ _ _).mono ?_; rintro e W13 ⟨rfl, hb⟩; have sT := only_of_below (lo := g) (hi := g + 1) hb; replace q4 := q4.stp sT hgl; replace q6 := q6.stp sT hgl; replace q8 := q8.stp sT hgl; replace r9 := r9.stp sT hgl; replace q14 := q14.stp sT hgl; replace RB := RB.only sT (Nat.le_refl _) (by omega); replace BXa := BXa.only sT (Nat.le_refl _) (by omega); replace BXb := BXb.only sT (Nat.le_refl _) (by omega); replace BXt := BXt.only sT (Nat.le_refl _) (by omega); clear sT; replace TK := TK.new hb; clear hb; have hgW := Nat.lt_of_lt_of_le hgl TK.size; have ⟨RBl, RBf, RB0, RB1, RB2, RB3⟩ := RB.all; have tok33_1 : True := trivial))
        have RQ := fun x0 x1 x2 x3 => DrT.done (q14.le (show ((K + 1000) + (K)) + (0 + 2) ≤ 4 * K + 8000 from by omega)) TK k1 hgw hs1 x0 x1 x2 x3
        refine bodyPost_ret (v := .agg #[.int .i64 (16), .int .i64 (0), .string ⟨#[]⟩, .slice (some ⟨W10.heap.size, 0, none⟩) 2 2]) (by simp [results, Try.results75, go_sem, RB0, RB1, RB2, RB3, RBl, RBf]) rfl (RQ _ _ _ _)
      · go_wp2_with (first | (have _q := tok35_1; go_at_call 27; have r14 := Rw.row1 W12.heap.size (by simp) TK.size q13; clear q13; have sT := stp_new g W12 (.cells #[.int .i64 k13, .int .i64 n13, .string t13, .slice A13 m13 c13] 29); replace q4 := q4.stp sT hgl; replace q6 := q6.stp sT hgl; replace q8 := q8.stp sT hgl; replace r9 := r9.stp sT hgl; replace RB := RB.only sT (Nat.le_refl _) (by omega); replace BXa := BXa.only sT (Nat.le_refl _) (by omega); replace BXb := BXb.only sT (Nat.le_refl _) (by omega); replace BXt := BXt.only sT (Nat.le_refl _) (by omega); clear sT; replace TK := TK.alloc (.cells #[.int .i64 k13, .int .i64 n13, .string t13, .slice A13 m13 c13] 29); have q16 := r14.mk (17) (0) (⟨#[98]⟩) (1 + 1) (by decide); clear r14; refine (l15N_any _ _ _ _ _ _).mono ?_; rintro e W15 ⟨rfl, hb⟩; have sT := only_of_below (lo := g) (hi := g + 1) hb; replace q4 := q4.stp sT hgl; replace q6 := q6.stp sT hgl; replace q8 := q8.stp sT hgl; replace r9 := r9.stp sT hgl; replace q16 := q16.stp sT hgl; replace RB := RB.only sT (Nat.le_refl _) (by omega); replace BXa := BXa.only sT (Nat.le_refl _) (by omega); replace BXb := BXb.only sT (Nat.le_refl _) (by omega); replace BXt := BXt.only sT (Nat.le_refl _) (by omega); clear sT; replace TK := TK.new hb; clear hb; have hgW := Nat.lt_of_lt_of_le hgl TK.size; have ⟨RBl, RBf, RB0, RB1, RB2, RB3⟩ := RB.all; have tok35_2 : True := trivial) | (go_at_call 76; refine (l15Var_any g B _ TK.cur).mono ?_; rintro e W12 hD; obtain ⟨k13, n13, t13, A13, m13, c13, rfl, q13, U, O⟩ := hD.out w1.heap.size TK.size; clear hD; replace q4 := q4.stp O hgl; replace q6 := q6.stp O hgl; replace q8 := q8.stp O hgl; replace r9 := r9.stp O hgl; replace RB := RB.only O (Nat.le_refl _) (by omega); replace BXa := BXa.only O (Nat.le_refl _) (by omega); replace BXb := BXb.only O (Nat.le_refl _) (by omega); replace BXt := BXt.only O (Nat.le_refl _) (by omega); replace TK := TK.call U O; clear U O; have hgW := Nat.lt_of_lt_of_le hgl TK.size; have tok35_1 : True := trivial))
        have RQ := fun x0 x1 x2 x3 => DrT.done (q16.le (show ((100)) + (1 + 1) ≤ 4 * K + 8000 from by omega)) TK k1 hgw hs1 x0 x1 x2 x3
        refine bodyPost_ret (v := .agg #[.int .i64 (17), .int .i64 (0), .string ⟨#[98]⟩, .slice (some ⟨W12.heap.size, 0, none⟩) 1 1]) (by simp [results, Try.results75, go_sem, RB0, RB1, RB2, RB3, RBl, RBf]) rfl (RQ _ _ _ _)
      · go_upto_region 38 with fail
        have TQ0 : Trk g B W10 W10 := Trk.start TK.cur
        replace q4 := q4.stp (stp_drew g W10) hgl
        replace q6 := q6.stp (stp_drew g W10) hgl
        replace q8 := q8.stp (stp_drew g W10) hgl
        replace r9 := r9.stp (stp_drew g W10) hgl
        have hYs := TK.size
        have hgY := Nat.lt_of_lt_of_le hgl TK.size
        have TQ := TQ0.drew
        refine lateStart (S := (fun w_ => Trk g B W10 w_)) [6] (by kernel_rfl) ?_ (fun hHeld => ?_)
        · (try dsimp only)
          (exact TQ0.drew)
        generalize hW10d : World.drew W10 = W10d at *
        have hgW : g < W10d.heap.size := Nat.lt_of_lt_of_le hgY TQ.size
        (refine lgt (i := 0) (v := ?_) rfl ?_ hHeld ?_; rotate_left; (focus (intro w_ hSw; (try dsimp only at hSw); go_simp; (try with_reducible rfl); done)); try simp only [aS])
        (refine lgt (i := 3) (v := ?_) rfl ?_ hHeld ?_; rotate_left; (focus (intro w_ hSw; (try dsimp only at hSw); have yb := hSw.blk BXa (by omega); have ⟨ybl, ybf, yb0, yb1, yb2, yb3⟩ := yb.all; go_simp; (try with_reducible rfl); done)); try simp only [aS])
        refine lateTwo (i := 1) (j := 4) (by kernel_rfl) ?_ ?_
        · skip
          refine lateOp (i := 1) rfl (by rfl) (fun K hK => ?_)
          go_simp
          (have sT := stp_new g W10d (.cells #[.string ⟨#[102]⟩, .string ⟨#[103]⟩, .string ⟨#[115, 116, 114, 108, 101, 110]⟩, .string ⟨#[99, 111, 117, 110, 116]⟩, .string ⟨#[103, 101, 110]⟩] 9); replace q4 := q4.stp sT hgl; replace q6 := q6.stp sT hgl; replace q8 := q8.stp sT hgl; replace r9 := r9.stp sT hgl; clear sT; replace TQ := TQ.alloc (.cells #[.string ⟨#[102]⟩, .string ⟨#[103]⟩, .string ⟨#[115, 116, 114, 108, 101, 110]⟩, .string ⟨#[99, 111, 117, 110, 116]⟩, .string ⟨#[103, 101, 110]⟩] 9); have bk12 := Blk.new' W10d 9 #[.string ⟨#[102]⟩, .string ⟨#[103]⟩, .string ⟨#[115, 116, 114, 108, 101, 110]⟩, .string ⟨#[99, 111, 117, 110, 116]⟩, .string ⟨#[103, 101, 110]⟩] W10d.heap.size (by simp); have hS_ := TQ)
          clear hHeld
          refine hK.out _ _ hS_ (fun hHeld => ?_)
          clear hK K hS_
          try simp only [aS]
          refine lateTwo (i := 2) (j := 4) (by kernel_rfl) ?_ ?_
          · skip
            refine lateOp (i := 2) rfl (by rfl) (fun K hK => ?_)
            go_simp
            (go_at_call 28; refine (l1StrK g B 5 100 W10d.heap.size _ _ _ (by decide) (by decide) (by kernel_rfl) TQ.cur bk12 (by omega)).mono ?_; rintro e W13 ⟨⟨s14, hs14, rfl⟩, U, O⟩; replace q4 := q4.stp O hgl; replace q6 := q6.stp O hgl; replace q8 := q8.stp O hgl; replace r9 := r9.stp O hgl; replace bk12 := bk12.only O (Nat.le_refl _) (by omega); replace TQ := TQ.call U O; clear U O; have hgW := Nat.lt_of_lt_of_le hgY TQ.size; have hS_ := TQ)
            clear hHeld
            refine hK.out _ _ hS_ (fun hHeld => ?_)
            clear hK K hS_
            try simp only [aS]
            refine lateOne (i := 4) (by kernel_rfl) ?_
            refine lateOp (i := 4) rfl (by rfl) (fun K hK => ?_)
            go_simp
            (have r15 := Rw.row1 W13.heap.size (by simp) (Nat.le_trans hYs TQ.size) q4; have sT := stp_new g W13 (.cells #[.int .i64 k4, .int .i64 n4, .string t4, .slice A4 m4 c4] 29); replace q4 := q4.stp sT hgl; replace q6 := q6.stp sT hgl; replace q8 := q8.stp sT hgl; replace r9 := r9.stp sT hgl; replace bk12 := bk12.only sT (Nat.le_refl _) (by omega); clear sT; replace TQ := TQ.alloc (.cells #[.int .i64 k4, .int .i64 n4, .string t4, .slice A4 m4 c4] 29); have hS_ := TQ)
            clear hHeld
            refine hK.out _ _ hS_ (fun hHeld => ?_)
            clear hK K hS_
            try simp only [aS]
            refine lateOne (i := 5) (by kernel_rfl) ?_
            refine lateOp (i := 5) rfl (by rfl) (fun K hK => ?_)
            go_simp
            (go_at_call 27; have q17 := r15.mk (18) (0) (s14) (100 + 1) (by omega); clear r15; refine (l15N_any _ _ _ _ _ _).mono ?_; rintro e W16 ⟨rfl, hb⟩; have sT := only_of_below (lo := g) (hi := g + 1) hb; replace q4 := q4.stp sT hgl; replace q6 := q6.stp sT hgl; replace q8 := q8.stp sT hgl; replace r9 := r9.stp sT hgl; replace q17 := q17.stp sT hgl; replace bk12 := bk12.only sT (Nat.le_refl _) (by omega); clear sT; replace TQ := TQ.new hb; clear hb; have hgW := Nat.lt_of_lt_of_le hgY TQ.size; have hS_ := TQ)
            clear hHeld
            refine hK.out _ _ hS_ (fun hHeld => ?_)
            clear hK K hS_
            try simp only [aS]
            refine lateOne (i := 6) (by kernel_rfl) ?_
            refine lateLast (i := 6) rfl (by kernel_rfl) (by rfl) (fun K hK => ?_)
            have RB := hHeld.blk RB (by omega); have ⟨RBl, RBf, RB0, RB1, RB2, RB3⟩ := RB.all
            go_simp
            refine hK.out _ _ ?_
            clear hK K
            try simp only [aS]
            refine lateDone (by kernel_rfl) ?_ _
            replace TK := TK.next hHeld
            (try go_wp2_with fail)
            have RQ := fun x0 x1 x2 x3 => DrT.done (q17.le (show ((K)) + (100 + 1) ≤ 4 * K + 8000 from by omega)) TK k1 hgw hs1 x0 x1 x2 x3
            refine bodyPost_ret (v := .agg #[.int .i64 (18), .int .i64 (0), .string s14, .slice (some ⟨W13.heap.size, 0, none⟩) 1 1]) (by simp [results, Try.results75, go_sem, RB0, RB1, RB2, RB3, RBl, RBf]) rfl (RQ _ _ _ _)
          · skip
            refine lateOp (i := 4) rfl (by rfl) (fun K hK => ?_)
            go_simp
            (have r13 := Rw.row1 (W10d.heap.size + 1) (by simp) (Nat.le_trans hYs TQ.size) q4; have sT := stp_new g (World.alloc W10d (.cells #[.string ⟨#[102]⟩, .string ⟨#[103]⟩, .string ⟨#[115, 116, 114, 108, 101, 110]⟩, .string ⟨#[99, 111, 117, 110, 116]⟩, .string ⟨#[103, 101, 110]⟩] 9)) (.cells #[.int .i64 k4, .int .i64 n4, .string t4, .slice A4 m4 c4] 29); replace q4 := q4.stp sT hgl; replace q6 := q6.stp sT hgl; replace q8 := q8.stp sT hgl; replace r9 := r9.stp sT hgl; replace bk12 := bk12.only sT (Nat.le_refl _) (by omega); clear sT; replace TQ := TQ.alloc (.cells #[.int .i64 k4, .int .i64 n4, .string t4, .slice A4 m4 c4] 29); have hS_ := TQ)
            clear hHeld
            refine hK.out _ _ hS_ (fun hHeld => ?_)
            clear hK K hS_
            try simp only [aS]
            refine lateOne (i := 2) (by kernel_rfl) ?_
            refine lateOp (i := 2) rfl (by rfl) (fun K hK => ?_)
            go_simp
            (go_at_call 28; refine (l1StrK g B 5 100 W10d.heap.size _ _ _ (by decide) (by decide) (by kernel_rfl) TQ.cur bk12 (by omega)).mono ?_; rintro e W14 ⟨⟨s15, hs15, rfl⟩, U, O⟩; replace q4 := q4.stp O hgl; replace q6 := q6.stp O hgl; replace q8 := q8.stp O hgl; replace r9 := r9.stp O hgl; replace r13 := r13.stp O hgl; replace bk12 := bk12.only O (Nat.le_refl _) (by omega); replace TQ := TQ.call U O; clear U O; have hgW := Nat.lt_of_lt_of_le hgY TQ.size; have hS_ := TQ)
            clear hHeld
            refine hK.out _ _ hS_ (fun hHeld => ?_)
            clear hK K hS_
            try simp only [aS]
            refine lateOne (i := 5) (by kernel_rfl) ?_
            refine lateOp (i := 5) rfl (by rfl) (fun K hK => ?_)
            go_simp
            (go_at_call 27; have q17 := r13.mk (18) (0) (s15) (100 + 1) (by omega); clear r13; refine (l15N_any _ _ _ _ _ _).mono ?_; rintro e W16 ⟨rfl, hb⟩; have sT := only_of_below (lo := g) (hi := g + 1) hb; replace q4 := q4.stp sT hgl; replace q6 := q6.stp sT hgl; replace q8 := q8.stp sT hgl; replace r9 := r9.stp sT hgl; replace q17 := q17.stp sT hgl; replace bk12 := bk12.only sT (Nat.le_refl _) (by omega); clear sT; replace TQ := TQ.new hb; clear hb; have hgW := Nat.lt_of_lt_of_le hgY TQ.size; have hS_ := TQ)
            clear hHeld
            refine hK.out _ _ hS_ (fun hHeld => ?_)
            clear hK K hS_
            try simp only [aS]
            refine lateOne (i := 6) (by kernel_rfl) ?_
            refine lateLast (i := 6) rfl (by kernel_rfl) (by rfl) (fun K hK => ?_)
            have RB := hHeld.blk RB (by omega); have ⟨RBl, RBf, RB0, RB1, RB2, RB3⟩ := RB.all
            go_simp
            refine hK.out _ _ ?_
            clear hK K
            try simp only [aS]
            refine lateDone (by kernel_rfl) ?_ _
            replace TK := TK.next hHeld
            (try go_wp2_with fail)
            have RQ := fun x0 x1 x2 x3 => DrT.done (q17.le (show ((K)) + (100 + 1) ≤ 4 * K + 8000 from by omega)) TK k1 hgw hs1 x0 x1 x2 x3
            refine bodyPost_ret (v := .agg #[.int .i64 (18), .int .i64 (0), .string s15, .slice (some ⟨(W10d.heap.size + 1), 0, none⟩) 1 1]) (by simp [results, Try.results75, go_sem, RB0, RB1, RB2, RB3, RBl, RBf]) rfl (RQ _ _ _ _)
        · skip
          refine lateOp (i := 4) rfl (by rfl) (fun K hK => ?_)
          go_simp
          (have r12 := Rw.row1 W10d.heap.size (by simp) (Nat.le_trans hYs TQ.size) q4; have sT := stp_new g W10d (.cells #[.int .i64 k4, .int .i64 n4, .string t4, .slice A4 m4 c4] 29); replace q4 := q4.stp sT hgl; replace q6 := q6.stp sT hgl; replace q8 := q8.stp sT hgl; replace r9 := r9.stp sT hgl; clear sT; replace TQ := TQ.alloc (.cells #[.int .i64 k4, .int .i64 n4, .string t4, .slice A4 m4 c4] 29); have hS_ := TQ)
          clear hHeld
          refine hK.out _ _ hS_ (fun hHeld => ?_)
          clear hK K hS_
          try simp only [aS]
          refine lateOne (i := 1) (by kernel_rfl) ?_
          refine lateOp (i := 1) rfl (by rfl) (fun K hK => ?_)
          go_simp
          (have sT := stp_new g (World.alloc W10d (.cells #[.int .i64 k4, .int .i64 n4, .string t4, .slice A4 m4 c4] 29)) (.cells #[.string ⟨#[102]⟩, .string ⟨#[103]⟩, .string ⟨#[115, 116, 114, 108, 101, 110]⟩, .string ⟨#[99, 111, 117, 110, 116]⟩, .string ⟨#[103, 101, 110]⟩] 9); replace q4 := q4.stp sT hgl; replace q6 := q6.stp sT hgl; replace q8 := q8.stp sT hgl; replace r9 := r9.stp sT hgl; replace r12 := r12.stp sT hgl; clear sT; replace TQ := TQ.alloc (.cells #[.string ⟨#[102]⟩, .string ⟨#[103]⟩, .string ⟨#[115, 116, 114, 108, 101, 110]⟩, .string ⟨#[99, 111, 117, 110, 116]⟩, .string ⟨#[103, 101, 110]⟩] 9); have bk13 := Blk.new' (World.alloc W10d (.cells #[.int .i64 k4, .int .i64 n4, .string t4, .slice A4 m4 c4] 29)) 9 #[.string ⟨#[102]⟩, .string ⟨#[103]⟩, .string ⟨#[115, 116, 114, 108, 101, 110]⟩, .string ⟨#[99, 111, 117, 110, 116]⟩, .string ⟨#[103, 101, 110]⟩] (W10d.heap.size + 1) (by simp); have hS_ := TQ)
          clear hHeld
          refine hK.out _ _ hS_ (fun hHeld => ?_)
          clear hK K hS_
          try simp only [aS]
          refine lateOne (i := 2) (by kernel_rfl) ?_
          refine lateOp (i := 2) rfl (by rfl) (fun K hK => ?_)
          go_simp
          (go_at_call 28; refine (l1StrK g B 5 100 (W10d.heap.size + 1) _ _ _ (by decide) (by decide) (by kernel_rfl) TQ.cur bk13 (by omega)).mono ?_; rintro e W14 ⟨⟨s15, hs15, rfl⟩, U, O⟩; replace q4 := q4.stp O hgl; replace q6 := q6.stp O hgl; replace q8 := q8.stp O hgl; replace r9 := r9.stp O hgl; replace r12 := r12.stp O hgl; replace bk13 := bk13.only O (Nat.le_refl _) (by omega); replace TQ := TQ.call U O; clear U O; have hgW := Nat.lt_of_lt_of_le hgY TQ.size; have hS_ := TQ)
          clear hHeld
          refine hK.out _ _ hS_ (fun hHeld => ?_)
          clear hK K hS_
          try simp only [aS]
          refine lateOne (i := 5) (by kernel_rfl) ?_
          refine lateOp (i := 5) rfl (by rfl) (fun K hK => ?_)
          go_simp
          (go_at_call 27; have q17 := r12.mk (18) (0) (s15) (100 + 1) (by omega); clear r12; refine (l15N_any _ _ _ _ _ _).mono ?_; rintro e W16 ⟨rfl, hb⟩; have sT := only_of_below (lo := g) (hi := g + 1) hb; replace q4 := q4.stp sT hgl; replace q6 := q6.stp sT hgl; replace q8 := q8.stp sT hgl; replace r9 := r9.stp sT hgl; replace q17 := q17.stp sT hgl; replace bk13 := bk13.only sT (Nat.le_refl _) (by omega); clear sT; replace TQ := TQ.new hb; clear hb; have hgW := Nat.lt_of_lt_of_le hgY TQ.size; have hS_ := TQ)
          clear hHeld
          refine hK.out _ _ hS_ (fun hHeld => ?_)
          clear hK K hS_
          try simp only [aS]
          refine lateOne (i := 6) (by kernel_rfl) ?_
          refine lateLast (i := 6) rfl (by kernel_rfl) (by rfl) (fun K hK => ?_)
          have RB := hHeld.blk RB (by omega); have ⟨RBl, RBf, RB0, RB1, RB2, RB3⟩ := RB.all
          go_simp
          refine hK.out _ _ ?_
          clear hK K
          try simp only [aS]
          refine lateDone (by kernel_rfl) ?_ _
          replace TK := TK.next hHeld
          (try go_wp2_with fail)
          have RQ := fun x0 x1 x2 x3 => DrT.done (q17.le (show ((K)) + (100 + 1) ≤ 4 * K + 8000 from by omega)) TK k1 hgw hs1 x0 x1 x2 x3
          refine bodyPost_ret (v := .agg #[.int .i64 (18), .int .i64 (0), .string s15, .slice (some ⟨W10d.heap.size, 0, none⟩) 1 1]) (by simp [results, Try.results75, go_sem, RB0, RB1, RB2, RB3, RBl, RBf]) rfl (RQ _ _ _ _)
      · go_upto_region 38 with fail
        have TQ0 : Trk g B W10 W10 := Trk.start TK.cur
        replace q4 := q4.stp (stp_drew g W10) hgl
        replace q6 := q6.stp (stp_drew g W10) hgl
        replace q8 := q8.stp (stp_drew g W10) hgl
        replace r9 := r9.stp (stp_drew g W10) hgl
        have hYs := TK.size
        have hgY := Nat.lt_of_lt_of_le hgl TK.size
        have TQ := TQ0.drew
        refine lateStart (S := (fun w_ => Trk g B W10 w_)) [6] (by kernel_rfl) ?_ (fun hHeld => ?_)
        · (try dsimp only)
          (exact TQ0.drew)
        generalize hW10d : World.drew W10 = W10d at *
        have hgW : g < W10d.heap.size := Nat.lt_of_lt_of_le hgY TQ.size
        (refine lgt (i := 0) (v := ?_) rfl ?_ hHeld ?_; rotate_left; (focus (intro w_ hSw; (try dsimp only at hSw); go_simp; (try with_reducible rfl); done)); try simp only [aS])
        (refine lgt (i := 3) (v := ?_) rfl ?_ hHeld ?_; rotate_left; (focus (intro w_ hSw; (try dsimp only at hSw); have yb := hSw.blk BXa (by omega); have ⟨ybl, ybf, yb0, yb1, yb2, yb3⟩ := yb.all; go_simp; (try with_reducible rfl); done)); try simp only [aS])
        refine lateTwo (i := 1) (j := 4) (by kernel_rfl) ?_ ?_
        · skip
          refine lateOp (i := 1) rfl (by rfl) (fun K hK => ?_)
          go_simp
          (have sT := stp_new g W10d (.cells #[.string ⟨#[102]⟩, .string ⟨#[103]⟩, .string ⟨#[115, 116, 114, 108, 101, 110]⟩, .string ⟨#[99, 111, 117, 110, 116]⟩, .string ⟨#[103, 101, 110]⟩] 9); replace q4 := q4.stp sT hgl; replace q6 := q6.stp sT hgl; replace q8 := q8.stp sT hgl; replace r9 := r9.stp sT hgl; clear sT; replace TQ := TQ.alloc (.cells #[.string ⟨#[102]⟩, .string ⟨#[103]⟩, .string ⟨#[115, 116, 114, 108, 101, 110]⟩, .string ⟨#[99, 111, 117, 110, 116]⟩, .string ⟨#[103, 101, 110]⟩] 9); have bk12 := Blk.new' W10d 9 #[.string ⟨#[102]⟩, .string ⟨#[103]⟩, .string ⟨#[115, 116, 114, 108, 101, 110]⟩, .string ⟨#[99, 111, 117, 110, 116]⟩, .string ⟨#[103, 101, 110]⟩] W10d.heap.size (by simp); have hS_ := TQ)
          clear hHeld
          refine hK.out _ _ hS_ (fun hHeld => ?_)
          clear hK K hS_
          try simp only [aS]
          refine lateTwo (i := 2) (j := 4) (by kernel_rfl) ?_ ?_
          · skip
            refine lateOp (i := 2) rfl (by rfl) (fun K hK => ?_)
            go_simp
            (go_at_call 28; refine (l1StrK g B 5 100 W10d.heap.size _ _ _ (by decide) (by decide) (by kernel_rfl) TQ.cur bk12 (by omega)).mono ?_; rintro e W13 ⟨⟨s14, hs14, rfl⟩, U, O⟩; replace q4 := q4.stp O hgl; replace q6 := q6.stp O hgl; replace q8 := q8.stp O hgl; replace r9 := r9.stp O hgl; replace bk12 := bk12.only O (Nat.le_refl _) (by omega); replace TQ := TQ.call U O; clear U O; have hgW := Nat.lt_of_lt_of_le hgY TQ.size; have hS_ := TQ)
            clear hHeld
            refine hK.out _ _ hS_ (fun hHeld => ?_)
            clear hK K hS_
            try simp only [aS]
            refine lateOne (i := 4) (by kernel_rfl) ?_
            refine lateOp (i := 4) rfl (by rfl) (fun K hK => ?_)
            go_simp
            (have r15 := Rw.row1 W13.heap.size (by simp) (Nat.le_trans hYs TQ.size) q4; have sT := stp_new g W13 (.cells #[.int .i64 k4, .int .i64 n4, .string t4, .slice A4 m4 c4] 29); replace q4 := q4.stp sT hgl; replace q6 := q6.stp sT hgl; replace q8 := q8.stp sT hgl; replace r9 := r9.stp sT hgl; replace bk12 := bk12.only sT (Nat.le_refl _) (by omega); clear sT; replace TQ := TQ.alloc (.cells #[.int .i64 k4, .int .i64 n4, .string t4, .slice A4 m4 c4] 29); have hS_ := TQ)
            clear hHeld
            refine hK.out _ _ hS_ (fun hHeld => ?_)
            clear hK K hS_
            try simp only [aS]
            refine lateOne (i := 5) (by kernel_rfl) ?_
            refine lateOp (i := 5) rfl (by rfl) (fun K hK => ?_)
            go_simp
            (go_at_call 27; have q17 := r15.mk (18) (0) (s14) (100 + 1) (by omega); clear r15; refine (l15N_any _ _ _ _ _ _).mono ?_; rintro e W16 ⟨rfl, hb⟩; have sT := only_of_below (lo := g) (hi := g + 1) hb; replace q4 := q4.stp sT hgl; replace q6 := q6.stp sT hgl; replace q8 := q8.stp sT hgl; replace r9 := r9.stp sT hgl; replace q17 := q17.stp sT hgl; replace bk12 := bk12.only sT (Nat.le_refl _) (by omega); clear sT; replace TQ := TQ.new hb; clear hb; have hgW := Nat.lt_of_lt_of_le hgY TQ.size; have hS_ := TQ)
            clear hHeld
            refine hK.out _ _ hS_ (fun hHeld => ?_)
            clear hK K hS_
            try simp only [aS]
            refine lateOne (i := 6) (by kernel_rfl) ?_
            refine lateLast (i := 6) rfl (by kernel_rfl) (by rfl) (fun K hK => ?_)
            have RB := hHeld.blk RB (by omega); have ⟨RBl, RBf, RB0, RB1, RB2, RB3⟩ := RB.all
            go_simp
            refine hK.out _ _ ?_
            clear hK K
            try simp only [aS]
            refine lateDone (by kernel_rfl) ?_ _
            replace TK := TK.next hHeld
            (try go_wp2_with fail)
            have RQ := fun x0 x1 x2 x3 => DrT.done (q17.le (show ((K)) + (100 + 1) ≤ 4 * K + 8000 from by omega)) TK k1 hgw hs1 x0 x1 x2 x3
            refine bodyPost_ret (v := .agg #[.int .i64 (18), .int .i64 (0), .string s14, .slice (some ⟨W13.heap.size, 0, none⟩) 1 1]) (by simp [results, Try.results75, go_sem, RB0, RB1, RB2, RB3, RBl, RBf]) rfl (RQ _ _ _ _)
          · skip
            refine lateOp (i := 4) rfl (by rfl) (fun K hK => ?_)
            go_simp
            (have r13 := Rw.row1 (W10d.heap.size + 1) (by simp) (Nat.le_trans hYs TQ.size) q4; have sT := stp_new g (World.alloc W10d (.cells #[.string ⟨#[102]⟩, .string ⟨#[103]⟩, .string ⟨#[115, 116, 114, 108, 101, 110]⟩, .string ⟨#[99, 111, 117, 110, 116]⟩, .string ⟨#[103, 101, 110]⟩] 9)) (.cells #[.int .i64 k4, .int .i64 n4, .string t4, .slice A4 m4 c4] 29); replace q4 := q4.stp sT hgl; replace q6 := q6.stp sT hgl; replace q8 := q8.stp sT hgl; replace r9 := r9.stp sT hgl; replace bk12 := bk12.only sT (Nat.le_refl _) (by omega); clear sT; replace TQ := TQ.alloc (.cells #[.int .i64 k4, .int .i64 n4, .string t4, .slice A4 m4 c4] 29); have hS_ := TQ)
            clear hHeld
            refine hK.out _ _ hS_ (fun hHeld => ?_)
            clear hK K hS_
            try simp only [aS]
            refine lateOne (i := 2) (by kernel_rfl) ?_
            refine lateOp (i := 2) rfl (by rfl) (fun K hK => ?_)
            go_simp
            (go_at_call 28; refine (l1StrK g B 5 100 W10d.heap.size _ _ _ (by decide) (by decide) (by kernel_rfl) TQ.cur bk12 (by omega)).mono ?_; rintro e W14 ⟨⟨s15, hs15, rfl⟩, U, O⟩; replace q4 := q4.stp O hgl; replace q6 := q6.stp O hgl; replace q8 := q8.stp O hgl; replace r9 := r9.stp O hgl; replace r13 := r13.stp O hgl; replace bk12 := bk12.only O (Nat.le_refl _) (by omega); replace TQ := TQ.call U O; clear U O; have hgW := Nat.lt_of_lt_of_le hgY TQ.size; have hS_ := TQ)
            clear hHeld
            refine hK.out _ _ hS_ (fun hHeld => ?_)
            clear hK K hS_
            try simp only [aS]
            refine lateOne (i := 5) (by kernel_rfl) ?_
            refine lateOp (i := 5) rfl (by rfl) (fun K hK => ?_)
            go_simp
            (go_at_call 27; have q17 := r13.mk (18) (0) (s15) (100 + 1) (by omega); clear r13; refine (l15N_any _ _ _ _ _ _).mono ?_; rintro e W16 ⟨rfl, hb⟩; have sT := only_of_below (lo := g) (hi := g + 1) hb; replace q4 := q4.stp sT hgl; replace q6 := q6.stp sT hgl; replace q8 := q8.stp sT hgl; replace r9 := r9.stp sT hgl; replace q17 := q17.stp sT hgl; replace bk12 := bk12.only sT (Nat.le_refl _) (by omega); clear sT; replace TQ := TQ.new hb; clear hb; have hgW := Nat.lt_of_lt_of_le hgY TQ.size; have hS_ := TQ)
            clear hHeld
            refine hK.out _ _ hS_ (fun hHeld => ?_)
            clear hK K hS_
            try simp only [aS]
            refine lateOne (i := 6) (by kernel_rfl) ?_
            refine lateLast (i := 6) rfl (by kernel_rfl) (by rfl) (fun K hK => ?_)
            have RB := hHeld.blk RB (by omega); have ⟨RBl, RBf, RB0, RB1, RB2, RB3⟩ := RB.all
            go_simp
            refine hK.out _ _ ?_
            clear hK K
            try simp only [aS]
            refine lateDone (by kernel_rfl) ?_ _
            replace TK := TK.next hHeld
            (try go_wp2_with fail)
            have RQ := fun x0 x1 x2 x3 => DrT.done (q17.le (show ((K)) + (100 + 1) ≤ 4 * K + 8000 from by omega)) TK k1 hgw hs1 x0 x1 x2 x3
            refine bodyPost_ret (v := .agg #[.int .i64 (18), .int .i64 (0), .string s15, .slice (some ⟨(W10d.heap.size + 1), 0, none⟩) 1 1]) (by simp [results, Try.results75, go_sem, RB0, RB1, RB2, RB3, RBl, RBf]) rfl (RQ _ _ _ _)
        · skip
          refine lateOp (i := 4) rfl (by rfl) (fun K hK => ?_)
          go_simp
          (have r12 := Rw.row1 W10d.heap.size (by simp) (Nat.le_trans hYs TQ.size) q4; have sT := stp_new g W10d (.cells #[.int .i64 k4, .int .i64 n4, .string t4, .slice A4 m4 c4] 29); replace q4 := q4.stp sT hgl; replace q6 := q6.stp sT hgl; replace q8 := q8.stp sT hgl; replace r9 := r9.stp sT hgl; clear sT; replace TQ := TQ.alloc (.cells #[.int .i64 k4, .int .i64 n4, .string t4, .slice A4 m4 c4] 29); have hS_ := TQ)
          clear hHeld
          refine hK.out _ _ hS_ (fun hHeld => ?_)
          clear hK K hS_
          try simp only [aS]
          refine lateOne (i := 1) (by kernel_rfl) ?_
          refine lateOp (i := 1) rfl (by rfl) (fun K hK => ?_)
          go_simp
          (have sT := stp_new g (World.alloc W10d (.cells #[.int .i64 k4, .int .i64 n4, .string t4, .slice A4 m4 c4] 29)) (.cells #[.string ⟨#[102]⟩, .string ⟨#[103]⟩, .string ⟨#[115, 116, 114, 108, 101, 110]⟩, .string ⟨#[99, 111, 117, 110, 116]⟩, .string ⟨#[103, 101, 110]⟩] 9); replace q4 := q4.stp sT hgl; replace q6 := q6.stp sT hgl; replace q8 := q8.stp sT hgl; replace r9 := r9.stp sT hgl; replace r12 := r12.stp sT hgl; clear sT; replace TQ := TQ.alloc (.cells #[.string ⟨#[102]⟩, .string ⟨#[103]⟩, .string ⟨#[115, 116, 114, 108, 101, 110]⟩, .string ⟨#[99, 111, 117, 110, 116]⟩, .string ⟨#[103, 101, 110]⟩] 9); have bk13 := Blk.new' (World.alloc W10d (.cells #[.int .i64 k4, .int .i64 n4, .string t4, .slice A4 m4 c4] 29)) 9 #[.string ⟨#[102]⟩, .string ⟨#[103]⟩, .string ⟨#[115, 116, 114, 108, 101, 110]⟩, .string ⟨#[99, 111, 117, 110, 116]⟩, .string ⟨#[103, 101, 110]⟩] (W10d.heap.size + 1) (by simp); have hS_ := TQ)
          clear hHeld
          refine hK.out _ _ hS_ (fun hHeld => ?_)
          clear hK K hS_
          try simp only [aS]
          refine lateOne (i := 2) (by kernel_rfl) ?_
          refine lateOp (i := 2) rfl (by rfl) (fun K hK => ?_)
          go_simp
          (go_at_call 28; refine (l1StrK g B 5 100 (W10d.heap.size + 1) _ _ _ (by decide) (by decide) (by kernel_rfl) TQ.cur bk13 (by omega)).mono ?_; rintro e W14 ⟨⟨s15, hs15, rfl⟩, U, O⟩; replace q4 := q4.stp O hgl; replace q6 := q6.stp O hgl; replace q8 := q8.stp O hgl; replace r9 := r9.stp O hgl; replace r12 := r12.stp O hgl; replace bk13 := bk13.only O (Nat.le_refl _) (by omega); replace TQ := TQ.call U O; clear U O; have hgW := Nat.lt_of_lt_of_le hgY TQ.size; have hS_ := TQ)
          clear hHeld
          refine hK.out _ _ hS_ (fun hHeld => ?_)
          clear hK K hS_
          try simp only [aS]
          refine lateOne (i := 5) (by kernel_rfl) ?_
          refine lateOp (i := 5) rfl (by rfl) (fun K hK => ?_)
          go_simp
          (go_at_call 27; have q17 := r12.mk (18) (0) (s15) (100 + 1) (by omega); clear r12; refine (l15N_any _ _ _ _ _ _).mono ?_; rintro e W16 ⟨rfl, hb⟩; have sT := only_of_below (lo := g) (hi := g + 1) hb; replace q4 := q4.stp sT hgl; replace q6 := q6.stp sT hgl; replace q8 := q8.stp sT hgl; replace r9 := r9.stp sT hgl; replace q17 := q17.stp sT hgl; replace bk13 := bk13.only sT (Nat.le_refl _) (by omega); clear sT; replace TQ := TQ.new hb; clear hb; have hgW := Nat.lt_of_lt_of_le hgY TQ.size; have hS_ := TQ)
          clear hHeld
          refine hK.out _ _ hS_ (fun hHeld => ?_)
          clear hK K hS_
          try simp only [aS]
          refine lateOne (i := 6) (by kernel_rfl) ?_
          refine lateLast (i := 6) rfl (by kernel_rfl) (by rfl) (fun K hK => ?_)
          have RB := hHeld.blk RB (by omega); have ⟨RBl, RBf, RB0, RB1, RB2, RB3⟩ := RB.all
          go_simp
          refine hK.out _ _ ?_
          clear hK K
          try simp only [aS]
          refine lateDone (by kernel_rfl) ?_ _
          replace TK := TK.next hHeld
          (try go_wp2_with fail)
          have RQ := fun x0 x1 x2 x3 => DrT.done (q17.le (show ((K)) + (100 + 1) ≤ 4 * K + 8000 from by omega)) TK k1 hgw hs1 x0 x1 x2 x3
          refine bodyPost_ret (v := .agg #[.int .i64 (18), .int .i64 (0), .string s15, .slice (some ⟨W10d.heap.size, 0, none⟩) 1 1]) (by simp [results, Try.results75, go_sem, RB0, RB1, RB2, RB3, RBl, RBf]) rfl (RQ _ _ _ _)
      · go_upto_region 40 with fail
        have TQ0 : Trk g B W10 W10 := Trk.start TK.cur
        replace q4 := q4.stp (stp_drew g W10) hgl
        replace q6 := q6.stp (stp_drew g W10) hgl
        replace q8 := q8.stp (stp_drew g W10) hgl
        replace r9 := r9.stp (stp_drew g W10) hgl
        have hYs := TK.size
        have hgY := Nat.lt_of_lt_of_le hgl TK.size
        have TQ := TQ0.drew
        refine lateStart (S := (fun w_ => Trk g B W10 w_)) [5] (by kernel_rfl) ?_ (fun hHeld => ?_)
        · (try dsimp only)
          (exact TQ0.drew)
        generalize hW10d : World.drew W10 = W10d at *
        have hgW : g < W10d.heap.size := Nat.lt_of_lt_of_le hgY TQ.size
        (refine lgt (i := 0) (v := ?_) rfl ?_ hHeld ?_; rotate_left; (focus (intro w_ hSw; (try dsimp only at hSw); go_simp; (try with_reducible rfl); done)); try simp only [aS])
        (refine lgt (i := 2) (v := ?_) rfl ?_ hHeld ?_; rotate_left; (focus (intro w_ hSw; (try dsimp only at hSw); have yb := hSw.blk BXb (by omega); have ⟨ybl, ybf, yb0, yb1, yb2, yb3⟩ := yb.all; go_simp; (try with_reducible rfl); done)); try simp only [aS])
        refine lateOne (i := 1) (by kernel_rfl) ?_
        refine lateOp (i := 1) rfl (by rfl) (fun K hK => ?_)
        go_simp
        (go_at_call 76; refine (l15Var_any g B _ TQ.cur).mono ?_; rintro e W12 hD; obtain ⟨k13, n13, t13, A13, m13, c13, rfl, q13, U, O⟩ := hD.out w1.heap.size (Nat.le_trans hYs TQ.size); clear hD; replace q4 := q4.stp O hgl; replace q6 := q6.stp O hgl; replace q8 := q8.stp O hgl; replace r9 := r9.stp O hgl; replace TQ := TQ.call U O; clear U O; have hgW := Nat.lt_of_lt_of_le hgY TQ.size; have hS_ := TQ)
        clear hHeld
        refine hK.out _ _ hS_ (fun hHeld => ?_)
        clear hK K hS_
        try simp only [aS]
        refine lateOne (i := 3) (by kernel_rfl) ?_
        refine lateOp (i := 3) rfl (by rfl) (fun K hK => ?_)
        go_simp
        (have r14 := Rw.row2 W12.heap.size (by simp) (Nat.le_trans hYs TQ.size) q13 q6; clear q13; have sT := stp_new g W12 (.cells #[.int .i64 k13, .int .i64 n13, .string t13, .slice A13 m13 c13, .int .i64 k6, .int .i64 n6, .string t6, .slice A6 m6 c6] 29); replace q4 := q4.stp sT hgl; replace q6 := q6.stp sT hgl; replace q8 := q8.stp sT hgl; replace r9 := r9.stp sT hgl; clear sT; replace TQ := TQ.alloc (.cells #[.int .i64 k13, .int .i64 n13, .string t13, .slice A13 m13 c13, .int .i64 k6, .int .i64 n6, .string t6, .slice A6 m6 c6] 29); have hS_ := TQ)
        clear hHeld
        refine hK.out _ _ hS_ (fun hHeld => ?_)
        clear hK K hS_
        try simp only [aS]
        refine lateOne (i := 4) (by kernel_rfl) ?_
        refine lateOp (i := 4) rfl (by rfl) (fun K hK => ?_)
        go_simp
        (go_at_call 27; have q16 := r14.mk (20) (0) (⟨#[109]⟩) (1 + 2) (by decide); clear r14; refine (l15N_any _ _ _ _ _ _).mono ?_; rintro e W15 ⟨rfl, hb⟩; have sT := only_of_below (lo := g) (hi := g + 1) hb; replace q4 := q4.stp sT hgl; replace q6 := q6.stp sT hgl; replace q8 := q8.stp sT hgl; replace r9 := r9.stp sT hgl; replace q16 := q16.stp sT hgl; clear sT; replace TQ := TQ.new hb; clear hb; have hgW := Nat.lt_of_lt_of_le hgY TQ.size; have hS_ := TQ)
        clear hHeld
        refine hK.out _ _ hS_ (fun hHeld => ?_)
        clear hK K hS_
        try simp only [aS]
        refine lateOne (i := 5) (by kernel_rfl) ?_
        refine lateLast (i := 5) rfl (by kernel_rfl) (by rfl) (fun K hK => ?_)
        have RB := hHeld.blk RB (by omega); have ⟨RBl, RBf, RB0, RB1, RB2, RB3⟩ := RB.all
        go_simp
        refine hK.out _ _ ?_
        clear hK K
        try simp only [aS]
        refine lateDone (by kernel_rfl) ?_ _
        replace TK := TK.next hHeld
        (try go_wp2_with fail)
        have RQ := fun x0 x1 x2 x3 => DrT.done (q16.le (show ((100) + (K)) + (1 + 2) ≤ 4 * K + 8000 from by omega)) TK k1 hgw hs1 x0 x1 x2 x3
        refine bodyPost_ret (v := .agg #[.int .i64 (20), .int .i64 (0), .string ⟨#[109]⟩, .slice (some ⟨W12.heap.size, 0, none⟩) 2 2]) (by simp [results, Try.results75, go_sem, RB0, RB1, RB2, RB3, RBl, RBf]) rfl (RQ _ _ _ _)
      · go_upto_region 42 with fail
        have TQ0 : Trk g B W10 W10 := Trk.start TK.cur
        replace q4 := q4.stp (stp_drew g W10) hgl
        replace q6 := q6.stp (stp_drew g W10) hgl
        replace q8 := q8.stp (stp_drew g W10) hgl
        replace r9 := r9.stp (stp_drew g W10) hgl
        have hYs := TK.size
        have hgY := Nat.lt_of_lt_of_le hgl TK.size
        have TQ := TQ0.drew
        refine lateStart (S := (fun w_ => Trk g B W10 w_)) [6] (by kernel_rfl) ?_ (fun hHeld => ?_)
        · (try dsimp only)
          (exact TQ0.drew)
        generalize hW10d : World.drew W10 = W10d at *
        have hgW : g < W10d.heap.size := Nat.lt_of_lt_of_le hgY TQ.size
        (refine lgt (i := 0) (v := ?_) rfl ?_ hHeld ?_; rotate_left; (focus (intro w_ hSw; (try dsimp only at hSw); go_simp; (try with_reducible rfl); done)); try simp only [aS])
        (refine lgt (i := 3) (v := ?_) rfl ?_ hHeld ?_; rotate_left; (focus (intro w_ hSw; (try dsimp only at hSw); have yb := hSw.blk BXa (by omega); have ⟨ybl, ybf, yb0, yb1, yb2, yb3⟩ := yb.all; go_simp; (try with_reducible rfl); done)); try simp only [aS])
        refine lateTwo (i := 1) (j := 4) (by kernel_rfl) ?_ ?_
        · skip
          refine lateOp (i := 1) rfl (by rfl) (fun K hK => ?_)
          go_simp
          (have sT := stp_new g W10d (.cells #[.string ⟨#[65]⟩, .string ⟨#[66]⟩, .string ⟨#[69, 114, 114, 111, 114]⟩] 9); replace q4 := q4.stp sT hgl; replace q6 := q6.stp sT hgl; replace q8 := q8.stp sT hgl; replace r9 := r9.stp sT hgl; clear sT; replace TQ := TQ.alloc (.cells #[.string ⟨#[65]⟩, .string ⟨#[66]⟩, .string ⟨#[69, 114, 114, 111, 114]⟩] 9); have bk12 := Blk.new' W10d 9 #[.string ⟨#[65]⟩, .string ⟨#[66]⟩, .string ⟨#[69, 114, 114, 111, 114]⟩] W10d.heap.size (by simp); have hS_ := TQ)
          clear hHeld
          refine hK.out _ _ hS_ (fun hHeld => ?_)
          clear hK K hS_
          try simp only [aS]
          refine lateTwo (i := 2) (j := 4) (by kernel_rfl) ?_ ?_
          · skip
            refine lateOp (i := 2) rfl (by rfl) (fun K hK => ?_)
            go_simp
            (go_at_call 28; refine (l1StrK g B 3 100 W10d.heap.size _ _ _ (by decide) (by decide) (by kernel_rfl) TQ.cur bk12 (by omega)).mono ?_; rintro e W13 ⟨⟨s14, hs14, rfl⟩, U, O⟩; replace q4 := q4.stp O hgl; replace q6 := q6.stp O hgl; replace q8 := q8.stp O hgl; replace r9 := r9.stp O hgl; replace bk12 := bk12.only O (Nat.le_refl _) (by omega); replace TQ := TQ.call U O; clear U O; have hgW := Nat.lt_of_lt_of_le hgY TQ.size; have hS_ := TQ)
            clear hHeld
            refine hK.out _ _ hS_ (fun hHeld => ?_)
            clear hK K hS_
            try simp only [aS]
            refine lateOne (i := 4) (by kernel_rfl) ?_
            refine lateOp (i := 4) rfl (by rfl) (fun K hK => ?_)
            go_simp
            (have r15 := Rw.row1 W13.heap.size (by simp) (Nat.le_trans hYs TQ.size) q4; have sT := stp_new g W13 (.cells #[.int .i64 k4, .int .i64 n4, .string t4, .slice A4 m4 c4] 29); replace q4 := q4.stp sT hgl; replace q6 := q6.stp sT hgl; replace q8 := q8.stp sT hgl; replace r9 := r9.stp sT hgl; replace bk12 := bk12.only sT (Nat.le_refl _) (by omega); clear sT; replace TQ := TQ.alloc (.cells #[.int .i64 k4, .int .i64 n4, .string t4, .slice A4 m4 c4] 29); have hS_ := TQ)
            clear hHeld
            refine hK.out _ _ hS_ (fun hHeld => ?_)
            clear hK K hS_
            try simp only [aS]
            refine lateOne (i := 5) (by kernel_rfl) ?_
            refine lateOp (i := 5) rfl (by rfl) (fun K hK => ?_)
            go_simp
            (go_at_call 27; have q17 := r15.mk (22) (0) (s14) (100 + 1) (by omega); clear r15; refine (l15N_any _ _ _ _ _ _).mono ?_; rintro e W16 ⟨rfl, hb⟩; have sT := only_of_below (lo := g) (hi := g + 1) hb; replace q4 := q4.stp sT hgl; replace q6 := q6.stp sT hgl; replace q8 := q8.stp sT hgl; replace r9 := r9.stp sT hgl; replace q17 := q17.stp sT hgl; replace bk12 := bk12.only sT (Nat.le_refl _) (by omega); clear sT; replace TQ := TQ.new hb; clear hb; have hgW := Nat.lt_of_lt_of_le hgY TQ.size; have hS_ := TQ)
            clear hHeld
            refine hK.out _ _ hS_ (fun hHeld => ?_)
            clear hK K hS_
            try simp only [aS]
            refine lateOne (i := 6) (by kernel_rfl) ?_
            refine lateLast (i := 6) rfl (by kernel_rfl) (by rfl) (fun K hK => ?_)
            have RB := hHeld.blk RB (by omega); have ⟨RBl, RBf, RB0, RB1, RB2, RB3⟩ := RB.all
            go_simp
            refine hK.out _ _ ?_
            clear hK K
            try simp only [aS]
            refine lateDone (by kernel_rfl) ?_ _
            replace TK := TK.next hHeld
            (try go_wp2_with fail)
            have RQ := fun x0 x1 x2 x3 => DrT.done (q17.le (show ((K)) + (100 + 1) ≤ 4 * K + 8000 from by omega)) TK k1 hgw hs1 x0 x1 x2 x3
            refine bodyPost_ret (v := .agg #[.int .i64 (22), .int .i64 (0), .string s14, .slice (some ⟨W13.heap.size, 0, none⟩) 1 1]) (by simp [results, Try.results75, go_sem, RB0, RB1, RB2, RB3, RBl, RBf]) rfl (RQ _ _ _ _)
          · skip
            refine lateOp (i := 4) rfl (by rfl) (fun K hK => ?_)
            go_simp
            (have r13 := Rw.row1 (W10d.heap.size + 1) (by simp) (Nat.le_trans hYs TQ.size) q4; have sT := stp_new g (World.alloc W10d (.cells #[.string ⟨#[65]⟩, .string ⟨#[66]⟩, .string ⟨#[69, 114, 114, 111, 114]⟩] 9)) (.cells #[.int .i64 k4, .int .i64 n4, .string t4, .slice A4 m4 c4] 29); replace q4 := q4.stp sT hgl; replace q6 := q6.stp sT hgl; replace q8 := q8.stp sT hgl; replace r9 := r9.stp sT hgl; replace bk12 := bk12.only sT (Nat.le_refl _) (by omega); clear sT; replace TQ := TQ.alloc (.cells #[.int .i64 k4, .int .i64 n4, .string t4, .slice A4 m4 c4] 29); have hS_ := TQ)
            clear hHeld
            refine hK.out _ _ hS_ (fun hHeld => ?_)
            clear hK K hS_
            try simp only [aS]
            refine lateOne (i := 2) (by kernel_rfl) ?_
            refine lateOp (i := 2) rfl (by rfl) (fun K hK => ?_)
            go_simp
            (go_at_call 28; refine (l1StrK g B 3 100 W10d.heap.size _ _ _ (by decide) (by decide) (by kernel_rfl) TQ.cur bk12 (by omega)).mono ?_; rintro e W14 ⟨⟨s15, hs15, rfl⟩, U, O⟩; replace q4 := q4.stp O hgl; replace q6 := q6.stp O hgl; replace q8 := q8.stp O hgl; replace r9 := r9.stp O hgl; replace r13 := r13.stp O hgl; replace bk12 := bk12.only O (Nat.le_refl _) (by omega); replace TQ := TQ.call U O; clear U O; have hgW := Nat.lt_of_lt_of_le hgY TQ.size; have hS_ := TQ)
            clear hHeld
            refine hK.out _ _ hS_ (fun hHeld => ?_)
            clear hK K hS_
            try simp only [aS]
            refine lateOne (i := 5) (by kernel_rfl) ?_
            refine lateOp (i := 5) rfl (by rfl) (fun K hK => ?_)
            go_simp
            (go_at_call 27; have q17 := r13.mk (22) (0) (s15) (100 + 1) (by omega); clear r13; refine (l15N_any _ _ _ _ _ _).mono ?_; rintro e W16 ⟨rfl, hb⟩; have sT := only_of_below (lo := g) (hi := g + 1) hb; replace q4 := q4.stp sT hgl; replace q6 := q6.stp sT hgl; replace q8 := q8.stp sT hgl; replace r9 := r9.stp sT hgl; replace q17 := q17.stp sT hgl; replace bk12 := bk12.only sT (Nat.le_refl _) (by omega); clear sT; replace TQ := TQ.new hb; clear hb; have hgW := Nat.lt_of_lt_of_le hgY TQ.size; have hS_ := TQ)
            clear hHeld
            refine hK.out _ _ hS_ (fun hHeld => ?_)
            clear hK K hS_
            try simp only [aS]
            refine lateOne (i := 6) (by kernel_rfl) ?_
            refine lateLast (i := 6) rfl (by kernel_rfl) (by rfl) (fun K hK => ?_)
            have RB := hHeld.blk RB (by omega); have ⟨RBl, RBf, RB0, RB1, RB2, RB3⟩ := RB.all
            go_simp
            refine hK.out _ _ ?_
            clear hK K
            try simp only [aS]
            refine lateDone (by kernel_rfl) ?_ _
            replace TK := TK.next hHeld
            (try go_wp2_with fail)
            have RQ := fun x0 x1 x2 x3 => DrT.done (q17.le (show ((K)) + (100 + 1) ≤ 4 * K + 8000 from by omega)) TK k1 hgw hs1 x0 x1 x2 x3
            refine bodyPost_ret (v := .agg #[.int .i64 (22), .int .i64 (0), .string s15, .slice (some ⟨(W10d.heap.size + 1), 0, none⟩) 1 1]) (by simp [results, Try.results75, go_sem, RB0, RB1, RB2, RB3, RBl, RBf]) rfl (RQ _ _ _ _)
        · skip
          refine lateOp (i := 4) rfl (by rfl) (fun K hK => ?_)
          go_simp
          (have r12 := Rw.row1 W10d.heap.size (by simp) (Nat.le_trans hYs TQ.size) q4; have sT := stp_new g W10d (.cells #[.int .i64 k4, .int .i64 n4, .string t4, .slice A4 m4 c4] 29); replace q4 := q4.stp sT hgl; replace q6 := q6.stp sT hgl; replace q8 := q8.stp sT hgl; replace r9 := r9.stp sT hgl; clear sT; replace TQ := TQ.alloc (.cells #[.int .i64 k4, .int .i64 n4, .string t4, .slice A4 m4 c4] 29); have hS_ := TQ)
          clear hHeld
          refine hK.out _ _ hS_ (fun hHeld => ?_)
          clear hK K hS_
          try simp only [aS]
          refine lateOne (i := 1) (by kernel_rfl) ?_
          refine lateOp (i := 1) rfl (by rfl) (fun K hK => ?_)
          go_simp
          (have sT := stp_new g (World.alloc W10d (.cells #[.int .i64 k4, .int .i64 n4, .string t4, .slice A4 m4 c4] 29)) (.cells #[.string ⟨#[65]⟩, .string ⟨#[66]⟩, .string ⟨#[69, 114, 114, 111, 114]⟩] 9); replace q4 := q4.stp sT hgl; replace q6 := q6.stp sT hgl; replace q8 := q8.stp sT hgl; replace r9 := r9.stp sT hgl; replace r12 := r12.stp sT hgl; clear sT; replace TQ := TQ.alloc (.cells #[.string ⟨#[65]⟩, .string ⟨#[66]⟩, .string ⟨#[69, 114, 114, 111, 114]⟩] 9); have bk13 := Blk.new' (World.alloc W10d (.cells #[.int .i64 k4, .int .i64 n4, .string t4, .slice A4 m4 c4] 29)) 9 #[.string ⟨#[65]⟩, .string ⟨#[66]⟩, .string ⟨#[69, 114, 114, 111, 114]⟩] (W10d.heap.size + 1) (by simp); have hS_ := TQ)
          clear hHeld
          refine hK.out _ _ hS_ (fun hHeld => ?_)
          clear hK K hS_
          try simp only [aS]
          refine lateOne (i := 2) (by kernel_rfl) ?_
          refine lateOp (i := 2) rfl (by rfl) (fun K hK => ?_)
          go_simp
          (go_at_call 28; refine (l1StrK g B 3 100 (W10d.heap.size + 1) _ _ _ (by decide) (by decide) (by kernel_rfl) TQ.cur bk13 (by omega)).mono ?_; rintro e W14 ⟨⟨s15, hs15, rfl⟩, U, O⟩; replace q4 := q4.stp O hgl; replace q6 := q6.stp O hgl; replace q8 := q8.stp O hgl; replace r9 := r9.stp O hgl; replace r12 := r12.stp O hgl; replace bk13 := bk13.only O (Nat.le_refl _) (by omega); replace TQ := TQ.call U O; clear U O; have hgW := Nat.lt_of_lt_of_le hgY TQ.size; have hS_ := TQ)
          clear hHeld
          refine hK.out _ _ hS_ (fun hHeld => ?_)
          clear hK K hS_
          try simp only [aS]
          refine lateOne (i := 5) (by kernel_rfl) ?_
          refine lateOp (i := 5) rfl (by rfl) (fun K hK => ?_)
          go_simp
          (go_at_call 27; have q17 := r12.mk (22) (0) (s15) (100 + 1) (by omega); clear r12; refine (l15N_any _ _ _ _ _ _).mono ?_; rintro e W16 ⟨rfl, hb⟩; have sT := only_of_below (lo := g) (hi := g + 1) hb; replace q4 := q4.stp sT hgl; replace q6 := q6.stp sT hgl; replace q8 := q8.stp sT hgl; replace r9 := r9.stp sT hgl; replace q17 := q17.stp sT hgl; replace bk13 := bk13.only sT (Nat.le_refl _) (by omega); clear sT; replace TQ := TQ.new hb; clear hb; have hgW := Nat.lt_of_lt_of_le hgY TQ.size; have hS_ := TQ)
          clear hHeld
          refine hK.out _ _ hS_ (fun hHeld => ?_)
          clear hK K hS_
          try simp only [aS]
          refine lateOne (i := 6) (by kernel_rfl) ?_
          refine lateLast (i := 6) rfl (by kernel_rfl) (by rfl) (fun K hK => ?_)
          have RB := hHeld.blk RB (by omega); have ⟨RBl, RBf, RB0, RB1, RB2, RB3⟩ := RB.all
          go_simp
          refine hK.out _ _ ?_
          clear hK K
          try simp only [aS]
          refine lateDone (by kernel_rfl) ?_ _
          replace TK := TK.next hHeld
          (try go_wp2_with fail)
          have RQ := fun x0 x1 x2 x3 => DrT.done (q17.le (show ((K)) + (100 + 1) ≤ 4 * K + 8000 from by omega)) TK k1 hgw hs1 x0 x1 x2 x3
          refine bodyPost_ret (v := .agg #[.int .i64 (22), .int .i64 (0), .string s15, .slice (some ⟨W10d.heap.size, 0, none⟩) 1 1]) (by simp [results, Try.results75, go_sem, RB0, RB1, RB2, RB3, RBl, RBf]) rfl (RQ _ _ _ _)
      · go_upto_region 44 with fail
        have TQ0 : Trk g B W10 W10 := Trk.start TK.cur
        replace q4 := q4.stp (stp_drew g W10) hgl
        replace q6 := q6.stp (stp_drew g W10) hgl
        replace q8 := q8.stp (stp_drew g W10) hgl
        replace r9 := r9.stp (stp_drew g W10) hgl
        have hYs := TK.size
        have hgY := Nat.lt_of_lt_of_le hgl TK.size
        have TQ := TQ0.drew
        refine lateStart (S := (fun w_ => Trk g B W10 w_)) [6] (by kernel_rfl) ?_ (fun hHeld => ?_)
        · (try dsimp only)
          (exact TQ0.drew)
        generalize hW10d : World.drew W10 = W10d at *
        have hgW : g < W10d.heap.size := Nat.lt_of_lt_of_le hgY TQ.size
        (refine lgt (i := 0) (v := ?_) rfl ?_ hHeld ?_; rotate_left; (focus (intro w_ hSw; (try dsimp only at hSw); go_simp; (try with_reducible rfl); done)); try simp only [aS])
        (refine lgt (i := 3) (v := ?_) rfl ?_ hHeld ?_; rotate_left; (focus (intro w_ hSw; (try dsimp only at hSw); have yb := hSw.blk BXb (by omega); have ⟨ybl, ybf, yb0, yb1, yb2, yb3⟩ := yb.all; go_simp; (try with_reducible rfl); done)); try simp only [aS])
        refine lateTwo (i := 1) (j := 4) (by kernel_rfl) ?_ ?_
        · skip
          refine lateOp (i := 1) rfl (by rfl) (fun K hK => ?_)
          go_simp
          (have sT := stp_new g W10d (.cells #[.string ⟨#[65, 58, 58, 115]⟩, .string ⟨#[115, 101, 108, 102, 58, 58, 109]⟩, .string ⟨#[115, 116, 97, 116, 105, 99, 58, 58, 115]⟩, .string ⟨#[112, 97, 114, 101, 110, 116, 58, 58, 109]⟩] 9); replace q4 := q4.stp sT hgl; replace q6 := q6.stp sT hgl; replace q8 := q8.stp sT hgl; replace r9 := r9.stp sT hgl; clear sT; replace TQ := TQ.alloc (.cells #[.string ⟨#[65, 58, 58, 115]⟩, .string ⟨#[115, 101, 108, 102, 58, 58, 109]⟩, .string ⟨#[115, 116, 97, 116, 105, 99, 58, 58, 115]⟩, .string ⟨#[112, 97, 114, 101, 110, 116, 58, 58, 109]⟩] 9); have bk12 := Blk.new' W10d 9 #[.string ⟨#[65, 58, 58, 115]⟩, .string ⟨#[115, 101, 108, 102, 58, 58, 109]⟩, .string ⟨#[115, 116, 97, 116, 105, 99, 58, 58, 115]⟩, .string ⟨#[112, 97, 114, 101, 110, 116, 58, 58, 109]⟩] W10d.heap.size (by simp); have hS_ := TQ)
          clear hHeld
          refine hK.out _ _ hS_ (fun hHeld => ?_)
          clear hK K hS_
          try simp only [aS]
          refine lateTwo (i := 2) (j := 4) (by kernel_rfl) ?_ ?_
          · skip
            refine lateOp (i := 2) rfl (by rfl) (fun K hK => ?_)
            go_simp
            (go_at_call 28; refine (l1StrK g B 4 100 W10d.heap.size _ _ _ (by decide) (by decide) (by kernel_rfl) TQ.cur bk12 (by omega)).mono ?_; rintro e W13 ⟨⟨s14, hs14, rfl⟩, U, O⟩; replace q4 := q4.stp O hgl; replace q6 := q6.stp O hgl; replace q8 := q8.stp O hgl; replace r9 := r9.stp O hgl; replace bk12 := bk12.only O (Nat.le_refl _) (by omega); replace TQ := TQ.call U O; clear U O; have hgW := Nat.lt_of_lt_of_le hgY TQ.size; have hS_ := TQ)
            clear hHeld
            refine hK.out _ _ hS_ (fun hHeld => ?_)
            clear hK K hS_
            try simp only [aS]
            refine lateOne (i := 4) (by kernel_rfl) ?_
            refine lateOp (i := 4) rfl (by rfl) (fun K hK => ?_)
            go_simp
            (have r15 := Rw.row1 W13.heap.size (by simp) (Nat.le_trans hYs TQ.size) q6; have sT := stp_new g W13 (.cells #[.int .i64 k6, .int .i64 n6, .string t6, .slice A6 m6 c6] 29); replace q4 := q4.stp sT hgl; replace q6 := q6.stp sT hgl; replace q8 := q8.stp sT hgl; replace r9 := r9.stp sT hgl; replace bk12 := bk12.only sT (Nat.le_refl _) (by omega); clear sT; replace TQ := TQ.alloc (.cells #[.int .i64 k6, .int .i64 n6, .string t6, .slice A6 m6 c6] 29); have hS_ := TQ)
            clear hHeld
            refine hK.out _ _ hS_ (fun hHeld => ?_)
            clear hK K hS_
            try simp only [aS]
            refine lateOne (i := 5) (by kernel_rfl) ?_
            refine lateOp (i := 5) rfl (by rfl) (fun K hK => ?_)
            go_simp
            (go_at_call 27; have q17 := r15.mk (21) (0) (s14) (100 + 1) (by omega); clear r15; refine (l15N_any _ _ _ _ _ _).mono ?_; rintro e W16 ⟨rfl, hb⟩; have sT := only_of_below (lo := g) (hi := g + 1) hb; replace q4 := q4.stp sT hgl; replace q6 := q6.stp sT hgl; replace q8 := q8.stp sT hgl; replace r9 := r9.stp sT hgl; replace q17 := q17.stp sT hgl; replace bk12 := bk12.only sT (Nat.le_refl _) (by omega); clear sT; replace TQ := TQ.new hb; clear hb; have hgW := Nat.lt_of_lt_of_le hgY TQ.size; have hS_ := TQ)
            clear hHeld
            refine hK.out _ _ hS_ (fun hHeld => ?_)
            clear hK K hS_
            try simp only [aS]
            refine lateOne (i := 6) (by kernel_rfl) ?_
            refine lateLast (i := 6) rfl (by kernel_rfl) (by rfl) (fun K hK => ?_)
            have RB := hHeld.blk RB (by omega); have ⟨RBl, RBf, RB0, RB1, RB2, RB3⟩ := RB.all
            go_simp
            refine hK.out _ _ ?_
            clear hK K
            try simp only [aS]
            refine lateDone (by kernel_rfl) ?_ _
            replace TK := TK.next hHeld
            (try go_wp2_with fail)
            have RQ := fun x0 x1 x2 x3 => DrT.done (q17.le (show ((K)) + (100 + 1) ≤ 4 * K + 8000 from by omega)) TK k1 hgw hs1 x0 x1 x2 x3
            refine bodyPost_ret (v := .agg #[.int .i64 (21), .int .i64 (0), .string s14, .slice (some ⟨W13.heap.size, 0, none⟩) 1 1]) (by simp [results, Try.results75, go_sem, RB0, RB1, RB2, RB3, RBl, RBf]) rfl (RQ _ _ _ _)
          · skip
            refine lateOp (i := 4) rfl (by rfl) (fun K hK => ?_)
            go_simp
            (have r13 := Rw.row1 (W10d.heap.size + 1) (by simp) (Nat.le_trans hYs TQ.size) q6; have sT := stp_new g (World.alloc W10d (.cells #[.string ⟨#[65, 58, 58, 115]⟩, .string ⟨#[115, 101, 108, 102, 58, 58, 109]⟩, .string ⟨#[115, 116, 97, 116, 105, 99, 58, 58, 115]⟩, .string ⟨#[112, 97, 114, 101, 110, 116, 58, 58, 109]⟩] 9)) (.cells #[.int .i64 k6, .int .i64 n6, .string t6, .slice A6 m6 c6] 29); replace q4 := q4.stp sT hgl; replace q6 := q6.stp sT hgl; replace q8 := q8.stp sT hgl; replace r9 := r9.stp sT hgl; replace bk12 := bk12.only sT (Nat.le_refl _) (by omega); clear sT; replace TQ := TQ.alloc (.cells #[.int .i64 k6, .int .i64 n6, .string t6, .slice A6 m6 c6] 29); have hS_ := TQ)
            clear hHeld
            refine hK.out _ _ hS_ (fun hHeld => ?_)
            clear hK K hS_
            try simp only [aS]
            refine lateOne (i := 2) (by kernel_rfl) ?_
            refine lateOp (i := 2) rfl (by rfl) (fun K hK => ?_)
            go_simp
            (go_at_call 28; refine (l1StrK g B 4 100 W10d.heap.size _ _ _ (by decide) (by decide) (by kernel_rfl) TQ.cur bk12 (by omega)).mono ?_; rintro e W14 ⟨⟨s15, hs15, rfl⟩, U, O⟩; replace q4 := q4.stp O hgl; replace q6 := q6.stp O hgl; replace q8 := q8.stp O hgl; replace r9 := r9.stp O hgl; replace r13 := r13.stp O hgl; replace bk12 := bk12.only O (Nat.le_refl _) (by omega); replace TQ := TQ.call U O; clear U O; have hgW := Nat.lt_of_lt_of_le hgY TQ.size; have hS_ := TQ)
            clear hHeld
            refine hK.out _ _ hS_ (fun hHeld => ?_)
            clear hK K hS_
            try simp only [aS]
            refine lateOne (i := 5) (by kernel_rfl) ?_
            refine lateOp (i := 5) rfl (by rfl) (fun K hK => ?_)
            go_simp
            (go_at_call 27; have q17 := r13.mk (21) (0) (s15) (100 + 1) (by omega); clear r13; refine (l15N_any _ _ _ _ _ _).mono ?_; rintro e W16 ⟨rfl, hb⟩; have sT := only_of_below (lo := g) (hi := g + 1) hb; replace q4 := q4.stp sT hgl; replace q6 := q6.stp sT hgl; replace q8 := q8.stp sT hgl; replace r9 := r9.stp sT hgl; replace q17 := q17.stp sT hgl; replace bk12 := bk12.only sT (Nat.le_refl _) (by omega); clear sT; replace TQ := TQ.new hb; clear hb; have hgW := Nat.lt_of_lt_of_le hgY TQ.size; have hS_ := TQ)
            clear hHeld
            refine hK.out _ _ hS_ (fun hHeld => ?_)
            clear hK K hS_
            try simp only [aS]
            refine lateOne (i := 6) (by kernel_rfl) ?_
            refine lateLast (i := 6) rfl (by kernel_rfl) (by rfl) (fun K hK => ?_)
            have RB := hHeld.blk RB (by omega); have ⟨RBl, RBf, RB0, RB1, RB2, RB3⟩ := RB.all
            go_simp
            refine hK.out _ _ ?_
            clear hK K
            try simp only [aS]
            refine lateDone (by kernel_rfl) ?_ _
            replace TK := TK.next hHeld
            (try go_wp2_with fail)
            have RQ := fun x0 x1 x2 x3 => DrT.done (q17.le (show ((K)) + (100 + 1) ≤ 4 * K + 8000 from by omega)) TK k1 hgw hs1 x0 x1 x2 x3
            refine bodyPost_ret (v := .agg #[.int .i64 (21), .int .i64 (0), .string s15, .slice (some ⟨(W10d.heap.size + 1), 0, none⟩) 1 1]) (by simp [results, Try.results75, go_sem, RB0, RB1, RB2, RB3, RBl, RBf]) rfl (RQ _ _ _ _)
        · skip
          refine lateOp (i := 4) rfl (by rfl) (fun K hK => ?_)
          go_simp
          (have r12 := Rw.row1 W10d.heap.size (by simp) (Nat.le_trans hYs TQ.size) q6; have sT := stp_new g W10d (.cells #[.int .i64 k6, .int .i64 n6, .string t6, .slice A6 m6 c6] 29); replace q4 := q4.stp sT hgl; replace q6 := q6.stp sT hgl; replace q8 := q8.stp sT hgl; replace r9 := r9.stp sT hgl; clear sT; replace TQ := TQ.alloc (.cells #[.int .i64 k6, .int .i64 n6, .string t6, .slice A6 m6 c6] 29); have hS_ := TQ)
          clear hHeld
          refine hK.out _ _ hS_ (fun hHeld => ?_)
          clear hK K hS_
          try simp only [aS]
          refine lateOne (i := 1) (by kernel_rfl) ?_
          refine lateOp (i := 1) rfl (by rfl) (fun K hK => ?_)
          go_simp
          (have sT := stp_new g (World.alloc W10d (.cells #[.int .i64 k6, .int .i64 n6, .string t6, .slice A6 m6 c6] 29)) (.cells #[.string ⟨#[65, 58, 58, 115]⟩, .string ⟨#[115, 101, 108, 102, 58, 58, 109]⟩, .string ⟨#[115, 116, 97, 116, 105, 99, 58, 58, 115]⟩, .string ⟨#[112, 97, 114, 101, 110, 116, 58, 58, 109]⟩] 9); replace q4 := q4.stp sT hgl; replace q6 := q6.stp sT hgl; replace q8 := q8.stp sT hgl; replace r9 := r9.stp sT hgl; replace r12 := r12.stp sT hgl; clear sT; replace TQ := TQ.alloc (.cells #[.string ⟨#[65, 58, 58, 115]⟩, .string ⟨#[115, 101, 108, 102, 58, 58, 109]⟩, .string ⟨#[115, 116, 97, 116, 105, 99, 58, 58, 115]⟩, .string ⟨#[112, 97, 114, 101, 110, 116, 58, 58, 109]⟩] 9); have bk13 := Blk.new' (World.alloc W10d (.cells #[.int .i64 k6, .int .i64 n6, .string t6, .slice A6 m6 c6] 29)) 9 #[.string ⟨#[65, 58, 58, 115]⟩, .string ⟨#[115, 101, 108, 102, 58, 58, 109]⟩, .string ⟨#[115, 116, 97, 116, 105, 99, 58, 58, 115]⟩, .string ⟨#[112, 97, 114, 101, 110, 116, 58, 58, 109]⟩] (W10d.heap.size + 1) (by simp); have hS_ := TQ)
          clear hHeld
          refine hK.out _ _ hS_ (fun hHeld => ?_)
          clear hK K hS_
          try simp only [aS]
          refine lateOne (i := 2) (by kernel_rfl) ?_
          refine lateOp (i := 2) rfl (by rfl) (fun K hK => ?_)
          go_simp
          (go_at_call 28; refine (l1StrK g B 4 100 (W10d.heap.size + 1) _ _ _ (by decide) (by decide) (by kernel_rfl) TQ.cur bk13 (by omega)).mono ?_; rintro e W14 ⟨⟨s15, hs15, rfl⟩, U, O⟩; replace q4 := q4.stp O hgl; replace q6 := q6.stp O hgl; replace q8 := q8.stp O hgl; replace r9 := r9.stp O hgl; replace r12 := r12.stp O hgl; replace bk13 := bk13.only O (Nat.le_refl _) (by omega); replace TQ := TQ.call U O; clear U O; have hgW := Nat.lt_of_lt_of_le hgY TQ.size; have hS_ := TQ)
          clear hHeld
          refine hK.out _ _ hS_ (fun hHeld => ?_)
          clear hK K hS_
          try simp only [aS]
          refine lateOne (i := 5) (by kernel_rfl) ?_
          refine lateOp (i := 5) rfl (by rfl) (fun K hK => ?_)
          go_simp
          (go_at_call 27; have q17 := r12.mk (21) (0) (s15) (100 + 1) (by omega); clear r12; refine (l15N_any _ _ _ _ _ _).mono ?_; rintro e W16 ⟨rfl, hb⟩; have sT := only_of_below (lo := g) (hi := g + 1) hb; replace q4 := q4.stp sT hgl; replace q6 := q6.stp sT hgl; replace q8 := q8.stp sT hgl; replace r9 := r9.stp sT hgl; replace q17 := q17.stp sT hgl; replace bk13 := bk13.only sT (Nat.le_refl _) (by omega); clear sT; replace TQ := TQ.new hb; clear hb; have hgW := Nat.lt_of_lt_of_le hgY TQ.size; have hS_ := TQ)
          clear hHeld
          refine hK.out _ _ hS_ (fun hHeld => ?_)
          clear hK K hS_
          try simp only [aS]
          refine lateOne (i := 6) (by kernel_rfl) ?_
          refine lateLast (i := 6) rfl (by kernel_rfl) (by rfl) (fun K hK => ?_)
          have RB := hHeld.blk RB (by omega); have ⟨RBl, RBf, RB0, RB1, RB2, RB3⟩ := RB.all
          go_simp
          refine hK.out _ _ ?_
          clear hK K
          try simp only [aS]
          refine lateDone (by kernel_rfl) ?_ _
          replace TK := TK.next hHeld
          (try go_wp2_with fail)
          have RQ := fun x0 x1 x2 x3 => DrT.done (q17.le (show ((K)) + (100 + 1) ≤ 4 * K + 8000 from by omega)) TK k1 hgw hs1 x0 x1 x2 x3
          refine bodyPost_ret (v := .agg #[.int .i64 (21), .int .i64 (0), .string s15, .slice (some ⟨W10d.heap.size, 0, none⟩) 1 1]) (by simp [results, Try.results75, go_sem, RB0, RB1, RB2, RB3, RBl, RBf]) rfl (RQ _ _ _ _)
      · have ⟨BXal, BXaf, BXa0, BXa1, BXa2, BXa3⟩ := BXa.all
        go_upto_region 47 with (first | (have _q := tok46_1; go_at_call 27; have r15 := Rw.row1 W13.heap.size (by simp) TK.size q14; clear q14; have sT := stp_new g W13 (.cells #[.int .i64 (39), .int .i64 (0), .string ⟨#[]⟩, .slice (some ⟨W10.heap.size, 0, none⟩) 1 1] 29); replace q4 := q4.stp sT hgl; replace q6 := q6.stp sT hgl; replace q8 := q8.stp sT hgl; replace r9 := r9.stp sT hgl; replace RB := RB.only sT (Nat.le_refl _) (by omega); replace BXa := BXa.only sT (Nat.le_refl _) (by omega); replace BXb := BXb.only sT (Nat.le_refl _) (by omega); replace BXt := BXt.only sT (Nat.le_refl _) (by omega); clear sT; replace TK := TK.alloc (.cells #[.int .i64 (39), .int .i64 (0), .string ⟨#[]⟩, .slice (some ⟨W10.heap.size, 0, none⟩) 1 1] 29); have q17 := r15.mk (48) (0) (⟨#[]⟩) (0 + 1) (by decide); clear r15; refine (l15N_any _ _ _ _ _ _).mono ?_; rintro e W16 ⟨rfl, hb⟩; have sT := only_of_below (lo := g) (hi := g + 1) hb; replace q4 := q4.stp sT hgl; replace q6 := q6.stp sT hgl; replace q8 := q8.stp sT hgl; replace r9 := r9.stp sT hgl; replace q17 := q17.stp sT hgl; replace RB := RB.only sT (Nat.le_refl _) (by omega); replace BXa := BXa.only sT (Nat.le_refl _) (by omega); replace BXb := BXb.only sT (Nat.le_refl _) (by omega); replace BXt := BXt.only sT (Nat.le_refl _) (by omega); clear sT; replace TK := TK.new hb; clear hb; have hgW := Nat.lt_of_lt_of_le hgl TK.size; have tok46_2 : True := trivial) | (go_at_call 27; have r12 := Rw.row1 W10.heap.size (by simp) TK.size q4; have sT := stp_new g W10 (.cells #[.int .i64 k4, .int .i64 n4, .string t4, .slice A4 m4 c4] 29); replace q4 := q4.stp sT hgl; replace q6 := q6.stp sT hgl; replace q8 := q8.stp sT hgl; replace r9 := r9.stp sT hgl; replace RB := RB.only sT (Nat.le_refl _) (by omega); replace BXa := BXa.only sT (Nat.le_refl _) (by omega); replace BXb := BXb.only sT (Nat.le_refl _) (by omega); replace BXt := BXt.only sT (Nat.le_refl _) (by omega); clear sT; replace TK := TK.alloc (.cells #[.int .i64 k4, .int .i64 n4, .string t4, .slice A4 m4 c4] 29); have q14 := r12.mk (39) (0) (⟨#[]⟩) (0 + 1) (by decide); clear r12; refine (l15N_any _ _ _ _ _ _).mono ?_; rintro e W13 ⟨rfl, hb⟩; have sT := only_of_below (lo := g) (hi := g + 1) hb; replace q4 := q4.stp sT hgl; replace q6 := q6.stp sT hgl; replace q8 := q8.stp sT hgl; replace r9 := r9.stp sT hgl; replace q14 := q14.stp sT hgl; replace RB := RB.only sT (Nat.le_refl _) (by omega); replace BXa := BXa.only sT (Nat.le_refl _) (by omega); replace BXb := BXb.only sT (Nat.le_refl _) (by omega); replace BXt := BXt.only sT (Nat.le_refl _) (by omega); clear sT; replace TK := TK.new hb; clear hb; have hgW := Nat.lt_of_lt_of_le hgl TK.size; have tok46_1 : True := trivial))
        have sT := stp_new g W16 (.cells #[.int .i64 (48), .int .i64 (0), .string ⟨#[]⟩, .slice (some ⟨W13.heap.size, 0, none⟩) 1 1] 29)
        replace q4 := q4.stp sT hgl
        replace q6 := q6.stp sT hgl
        replace q8 := q8.stp sT hgl
        replace r9 := r9.stp sT hgl
        replace q17 := q17.stp sT hgl
        replace RB := RB.only sT (Nat.le_refl _) (by omega)
        replace BXa := BXa.only sT (Nat.le_refl _) (by omega)
        replace BXb := BXb.only sT (Nat.le_refl _) (by omega)
        replace BXt := BXt.only sT (Nat.le_refl _) (by omega)
        clear sT
        replace TK := TK.alloc (.cells #[.int .i64 (48), .int .i64 (0), .string ⟨#[]⟩, .slice (some ⟨W13.heap.size, 0, none⟩) 1 1] 29)
        have hBXy : g < W16.heap.size := by omega
        have BXy := Blk.new' W16 29 #[.int .i64 (48), .int .i64 (0), .string ⟨#[]⟩, .slice (some ⟨W13.heap.size, 0, none⟩) 1 1] W16.heap.size (by simp)
        generalize hY18 : (World.alloc W16 (.cells #[.int .i64 (48), .int .i64 (0), .string ⟨#[]⟩, .slice (some ⟨W13.heap.size, 0, none⟩) 1 1] 29)) = Y18 at *
        clear hY18
        have TQ0 : Trk g B Y18 Y18 := Trk.start TK.cur
        replace q4 := q4.stp (stp_drew g Y18) hgl
        replace q6 := q6.stp (stp_drew g Y18) hgl
        replace q8 := q8.stp (stp_drew g Y18) hgl
        replace r9 := r9.stp (stp_drew g Y18) hgl
        replace q17 := q17.stp (stp_drew g Y18) hgl
        have hYs := TK.size
        have hgY := Nat.lt_of_lt_of_le hgl TK.size
        have TQ := TQ0.drew
        refine lateStart (S := (fun w_ => Trk g B Y18 w_)) [9] (by kernel_rfl) ?_ (fun hHeld => ?_)
        · (try dsimp only)
          (exact TQ0.drew)
        generalize hY18d : World.drew Y18 = Y18d at *
        have hgW : g < Y18d.heap.size := Nat.lt_of_lt_of_le hgY TQ.size
        (refine lgt (i := 0) (v := ?_) rfl ?_ hHeld ?_; rotate_left; (focus (intro w_ hSw; (try dsimp only at hSw); go_simp; (try with_reducible rfl); done)); try simp only [aS])
        (refine lgt (i := 3) (v := ?_) rfl ?_ hHeld ?_; rotate_left; (focus (intro w_ hSw; (try dsimp only at hSw); go_simp; (try with_reducible rfl); done)); try simp only [aS])
        (refine lgt (i := 6) (v := ?_) rfl ?_ hHeld ?_; rotate_left; (focus (intro w_ hSw; (try dsimp only at hSw); have yb := hSw.blk BXy (by omega); have ⟨ybl, ybf, yb0, yb1, yb2, yb3⟩ := yb.all; go_simp; (try with_reducible rfl); done)); try simp only [aS])
        refine lateOne (i := 1) (by kernel_rfl) ?_
        refine lateOp (i := 1) rfl (by rfl) (fun K hK => ?_)
        go_simp
        (go_at_call 30; refine (l1Below_any g B 2 (by decide) (by decide) _ TQ.cur).mono ?_; rintro e W19 ⟨⟨x20, hx20, rfl⟩, U, O⟩; replace q4 := q4.stp O hgl; replace q6 := q6.stp O hgl; replace q8 := q8.stp O hgl; replace r9 := r9.stp O hgl; replace q17 := q17.stp O hgl; replace TQ := TQ.call U O; clear U O; have hgW := Nat.lt_of_lt_of_le hgY TQ.size; have hS_ := TQ)
        clear hHeld
        refine hK.out _ _ hS_ (fun hHeld => ?_)
        clear hK K hS_
        try simp only [aS]
        (refine lgt (i := 2) (v := ?_) rfl ?_ hHeld ?_; rotate_left; (focus (intro w_ hSw; (try dsimp only at hSw); go_simp; (try with_reducible rfl); done)); try simp only [aS])
        refine lateOne (i := 4) (by kernel_rfl) ?_
        refine lateOp (i := 4) rfl (by rfl) (fun K hK => ?_)
        go_simp
        (have q21 := (Rw.no (X := W19) (lo := w1.heap.size)).mk (24) ((x20 : Int)) (⟨#[105]⟩) (1 + 0) (by decide); go_at_call 30; refine (l1Below_any g B 2 (by decide) (by decide) _ TQ.cur).mono ?_; rintro e W22 ⟨⟨x23, hx23, rfl⟩, U, O⟩; replace q4 := q4.stp O hgl; replace q6 := q6.stp O hgl; replace q8 := q8.stp O hgl; replace r9 := r9.stp O hgl; replace q17 := q17.stp O hgl; replace q21 := q21.stp O hgl; replace TQ := TQ.call U O; clear U O; have hgW := Nat.lt_of_lt_of_le hgY TQ.size; have hS_ := TQ)
        clear hHeld
        refine hK.out _ _ hS_ (fun hHeld => ?_)
        clear hK K hS_
        try simp only [aS]
        (refine lgt (i := 5) (v := ?_) rfl ?_ hHeld ?_; rotate_left; (focus (intro w_ hSw; (try dsimp only at hSw); go_simp; (try with_reducible rfl); done)); try simp only [aS])
        refine lateOne (i := 7) (by kernel_rfl) ?_
        refine lateOp (i := 7) rfl (by rfl) (fun K hK => ?_)
        go_simp
        (have q24 := (Rw.no (X := W22) (lo := w1.heap.size)).mk (25) ((x23 : Int)) (⟨#[98]⟩) (1 + 0) (by decide); have r25 := Rw.row3 W22.heap.size (by simp) (Nat.le_trans hYs TQ.size) q21 q24 q17; clear q21 q24; have sT := stp_new g W22 (.cells #[.int .i64 (24), .int .i64 ((x20 : Int)), .string ⟨#[105]⟩, .slice none 0 0, .int .i64 (25), .int .i64 ((x23 : Int)), .string ⟨#[98]⟩, .slice none 0 0, .int .i64 (48), .int .i64 (0), .string ⟨#[]⟩, .slice (some ⟨W13.heap.size, 0, none⟩) 1 1] 29); replace q4 := q4.stp sT hgl; replace q6 := q6.stp sT hgl; replace q8 := q8.stp sT hgl; replace r9 := r9.stp sT hgl; replace q17 := q17.stp sT hgl; clear sT; replace TQ := TQ.alloc (.cells #[.int .i64 (24), .int .i64 ((x20 : Int)), .string ⟨#[105]⟩, .slice none 0 0, .int .i64 (25), .int .i64 ((x23 : Int)), .string ⟨#[98]⟩, .slice none 0 0, .int .i64 (48), .int .i64 (0), .string ⟨#[]⟩, .slice (some ⟨W13.heap.size, 0, none⟩) 1 1] 29); have hS_ := TQ)
        clear hHeld
        refine hK.out _ _ hS_ (fun hHeld => ?_)
        clear hK K hS_
        try simp only [aS]
        refine lateOne (i := 8) (by kernel_rfl) ?_
        refine lateOp (i := 8) rfl (by rfl) (fun K hK => ?_)
        go_simp
        (go_at_call 27; have q27 := r25.mk (23) (0) (⟨#[]⟩) (0 + 3) (by decide); clear r25; refine (l15N_any _ _ _ _ _ _).mono ?_; rintro e W26 ⟨rfl, hb⟩; have sT := only_of_below (lo := g) (hi := g + 1) hb; replace q4 := q4.stp sT hgl; replace q6 := q6.stp sT hgl; replace q8 := q8.stp sT hgl; replace r9 := r9.stp sT hgl; replace q17 := q17.stp sT hgl; replace q27 := q27.stp sT hgl; clear sT; replace TQ := TQ.new hb; clear hb; have hgW := Nat.lt_of_lt_of_le hgY TQ.size; have hS_ := TQ)
        clear hHeld
        refine hK.out _ _ hS_ (fun hHeld => ?_)
        clear hK K hS_
        try simp only [aS]
        refine lateOne (i := 9) (by kernel_rfl) ?_
        refine lateLast (i := 9) rfl (by kernel_rfl) (by rfl) (fun K hK => ?_)
        have RB := hHeld.blk RB (by omega); have ⟨RBl, RBf, RB0, RB1, RB2, RB3⟩ := RB.all
        go_simp
        refine hK.out _ _ ?_
        clear hK K
        try simp only [aS]
        refine lateDone (by kernel_rfl) ?_ _
        replace TK := TK.next hHeld
        (try go_wp2_with fail)
        have RQ := fun x0 x1 x2 x3 => DrT.done (q27.le (show (((0) + (1 + 0)) + ((0) + (1 + 0)) + (((((K)) + (0 + 1))) + (0 + 1))) + (0 + 3) ≤ 4 * K + 8000 from by omega)) TK k1 hgw hs1 x0 x1 x2 x3
        refine bodyPost_ret (v := .agg #[.int .i64 (23), .int .i64 (0), .string ⟨#[]⟩, .slice (some ⟨W22.heap.size, 0, none⟩) 3 3]) (by simp [results, Try.results75, go_sem, RB0, RB1, RB2, RB3, RBl, RBf]) rfl (RQ _ _ _ _)
      · go_upto_region 49 with fail
        have TQ0 : Trk g B W10 W10 := Trk.start TK.cur
        replace q4 := q4.stp (stp_drew g W10) hgl
        replace q6 := q6.stp (stp_drew g W10) hgl
        replace q8 := q8.stp (stp_drew g W10) hgl
        replace r9 := r9.stp (stp_drew g W10) hgl
        have hYs := TK.size
        have hgY := Nat.lt_of_lt_of_le hgl TK.size
        have TQ := TQ0.drew
        refine lateStart (S := (fun w_ => Trk g B W10 w_)) [5] (by kernel_rfl) ?_ (fun hHeld => ?_)
        · (try dsimp only)
          (exact TQ0.drew)
        generalize hW10d : World.drew W10 = W10d at *
        have hgW : g < W10d.heap.size := Nat.lt_of_lt_of_le hgY TQ.size
        (refine lgt (i := 0) (v := ?_) rfl ?_ hHeld ?_; rotate_left; (focus (intro w_ hSw; (try dsimp only at hSw); go_simp; (try with_reducible rfl); done)); try simp only [aS])
        (refine lgt (i := 2) (v := ?_) rfl ?_ hHeld ?_; rotate_left; (focus (intro w_ hSw; (try dsimp only at hSw); have yb := hSw.blk BXb (by omega); have ⟨ybl, ybf, yb0, yb1, yb2, yb3⟩ := yb.all; go_simp; (try with_reducible rfl); done)); try simp only [aS])
        refine lateOne (i := 1) (by kernel_rfl) ?_
        refine lateOp (i := 1) rfl (by rfl) (fun K hK => ?_)
        go_simp
        (go_at_call 76; refine (l15Var_any g B _ TQ.cur).mono ?_; rintro e W12 hD; obtain ⟨k13, n13, t13, A13, m13, c13, rfl, q13, U, O⟩ := hD.out w1.heap.size (Nat.le_trans hYs TQ.size); clear hD; replace q4 := q4.stp O hgl; replace q6 := q6.stp O hgl; replace q8 := q8.stp O hgl; replace r9 := r9.stp O hgl; replace TQ := TQ.call U O; clear U O; have hgW := Nat.lt_of_lt_of_le hgY TQ.size; have hS_ := TQ)
        clear hHeld
        refine hK.out _ _ hS_ (fun hHeld => ?_)
        clear hK K hS_
        try simp only [aS]
        refine lateOne (i := 3) (by kernel_rfl) ?_
        refine lateOp (i := 3) rfl (by rfl) (fun K hK => ?_)
        go_simp
        (have r14 := Rw.row2 W12.heap.size (by simp) (Nat.le_trans hYs TQ.size) q13 q6; clear q13; have sT := stp_new g W12 (.cells #[.int .i64 k13, .int .i64 n13, .string t13, .slice A13 m13 c13, .int .i64 k6, .int .i64 n6, .string t6, .slice A6 m6 c6] 29); replace q4 := q4.stp sT hgl; replace q6 := q6.stp sT hgl; replace q8 := q8.stp sT hgl; replace r9 := r9.stp sT hgl; clear sT; replace TQ := TQ.alloc (.cells #[.int .i64 k13, .int .i64 n13, .string t13, .slice A13 m13 c13, .int .i64 k6, .int .i64 n6, .string t6, .slice A6 m6 c6] 29); have hS_ := TQ)
        clear hHeld
        refine hK.out _ _ hS_ (fun hHeld => ?_)
        clear hK K hS_
        try simp only [aS]
        refine lateOne (i := 4) (by kernel_rfl) ?_
        refine lateOp (i := 4) rfl (by rfl) (fun K hK => ?_)
        go_simp
        (go_at_call 27; have q16 := r14.mk (19) (0) (⟨#[]⟩) (0 + 2) (by decide); clear r14; refine (l15N_any _ _ _ _ _ _).mono ?_; rintro e W15 ⟨rfl, hb⟩; have sT := only_of_below (lo := g) (hi := g + 1) hb; replace q4 := q4.stp sT hgl; replace q6 := q6.stp sT hgl; replace q8 := q8.stp sT hgl; replace r9 := r9.stp sT hgl; replace q16 := q16.stp sT hgl; clear sT; replace TQ := TQ.new hb; clear hb; have hgW := Nat.lt_of_lt_of_le hgY TQ.size; have hS_ := TQ)
        clear hHeld
        refine hK.out _ _ hS_ (fun hHeld => ?_)
        clear hK K hS_
        try simp only [aS]
        refine lateOne (i := 5) (by kernel_rfl) ?_
        refine lateLast (i := 5) rfl (by kernel_rfl) (by rfl) (fun K hK => ?_)
        have RB := hHeld.blk RB (by omega); have ⟨RBl, RBf, RB0, RB1, RB2, RB3⟩ := RB.all
        go_simp
        refine hK.out _ _ ?_
        clear hK K
        try simp only [aS]
        refine lateDone (by kernel_rfl) ?_ _
        replace TK := TK.next hHeld
        (try go_wp2_with fail)
        have RQ := fun x0 x1 x2 x3 => DrT.done (q16.le (show ((100) + (K)) + (0 + 2) ≤ 4 * K + 8000 from by omega)) TK k1 hgw hs1 x0 x1 x2 x3
        refine bodyPost_ret (v := .agg #[.int .i64 (19), .int .i64 (0), .string ⟨#[]⟩, .slice (some ⟨W12.heap.size, 0, none⟩) 2 2]) (by simp [results, Try.results75, go_sem, RB0, RB1, RB2, RB3, RBl, RBf]) rfl (RQ _ _ _ _)
      · go_wp2_with (first | (go_at_call 87; have sT := stp_new g W10 (.cells #[.int .i64 1, .int .i64 2, .int .i64 3, .int .i64 4, .int .i64 5, .int .i64 6, .int .i64 6, .int .i64 6, .int .i64 7, .int .i64 9, .int .i64 11, .int .i64 15] 3); replace q4 := q4.stp sT hgl; replace q6 := q6.stp sT hgl; replace q8 := q8.stp sT hgl; replace r9 := r9.stp sT hgl; replace RB := RB.only sT (Nat.le_refl _) (by omega); replace BXa := BXa.only sT (Nat.le_refl _) (by omega); replace BXb := BXb.only sT (Nat.le_refl _) (by omega); replace BXt := BXt.only sT (Nat.le_refl _) (by omega); clear sT; replace TK := TK.alloc (.cells #[.int .i64 1, .int .i64 2, .int .i64 3, .int .i64 4, .int .i64 5, .int .i64 6, .int .i64 6, .int .i64 6, .int .i64 7, .int .i64 9, .int .i64 11, .int .i64 15] 3); have bk12 := Blk.new' W10 3 #[.int .i64 1, .int .i64 2, .int .i64 3, .int .i64 4, .int .i64 5, .int .i64 6, .int .i64 6, .int .i64 6, .int .i64 7, .int .i64 9, .int .i64 11, .int .i64 15] W10.heap.size (by simp); refine (l1IntK g B 12 W10.heap.size (1) (15) _ _ _ (by decide) (by decide) (by kernel_rfl) TK.cur bk12 (by omega)).mono ?_; rintro e W13 ⟨⟨z14, hlz14, hhz14, rfl⟩, U, O⟩; replace q4 := q4.stp O hgl; replace q6 := q6.stp O hgl; replace q8 := q8.stp O hgl; replace r9 := r9.stp O hgl; replace bk12 := bk12.only O (Nat.le_refl _) (by omega); replace RB := RB.only O (Nat.le_refl _) (by omega); replace BXa := BXa.only O (Nat.le_refl _) (by omega); replace BXb := BXb.only O (Nat.le_refl _) (by omega); replace BXt := BXt.only O (Nat.le_refl _) (by omega); replace TK := TK.call U O; clear U O; have hgW := Nat.lt_of_lt_of_le hgl TK.size; have ⟨RBl, RBf, RB0, RB1, RB2, RB3⟩ := RB.all; have tok50_1 : True := trivial))
        have q15 := r9.mk (10) (z14) (⟨#[]⟩) (0 + 2) (by decide)
        clear r9
        have RQ := fun x0 x1 x2 x3 => DrT.done (q15.le (show ((K) + (K)) + (0 + 2) ≤ 4 * K + 8000 from by omega)) TK k1 hgw hs1 x0 x1 x2 x3
        refine bodyPost_ret (v := .agg #[.int .i64 (10), .int .i64 (z14), .string ⟨#[]⟩, .slice (some ⟨(W7.heap.size + 1), 0, none⟩) 2 2]) (by simp [results, Try.results75, go_sem, RB0, RB1, RB2, RB3, RBl, RBf]) rfl (RQ _ _ _ _)
      · go_wp2_with (first | (go_at_call 87; have sT := stp_new g W10 (.cells #[.int .i64 1, .int .i64 2, .int .i64 3, .int .i64 4, .int .i64 5, .int .i64 6, .int .i64 6, .int .i64 6, .int .i64 7, .int .i64 9, .int .i64 11, .int .i64 15] 3); replace q4 := q4.stp sT hgl; replace q6 := q6.stp sT hgl; replace q8 := q8.stp sT hgl; replace r9 := r9.stp sT hgl; replace RB := RB.only sT (Nat.le_refl _) (by omega); replace BXa := BXa.only sT (Nat.le_refl _) (by omega); replace BXb := BXb.only sT (Nat.le_refl _) (by omega); replace BXt := BXt.only sT (Nat.le_refl _) (by omega); clear sT; replace TK := TK.alloc (.cells #[.int .i64 1, .int .i64 2, .int .i64 3, .int .i64 4, .int .i64 5, .int .i64 6, .int .i64 6, .int .i64 6, .int .i64 7, .int .i64 9, .int .i64 11, .int .i64 15] 3); have bk12 := Blk.new' W10 3 #[.int .i64 1, .int .i64 2, .int .i64 3, .int .i64 4, .int .i64 5, .int .i64 6, .int .i64 6, .int .i64 6, .int .i64 7, .int .i64 9, .int .i64 11, .int .i64 15] W10.heap.size (by simp); refine (l1IntK g B 12 W10.heap.size (1) (15) _ _ _ (by decide) (by decide) (by kernel_rfl) TK.cur bk12 (by omega)).mono ?_; rintro e W13 ⟨⟨z14, hlz14, hhz14, rfl⟩, U, O⟩; replace q4 := q4.stp O hgl; replace q6 := q6.stp O hgl; replace q8 := q8.stp O hgl; replace r9 := r9.stp O hgl; replace bk12 := bk12.only O (Nat.le_refl _) (by omega); replace RB := RB.only O (Nat.le_refl _) (by omega); replace BXa := BXa.only O (Nat.le_refl _) (by omega); replace BXb := BXb.only O (Nat.le_refl _) (by omega); replace BXt := BXt.only O (Nat.le_refl _) (by omega); replace TK := TK.call U O; clear U O; have hgW := Nat.lt_of_lt_of_le hgl TK.size; have ⟨RBl, RBf, RB0, RB1, RB2, RB3⟩ := RB.all; have tok50_1 : True := trivial))
        have q15 := r9.mk (10) (z14) (⟨#[]⟩) (0 + 2) (by decide)
        clear r9
        have RQ := fun x0 x1 x2 x3 => DrT.done (q15.le (show ((K) + (K)) + (0 + 2) ≤ 4 * K + 8000 from by omega)) TK k1 hgw hs1 x0 x1 x2 x3
        refine bodyPost_ret (v := .agg #[.int .i64 (10), .int .i64 (z14), .string ⟨#[]⟩, .slice (some ⟨(W7.heap.size + 1), 0, none⟩) 2 2]) (by simp [results, Try.results75, go_sem, RB0, RB1, RB2, RB3, RBl, RBf]) rfl (RQ _ _ _ _)
    · go_upto_if 18 with (first | (go_at_call 30; refine (l1Below_any g B 6 (by decide) (by decide) _ TK.cur).mono ?_; rintro e W3 ⟨⟨x4, hx4, rfl⟩, U, O⟩; replace RB := RB.only O (Nat.le_refl _) (by omega); replace TK := TK.call U O; clear U O; have hgW := Nat.lt_of_lt_of_le hgl TK.size; have tok2_1 : True := trivial))
      have H := (show x4 = 0 ∨ x4 = 1 ∨ x4 = 2 ∨ x4 = 3 ∨ x4 = 4 ∨ x4 = 5 from by omega)
      rcases H with rfl | rfl | rfl | rfl | rfl | rfl
      · go_wp2_with (first | (go_at_call 28; have sT := stp_new g W3 (.cells #[.string ⟨#[]⟩, .string ⟨#[120]⟩, .string ⟨#[55]⟩, .string ⟨#[105, 116, 39, 115]⟩, .string ⟨#[97, 47, 98]⟩] 9); replace RB := RB.only sT (Nat.le_refl _) (by omega); clear sT; replace TK := TK.alloc (.cells #[.string ⟨#[]⟩, .string ⟨#[120]⟩, .string ⟨#[55]⟩, .string ⟨#[105, 116, 39, 115]⟩, .string ⟨#[97, 47, 98]⟩] 9); have bk5 := Blk.new' W3 9 #[.string ⟨#[]⟩, .string ⟨#[120]⟩, .string ⟨#[55]⟩, .string ⟨#[105, 116, 39, 115]⟩, .string ⟨#[97, 47, 98]⟩] W3.heap.size (by simp); refine (l1StrK g B 5 100 W3.heap.size _ _ _ (by decide) (by decide) (by kernel_rfl) TK.cur bk5 (by omega)).mono ?_; rintro e W6 ⟨⟨s7, hs7, rfl⟩, U, O⟩; replace bk5 := bk5.only O (Nat.le_refl _) (by omega); replace RB := RB.only O (Nat.le_refl _) (by omega); replace TK := TK.call U O; clear U O; have hgW := Nat.lt_of_lt_of_le hgl TK.size; have ⟨RBl, RBf, RB0, RB1, RB2, RB3⟩ := RB.all; have tok4_1 : True := trivial))
        have q8 := (Rw.no (X := W6) (lo := w1.heap.size)).mk (2) (0) (s7) (100 + 0) (by omega)
        have RQ := fun x0 x1 x2 x3 => DrT.done (q8.le (show (0) + (100 + 0) ≤ 4 * K + 8000 from by omega)) TK k1 hgw hs1 x0 x1 x2 x3
        refine bodyPost_ret (v := .agg #[.int .i64 (2), .int .i64 (0), .string s7, .slice none 0 0]) (by simp [results, Try.results75, go_sem, RB0, RB1, RB2, RB3, RBl, RBf]) rfl (RQ _ _ _ _)
      · go_wp2_with (first | (go_at_call 30; refine (l1Below_any g B 3 (by decide) (by decide) _ TK.cur).mono ?_; rintro e W5 ⟨⟨x6, hx6, rfl⟩, U, O⟩; replace RB := RB.only O (Nat.le_refl _) (by omega); replace TK := TK.call U O; clear U O; have hgW := Nat.lt_of_lt_of_le hgl TK.size; have ⟨RBl, RBf, RB0, RB1, RB2, RB3⟩ := RB.all; have tok6_1 : True := trivial))
        have q7 := (Rw.no (X := W5) (lo := w1.heap.size)).mk (3) ((x6 : Int)) (⟨#[]⟩) (0 + 0) (by decide)
        have RQ := fun x0 x1 x2 x3 => DrT.done (q7.le (show (0) + (0 + 0) ≤ 4 * K + 8000 from by omega)) TK k1 hgw hs1 x0 x1 x2 x3
        refine bodyPost_ret (v := .agg #[.int .i64 (3), .int .i64 ((x6 : Int)), .string ⟨#[]⟩, .slice none 0 0]) (by simp [results, Try.results75, go_sem, RB0, RB1, RB2, RB3, RBl, RBf]) rfl (RQ _ _ _ _)
      · go_wp2_with (first | (go_at_call 76; refine (l15Var_any g B _ TK.cur).mono ?_; rintro e W5 hD; obtain ⟨k6, n6, t6, A6, m6, c6, rfl, q6, U, O⟩ := hD.out w1.heap.size TK.size; clear hD; replace RB := RB.only O (Nat.le_refl _) (by omega); replace TK := TK.call U O; clear U O; have hgW := Nat.lt_of_lt_of_le hgl TK.size; have ⟨RBl, RBf, RB0, RB1, RB2, RB3⟩ := RB.all; have tok9_1 : True := trivial))
        have RQ := fun x0 x1 x2 x3 => DrT.done (q6.le (show 100 ≤ 4 * K + 8000 from by omega)) TK k1 hgw hs1 x0 x1 x2 x3
        refine bodyPost_ret (v := .agg #[.int .i64 k6, .int .i64 n6, .string t6, .slice A6 m6 c6]) (by simp [results, Try.results75, go_sem, RB0, RB1, RB2, RB3, RBl, RBf]) rfl (RQ _ _ _ _)
      · go_wp2_with (first | (go_at_call 76; refine (l15Var_any g B _ TK.cur).mono ?_; rintro e W5 hD; obtain ⟨k6, n6, t6, A6, m6, c6, rfl, q6, U, O⟩ := hD.out w1.heap.size TK.size; clear hD; replace RB := RB.only O (Nat.le_refl _) (by omega); replace TK := TK.call U O; clear U O; have hgW := Nat.lt_of_lt_of_le hgl TK.size; have ⟨RBl, RBf, RB0, RB1, RB2, RB3⟩ := RB.all; have tok9_1 : True := trivial))
        have RQ := fun x0 x1 x2 x3 => DrT.done (q6.le (show 100 ≤ 4 * K + 8000 from by omega)) TK k1 hgw hs1 x0 x1 x2 x3
        refine bodyPost_ret (v := .agg #[.int .i64 k6, .int .i64 n6, .string t6, .slice A6 m6 c6]) (by simp [results, Try.results75, go_sem, RB0, RB1, RB2, RB3, RBl, RBf]) rfl (RQ _ _ _ _)
      · go_wp2_with (first | (go_at_call 87; have sT := stp_new g W3 (.cells #[.int .i64 0, .int .i64 1, .int .i64 2, .int .i64 3, .int .i64 5, .int .i64 10, .int .i64 1000000000] 3); replace RB := RB.only sT (Nat.le_refl _) (by omega); clear sT; replace TK := TK.alloc (.cells #[.int .i64 0, .int .i64 1, .int .i64 2, .int .i64 3, .int .i64 5, .int .i64 10, .int .i64 1000000000] 3); have bk5 := Blk.new' W3 3 #[.int .i64 0, .int .i64 1, .int .i64 2, .int .i64 3, .int .i64 5, .int .i64 10, .int .i64 1000000000] W3.heap.size (by simp); refine (l1IntK g B 7 W3.heap.size (0) (1000000000) _ _ _ (by decide) (by decide) (by kernel_rfl) TK.cur bk5 (by omega)).mono ?_; rintro e W6 ⟨⟨z7, hlz7, hhz7, rfl⟩, U, O⟩; replace bk5 := bk5.only O (Nat.le_refl _) (by omega); replace RB := RB.only O (Nat.le_refl _) (by omega); replace TK := TK.call U O; clear U O; have hgW := Nat.lt_of_lt_of_le hgl TK.size; have ⟨RBl, RBf, RB0, RB1, RB2, RB3⟩ := RB.all; have tok10_1 : True := trivial))
        have q8 := (Rw.no (X := W6) (lo := w1.heap.size)).mk (1) (z7) (⟨#[]⟩) (0 + 0) (by decide)
        have RQ := fun x0 x1 x2 x3 => DrT.done (q8.le (show (0) + (0 + 0) ≤ 4 * K + 8000 from by omega)) TK k1 hgw hs1 x0 x1 x2 x3
        refine bodyPost_ret (v := .agg #[.int .i64 (1), .int .i64 (z7), .string ⟨#[]⟩, .slice none 0 0]) (by simp [results, Try.results75, go_sem, RB0, RB1, RB2, RB3, RBl, RBf]) rfl (RQ _ _ _ _)
      · go_wp2_with (first | (go_at_call 87; have sT := stp_new g W3 (.cells #[.int .i64 0, .int .i64 1, .int .i64 2, .int .i64 3, .int .i64 5, .int .i64 10, .int .i64 1000000000] 3); replace RB := RB.only sT (Nat.le_refl _) (by omega); clear sT; replace TK := TK.alloc (.cells #[.int .i64 0, .int .i64 1, .int .i64 2, .int .i64 3, .int .i64 5, .int .i64 10, .int .i64 1000000000] 3); have bk5 := Blk.new' W3 3 #[.int .i64 0, .int .i64 1, .int .i64 2, .int .i64 3, .int .i64 5, .int .i64 10, .int .i64 1000000000] W3.heap.size (by simp); refine (l1IntK g B 7 W3.heap.size (0) (1000000000) _ _ _ (by decide) (by decide) (by kernel_rfl) TK.cur bk5 (by omega)).mono ?_; rintro e W6 ⟨⟨z7, hlz7, hhz7, rfl⟩, U, O⟩; replace bk5 := bk5.only O (Nat.le_refl _) (by omega); replace RB := RB.only O (Nat.le_refl _) (by omega); replace TK := TK.call U O; clear U O; have hgW := Nat.lt_of_lt_of_le hgl TK.size; have ⟨RBl, RBf, RB0, RB1, RB2, RB3⟩ := RB.all; have tok10_1 : True := trivial))
        have q8 := (Rw.no (X := W6) (lo := w1.heap.size)).mk (1) (z7) (⟨#[]⟩) (0 + 0) (by decide)
        have RQ := fun x0 x1 x2 x3 => DrT.done (q8.le (show (0) + (0 + 0) ≤ 4 * K + 8000 from by omega)) TK k1 hgw hs1 x0 x1 x2 x3
        refine bodyPost_ret (v := .agg #[.int .i64 (1), .int .i64 (z7), .string ⟨#[]⟩, .slice none 0 0]) (by simp [results, Try.results75, go_sem, RB0, RB1, RB2, RB3, RBl, RBf]) rfl (RQ _ _ _ _)
end Go.Proofs.Ytgejkfcemlkclaa
