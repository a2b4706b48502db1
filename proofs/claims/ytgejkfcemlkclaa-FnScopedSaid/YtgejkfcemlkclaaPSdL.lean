/-
  Parts of the proof: SdL. Conditions: none.
-/
import Derived.Test.YtgejkfcemlkclaaPGSdISdJ
import Derived.Test.YtgejkfcemlkclaaPSdE
set_option linter.unusedVariables false
set_option linter.unusedSimpArgs false
namespace Go.Proofs.Ytgejkfcemlkclaa
set_option maxHeartbeats 40000000
open Go.ChangeShapes Go.WideShapes Go.ChangeAt Go.RowKit Go.Deep Go.Joins
open Go.ChangeMaps (open_string shut_string)
set_option maxRecDepth 100000
theorem DrT.le {g B K K' : Nat} {w w' : World} {e : Ending} (h : DrT g B K w e w') (hK : K ≤ K') : DrT g B K' w e w' := by
  obtain ⟨⟨k, n, t, l, A, c, rfl, h1, h2⟩, h3, h4⟩ := h
  exact ⟨⟨k, n, t, l, A, c, rfl, h1, Nat.le_trans h2 hK⟩, h3, h4⟩
theorem mk_m1 : MkI (-1) 8000 := mk_of (-1) (by decide) (by decide) 0 (fun h => absurd h (by decide)) (fun h => absurd h (by decide))
theorem mk_0 : MkI 0 8000 := mk_of 0 (by decide) (by decide) 0 (fun h => absurd h (by decide)) (fun h => absurd h (by decide))
theorem mk_1 : MkI 1 40000 := mk_of 1 (by decide) (by decide) 8000 (fun _ => mk_0) (fun _ g B w hc => aim_of 0 (by decide) (by decide) 8000 mk_m1 g B w hc)
theorem aim_1 (g B : Nat) (w : World) (hc : Cur w g B) : Calls Try.prog 77 #[.pointer (some ⟨g, 0, none⟩), .int .i64 1] w (DrT g B 9000 w) := aim_of 1 (by decide) (by decide) 8000 mk_0 g B w hc
theorem mk_2 : MkI 2 168000 := mk_of 2 (by decide) (by decide) 40000 (fun _ => mk_1) (fun _ g B w hc => (aim_1 g B w hc).mono fun _ _ h => h.le (by decide))
theorem aim_2 (g B : Nat) (w : World) (hc : Cur w g B) : Calls Try.prog 77 #[.pointer (some ⟨g, 0, none⟩), .int .i64 1] w (DrT g B 168000 w) := (aim_1 g B w hc).mono fun _ _ h => h.le (by decide)
theorem st_0 : StpI 0 188000 := step_of 0 (by decide) (by decide) 168000 0 (by decide) mk_2 aim_2 (fun h => absurd h (by decide))
theorem do_0 : DoI 0 565000 := do_of 0 188000 st_0
theorem st_1 : StpI 1 1318000 := step_of 1 (by decide) (by decide) 168000 565000 (by decide) mk_2 aim_2 (fun _ => do_0)
theorem do_1 : DoI 1 3955000 := do_of 1 1318000 st_1
theorem st_2 : StpI 2 8098000 := step_of 2 (by decide) (by decide) 168000 3955000 (by decide) mk_2 aim_2 (fun _ => do_1)
theorem do_2 : DoI 2 24295000 := do_of 2 8098000 st_2
theorem fn_2 : FnI 24296000 := func_of 24295000 do_2
theorem scr_ : ScrI 623612000 := script_of 24296000 8098000 56692000 rfl fn_2 st_2
/-- Some tree. -/
def DrN (K : Nat) (w : World) (e : Ending) (w' : World) : Prop := (∃ (k n : Int) (t : ByteArray) (l : List FNode) (A : Option Addr) (c : Nat), e = .returned (.agg #[.int .i64 k, .int .i64 n, .string t, .slice A l.length c]) ∧ RdC w' w'.heap.size (.s 29 4 l.length (FNode.flat l)) (.slice A l.length c) ∧ (FNode.mk k n t l).wt ≤ K) ∧ Below w.heap.size w w'
theorem DrN.done {g B K : Nat} {w w1 X : World} {lo hi m c : Nat} {A : Option Addr} {vs : List Value} (hG : GRl X lo hi A m c K vs) (hm : m ≤ 12) (hlo : w.heap.size < lo) (h : Trk g B w1 X) (hw : Below w.heap.size w w1) (hg : w.heap.size ≤ g) (x0 x1 x2 x3 : Value) :
    DrN (K + 20) w (.returned (.agg #[.int .i64 56, .int .i64 0, .string ⟨#[]⟩, .slice A m c])) ((((X.setCell ⟨w.heap.size, 0, none⟩ x0).setCell ⟨w.heap.size, 1, none⟩ x1).setCell ⟨w.heap.size, 2, none⟩ x2).setCell ⟨w.heap.size, 3, none⟩ x3) := by
  have G := GRl.far (p := ⟨w.heap.size, 3, none⟩) (GRl.far (p := ⟨w.heap.size, 2, none⟩) (GRl.far (p := ⟨w.heap.size, 1, none⟩) (GRl.far (p := ⟨w.heap.size, 0, none⟩) hG hlo x0) hlo x1) hlo x2) hlo x3
  obtain ⟨l, rfl, h2, h3⟩ := G.row
  refine ⟨⟨56, 0, ⟨#[]⟩, l, A, c, rfl, h2.rd, by rw [FNode.wt_eq]; have : (⟨#[]⟩ : ByteArray).size = 0 := rfl; omega⟩, ?_⟩
  have hb : Below w.heap.size w1 X := ⟨h.only.os, h.only.tape, h.only.output, h.only.size, fun k hk => h.only.block k (Nat.lt_of_lt_of_le hk hw.size) (.inl (by omega))⟩
  exact ((((hw.trans hb).setCell (p := ⟨w.heap.size, 0, none⟩) (Nat.le_refl _) _).setCell (p := ⟨w.heap.size, 1, none⟩) (Nat.le_refl _) _).setCell (p := ⟨w.heap.size, 2, none⟩) (Nat.le_refl _) _).setCell (p := ⟨w.heap.size, 3, none⟩) (Nat.le_refl _) _
theorem DrawVarsOf_any (A : Option Addr) (n c : Nat) (w : World) (hy : Byts w w.heap.size A n) : Calls Try.prog 11 #[.slice A n c] w fun e w' => (∃ (l : List FNode) (A' : Option Addr) (c' : Nat), e = .returned (.slice A' l.length c') ∧ RdC w' w'.heap.size (.s 29 4 l.length (FNode.flat l)) (.slice A' l.length c') ∧ l.length + FNode.wts l ≤ 900000000) ∧ Below w.heap.size w w' := by
  have HY := Lib.hid hy
  clear hy
  have hfd : ∀ (w : World) (A1 : Option Addr) (m1 c1 : Nat), (Instr.field 29 (.agg #[.int .i64 56, .int .i64 0, .string ⟨#[]⟩, .slice A1 m1 c1]) 3).run Try.prog w = .ok (.slice A1 m1 c1) w := fun _ _ _ _ => by kernel_rfl
  go_enter Try.func11, Try.ntmps11
  go_wp2_with (first | (go_at_call 24; refine (l1New_any A n c w.heap.size _ (Nat.le_refl _) HY.out).mono ?_; rintro e w1 ⟨rfl, hc1, hb1⟩) | (go_at_call 25; refine (scr_ _ _ _ hc1).mono ?_; rintro e w2 ⟨⟨lo, hi, A1, m1, c1, vs1, rfl, hlo, G, hm, hlo2⟩, hc2, ho2⟩))
  go_ret
  obtain ⟨l, rfl, h2, h3⟩ := G.row
  exact ⟨⟨l, A1, c1, rfl, h2.rd, by omega⟩, hb1.trans ⟨ho2.os, ho2.tape, ho2.output, ho2.size, fun k hk => ho2.block k (Nat.lt_of_lt_of_le hk hb1.size) (.inl (by omega))⟩⟩
theorem DrawCheckScript_any (A0 : Option Addr) (n0 c0 : Nat) (w : World) (hy : Byts w w.heap.size A0 n0) : Calls Try.prog 13 #[.slice A0 n0 c0] w (DrN 900000000 w) := by
  have HY := Lib.hid hy
  clear hy
  have RB := Blk.new w 29 #[.int .i64 0, .int .i64 0, .string ⟨#[]⟩, .slice none 0 0]
  have kb := (Below.refl w.heap.size w).alloc (Nat.le_refl _) (.cells #[.int .i64 0, .int .i64 0, .string ⟨#[]⟩, .slice none 0 0] 29)
  go_enter Try.func13, Try.ntmps13
  go_upto_region 1 with fail
  generalize hw0 : w.alloc (.cells #[.int .i64 0, .int .i64 0, .string ⟨#[]⟩, .slice none 0 0] 29) = w0 at *
  have hs0 : w.heap.size < w0.heap.size := RB.lt
  go_upto_region 2 with (go_at_call 24; refine (l1New_any A0 n0 c0 w.heap.size _ (by omega) (HY.out.keep fun b o hb => kb.cell (p := ⟨b, o, none⟩) hb)).mono ?_; rintro e w1 ⟨rfl, hc1, hb1⟩)
  replace RB := RB.below hb1 (Nat.le_refl _)
  have TK := Trk.start hc1
  have hgl := hc1.lt
  have k1 := kb.trans (hb1.mono (Nat.le_of_lt hs0))
  have hgr : w.heap.size < w0.heap.size := hs0
  generalize hgg : w0.heap.size = g at *
  obtain ⟨B, hBB⟩ : ∃ b, b = w.heap.size := ⟨_, rfl⟩
  rw [← hBB] at TK
  clear hc1 hb1 kb hw0
  go_upto_region 3 with (go_at_call 25; refine (scr_ g _ _ TK.cur).mono ?_; rintro e w2 ⟨⟨lo, hi, A, m, c, vs, rfl, hlo, G, hm, hlo2⟩, U, O⟩; replace RB := RB.only O (Nat.le_refl _) (by omega); replace TK := TK.call U O; clear U O)
  have hhi := G.hi_le
  have hlw := TK.size
  have TZ := Trk.start TK.cur
  have hgz : g < w2.heap.size := by omega
  have BO := Blk.new w2 29 #[.int .i64 56, .int .i64 0, .string ⟨#[]⟩, .slice A m c]
  have sT := stp_new g w2 (.cells #[.int .i64 56, .int .i64 0, .string ⟨#[]⟩, .slice A m c] 29)
  replace G := G.stp sT (by omega)
  replace RB := RB.only sT (Nat.le_refl _) (by omega)
  clear sT TZ hgz
  replace TK := TK.alloc (.cells #[.int .i64 56, .int .i64 0, .string ⟨#[]⟩, .slice A m c] 29)
  generalize hY2 : w2.alloc (.cells #[.int .i64 56, .int .i64 0, .string ⟨#[]⟩, .slice A m c] 29) = Y2 at *
  clear hY2
  have hbn : w2.heap.size < Y2.heap.size := BO.lt
  have TZ := Trk.start TK.cur
  have hgz : g < Y2.heap.size := by omega
  go_upto_region 4 with (first | (have _q := tok3_1; go_at_call 27; have q5 := (Rw.no (X := W2) (lo := Y2.heap.size)).mk (4) (0) (s3) (100 + 0) (by omega); refine (l15N_any _ _ _ _ _ _).mono ?_; rintro e W4 ⟨rfl, hb⟩; have sT := only_of_below (lo := g) (hi := g + 1) hb; replace q5 := q5.stp sT hgz; replace G := G.stp sT (by omega); replace bk1 := bk1.only sT (Nat.le_refl _) (by omega); replace RB := RB.only sT (Nat.le_refl _) (by omega); replace BO := BO.only sT (Nat.le_refl _) (by omega); clear sT; replace TZ := TZ.new hb; clear hb; have hgW := Nat.lt_of_lt_of_le hgz TZ.size; have tok3_2 : True := trivial) | (go_at_call 28; have sT := stp_new g Y2 (.cells #[.string ⟨#[116, 104, 105, 115]⟩, .string ⟨#[97]⟩] 9); replace G := G.stp sT (by omega); replace RB := RB.only sT (Nat.le_refl _) (by omega); replace BO := BO.only sT (Nat.le_refl _) (by omega); clear sT; replace TZ := TZ.alloc (.cells #[.string ⟨#[116, 104, 105, 115]⟩, .string ⟨#[97]⟩] 9); have bk1 := Blk.new' Y2 9 #[.string ⟨#[116, 104, 105, 115]⟩, .string ⟨#[97]⟩] Y2.heap.size (by simp); refine (l1StrK g B 2 100 Y2.heap.size _ _ _ (by decide) (by decide) (by kernel_rfl) TZ.cur bk1 (by omega)).mono ?_; rintro e W2 ⟨⟨s3, hs3, rfl⟩, U, O⟩; replace G := G.stp O (by omega); replace bk1 := bk1.only O (Nat.le_refl _) (by omega); replace RB := RB.only O (Nat.le_refl _) (by omega); replace BO := BO.only O (Nat.le_refl _) (by omega); replace TZ := TZ.call U O; clear U O; have hgW := Nat.lt_of_lt_of_le hgz TZ.size; have tok3_1 : True := trivial))
  have hbv := TZ.size
  have sT := stp_new g W4 (.cells #[.int .i64 (4), .int .i64 (0), .string s3, .slice none 0 0] 29)
  replace q5 := q5.stp sT hgz
  replace G := G.stp sT (by omega)
  replace bk1 := bk1.only sT (Nat.le_refl _) (by omega)
  replace RB := RB.only sT (Nat.le_refl _) (by omega)
  replace BO := BO.only sT (Nat.le_refl _) (by omega)
  clear sT
  replace TZ := TZ.alloc (.cells #[.int .i64 (4), .int .i64 (0), .string s3, .slice none 0 0] 29)
  have hBXv : g < W4.heap.size := by omega
  have BXv := Blk.new' W4 29 #[.int .i64 (4), .int .i64 (0), .string s3, .slice none 0 0] W4.heap.size (by simp)
  go_upto_region 5 with (first | (go_at_call 29; refine (do_1 _ _ g _ _ TZ.cur).mono ?_; rintro e W6 hD; obtain ⟨k7, n7, t7, A7, m7, c7, rfl, q7, U, O⟩ := hD.out Y2.heap.size TZ.size; clear hD; replace q5 := q5.stp O hgz; replace G := G.stp O (by omega); replace bk1 := bk1.only O (Nat.le_refl _) (by omega); replace RB := RB.only O (Nat.le_refl _) (by omega); replace BO := BO.only O (Nat.le_refl _) (by omega); replace BXv := BXv.only O (Nat.le_refl _) (by omega); replace TZ := TZ.call U O; clear U O; have hgW := Nat.lt_of_lt_of_le hgz TZ.size; have tok4_1 : True := trivial))
  have hbb := TZ.size
  have sT := stp_new g W6 (.cells #[.int .i64 k7, .int .i64 n7, .string t7, .slice A7 m7 c7] 29)
  replace q5 := q5.stp sT hgz
  replace q7 := q7.stp sT hgz
  replace G := G.stp sT (by omega)
  replace bk1 := bk1.only sT (Nat.le_refl _) (by omega)
  replace RB := RB.only sT (Nat.le_refl _) (by omega)
  replace BO := BO.only sT (Nat.le_refl _) (by omega)
  replace BXv := BXv.only sT (Nat.le_refl _) (by omega)
  clear sT
  replace TZ := TZ.alloc (.cells #[.int .i64 k7, .int .i64 n7, .string t7, .slice A7 m7 c7] 29)
  have hBXb : g < W6.heap.size := by omega
  have BXb := Blk.new' W6 29 #[.int .i64 k7, .int .i64 n7, .string t7, .slice A7 m7 c7] W6.heap.size (by simp)
  go_upto_if 19 with (first | (go_at_call 30; refine (l1Below_any g B 10 (by decide) (by decide) _ TZ.cur).mono ?_; rintro e W8 ⟨⟨x9, hx9, rfl⟩, U, O⟩; replace q5 := q5.stp O hgz; replace q7 := q7.stp O hgz; replace G := G.stp O (by omega); replace RB := RB.only O (Nat.le_refl _) (by omega); replace BO := BO.only O (Nat.le_refl _) (by omega); replace BXv := BXv.only O (Nat.le_refl _) (by omega); replace BXb := BXb.only O (Nat.le_refl _) (by omega); replace TZ := TZ.call U O; clear U O; have hgW := Nat.lt_of_lt_of_le hgz TZ.size; have tok5_1 : True := trivial))
  have hhz := hhi
  have hYz := TZ.size
  replace TK := TK.next TZ
  clear TZ
  have H := (show x9 = 0 ∨ x9 = 1 ∨ x9 = 2 ∨ x9 = 3 ∨ x9 = 4 ∨ x9 = 5 ∨ x9 = 6 ∨ x9 = 7 ∨ x9 = 8 ∨ x9 = 9 from by omega)
  rcases H with rfl | rfl | rfl | rfl | rfl | rfl | rfl | rfl | rfl | rfl
  · skip
    obtain ⟨KU, hKU⟩ : ∃ k, k = 20000000 := ⟨_, rfl⟩
    go_upto_region 7 with fail
    have hBl := BO.lt
    have TQ0 : Trk g B W8 W8 := Trk.start TK.cur
    have hYs := TK.size
    have hgY := Nat.lt_of_lt_of_le hgl TK.size
    replace q5 := q5.stp (stp_drew g W8) hgz
    replace q7 := q7.stp (stp_drew g W8) hgz
    have TQ := TQ0.drew
    refine lateStart (S := (fun w_ => Blk w_ (w.heap.size) 29 #[.int .i64 0, .int .i64 0, .string ⟨#[]⟩, .slice none 0 0] ∧ Blk w_ (w2.heap.size) 29 #[.int .i64 56, .int .i64 0, .string ⟨#[]⟩, .slice A m c] ∧ Blk w_ (W4.heap.size) 29 #[.int .i64 (4), .int .i64 (0), .string s3, .slice none 0 0] ∧ Blk w_ (W6.heap.size) 29 #[.int .i64 k7, .int .i64 n7, .string t7, .slice A7 m7 c7])) [6] (by kernel_rfl) ?_ (fun hHeld => ?_)
    · (try dsimp only)
      (exact And.intro (TQ.blk RB (by omega)) (And.intro (TQ.blk BO (by omega)) (And.intro (TQ.blk BXv (by omega)) (TQ.blk BXb (by omega)))))
    generalize hW8d : World.drew W8 = W8d at *
    have hgW : g < W8d.heap.size := Nat.lt_of_lt_of_le hgY TQ.size
    (refine lgt (i := 0) (v := ?_) rfl ?_ hHeld ?_; rotate_left; (focus (intro w_ hSw; (try dsimp only at hSw); go_simp; (try with_reducible rfl); done)); try simp only [aS])
    (refine lgt (i := 1) (v := ?_) rfl ?_ hHeld ?_; rotate_left; (focus (intro w_ hSw; (try dsimp only at hSw); have yb := hSw.2.1; have ⟨ybl, ybf, yb0, yb1, yb2, yb3⟩ := yb.all; go_simp; (try with_reducible rfl); done)); try simp only [aS])
    refine lateOne (i := 2) (by kernel_rfl) ?_
    refine lateOp (i := 2) rfl (by rfl) (fun K hK => ?_)
    go_simp
    (go_at_call 27; have q11 := (Rw.no (X := W8d) (lo := Y2.heap.size)).mk (37) (0) (⟨#[]⟩) (0 + 0) (by decide); refine (l15N_any _ _ _ _ _ _).mono ?_; rintro e W10 ⟨rfl, hb⟩; have sT := only_of_below (lo := g) (hi := g + 1) hb; replace q5 := q5.stp sT hgz; replace q7 := q7.stp sT hgz; replace q11 := q11.stp sT hgz; clear sT; replace TQ := TQ.new hb; clear hb; have hgW := Nat.lt_of_lt_of_le hgY TQ.size; have hS_ := And.intro (TQ.blk RB (by omega)) (And.intro (TQ.blk BO (by omega)) (And.intro (TQ.blk BXv (by omega)) (TQ.blk BXb (by omega)))))
    clear hHeld
    refine hK.out _ _ hS_ (fun hHeld => ?_)
    clear hK K hS_
    try simp only [aS]
    refine lateOne (i := 3) (by kernel_rfl) ?_
    refine lateOp (i := 3) rfl (by rfl) (fun K hK => ?_)
    go_simp
    (have r12 := Rw.row1 W10.heap.size (by simp) (Nat.le_trans hYz TQ.size) q11; have sT := stp_new g W10 (.cells #[.int .i64 (37), .int .i64 (0), .string ⟨#[]⟩, .slice none 0 0] 29); replace q5 := q5.stp sT hgz; replace q7 := q7.stp sT hgz; replace q11 := q11.stp sT hgz; clear sT; replace TQ := TQ.alloc (.cells #[.int .i64 (37), .int .i64 (0), .string ⟨#[]⟩, .slice none 0 0] 29); have hS_ := And.intro (TQ.blk RB (by omega)) (And.intro (TQ.blk BO (by omega)) (And.intro (TQ.blk BXv (by omega)) (TQ.blk BXb (by omega)))))
    clear hHeld
    refine hK.out _ _ hS_ (fun hHeld => ?_)
    clear hK K hS_
    try simp only [aS]
    refine lateOne (i := 4) (by kernel_rfl) ?_
    refine lateOp (i := 4) rfl (by rfl) (fun K hK => ?_)
    have GW := G.stp TQ.only (by omega)
    have hw6 := TQ.size
    refine wp_append_rd _ (.tmp 22) (.tmp 24) _ rfl (lo) 29 _ 4 56 Try.underlying27 infoNodeC rfl (by decide) (.slice A m c) m _ rfl GW.own (W10.heap.size + 1) _ 1 1 [.int .i64 (37), .int .i64 (0), .string ⟨#[]⟩, .slice none 0 0] rfl (rd_new W10 29 4 [.int .i64 (37), .int .i64 (0), .string ⟨#[]⟩, .slice none 0 0] rfl) (one4 _ _ _ _ _ _) (by unfold maxLen; omega) (by omega) (by omega) ?_
    intro v7 w7 own7 hg7 hat7
    obtain ⟨A7, c7, rfl, G7⟩ := GW.push_set (q11.le (show (0) + (0 + 0) ≤ KU from by omega)) (by omega) (fun b hb => by have := (G.lt b hb).2; omega) own7 hg7 hat7 (p := ⟨w2.heap.size, 3, none⟩) hhi (by show w2.heap.size < Y2.heap.size; exact hbn) (by omega)
    have TK7 := (TK.next TQ).grow hg7 (fun b hb => by have := (G.lt b hb).1; omega) hgl
    have RB7 := (TQ.blk RB (by omega)).bgrown hg7 (fun e => by have := G.lt _ e.symm; omega)
    have BO7 := (TQ.blk BO (by omega)).bgrown hg7 (fun e => by have := G.lt _ e.symm; omega)
    have BXv7 := (TQ.blk BXv (by omega)).bgrown hg7 (fun e => by have := G.lt _ e.symm; omega)
    have BXb7 := (TQ.blk BXb (by omega)).bgrown hg7 (fun e => by have := G.lt _ e.symm; omega)
    have hS_ := And.intro (RB7) (And.intro (BO7) (And.intro (BXv7) (BXb7)))
    clear hHeld
    refine hK.out _ _ hS_ (fun hHeld => ?_)
    clear hK K hS_
    try simp only [aS]
    (refine lgt (i := 5) (v := ?_) rfl ?_ hHeld ?_; rotate_left; (focus (intro w_ hSw; (try dsimp only at hSw); go_simp; (try with_reducible rfl); done)); try simp only [aS])
    refine lateOne (i := 6) (by kernel_rfl) ?_
    refine lateLast (i := 6) rfl (by kernel_rfl) (by rfl) (fun K hK => ?_)
    have o_l := Blk.lt BO7; have o_f := fun i => Blk.frozen BO7 i; have o3 := Blk.cell BO7 3
    go_simp
    refine hK.out _ _ ?_
    clear hK K
    try simp only [aS]
    refine lateDone (by kernel_rfl) ?_ _
    have G9 := G7 (.slice A7 (m + 1) c7)
    have BO9 : Blk (w7.setCell ⟨w2.heap.size, 3, none⟩ (.slice A7 (m + 1) c7)) w2.heap.size 29 #[.int .i64 56, .int .i64 0, .string ⟨#[]⟩, .slice A7 (m + 1) c7] := by simpa using Blk.set_ BO7 3 (.slice A7 (m + 1) c7)
    have RB9 := Blk.far RB7 (p := ⟨w2.heap.size, 3, none⟩) (by show w.heap.size ≠ w2.heap.size; omega) (.slice A7 (m + 1) c7)
    have TK9 := TK7.set (p := ⟨w2.heap.size, 3, none⟩) hlw hgl (.slice A7 (m + 1) c7)
    generalize hZ : w7.setCell ⟨w2.heap.size, 3, none⟩ (.slice A7 (m + 1) c7) = Z at *
    have RBl := Blk.lt RB9
    have RBf := fun i => Blk.frozen RB9 i
    have RB0 := Blk.cell RB9 0
    have RB1 := Blk.cell RB9 1
    have RB2 := Blk.cell RB9 2
    have RB3 := Blk.cell RB9 3
    have BO90 := Blk.cell BO9 0
    have BO91 := Blk.cell BO9 1
    have BO92 := Blk.cell BO9 2
    have BO93 := Blk.cell BO9 3
    have BO9l := Blk.lt BO9
    go_wp2_with fail
    have RQ := fun x0 x1 x2 x3 => DrN.done (G9.le (show 623612000 + KU ≤ 899999980 from by omega)) (by omega) (by omega) TK9 k1 (by omega) x0 x1 x2 x3
    refine bodyPost_ret (v := .agg #[.int .i64 56, .int .i64 0, .string ⟨#[]⟩, .slice A7 (m + 1) c7]) (by simp [results, Try.results13, go_sem, RB0, RB1, RB2, RB3, RBl, RBf]) rfl (RQ _ _ _ _)
  · skip
    obtain ⟨KU, hKU⟩ : ∃ k, k = 20000000 := ⟨_, rfl⟩
    go_upto_region 9 with fail
    have hBl := BO.lt
    have TQ0 : Trk g B W8 W8 := Trk.start TK.cur
    have hYs := TK.size
    have hgY := Nat.lt_of_lt_of_le hgl TK.size
    replace q5 := q5.stp (stp_drew g W8) hgz
    replace q7 := q7.stp (stp_drew g W8) hgz
    have TQ := TQ0.drew
    refine lateStart (S := (fun w_ => Blk w_ (w.heap.size) 29 #[.int .i64 0, .int .i64 0, .string ⟨#[]⟩, .slice none 0 0] ∧ Blk w_ (w2.heap.size) 29 #[.int .i64 56, .int .i64 0, .string ⟨#[]⟩, .slice A m c] ∧ Blk w_ (W4.heap.size) 29 #[.int .i64 (4), .int .i64 (0), .string s3, .slice none 0 0] ∧ Blk w_ (W6.heap.size) 29 #[.int .i64 k7, .int .i64 n7, .string t7, .slice A7 m7 c7])) [8] (by kernel_rfl) ?_ (fun hHeld => ?_)
    · (try dsimp only)
      (exact And.intro (TQ.blk RB (by omega)) (And.intro (TQ.blk BO (by omega)) (And.intro (TQ.blk BXv (by omega)) (TQ.blk BXb (by omega)))))
    generalize hW8d : World.drew W8 = W8d at *
    have hgW : g < W8d.heap.size := Nat.lt_of_lt_of_le hgY TQ.size
    (refine lgt (i := 0) (v := ?_) rfl ?_ hHeld ?_; rotate_left; (focus (intro w_ hSw; (try dsimp only at hSw); go_simp; (try with_reducible rfl); done)); try simp only [aS])
    (refine lgt (i := 1) (v := ?_) rfl ?_ hHeld ?_; rotate_left; (focus (intro w_ hSw; (try dsimp only at hSw); have yb := hSw.2.1; have ⟨ybl, ybf, yb0, yb1, yb2, yb3⟩ := yb.all; go_simp; (try with_reducible rfl); done)); try simp only [aS])
    (refine lgt (i := 2) (v := ?_) rfl ?_ hHeld ?_; rotate_left; (focus (intro w_ hSw; (try dsimp only at hSw); have yb := hSw.2.2.1; have ⟨ybl, ybf, yb0, yb1, yb2, yb3⟩ := yb.all; go_simp; (try with_reducible rfl); done)); try simp only [aS])
    refine lateOne (i := 3) (by kernel_rfl) ?_
    refine lateOp (i := 3) rfl (by rfl) (fun K hK => ?_)
    go_simp
    (have r10 := Rw.row1 W8d.heap.size (by simp) (Nat.le_trans hYz TQ.size) q5; have sT := stp_new g W8d (.cells #[.int .i64 (4), .int .i64 (0), .string s3, .slice none 0 0] 29); replace q5 := q5.stp sT hgz; replace q7 := q7.stp sT hgz; clear sT; replace TQ := TQ.alloc (.cells #[.int .i64 (4), .int .i64 (0), .string s3, .slice none 0 0] 29); have hS_ := And.intro (TQ.blk RB (by omega)) (And.intro (TQ.blk BO (by omega)) (And.intro (TQ.blk BXv (by omega)) (TQ.blk BXb (by omega)))))
    clear hHeld
    refine hK.out _ _ hS_ (fun hHeld => ?_)
    clear hK K hS_
    try simp only [aS]
    refine lateOne (i := 4) (by kernel_rfl) ?_
    refine lateOp (i := 4) rfl (by rfl) (fun K hK => ?_)
    go_simp
    (go_at_call 27; have q12 := r10.mk (46) (0) (⟨#[]⟩) (0 + 1) (by decide); clear r10; refine (l15N_any _ _ _ _ _ _).mono ?_; rintro e W11 ⟨rfl, hb⟩; have sT := only_of_below (lo := g) (hi := g + 1) hb; replace q5 := q5.stp sT hgz; replace q7 := q7.stp sT hgz; replace q12 := q12.stp sT hgz; clear sT; replace TQ := TQ.new hb; clear hb; have hgW := Nat.lt_of_lt_of_le hgY TQ.size; have hS_ := And.intro (TQ.blk RB (by omega)) (And.intro (TQ.blk BO (by omega)) (And.intro (TQ.blk BXv (by omega)) (TQ.blk BXb (by omega)))))
    clear hHeld
    refine hK.out _ _ hS_ (fun hHeld => ?_)
    clear hK K hS_
    try simp only [aS]
    refine lateOne (i := 5) (by kernel_rfl) ?_
    refine lateOp (i := 5) rfl (by rfl) (fun K hK => ?_)
    go_simp
    (have r13 := Rw.row1 W11.heap.size (by simp) (Nat.le_trans hYz TQ.size) q12; have sT := stp_new g W11 (.cells #[.int .i64 (46), .int .i64 (0), .string ⟨#[]⟩, .slice (some ⟨W8d.heap.size, 0, none⟩) 1 1] 29); replace q5 := q5.stp sT hgz; replace q7 := q7.stp sT hgz; replace q12 := q12.stp sT hgz; clear sT; replace TQ := TQ.alloc (.cells #[.int .i64 (46), .int .i64 (0), .string ⟨#[]⟩, .slice (some ⟨W8d.heap.size, 0, none⟩) 1 1] 29); have hS_ := And.intro (TQ.blk RB (by omega)) (And.intro (TQ.blk BO (by omega)) (And.intro (TQ.blk BXv (by omega)) (TQ.blk BXb (by omega)))))
    clear hHeld
    refine hK.out _ _ hS_ (fun hHeld => ?_)
    clear hK K hS_
    try simp only [aS]
    refine lateOne (i := 6) (by kernel_rfl) ?_
    refine lateOp (i := 6) rfl (by rfl) (fun K hK => ?_)
    have GW := G.stp TQ.only (by omega)
    have hw6 := TQ.size
    refine wp_append_rd _ (.tmp 30) (.tmp 34) _ rfl (lo) 29 _ 4 56 Try.underlying27 infoNodeC rfl (by decide) (.slice A m c) m _ rfl GW.own (W11.heap.size + 1) _ 1 1 [.int .i64 (46), .int .i64 (0), .string ⟨#[]⟩, .slice (some ⟨W8d.heap.size, 0, none⟩) 1 1] rfl (rd_new W11 29 4 [.int .i64 (46), .int .i64 (0), .string ⟨#[]⟩, .slice (some ⟨W8d.heap.size, 0, none⟩) 1 1] rfl) (one4 _ _ _ _ _ _) (by unfold maxLen; omega) (by omega) (by omega) ?_
    intro v7 w7 own7 hg7 hat7
    obtain ⟨A7, c7, rfl, G7⟩ := GW.push_set (q12.le (show (((0) + (100 + 0))) + (0 + 1) ≤ KU from by omega)) (by omega) (fun b hb => by have := (G.lt b hb).2; omega) own7 hg7 hat7 (p := ⟨w2.heap.size, 3, none⟩) hhi (by show w2.heap.size < Y2.heap.size; exact hbn) (by omega)
    have TK7 := (TK.next TQ).grow hg7 (fun b hb => by have := (G.lt b hb).1; omega) hgl
    have RB7 := (TQ.blk RB (by omega)).bgrown hg7 (fun e => by have := G.lt _ e.symm; omega)
    have BO7 := (TQ.blk BO (by omega)).bgrown hg7 (fun e => by have := G.lt _ e.symm; omega)
    have BXv7 := (TQ.blk BXv (by omega)).bgrown hg7 (fun e => by have := G.lt _ e.symm; omega)
    have BXb7 := (TQ.blk BXb (by omega)).bgrown hg7 (fun e => by have := G.lt _ e.symm; omega)
    have hS_ := And.intro (RB7) (And.intro (BO7) (And.intro (BXv7) (BXb7)))
    clear hHeld
    refine hK.out _ _ hS_ (fun hHeld => ?_)
    clear hK K hS_
    try simp only [aS]
    (refine lgt (i := 7) (v := ?_) rfl ?_ hHeld ?_; rotate_left; (focus (intro w_ hSw; (try dsimp only at hSw); go_simp; (try with_reducible rfl); done)); try simp only [aS])
    refine lateOne (i := 8) (by kernel_rfl) ?_
    refine lateLast (i := 8) rfl (by kernel_rfl) (by rfl) (fun K hK => ?_)
    have o_l := Blk.lt BO7; have o_f := fun i => Blk.frozen BO7 i; have o3 := Blk.cell BO7 3
    go_simp
    refine hK.out _ _ ?_
    clear hK K
    try simp only [aS]
    refine lateDone (by kernel_rfl) ?_ _
    have G9 := G7 (.slice A7 (m + 1) c7)
    have BO9 : Blk (w7.setCell ⟨w2.heap.size, 3, none⟩ (.slice A7 (m + 1) c7)) w2.heap.size 29 #[.int .i64 56, .int .i64 0, .string ⟨#[]⟩, .slice A7 (m + 1) c7] := by simpa using Blk.set_ BO7 3 (.slice A7 (m + 1) c7)
    have RB9 := Blk.far RB7 (p := ⟨w2.heap.size, 3, none⟩) (by show w.heap.size ≠ w2.heap.size; omega) (.slice A7 (m + 1) c7)
    have TK9 := TK7.set (p := ⟨w2.heap.size, 3, none⟩) hlw hgl (.slice A7 (m + 1) c7)
    generalize hZ : w7.setCell ⟨w2.heap.size, 3, none⟩ (.slice A7 (m + 1) c7) = Z at *
    have RBl := Blk.lt RB9
    have RBf := fun i => Blk.frozen RB9 i
    have RB0 := Blk.cell RB9 0
    have RB1 := Blk.cell RB9 1
    have RB2 := Blk.cell RB9 2
    have RB3 := Blk.cell RB9 3
    have BO90 := Blk.cell BO9 0
    have BO91 := Blk.cell BO9 1
    have BO92 := Blk.cell BO9 2
    have BO93 := Blk.cell BO9 3
    have BO9l := Blk.lt BO9
    go_wp2_with fail
    have RQ := fun x0 x1 x2 x3 => DrN.done (G9.le (show 623612000 + KU ≤ 899999980 from by omega)) (by omega) (by omega) TK9 k1 (by omega) x0 x1 x2 x3
    refine bodyPost_ret (v := .agg #[.int .i64 56, .int .i64 0, .string ⟨#[]⟩, .slice A7 (m + 1) c7]) (by simp [results, Try.results13, go_sem, RB0, RB1, RB2, RB3, RBl, RBf]) rfl (RQ _ _ _ _)
  · skip
    obtain ⟨KU, hKU⟩ : ∃ k, k = 20000000 := ⟨_, rfl⟩
    go_upto_region 11 with fail
    have hBl := BO.lt
    have TQ0 : Trk g B W8 W8 := Trk.start TK.cur
    have hYs := TK.size
    have hgY := Nat.lt_of_lt_of_le hgl TK.size
    replace q5 := q5.stp (stp_drew g W8) hgz
    replace q7 := q7.stp (stp_drew g W8) hgz
    have TQ := TQ0.drew
    refine lateStart (S := (fun w_ => Blk w_ (w.heap.size) 29 #[.int .i64 0, .int .i64 0, .string ⟨#[]⟩, .slice none 0 0] ∧ Blk w_ (w2.heap.size) 29 #[.int .i64 56, .int .i64 0, .string ⟨#[]⟩, .slice A m c] ∧ Blk w_ (W4.heap.size) 29 #[.int .i64 (4), .int .i64 (0), .string s3, .slice none 0 0] ∧ Blk w_ (W6.heap.size) 29 #[.int .i64 k7, .int .i64 n7, .string t7, .slice A7 m7 c7])) [11] (by kernel_rfl) ?_ (fun hHeld => ?_)
    · (try dsimp only)
      (exact And.intro (TQ.blk RB (by omega)) (And.intro (TQ.blk BO (by omega)) (And.intro (TQ.blk BXv (by omega)) (TQ.blk BXb (by omega)))))
    generalize hW8d : World.drew W8 = W8d at *
    have hgW : g < W8d.heap.size := Nat.lt_of_lt_of_le hgY TQ.size
    (refine lgt (i := 0) (v := ?_) rfl ?_ hHeld ?_; rotate_left; (focus (intro w_ hSw; (try dsimp only at hSw); go_simp; (try with_reducible rfl); done)); try simp only [aS])
    (refine lgt (i := 1) (v := ?_) rfl ?_ hHeld ?_; rotate_left; (focus (intro w_ hSw; (try dsimp only at hSw); have yb := hSw.2.1; have ⟨ybl, ybf, yb0, yb1, yb2, yb3⟩ := yb.all; go_simp; (try with_reducible rfl); done)); try simp only [aS])
    (refine lgt (i := 2) (v := ?_) rfl ?_ hHeld ?_; rotate_left; (focus (intro w_ hSw; (try dsimp only at hSw); have yb := hSw.2.2.1; have ⟨ybl, ybf, yb0, yb1, yb2, yb3⟩ := yb.all; go_simp; (try with_reducible rfl); done)); try simp only [aS])
    (refine lgt (i := 3) (v := ?_) rfl ?_ hHeld ?_; rotate_left; (focus (intro w_ hSw; (try dsimp only at hSw); have yb := hSw.2.2.1; have ⟨ybl, ybf, yb0, yb1, yb2, yb3⟩ := yb.all; go_simp; (try with_reducible rfl); done)); try simp only [aS])
    refine lateOne (i := 4) (by kernel_rfl) ?_
    refine lateOp (i := 4) rfl (by rfl) (fun K hK => ?_)
    go_simp
    (have r10 := Rw.row2 W8d.heap.size (by simp) (Nat.le_trans hYz TQ.size) q5 q5; have sT := stp_new g W8d (.cells #[.int .i64 (4), .int .i64 (0), .string s3, .slice none 0 0, .int .i64 (4), .int .i64 (0), .string s3, .slice none 0 0] 29); replace q5 := q5.stp sT hgz; replace q7 := q7.stp sT hgz; clear sT; replace TQ := TQ.alloc (.cells #[.int .i64 (4), .int .i64 (0), .string s3, .slice none 0 0, .int .i64 (4), .int .i64 (0), .string s3, .slice none 0 0] 29); have hS_ := And.intro (TQ.blk RB (by omega)) (And.intro (TQ.blk BO (by omega)) (And.intro (TQ.blk BXv (by omega)) (TQ.blk BXb (by omega)))))
    clear hHeld
    refine hK.out _ _ hS_ (fun hHeld => ?_)
    clear hK K hS_
    try simp only [aS]
    refine lateOne (i := 5) (by kernel_rfl) ?_
    refine lateOp (i := 5) rfl (by rfl) (fun K hK => ?_)
    go_simp
    (go_at_call 27; have q12 := r10.mk (15) (0) (⟨#[]⟩) (0 + 2) (by decide); clear r10; refine (l15N_any _ _ _ _ _ _).mono ?_; rintro e W11 ⟨rfl, hb⟩; have sT := only_of_below (lo := g) (hi := g + 1) hb; replace q5 := q5.stp sT hgz; replace q7 := q7.stp sT hgz; replace q12 := q12.stp sT hgz; clear sT; replace TQ := TQ.new hb; clear hb; have hgW := Nat.lt_of_lt_of_le hgY TQ.size; have hS_ := And.intro (TQ.blk RB (by omega)) (And.intro (TQ.blk BO (by omega)) (And.intro (TQ.blk BXv (by omega)) (TQ.blk BXb (by omega)))))
    clear hHeld
    refine hK.out _ _ hS_ (fun hHeld => ?_)
    clear hK K hS_
    try simp only [aS]
    refine lateOne (i := 6) (by kernel_rfl) ?_
    refine lateOp (i := 6) rfl (by rfl) (fun K hK => ?_)
    go_simp
    (have r13 := Rw.row1 W11.heap.size (by simp) (Nat.le_trans hYz TQ.size) q12; have sT := stp_new g W11 (.cells #[.int .i64 (15), .int .i64 (0), .string ⟨#[]⟩, .slice (some ⟨W8d.heap.size, 0, none⟩) 2 2] 29); replace q5 := q5.stp sT hgz; replace q7 := q7.stp sT hgz; replace q12 := q12.stp sT hgz; clear sT; replace TQ := TQ.alloc (.cells #[.int .i64 (15), .int .i64 (0), .string ⟨#[]⟩, .slice (some ⟨W8d.heap.size, 0, none⟩) 2 2] 29); have hS_ := And.intro (TQ.blk RB (by omega)) (And.intro (TQ.blk BO (by omega)) (And.intro (TQ.blk BXv (by omega)) (TQ.blk BXb (by omega)))))
    clear hHeld
    refine hK.out _ _ hS_ (fun hHeld => ?_)
    clear hK K hS_
    try simp only [aS]
    refine lateOne (i := 7) (by kernel_rfl) ?_
    refine lateOp (i := 7) rfl (by rfl) (fun K hK => ?_)
    go_simp
    (go_at_call 27; have q15 := r13.mk (33) (0) (⟨#[]⟩) (0 + 1) (by decide); clear r13; refine (l15N_any _ _ _ _ _ _).mono ?_; rintro e W14 ⟨rfl, hb⟩; have sT := only_of_below (lo := g) (hi := g + 1) hb; replace q5 := q5.stp sT hgz; replace q7 := q7.stp sT hgz; replace q12 := q12.stp sT hgz; replace q15 := q15.stp sT hgz; clear sT; replace TQ := TQ.new hb; clear hb; have hgW := Nat.lt_of_lt_of_le hgY TQ.size; have hS_ := And.intro (TQ.blk RB (by omega)) (And.intro (TQ.blk BO (by omega)) (And.intro (TQ.blk BXv (by omega)) (TQ.blk BXb (by omega)))))
    clear hHeld
    refine hK.out _ _ hS_ (fun hHeld => ?_)
    clear hK K hS_
    try simp only [aS]
    refine lateOne (i := 8) (by kernel_rfl) ?_
    refine lateOp (i := 8) rfl (by rfl) (fun K hK => ?_)
    go_simp
    (have r16 := Rw.row1 W14.heap.size (by simp) (Nat.le_trans hYz TQ.size) q15; have sT := stp_new g W14 (.cells #[.int .i64 (33), .int .i64 (0), .string ⟨#[]⟩, .slice (some ⟨W11.heap.size, 0, none⟩) 1 1] 29); replace q5 := q5.stp sT hgz; replace q7 := q7.stp sT hgz; replace q12 := q12.stp sT hgz; replace q15 := q15.stp sT hgz; clear sT; replace TQ := TQ.alloc (.cells #[.int .i64 (33), .int .i64 (0), .string ⟨#[]⟩, .slice (some ⟨W11.heap.size, 0, none⟩) 1 1] 29); have hS_ := And.intro (TQ.blk RB (by omega)) (And.intro (TQ.blk BO (by omega)) (And.intro (TQ.blk BXv (by omega)) (TQ.blk BXb (by omega)))))
    clear hHeld
    refine hK.out _ _ hS_ (fun hHeld => ?_)
    clear hK K hS_
    try simp only [aS]
    refine lateOne (i := 9) (by kernel_rfl) ?_
    refine lateOp (i := 9) rfl (by rfl) (fun K hK => ?_)
    have GW := G.stp TQ.only (by omega)
    have hw6 := TQ.size
    refine wp_append_rd _ (.tmp 40) (.tmp 47) _ rfl (lo) 29 _ 4 56 Try.underlying27 infoNodeC rfl (by decide) (.slice A m c) m _ rfl GW.own (W14.heap.size + 1) _ 1 1 [.int .i64 (33), .int .i64 (0), .string ⟨#[]⟩, .slice (some ⟨W11.heap.size, 0, none⟩) 1 1] rfl (rd_new W14 29 4 [.int .i64 (33), .int .i64 (0), .string ⟨#[]⟩, .slice (some ⟨W11.heap.size, 0, none⟩) 1 1] rfl) (one4 _ _ _ _ _ _) (by unfold maxLen; omega) (by omega) (by omega) ?_
    intro v7 w7 own7 hg7 hat7
    obtain ⟨A7, c7, rfl, G7⟩ := GW.push_set (q15.le (show (((((0) + (100 + 0)) + ((0) + (100 + 0))) + (0 + 2))) + (0 + 1) ≤ KU from by omega)) (by omega) (fun b hb => by have := (G.lt b hb).2; omega) own7 hg7 hat7 (p := ⟨w2.heap.size, 3, none⟩) hhi (by show w2.heap.size < Y2.heap.size; exact hbn) (by omega)
    have TK7 := (TK.next TQ).grow hg7 (fun b hb => by have := (G.lt b hb).1; omega) hgl
    have RB7 := (TQ.blk RB (by omega)).bgrown hg7 (fun e => by have := G.lt _ e.symm; omega)
    have BO7 := (TQ.blk BO (by omega)).bgrown hg7 (fun e => by have := G.lt _ e.symm; omega)
    have BXv7 := (TQ.blk BXv (by omega)).bgrown hg7 (fun e => by have := G.lt _ e.symm; omega)
    have BXb7 := (TQ.blk BXb (by omega)).bgrown hg7 (fun e => by have := G.lt _ e.symm; omega)
    have hS_ := And.intro (RB7) (And.intro (BO7) (And.intro (BXv7) (BXb7)))
    clear hHeld
    refine hK.out _ _ hS_ (fun hHeld => ?_)
    clear hK K hS_
    try simp only [aS]
    (refine lgt (i := 10) (v := ?_) rfl ?_ hHeld ?_; rotate_left; (focus (intro w_ hSw; (try dsimp only at hSw); go_simp; (try with_reducible rfl); done)); try simp only [aS])
    refine lateOne (i := 11) (by kernel_rfl) ?_
    refine lateLast (i := 11) rfl (by kernel_rfl) (by rfl) (fun K hK => ?_)
    have o_l := Blk.lt BO7; have o_f := fun i => Blk.frozen BO7 i; have o3 := Blk.cell BO7 3
    go_simp
    refine hK.out _ _ ?_
    clear hK K
    try simp only [aS]
    refine lateDone (by kernel_rfl) ?_ _
    have G9 := G7 (.slice A7 (m + 1) c7)
    have BO9 : Blk (w7.setCell ⟨w2.heap.size, 3, none⟩ (.slice A7 (m + 1) c7)) w2.heap.size 29 #[.int .i64 56, .int .i64 0, .string ⟨#[]⟩, .slice A7 (m + 1) c7] := by simpa using Blk.set_ BO7 3 (.slice A7 (m + 1) c7)
    have RB9 := Blk.far RB7 (p := ⟨w2.heap.size, 3, none⟩) (by show w.heap.size ≠ w2.heap.size; omega) (.slice A7 (m + 1) c7)
    have TK9 := TK7.set (p := ⟨w2.heap.size, 3, none⟩) hlw hgl (.slice A7 (m + 1) c7)
    generalize hZ : w7.setCell ⟨w2.heap.size, 3, none⟩ (.slice A7 (m + 1) c7) = Z at *
    have RBl := Blk.lt RB9
    have RBf := fun i => Blk.frozen RB9 i
    have RB0 := Blk.cell RB9 0
    have RB1 := Blk.cell RB9 1
    have RB2 := Blk.cell RB9 2
    have RB3 := Blk.cell RB9 3
    have BO90 := Blk.cell BO9 0
    have BO91 := Blk.cell BO9 1
    have BO92 := Blk.cell BO9 2
    have BO93 := Blk.cell BO9 3
    have BO9l := Blk.lt BO9
    go_wp2_with fail
    have RQ := fun x0 x1 x2 x3 => DrN.done (G9.le (show 623612000 + KU ≤ 899999980 from by omega)) (by omega) (by omega) TK9 k1 (by omega) x0 x1 x2 x3
    refine bodyPost_ret (v := .agg #[.int .i64 56, .int .i64 0, .string ⟨#[]⟩, .slice A7 (m + 1) c7]) (by simp [results, Try.results13, go_sem, RB0, RB1, RB2, RB3, RBl, RBf]) rfl (RQ _ _ _ _)
  · skip
    obtain ⟨KU, hKU⟩ : ∃ k, k = 20000000 := ⟨_, rfl⟩
    go_upto_region 13 with fail
    have hBl := BO.lt
    have TQ0 : Trk g B W8 W8 := Trk.start TK.cur
    have hYs := TK.size
    have hgY := Nat.lt_of_lt_of_le hgl TK.size
    replace q5 := q5.stp (stp_drew g W8) hgz
    replace q7 := q7.stp (stp_drew g W8) hgz
    have TQ := TQ0.drew
    refine lateStart (S := (fun w_ => Blk w_ (w.heap.size) 29 #[.int .i64 0, .int .i64 0, .string ⟨#[]⟩, .slice none 0 0] ∧ Blk w_ (w2.heap.size) 29 #[.int .i64 56, .int .i64 0, .string ⟨#[]⟩, .slice A m c] ∧ Blk w_ (W4.heap.size) 29 #[.int .i64 (4), .int .i64 (0), .string s3, .slice none 0 0] ∧ Blk w_ (W6.heap.size) 29 #[.int .i64 k7, .int .i64 n7, .string t7, .slice A7 m7 c7])) [12] (by kernel_rfl) ?_ (fun hHeld => ?_)
    · (try dsimp only)
      (exact And.intro (TQ.blk RB (by omega)) (And.intro (TQ.blk BO (by omega)) (And.intro (TQ.blk BXv (by omega)) (TQ.blk BXb (by omega)))))
    generalize hW8d : World.drew W8 = W8d at *
    have hgW : g < W8d.heap.size := Nat.lt_of_lt_of_le hgY TQ.size
    (refine lgt (i := 0) (v := ?_) rfl ?_ hHeld ?_; rotate_left; (focus (intro w_ hSw; (try dsimp only at hSw); go_simp; (try with_reducible rfl); done)); try simp only [aS])
    (refine lgt (i := 1) (v := ?_) rfl ?_ hHeld ?_; rotate_left; (focus (intro w_ hSw; (try dsimp only at hSw); have yb := hSw.2.1; have ⟨ybl, ybf, yb0, yb1, yb2, yb3⟩ := yb.all; go_simp; (try with_reducible rfl); done)); try simp only [aS])
    (refine lgt (i := 2) (v := ?_) rfl ?_ hHeld ?_; rotate_left; (focus (intro w_ hSw; (try dsimp only at hSw); go_simp; (try with_reducible rfl); done)); try simp only [aS])
    (refine lgt (i := 3) (v := ?_) rfl ?_ hHeld ?_; rotate_left; (focus (intro w_ hSw; (try dsimp only at hSw); have yb := hSw.2.2.1; have ⟨ybl, ybf, yb0, yb1, yb2, yb3⟩ := yb.all; go_simp; (try with_reducible rfl); done)); try simp only [aS])
    (refine lgt (i := 4) (v := ?_) rfl ?_ hHeld ?_; rotate_left; (focus (intro w_ hSw; (try dsimp only at hSw); go_simp; (try with_reducible rfl); done)); try simp only [aS])
    (refine lgt (i := 5) (v := ?_) rfl ?_ hHeld ?_; rotate_left; (focus (intro w_ hSw; (try dsimp only at hSw); go_simp; (try with_reducible rfl); done)); try simp only [aS])
    (refine lgt (i := 6) (v := ?_) rfl ?_ hHeld ?_; rotate_left; (focus (intro w_ hSw; (try dsimp only at hSw); have yb := hSw.2.2.2; have ⟨ybl, ybf, yb0, yb1, yb2, yb3⟩ := yb.all; go_simp; (try with_reducible rfl); done)); try simp only [aS])
    refine lateOne (i := 7) (by kernel_rfl) ?_
    refine lateOp (i := 7) rfl (by rfl) (fun K hK => ?_)
    go_simp
    (have q10 := (Rw.no (X := W8d) (lo := Y2.heap.size)).mk (24) (0) (s3) (100 + 0) (by omega); have q11 := (Rw.no (X := W8d) (lo := Y2.heap.size)).mk (24) (0) (⟨#[97]⟩) (1 + 0) (by decide); have r12 := Rw.row3 W8d.heap.size (by simp) (Nat.le_trans hYz TQ.size) q10 q11 q7; have sT := stp_new g W8d (.cells #[.int .i64 (24), .int .i64 (0), .string s3, .slice none 0 0, .int .i64 (24), .int .i64 (0), .string ⟨#[97]⟩, .slice none 0 0, .int .i64 k7, .int .i64 n7, .string t7, .slice A7 m7 c7] 29); replace q5 := q5.stp sT hgz; replace q7 := q7.stp sT hgz; replace q10 := q10.stp sT hgz; replace q11 := q11.stp sT hgz; clear sT; replace TQ := TQ.alloc (.cells #[.int .i64 (24), .int .i64 (0), .string s3, .slice none 0 0, .int .i64 (24), .int .i64 (0), .string ⟨#[97]⟩, .slice none 0 0, .int .i64 k7, .int .i64 n7, .string t7, .slice A7 m7 c7] 29); have hS_ := And.intro (TQ.blk RB (by omega)) (And.intro (TQ.blk BO (by omega)) (And.intro (TQ.blk BXv (by omega)) (TQ.blk BXb (by omega)))))
    clear hHeld
    refine hK.out _ _ hS_ (fun hHeld => ?_)
    clear hK K hS_
    try simp only [aS]
    refine lateOne (i := 8) (by kernel_rfl) ?_
    refine lateOp (i := 8) rfl (by rfl) (fun K hK => ?_)
    go_simp
    (go_at_call 27; have q14 := r12.mk (49) (0) (⟨#[102]⟩) (1 + 3) (by decide); clear r12; refine (l15N_any _ _ _ _ _ _).mono ?_; rintro e W13 ⟨rfl, hb⟩; have sT := only_of_below (lo := g) (hi := g + 1) hb; replace q5 := q5.stp sT hgz; replace q7 := q7.stp sT hgz; replace q10 := q10.stp sT hgz; replace q11 := q11.stp sT hgz; replace q14 := q14.stp sT hgz; clear sT; replace TQ := TQ.new hb; clear hb; have hgW := Nat.lt_of_lt_of_le hgY TQ.size; have hS_ := And.intro (TQ.blk RB (by omega)) (And.intro (TQ.blk BO (by omega)) (And.intro (TQ.blk BXv (by omega)) (TQ.blk BXb (by omega)))))
    clear hHeld
    refine hK.out _ _ hS_ (fun hHeld => ?_)
    clear hK K hS_
    try simp only [aS]
    refine lateOne (i := 9) (by kernel_rfl) ?_
    refine lateOp (i := 9) rfl (by rfl) (fun K hK => ?_)
    go_simp
    (have r15 := Rw.row1 W13.heap.size (by simp) (Nat.le_trans hYz TQ.size) q14; have sT := stp_new g W13 (.cells #[.int .i64 (49), .int .i64 (0), .string ⟨#[102]⟩, .slice (some ⟨W8d.heap.size, 0, none⟩) 3 3] 29); replace q5 := q5.stp sT hgz; replace q7 := q7.stp sT hgz; replace q10 := q10.stp sT hgz; replace q11 := q11.stp sT hgz; replace q14 := q14.stp sT hgz; clear sT; replace TQ := TQ.alloc (.cells #[.int .i64 (49), .int .i64 (0), .string ⟨#[102]⟩, .slice (some ⟨W8d.heap.size, 0, none⟩) 3 3] 29); have hS_ := And.intro (TQ.blk RB (by omega)) (And.intro (TQ.blk BO (by omega)) (And.intro (TQ.blk BXv (by omega)) (TQ.blk BXb (by omega)))))
    clear hHeld
    refine hK.out _ _ hS_ (fun hHeld => ?_)
    clear hK K hS_
    try simp only [aS]
    refine lateOne (i := 10) (by kernel_rfl) ?_
    refine lateOp (i := 10) rfl (by rfl) (fun K hK => ?_)
    have GW := G.stp TQ.only (by omega)
    have hw6 := TQ.size
    refine wp_append_rd _ (.tmp 53) (.tmp 61) _ rfl (lo) 29 _ 4 56 Try.underlying27 infoNodeC rfl (by decide) (.slice A m c) m _ rfl GW.own (W13.heap.size + 1) _ 1 1 [.int .i64 (49), .int .i64 (0), .string ⟨#[102]⟩, .slice (some ⟨W8d.heap.size, 0, none⟩) 3 3] rfl (rd_new W13 29 4 [.int .i64 (49), .int .i64 (0), .string ⟨#[102]⟩, .slice (some ⟨W8d.heap.size, 0, none⟩) 3 3] rfl) (one4 _ _ _ _ _ _) (by unfold maxLen; omega) (by omega) (by omega) ?_
    intro v7 w7 own7 hg7 hat7
    obtain ⟨A7, c7, rfl, G7⟩ := GW.push_set (q14.le (show (((0) + (100 + 0)) + ((0) + (1 + 0)) + (3955000)) + (1 + 3) ≤ KU from by omega)) (by omega) (fun b hb => by have := (G.lt b hb).2; omega) own7 hg7 hat7 (p := ⟨w2.heap.size, 3, none⟩) hhi (by show w2.heap.size < Y2.heap.size; exact hbn) (by omega)
    have TK7 := (TK.next TQ).grow hg7 (fun b hb => by have := (G.lt b hb).1; omega) hgl
    have RB7 := (TQ.blk RB (by omega)).bgrown hg7 (fun e => by have := G.lt _ e.symm; omega)
    have BO7 := (TQ.blk BO (by omega)).bgrown hg7 (fun e => by have := G.lt _ e.symm; omega)
    have BXv7 := (TQ.blk BXv (by omega)).bgrown hg7 (fun e => by have := G.lt _ e.symm; omega)
    have BXb7 := (TQ.blk BXb (by omega)).bgrown hg7 (fun e => by have := G.lt _ e.symm; omega)
    have hS_ := And.intro (RB7) (And.intro (BO7) (And.intro (BXv7) (BXb7)))
    clear hHeld
    refine hK.out _ _ hS_ (fun hHeld => ?_)
    clear hK K hS_
    try simp only [aS]
    (refine lgt (i := 11) (v := ?_) rfl ?_ hHeld ?_; rotate_left; (focus (intro w_ hSw; (try dsimp only at hSw); go_simp; (try with_reducible rfl); done)); try simp only [aS])
    refine lateOne (i := 12) (by kernel_rfl) ?_
    refine lateLast (i := 12) rfl (by kernel_rfl) (by rfl) (fun K hK => ?_)
    have o_l := Blk.lt BO7; have o_f := fun i => Blk.frozen BO7 i; have o3 := Blk.cell BO7 3
    go_simp
    refine hK.out _ _ ?_
    clear hK K
    try simp only [aS]
    refine lateDone (by kernel_rfl) ?_ _
    have G9 := G7 (.slice A7 (m + 1) c7)
    have BO9 : Blk (w7.setCell ⟨w2.heap.size, 3, none⟩ (.slice A7 (m + 1) c7)) w2.heap.size 29 #[.int .i64 56, .int .i64 0, .string ⟨#[]⟩, .slice A7 (m + 1) c7] := by simpa using Blk.set_ BO7 3 (.slice A7 (m + 1) c7)
    have RB9 := Blk.far RB7 (p := ⟨w2.heap.size, 3, none⟩) (by show w.heap.size ≠ w2.heap.size; omega) (.slice A7 (m + 1) c7)
    have TK9 := TK7.set (p := ⟨w2.heap.size, 3, none⟩) hlw hgl (.slice A7 (m + 1) c7)
    generalize hZ : w7.setCell ⟨w2.heap.size, 3, none⟩ (.slice A7 (m + 1) c7) = Z at *
    have RBl := Blk.lt RB9
    have RBf := fun i => Blk.frozen RB9 i
    have RB0 := Blk.cell RB9 0
    have RB1 := Blk.cell RB9 1
    have RB2 := Blk.cell RB9 2
    have RB3 := Blk.cell RB9 3
    have BO90 := Blk.cell BO9 0
    have BO91 := Blk.cell BO9 1
    have BO92 := Blk.cell BO9 2
    have BO93 := Blk.cell BO9 3
    have BO9l := Blk.lt BO9
    go_wp2_with fail
    have RQ := fun x0 x1 x2 x3 => DrN.done (G9.le (show 623612000 + KU ≤ 899999980 from by omega)) (by omega) (by omega) TK9 k1 (by omega) x0 x1 x2 x3
    refine bodyPost_ret (v := .agg #[.int .i64 56, .int .i64 0, .string ⟨#[]⟩, .slice A7 (m + 1) c7]) (by simp [results, Try.results13, go_sem, RB0, RB1, RB2, RB3, RBl, RBf]) rfl (RQ _ _ _ _)
  · skip
    obtain ⟨KU, hKU⟩ : ∃ k, k = 20000000 := ⟨_, rfl⟩
    go_upto_region 15 with fail
    have hBl := BO.lt
    have TQ0 : Trk g B W8 W8 := Trk.start TK.cur
    have hYs := TK.size
    have hgY := Nat.lt_of_lt_of_le hgl TK.size
    replace q5 := q5.stp (stp_drew g W8) hgz
    replace q7 := q7.stp (stp_drew g W8) hgz
    have TQ := TQ0.drew
    refine lateStart (S := (fun w_ => Blk w_ (w.heap.size) 29 #[.int .i64 0, .int .i64 0, .string ⟨#[]⟩, .slice none 0 0] ∧ Blk w_ (w2.heap.size) 29 #[.int .i64 56, .int .i64 0, .string ⟨#[]⟩, .slice A m c] ∧ Blk w_ (W4.heap.size) 29 #[.int .i64 (4), .int .i64 (0), .string s3, .slice none 0 0] ∧ Blk w_ (W6.heap.size) 29 #[.int .i64 k7, .int .i64 n7, .string t7, .slice A7 m7 c7])) [10] (by kernel_rfl) ?_ (fun hHeld => ?_)
    · (try dsimp only)
      (exact And.intro (TQ.blk RB (by omega)) (And.intro (TQ.blk BO (by omega)) (And.intro (TQ.blk BXv (by omega)) (TQ.blk BXb (by omega)))))
    generalize hW8d : World.drew W8 = W8d at *
    have hgW : g < W8d.heap.size := Nat.lt_of_lt_of_le hgY TQ.size
    (refine lgt (i := 0) (v := ?_) rfl ?_ hHeld ?_; rotate_left; (focus (intro w_ hSw; (try dsimp only at hSw); go_simp; (try with_reducible rfl); done)); try simp only [aS])
    (refine lgt (i := 1) (v := ?_) rfl ?_ hHeld ?_; rotate_left; (focus (intro w_ hSw; (try dsimp only at hSw); have yb := hSw.2.1; have ⟨ybl, ybf, yb0, yb1, yb2, yb3⟩ := yb.all; go_simp; (try with_reducible rfl); done)); try simp only [aS])
    (refine lgt (i := 2) (v := ?_) rfl ?_ hHeld ?_; rotate_left; (focus (intro w_ hSw; (try dsimp only at hSw); have yb := hSw.2.2.1; have ⟨ybl, ybf, yb0, yb1, yb2, yb3⟩ := yb.all; go_simp; (try with_reducible rfl); done)); try simp only [aS])
    (refine lgt (i := 3) (v := ?_) rfl ?_ hHeld ?_; rotate_left; (focus (intro w_ hSw; (try dsimp only at hSw); have yb := hSw.2.2.1; have ⟨ybl, ybf, yb0, yb1, yb2, yb3⟩ := yb.all; go_simp; (try with_reducible rfl); done)); try simp only [aS])
    (refine lgt (i := 4) (v := ?_) rfl ?_ hHeld ?_; rotate_left; (focus (intro w_ hSw; (try dsimp only at hSw); have yb := hSw.2.2.2; have ⟨ybl, ybf, yb0, yb1, yb2, yb3⟩ := yb.all; go_simp; (try with_reducible rfl); done)); try simp only [aS])
    refine lateOne (i := 5) (by kernel_rfl) ?_
    refine lateOp (i := 5) rfl (by rfl) (fun K hK => ?_)
    go_simp
    (have r10 := Rw.row3 W8d.heap.size (by simp) (Nat.le_trans hYz TQ.size) q5 q5 q7; have sT := stp_new g W8d (.cells #[.int .i64 (4), .int .i64 (0), .string s3, .slice none 0 0, .int .i64 (4), .int .i64 (0), .string s3, .slice none 0 0, .int .i64 k7, .int .i64 n7, .string t7, .slice A7 m7 c7] 29); replace q5 := q5.stp sT hgz; replace q7 := q7.stp sT hgz; clear sT; replace TQ := TQ.alloc (.cells #[.int .i64 (4), .int .i64 (0), .string s3, .slice none 0 0, .int .i64 (4), .int .i64 (0), .string s3, .slice none 0 0, .int .i64 k7, .int .i64 n7, .string t7, .slice A7 m7 c7] 29); have hS_ := And.intro (TQ.blk RB (by omega)) (And.intro (TQ.blk BO (by omega)) (And.intro (TQ.blk BXv (by omega)) (TQ.blk BXb (by omega)))))
    clear hHeld
    refine hK.out _ _ hS_ (fun hHeld => ?_)
    clear hK K hS_
    try simp only [aS]
    refine lateOne (i := 6) (by kernel_rfl) ?_
    refine lateOp (i := 6) rfl (by rfl) (fun K hK => ?_)
    go_simp
    (go_at_call 27; have q12 := r10.mk (36) (0) (⟨#[]⟩) (0 + 3) (by decide); clear r10; refine (l15N_any _ _ _ _ _ _).mono ?_; rintro e W11 ⟨rfl, hb⟩; have sT := only_of_below (lo := g) (hi := g + 1) hb; replace q5 := q5.stp sT hgz; replace q7 := q7.stp sT hgz; replace q12 := q12.stp sT hgz; clear sT; replace TQ := TQ.new hb; clear hb; have hgW := Nat.lt_of_lt_of_le hgY TQ.size; have hS_ := And.intro (TQ.blk RB (by omega)) (And.intro (TQ.blk BO (by omega)) (And.intro (TQ.blk BXv (by omega)) (TQ.blk BXb (by omega)))))
    clear hHeld
    refine hK.out _ _ hS_ (fun hHeld => ?_)
    clear hK K hS_
    try simp only [aS]
    refine lateOne (i := 7) (by kernel_rfl) ?_
    refine lateOp (i := 7) rfl (by rfl) (fun K hK => ?_)
    go_simp
    (have r13 := Rw.row1 W11.heap.size (by simp) (Nat.le_trans hYz TQ.size) q12; have sT := stp_new g W11 (.cells #[.int .i64 (36), .int .i64 (0), .string ⟨#[]⟩, .slice (some ⟨W8d.heap.size, 0, none⟩) 3 3] 29); replace q5 := q5.stp sT hgz; replace q7 := q7.stp sT hgz; replace q12 := q12.stp sT hgz; clear sT; replace TQ := TQ.alloc (.cells #[.int .i64 (36), .int .i64 (0), .string ⟨#[]⟩, .slice (some ⟨W8d.heap.size, 0, none⟩) 3 3] 29); have hS_ := And.intro (TQ.blk RB (by omega)) (And.intro (TQ.blk BO (by omega)) (And.intro (TQ.blk BXv (by omega)) (TQ.blk BXb (by omega)))))
    clear hHeld
    refine hK.out _ _ hS_ (fun hHeld => ?_)
    clear hK K hS_
    try simp only [aS]
    refine lateOne (i := 8) (by kernel_rfl) ?_
    refine lateOp (i := 8) rfl (by rfl) (fun K hK => ?_)
    have GW := G.stp TQ.only (by omega)
    have hw6 := TQ.size
    refine wp_append_rd _ (.tmp 67) (.tmp 73) _ rfl (lo) 29 _ 4 56 Try.underlying27 infoNodeC rfl (by decide) (.slice A m c) m _ rfl GW.own (W11.heap.size + 1) _ 1 1 [.int .i64 (36), .int .i64 (0), .string ⟨#[]⟩, .slice (some ⟨W8d.heap.size, 0, none⟩) 3 3] rfl (rd_new W11 29 4 [.int .i64 (36), .int .i64 (0), .string ⟨#[]⟩, .slice (some ⟨W8d.heap.size, 0, none⟩) 3 3] rfl) (one4 _ _ _ _ _ _) (by unfold maxLen; omega) (by omega) (by omega) ?_
    intro v7 w7 own7 hg7 hat7
    obtain ⟨A7, c7, rfl, G7⟩ := GW.push_set (q12.le (show (((0) + (100 + 0)) + ((0) + (100 + 0)) + (3955000)) + (0 + 3) ≤ KU from by omega)) (by omega) (fun b hb => by have := (G.lt b hb).2; omega) own7 hg7 hat7 (p := ⟨w2.heap.size, 3, none⟩) hhi (by show w2.heap.size < Y2.heap.size; exact hbn) (by omega)
    have TK7 := (TK.next TQ).grow hg7 (fun b hb => by have := (G.lt b hb).1; omega) hgl
    have RB7 := (TQ.blk RB (by omega)).bgrown hg7 (fun e => by have := G.lt _ e.symm; omega)
    have BO7 := (TQ.blk BO (by omega)).bgrown hg7 (fun e => by have := G.lt _ e.symm; omega)
    have BXv7 := (TQ.blk BXv (by omega)).bgrown hg7 (fun e => by have := G.lt _ e.symm; omega)
    have BXb7 := (TQ.blk BXb (by omega)).bgrown hg7 (fun e => by have := G.lt _ e.symm; omega)
    have hS_ := And.intro (RB7) (And.intro (BO7) (And.intro (BXv7) (BXb7)))
    clear hHeld
    refine hK.out _ _ hS_ (fun hHeld => ?_)
    clear hK K hS_
    try simp only [aS]
    (refine lgt (i := 9) (v := ?_) rfl ?_ hHeld ?_; rotate_left; (focus (intro w_ hSw; (try dsimp only at hSw); go_simp; (try with_reducible rfl); done)); try simp only [aS])
    refine lateOne (i := 10) (by kernel_rfl) ?_
    refine lateLast (i := 10) rfl (by kernel_rfl) (by rfl) (fun K hK => ?_)
    have o_l := Blk.lt BO7; have o_f := fun i => Blk.frozen BO7 i; have o3 := Blk.cell BO7 3
    go_simp
    refine hK.out _ _ ?_
    clear hK K
    try simp only [aS]
    refine lateDone (by kernel_rfl) ?_ _
    have G9 := G7 (.slice A7 (m + 1) c7)
    have BO9 : Blk (w7.setCell ⟨w2.heap.size, 3, none⟩ (.slice A7 (m + 1) c7)) w2.heap.size 29 #[.int .i64 56, .int .i64 0, .string ⟨#[]⟩, .slice A7 (m + 1) c7] := by simpa using Blk.set_ BO7 3 (.slice A7 (m + 1) c7)
    have RB9 := Blk.far RB7 (p := ⟨w2.heap.size, 3, none⟩) (by show w.heap.size ≠ w2.heap.size; omega) (.slice A7 (m + 1) c7)
    have TK9 := TK7.set (p := ⟨w2.heap.size, 3, none⟩) hlw hgl (.slice A7 (m + 1) c7)
    generalize hZ : w7.setCell ⟨w2.heap.size, 3, none⟩ (.slice A7 (m + 1) c7) = Z at *
    have RBl := Blk.lt RB9
    have RBf := fun i => Blk.frozen RB9 i
    have RB0 := Blk.cell RB9 0
    have RB1 := Blk.cell RB9 1
    have RB2 := Blk.cell RB9 2
    have RB3 := Blk.cell RB9 3
    have BO90 := Blk.cell BO9 0
    have BO91 := Blk.cell BO9 1
    have BO92 := Blk.cell BO9 2
    have BO93 := Blk.cell BO9 3
    have BO9l := Blk.lt BO9
    go_wp2_with fail
    have RQ := fun x0 x1 x2 x3 => DrN.done (G9.le (show 623612000 + KU ≤ 899999980 from by omega)) (by omega) (by omega) TK9 k1 (by omega) x0 x1 x2 x3
    refine bodyPost_ret (v := .agg #[.int .i64 56, .int .i64 0, .string ⟨#[]⟩, .slice A7 (m + 1) c7]) (by simp [results, Try.results13, go_sem, RB0, RB1, RB2, RB3, RBl, RBf]) rfl (RQ _ _ _ _)
  · skip
    obtain ⟨KU, hKU⟩ : ∃ k, k = 20000000 := ⟨_, rfl⟩
    go_upto_region 17 with fail
    have hBl := BO.lt
    have TQ0 : Trk g B W8 W8 := Trk.start TK.cur
    have hYs := TK.size
    have hgY := Nat.lt_of_lt_of_le hgl TK.size
    replace q5 := q5.stp (stp_drew g W8) hgz
    replace q7 := q7.stp (stp_drew g W8) hgz
    have TQ := TQ0.drew
    refine lateStart (S := (fun w_ => Blk w_ (w.heap.size) 29 #[.int .i64 0, .int .i64 0, .string ⟨#[]⟩, .slice none 0 0] ∧ Blk w_ (w2.heap.size) 29 #[.int .i64 56, .int .i64 0, .string ⟨#[]⟩, .slice A m c] ∧ Blk w_ (W4.heap.size) 29 #[.int .i64 (4), .int .i64 (0), .string s3, .slice none 0 0] ∧ Blk w_ (W6.heap.size) 29 #[.int .i64 k7, .int .i64 n7, .string t7, .slice A7 m7 c7])) [16] (by kernel_rfl) ?_ (fun hHeld => ?_)
    · (try dsimp only)
      (exact And.intro (TQ.blk RB (by omega)) (And.intro (TQ.blk BO (by omega)) (And.intro (TQ.blk BXv (by omega)) (TQ.blk BXb (by omega)))))
    generalize hW8d : World.drew W8 = W8d at *
    have hgW : g < W8d.heap.size := Nat.lt_of_lt_of_le hgY TQ.size
    (refine lgt (i := 0) (v := ?_) rfl ?_ hHeld ?_; rotate_left; (focus (intro w_ hSw; (try dsimp only at hSw); go_simp; (try with_reducible rfl); done)); try simp only [aS])
    (refine lgt (i := 1) (v := ?_) rfl ?_ hHeld ?_; rotate_left; (focus (intro w_ hSw; (try dsimp only at hSw); have yb := hSw.2.1; have ⟨ybl, ybf, yb0, yb1, yb2, yb3⟩ := yb.all; go_simp; (try with_reducible rfl); done)); try simp only [aS])
    (refine lgt (i := 2) (v := ?_) rfl ?_ hHeld ?_; rotate_left; (focus (intro w_ hSw; (try dsimp only at hSw); have yb := hSw.2.2.1; have ⟨ybl, ybf, yb0, yb1, yb2, yb3⟩ := yb.all; go_simp; (try with_reducible rfl); done)); try simp only [aS])
    (refine lgt (i := 3) (v := ?_) rfl ?_ hHeld ?_; rotate_left; (focus (intro w_ hSw; (try dsimp only at hSw); have yb := hSw.2.2.2; have ⟨ybl, ybf, yb0, yb1, yb2, yb3⟩ := yb.all; go_simp; (try with_reducible rfl); done)); try simp only [aS])
    (refine lgt (i := 4) (v := ?_) rfl ?_ hHeld ?_; rotate_left; (focus (intro w_ hSw; (try dsimp only at hSw); have yb := hSw.2.2.2; have ⟨ybl, ybf, yb0, yb1, yb2, yb3⟩ := yb.all; go_simp; (try with_reducible rfl); done)); try simp only [aS])
    refine lateOne (i := 5) (by kernel_rfl) ?_
    refine lateOp (i := 5) rfl (by rfl) (fun K hK => ?_)
    go_simp
    (have r10 := Rw.row1 W8d.heap.size (by simp) (Nat.le_trans hYz TQ.size) q7; have sT := stp_new g W8d (.cells #[.int .i64 k7, .int .i64 n7, .string t7, .slice A7 m7 c7] 29); replace q5 := q5.stp sT hgz; replace q7 := q7.stp sT hgz; clear sT; replace TQ := TQ.alloc (.cells #[.int .i64 k7, .int .i64 n7, .string t7, .slice A7 m7 c7] 29); have hS_ := And.intro (TQ.blk RB (by omega)) (And.intro (TQ.blk BO (by omega)) (And.intro (TQ.blk BXv (by omega)) (TQ.blk BXb (by omega)))))
    clear hHeld
    refine hK.out _ _ hS_ (fun hHeld => ?_)
    clear hK K hS_
    try simp only [aS]
    refine lateOne (i := 6) (by kernel_rfl) ?_
    refine lateOp (i := 6) rfl (by rfl) (fun K hK => ?_)
    go_simp
    (go_at_call 27; have q12 := r10.mk (45) (0) (⟨#[]⟩) (0 + 1) (by decide); clear r10; refine (l15N_any _ _ _ _ _ _).mono ?_; rintro e W11 ⟨rfl, hb⟩; have sT := only_of_below (lo := g) (hi := g + 1) hb; replace q5 := q5.stp sT hgz; replace q7 := q7.stp sT hgz; replace q12 := q12.stp sT hgz; clear sT; replace TQ := TQ.new hb; clear hb; have hgW := Nat.lt_of_lt_of_le hgY TQ.size; have hS_ := And.intro (TQ.blk RB (by omega)) (And.intro (TQ.blk BO (by omega)) (And.intro (TQ.blk BXv (by omega)) (TQ.blk BXb (by omega)))))
    clear hHeld
    refine hK.out _ _ hS_ (fun hHeld => ?_)
    clear hK K hS_
    try simp only [aS]
    refine lateOne (i := 7) (by kernel_rfl) ?_
    refine lateOp (i := 7) rfl (by rfl) (fun K hK => ?_)
    go_simp
    (have r13 := Rw.row2 W11.heap.size (by simp) (Nat.le_trans hYz TQ.size) q7 q12; have sT := stp_new g W11 (.cells #[.int .i64 k7, .int .i64 n7, .string t7, .slice A7 m7 c7, .int .i64 (45), .int .i64 (0), .string ⟨#[]⟩, .slice (some ⟨W8d.heap.size, 0, none⟩) 1 1] 29); replace q5 := q5.stp sT hgz; replace q7 := q7.stp sT hgz; replace q12 := q12.stp sT hgz; clear sT; replace TQ := TQ.alloc (.cells #[.int .i64 k7, .int .i64 n7, .string t7, .slice A7 m7 c7, .int .i64 (45), .int .i64 (0), .string ⟨#[]⟩, .slice (some ⟨W8d.heap.size, 0, none⟩) 1 1] 29); have hS_ := And.intro (TQ.blk RB (by omega)) (And.intro (TQ.blk BO (by omega)) (And.intro (TQ.blk BXv (by omega)) (TQ.blk BXb (by omega)))))
    clear hHeld
    refine hK.out _ _ hS_ (fun hHeld => ?_)
    clear hK K hS_
    try simp only [aS]
    refine lateOne (i := 8) (by kernel_rfl) ?_
    refine lateOp (i := 8) rfl (by rfl) (fun K hK => ?_)
    go_simp
    (go_at_call 27; have q15 := r13.mk (43) (0) (⟨#[]⟩) (0 + 2) (by decide); clear r13; refine (l15N_any _ _ _ _ _ _).mono ?_; rintro e W14 ⟨rfl, hb⟩; have sT := only_of_below (lo := g) (hi := g + 1) hb; replace q5 := q5.stp sT hgz; replace q7 := q7.stp sT hgz; replace q12 := q12.stp sT hgz; replace q15 := q15.stp sT hgz; clear sT; replace TQ := TQ.new hb; clear hb; have hgW := Nat.lt_of_lt_of_le hgY TQ.size; have hS_ := And.intro (TQ.blk RB (by omega)) (And.intro (TQ.blk BO (by omega)) (And.intro (TQ.blk BXv (by omega)) (TQ.blk BXb (by omega)))))
    clear hHeld
    refine hK.out _ _ hS_ (fun hHeld => ?_)
    clear hK K hS_
    try simp only [aS]
    refine lateOne (i := 9) (by kernel_rfl) ?_
    refine lateOp (i := 9) rfl (by rfl) (fun K hK => ?_)
    go_simp
    (have r16 := Rw.row1 W14.heap.size (by simp) (Nat.le_trans hYz TQ.size) q15; have sT := stp_new g W14 (.cells #[.int .i64 (43), .int .i64 (0), .string ⟨#[]⟩, .slice (some ⟨W11.heap.size, 0, none⟩) 2 2] 29); replace q5 := q5.stp sT hgz; replace q7 := q7.stp sT hgz; replace q12 := q12.stp sT hgz; replace q15 := q15.stp sT hgz; clear sT; replace TQ := TQ.alloc (.cells #[.int .i64 (43), .int .i64 (0), .string ⟨#[]⟩, .slice (some ⟨W11.heap.size, 0, none⟩) 2 2] 29); have hS_ := And.intro (TQ.blk RB (by omega)) (And.intro (TQ.blk BO (by omega)) (And.intro (TQ.blk BXv (by omega)) (TQ.blk BXb (by omega)))))
    clear hHeld
    refine hK.out _ _ hS_ (fun hHeld => ?_)
    clear hK K hS_
    try simp only [aS]
    refine lateOne (i := 10) (by kernel_rfl) ?_
    refine lateOp (i := 10) rfl (by rfl) (fun K hK => ?_)
    go_simp
    (go_at_call 27; have q18 := r16.mk (48) (0) (⟨#[]⟩) (0 + 1) (by decide); clear r16; refine (l15N_any _ _ _ _ _ _).mono ?_; rintro e W17 ⟨rfl, hb⟩; have sT := only_of_below (lo := g) (hi := g + 1) hb; replace q5 := q5.stp sT hgz; replace q7 := q7.stp sT hgz; replace q12 := q12.stp sT hgz; replace q15 := q15.stp sT hgz; replace q18 := q18.stp sT hgz; clear sT; replace TQ := TQ.new hb; clear hb; have hgW := Nat.lt_of_lt_of_le hgY TQ.size; have hS_ := And.intro (TQ.blk RB (by omega)) (And.intro (TQ.blk BO (by omega)) (And.intro (TQ.blk BXv (by omega)) (TQ.blk BXb (by omega)))))
    clear hHeld
    refine hK.out _ _ hS_ (fun hHeld => ?_)
    clear hK K hS_
    try simp only [aS]
    refine lateOne (i := 11) (by kernel_rfl) ?_
    refine lateOp (i := 11) rfl (by rfl) (fun K hK => ?_)
    go_simp
    (have r19 := Rw.row2 W17.heap.size (by simp) (Nat.le_trans hYz TQ.size) q5 q18; have sT := stp_new g W17 (.cells #[.int .i64 (4), .int .i64 (0), .string s3, .slice none 0 0, .int .i64 (48), .int .i64 (0), .string ⟨#[]⟩, .slice (some ⟨W14.heap.size, 0, none⟩) 1 1] 29); replace q5 := q5.stp sT hgz; replace q7 := q7.stp sT hgz; replace q12 := q12.stp sT hgz; replace q15 := q15.stp sT hgz; replace q18 := q18.stp sT hgz; clear sT; replace TQ := TQ.alloc (.cells #[.int .i64 (4), .int .i64 (0), .string s3, .slice none 0 0, .int .i64 (48), .int .i64 (0), .string ⟨#[]⟩, .slice (some ⟨W14.heap.size, 0, none⟩) 1 1] 29); have hS_ := And.intro (TQ.blk RB (by omega)) (And.intro (TQ.blk BO (by omega)) (And.intro (TQ.blk BXv (by omega)) (TQ.blk BXb (by omega)))))
    clear hHeld
    refine hK.out _ _ hS_ (fun hHeld => ?_)
    clear hK K hS_
    try simp only [aS]
    refine lateOne (i := 12) (by kernel_rfl) ?_
    refine lateOp (i := 12) rfl (by rfl) (fun K hK => ?_)
    go_simp
    (go_at_call 27; have q21 := r19.mk (35) (0) (⟨#[]⟩) (0 + 2) (by decide); clear r19; refine (l15N_any _ _ _ _ _ _).mono ?_; rintro e W20 ⟨rfl, hb⟩; have sT := only_of_below (lo := g) (hi := g + 1) hb; replace q5 := q5.stp sT hgz; replace q7 := q7.stp sT hgz; replace q12 := q12.stp sT hgz; replace q15 := q15.stp sT hgz; replace q18 := q18.stp sT hgz; replace q21 := q21.stp sT hgz; clear sT; replace TQ := TQ.new hb; clear hb; have hgW := Nat.lt_of_lt_of_le hgY TQ.size; have hS_ := And.intro (TQ.blk RB (by omega)) (And.intro (TQ.blk BO (by omega)) (And.intro (TQ.blk BXv (by omega)) (TQ.blk BXb (by omega)))))
    clear hHeld
    refine hK.out _ _ hS_ (fun hHeld => ?_)
    clear hK K hS_
    try simp only [aS]
    refine lateOne (i := 13) (by kernel_rfl) ?_
    refine lateOp (i := 13) rfl (by rfl) (fun K hK => ?_)
    go_simp
    (have r22 := Rw.row1 W20.heap.size (by simp) (Nat.le_trans hYz TQ.size) q21; have sT := stp_new g W20 (.cells #[.int .i64 (35), .int .i64 (0), .string ⟨#[]⟩, .slice (some ⟨W17.heap.size, 0, none⟩) 2 2] 29); replace q5 := q5.stp sT hgz; replace q7 := q7.stp sT hgz; replace q12 := q12.stp sT hgz; replace q15 := q15.stp sT hgz; replace q18 := q18.stp sT hgz; replace q21 := q21.stp sT hgz; clear sT; replace TQ := TQ.alloc (.cells #[.int .i64 (35), .int .i64 (0), .string ⟨#[]⟩, .slice (some ⟨W17.heap.size, 0, none⟩) 2 2] 29); have hS_ := And.intro (TQ.blk RB (by omega)) (And.intro (TQ.blk BO (by omega)) (And.intro (TQ.blk BXv (by omega)) (TQ.blk BXb (by omega)))))
    clear hHeld
    refine hK.out _ _ hS_ (fun hHeld => ?_)
    clear hK K hS_
    try simp only [aS]
    refine lateOne (i := 14) (by kernel_rfl) ?_
    refine lateOp (i := 14) rfl (by rfl) (fun K hK => ?_)
    have GW := G.stp TQ.only (by omega)
    have hw6 := TQ.size
    refine wp_append_rd _ (.tmp 79) (.tmp 91) _ rfl (lo) 29 _ 4 56 Try.underlying27 infoNodeC rfl (by decide) (.slice A m c) m _ rfl GW.own (W20.heap.size + 1) _ 1 1 [.int .i64 (35), .int .i64 (0), .string ⟨#[]⟩, .slice (some ⟨W17.heap.size, 0, none⟩) 2 2] rfl (rd_new W20 29 4 [.int .i64 (35), .int .i64 (0), .string ⟨#[]⟩, .slice (some ⟨W17.heap.size, 0, none⟩) 2 2] rfl) (one4 _ _ _ _ _ _) (by unfold maxLen; omega) (by omega) (by omega) ?_
    intro v7 w7 own7 hg7 hat7
    obtain ⟨A7, c7, rfl, G7⟩ := GW.push_set (q21.le (show (((0) + (100 + 0)) + (((((3955000) + (((3955000)) + (0 + 1))) + (0 + 2))) + (0 + 1))) + (0 + 2) ≤ KU from by omega)) (by omega) (fun b hb => by have := (G.lt b hb).2; omega) own7 hg7 hat7 (p := ⟨w2.heap.size, 3, none⟩) hhi (by show w2.heap.size < Y2.heap.size; exact hbn) (by omega)
    have TK7 := (TK.next TQ).grow hg7 (fun b hb => by have := (G.lt b hb).1; omega) hgl
    have RB7 := (TQ.blk RB (by omega)).bgrown hg7 (fun e => by have := G.lt _ e.symm; omega)
    have BO7 := (TQ.blk BO (by omega)).bgrown hg7 (fun e => by have := G.lt _ e.symm; omega)
    have BXv7 := (TQ.blk BXv (by omega)).bgrown hg7 (fun e => by have := G.lt _ e.symm; omega)
    have BXb7 := (TQ.blk BXb (by omega)).bgrown hg7 (fun e => by have := G.lt _ e.symm; omega)
    have hS_ := And.intro (RB7) (And.intro (BO7) (And.intro (BXv7) (BXb7)))
    clear hHeld
    refine hK.out _ _ hS_ (fun hHeld => ?_)
    clear hK K hS_
    try simp only [aS]
    (refine lgt (i := 15) (v := ?_) rfl ?_ hHeld ?_; rotate_left; (focus (intro w_ hSw; (try dsimp only at hSw); go_simp; (try with_reducible rfl); done)); try simp only [aS])
    refine lateOne (i := 16) (by kernel_rfl) ?_
    refine lateLast (i := 16) rfl (by kernel_rfl) (by rfl) (fun K hK => ?_)
    have o_l := Blk.lt BO7; have o_f := fun i => Blk.frozen BO7 i; have o3 := Blk.cell BO7 3
    go_simp
    refine hK.out _ _ ?_
    clear hK K
    try simp only [aS]
    refine lateDone (by kernel_rfl) ?_ _
    have G9 := G7 (.slice A7 (m + 1) c7)
    have BO9 : Blk (w7.setCell ⟨w2.heap.size, 3, none⟩ (.slice A7 (m + 1) c7)) w2.heap.size 29 #[.int .i64 56, .int .i64 0, .string ⟨#[]⟩, .slice A7 (m + 1) c7] := by simpa using Blk.set_ BO7 3 (.slice A7 (m + 1) c7)
    have RB9 := Blk.far RB7 (p := ⟨w2.heap.size, 3, none⟩) (by show w.heap.size ≠ w2.heap.size; omega) (.slice A7 (m + 1) c7)
    have TK9 := TK7.set (p := ⟨w2.heap.size, 3, none⟩) hlw hgl (.slice A7 (m + 1) c7)
    generalize hZ : w7.setCell ⟨w2.heap.size, 3, none⟩ (.slice A7 (m + 1) c7) = Z at *
    have RBl := Blk.lt RB9
    have RBf := fun i => Blk.frozen RB9 i
    have RB0 := Blk.cell RB9 0
    have RB1 := Blk.cell RB9 1
    have RB2 := Blk.cell RB9 2
    have RB3 := Blk.cell RB9 3
    have BO90 := Blk.cell BO9 0
    have BO91 := Blk.cell BO9 1
    have BO92 := Blk.cell BO9 2
    have BO93 := Blk.cell BO9 3
    have BO9l := Blk.lt BO9
    go_wp2_with fail
    have RQ := fun x0 x1 x2 x3 => DrN.done (G9.le (show 623612000 + KU ≤ 899999980 from by omega)) (by omega) (by omega) TK9 k1 (by omega) x0 x1 x2 x3
    refine bodyPost_ret (v := .agg #[.int .i64 56, .int .i64 0, .string ⟨#[]⟩, .slice A7 (m + 1) c7]) (by simp [results, Try.results13, go_sem, RB0, RB1, RB2, RB3, RBl, RBf]) rfl (RQ _ _ _ _)
  · skip
    have RBl := Blk.lt RB
    have RBf := fun i => Blk.frozen RB i
    have RB0 := Blk.cell RB 0
    have RB1 := Blk.cell RB 1
    have RB2 := Blk.cell RB 2
    have RB3 := Blk.cell RB 3
    have BO0 := BO.cell 0
    have BO1 := BO.cell 1
    have BO2 := BO.cell 2
    have BO3 := BO.cell 3
    have BOl := BO.lt
    go_wp2_with fail
    have RQ := fun x0 x1 x2 x3 => DrN.done (G.le (show 623612000 ≤ 899999980 from by decide)) (by omega) (by omega) TK k1 (by omega) x0 x1 x2 x3
    refine bodyPost_ret (v := .agg #[.int .i64 56, .int .i64 0, .string ⟨#[]⟩, .slice A m c]) (by simp [results, Try.results13, go_sem, RB0, RB1, RB2, RB3, RBl, RBf]) rfl (RQ _ _ _ _)
  · skip
    have RBl := Blk.lt RB
    have RBf := fun i => Blk.frozen RB i
    have RB0 := Blk.cell RB 0
    have RB1 := Blk.cell RB 1
    have RB2 := Blk.cell RB 2
    have RB3 := Blk.cell RB 3
    have BO0 := BO.cell 0
    have BO1 := BO.cell 1
    have BO2 := BO.cell 2
    have BO3 := BO.cell 3
    have BOl := BO.lt
    go_wp2_with fail
    have RQ := fun x0 x1 x2 x3 => DrN.done (G.le (show 623612000 ≤ 899999980 from by decide)) (by omega) (by omega) TK k1 (by omega) x0 x1 x2 x3
    refine bodyPost_ret (v := .agg #[.int .i64 56, .int .i64 0, .string ⟨#[]⟩, .slice A m c]) (by simp [results, Try.results13, go_sem, RB0, RB1, RB2, RB3, RBl, RBf]) rfl (RQ _ _ _ _)
  · skip
    have RBl := Blk.lt RB
    have RBf := fun i => Blk.frozen RB i
    have RB0 := Blk.cell RB 0
    have RB1 := Blk.cell RB 1
    have RB2 := Blk.cell RB 2
    have RB3 := Blk.cell RB 3
    have BO0 := BO.cell 0
    have BO1 := BO.cell 1
    have BO2 := BO.cell 2
    have BO3 := BO.cell 3
    have BOl := BO.lt
    go_wp2_with fail
    have RQ := fun x0 x1 x2 x3 => DrN.done (G.le (show 623612000 ≤ 899999980 from by decide)) (by omega) (by omega) TK k1 (by omega) x0 x1 x2 x3
    refine bodyPost_ret (v := .agg #[.int .i64 56, .int .i64 0, .string ⟨#[]⟩, .slice A m c]) (by simp [results, Try.results13, go_sem, RB0, RB1, RB2, RB3, RBl, RBf]) rfl (RQ _ _ _ _)
  · skip
    have RBl := Blk.lt RB
    have RBf := fun i => Blk.frozen RB i
    have RB0 := Blk.cell RB 0
    have RB1 := Blk.cell RB 1
    have RB2 := Blk.cell RB 2
    have RB3 := Blk.cell RB 3
    have BO0 := BO.cell 0
    have BO1 := BO.cell 1
    have BO2 := BO.cell 2
    have BO3 := BO.cell 3
    have BOl := BO.lt
    go_wp2_with fail
    have RQ := fun x0 x1 x2 x3 => DrN.done (G.le (show 623612000 ≤ 899999980 from by decide)) (by omega) (by omega) TK k1 (by omega) x0 x1 x2 x3
    refine bodyPost_ret (v := .agg #[.int .i64 56, .int .i64 0, .string ⟨#[]⟩, .slice A m c]) (by simp [results, Try.results13, go_sem, RB0, RB1, RB2, RB3, RBl, RBf]) rfl (RQ _ _ _ _)
end Go.Proofs.Ytgejkfcemlkclaa
