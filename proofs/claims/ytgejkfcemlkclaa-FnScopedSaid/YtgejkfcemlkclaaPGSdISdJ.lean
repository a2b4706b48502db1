/-
  Parts of the proof: SdI, SdJ. Conditions: none.
-/
import Derived.Test.YtgejkfcemlkclaaPSdH
set_option linter.unusedVariables false
set_option linter.unusedSimpArgs false
namespace Go.Proofs.Ytgejkfcemlkclaa
set_option maxHeartbeats 40000000
open Go.ChangeShapes Go.WideShapes Go.ChangeAt Go.RowKit Go.Deep Go.Joins
open Go.ChangeMaps (open_string shut_string)
set_option maxRecDepth 100000
theorem set4_alloc (W : World) (o : Obj) (n : Nat) (hn : n < W.heap.size) (x0 x1 x2 x3 : Value) : ((((W.alloc o).setCell ⟨n, 0, none⟩ x0).setCell ⟨n, 1, none⟩ x1).setCell ⟨n, 2, none⟩ x2).setCell ⟨n, 3, none⟩ x3 = ((((W.setCell ⟨n, 0, none⟩ x0).setCell ⟨n, 1, none⟩ x1).setCell ⟨n, 2, none⟩ x2).setCell ⟨n, 3, none⟩ x3).alloc o := by
  rw [World.setCell_alloc_past _ _ _ _ hn, World.setCell_alloc_past _ _ _ _ (by simpa [World.setCell] using hn), World.setCell_alloc_past _ _ _ _ (by simpa [World.setCell] using hn), World.setCell_alloc_past _ _ _ _ (by simpa [World.setCell] using hn)]
def FnI (K : Nat) : Prop := ∀ (kd nu : Int) (nm : ByteArray) (gn : Bool) (g B : Nat) (w : World), nm.size ≤ 100 → Cur w g B → Calls Try.prog 46 #[.pointer (some ⟨g, 0, none⟩), .int .i64 kd, .string nm, .int .i64 nu, .bool gn] w (DrT g B K w)
theorem func_of (KD : Nat) (hD : DoI 2 KD) : FnI (KD + 1000) := by
  intro kd nu nm gn g B w hnm hc
  have hgw := hc.lt
  have k1 := (Below.refl w.heap.size w).alloc (Nat.le_refl _) (.cells #[.int .i64 0, .int .i64 0, .string ⟨#[]⟩, .slice none 0 0] 29)
  have TK := Trk.start (hc.alloc (.cells #[.int .i64 0, .int .i64 0, .string ⟨#[]⟩, .slice none 0 0] 29))
  have RB := Blk.new w 29 #[.int .i64 0, .int .i64 0, .string ⟨#[]⟩, .slice none 0 0]
  clear hc
  go_enter Try.func46, Try.ntmps46
  go_upto_region 1 with fail
  generalize hw1 : w.alloc (.cells #[.int .i64 0, .int .i64 0, .string ⟨#[]⟩, .slice none 0 0] 29) = w1 at *
  have hs1 : w.heap.size < w1.heap.size := RB.lt
  have hgl : g < w1.heap.size := by omega
  go_wp2_with (first | (have _q := tok1_2; go_at_call 29; have q6 := (Rw.no (X := W4) (lo := w1.heap.size)).mk (24) ((x5 : Int)) (s3) (100 + 0) (by omega); refine (hD _ _ g B _ TK.cur).mono ?_; rintro e W7 hD; obtain ⟨k8, n8, t8, A8, m8, c8, rfl, q8, U, O⟩ := hD.out w1.heap.size TK.size; clear hD; replace q6 := q6.stp O hgl; replace bk1 := bk1.only O (Nat.le_refl _) (by omega); replace RB := RB.only O (Nat.le_refl _) (by omega); replace TK := TK.call U O; clear U O; have hgW := Nat.lt_of_lt_of_le hgl TK.size; have ⟨RBl, RBf, RB0, RB1, RB2, RB3⟩ := RB.all; have tok1_3 : True := trivial) | (have _q := tok1_1; go_at_call 30; refine (l1Below_any g B 2 (by decide) (by decide) _ TK.cur).mono ?_; rintro e W4 ⟨⟨x5, hx5, rfl⟩, U, O⟩; replace bk1 := bk1.only O (Nat.le_refl _) (by omega); replace RB := RB.only O (Nat.le_refl _) (by omega); replace TK := TK.call U O; clear U O; have hgW := Nat.lt_of_lt_of_le hgl TK.size; have tok1_2 : True := trivial) | (go_at_call 28; have sT := stp_new g w1 (.cells #[.string ⟨#[97]⟩, .string ⟨#[98]⟩] 9); replace RB := RB.only sT (Nat.le_refl _) (by omega); clear sT; replace TK := TK.alloc (.cells #[.string ⟨#[97]⟩, .string ⟨#[98]⟩] 9); have bk1 := Blk.new' w1 9 #[.string ⟨#[97]⟩, .string ⟨#[98]⟩] w1.heap.size (by simp); refine (l1StrK g B 2 100 w1.heap.size _ _ _ (by decide) (by decide) (by kernel_rfl) TK.cur bk1 (by omega)).mono ?_; rintro e W2 ⟨⟨s3, hs3, rfl⟩, U, O⟩; replace bk1 := bk1.only O (Nat.le_refl _) (by omega); replace RB := RB.only O (Nat.le_refl _) (by omega); replace TK := TK.call U O; clear U O; have hgW := Nat.lt_of_lt_of_le hgl TK.size; have tok1_1 : True := trivial))
  have hRlt := RB.lt
  have r9 := Rw.row2 W7.heap.size (by simp) TK.size q6 q8
  clear q6 q8
  have sT := stp_new g W7 (.cells #[.int .i64 (24), .int .i64 ((x5 : Int)), .string s3, .slice none 0 0, .int .i64 k8, .int .i64 n8, .string t8, .slice A8 m8 c8] 29)
  replace bk1 := bk1.only sT (Nat.le_refl _) (by omega)
  replace RB := RB.only sT (Nat.le_refl _) (by omega)
  clear sT
  replace TK := TK.alloc (.cells #[.int .i64 (24), .int .i64 ((x5 : Int)), .string s3, .slice none 0 0, .int .i64 k8, .int .i64 n8, .string t8, .slice A8 m8 c8] 29)
  have q10 := r9.mk (kd) (nu) (nm) (100 + 2) (by omega)
  clear r9
  have RQ := fun x0 x1 x2 x3 => (set4_alloc _ _ _ hRlt x0 x1 x2 x3) ▸ DrT.done (q10.le (show (((0) + (100 + 0)) + (KD)) + (100 + 2) ≤ KD + 1000 from by omega)) TK k1 hgw hs1 x0 x1 x2 x3
  refine bodyPost_ret (v := .agg #[.int .i64 (kd), .int .i64 (nu), .string nm, .slice (some ⟨W7.heap.size, 0, none⟩) 2 2]) (by simp [results, Try.results46, go_sem, RB0, RB1, RB2, RB3, RBl, RBf]) rfl (RQ _ _ _ _)
end Go.Proofs.Ytgejkfcemlkclaa
namespace Go.Proofs.Ytgejkfcemlkclaa
set_option maxHeartbeats 40000000
open Go.ChangeShapes Go.WideShapes Go.ChangeAt Go.RowKit Go.Deep Go.Joins
open Go.ChangeMaps (open_string shut_string)
set_option maxRecDepth 100000
/-- While a script is drawn: its variable in block bo holds at most M trees of one's own. -/
def ScS (g B : Nat) (w1 w : World) (rb bo M KU : Nat) : Prop := ∃ (m hi : Nat) (A : Option Addr) (c : Nat) (vs : List Value), m ≤ M ∧ GRl w (bo + 1) hi A m c (m * KU) vs ∧ Blk w bo 29 #[.int .i64 56, .int .i64 0, .string ⟨#[]⟩, .slice A m c] ∧ Blk w rb 29 #[.int .i64 0, .int .i64 0, .string ⟨#[]⟩, .slice none 0 0] ∧ Trk g B w1 w
theorem ScS.more {g B : Nat} {w1 w : World} {rb bo M M' KU : Nat} (h : ScS g B w1 w rb bo M KU) (hM : M ≤ M') : ScS g B w1 w rb bo M' KU := by
  obtain ⟨m, hi, A, c, vs, hm, h⟩ := h
  exact ⟨m, hi, A, c, vs, by omega, h⟩
/-- What l15Script leaves: a script whose kids lie in a row of its own. -/
def DrG (g B K : Nat) (w : World) (e : Ending) (w' : World) : Prop := (∃ (lo hi : Nat) (A : Option Addr) (m c : Nat) (vs : List Value), e = .returned (.agg #[.int .i64 56, .int .i64 0, .string ⟨#[]⟩, .slice A m c]) ∧ w.heap.size < lo ∧ GRl w' lo hi A m c K vs ∧ m ≤ 11 ∧ lo ≤ w'.heap.size) ∧ Cur w' g B ∧ Only g (g + 1) w.heap.size w w'
theorem DrG.done {g B K : Nat} {w w1 X : World} {lo hi m c : Nat} {A : Option Addr} {vs : List Value} (hG : GRl X lo hi A m c K vs) (hm : m ≤ 11) (h : Trk g B w1 X) (hw : Below w.heap.size w w1) (hg : g < w.heap.size) (hlo : w.heap.size < lo) (hlo2 : lo ≤ X.heap.size) (x0 x1 x2 x3 : Value) :
    DrG g B K w (.returned (.agg #[.int .i64 56, .int .i64 0, .string ⟨#[]⟩, .slice A m c])) ((((X.setCell ⟨w.heap.size, 0, none⟩ x0).setCell ⟨w.heap.size, 1, none⟩ x1).setCell ⟨w.heap.size, 2, none⟩ x2).setCell ⟨w.heap.size, 3, none⟩ x3) := by
  have hB := h.cur.le
  refine ⟨⟨lo, hi, A, m, c, vs, rfl, hlo, GRl.far (GRl.far (GRl.far (GRl.far hG hlo _) hlo _) hlo _) hlo _, hm, by simpa [World.setCell] using hlo2⟩, ?_, ?_⟩
  · refine Cur.far (Cur.far (Cur.far (Cur.far h.cur ?_ ?_ _) ?_ ?_ _) ?_ ?_ _) ?_ ?_ _ <;> (dsimp only; omega)
  · refine Only.newset (Only.newset (Only.newset (Only.newset ?_ (p := ⟨w.heap.size, 0, none⟩) (Nat.le_refl _) _) (p := ⟨w.heap.size, 1, none⟩) (Nat.le_refl _) _) (p := ⟨w.heap.size, 2, none⟩) (Nat.le_refl _) _) (p := ⟨w.heap.size, 3, none⟩) (Nat.le_refl _) _
    exact (only_of_below hw).trans (h.only.less hw.size)
def ScrI (K : Nat) : Prop := ∀ (g B : Nat) (w : World), Cur w g B → Calls Try.prog 25 #[.pointer (some ⟨g, 0, none⟩)] w (DrG g B K w)
theorem script_of (KF KS KU : Nat) (hKU : KU = 2 * KF + KS + 2000) (hF : FnI KF) (hS : StpI 2 KS) : ScrI (11 * KU) := by
  intro g B w hc
  have hgw := hc.lt
  have k1 := (Below.refl w.heap.size w).alloc (Nat.le_refl _) (.cells #[.int .i64 0, .int .i64 0, .string ⟨#[]⟩, .slice none 0 0] 29)
  have TK := Trk.start (hc.alloc (.cells #[.int .i64 0, .int .i64 0, .string ⟨#[]⟩, .slice none 0 0] 29))
  have RB := Blk.new w 29 #[.int .i64 0, .int .i64 0, .string ⟨#[]⟩, .slice none 0 0]
  clear hc
  go_enter Try.func25, Try.ntmps25
  go_upto_region 1 with fail
  generalize hw1 : w.alloc (.cells #[.int .i64 0, .int .i64 0, .string ⟨#[]⟩, .slice none 0 0] 29) = w1 at *
  have hs1 : w.heap.size < w1.heap.size := RB.lt
  have hgl : g < w1.heap.size := by omega
  go_upto_region 2 with (first | (go_at_call 27; have q2 := (Rw.no (X := w1) (lo := w1.heap.size)).mk (56) (0) (⟨#[]⟩) (0 + 0) (by decide); refine (l15N_any _ _ _ _ _ _).mono ?_; rintro e W1 ⟨rfl, hb⟩; have sT := only_of_below (lo := g) (hi := g + 1) hb; replace q2 := q2.stp sT hgl; replace RB := RB.only sT (Nat.le_refl _) (by omega); clear sT; replace TK := TK.new hb; clear hb; have hgW := Nat.lt_of_lt_of_le hgl TK.size; have tok1_1 : True := trivial))
  have hbo := TK.size
  have sT := stp_new g W1 (.cells #[.int .i64 (56), .int .i64 (0), .string ⟨#[]⟩, .slice none 0 0] 29)
  replace q2 := q2.stp sT hgl
  replace RB := RB.only sT (Nat.le_refl _) (by omega)
  clear sT
  replace TK := TK.alloc (.cells #[.int .i64 (56), .int .i64 (0), .string ⟨#[]⟩, .slice none 0 0] 29)
  have hBXo : g < W1.heap.size := by omega
  have BXo := Blk.new' W1 29 #[.int .i64 (56), .int .i64 (0), .string ⟨#[]⟩, .slice none 0 0] W1.heap.size (by simp)
  generalize hY0 : (World.alloc W1 (.cells #[.int .i64 (56), .int .i64 (0), .string ⟨#[]⟩, .slice none 0 0] 29)) = Y0 at *
  generalize hbb : W1.heap.size = bo at *
  have St : ScS g B w1 Y0 w.heap.size bo 0 KU := ⟨0, _, none, 0, [], Nat.le_refl _, by rw [Nat.zero_mul]; exact GRl.nil _ _, BXo, RB, TK⟩
  clear TK RB BXo hY0 q2
  obtain ⟨m, hi, A, c, vs, hm, G, BO, RB, TK⟩ := St
  go_upto_if 10 with (first | (go_at_call 45; refine (l1Once_any g B 2 (by decide) (by decide) _ TK.cur).mono ?_; rintro e W31 ⟨⟨x32, rfl⟩, U, O⟩; replace G := G.stp O (by omega); replace RB := RB.only O (Nat.le_refl _) (by omega); replace BO := BO.only O (Nat.le_refl _) (by omega); replace TK := TK.call U O; clear U O; have hgW := Nat.lt_of_lt_of_le hgl TK.size; have tok2_1 : True := trivial))
  have St : ScS g B w1 W31 w.heap.size bo 0 KU := ⟨m, hi, A, c, vs, hm, G, BO, RB, TK⟩
  clear G BO RB TK hm
  go_cut [3] from 10 to 17 (fun v wx => v = .pointer (some ⟨bo, 0, none⟩) ∧ ScS g B w1 wx w.heap.size bo 1 KU)
  case first =>
    cases x32
    · go_wp2_with fail
      go_meet
      exact ⟨rfl, St.more (by omega)⟩
    · skip
      obtain ⟨m, hi, A, c, vs, hm, G, BO, RB, TK⟩ := St
      go_upto_region 3 with fail
      have hhi := G.hi_le
      have hBl := BO.lt
      have TQ0 : Trk g B W31 W31 := Trk.start TK.cur
      have hYs := TK.size
      have hgY := Nat.lt_of_lt_of_le hgl TK.size
      have TQ := TQ0.drew
      refine lateStart (S := (fun w_ => Blk w_ (w.heap.size) 29 #[.int .i64 0, .int .i64 0, .string ⟨#[]⟩, .slice none 0 0] ∧ Blk w_ (bo) 29 #[.int .i64 56, .int .i64 0, .string ⟨#[]⟩, .slice A m c])) [7] (by kernel_rfl) ?_ (fun hHeld => ?_)
      · (try dsimp only)
        (exact And.intro (TQ.blk RB (by omega)) (TQ.blk BO (by omega)))
      generalize hW31d : World.drew W31 = W31d at *
      have hgW : g < W31d.heap.size := Nat.lt_of_lt_of_le hgY TQ.size
      (refine lgt (i := 0) (v := ?_) rfl ?_ hHeld ?_; rotate_left; (focus (intro w_ hSw; (try dsimp only at hSw); go_simp; (try with_reducible rfl); done)); try simp only [aS])
      (refine lgt (i := 1) (v := ?_) rfl ?_ hHeld ?_; rotate_left; (focus (intro w_ hSw; (try dsimp only at hSw); have yb := hSw.2; have ⟨ybl, ybf, yb0, yb1, yb2, yb3⟩ := yb.all; go_simp; (try with_reducible rfl); done)); try simp only [aS])
      (refine lgt (i := 2) (v := ?_) rfl ?_ hHeld ?_; rotate_left; (focus (intro w_ hSw; (try dsimp only at hSw); go_simp; (try with_reducible rfl); done)); try simp only [aS])
      refine lateOne (i := 3) (by kernel_rfl) ?_
      refine lateOp (i := 3) rfl (by rfl) (fun K hK => ?_)
      go_simp
      (go_at_call 46; refine (hF _ _ _ _ g B _ (by first | decide | omega) TQ.cur).mono ?_; rintro e W61 hD; obtain ⟨k62, n62, t62, A62, m62, c62, rfl, q62, U, O⟩ := hD.out W31.heap.size TQ.size; clear hD; replace TQ := TQ.call U O; clear U O; have hgW := Nat.lt_of_lt_of_le hgY TQ.size; have hS_ := And.intro (TQ.blk RB (by omega)) (TQ.blk BO (by omega)))
      clear hHeld
      refine hK.out _ _ hS_ (fun hHeld => ?_)
      clear hK K hS_
      try simp only [aS]
      refine lateOne (i := 4) (by kernel_rfl) ?_
      refine lateOp (i := 4) rfl (by rfl) (fun K hK => ?_)
      go_simp
      (have r63 := Rw.row1 W61.heap.size (by simp) TQ.size q62; have sT := stp_new g W61 (.cells #[.int .i64 k62, .int .i64 n62, .string t62, .slice A62 m62 c62] 29); replace q62 := q62.stp sT hgY; clear sT; replace TQ := TQ.alloc (.cells #[.int .i64 k62, .int .i64 n62, .string t62, .slice A62 m62 c62] 29); have hS_ := And.intro (TQ.blk RB (by omega)) (TQ.blk BO (by omega)))
      clear hHeld
      refine hK.out _ _ hS_ (fun hHeld => ?_)
      clear hK K hS_
      try simp only [aS]
      refine lateOne (i := 5) (by kernel_rfl) ?_
      refine lateOp (i := 5) rfl (by rfl) (fun K hK => ?_)
      have GW := G.stp TQ.only (by omega)
      have hw6 := TQ.size
      refine wp_append_rd _ (.tmp 12) (.tmp 15) _ rfl (bo + 1) 29 _ 4 56 Try.underlying27 infoNodeC rfl (by decide) (.slice A m c) m _ rfl GW.own (W61.heap.size + 1) _ 1 1 [.int .i64 k62, .int .i64 n62, .string t62, .slice A62 m62 c62] rfl (rd_new W61 29 4 [.int .i64 k62, .int .i64 n62, .string t62, .slice A62 m62 c62] rfl) (one4 _ _ _ _ _ _) (by unfold maxLen; omega) (by omega) (by omega) ?_
      intro v7 w7 own7 hg7 hat7
      obtain ⟨A7, c7, rfl, G7⟩ := GW.push (q62.le (show KF ≤ KU from by omega)) (by omega) (fun b hb => by have := (G.lt b hb).2; omega) own7 hg7 hat7
      have TK7 := (TK.next TQ).grow hg7 (fun b hb => by have := (G.lt b hb).1; omega) hgl
      have RB7 := (TQ.blk RB (by omega)).bgrown hg7 (fun e => by have := G.lt _ e.symm; omega)
      have BO7 := (TQ.blk BO (by omega)).bgrown hg7 (fun e => by have := G.lt _ e.symm; omega)
      have hS_ := And.intro (RB7) (BO7)
      clear hHeld
      refine hK.out _ _ hS_ (fun hHeld => ?_)
      clear hK K hS_
      try simp only [aS]
      (refine lgt (i := 6) (v := ?_) rfl ?_ hHeld ?_; rotate_left; (focus (intro w_ hSw; (try dsimp only at hSw); go_simp; (try with_reducible rfl); done)); try simp only [aS])
      refine lateOne (i := 7) (by kernel_rfl) ?_
      refine lateLast (i := 7) rfl (by kernel_rfl) (by rfl) (fun K hK => ?_)
      have o_l := Blk.lt BO7; have o_f := fun i => Blk.frozen BO7 i; have o3 := Blk.cell BO7 3
      go_simp
      refine hK.out _ _ ?_
      clear hK K
      try simp only [aS]
      refine lateDone (by kernel_rfl) ?_ _
      go_wp2_with fail
      go_meet
      exact ⟨rfl, ⟨m + 1, _, A7, c7, _, by omega, by rw [Nat.succ_mul]; exact G7.far (p := ⟨bo, 3, none⟩) (by show bo < bo + 1; omega) _, by simpa using Blk.set_ BO7 3 (.slice A7 (m + 1) c7), Blk.far RB7 (p := ⟨bo, 3, none⟩) (by show w.heap.size ≠ bo; omega) _, TK7.set (p := ⟨bo, 3, none⟩) hbo hgl _⟩⟩
  case rest =>
    clear St
    obtain ⟨rfl, St⟩ := hcut
    obtain ⟨Y10, rfl⟩ : ∃ W : World, W = wc := ⟨_, rfl⟩
    obtain ⟨m, hi, A, c, vs, hm, G, BO, RB, TK⟩ := St
    go_upto_if 19 with (first | (go_at_call 45; refine (l1Once_any g B 3 (by decide) (by decide) _ TK.cur).mono ?_; rintro e W91 ⟨⟨x92, rfl⟩, U, O⟩; replace G := G.stp O (by omega); replace RB := RB.only O (Nat.le_refl _) (by omega); replace BO := BO.only O (Nat.le_refl _) (by omega); replace TK := TK.call U O; clear U O; have hgW := Nat.lt_of_lt_of_le hgl TK.size; have tok4_1 : True := trivial))
    have St : ScS g B w1 W91 w.heap.size bo 1 KU := ⟨m, hi, A, c, vs, hm, G, BO, RB, TK⟩
    clear G BO RB TK hm
    go_cut [3] from 19 to 26 (fun v wx => v = .pointer (some ⟨bo, 0, none⟩) ∧ ScS g B w1 wx w.heap.size bo 2 KU)
    case first =>
      cases x92
      · go_wp2_with fail
        go_meet
        exact ⟨rfl, St.more (by omega)⟩
      · skip
        obtain ⟨m, hi, A, c, vs, hm, G, BO, RB, TK⟩ := St
        go_upto_region 5 with fail
        have hhi := G.hi_le
        have hBl := BO.lt
        have TQ0 : Trk g B W91 W91 := Trk.start TK.cur
        have hYs := TK.size
        have hgY := Nat.lt_of_lt_of_le hgl TK.size
        have TQ := TQ0.drew
        refine lateStart (S := (fun w_ => Blk w_ (w.heap.size) 29 #[.int .i64 0, .int .i64 0, .string ⟨#[]⟩, .slice none 0 0] ∧ Blk w_ (bo) 29 #[.int .i64 56, .int .i64 0, .string ⟨#[]⟩, .slice A m c])) [7] (by kernel_rfl) ?_ (fun hHeld => ?_)
        · (try dsimp only)
          (exact And.intro (TQ.blk RB (by omega)) (TQ.blk BO (by omega)))
        generalize hW91d : World.drew W91 = W91d at *
        have hgW : g < W91d.heap.size := Nat.lt_of_lt_of_le hgY TQ.size
        (refine lgt (i := 0) (v := ?_) rfl ?_ hHeld ?_; rotate_left; (focus (intro w_ hSw; (try dsimp only at hSw); go_simp; (try with_reducible rfl); done)); try simp only [aS])
        (refine lgt (i := 1) (v := ?_) rfl ?_ hHeld ?_; rotate_left; (focus (intro w_ hSw; (try dsimp only at hSw); have yb := hSw.2; have ⟨ybl, ybf, yb0, yb1, yb2, yb3⟩ := yb.all; go_simp; (try with_reducible rfl); done)); try simp only [aS])
        (refine lgt (i := 2) (v := ?_) rfl ?_ hHeld ?_; rotate_left; (focus (intro w_ hSw; (try dsimp only at hSw); go_simp; (try with_reducible rfl); done)); try simp only [aS])
        refine lateOne (i := 3) (by kernel_rfl) ?_
        refine lateOp (i := 3) rfl (by rfl) (fun K hK => ?_)
        go_simp
        (go_at_call 46; refine (hF _ _ _ _ g B _ (by first | decide | omega) TQ.cur).mono ?_; rintro e W121 hD; obtain ⟨k122, n122, t122, A122, m122, c122, rfl, q122, U, O⟩ := hD.out W91.heap.size TQ.size; clear hD; replace TQ := TQ.call U O; clear U O; have hgW := Nat.lt_of_lt_of_le hgY TQ.size; have hS_ := And.intro (TQ.blk RB (by omega)) (TQ.blk BO (by omega)))
        clear hHeld
        refine hK.out _ _ hS_ (fun hHeld => ?_)
        clear hK K hS_
        try simp only [aS]
        refine lateOne (i := 4) (by kernel_rfl) ?_
        refine lateOp (i := 4) rfl (by rfl) (fun K hK => ?_)
        go_simp
        (have r123 := Rw.row1 W121.heap.size (by simp) TQ.size q122; have sT := stp_new g W121 (.cells #[.int .i64 k122, .int .i64 n122, .string t122, .slice A122 m122 c122] 29); replace q122 := q122.stp sT hgY; clear sT; replace TQ := TQ.alloc (.cells #[.int .i64 k122, .int .i64 n122, .string t122, .slice A122 m122 c122] 29); have hS_ := And.intro (TQ.blk RB (by omega)) (TQ.blk BO (by omega)))
        clear hHeld
        refine hK.out _ _ hS_ (fun hHeld => ?_)
        clear hK K hS_
        try simp only [aS]
        refine lateOne (i := 5) (by kernel_rfl) ?_
        refine lateOp (i := 5) rfl (by rfl) (fun K hK => ?_)
        have GW := G.stp TQ.only (by omega)
        have hw6 := TQ.size
        refine wp_append_rd _ (.tmp 21) (.tmp 24) _ rfl (bo + 1) 29 _ 4 56 Try.underlying27 infoNodeC rfl (by decide) (.slice A m c) m _ rfl GW.own (W121.heap.size + 1) _ 1 1 [.int .i64 k122, .int .i64 n122, .string t122, .slice A122 m122 c122] rfl (rd_new W121 29 4 [.int .i64 k122, .int .i64 n122, .string t122, .slice A122 m122 c122] rfl) (one4 _ _ _ _ _ _) (by unfold maxLen; omega) (by omega) (by omega) ?_
        intro v7 w7 own7 hg7 hat7
        obtain ⟨A7, c7, rfl, G7⟩ := GW.push (q122.le (show KF ≤ KU from by omega)) (by omega) (fun b hb => by have := (G.lt b hb).2; omega) own7 hg7 hat7
        have TK7 := (TK.next TQ).grow hg7 (fun b hb => by have := (G.lt b hb).1; omega) hgl
        have RB7 := (TQ.blk RB (by omega)).bgrown hg7 (fun e => by have := G.lt _ e.symm; omega)
        have BO7 := (TQ.blk BO (by omega)).bgrown hg7 (fun e => by have := G.lt _ e.symm; omega)
        have hS_ := And.intro (RB7) (BO7)
        clear hHeld
        refine hK.out _ _ hS_ (fun hHeld => ?_)
        clear hK K hS_
        try simp only [aS]
        (refine lgt (i := 6) (v := ?_) rfl ?_ hHeld ?_; rotate_left; (focus (intro w_ hSw; (try dsimp only at hSw); go_simp; (try with_reducible rfl); done)); try simp only [aS])
        refine lateOne (i := 7) (by kernel_rfl) ?_
        refine lateLast (i := 7) rfl (by kernel_rfl) (by rfl) (fun K hK => ?_)
        have o_l := Blk.lt BO7; have o_f := fun i => Blk.frozen BO7 i; have o3 := Blk.cell BO7 3
        go_simp
        refine hK.out _ _ ?_
        clear hK K
        try simp only [aS]
        refine lateDone (by kernel_rfl) ?_ _
        go_wp2_with fail
        go_meet
        exact ⟨rfl, ⟨m + 1, _, A7, c7, _, by omega, by rw [Nat.succ_mul]; exact G7.far (p := ⟨bo, 3, none⟩) (by show bo < bo + 1; omega) _, by simpa using Blk.set_ BO7 3 (.slice A7 (m + 1) c7), Blk.far RB7 (p := ⟨bo, 3, none⟩) (by show w.heap.size ≠ bo; omega) _, TK7.set (p := ⟨bo, 3, none⟩) hbo hgl _⟩⟩
    case rest =>
      clear St
      obtain ⟨rfl, St⟩ := hcut
      obtain ⟨Y19, rfl⟩ : ∃ W : World, W = wc := ⟨_, rfl⟩
      obtain ⟨m, hi, A, c, vs, hm, G, BO, RB, TK⟩ := St
      go_upto_if 28 with (first | (go_at_call 45; refine (l1Once_any g B 3 (by decide) (by decide) _ TK.cur).mono ?_; rintro e W151 ⟨⟨x152, rfl⟩, U, O⟩; replace G := G.stp O (by omega); replace RB := RB.only O (Nat.le_refl _) (by omega); replace BO := BO.only O (Nat.le_refl _) (by omega); replace TK := TK.call U O; clear U O; have hgW := Nat.lt_of_lt_of_le hgl TK.size; have tok6_1 : True := trivial))
      have St : ScS g B w1 W151 w.heap.size bo 2 KU := ⟨m, hi, A, c, vs, hm, G, BO, RB, TK⟩
      clear G BO RB TK hm
      go_cut [3] from 28 to 95 (fun v wx => v = .pointer (some ⟨bo, 0, none⟩) ∧ ScS g B w1 wx w.heap.size bo 6 KU)
      case first =>
        cases x152
        · go_wp2_with fail
          go_meet
          exact ⟨rfl, St.more (by omega)⟩
        · skip
          obtain ⟨m, hi, A, c, vs, hm, G, BO, RB, TK⟩ := St
          go_upto_region 7 with fail
          have hhi := G.hi_le
          have hBl := BO.lt
          have TQ0 : Trk g B W151 W151 := Trk.start TK.cur
          have hYs := TK.size
          have hgY := Nat.lt_of_lt_of_le hgl TK.size
          have TQ := TQ0.drew
          refine lateStart (S := (fun w_ => Blk w_ (w.heap.size) 29 #[.int .i64 0, .int .i64 0, .string ⟨#[]⟩, .slice none 0 0] ∧ Blk w_ (bo) 29 #[.int .i64 56, .int .i64 0, .string ⟨#[]⟩, .slice A m c])) [12] (by kernel_rfl) ?_ (fun hHeld => ?_)
          · (try dsimp only)
            (exact And.intro (TQ.blk RB (by omega)) (TQ.blk BO (by omega)))
          generalize hW151d : World.drew W151 = W151d at *
          have hgW : g < W151d.heap.size := Nat.lt_of_lt_of_le hgY TQ.size
          (refine lgt (i := 0) (v := ?_) rfl ?_ hHeld ?_; rotate_left; (focus (intro w_ hSw; (try dsimp only at hSw); go_simp; (try with_reducible rfl); done)); try simp only [aS])
          (refine lgt (i := 1) (v := ?_) rfl ?_ hHeld ?_; rotate_left; (focus (intro w_ hSw; (try dsimp only at hSw); have yb := hSw.2; have ⟨ybl, ybf, yb0, yb1, yb2, yb3⟩ := yb.all; go_simp; (try with_reducible rfl); done)); try simp only [aS])
          (refine lgt (i := 2) (v := ?_) rfl ?_ hHeld ?_; rotate_left; (focus (intro w_ hSw; (try dsimp only at hSw); go_simp; (try with_reducible rfl); done)); try simp only [aS])
          (refine lgt (i := 3) (v := ?_) rfl ?_ hHeld ?_; rotate_left; (focus (intro w_ hSw; (try dsimp only at hSw); go_simp; (try with_reducible rfl); done)); try simp only [aS])
          refine lateOne (i := 4) (by kernel_rfl) ?_
          refine lateOp (i := 4) rfl (by rfl) (fun K hK => ?_)
          go_simp
          (have sT := stp_new g W151d (.cells #[.string ⟨#[109]⟩, .string ⟨#[116]⟩, .string ⟨#[95, 95, 103, 101, 116]⟩, .string ⟨#[95, 95, 99, 97, 108, 108]⟩] 9); clear sT; replace TQ := TQ.alloc (.cells #[.string ⟨#[109]⟩, .string ⟨#[116]⟩, .string ⟨#[95, 95, 103, 101, 116]⟩, .string ⟨#[95, 95, 99, 97, 108, 108]⟩] 9); have bk181 := Blk.new' W151d 9 #[.string ⟨#[109]⟩, .string ⟨#[116]⟩, .string ⟨#[95, 95, 103, 101, 116]⟩, .string ⟨#[95, 95, 99, 97, 108, 108]⟩] W151d.heap.size (by simp); have hS_ := And.intro (TQ.blk RB (by omega)) (TQ.blk BO (by omega)))
          clear hHeld
          refine hK.out _ _ hS_ (fun hHeld => ?_)
          clear hK K hS_
          try simp only [aS]
          refine lateOne (i := 5) (by kernel_rfl) ?_
          refine lateOp (i := 5) rfl (by rfl) (fun K hK => ?_)
          go_simp
          (go_at_call 28; refine (l1StrK g B 4 100 W151d.heap.size _ _ _ (by decide) (by decide) (by kernel_rfl) TQ.cur bk181 (by omega)).mono ?_; rintro e W182 ⟨⟨s183, hs183, rfl⟩, U, O⟩; replace bk181 := bk181.only O (Nat.le_refl _) (by omega); replace TQ := TQ.call U O; clear U O; have hgW := Nat.lt_of_lt_of_le hgY TQ.size; have hS_ := And.intro (TQ.blk RB (by omega)) (TQ.blk BO (by omega)))
          clear hHeld
          refine hK.out _ _ hS_ (fun hHeld => ?_)
          clear hK K hS_
          try simp only [aS]
          refine lateOne (i := 6) (by kernel_rfl) ?_
          refine lateOp (i := 6) rfl (by rfl) (fun K hK => ?_)
          go_simp
          (go_at_call 46; refine (hF _ _ _ _ g B _ (by first | decide | omega) TQ.cur).mono ?_; rintro e W184 hD; obtain ⟨k185, n185, t185, A185, m185, c185, rfl, q185, U, O⟩ := hD.out W151.heap.size TQ.size; clear hD; replace bk181 := bk181.only O (Nat.le_refl _) (by omega); replace TQ := TQ.call U O; clear U O; have hgW := Nat.lt_of_lt_of_le hgY TQ.size; have hS_ := And.intro (TQ.blk RB (by omega)) (TQ.blk BO (by omega)))
          clear hHeld
          refine hK.out _ _ hS_ (fun hHeld => ?_)
          clear hK K hS_
          try simp only [aS]
          refine lateOne (i := 7) (by kernel_rfl) ?_
          refine lateOp (i := 7) rfl (by rfl) (fun K hK => ?_)
          go_simp
          (have r186 := Rw.row1 W184.heap.size (by simp) TQ.size q185; have sT := stp_new g W184 (.cells #[.int .i64 k185, .int .i64 n185, .string t185, .slice A185 m185 c185] 29); replace q185 := q185.stp sT hgY; replace bk181 := bk181.only sT (Nat.le_refl _) (by omega); clear sT; replace TQ := TQ.alloc (.cells #[.int .i64 k185, .int .i64 n185, .string t185, .slice A185 m185 c185] 29); have hS_ := And.intro (TQ.blk RB (by omega)) (TQ.blk BO (by omega)))
          clear hHeld
          refine hK.out _ _ hS_ (fun hHeld => ?_)
          clear hK K hS_
          try simp only [aS]
          refine lateOne (i := 8) (by kernel_rfl) ?_
          refine lateOp (i := 8) rfl (by rfl) (fun K hK => ?_)
          go_simp
          (go_at_call 27; have q188 := r186.mk (51) (0) (⟨#[84]⟩) (1 + 1) (by decide); clear r186; refine (l15N_any _ _ _ _ _ _).mono ?_; rintro e W187 ⟨rfl, hb⟩; have sT := only_of_below (lo := g) (hi := g + 1) hb; replace q185 := q185.stp sT hgY; replace q188 := q188.stp sT hgY; replace bk181 := bk181.only sT (Nat.le_refl _) (by omega); clear sT; replace TQ := TQ.new hb; clear hb; have hgW := Nat.lt_of_lt_of_le hgY TQ.size; have hS_ := And.intro (TQ.blk RB (by omega)) (TQ.blk BO (by omega)))
          clear hHeld
          refine hK.out _ _ hS_ (fun hHeld => ?_)
          clear hK K hS_
          try simp only [aS]
          refine lateOne (i := 9) (by kernel_rfl) ?_
          refine lateOp (i := 9) rfl (by rfl) (fun K hK => ?_)
          go_simp
          (have r189 := Rw.row1 W187.heap.size (by simp) TQ.size q188; have sT := stp_new g W187 (.cells #[.int .i64 (51), .int .i64 (0), .string ⟨#[84]⟩, .slice (some ⟨W184.heap.size, 0, none⟩) 1 1] 29); replace q185 := q185.stp sT hgY; replace q188 := q188.stp sT hgY; replace bk181 := bk181.only sT (Nat.le_refl _) (by omega); clear sT; replace TQ := TQ.alloc (.cells #[.int .i64 (51), .int .i64 (0), .string ⟨#[84]⟩, .slice (some ⟨W184.heap.size, 0, none⟩) 1 1] 29); have hS_ := And.intro (TQ.blk RB (by omega)) (TQ.blk BO (by omega)))
          clear hHeld
          refine hK.out _ _ hS_ (fun hHeld => ?_)
          clear hK K hS_
          try simp only [aS]
          refine lateOne (i := 10) (by kernel_rfl) ?_
          refine lateOp (i := 10) rfl (by rfl) (fun K hK => ?_)
          have GW := G.stp TQ.only (by omega)
          have hw6 := TQ.size
          refine wp_append_rd _ (.tmp 30) (.tmp 38) _ rfl (bo + 1) 29 _ 4 56 Try.underlying27 infoNodeC rfl (by decide) (.slice A m c) m _ rfl GW.own (W187.heap.size + 1) _ 1 1 [.int .i64 (51), .int .i64 (0), .string ⟨#[84]⟩, .slice (some ⟨W184.heap.size, 0, none⟩) 1 1] rfl (rd_new W187 29 4 [.int .i64 (51), .int .i64 (0), .string ⟨#[84]⟩, .slice (some ⟨W184.heap.size, 0, none⟩) 1 1] rfl) (one4 _ _ _ _ _ _) (by unfold maxLen; omega) (by omega) (by omega) ?_
          intro v7 w7 own7 hg7 hat7
          obtain ⟨A7, c7, rfl, G7⟩ := GW.push (q188.le (show ((KF)) + (1 + 1) ≤ KU from by omega)) (by omega) (fun b hb => by have := (G.lt b hb).2; omega) own7 hg7 hat7
          have TK7 := (TK.next TQ).grow hg7 (fun b hb => by have := (G.lt b hb).1; omega) hgl
          have RB7 := (TQ.blk RB (by omega)).bgrown hg7 (fun e => by have := G.lt _ e.symm; omega)
          have BO7 := (TQ.blk BO (by omega)).bgrown hg7 (fun e => by have := G.lt _ e.symm; omega)
          have hS_ := And.intro (RB7) (BO7)
          clear hHeld
          refine hK.out _ _ hS_ (fun hHeld => ?_)
          clear hK K hS_
          try simp only [aS]
          (refine lgt (i := 11) (v := ?_) rfl ?_ hHeld ?_; rotate_left; (focus (intro w_ hSw; (try dsimp only at hSw); go_simp; (try with_reducible rfl); done)); try simp only [aS])
          refine lateOne (i := 12) (by kernel_rfl) ?_
          refine lateLast (i := 12) rfl (by kernel_rfl) (by rfl) (fun K hK => ?_)
          have o_l := Blk.lt BO7; have o_f := fun i => Blk.frozen BO7 i; have o3 := Blk.cell BO7 3
          go_simp
          refine hK.out _ _ ?_
          clear hK K
          try simp only [aS]
          refine lateDone (by kernel_rfl) ?_ _
          have St : ScS g B w1 (w7.setCell ⟨bo, 3, none⟩ (.slice A7 (m + 1) c7)) w.heap.size bo 3 KU := ⟨m + 1, _, A7, c7, _, by omega, by rw [Nat.succ_mul]; exact G7.far (p := ⟨bo, 3, none⟩) (by show bo < bo + 1; omega) _, by simpa using Blk.set_ BO7 3 (.slice A7 (m + 1) c7), Blk.far RB7 (p := ⟨bo, 3, none⟩) (by show w.heap.size ≠ bo; omega) _, TK7.set (p := ⟨bo, 3, none⟩) hbo hgl _⟩
          generalize hZ7 : w7.setCell ⟨bo, 3, none⟩ (.slice A7 (m + 1) c7) = Z7 at *
          clear hZ7 TK7 BO7 RB7 G7 own7 hg7 hat7 G BO RB TK TQ TQ0 hm
          obtain ⟨m, hi, A, c, vs, hm, G, BO, RB, TK⟩ := St
          have TZ : Trk g B Z7 Z7 := Trk.start TK.cur
          have hgz : g < Z7.heap.size := by have := TK.size; omega
          have hbz : bo < Z7.heap.size := BO.lt
          have hhz := G.hi_le
          go_upto_region 9 with fail
          have q211 := (Rw.no (X := Z7) (lo := Z7.heap.size)).mk (1) (2) (⟨#[]⟩) (0 + 0) (by decide)
          have sT := stp_new g Z7 (.cells #[.int .i64 (1), .int .i64 (2), .string ⟨#[]⟩, .slice none 0 0] 29)
          replace q211 := q211.stp sT hgz
          replace G := G.stp sT (by omega)
          replace RB := RB.only sT (Nat.le_refl _) (by omega)
          replace BO := BO.only sT (Nat.le_refl _) (by omega)
          clear sT
          replace TZ := TZ.alloc (.cells #[.int .i64 (1), .int .i64 (2), .string ⟨#[]⟩, .slice none 0 0] 29)
          have hBXtwo : g < Z7.heap.size := by omega
          have BXtwo := Blk.new' Z7 29 #[.int .i64 (1), .int .i64 (2), .string ⟨#[]⟩, .slice none 0 0] Z7.heap.size (by simp)
          generalize hY212 : (World.alloc Z7 (.cells #[.int .i64 (1), .int .i64 (2), .string ⟨#[]⟩, .slice none 0 0] 29)) = Y212 at *
          clear hY212
          go_cut [5] from 42 to 48 (fun v wx => ∃ (ca hia : Nat) (Aa : Option Addr) (vsa : List Value), v = .slice Aa 2 ca ∧ GRl wx Z7.heap.size hia Aa 2 ca (500) vsa ∧ GRl wx (bo + 1) hi A m c (m * KU) vs ∧ Blk wx bo 29 #[.int .i64 56, .int .i64 0, .string ⟨#[]⟩, .slice A m c] ∧ Blk wx w.heap.size 29 #[.int .i64 0, .int .i64 0, .string ⟨#[]⟩, .slice none 0 0] ∧ Trk g B Z7 wx)
          case first =>
            have TQ0 : Trk g B Y212 Y212 := Trk.start TZ.cur
            have hYs := TZ.size
            have hgY : g < Y212.heap.size := Nat.lt_of_lt_of_le hgz TZ.size
            replace q211 := q211.stp (stp_drew g Y212) hgz
            have TQ := TQ0.drew
            refine lateStart (S := (fun w_ => Trk g B Y212 w_)) [] (by kernel_rfl) ?_ (fun hHeld => ?_)
            · (try dsimp only)
              (exact TQ0.drew)
            generalize hY212d : World.drew Y212 = Y212d at *
            have hgW : g < Y212d.heap.size := Nat.lt_of_lt_of_le hgY TQ.size
            (refine lgt (i := 1) (v := ?_) rfl ?_ hHeld ?_; rotate_left; (focus (intro w_ hSw; (try dsimp only at hSw); go_simp; (try with_reducible rfl); done)); try simp only [aS])
            (refine lgt (i := 3) (v := ?_) rfl ?_ hHeld ?_; rotate_left; (focus (intro w_ hSw; (try dsimp only at hSw); have yb := hSw.blk BXtwo (by omega); have ⟨ybl, ybf, yb0, yb1, yb2, yb3⟩ := yb.all; go_simp; (try with_reducible rfl); done)); try simp only [aS])
            refine lateTwo (i := 0) (j := 4) (by kernel_rfl) ?_ ?_
            · skip
              refine lateOp (i := 0) rfl (by rfl) (fun K hK => ?_)
              go_simp
              (go_at_call 27; have q214 := (Rw.no (X := Y212d) (lo := Z7.heap.size)).mk (53) (0) (⟨#[84]⟩) (1 + 0) (by decide); refine (l15N_any _ _ _ _ _ _).mono ?_; rintro e W213 ⟨rfl, hb⟩; have sT := only_of_below (lo := g) (hi := g + 1) hb; replace q211 := q211.stp sT hgz; replace q214 := q214.stp sT hgz; clear sT; replace TQ := TQ.new hb; clear hb; have hgW := Nat.lt_of_lt_of_le hgY TQ.size; have hS_ := TQ)
              clear hHeld
              refine hK.out _ _ hS_ (fun hHeld => ?_)
              clear hK K hS_
              try simp only [aS]
              refine lateTwo (i := 2) (j := 4) (by kernel_rfl) ?_ ?_
              · skip
                refine lateOp (i := 2) rfl (by rfl) (fun K hK => ?_)
                go_simp
                (go_at_call 30; refine (l1Below_any g B 2 (by decide) (by decide) _ TQ.cur).mono ?_; rintro e W215 ⟨⟨x216, hx216, rfl⟩, U, O⟩; replace q211 := q211.stp O hgz; replace q214 := q214.stp O hgz; replace TQ := TQ.call U O; clear U O; have hgW := Nat.lt_of_lt_of_le hgY TQ.size; have hS_ := TQ)
                clear hHeld
                refine hK.out _ _ hS_ (fun hHeld => ?_)
                clear hK K hS_
                try simp only [aS]
                refine lateOne (i := 4) (by kernel_rfl) ?_
                refine lateOp (i := 4) rfl (by rfl) (fun K hK => ?_)
                go_simp
                (have r217 := Rw.row1 W215.heap.size (by simp) (Nat.le_trans hYs TQ.size) q211; have sT := stp_new g W215 (.cells #[.int .i64 (1), .int .i64 (2), .string ⟨#[]⟩, .slice none 0 0] 29); replace q211 := q211.stp sT hgz; replace q214 := q214.stp sT hgz; clear sT; replace TQ := TQ.alloc (.cells #[.int .i64 (1), .int .i64 (2), .string ⟨#[]⟩, .slice none 0 0] 29); have hS_ := TQ)
                clear hHeld
                refine hK.out _ _ hS_ (fun hHeld => ?_)
                clear hK K hS_
                try simp only [aS]
                (refine lgt (i := 5) (v := ?_) rfl ?_ hHeld ?_; rotate_left; (focus (intro w_ hSw; (try dsimp only at hSw); go_simp; (try with_reducible rfl); done)); try simp only [aS])
                refine lateOne (i := 6) (by kernel_rfl) ?_
                refine lateOp (i := 6) rfl (by rfl) (fun K hK => ?_)
                go_simp
                (have q218 := r217.mk (54) ((x216 : Int)) (⟨#[112]⟩) (1 + 1) (by decide); clear r217; have GA := GRl.lit2 q214 q218 (Nat.le_refl _) (Nat.le_trans hYs TQ.size); have r219 := Rw.row2 (W215.heap.size + 1) (by simp) (Nat.le_trans hYs TQ.size) q214 q218; have sT := stp_new g (World.alloc W215 (.cells #[.int .i64 (1), .int .i64 (2), .string ⟨#[]⟩, .slice none 0 0] 29)) (.cells #[.int .i64 (53), .int .i64 (0), .string ⟨#[84]⟩, .slice none 0 0, .int .i64 (54), .int .i64 ((x216 : Int)), .string ⟨#[112]⟩, .slice (some ⟨W215.heap.size, 0, none⟩) 1 1] 29); replace q211 := q211.stp sT hgz; replace q214 := q214.stp sT hgz; replace q218 := q218.stp sT hgz; clear sT; replace TQ := TQ.alloc (.cells #[.int .i64 (53), .int .i64 (0), .string ⟨#[84]⟩, .slice none 0 0, .int .i64 (54), .int .i64 ((x216 : Int)), .string ⟨#[112]⟩, .slice (some ⟨W215.heap.size, 0, none⟩) 1 1] 29); have hS_ := TQ)
                clear hHeld
                refine hK.out _ _ hS_ (fun hHeld => ?_)
                clear hK K hS_
                try simp only [aS]
                (refine lgt (i := 7) (v := ?_) rfl ?_ hHeld ?_; rotate_left; (focus (intro w_ hSw; (try dsimp only at hSw); go_simp; (try with_reducible rfl); done)); try simp only [aS])
                refine lateDone (by kernel_rfl) ?_ _
                try simp only [size_al] at GA
                go_wp2_with fail
                go_meet
                exact ⟨_, _, _, _, rfl, GA.le (show ((0) + (1 + 0)) + ((((0) + (0 + 0))) + (1 + 1)) ≤ 500 from by omega), G.stp TQ.only (by omega), TQ.blk BO (by omega), TQ.blk RB (by omega), TZ.next TQ⟩
              · skip
                refine lateOp (i := 4) rfl (by rfl) (fun K hK => ?_)
                go_simp
                (have r215 := Rw.row1 W213.heap.size (by simp) (Nat.le_trans hYs TQ.size) q211; have sT := stp_new g W213 (.cells #[.int .i64 (1), .int .i64 (2), .string ⟨#[]⟩, .slice none 0 0] 29); replace q211 := q211.stp sT hgz; replace q214 := q214.stp sT hgz; clear sT; replace TQ := TQ.alloc (.cells #[.int .i64 (1), .int .i64 (2), .string ⟨#[]⟩, .slice none 0 0] 29); have hS_ := TQ)
                clear hHeld
                refine hK.out _ _ hS_ (fun hHeld => ?_)
                clear hK K hS_
                try simp only [aS]
                refine lateOne (i := 2) (by kernel_rfl) ?_
                refine lateOp (i := 2) rfl (by rfl) (fun K hK => ?_)
                go_simp
                (go_at_call 30; refine (l1Below_any g B 2 (by decide) (by decide) _ TQ.cur).mono ?_; rintro e W216 ⟨⟨x217, hx217, rfl⟩, U, O⟩; replace q211 := q211.stp O hgz; replace q214 := q214.stp O hgz; replace r215 := r215.stp O hgz; replace TQ := TQ.call U O; clear U O; have hgW := Nat.lt_of_lt_of_le hgY TQ.size; have hS_ := TQ)
                clear hHeld
                refine hK.out _ _ hS_ (fun hHeld => ?_)
                clear hK K hS_
                try simp only [aS]
                (refine lgt (i := 5) (v := ?_) rfl ?_ hHeld ?_; rotate_left; (focus (intro w_ hSw; (try dsimp only at hSw); go_simp; (try with_reducible rfl); done)); try simp only [aS])
                refine lateOne (i := 6) (by kernel_rfl) ?_
                refine lateOp (i := 6) rfl (by rfl) (fun K hK => ?_)
                go_simp
                (have q218 := r215.mk (54) ((x217 : Int)) (⟨#[112]⟩) (1 + 1) (by decide); clear r215; have GA := GRl.lit2 q214 q218 (Nat.le_refl _) (Nat.le_trans hYs TQ.size); have r219 := Rw.row2 W216.heap.size (by simp) (Nat.le_trans hYs TQ.size) q214 q218; have sT := stp_new g W216 (.cells #[.int .i64 (53), .int .i64 (0), .string ⟨#[84]⟩, .slice none 0 0, .int .i64 (54), .int .i64 ((x217 : Int)), .string ⟨#[112]⟩, .slice (some ⟨W213.heap.size, 0, none⟩) 1 1] 29); replace q211 := q211.stp sT hgz; replace q214 := q214.stp sT hgz; replace q218 := q218.stp sT hgz; clear sT; replace TQ := TQ.alloc (.cells #[.int .i64 (53), .int .i64 (0), .string ⟨#[84]⟩, .slice none 0 0, .int .i64 (54), .int .i64 ((x217 : Int)), .string ⟨#[112]⟩, .slice (some ⟨W213.heap.size, 0, none⟩) 1 1] 29); have hS_ := TQ)
                clear hHeld
                refine hK.out _ _ hS_ (fun hHeld => ?_)
                clear hK K hS_
                try simp only [aS]
                (refine lgt (i := 7) (v := ?_) rfl ?_ hHeld ?_; rotate_left; (focus (intro w_ hSw; (try dsimp only at hSw); go_simp; (try with_reducible rfl); done)); try simp only [aS])
                refine lateDone (by kernel_rfl) ?_ _
                try simp only [size_al] at GA
                go_wp2_with fail
                go_meet
                exact ⟨_, _, _, _, rfl, GA.le (show ((0) + (1 + 0)) + ((((0) + (0 + 0))) + (1 + 1)) ≤ 500 from by omega), G.stp TQ.only (by omega), TQ.blk BO (by omega), TQ.blk RB (by omega), TZ.next TQ⟩
            · skip
              refine lateOp (i := 4) rfl (by rfl) (fun K hK => ?_)
              go_simp
              (have r213 := Rw.row1 Y212d.heap.size (by simp) (Nat.le_trans hYs TQ.size) q211; have sT := stp_new g Y212d (.cells #[.int .i64 (1), .int .i64 (2), .string ⟨#[]⟩, .slice none 0 0] 29); replace q211 := q211.stp sT hgz; clear sT; replace TQ := TQ.alloc (.cells #[.int .i64 (1), .int .i64 (2), .string ⟨#[]⟩, .slice none 0 0] 29); have hS_ := TQ)
              clear hHeld
              refine hK.out _ _ hS_ (fun hHeld => ?_)
              clear hK K hS_
              try simp only [aS]
              refine lateOne (i := 0) (by kernel_rfl) ?_
              refine lateOp (i := 0) rfl (by rfl) (fun K hK => ?_)
              go_simp
              (go_at_call 27; have q215 := (Rw.no (X := (World.alloc Y212d (.cells #[.int .i64 (1), .int .i64 (2), .string ⟨#[]⟩, .slice none 0 0] 29))) (lo := Z7.heap.size)).mk (53) (0) (⟨#[84]⟩) (1 + 0) (by decide); refine (l15N_any _ _ _ _ _ _).mono ?_; rintro e W214 ⟨rfl, hb⟩; have sT := only_of_below (lo := g) (hi := g + 1) hb; replace q211 := q211.stp sT hgz; replace r213 := r213.stp sT hgz; replace q215 := q215.stp sT hgz; clear sT; replace TQ := TQ.new hb; clear hb; have hgW := Nat.lt_of_lt_of_le hgY TQ.size; have hS_ := TQ)
              clear hHeld
              refine hK.out _ _ hS_ (fun hHeld => ?_)
              clear hK K hS_
              try simp only [aS]
              refine lateOne (i := 2) (by kernel_rfl) ?_
              refine lateOp (i := 2) rfl (by rfl) (fun K hK => ?_)
              go_simp
              (go_at_call 30; refine (l1Below_any g B 2 (by decide) (by decide) _ TQ.cur).mono ?_; rintro e W216 ⟨⟨x217, hx217, rfl⟩, U, O⟩; replace q211 := q211.stp O hgz; replace r213 := r213.stp O hgz; replace q215 := q215.stp O hgz; replace TQ := TQ.call U O; clear U O; have hgW := Nat.lt_of_lt_of_le hgY TQ.size; have hS_ := TQ)
              clear hHeld
              refine hK.out _ _ hS_ (fun hHeld => ?_)
              clear hK K hS_
              try simp only [aS]
              (refine lgt (i := 5) (v := ?_) rfl ?_ hHeld ?_; rotate_left; (focus (intro w_ hSw; (try dsimp only at hSw); go_simp; (try with_reducible rfl); done)); try simp only [aS])
              refine lateOne (i := 6) (by kernel_rfl) ?_
              refine lateOp (i := 6) rfl (by rfl) (fun K hK => ?_)
              go_simp
              (have q218 := r213.mk (54) ((x217 : Int)) (⟨#[112]⟩) (1 + 1) (by decide); clear r213; have GA := GRl.lit2 q215 q218 (Nat.le_refl _) (Nat.le_trans hYs TQ.size); have r219 := Rw.row2 W216.heap.size (by simp) (Nat.le_trans hYs TQ.size) q215 q218; have sT := stp_new g W216 (.cells #[.int .i64 (53), .int .i64 (0), .string ⟨#[84]⟩, .slice none 0 0, .int .i64 (54), .int .i64 ((x217 : Int)), .string ⟨#[112]⟩, .slice (some ⟨Y212d.heap.size, 0, none⟩) 1 1] 29); replace q211 := q211.stp sT hgz; replace q215 := q215.stp sT hgz; replace q218 := q218.stp sT hgz; clear sT; replace TQ := TQ.alloc (.cells #[.int .i64 (53), .int .i64 (0), .string ⟨#[84]⟩, .slice none 0 0, .int .i64 (54), .int .i64 ((x217 : Int)), .string ⟨#[112]⟩, .slice (some ⟨Y212d.heap.size, 0, none⟩) 1 1] 29); have hS_ := TQ)
              clear hHeld
              refine hK.out _ _ hS_ (fun hHeld => ?_)
              clear hK K hS_
              try simp only [aS]
              (refine lgt (i := 7) (v := ?_) rfl ?_ hHeld ?_; rotate_left; (focus (intro w_ hSw; (try dsimp only at hSw); go_simp; (try with_reducible rfl); done)); try simp only [aS])
              refine lateDone (by kernel_rfl) ?_ _
              try simp only [size_al] at GA
              go_wp2_with fail
              go_meet
              exact ⟨_, _, _, _, rfl, GA.le (show ((0) + (1 + 0)) + ((((0) + (0 + 0))) + (1 + 1)) ≤ 500 from by omega), G.stp TQ.only (by omega), TQ.blk BO (by omega), TQ.blk RB (by omega), TZ.next TQ⟩
          case rest =>
            clear G BO RB TZ q211 BXtwo
            obtain ⟨ca, hia, Aa, vsa, rfl, GA, G, BO, RB, TZ⟩ := hcut
            have TW : Trk g B wc wc := Trk.start TZ.cur
            have hgb : g < wc.heap.size := Nat.lt_of_lt_of_le hgz TZ.size
            have hcz := TZ.size
            have hha := GA.hi_le
            have hga := GA.lt
            go_upto_region 11 with (first | (have _q := tok10_2; go_at_call 46; refine (hF _ _ _ _ g B _ (by first | decide | omega) TW.cur).mono ?_; rintro e W246 hD; obtain ⟨k247, n247, t247, A247, m247, c247, rfl, q247, U, O⟩ := hD.out wc.heap.size TW.size; clear hD; replace G := G.stp O (by omega); replace GA := GA.stp O (by omega); replace bk241 := bk241.only O (Nat.le_refl _) (by omega); replace RB := RB.only O (Nat.le_refl _) (by omega); replace BO := BO.only O (Nat.le_refl _) (by omega); replace TW := TW.call U O; clear U O; have hgW := Nat.lt_of_lt_of_le hgb TW.size; have tok10_3 : True := trivial) | (have _q := tok10_1; go_at_call 30; refine (l1Below_any g B 2 (by decide) (by decide) _ TW.cur).mono ?_; rintro e W244 ⟨⟨x245, hx245, rfl⟩, U, O⟩; replace G := G.stp O (by omega); replace GA := GA.stp O (by omega); replace bk241 := bk241.only O (Nat.le_refl _) (by omega); replace RB := RB.only O (Nat.le_refl _) (by omega); replace BO := BO.only O (Nat.le_refl _) (by omega); replace TW := TW.call U O; clear U O; have hgW := Nat.lt_of_lt_of_le hgb TW.size; have tok10_2 : True := trivial) | (go_at_call 28; have sT := stp_new g wc (.cells #[.string ⟨#[109]⟩, .string ⟨#[95, 95, 99, 111, 110, 115, 116, 114, 117, 99, 116]⟩, .string ⟨#[95, 95, 100, 101, 115, 116, 114, 117, 99, 116]⟩] 9); replace G := G.stp sT (by omega); replace GA := GA.stp sT (by omega); replace RB := RB.only sT (Nat.le_refl _) (by omega); replace BO := BO.only sT (Nat.le_refl _) (by omega); clear sT; replace TW := TW.alloc (.cells #[.string ⟨#[109]⟩, .string ⟨#[95, 95, 99, 111, 110, 115, 116, 114, 117, 99, 116]⟩, .string ⟨#[95, 95, 100, 101, 115, 116, 114, 117, 99, 116]⟩] 9); have bk241 := Blk.new' wc 9 #[.string ⟨#[109]⟩, .string ⟨#[95, 95, 99, 111, 110, 115, 116, 114, 117, 99, 116]⟩, .string ⟨#[95, 95, 100, 101, 115, 116, 114, 117, 99, 116]⟩] wc.heap.size (by simp); refine (l1StrK g B 3 100 wc.heap.size _ _ _ (by decide) (by decide) (by kernel_rfl) TW.cur bk241 (by omega)).mono ?_; rintro e W242 ⟨⟨s243, hs243, rfl⟩, U, O⟩; replace G := G.stp O (by omega); replace GA := GA.stp O (by omega); replace bk241 := bk241.only O (Nat.le_refl _) (by omega); replace RB := RB.only O (Nat.le_refl _) (by omega); replace BO := BO.only O (Nat.le_refl _) (by omega); replace TW := TW.call U O; clear U O; have hgW := Nat.lt_of_lt_of_le hgb TW.size; have tok10_1 : True := trivial) | (at_builtin; have r248 := Rw.row1 W246.heap.size (by simp) TW.size q247; have sT := stp_new g W246 (.cells #[.int .i64 k247, .int .i64 n247, .string t247, .slice A247 m247 c247] 29); replace q247 := q247.stp sT hgb; replace G := G.stp sT (by omega); replace GA := GA.stp sT (by omega); replace bk241 := bk241.only sT (Nat.le_refl _) (by omega); replace RB := RB.only sT (Nat.le_refl _) (by omega); replace BO := BO.only sT (Nat.le_refl _) (by omega); clear sT; replace TW := TW.alloc (.cells #[.int .i64 k247, .int .i64 n247, .string t247, .slice A247 m247 c247] 29); go_must (refine wpList_append_rd _ rfl _ _ _ rfl Z7.heap.size 29 _ 4 56 Try.underlying27 infoNodeC rfl (by decide) (.slice Aa 2 ca) 2 _ rfl GA.own (W246.heap.size + 1) _ 1 1 [.int .i64 k247, .int .i64 n247, .string t247, .slice A247 m247 c247] rfl (rd_new W246 29 4 [.int .i64 k247, .int .i64 n247, .string t247, .slice A247 m247 c247] rfl) (one4 _ _ _ _ _ _) (by unfold maxLen; omega) (by omega) (Nat.le_trans hcz TW.size) ?_); intro v7 wa1 own7 hg7 hat7))
            obtain ⟨Aa1, ca1, rfl, GA7⟩ := GA.push (q247.le (show KF ≤ KF from by omega)) hcz (fun b hb => by have := (hga b hb).2; omega) own7 hg7 hat7
            replace G := G.grown hg7 (fun b hb => by have := (hga b hb).1; omega)
            replace BO := BO.bgrown hg7 (fun e => by have := (hga _ e.symm).1; omega)
            replace RB := RB.bgrown hg7 (fun e => by have := (hga _ e.symm).1; omega)
            replace TZ := (TZ.next TW).grow hg7 (fun b hb => (hga b hb).1) hgz
            clear GA hga hha hgb TW hcz own7 hg7 hat7 q247 r248
            have GA := GA7
            clear GA7
            have TW : Trk g B wa1 wa1 := Trk.start TZ.cur
            have hgb : g < wa1.heap.size := Nat.lt_of_lt_of_le hgz TZ.size
            have hcz := TZ.size
            have hha := GA.hi_le
            have hga := GA.lt
            go_upto_region 12 with (first | (go_at_call 46; refine (hF _ _ _ _ g B _ (by first | decide | omega) TW.cur).mono ?_; rintro e W271 hD; obtain ⟨k272, n272, t272, A272, m272, c272, rfl, q272, U, O⟩ := hD.out wa1.heap.size TW.size; clear hD; replace G := G.stp O (by omega); replace GA := GA.stp O (by omega); replace RB := RB.only O (Nat.le_refl _) (by omega); replace BO := BO.only O (Nat.le_refl _) (by omega); replace TW := TW.call U O; clear U O; have hgW := Nat.lt_of_lt_of_le hgb TW.size; have tok11_1 : True := trivial) | (at_builtin; have r273 := Rw.row1 W271.heap.size (by simp) TW.size q272; have sT := stp_new g W271 (.cells #[.int .i64 k272, .int .i64 n272, .string t272, .slice A272 m272 c272] 29); replace q272 := q272.stp sT hgb; replace G := G.stp sT (by omega); replace GA := GA.stp sT (by omega); replace RB := RB.only sT (Nat.le_refl _) (by omega); replace BO := BO.only sT (Nat.le_refl _) (by omega); clear sT; replace TW := TW.alloc (.cells #[.int .i64 k272, .int .i64 n272, .string t272, .slice A272 m272 c272] 29); go_must (refine wpList_append_rd _ rfl _ _ _ rfl Z7.heap.size 29 _ 4 56 Try.underlying27 infoNodeC rfl (by decide) (.slice Aa1 3 ca1) 3 _ rfl GA.own (W271.heap.size + 1) _ 1 1 [.int .i64 k272, .int .i64 n272, .string t272, .slice A272 m272 c272] rfl (rd_new W271 29 4 [.int .i64 k272, .int .i64 n272, .string t272, .slice A272 m272 c272] rfl) (one4 _ _ _ _ _ _) (by unfold maxLen; omega) (by omega) (Nat.le_trans hcz TW.size) ?_); intro v7 wa2 own7 hg7 hat7))
            obtain ⟨Aa2, ca2, rfl, GA7⟩ := GA.push (q272.le (show KF ≤ KF from by omega)) hcz (fun b hb => by have := (hga b hb).2; omega) own7 hg7 hat7
            replace G := G.grown hg7 (fun b hb => by have := (hga b hb).1; omega)
            replace BO := BO.bgrown hg7 (fun e => by have := (hga _ e.symm).1; omega)
            replace RB := RB.bgrown hg7 (fun e => by have := (hga _ e.symm).1; omega)
            replace TZ := (TZ.next TW).grow hg7 (fun b hb => (hga b hb).1) hgz
            clear GA hga hha hgb TW hcz own7 hg7 hat7 q272 r273
            have GA := GA7
            clear GA7
            have RA := GA.row
            have hYz := TZ.size
            replace TK := TK.next TZ
            clear GA TZ
            go_upto_region 12 with fail
            have hBl := BO.lt
            have TQ0 : Trk g B wa2 wa2 := Trk.start TK.cur
            have hYs := TK.size
            have hgY := Nat.lt_of_lt_of_le hgl TK.size
            replace RA := RA.stp (stp_drew g wa2) hgz
            have TQ := TQ0.drew
            refine lateStart (S := (fun w_ => Blk w_ (w.heap.size) 29 #[.int .i64 0, .int .i64 0, .string ⟨#[]⟩, .slice none 0 0] ∧ Blk w_ (bo) 29 #[.int .i64 56, .int .i64 0, .string ⟨#[]⟩, .slice A m c])) [7] (by kernel_rfl) ?_ (fun hHeld => ?_)
            · (try dsimp only)
              (exact And.intro (TQ.blk RB (by omega)) (TQ.blk BO (by omega)))
            generalize hwa2d : World.drew wa2 = wa2d at *
            have hgW : g < wa2d.heap.size := Nat.lt_of_lt_of_le hgY TQ.size
            (refine lgt (i := 0) (v := ?_) rfl ?_ hHeld ?_; rotate_left; (focus (intro w_ hSw; (try dsimp only at hSw); go_simp; (try with_reducible rfl); done)); try simp only [aS])
            (refine lgt (i := 1) (v := ?_) rfl ?_ hHeld ?_; rotate_left; (focus (intro w_ hSw; (try dsimp only at hSw); have yb := hSw.2; have ⟨ybl, ybf, yb0, yb1, yb2, yb3⟩ := yb.all; go_simp; (try with_reducible rfl); done)); try simp only [aS])
            (refine lgt (i := 2) (v := ?_) rfl ?_ hHeld ?_; rotate_left; (focus (intro w_ hSw; (try dsimp only at hSw); go_simp; (try with_reducible rfl); done)); try simp only [aS])
            refine lateOne (i := 3) (by kernel_rfl) ?_
            refine lateOp (i := 3) rfl (by rfl) (fun K hK => ?_)
            go_simp
            (go_at_call 27; have q302 := RA.mk (50) (0) (⟨#[65]⟩) (1 + 4) (by decide); clear RA; refine (l15N_any _ _ _ _ _ _).mono ?_; rintro e W301 ⟨rfl, hb⟩; have sT := only_of_below (lo := g) (hi := g + 1) hb; replace q302 := q302.stp sT hgz; clear sT; replace TQ := TQ.new hb; clear hb; have hgW := Nat.lt_of_lt_of_le hgY TQ.size; have hS_ := And.intro (TQ.blk RB (by omega)) (TQ.blk BO (by omega)))
            clear hHeld
            refine hK.out _ _ hS_ (fun hHeld => ?_)
            clear hK K hS_
            try simp only [aS]
            refine lateOne (i := 4) (by kernel_rfl) ?_
            refine lateOp (i := 4) rfl (by rfl) (fun K hK => ?_)
            go_simp
            (have r303 := Rw.row1 W301.heap.size (by simp) (Nat.le_trans hYz TQ.size) q302; have sT := stp_new g W301 (.cells #[.int .i64 (50), .int .i64 (0), .string ⟨#[65]⟩, .slice Aa2 4 ca2] 29); replace q302 := q302.stp sT hgz; clear sT; replace TQ := TQ.alloc (.cells #[.int .i64 (50), .int .i64 (0), .string ⟨#[65]⟩, .slice Aa2 4 ca2] 29); have hS_ := And.intro (TQ.blk RB (by omega)) (TQ.blk BO (by omega)))
            clear hHeld
            refine hK.out _ _ hS_ (fun hHeld => ?_)
            clear hK K hS_
            try simp only [aS]
            refine lateOne (i := 5) (by kernel_rfl) ?_
            refine lateOp (i := 5) rfl (by rfl) (fun K hK => ?_)
            have GW := G.stp TQ.only (by omega)
            have hw6 := TQ.size
            refine wp_append_rd _ (.tmp 65) (.tmp 68) _ rfl (bo + 1) 29 _ 4 56 Try.underlying27 infoNodeC rfl (by decide) (.slice A m c) m _ rfl GW.own (W301.heap.size + 1) _ 1 1 [.int .i64 (50), .int .i64 (0), .string ⟨#[65]⟩, .slice Aa2 4 ca2] rfl (rd_new W301 29 4 [.int .i64 (50), .int .i64 (0), .string ⟨#[65]⟩, .slice Aa2 4 ca2] rfl) (one4 _ _ _ _ _ _) (by unfold maxLen; omega) (by omega) (by omega) ?_
            intro v7 w7 own7 hg7 hat7
            obtain ⟨A7, c7, rfl, G7⟩ := GW.push (q302.le (show (500 + KF + KF) + (1 + 4) ≤ KU from by omega)) (by omega) (fun b hb => by have := (G.lt b hb).2; omega) own7 hg7 hat7
            have TK7 := (TK.next TQ).grow hg7 (fun b hb => by have := (G.lt b hb).1; omega) hgl
            have RB7 := (TQ.blk RB (by omega)).bgrown hg7 (fun e => by have := G.lt _ e.symm; omega)
            have BO7 := (TQ.blk BO (by omega)).bgrown hg7 (fun e => by have := G.lt _ e.symm; omega)
            have hS_ := And.intro (RB7) (BO7)
            clear hHeld
            refine hK.out _ _ hS_ (fun hHeld => ?_)
            clear hK K hS_
            try simp only [aS]
            (refine lgt (i := 6) (v := ?_) rfl ?_ hHeld ?_; rotate_left; (focus (intro w_ hSw; (try dsimp only at hSw); go_simp; (try with_reducible rfl); done)); try simp only [aS])
            refine lateOne (i := 7) (by kernel_rfl) ?_
            refine lateLast (i := 7) rfl (by kernel_rfl) (by rfl) (fun K hK => ?_)
            have o_l := Blk.lt BO7; have o_f := fun i => Blk.frozen BO7 i; have o3 := Blk.cell BO7 3
            go_simp
            refine hK.out _ _ ?_
            clear hK K
            try simp only [aS]
            refine lateDone (by kernel_rfl) ?_ _
            have St : ScS g B w1 (w7.setCell ⟨bo, 3, none⟩ (.slice A7 (m + 1) c7)) w.heap.size bo 4 KU := ⟨m + 1, _, A7, c7, _, by omega, by rw [Nat.succ_mul]; exact G7.far (p := ⟨bo, 3, none⟩) (by show bo < bo + 1; omega) _, by simpa using Blk.set_ BO7 3 (.slice A7 (m + 1) c7), Blk.far RB7 (p := ⟨bo, 3, none⟩) (by show w.heap.size ≠ bo; omega) _, TK7.set (p := ⟨bo, 3, none⟩) hbo hgl _⟩
            generalize hZ12 : w7.setCell ⟨bo, 3, none⟩ (.slice A7 (m + 1) c7) = Z12 at *
            clear hZ12 TK7 BO7 RB7 G7 own7 hg7 hat7 G BO RB TK TQ TQ0 hm
            obtain ⟨m, hi, A, c, vs, hm, G, BO, RB, TK⟩ := St
            go_upto_region 13 with fail
            have hhi := G.hi_le
            have hBl := BO.lt
            have TQ0 : Trk g B Z12 Z12 := Trk.start TK.cur
            have hYs := TK.size
            have hgY := Nat.lt_of_lt_of_le hgl TK.size
            have TQ := TQ0.drew
            refine lateStart (S := (fun w_ => Blk w_ (w.heap.size) 29 #[.int .i64 0, .int .i64 0, .string ⟨#[]⟩, .slice none 0 0] ∧ Blk w_ (bo) 29 #[.int .i64 56, .int .i64 0, .string ⟨#[]⟩, .slice A m c])) [10] (by kernel_rfl) ?_ (fun hHeld => ?_)
            · (try dsimp only)
              (exact And.intro (TQ.blk RB (by omega)) (TQ.blk BO (by omega)))
            generalize hZ12d : World.drew Z12 = Z12d at *
            have hgW : g < Z12d.heap.size := Nat.lt_of_lt_of_le hgY TQ.size
            (refine lgt (i := 0) (v := ?_) rfl ?_ hHeld ?_; rotate_left; (focus (intro w_ hSw; (try dsimp only at hSw); go_simp; (try with_reducible rfl); done)); try simp only [aS])
            (refine lgt (i := 1) (v := ?_) rfl ?_ hHeld ?_; rotate_left; (focus (intro w_ hSw; (try dsimp only at hSw); have yb := hSw.2; have ⟨ybl, ybf, yb0, yb1, yb2, yb3⟩ := yb.all; go_simp; (try with_reducible rfl); done)); try simp only [aS])
            (refine lgt (i := 3) (v := ?_) rfl ?_ hHeld ?_; rotate_left; (focus (intro w_ hSw; (try dsimp only at hSw); go_simp; (try with_reducible rfl); done)); try simp only [aS])
            refine lateOne (i := 2) (by kernel_rfl) ?_
            refine lateOp (i := 2) rfl (by rfl) (fun K hK => ?_)
            go_simp
            (go_at_call 27; have q332 := (Rw.no (X := Z12d) (lo := Z12.heap.size)).mk (52) (0) (⟨#[65]⟩) (1 + 0) (by decide); refine (l15N_any _ _ _ _ _ _).mono ?_; rintro e W331 ⟨rfl, hb⟩; have sT := only_of_below (lo := g) (hi := g + 1) hb; replace q332 := q332.stp sT hgY; clear sT; replace TQ := TQ.new hb; clear hb; have hgW := Nat.lt_of_lt_of_le hgY TQ.size; have hS_ := And.intro (TQ.blk RB (by omega)) (TQ.blk BO (by omega)))
            clear hHeld
            refine hK.out _ _ hS_ (fun hHeld => ?_)
            clear hK K hS_
            try simp only [aS]
            refine lateOne (i := 4) (by kernel_rfl) ?_
            refine lateOp (i := 4) rfl (by rfl) (fun K hK => ?_)
            go_simp
            (go_at_call 46; refine (hF _ _ _ _ g B _ (by first | decide | omega) TQ.cur).mono ?_; rintro e W333 hD; obtain ⟨k334, n334, t334, A334, m334, c334, rfl, q334, U, O⟩ := hD.out Z12.heap.size TQ.size; clear hD; replace q332 := q332.stp O hgY; replace TQ := TQ.call U O; clear U O; have hgW := Nat.lt_of_lt_of_le hgY TQ.size; have hS_ := And.intro (TQ.blk RB (by omega)) (TQ.blk BO (by omega)))
            clear hHeld
            refine hK.out _ _ hS_ (fun hHeld => ?_)
            clear hK K hS_
            try simp only [aS]
            refine lateOne (i := 5) (by kernel_rfl) ?_
            refine lateOp (i := 5) rfl (by rfl) (fun K hK => ?_)
            go_simp
            (have r335 := Rw.row2 W333.heap.size (by simp) TQ.size q332 q334; have sT := stp_new g W333 (.cells #[.int .i64 (52), .int .i64 (0), .string ⟨#[65]⟩, .slice none 0 0, .int .i64 k334, .int .i64 n334, .string t334, .slice A334 m334 c334] 29); replace q332 := q332.stp sT hgY; replace q334 := q334.stp sT hgY; clear sT; replace TQ := TQ.alloc (.cells #[.int .i64 (52), .int .i64 (0), .string ⟨#[65]⟩, .slice none 0 0, .int .i64 k334, .int .i64 n334, .string t334, .slice A334 m334 c334] 29); have hS_ := And.intro (TQ.blk RB (by omega)) (TQ.blk BO (by omega)))
            clear hHeld
            refine hK.out _ _ hS_ (fun hHeld => ?_)
            clear hK K hS_
            try simp only [aS]
            refine lateOne (i := 6) (by kernel_rfl) ?_
            refine lateOp (i := 6) rfl (by rfl) (fun K hK => ?_)
            go_simp
            (go_at_call 27; have q337 := r335.mk (50) (0) (⟨#[66]⟩) (1 + 2) (by decide); clear r335; refine (l15N_any _ _ _ _ _ _).mono ?_; rintro e W336 ⟨rfl, hb⟩; have sT := only_of_below (lo := g) (hi := g + 1) hb; replace q332 := q332.stp sT hgY; replace q334 := q334.stp sT hgY; replace q337 := q337.stp sT hgY; clear sT; replace TQ := TQ.new hb; clear hb; have hgW := Nat.lt_of_lt_of_le hgY TQ.size; have hS_ := And.intro (TQ.blk RB (by omega)) (TQ.blk BO (by omega)))
            clear hHeld
            refine hK.out _ _ hS_ (fun hHeld => ?_)
            clear hK K hS_
            try simp only [aS]
            refine lateOne (i := 7) (by kernel_rfl) ?_
            refine lateOp (i := 7) rfl (by rfl) (fun K hK => ?_)
            go_simp
            (have r338 := Rw.row1 W336.heap.size (by simp) TQ.size q337; have sT := stp_new g W336 (.cells #[.int .i64 (50), .int .i64 (0), .string ⟨#[66]⟩, .slice (some ⟨W333.heap.size, 0, none⟩) 2 2] 29); replace q332 := q332.stp sT hgY; replace q334 := q334.stp sT hgY; replace q337 := q337.stp sT hgY; clear sT; replace TQ := TQ.alloc (.cells #[.int .i64 (50), .int .i64 (0), .string ⟨#[66]⟩, .slice (some ⟨W333.heap.size, 0, none⟩) 2 2] 29); have hS_ := And.intro (TQ.blk RB (by omega)) (TQ.blk BO (by omega)))
            clear hHeld
            refine hK.out _ _ hS_ (fun hHeld => ?_)
            clear hK K hS_
            try simp only [aS]
            refine lateOne (i := 8) (by kernel_rfl) ?_
            refine lateOp (i := 8) rfl (by rfl) (fun K hK => ?_)
            have GW := G.stp TQ.only (by omega)
            have hw6 := TQ.size
            refine wp_append_rd _ (.tmp 72) (.tmp 78) _ rfl (bo + 1) 29 _ 4 56 Try.underlying27 infoNodeC rfl (by decide) (.slice A m c) m _ rfl GW.own (W336.heap.size + 1) _ 1 1 [.int .i64 (50), .int .i64 (0), .string ⟨#[66]⟩, .slice (some ⟨W333.heap.size, 0, none⟩) 2 2] rfl (rd_new W336 29 4 [.int .i64 (50), .int .i64 (0), .string ⟨#[66]⟩, .slice (some ⟨W333.heap.size, 0, none⟩) 2 2] rfl) (one4 _ _ _ _ _ _) (by unfold maxLen; omega) (by omega) (by omega) ?_
            intro v7 w7 own7 hg7 hat7
            obtain ⟨A7, c7, rfl, G7⟩ := GW.push (q337.le (show (((0) + (1 + 0)) + (KF)) + (1 + 2) ≤ KU from by omega)) (by omega) (fun b hb => by have := (G.lt b hb).2; omega) own7 hg7 hat7
            have TK7 := (TK.next TQ).grow hg7 (fun b hb => by have := (G.lt b hb).1; omega) hgl
            have RB7 := (TQ.blk RB (by omega)).bgrown hg7 (fun e => by have := G.lt _ e.symm; omega)
            have BO7 := (TQ.blk BO (by omega)).bgrown hg7 (fun e => by have := G.lt _ e.symm; omega)
            have hS_ := And.intro (RB7) (BO7)
            clear hHeld
            refine hK.out _ _ hS_ (fun hHeld => ?_)
            clear hK K hS_
            try simp only [aS]
            (refine lgt (i := 9) (v := ?_) rfl ?_ hHeld ?_; rotate_left; (focus (intro w_ hSw; (try dsimp only at hSw); go_simp; (try with_reducible rfl); done)); try simp only [aS])
            refine lateOne (i := 10) (by kernel_rfl) ?_
            refine lateLast (i := 10) rfl (by kernel_rfl) (by rfl) (fun K hK => ?_)
            have o_l := Blk.lt BO7; have o_f := fun i => Blk.frozen BO7 i; have o3 := Blk.cell BO7 3
            go_simp
            refine hK.out _ _ ?_
            clear hK K
            try simp only [aS]
            refine lateDone (by kernel_rfl) ?_ _
            have St : ScS g B w1 (w7.setCell ⟨bo, 3, none⟩ (.slice A7 (m + 1) c7)) w.heap.size bo 5 KU := ⟨m + 1, _, A7, c7, _, by omega, by rw [Nat.succ_mul]; exact G7.far (p := ⟨bo, 3, none⟩) (by show bo < bo + 1; omega) _, by simpa using Blk.set_ BO7 3 (.slice A7 (m + 1) c7), Blk.far RB7 (p := ⟨bo, 3, none⟩) (by show w.heap.size ≠ bo; omega) _, TK7.set (p := ⟨bo, 3, none⟩) hbo hgl _⟩
            generalize hZ13 : w7.setCell ⟨bo, 3, none⟩ (.slice A7 (m + 1) c7) = Z13 at *
            clear hZ13 TK7 BO7 RB7 G7 own7 hg7 hat7 G BO RB TK TQ TQ0 hm
            obtain ⟨m, hi, A, c, vs, hm, G, BO, RB, TK⟩ := St
            have TZ : Trk g B Z13 Z13 := Trk.start TK.cur
            clear hgz hbz hhz hYz
            have hgz : g < Z13.heap.size := by have := TK.size; omega
            have hbz : bo < Z13.heap.size := BO.lt
            have hhz := G.hi_le
            go_upto_region 15 with (first | (go_at_call 27; have q362 := (Rw.no (X := Z13) (lo := Z13.heap.size)).mk (4) (0) (⟨#[111]⟩) (1 + 0) (by decide); refine (l15N_any _ _ _ _ _ _).mono ?_; rintro e W361 ⟨rfl, hb⟩; have sT := only_of_below (lo := g) (hi := g + 1) hb; replace q362 := q362.stp sT hgz; replace G := G.stp sT (by omega); replace RB := RB.only sT (Nat.le_refl _) (by omega); replace BO := BO.only sT (Nat.le_refl _) (by omega); clear sT; replace TZ := TZ.new hb; clear hb; have hgW := Nat.lt_of_lt_of_le hgz TZ.size; have tok14_1 : True := trivial))
            have hob9 := TZ.size
            have sT := stp_new g W361 (.cells #[.int .i64 (4), .int .i64 (0), .string ⟨#[111]⟩, .slice none 0 0] 29)
            replace q362 := q362.stp sT hgz
            replace G := G.stp sT (by omega)
            replace RB := RB.only sT (Nat.le_refl _) (by omega)
            replace BO := BO.only sT (Nat.le_refl _) (by omega)
            clear sT
            replace TZ := TZ.alloc (.cells #[.int .i64 (4), .int .i64 (0), .string ⟨#[111]⟩, .slice none 0 0] 29)
            have hBXob : g < W361.heap.size := by omega
            have BXob := Blk.new' W361 29 #[.int .i64 (4), .int .i64 (0), .string ⟨#[111]⟩, .slice none 0 0] W361.heap.size (by simp)
            generalize hY363 : (World.alloc W361 (.cells #[.int .i64 (4), .int .i64 (0), .string ⟨#[111]⟩, .slice none 0 0] 29)) = Y363 at *
            clear hY363
            have hYz := TZ.size
            replace TK := TK.next TZ
            clear TZ
            have hBl := BO.lt
            have TQ0 : Trk g B Y363 Y363 := Trk.start TK.cur
            have hYs := TK.size
            have hgY := Nat.lt_of_lt_of_le hgl TK.size
            replace q362 := q362.stp (stp_drew g Y363) hgz
            have TQ := TQ0.drew
            refine lateStart (S := (fun w_ => Blk w_ (w.heap.size) 29 #[.int .i64 0, .int .i64 0, .string ⟨#[]⟩, .slice none 0 0] ∧ Blk w_ (bo) 29 #[.int .i64 56, .int .i64 0, .string ⟨#[]⟩, .slice A m c] ∧ Blk w_ (W361.heap.size) 29 #[.int .i64 (4), .int .i64 (0), .string ⟨#[111]⟩, .slice none 0 0])) [14] (by kernel_rfl) ?_ (fun hHeld => ?_)
            · (try dsimp only)
              (exact And.intro (TQ.blk RB (by omega)) (And.intro (TQ.blk BO (by omega)) (TQ.blk BXob (by omega))))
            generalize hY363d : World.drew Y363 = Y363d at *
            have hgW : g < Y363d.heap.size := Nat.lt_of_lt_of_le hgY TQ.size
            (refine lgt (i := 0) (v := ?_) rfl ?_ hHeld ?_; rotate_left; (focus (intro w_ hSw; (try dsimp only at hSw); go_simp; (try with_reducible rfl); done)); try simp only [aS])
            (refine lgt (i := 1) (v := ?_) rfl ?_ hHeld ?_; rotate_left; (focus (intro w_ hSw; (try dsimp only at hSw); have yb := hSw.2.1; have ⟨ybl, ybf, yb0, yb1, yb2, yb3⟩ := yb.all; go_simp; (try with_reducible rfl); done)); try simp only [aS])
            (refine lgt (i := 2) (v := ?_) rfl ?_ hHeld ?_; rotate_left; (focus (intro w_ hSw; (try dsimp only at hSw); have yb := hSw.2.2; have ⟨ybl, ybf, yb0, yb1, yb2, yb3⟩ := yb.all; go_simp; (try with_reducible rfl); done)); try simp only [aS])
            (refine lgt (i := 3) (v := ?_) rfl ?_ hHeld ?_; rotate_left; (focus (intro w_ hSw; (try dsimp only at hSw); go_simp; (try with_reducible rfl); done)); try simp only [aS])
            refine lateOne (i := 4) (by kernel_rfl) ?_
            refine lateOp (i := 4) rfl (by rfl) (fun K hK => ?_)
            go_simp
            (have sT := stp_new g Y363d (.cells #[.string ⟨#[65]⟩, .string ⟨#[66]⟩] 9); replace q362 := q362.stp sT hgz; clear sT; replace TQ := TQ.alloc (.cells #[.string ⟨#[65]⟩, .string ⟨#[66]⟩] 9); have bk364 := Blk.new' Y363d 9 #[.string ⟨#[65]⟩, .string ⟨#[66]⟩] Y363d.heap.size (by simp); have hS_ := And.intro (TQ.blk RB (by omega)) (And.intro (TQ.blk BO (by omega)) (TQ.blk BXob (by omega))))
            clear hHeld
            refine hK.out _ _ hS_ (fun hHeld => ?_)
            clear hK K hS_
            try simp only [aS]
            refine lateOne (i := 5) (by kernel_rfl) ?_
            refine lateOp (i := 5) rfl (by rfl) (fun K hK => ?_)
            go_simp
            (go_at_call 28; refine (l1StrK g B 2 100 Y363d.heap.size _ _ _ (by decide) (by decide) (by kernel_rfl) TQ.cur bk364 (by omega)).mono ?_; rintro e W365 ⟨⟨s366, hs366, rfl⟩, U, O⟩; replace q362 := q362.stp O hgz; replace bk364 := bk364.only O (Nat.le_refl _) (by omega); replace TQ := TQ.call U O; clear U O; have hgW := Nat.lt_of_lt_of_le hgY TQ.size; have hS_ := And.intro (TQ.blk RB (by omega)) (And.intro (TQ.blk BO (by omega)) (TQ.blk BXob (by omega))))
            clear hHeld
            refine hK.out _ _ hS_ (fun hHeld => ?_)
            clear hK K hS_
            try simp only [aS]
            refine lateOne (i := 6) (by kernel_rfl) ?_
            refine lateOp (i := 6) rfl (by rfl) (fun K hK => ?_)
            go_simp
            (go_at_call 27; have q368 := (Rw.no (X := W365) (lo := Z13.heap.size)).mk (22) (0) (s366) (100 + 0) (by omega); refine (l15N_any _ _ _ _ _ _).mono ?_; rintro e W367 ⟨rfl, hb⟩; have sT := only_of_below (lo := g) (hi := g + 1) hb; replace q362 := q362.stp sT hgz; replace q368 := q368.stp sT hgz; replace bk364 := bk364.only sT (Nat.le_refl _) (by omega); clear sT; replace TQ := TQ.new hb; clear hb; have hgW := Nat.lt_of_lt_of_le hgY TQ.size; have hS_ := And.intro (TQ.blk RB (by omega)) (And.intro (TQ.blk BO (by omega)) (TQ.blk BXob (by omega))))
            clear hHeld
            refine hK.out _ _ hS_ (fun hHeld => ?_)
            clear hK K hS_
            try simp only [aS]
            refine lateOne (i := 7) (by kernel_rfl) ?_
            refine lateOp (i := 7) rfl (by rfl) (fun K hK => ?_)
            go_simp
            (have r369 := Rw.row2 W367.heap.size (by simp) (Nat.le_trans hYz TQ.size) q362 q368; have sT := stp_new g W367 (.cells #[.int .i64 (4), .int .i64 (0), .string ⟨#[111]⟩, .slice none 0 0, .int .i64 (22), .int .i64 (0), .string s366, .slice none 0 0] 29); replace q362 := q362.stp sT hgz; replace q368 := q368.stp sT hgz; replace bk364 := bk364.only sT (Nat.le_refl _) (by omega); clear sT; replace TQ := TQ.alloc (.cells #[.int .i64 (4), .int .i64 (0), .string ⟨#[111]⟩, .slice none 0 0, .int .i64 (22), .int .i64 (0), .string s366, .slice none 0 0] 29); have hS_ := And.intro (TQ.blk RB (by omega)) (And.intro (TQ.blk BO (by omega)) (TQ.blk BXob (by omega))))
            clear hHeld
            refine hK.out _ _ hS_ (fun hHeld => ?_)
            clear hK K hS_
            try simp only [aS]
            refine lateOne (i := 8) (by kernel_rfl) ?_
            refine lateOp (i := 8) rfl (by rfl) (fun K hK => ?_)
            go_simp
            (go_at_call 27; have q371 := r369.mk (15) (0) (⟨#[]⟩) (0 + 2) (by decide); clear r369; refine (l15N_any _ _ _ _ _ _).mono ?_; rintro e W370 ⟨rfl, hb⟩; have sT := only_of_below (lo := g) (hi := g + 1) hb; replace q362 := q362.stp sT hgz; replace q368 := q368.stp sT hgz; replace q371 := q371.stp sT hgz; replace bk364 := bk364.only sT (Nat.le_refl _) (by omega); clear sT; replace TQ := TQ.new hb; clear hb; have hgW := Nat.lt_of_lt_of_le hgY TQ.size; have hS_ := And.intro (TQ.blk RB (by omega)) (And.intro (TQ.blk BO (by omega)) (TQ.blk BXob (by omega))))
            clear hHeld
            refine hK.out _ _ hS_ (fun hHeld => ?_)
            clear hK K hS_
            try simp only [aS]
            refine lateOne (i := 9) (by kernel_rfl) ?_
            refine lateOp (i := 9) rfl (by rfl) (fun K hK => ?_)
            go_simp
            (have r372 := Rw.row1 W370.heap.size (by simp) (Nat.le_trans hYz TQ.size) q371; have sT := stp_new g W370 (.cells #[.int .i64 (15), .int .i64 (0), .string ⟨#[]⟩, .slice (some ⟨W367.heap.size, 0, none⟩) 2 2] 29); replace q362 := q362.stp sT hgz; replace q368 := q368.stp sT hgz; replace q371 := q371.stp sT hgz; replace bk364 := bk364.only sT (Nat.le_refl _) (by omega); clear sT; replace TQ := TQ.alloc (.cells #[.int .i64 (15), .int .i64 (0), .string ⟨#[]⟩, .slice (some ⟨W367.heap.size, 0, none⟩) 2 2] 29); have hS_ := And.intro (TQ.blk RB (by omega)) (And.intro (TQ.blk BO (by omega)) (TQ.blk BXob (by omega))))
            clear hHeld
            refine hK.out _ _ hS_ (fun hHeld => ?_)
            clear hK K hS_
            try simp only [aS]
            refine lateOne (i := 10) (by kernel_rfl) ?_
            refine lateOp (i := 10) rfl (by rfl) (fun K hK => ?_)
            go_simp
            (go_at_call 27; have q374 := r372.mk (33) (0) (⟨#[]⟩) (0 + 1) (by decide); clear r372; refine (l15N_any _ _ _ _ _ _).mono ?_; rintro e W373 ⟨rfl, hb⟩; have sT := only_of_below (lo := g) (hi := g + 1) hb; replace q362 := q362.stp sT hgz; replace q368 := q368.stp sT hgz; replace q371 := q371.stp sT hgz; replace q374 := q374.stp sT hgz; replace bk364 := bk364.only sT (Nat.le_refl _) (by omega); clear sT; replace TQ := TQ.new hb; clear hb; have hgW := Nat.lt_of_lt_of_le hgY TQ.size; have hS_ := And.intro (TQ.blk RB (by omega)) (And.intro (TQ.blk BO (by omega)) (TQ.blk BXob (by omega))))
            clear hHeld
            refine hK.out _ _ hS_ (fun hHeld => ?_)
            clear hK K hS_
            try simp only [aS]
            refine lateOne (i := 11) (by kernel_rfl) ?_
            refine lateOp (i := 11) rfl (by rfl) (fun K hK => ?_)
            go_simp
            (have r375 := Rw.row1 W373.heap.size (by simp) (Nat.le_trans hYz TQ.size) q374; have sT := stp_new g W373 (.cells #[.int .i64 (33), .int .i64 (0), .string ⟨#[]⟩, .slice (some ⟨W370.heap.size, 0, none⟩) 1 1] 29); replace q362 := q362.stp sT hgz; replace q368 := q368.stp sT hgz; replace q371 := q371.stp sT hgz; replace q374 := q374.stp sT hgz; replace bk364 := bk364.only sT (Nat.le_refl _) (by omega); clear sT; replace TQ := TQ.alloc (.cells #[.int .i64 (33), .int .i64 (0), .string ⟨#[]⟩, .slice (some ⟨W370.heap.size, 0, none⟩) 1 1] 29); have hS_ := And.intro (TQ.blk RB (by omega)) (And.intro (TQ.blk BO (by omega)) (TQ.blk BXob (by omega))))
            clear hHeld
            refine hK.out _ _ hS_ (fun hHeld => ?_)
            clear hK K hS_
            try simp only [aS]
            refine lateOne (i := 12) (by kernel_rfl) ?_
            refine lateOp (i := 12) rfl (by rfl) (fun K hK => ?_)
            have GW := G.stp TQ.only (by omega)
            have hw6 := TQ.size
            refine wp_append_rd _ (.tmp 83) (.tmp 93) _ rfl (bo + 1) 29 _ 4 56 Try.underlying27 infoNodeC rfl (by decide) (.slice A m c) m _ rfl GW.own (W373.heap.size + 1) _ 1 1 [.int .i64 (33), .int .i64 (0), .string ⟨#[]⟩, .slice (some ⟨W370.heap.size, 0, none⟩) 1 1] rfl (rd_new W373 29 4 [.int .i64 (33), .int .i64 (0), .string ⟨#[]⟩, .slice (some ⟨W370.heap.size, 0, none⟩) 1 1] rfl) (one4 _ _ _ _ _ _) (by unfold maxLen; omega) (by omega) (by omega) ?_
            intro v7 w7 own7 hg7 hat7
            obtain ⟨A7, c7, rfl, G7⟩ := GW.push (q374.le (show (((((0) + (1 + 0)) + ((0) + (100 + 0))) + (0 + 2))) + (0 + 1) ≤ KU from by omega)) (by omega) (fun b hb => by have := (G.lt b hb).2; omega) own7 hg7 hat7
            have TK7 := (TK.next TQ).grow hg7 (fun b hb => by have := (G.lt b hb).1; omega) hgl
            have RB7 := (TQ.blk RB (by omega)).bgrown hg7 (fun e => by have := G.lt _ e.symm; omega)
            have BO7 := (TQ.blk BO (by omega)).bgrown hg7 (fun e => by have := G.lt _ e.symm; omega)
            have BXob7 := (TQ.blk BXob (by omega)).bgrown hg7 (fun e => by have := G.lt _ e.symm; omega)
            have hS_ := And.intro (RB7) (And.intro (BO7) (BXob7))
            clear hHeld
            refine hK.out _ _ hS_ (fun hHeld => ?_)
            clear hK K hS_
            try simp only [aS]
            (refine lgt (i := 13) (v := ?_) rfl ?_ hHeld ?_; rotate_left; (focus (intro w_ hSw; (try dsimp only at hSw); go_simp; (try with_reducible rfl); done)); try simp only [aS])
            refine lateOne (i := 14) (by kernel_rfl) ?_
            refine lateLast (i := 14) rfl (by kernel_rfl) (by rfl) (fun K hK => ?_)
            have o_l := Blk.lt BO7; have o_f := fun i => Blk.frozen BO7 i; have o3 := Blk.cell BO7 3
            go_simp
            refine hK.out _ _ ?_
            clear hK K
            try simp only [aS]
            refine lateDone (by kernel_rfl) ?_ _
            go_wp2_with fail
            go_meet
            exact ⟨rfl, ⟨m + 1, _, A7, c7, _, by omega, by rw [Nat.succ_mul]; exact G7.far (p := ⟨bo, 3, none⟩) (by show bo < bo + 1; omega) _, by simpa using Blk.set_ BO7 3 (.slice A7 (m + 1) c7), Blk.far RB7 (p := ⟨bo, 3, none⟩) (by show w.heap.size ≠ bo; omega) _, TK7.set (p := ⟨bo, 3, none⟩) hbo hgl _⟩⟩
      case rest =>
        clear St
        obtain ⟨rfl, St⟩ := hcut
        obtain ⟨Y28, rfl⟩ : ∃ W : World, W = wc := ⟨_, rfl⟩
        obtain ⟨m, hi, A, c, vs, hm, G, BO, RB, TK⟩ := St
        go_wp2_with (first | (go_at_call 30; refine (l1Below_any g B 5 (by decide) (by decide) _ TK.cur).mono ?_; rintro e W391 ⟨⟨x392, hx392, rfl⟩, U, O⟩; replace G := G.stp O (by omega); replace RB := RB.only O (Nat.le_refl _) (by omega); replace BO := BO.only O (Nat.le_refl _) (by omega); replace TK := TK.call U O; clear U O; have hgW := Nat.lt_of_lt_of_le hgl TK.size; have tok16_1 : True := trivial))
        go_loopw [7] (fun i wr => ∃ j M : Nat, M + j ≤ 11 ∧ i = .int .i64 j ∧ ScS g B w1 wr w.heap.size bo M KU) (fun i _ => (intOf i).toNat)
        case atStart => exact ⟨1 + x392, 6, by omega, by go_num, m, hi, A, c, vs, hm, G, BO, RB, TK⟩
        case round =>
          clear G BO RB TK hm
          obtain ⟨j, M, hMj, rfl, m, hi, A, c, vs, hm, G, BO, RB, TK⟩ := hrel
          have hBl := BO.lt
          have BO0 := BO.cell 0
          have BO1 := BO.cell 1
          have BO2 := BO.cell 2
          have BO3 := BO.cell 3
          have hmK : m * KU ≤ 11 * KU := Nat.mul_le_mul_right KU (by omega)
          cases j with
          | zero =>
            have ⟨RBl, RBf, RB0, RB1, RB2, RB3⟩ := RB.all
            go_wp2_with fail
            have RQ := fun x0 x1 x2 x3 => DrG.done (G.le hmK) (by omega) TK k1 hgw (by omega) (by omega) x0 x1 x2 x3
            refine bodyPost_ret (v := .agg #[.int .i64 56, .int .i64 0, .string ⟨#[]⟩, .slice A m c]) (by simp [results, Try.results25, go_sem, RB0, RB1, RB2, RB3, RBl, RBf]) rfl (RQ _ _ _ _)
          | succ j =>
            go_wp2_with fail
            obtain ⟨Yr, rfl⟩ : ∃ W : World, W = wr := ⟨_, rfl⟩
            have hhi := G.hi_le
            have hBl := BO.lt
            have TQ0 : Trk g B Yr Yr := Trk.start TK.cur
            have hYs := TK.size
            have hgY := Nat.lt_of_lt_of_le hgl TK.size
            have TQ := TQ0.drew
            refine lateStart (S := (fun w_ => Blk w_ (w.heap.size) 29 #[.int .i64 0, .int .i64 0, .string ⟨#[]⟩, .slice none 0 0] ∧ Blk w_ (bo) 29 #[.int .i64 56, .int .i64 0, .string ⟨#[]⟩, .slice A m c])) [7] (by kernel_rfl) ?_ (fun hHeld => ?_)
            · (try dsimp only)
              (exact And.intro (TQ.blk RB (by omega)) (TQ.blk BO (by omega)))
            generalize hYrd : World.drew Yr = Yrd at *
            have hgW : g < Yrd.heap.size := Nat.lt_of_lt_of_le hgY TQ.size
            (refine lgt (i := 0) (v := ?_) rfl ?_ hHeld ?_; rotate_left; (focus (intro w_ hSw; (try dsimp only at hSw); go_simp; (try with_reducible rfl); done)); try simp only [aS])
            (refine lgt (i := 1) (v := ?_) rfl ?_ hHeld ?_; rotate_left; (focus (intro w_ hSw; (try dsimp only at hSw); have yb := hSw.2; have ⟨ybl, ybf, yb0, yb1, yb2, yb3⟩ := yb.all; go_simp; (try with_reducible rfl); done)); try simp only [aS])
            (refine lgt (i := 2) (v := ?_) rfl ?_ hHeld ?_; rotate_left; (focus (intro w_ hSw; (try dsimp only at hSw); go_simp; (try with_reducible rfl); done)); try simp only [aS])
            refine lateOne (i := 3) (by kernel_rfl) ?_
            refine lateOp (i := 3) rfl (by rfl) (fun K hK => ?_)
            go_simp
            (go_at_call 47; refine (hS _ _ g B _ TQ.cur).mono ?_; rintro e W421 hD; obtain ⟨k422, n422, t422, A422, m422, c422, rfl, q422, U, O⟩ := hD.out Yr.heap.size TQ.size; clear hD; replace TQ := TQ.call U O; clear U O; have hgW := Nat.lt_of_lt_of_le hgY TQ.size; have hS_ := And.intro (TQ.blk RB (by omega)) (TQ.blk BO (by omega)))
            clear hHeld
            refine hK.out _ _ hS_ (fun hHeld => ?_)
            clear hK K hS_
            try simp only [aS]
            refine lateOne (i := 4) (by kernel_rfl) ?_
            refine lateOp (i := 4) rfl (by rfl) (fun K hK => ?_)
            go_simp
            (have r423 := Rw.row1 W421.heap.size (by simp) TQ.size q422; have sT := stp_new g W421 (.cells #[.int .i64 k422, .int .i64 n422, .string t422, .slice A422 m422 c422] 29); replace q422 := q422.stp sT hgY; clear sT; replace TQ := TQ.alloc (.cells #[.int .i64 k422, .int .i64 n422, .string t422, .slice A422 m422 c422] 29); have hS_ := And.intro (TQ.blk RB (by omega)) (TQ.blk BO (by omega)))
            clear hHeld
            refine hK.out _ _ hS_ (fun hHeld => ?_)
            clear hK K hS_
            try simp only [aS]
            refine lateOne (i := 5) (by kernel_rfl) ?_
            refine lateOp (i := 5) rfl (by rfl) (fun K hK => ?_)
            have GW := G.stp TQ.only (by omega)
            have hw6 := TQ.size
            refine wp_append_rd _ (.tmp 104) (.tmp 107) _ rfl (bo + 1) 29 _ 4 56 Try.underlying27 infoNodeC rfl (by decide) (.slice A m c) m _ rfl GW.own (W421.heap.size + 1) _ 1 1 [.int .i64 k422, .int .i64 n422, .string t422, .slice A422 m422 c422] rfl (rd_new W421 29 4 [.int .i64 k422, .int .i64 n422, .string t422, .slice A422 m422 c422] rfl) (one4 _ _ _ _ _ _) (by unfold maxLen; omega) (by omega) (by omega) ?_
            intro v7 w7 own7 hg7 hat7
            obtain ⟨A7, c7, rfl, G7⟩ := GW.push (q422.le (show KS ≤ KU from by omega)) (by omega) (fun b hb => by have := (G.lt b hb).2; omega) own7 hg7 hat7
            have TK7 := (TK.next TQ).grow hg7 (fun b hb => by have := (G.lt b hb).1; omega) hgl
            have RB7 := (TQ.blk RB (by omega)).bgrown hg7 (fun e => by have := G.lt _ e.symm; omega)
            have BO7 := (TQ.blk BO (by omega)).bgrown hg7 (fun e => by have := G.lt _ e.symm; omega)
            have hS_ := And.intro (RB7) (BO7)
            clear hHeld
            refine hK.out _ _ hS_ (fun hHeld => ?_)
            clear hK K hS_
            try simp only [aS]
            (refine lgt (i := 6) (v := ?_) rfl ?_ hHeld ?_; rotate_left; (focus (intro w_ hSw; (try dsimp only at hSw); go_simp; (try with_reducible rfl); done)); try simp only [aS])
            refine lateOne (i := 7) (by kernel_rfl) ?_
            refine lateLast (i := 7) rfl (by kernel_rfl) (by rfl) (fun K hK => ?_)
            have o_l := Blk.lt BO7; have o_f := fun i => Blk.frozen BO7 i; have o3 := Blk.cell BO7 3
            go_simp
            refine hK.out _ _ ?_
            clear hK K
            try simp only [aS]
            refine lateDone (by kernel_rfl) ?_ _
            go_wp2_with fail
            go_roundw
            case rel => exact ⟨j, M + 1, by omega, by go_num, ⟨m + 1, _, A7, c7, _, by omega, by rw [Nat.succ_mul]; exact G7.far (p := ⟨bo, 3, none⟩) (by show bo < bo + 1; omega) _, by simpa using Blk.set_ BO7 3 (.slice A7 (m + 1) c7), Blk.far RB7 (p := ⟨bo, 3, none⟩) (by show w.heap.size ≠ bo; omega) _, TK7.set (p := ⟨bo, 3, none⟩) hbo hgl _⟩⟩
            case measure => simp [intOf]
end Go.Proofs.Ytgejkfcemlkclaa
