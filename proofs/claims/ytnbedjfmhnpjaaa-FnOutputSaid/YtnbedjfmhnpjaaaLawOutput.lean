/-
  The law 'FnOutput' returns true for every input and leaves its arguments as they read. Conditions: none.
-/
import Derived.Test.YtnbedjfmhnpjaaaBox
namespace Go.Proofs.Ytnbedjfmhnpjaaa
open Go.ChangeShapes Go.WideShapes Go.ChangeAt Go.RowKit Go.Deep Go.Joins
open Go.ChangeMaps (open_string shut_string)
set_option linter.unusedVariables false
set_option linter.unusedSimpArgs false
set_option maxRecDepth 100000

set_option maxHeartbeats 8000000 in
theorem fnOutput_walk {H : Type} {enc : TypeId × Value → H} (W : World) (base : Nat) (v0 : Value) {d0 : DataW H} {p0 : List MemPlace}
    (k0 : Value.okWide Try.prog W .any base 22 v0)
    (h0 : DataW.Trod enc Try.prog W 0 (fun _ => true) true 22 v0 d0 p0) :
    Calls Try.prog 4 #[v0] W fun e w' => e = .returned (.bool true) ∧ Below W.heap.size W w' := by
  obtain ⟨A, n, c, rfl, hy⟩ := open_byt k0 h0
  clear k0 h0
  have HY := Lib.hid hy
  clear hy
  by_cases hbig : 1048576 < n
  · have hd := Lib.hid (decide_eq_true hbig)
    go_enter Try.func4, Try.ntmps4
    go_wp2_with (go_at_call 5; refine (big_any _ _ _ _).mono ?_; rw [hd.out]; rintro e w' ⟨rfl, rfl⟩)
    go_ret
    exact ⟨rfl, Below.refl _ _⟩
  have hd := Lib.hid (decide_eq_false hbig)
  have hn : n ≤ 1048576 := by omega
  clear hbig
  go_enter Try.func4, Try.ntmps4
  go_upto_region 4 with (first | (go_at_call 5; refine (big_any _ _ _ _).mono ?_; rw [hd.out]; rintro e w' ⟨rfl, rfl⟩) | (go_at_call 11; refine (DrawEcho_any A n c _ HY.out).mono ?_; rintro e wk ⟨⟨o, u, s, ht, hs, rfl, own⟩, hb⟩; obtain ⟨A1, c1, A2, c2, rfl⟩ := own.form; have HB := Lib.hid hb; clear hb))
  clear hd
  have N3 := Lib.hid (Bo.new own)
  have HA := Lib.hid (HB.out.alloc HB.out.size (.cells #[.string o.sent, .slice A1 o.heads.length c1, .slice A2 o.bufs.length c2] 27))
  clear own HB
  generalize wk.alloc (.cells #[.string o.sent, .slice A1 o.heads.length c1, .slice A2 o.bufs.length c2] 27) = X1 at *
  generalize wk.heap.size = b3 at *
  have HB := HA
  have B3 := N3
  clear HA N3
  have HYX := Lib.hid (show Byts X1 X1.heap.size A n from by
    have h := HY.out.keep (fun b o hb => (bcell HB.out).1 b o hb)
    exact ⟨h.1, fun hn => by obtain ⟨b, o', e, hb, hc⟩ := h.2 hn; exact ⟨b, o', e, Nat.lt_of_lt_of_le hb HB.out.size, hc⟩⟩)
  clear HY
  go_upto_region 5 with (go_at_call 12; refine (at1_any A n c _ hn HYX.out).mono ?_; rintro e w' ⟨⟨z, hz0, hz1, rfl⟩, rfl⟩)
  obtain ⟨k, hk⟩ : ∃ k, k = z % 4 := ⟨_, rfl⟩
  have hk0 : 0 ≤ k := by omega
  have hk3 : k ≤ 3 := by omega
  rw [← hk]
  clear hk hz0 hz1 HYX hn
  have FP := Lib.hid (fo_p ht hk0 hk3 s)

  have F0 := FP.out
  have hes : (escF k s).size ≤ 1000000000000 := by have := escF_le k s; omega
  have SB := Lib.hid (fun (u : Value) (w : World) (hr : OutR w w.heap.size u o) => start_impl o k u w ht.l1 ht.l2 (Nat.le_refl _) hr)
  have EB := Lib.hid (fun (u : Value) (w : World) (hr : OutR w w.heap.size u (startF o k)) => echo_impl (startF o k) s u w F0.tst.l1 F0.tst.l2 F0.tst.t12 (by omega) (Nat.le_refl _) hr)
  have EN := Lib.hid (fun (u : Value) (w : World) (hr : OutR w w.heap.size u (echoF (startF o k) s)) => end_impl (echoF (startF o k) s) u w F0.tb.l1 F0.tb.l2 F0.tb.t9 (Nat.le_refl _) hr)
  have DE := Lib.hid (fun (u : Value) (w : World) (hr : OutR w w.heap.size u o) => echo_impl o (escF k s) u w ht.l1 ht.l2 ht.t12 hes (Nat.le_refl _) hr)
  have CL := Lib.hid (fun (u : Value) (w : World) (hr : OutR w w.heap.size u (echoF (startF o k) s)) => clean_impl (echoF (startF o k) s) u w F0.tb.l1 F0.tb.l2 (Nat.le_refl _) hr)
  have BT := Lib.hid (fun (u : Value) (w : World) (hr : OutR w w.heap.size u (echoF (startF o k) s)) => btext_impl (echoF (startF o k) s) u w (Nat.le_refl _) hr F0.tb.l2)
  have FL := Lib.hid (fun (u : Value) (w : World) (hr : OutR w w.heap.size u o) => flush_impl o u w ht.l1 ht.l2 ht.t9 (Nat.le_refl _) hr)
  have IS := Lib.hid (fun (u : Value) (w : World) (hr : OutR w w.heap.size u o) => isOut_spec o u w ht.l1 ht.l2 ht.t12 (tiny_sz ht) (Nat.le_refl _) hr)
  have IC := Lib.hid (fun (u : Value) (w : World) (hr : OutR w w.heap.size u (endF (echoF (startF o k) s))) => isOut_impl (endF (echoF (startF o k) s)) u w F0.tc.l1 F0.tc.l2 F0.tc.t12 (tiny_sz F0.tc) (Nat.le_refl _) hr)
  have IF := Lib.hid (fun (u : Value) (w : World) (hr : OutR w w.heap.size u (flushF o)) => isOut_impl (flushF o) u w F0.tf.l1 F0.tf.l2 F0.tf.t12 (tiny_sz F0.tf) (Nat.le_refl _) hr)
  have ES := Lib.hid (fun (w : World) => escIn_impl k s w (by omega))
  clear F0 hes
  generalize flushF o = ff at *
  generalize endF (echoF (startF o k) s) = cc at *
  generalize endC (echoF (startF o k) s) = bad at *
  generalize cleanF (echoF (startF o k) s) = ee at *
  generalize btB (echoF (startF o k) s) = cl at *
  generalize btS (echoF (startF o k) s) = t at *
  generalize echoF (startF o k) s = bb at *
  generalize echoB (startF o k) s = fine at *
  generalize startF o k = st at *
  generalize startB o k = ok at *
  generalize echoF o (escF k s) = dd at *
  generalize echoB o (escF k s) = good at *
  generalize escF k s = es at *
  have x3_0 : X1.cell? ⟨b3, 0, none⟩ = some (.string o.sent) := B3.out.blk.cell 0
  have x3_1 : X1.cell? ⟨b3, 1, none⟩ = some (.slice A1 o.heads.length c1) := B3.out.blk.cell 1
  have x3_2 : X1.cell? ⟨b3, 2, none⟩ = some (.slice A2 o.bufs.length c2) := B3.out.blk.cell 2
  go_upto_region 6 with (go_at_call 13; refine (SB.out _ _ B3.out.rd).mono ?_; rintro e wk ⟨u, rfl, own, hb⟩; obtain ⟨A3, c3, A4, c4, rfl⟩ := own.form; replace B3 := Lib.hid (B3.out.below hb); replace HB := Lib.hid (HB.out.trans (hb.mono HB.out.size)); clear hb)
  clear x3_0 x3_1 x3_2
  have N6 := Lib.hid (Bo.new own)
  have HA := Lib.hid (HB.out.alloc HB.out.size (.cells #[.string st.sent, .slice A3 st.heads.length c3, .slice A4 st.bufs.length c4] 27))
  replace B3 := Lib.hid (B3.out.below ((Below.refl _ _).alloc (Nat.le_refl _) (.cells #[.string st.sent, .slice A3 st.heads.length c3, .slice A4 st.bufs.length c4] 27)))
  clear own HB
  generalize wk.alloc (.cells #[.string st.sent, .slice A3 st.heads.length c3, .slice A4 st.bufs.length c4] 27) = X2 at *
  generalize wk.heap.size = b6 at *
  have HB := HA
  have B6 := N6
  clear HA N6
  have x6_0 : X2.cell? ⟨b6, 0, none⟩ = some (.string st.sent) := B6.out.blk.cell 0
  have x6_1 : X2.cell? ⟨b6, 1, none⟩ = some (.slice A3 st.heads.length c3) := B6.out.blk.cell 1
  have x6_2 : X2.cell? ⟨b6, 2, none⟩ = some (.slice A4 st.bufs.length c4) := B6.out.blk.cell 2
  go_upto_region 7 with (go_at_call 14; refine (EB.out _ _ B6.out.rd).mono ?_; rintro e wk ⟨u, rfl, own, hb⟩; obtain ⟨A5, c5, A6, c6, rfl⟩ := own.form; replace B3 := Lib.hid (B3.out.below hb); replace B6 := Lib.hid (B6.out.below hb); replace HB := Lib.hid (HB.out.trans (hb.mono HB.out.size)); clear hb)
  clear x6_0 x6_1 x6_2
  have N8 := Lib.hid (Bo.new own)
  have HA := Lib.hid (HB.out.alloc HB.out.size (.cells #[.string bb.sent, .slice A5 bb.heads.length c5, .slice A6 bb.bufs.length c6] 27))
  replace B3 := Lib.hid (B3.out.below ((Below.refl _ _).alloc (Nat.le_refl _) (.cells #[.string bb.sent, .slice A5 bb.heads.length c5, .slice A6 bb.bufs.length c6] 27)))
  replace B6 := Lib.hid (B6.out.below ((Below.refl _ _).alloc (Nat.le_refl _) (.cells #[.string bb.sent, .slice A5 bb.heads.length c5, .slice A6 bb.bufs.length c6] 27)))
  clear own HB
  generalize wk.alloc (.cells #[.string bb.sent, .slice A5 bb.heads.length c5, .slice A6 bb.bufs.length c6] 27) = X3 at *
  generalize wk.heap.size = b8 at *
  have HB := HA
  have B8 := N8
  clear HA N8
  have x8_0 : X3.cell? ⟨b8, 0, none⟩ = some (.string bb.sent) := B8.out.blk.cell 0
  have x8_1 : X3.cell? ⟨b8, 1, none⟩ = some (.slice A5 bb.heads.length c5) := B8.out.blk.cell 1
  have x8_2 : X3.cell? ⟨b8, 2, none⟩ = some (.slice A6 bb.bufs.length c6) := B8.out.blk.cell 2
  go_upto_region 8 with (go_at_call 15; refine (EN.out _ _ B8.out.rd).mono ?_; rintro e wk ⟨u, rfl, own, hb⟩; obtain ⟨A7, c7, A8, c8, rfl⟩ := own.form; replace B3 := Lib.hid (B3.out.below hb); replace B6 := Lib.hid (B6.out.below hb); replace B8 := Lib.hid (B8.out.below hb); replace HB := Lib.hid (HB.out.trans (hb.mono HB.out.size)); clear hb)
  clear x8_0 x8_1 x8_2
  have N10 := Lib.hid (Bo.new own)
  have HA := Lib.hid (HB.out.alloc HB.out.size (.cells #[.string cc.sent, .slice A7 cc.heads.length c7, .slice A8 cc.bufs.length c8] 27))
  replace B3 := Lib.hid (B3.out.below ((Below.refl _ _).alloc (Nat.le_refl _) (.cells #[.string cc.sent, .slice A7 cc.heads.length c7, .slice A8 cc.bufs.length c8] 27)))
  replace B6 := Lib.hid (B6.out.below ((Below.refl _ _).alloc (Nat.le_refl _) (.cells #[.string cc.sent, .slice A7 cc.heads.length c7, .slice A8 cc.bufs.length c8] 27)))
  replace B8 := Lib.hid (B8.out.below ((Below.refl _ _).alloc (Nat.le_refl _) (.cells #[.string cc.sent, .slice A7 cc.heads.length c7, .slice A8 cc.bufs.length c8] 27)))
  clear own HB
  generalize wk.alloc (.cells #[.string cc.sent, .slice A7 cc.heads.length c7, .slice A8 cc.bufs.length c8] 27) = X4 at *
  generalize wk.heap.size = b10 at *
  have HB := HA
  have B10 := N10
  clear HA N10
  go_upto_region 8 with fail
  go_cut [12, 13] from 46 to 53 (fun s12 s13 wx => ∃ g A9 c9 A10 c10, s12 = .pointer (some ⟨g, 0, none⟩) ∧ s13 = .bool good ∧ Bo wx g A9 c9 A10 c10 dd ∧ Below X4.heap.size X4 wx)
  case first =>
    refine lateStart (S := (fun w_ => Below X4.heap.size X4 w_)) [9, 10] (by kernel_rfl) ?_ (fun hHeld => ?_)
    · (try dsimp only)
      (exact (Below.refl _ _).drew)
    refine lateTake (i := 0) (v := ?_) rfl (by kernel_rfl) (by decide) (by kernel_rfl) (by kernel_rfl) (by kernel_rfl) (by kernel_rfl) (fun _ _ _ h => h) (by rfl) ?_ hHeld ?_
    rotate_left
    · intro w_ hSw
      (try dsimp only at hSw)
      have q0 : w_.cell? ⟨b3, 0, none⟩ = some (.string o.sent) := (B3.out.below hSw).blk.cell 0; have q1 : w_.cell? ⟨b3, 1, none⟩ = some (.slice A1 o.heads.length c1) := (B3.out.below hSw).blk.cell 1; have q2 : w_.cell? ⟨b3, 2, none⟩ = some (.slice A2 o.bufs.length c2) := (B3.out.below hSw).blk.cell 2
      go_simp
      (try with_reducible rfl)
    try simp only [Act.put, List.setIfInBounds_toArray, List.set_cons_zero, List.set_cons_succ]
    refine lateTake (i := 1) (v := ?_) rfl (by kernel_rfl) (by decide) (by kernel_rfl) (by kernel_rfl) (by kernel_rfl) (by kernel_rfl) (fun _ _ _ h => h) (by rfl) ?_ hHeld ?_
    rotate_left
    · intro w_ hSw
      (try dsimp only at hSw)
      have q0 : w_.cell? ⟨b3, 0, none⟩ = some (.string o.sent) := (B3.out.below hSw).blk.cell 0; have q1 : w_.cell? ⟨b3, 1, none⟩ = some (.slice A1 o.heads.length c1) := (B3.out.below hSw).blk.cell 1; have q2 : w_.cell? ⟨b3, 2, none⟩ = some (.slice A2 o.bufs.length c2) := (B3.out.below hSw).blk.cell 2
      go_simp
      (try with_reducible rfl)
    try simp only [Act.put, List.setIfInBounds_toArray, List.set_cons_zero, List.set_cons_succ]
    refine lateTake (i := 2) (v := ?_) rfl (by kernel_rfl) (by decide) (by kernel_rfl) (by kernel_rfl) (by kernel_rfl) (by kernel_rfl) (fun _ _ _ h => h) (by rfl) ?_ hHeld ?_
    rotate_left
    · intro w_ hSw
      (try dsimp only at hSw)
      have q0 : w_.cell? ⟨b3, 0, none⟩ = some (.string o.sent) := (B3.out.below hSw).blk.cell 0; have q1 : w_.cell? ⟨b3, 1, none⟩ = some (.slice A1 o.heads.length c1) := (B3.out.below hSw).blk.cell 1; have q2 : w_.cell? ⟨b3, 2, none⟩ = some (.slice A2 o.bufs.length c2) := (B3.out.below hSw).blk.cell 2
      go_simp
      (try with_reducible rfl)
    try simp only [Act.put, List.setIfInBounds_toArray, List.set_cons_zero, List.set_cons_succ]
    refine lateTwo (i := 3) (j := 8) (by kernel_rfl) ?_ ?_
    · skip
      refine lateOp (i := 3) rfl (by rfl) (fun K hK => ?_)
      go_simp
      (go_at_call 16; refine (ES.out _).mono ?_; rintro e wE ⟨rfl, hb⟩; have hS_ := hHeld.trans (hb.mono hHeld.size); clear hb)
      clear hHeld
      refine hK.out _ _ hS_ (fun hHeld => ?_)
      clear hK K hS_
      try simp only [Act.put, List.setIfInBounds_toArray, List.set_cons_zero, List.set_cons_succ]
      refine lateTwo (i := 4) (j := 8) (by kernel_rfl) ?_ ?_
      · skip
        refine lateOp (i := 4) rfl (by rfl) (fun K hK => ?_)
        go_simp
        (go_at_call 14; refine (DE.out _ _ (B3.out.below hHeld).rd).mono ?_; rintro e wk ⟨u, rfl, own, hb⟩; obtain ⟨A9, c9, A10, c10, rfl⟩ := own.form; have hS_ := hHeld.trans (hb.mono hHeld.size); have OWN := Lib.hid own; clear own hb)
        clear hHeld
        refine hK.out _ _ hS_ (fun hHeld => ?_)
        clear hK K hS_
        try simp only [Act.put, List.setIfInBounds_toArray, List.set_cons_zero, List.set_cons_succ]
        refine lateTake (i := 5) (v := ?_) rfl (by kernel_rfl) (by decide) (by kernel_rfl) (by kernel_rfl) (by kernel_rfl) (by kernel_rfl) (fun _ _ _ h => h) (by rfl) ?_ hHeld ?_
        rotate_left
        · intro w_ hSw
          (try dsimp only at hSw)
          have q0 : w_.cell? ⟨b3, 0, none⟩ = some (.string o.sent) := (B3.out.below hSw).blk.cell 0; have q1 : w_.cell? ⟨b3, 1, none⟩ = some (.slice A1 o.heads.length c1) := (B3.out.below hSw).blk.cell 1; have q2 : w_.cell? ⟨b3, 2, none⟩ = some (.slice A2 o.bufs.length c2) := (B3.out.below hSw).blk.cell 2
          go_simp
          (try with_reducible rfl)
        try simp only [Act.put, List.setIfInBounds_toArray, List.set_cons_zero, List.set_cons_succ]
        refine lateTake (i := 6) (v := ?_) rfl (by kernel_rfl) (by decide) (by kernel_rfl) (by kernel_rfl) (by kernel_rfl) (by kernel_rfl) (fun _ _ _ h => h) (by rfl) ?_ hHeld ?_
        rotate_left
        · intro w_ hSw
          (try dsimp only at hSw)
          have q0 : w_.cell? ⟨b3, 0, none⟩ = some (.string o.sent) := (B3.out.below hSw).blk.cell 0; have q1 : w_.cell? ⟨b3, 1, none⟩ = some (.slice A1 o.heads.length c1) := (B3.out.below hSw).blk.cell 1; have q2 : w_.cell? ⟨b3, 2, none⟩ = some (.slice A2 o.bufs.length c2) := (B3.out.below hSw).blk.cell 2
          go_simp
          (try with_reducible rfl)
        try simp only [Act.put, List.setIfInBounds_toArray, List.set_cons_zero, List.set_cons_succ]
        refine lateTakeW (i := 7) (v := ?_) rfl (by kernel_rfl) (by decide) (by kernel_rfl) (by kernel_rfl) (fun _ _ _ h => h) (by rfl) ?_ hHeld ?_
        rotate_left
        · intro w_
          go_simp
          (try with_reducible rfl)
        try simp only [Act.put, List.setIfInBounds_toArray, List.set_cons_zero, List.set_cons_succ]
        refine lateOne (i := 8) (by kernel_rfl) ?_
        refine lateOp (i := 8) rfl (by rfl) (fun K hK => ?_)
        go_simp
        (have BK := Lib.hid (Blk.new wk 27 #[.string ⟨#[]⟩, .slice none 0 0, .slice none 0 0]); have hgB : X4.heap.size ≤ wk.heap.size := hHeld.size; have hW8 := hHeld; have hS_ := hHeld.alloc hHeld.size (.cells #[.string ⟨#[]⟩, .slice none 0 0, .slice none 0 0] 27))
        clear hHeld
        refine hK.out _ _ hS_ (fun hHeld => ?_)
        clear hK K hS_
        try simp only [Act.put, List.setIfInBounds_toArray, List.set_cons_zero, List.set_cons_succ]
        refine lateOne (i := 9) (by kernel_rfl) ?_
        refine lateLast (i := 9) rfl (by kernel_rfl) (by rfl) (fun K hK => ?_)
        go_simp
        refine hK.out _ _ ?_
        clear hK K
        try simp only [Act.put, List.setIfInBounds_toArray, List.set_cons_zero, List.set_cons_succ]
        refine lateOne (i := 10) (by kernel_rfl) ?_
        refine lateLast (i := 10) rfl (by kernel_rfl) (by rfl) (fun K hK => ?_)
        go_simp
        refine hK.out _ _ ?_
        clear hK K
        try simp only [Act.put, List.setIfInBounds_toArray, List.set_cons_zero, List.set_cons_succ]
        refine lateDone (by kernel_rfl) ?_ _
        (try go_wp2_with fail)
        go_meet
        first
          | exact ⟨_, A9, c9, A10, c10, rfl, rfl, Bo.new OWN.out, hW8.alloc hW8.size _⟩
          | exact ⟨_, A9, c9, A10, c10, rfl, rfl, Bo.put BK.out rfl OWN.out hgl, below_put hHeld hgB _ _ _⟩
          | exact ⟨_, A9, c9, A10, c10, rfl, rfl, Bo.put BK.out rfl OWN.out hgl, below_put hHeld (Nat.le_refl _) _ _ _⟩
      · skip
        refine lateOp (i := 8) rfl (by rfl) (fun K hK => ?_)
        go_simp
        (have BK := Lib.hid (Blk.new wE 27 #[.string ⟨#[]⟩, .slice none 0 0, .slice none 0 0]); have hgB : X4.heap.size ≤ wE.heap.size := hHeld.size; have hW8 := hHeld; have hS_ := hHeld.alloc hHeld.size (.cells #[.string ⟨#[]⟩, .slice none 0 0, .slice none 0 0] 27))
        clear hHeld
        refine hK.out _ _ hS_ (fun hHeld => ?_)
        clear hK K hS_
        try simp only [Act.put, List.setIfInBounds_toArray, List.set_cons_zero, List.set_cons_succ]
        refine lateOne (i := 4) (by kernel_rfl) ?_
        refine lateOp (i := 4) rfl (by rfl) (fun K hK => ?_)
        go_simp
        (go_at_call 14; refine (DE.out _ _ (B3.out.below hHeld).rd).mono ?_; rintro e wk ⟨u, rfl, own, hb⟩; obtain ⟨A9, c9, A10, c10, rfl⟩ := own.form; have hS_ := hHeld.trans (hb.mono hHeld.size); have hgl := BK.out.lt; replace BK := Lib.hid (BK.out.below hb (Nat.le_refl _)); have g0 : wk.cell? ⟨wE.heap.size, 0, none⟩ = some (.string ⟨#[]⟩) := BK.out.cell 0; have g1 : wk.cell? ⟨wE.heap.size, 1, none⟩ = some (.slice none 0 0) := BK.out.cell 1; have g2 : wk.cell? ⟨wE.heap.size, 2, none⟩ = some (.slice none 0 0) := BK.out.cell 2; have f0 : wk.frozen? ⟨wE.heap.size, 0, none⟩ = false := BK.out.frozen 0; have f1 : wk.frozen? ⟨wE.heap.size, 1, none⟩ = false := BK.out.frozen 1; have f2 : wk.frozen? ⟨wE.heap.size, 2, none⟩ = false := BK.out.frozen 2; have OWN := Lib.hid own; clear own hb)
        clear hHeld
        refine hK.out _ _ hS_ (fun hHeld => ?_)
        clear hK K hS_
        try simp only [Act.put, List.setIfInBounds_toArray, List.set_cons_zero, List.set_cons_succ]
        refine lateTake (i := 5) (v := ?_) rfl (by kernel_rfl) (by decide) (by kernel_rfl) (by kernel_rfl) (by kernel_rfl) (by kernel_rfl) (fun _ _ _ h => h) (by rfl) ?_ hHeld ?_
        rotate_left
        · intro w_ hSw
          (try dsimp only at hSw)
          have q0 : w_.cell? ⟨b3, 0, none⟩ = some (.string o.sent) := (B3.out.below hSw).blk.cell 0; have q1 : w_.cell? ⟨b3, 1, none⟩ = some (.slice A1 o.heads.length c1) := (B3.out.below hSw).blk.cell 1; have q2 : w_.cell? ⟨b3, 2, none⟩ = some (.slice A2 o.bufs.length c2) := (B3.out.below hSw).blk.cell 2
          go_simp
          (try with_reducible rfl)
        try simp only [Act.put, List.setIfInBounds_toArray, List.set_cons_zero, List.set_cons_succ]
        refine lateTake (i := 6) (v := ?_) rfl (by kernel_rfl) (by decide) (by kernel_rfl) (by kernel_rfl) (by kernel_rfl) (by kernel_rfl) (fun _ _ _ h => h) (by rfl) ?_ hHeld ?_
        rotate_left
        · intro w_ hSw
          (try dsimp only at hSw)
          have q0 : w_.cell? ⟨b3, 0, none⟩ = some (.string o.sent) := (B3.out.below hSw).blk.cell 0; have q1 : w_.cell? ⟨b3, 1, none⟩ = some (.slice A1 o.heads.length c1) := (B3.out.below hSw).blk.cell 1; have q2 : w_.cell? ⟨b3, 2, none⟩ = some (.slice A2 o.bufs.length c2) := (B3.out.below hSw).blk.cell 2
          go_simp
          (try with_reducible rfl)
        try simp only [Act.put, List.setIfInBounds_toArray, List.set_cons_zero, List.set_cons_succ]
        refine lateTakeW (i := 7) (v := ?_) rfl (by kernel_rfl) (by decide) (by kernel_rfl) (by kernel_rfl) (fun _ _ _ h => h) (by rfl) ?_ hHeld ?_
        rotate_left
        · intro w_
          go_simp
          (try with_reducible rfl)
        try simp only [Act.put, List.setIfInBounds_toArray, List.set_cons_zero, List.set_cons_succ]
        refine lateOne (i := 9) (by kernel_rfl) ?_
        refine lateLast (i := 9) rfl (by kernel_rfl) (by rfl) (fun K hK => ?_)
        go_simp
        refine hK.out _ _ ?_
        clear hK K
        try simp only [Act.put, List.setIfInBounds_toArray, List.set_cons_zero, List.set_cons_succ]
        refine lateOne (i := 10) (by kernel_rfl) ?_
        refine lateLast (i := 10) rfl (by kernel_rfl) (by rfl) (fun K hK => ?_)
        go_simp
        refine hK.out _ _ ?_
        clear hK K
        try simp only [Act.put, List.setIfInBounds_toArray, List.set_cons_zero, List.set_cons_succ]
        refine lateDone (by kernel_rfl) ?_ _
        (try go_wp2_with fail)
        go_meet
        first
          | exact ⟨_, A9, c9, A10, c10, rfl, rfl, Bo.new OWN.out, hW8.alloc hW8.size _⟩
          | exact ⟨_, A9, c9, A10, c10, rfl, rfl, Bo.put BK.out rfl OWN.out hgl, below_put hHeld hgB _ _ _⟩
          | exact ⟨_, A9, c9, A10, c10, rfl, rfl, Bo.put BK.out rfl OWN.out hgl, below_put hHeld (Nat.le_refl _) _ _ _⟩
    · skip
      refine lateOp (i := 8) rfl (by rfl) (fun K hK => ?_)
      go_simp
      (have BK := Lib.hid (Blk.new X4.drew 27 #[.string ⟨#[]⟩, .slice none 0 0, .slice none 0 0]); have hgB : X4.heap.size ≤ X4.drew.heap.size := hHeld.size; have hW8 := hHeld; have hS_ := hHeld.alloc hHeld.size (.cells #[.string ⟨#[]⟩, .slice none 0 0, .slice none 0 0] 27))
      clear hHeld
      refine hK.out _ _ hS_ (fun hHeld => ?_)
      clear hK K hS_
      try simp only [Act.put, List.setIfInBounds_toArray, List.set_cons_zero, List.set_cons_succ]
      refine lateOne (i := 3) (by kernel_rfl) ?_
      refine lateOp (i := 3) rfl (by rfl) (fun K hK => ?_)
      go_simp
      (go_at_call 16; refine (ES.out _).mono ?_; rintro e wE ⟨rfl, hb⟩; have hS_ := hHeld.trans (hb.mono hHeld.size); replace BK := Lib.hid (BK.out.below hb (Nat.le_refl _)); have hgl := BK.out.lt; clear hb)
      clear hHeld
      refine hK.out _ _ hS_ (fun hHeld => ?_)
      clear hK K hS_
      try simp only [Act.put, List.setIfInBounds_toArray, List.set_cons_zero, List.set_cons_succ]
      refine lateOne (i := 4) (by kernel_rfl) ?_
      refine lateOp (i := 4) rfl (by rfl) (fun K hK => ?_)
      go_simp
      (go_at_call 14; refine (DE.out _ _ (B3.out.below hHeld).rd).mono ?_; rintro e wk ⟨u, rfl, own, hb⟩; obtain ⟨A9, c9, A10, c10, rfl⟩ := own.form; have hS_ := hHeld.trans (hb.mono hHeld.size); have hgl := BK.out.lt; replace BK := Lib.hid (BK.out.below hb (Nat.le_refl _)); have g0 : wk.cell? ⟨X4.heap.size, 0, none⟩ = some (.string ⟨#[]⟩) := BK.out.cell 0; have g1 : wk.cell? ⟨X4.heap.size, 1, none⟩ = some (.slice none 0 0) := BK.out.cell 1; have g2 : wk.cell? ⟨X4.heap.size, 2, none⟩ = some (.slice none 0 0) := BK.out.cell 2; have f0 : wk.frozen? ⟨X4.heap.size, 0, none⟩ = false := BK.out.frozen 0; have f1 : wk.frozen? ⟨X4.heap.size, 1, none⟩ = false := BK.out.frozen 1; have f2 : wk.frozen? ⟨X4.heap.size, 2, none⟩ = false := BK.out.frozen 2; have OWN := Lib.hid own; clear own hb)
      clear hHeld
      refine hK.out _ _ hS_ (fun hHeld => ?_)
      clear hK K hS_
      try simp only [Act.put, List.setIfInBounds_toArray, List.set_cons_zero, List.set_cons_succ]
      refine lateTake (i := 5) (v := ?_) rfl (by kernel_rfl) (by decide) (by kernel_rfl) (by kernel_rfl) (by kernel_rfl) (by kernel_rfl) (fun _ _ _ h => h) (by rfl) ?_ hHeld ?_
      rotate_left
      · intro w_ hSw
        (try dsimp only at hSw)
        have q0 : w_.cell? ⟨b3, 0, none⟩ = some (.string o.sent) := (B3.out.below hSw).blk.cell 0; have q1 : w_.cell? ⟨b3, 1, none⟩ = some (.slice A1 o.heads.length c1) := (B3.out.below hSw).blk.cell 1; have q2 : w_.cell? ⟨b3, 2, none⟩ = some (.slice A2 o.bufs.length c2) := (B3.out.below hSw).blk.cell 2
        go_simp
        (try with_reducible rfl)
      try simp only [Act.put, List.setIfInBounds_toArray, List.set_cons_zero, List.set_cons_succ]
      refine lateTake (i := 6) (v := ?_) rfl (by kernel_rfl) (by decide) (by kernel_rfl) (by kernel_rfl) (by kernel_rfl) (by kernel_rfl) (fun _ _ _ h => h) (by rfl) ?_ hHeld ?_
      rotate_left
      · intro w_ hSw
        (try dsimp only at hSw)
        have q0 : w_.cell? ⟨b3, 0, none⟩ = some (.string o.sent) := (B3.out.below hSw).blk.cell 0; have q1 : w_.cell? ⟨b3, 1, none⟩ = some (.slice A1 o.heads.length c1) := (B3.out.below hSw).blk.cell 1; have q2 : w_.cell? ⟨b3, 2, none⟩ = some (.slice A2 o.bufs.length c2) := (B3.out.below hSw).blk.cell 2
        go_simp
        (try with_reducible rfl)
      try simp only [Act.put, List.setIfInBounds_toArray, List.set_cons_zero, List.set_cons_succ]
      refine lateTakeW (i := 7) (v := ?_) rfl (by kernel_rfl) (by decide) (by kernel_rfl) (by kernel_rfl) (fun _ _ _ h => h) (by rfl) ?_ hHeld ?_
      rotate_left
      · intro w_
        go_simp
        (try with_reducible rfl)
      try simp only [Act.put, List.setIfInBounds_toArray, List.set_cons_zero, List.set_cons_succ]
      refine lateOne (i := 9) (by kernel_rfl) ?_
      refine lateLast (i := 9) rfl (by kernel_rfl) (by rfl) (fun K hK => ?_)
      go_simp
      refine hK.out _ _ ?_
      clear hK K
      try simp only [Act.put, List.setIfInBounds_toArray, List.set_cons_zero, List.set_cons_succ]
      refine lateOne (i := 10) (by kernel_rfl) ?_
      refine lateLast (i := 10) rfl (by kernel_rfl) (by rfl) (fun K hK => ?_)
      go_simp
      refine hK.out _ _ ?_
      clear hK K
      try simp only [Act.put, List.setIfInBounds_toArray, List.set_cons_zero, List.set_cons_succ]
      refine lateDone (by kernel_rfl) ?_ _
      (try go_wp2_with fail)
      go_meet
      first
        | exact ⟨_, A9, c9, A10, c10, rfl, rfl, Bo.new OWN.out, hW8.alloc hW8.size _⟩
        | exact ⟨_, A9, c9, A10, c10, rfl, rfl, Bo.put BK.out rfl OWN.out hgl, below_put hHeld hgB _ _ _⟩
        | exact ⟨_, A9, c9, A10, c10, rfl, rfl, Bo.put BK.out rfl OWN.out hgl, below_put hHeld (Nat.le_refl _) _ _ _⟩

  case rest =>
    obtain ⟨b12, A9, c9, A10, c10, rfl, rfl, B12_, hb⟩ := hcut
    have B12 := Lib.hid B12_
    replace B3 := Lib.hid (B3.out.below hb)
    replace B8 := Lib.hid (B8.out.below hb)
    replace B10 := Lib.hid (B10.out.below hb)
    replace HB := Lib.hid (HB.out.trans (hb.mono HB.out.size))
    clear hb B12_ B6
    have x8_0 : wc.cell? ⟨b8, 0, none⟩ = some (.string bb.sent) := B8.out.blk.cell 0
    have x8_1 : wc.cell? ⟨b8, 1, none⟩ = some (.slice A5 bb.heads.length c5) := B8.out.blk.cell 1
    have x8_2 : wc.cell? ⟨b8, 2, none⟩ = some (.slice A6 bb.bufs.length c6) := B8.out.blk.cell 2
    go_upto_region 10 with (go_at_call 17; refine (CL.out _ _ B8.out.rd).mono ?_; rintro e wk ⟨u, rfl, own, hb⟩; obtain ⟨A11, c11, A12, c12, rfl⟩ := own.form; replace B3 := Lib.hid (B3.out.below hb); replace B8 := Lib.hid (B8.out.below hb); replace B10 := Lib.hid (B10.out.below hb); replace B12 := Lib.hid (B12.out.below hb); replace HB := Lib.hid (HB.out.trans (hb.mono HB.out.size)); clear hb)
    clear x8_0 x8_1 x8_2
    have N14 := Lib.hid (Bo.new own)
    have HA := Lib.hid (HB.out.alloc HB.out.size (.cells #[.string ee.sent, .slice A11 ee.heads.length c11, .slice A12 ee.bufs.length c12] 27))
    replace B3 := Lib.hid (B3.out.below ((Below.refl _ _).alloc (Nat.le_refl _) (.cells #[.string ee.sent, .slice A11 ee.heads.length c11, .slice A12 ee.bufs.length c12] 27)))
    replace B8 := Lib.hid (B8.out.below ((Below.refl _ _).alloc (Nat.le_refl _) (.cells #[.string ee.sent, .slice A11 ee.heads.length c11, .slice A12 ee.bufs.length c12] 27)))
    replace B10 := Lib.hid (B10.out.below ((Below.refl _ _).alloc (Nat.le_refl _) (.cells #[.string ee.sent, .slice A11 ee.heads.length c11, .slice A12 ee.bufs.length c12] 27)))
    replace B12 := Lib.hid (B12.out.below ((Below.refl _ _).alloc (Nat.le_refl _) (.cells #[.string ee.sent, .slice A11 ee.heads.length c11, .slice A12 ee.bufs.length c12] 27)))
    clear own HB
    generalize wk.alloc (.cells #[.string ee.sent, .slice A11 ee.heads.length c11, .slice A12 ee.bufs.length c12] 27) = X5 at *
    generalize wk.heap.size = b14 at *
    have HB := HA
    have B14 := N14
    clear HA N14
    have x3_0 : X5.cell? ⟨b3, 0, none⟩ = some (.string o.sent) := B3.out.blk.cell 0
    have x3_1 : X5.cell? ⟨b3, 1, none⟩ = some (.slice A1 o.heads.length c1) := B3.out.blk.cell 1
    have x3_2 : X5.cell? ⟨b3, 2, none⟩ = some (.slice A2 o.bufs.length c2) := B3.out.blk.cell 2
    cases ok with
    | false =>
      have e5 : ¬ (o.bufs.length : Int) < 5 := by have := of_decide_eq_false FP.out.oks.symm; omega
      have d5 : decide ((o.bufs.length : Int) < 5) = false := by simpa using e5
      go_wp2_with fail
      go_ret
      exact ⟨rfl, HB.out⟩
    | true =>
      have e5 : (o.bufs.length : Int) < 5 := by have := of_decide_eq_true FP.out.oks.symm; omega
      have d5 : decide ((o.bufs.length : Int) < 5) = true := by simpa using e5
      obtain rfl : cl = true := FP.out.clt rfl
      obtain rfl : o = ee := (FP.out.eo rfl).symm
      go_upto_region 12 with fail
      clear d5 e5
      clear x3_0 x3_1 x3_2
      have x8_0 : X5.cell? ⟨b8, 0, none⟩ = some (.string bb.sent) := B8.out.blk.cell 0
      have x8_1 : X5.cell? ⟨b8, 1, none⟩ = some (.slice A5 bb.heads.length c5) := B8.out.blk.cell 1
      have x8_2 : X5.cell? ⟨b8, 2, none⟩ = some (.slice A6 bb.bufs.length c6) := B8.out.blk.cell 2
      go_upto_region 13 with (go_at_call 18; refine (BT.out _ _ B8.out.rd).mono ?_; rintro e w6 ⟨rfl, hb⟩; replace B3 := Lib.hid (B3.out.below hb); replace B8 := Lib.hid (B8.out.below hb); replace B10 := Lib.hid (B10.out.below hb); replace B12 := Lib.hid (B12.out.below hb); replace B14 := Lib.hid (B14.out.below hb); replace HB := Lib.hid (HB.out.trans (hb.mono HB.out.size)); clear hb)
      clear x8_0 x8_1 x8_2
      have x14_0 : w6.cell? ⟨b14, 0, none⟩ = some (.string o.sent) := B14.out.blk.cell 0
      have x14_1 : w6.cell? ⟨b14, 1, none⟩ = some (.slice A11 o.heads.length c11) := B14.out.blk.cell 1
      have x14_2 : w6.cell? ⟨b14, 2, none⟩ = some (.slice A12 o.bufs.length c12) := B14.out.blk.cell 2
      have x3_0 : w6.cell? ⟨b3, 0, none⟩ = some (.string o.sent) := B3.out.blk.cell 0
      have x3_1 : w6.cell? ⟨b3, 1, none⟩ = some (.slice A1 o.heads.length c1) := B3.out.blk.cell 1
      have x3_2 : w6.cell? ⟨b3, 2, none⟩ = some (.slice A2 o.bufs.length c2) := B3.out.blk.cell 2
      have tok1 : True := trivial
      cases fine with
      | false =>
        go_upto_region 17 with (go_at_call 8; refine (sameOutput_same _ _ _ _ ht.l1 ht.l2 (Nat.le_refl _) B14.out.rd B3.out.rd).mono ?_; rintro e w7 ⟨rfl, hb⟩; replace B3 := Lib.hid (B3.out.below hb); replace B8 := Lib.hid (B8.out.below hb); replace B10 := Lib.hid (B10.out.below hb); replace B12 := Lib.hid (B12.out.below hb); replace B14 := Lib.hid (B14.out.below hb); replace HB := Lib.hid (HB.out.trans (hb.mono HB.out.size)); clear hb)
        clear x14_0 x14_1 x14_2 x3_0 x3_1 x3_2
        have x3_0 : w7.cell? ⟨b3, 0, none⟩ = some (.string o.sent) := B3.out.blk.cell 0
        have x3_1 : w7.cell? ⟨b3, 1, none⟩ = some (.slice A1 o.heads.length c1) := B3.out.blk.cell 1
        have x3_2 : w7.cell? ⟨b3, 2, none⟩ = some (.slice A2 o.bufs.length c2) := B3.out.blk.cell 2
        go_upto_region 18 with (go_at_call 19; refine (FL.out _ _ B3.out.rd).mono ?_; rintro e wk ⟨u, rfl, own, hb⟩; obtain ⟨A13, c13, A14, c14, rfl⟩ := own.form; replace B3 := Lib.hid (B3.out.below hb); replace B8 := Lib.hid (B8.out.below hb); replace B10 := Lib.hid (B10.out.below hb); replace B12 := Lib.hid (B12.out.below hb); replace B14 := Lib.hid (B14.out.below hb); replace HB := Lib.hid (HB.out.trans (hb.mono HB.out.size)); clear hb)
        clear x3_0 x3_1 x3_2
        have N18 := Lib.hid (Bo.new own)
        have HA := Lib.hid (HB.out.alloc HB.out.size (.cells #[.string ff.sent, .slice A13 ff.heads.length c13, .slice A14 ff.bufs.length c14] 27))
        replace B3 := Lib.hid (B3.out.below ((Below.refl _ _).alloc (Nat.le_refl _) (.cells #[.string ff.sent, .slice A13 ff.heads.length c13, .slice A14 ff.bufs.length c14] 27)))
        replace B8 := Lib.hid (B8.out.below ((Below.refl _ _).alloc (Nat.le_refl _) (.cells #[.string ff.sent, .slice A13 ff.heads.length c13, .slice A14 ff.bufs.length c14] 27)))
        replace B10 := Lib.hid (B10.out.below ((Below.refl _ _).alloc (Nat.le_refl _) (.cells #[.string ff.sent, .slice A13 ff.heads.length c13, .slice A14 ff.bufs.length c14] 27)))
        replace B12 := Lib.hid (B12.out.below ((Below.refl _ _).alloc (Nat.le_refl _) (.cells #[.string ff.sent, .slice A13 ff.heads.length c13, .slice A14 ff.bufs.length c14] 27)))
        replace B14 := Lib.hid (B14.out.below ((Below.refl _ _).alloc (Nat.le_refl _) (.cells #[.string ff.sent, .slice A13 ff.heads.length c13, .slice A14 ff.bufs.length c14] 27)))
        clear own HB
        generalize wk.alloc (.cells #[.string ff.sent, .slice A13 ff.heads.length c13, .slice A14 ff.bufs.length c14] 27) = X6 at *
        generalize wk.heap.size = b18 at *
        have HB := HA
        have B18 := N18
        clear HA N18
        have x3_0 : X6.cell? ⟨b3, 0, none⟩ = some (.string o.sent) := B3.out.blk.cell 0
        have x3_1 : X6.cell? ⟨b3, 1, none⟩ = some (.slice A1 o.heads.length c1) := B3.out.blk.cell 1
        have x3_2 : X6.cell? ⟨b3, 2, none⟩ = some (.slice A2 o.bufs.length c2) := B3.out.blk.cell 2
        have x10_0 : X6.cell? ⟨b10, 0, none⟩ = some (.string cc.sent) := B10.out.blk.cell 0
        have x10_1 : X6.cell? ⟨b10, 1, none⟩ = some (.slice A7 cc.heads.length c7) := B10.out.blk.cell 1
        have x10_2 : X6.cell? ⟨b10, 2, none⟩ = some (.slice A8 cc.bufs.length c8) := B10.out.blk.cell 2
        have x18_0 : X6.cell? ⟨b18, 0, none⟩ = some (.string ff.sent) := B18.out.blk.cell 0
        have x18_1 : X6.cell? ⟨b18, 1, none⟩ = some (.slice A13 ff.heads.length c13) := B18.out.blk.cell 1
        have x18_2 : X6.cell? ⟨b18, 2, none⟩ = some (.slice A14 ff.bufs.length c14) := B18.out.blk.cell 2
        have hz : ((ff.bufs.length : Int) == 0) = true := by rw [FP.out.f0]; rfl
        have IC2 := Lib.hid (FP.out.ic rfl)
        have IF2 := Lib.hid FP.out.jf
        cases hio : isO o with
        | false =>
          go_wp2_with ((go_at_call 9; refine (IS.out _ _ B3.out.rd).mono ?_; rw [hio]; rintro e w8 ⟨rfl, hb⟩; replace B3 := Lib.hid (B3.out.below hb); replace B8 := Lib.hid (B8.out.below hb); replace B10 := Lib.hid (B10.out.below hb); replace B12 := Lib.hid (B12.out.below hb); replace B14 := Lib.hid (B14.out.below hb); replace B18 := Lib.hid (B18.out.below hb); replace HB := Lib.hid (HB.out.trans (hb.mono HB.out.size)); clear hb))
          go_ret
          exact ⟨rfl, HB.out⟩
        | true =>
          have i1 := IC2.out hio
          have i2 := IF2.out hio
          have tok2 : True := trivial
          go_wp2_with (first | (go_at_call 9; refine (IS.out _ _ B3.out.rd).mono ?_; rw [hio]; rintro e w8 ⟨rfl, hb⟩; replace B3 := Lib.hid (B3.out.below hb); replace B8 := Lib.hid (B8.out.below hb); replace B10 := Lib.hid (B10.out.below hb); replace B12 := Lib.hid (B12.out.below hb); replace B14 := Lib.hid (B14.out.below hb); replace B18 := Lib.hid (B18.out.below hb); replace HB := Lib.hid (HB.out.trans (hb.mono HB.out.size)); clear hb; clear x3_0 x3_1 x3_2 x10_0 x10_1 x10_2 x18_0 x18_1 x18_2; have x3_0 : w8.cell? ⟨b3, 0, none⟩ = some (.string o.sent) := B3.out.blk.cell 0; have x3_1 : w8.cell? ⟨b3, 1, none⟩ = some (.slice A1 o.heads.length c1) := B3.out.blk.cell 1; have x3_2 : w8.cell? ⟨b3, 2, none⟩ = some (.slice A2 o.bufs.length c2) := B3.out.blk.cell 2; have x10_0 : w8.cell? ⟨b10, 0, none⟩ = some (.string cc.sent) := B10.out.blk.cell 0; have x10_1 : w8.cell? ⟨b10, 1, none⟩ = some (.slice A7 cc.heads.length c7) := B10.out.blk.cell 1; have x10_2 : w8.cell? ⟨b10, 2, none⟩ = some (.slice A8 cc.bufs.length c8) := B10.out.blk.cell 2; have x18_0 : w8.cell? ⟨b18, 0, none⟩ = some (.string ff.sent) := B18.out.blk.cell 0; have x18_1 : w8.cell? ⟨b18, 1, none⟩ = some (.slice A13 ff.heads.length c13) := B18.out.blk.cell 1; have x18_2 : w8.cell? ⟨b18, 2, none⟩ = some (.slice A14 ff.bufs.length c14) := B18.out.blk.cell 2) | (have _t := tok2; go_at_call 10; refine (IC.out _ _ B10.out.rd).mono ?_; rw [i1]; rintro e w9 ⟨rfl, hb⟩; replace B3 := Lib.hid (B3.out.below hb); replace B8 := Lib.hid (B8.out.below hb); replace B10 := Lib.hid (B10.out.below hb); replace B12 := Lib.hid (B12.out.below hb); replace B14 := Lib.hid (B14.out.below hb); replace B18 := Lib.hid (B18.out.below hb); replace HB := Lib.hid (HB.out.trans (hb.mono HB.out.size)); clear hb; clear tok2; clear x3_0 x3_1 x3_2 x10_0 x10_1 x10_2 x18_0 x18_1 x18_2; have x3_0 : w9.cell? ⟨b3, 0, none⟩ = some (.string o.sent) := B3.out.blk.cell 0; have x3_1 : w9.cell? ⟨b3, 1, none⟩ = some (.slice A1 o.heads.length c1) := B3.out.blk.cell 1; have x3_2 : w9.cell? ⟨b3, 2, none⟩ = some (.slice A2 o.bufs.length c2) := B3.out.blk.cell 2; have x10_0 : w9.cell? ⟨b10, 0, none⟩ = some (.string cc.sent) := B10.out.blk.cell 0; have x10_1 : w9.cell? ⟨b10, 1, none⟩ = some (.slice A7 cc.heads.length c7) := B10.out.blk.cell 1; have x10_2 : w9.cell? ⟨b10, 2, none⟩ = some (.slice A8 cc.bufs.length c8) := B10.out.blk.cell 2; have x18_0 : w9.cell? ⟨b18, 0, none⟩ = some (.string ff.sent) := B18.out.blk.cell 0; have x18_1 : w9.cell? ⟨b18, 1, none⟩ = some (.slice A13 ff.heads.length c13) := B18.out.blk.cell 1; have x18_2 : w9.cell? ⟨b18, 2, none⟩ = some (.slice A14 ff.bufs.length c14) := B18.out.blk.cell 2) | (go_at_call 10; refine (IF.out _ _ B18.out.rd).mono ?_; rw [i2]; rintro e w10 ⟨rfl, hb⟩; replace B3 := Lib.hid (B3.out.below hb); replace B8 := Lib.hid (B8.out.below hb); replace B10 := Lib.hid (B10.out.below hb); replace B12 := Lib.hid (B12.out.below hb); replace B14 := Lib.hid (B14.out.below hb); replace B18 := Lib.hid (B18.out.below hb); replace HB := Lib.hid (HB.out.trans (hb.mono HB.out.size)); clear hb))
          go_ret
          exact ⟨rfl, HB.out⟩
      | true =>
        obtain rfl : s = t := (FP.out.tx rfl rfl).symm
        have hq : (s.toList != s.toList) = false := by simp
        obtain rfl : dd = cc := (FP.out.en rfl rfl).symm
        cases good with
        | false =>
          obtain rfl : bad = 2 := FP.out.b2 rfl rfl rfl
          go_upto_region 17 with (go_at_call 8; refine (sameOutput_same _ _ _ _ ht.l1 ht.l2 (Nat.le_refl _) B14.out.rd B3.out.rd).mono ?_; rintro e w7 ⟨rfl, hb⟩; replace B3 := Lib.hid (B3.out.below hb); replace B8 := Lib.hid (B8.out.below hb); replace B10 := Lib.hid (B10.out.below hb); replace B12 := Lib.hid (B12.out.below hb); replace B14 := Lib.hid (B14.out.below hb); replace HB := Lib.hid (HB.out.trans (hb.mono HB.out.size)); clear hb)
          clear x14_0 x14_1 x14_2 x3_0 x3_1 x3_2
          have x3_0 : w7.cell? ⟨b3, 0, none⟩ = some (.string o.sent) := B3.out.blk.cell 0
          have x3_1 : w7.cell? ⟨b3, 1, none⟩ = some (.slice A1 o.heads.length c1) := B3.out.blk.cell 1
          have x3_2 : w7.cell? ⟨b3, 2, none⟩ = some (.slice A2 o.bufs.length c2) := B3.out.blk.cell 2
          go_upto_region 18 with (go_at_call 19; refine (FL.out _ _ B3.out.rd).mono ?_; rintro e wk ⟨u, rfl, own, hb⟩; obtain ⟨A13, c13, A14, c14, rfl⟩ := own.form; replace B3 := Lib.hid (B3.out.below hb); replace B8 := Lib.hid (B8.out.below hb); replace B10 := Lib.hid (B10.out.below hb); replace B12 := Lib.hid (B12.out.below hb); replace B14 := Lib.hid (B14.out.below hb); replace HB := Lib.hid (HB.out.trans (hb.mono HB.out.size)); clear hb)
          clear x3_0 x3_1 x3_2
          have N18 := Lib.hid (Bo.new own)
          have HA := Lib.hid (HB.out.alloc HB.out.size (.cells #[.string ff.sent, .slice A13 ff.heads.length c13, .slice A14 ff.bufs.length c14] 27))
          replace B3 := Lib.hid (B3.out.below ((Below.refl _ _).alloc (Nat.le_refl _) (.cells #[.string ff.sent, .slice A13 ff.heads.length c13, .slice A14 ff.bufs.length c14] 27)))
          replace B8 := Lib.hid (B8.out.below ((Below.refl _ _).alloc (Nat.le_refl _) (.cells #[.string ff.sent, .slice A13 ff.heads.length c13, .slice A14 ff.bufs.length c14] 27)))
          replace B10 := Lib.hid (B10.out.below ((Below.refl _ _).alloc (Nat.le_refl _) (.cells #[.string ff.sent, .slice A13 ff.heads.length c13, .slice A14 ff.bufs.length c14] 27)))
          replace B12 := Lib.hid (B12.out.below ((Below.refl _ _).alloc (Nat.le_refl _) (.cells #[.string ff.sent, .slice A13 ff.heads.length c13, .slice A14 ff.bufs.length c14] 27)))
          replace B14 := Lib.hid (B14.out.below ((Below.refl _ _).alloc (Nat.le_refl _) (.cells #[.string ff.sent, .slice A13 ff.heads.length c13, .slice A14 ff.bufs.length c14] 27)))
          clear own HB
          generalize wk.alloc (.cells #[.string ff.sent, .slice A13 ff.heads.length c13, .slice A14 ff.bufs.length c14] 27) = X6 at *
          generalize wk.heap.size = b18 at *
          have HB := HA
          have B18 := N18
          clear HA N18
          have x3_0 : X6.cell? ⟨b3, 0, none⟩ = some (.string o.sent) := B3.out.blk.cell 0
          have x3_1 : X6.cell? ⟨b3, 1, none⟩ = some (.slice A1 o.heads.length c1) := B3.out.blk.cell 1
          have x3_2 : X6.cell? ⟨b3, 2, none⟩ = some (.slice A2 o.bufs.length c2) := B3.out.blk.cell 2
          have x10_0 : X6.cell? ⟨b10, 0, none⟩ = some (.string dd.sent) := B10.out.blk.cell 0
          have x10_1 : X6.cell? ⟨b10, 1, none⟩ = some (.slice A7 dd.heads.length c7) := B10.out.blk.cell 1
          have x10_2 : X6.cell? ⟨b10, 2, none⟩ = some (.slice A8 dd.bufs.length c8) := B10.out.blk.cell 2
          have x18_0 : X6.cell? ⟨b18, 0, none⟩ = some (.string ff.sent) := B18.out.blk.cell 0
          have x18_1 : X6.cell? ⟨b18, 1, none⟩ = some (.slice A13 ff.heads.length c13) := B18.out.blk.cell 1
          have x18_2 : X6.cell? ⟨b18, 2, none⟩ = some (.slice A14 ff.bufs.length c14) := B18.out.blk.cell 2
          have hz : ((ff.bufs.length : Int) == 0) = true := by rw [FP.out.f0]; rfl
          have IC2 := Lib.hid (FP.out.ic rfl)
          have IF2 := Lib.hid FP.out.jf
          cases hio : isO o with
          | false =>
            go_wp2_with ((go_at_call 9; refine (IS.out _ _ B3.out.rd).mono ?_; rw [hio]; rintro e w8 ⟨rfl, hb⟩; replace B3 := Lib.hid (B3.out.below hb); replace B8 := Lib.hid (B8.out.below hb); replace B10 := Lib.hid (B10.out.below hb); replace B12 := Lib.hid (B12.out.below hb); replace B14 := Lib.hid (B14.out.below hb); replace B18 := Lib.hid (B18.out.below hb); replace HB := Lib.hid (HB.out.trans (hb.mono HB.out.size)); clear hb))
            go_ret
            exact ⟨rfl, HB.out⟩
          | true =>
            have i1 := IC2.out hio
            have i2 := IF2.out hio
            have tok2 : True := trivial
            go_wp2_with (first | (go_at_call 9; refine (IS.out _ _ B3.out.rd).mono ?_; rw [hio]; rintro e w8 ⟨rfl, hb⟩; replace B3 := Lib.hid (B3.out.below hb); replace B8 := Lib.hid (B8.out.below hb); replace B10 := Lib.hid (B10.out.below hb); replace B12 := Lib.hid (B12.out.below hb); replace B14 := Lib.hid (B14.out.below hb); replace B18 := Lib.hid (B18.out.below hb); replace HB := Lib.hid (HB.out.trans (hb.mono HB.out.size)); clear hb; clear x3_0 x3_1 x3_2 x10_0 x10_1 x10_2 x18_0 x18_1 x18_2; have x3_0 : w8.cell? ⟨b3, 0, none⟩ = some (.string o.sent) := B3.out.blk.cell 0; have x3_1 : w8.cell? ⟨b3, 1, none⟩ = some (.slice A1 o.heads.length c1) := B3.out.blk.cell 1; have x3_2 : w8.cell? ⟨b3, 2, none⟩ = some (.slice A2 o.bufs.length c2) := B3.out.blk.cell 2; have x10_0 : w8.cell? ⟨b10, 0, none⟩ = some (.string dd.sent) := B10.out.blk.cell 0; have x10_1 : w8.cell? ⟨b10, 1, none⟩ = some (.slice A7 dd.heads.length c7) := B10.out.blk.cell 1; have x10_2 : w8.cell? ⟨b10, 2, none⟩ = some (.slice A8 dd.bufs.length c8) := B10.out.blk.cell 2; have x18_0 : w8.cell? ⟨b18, 0, none⟩ = some (.string ff.sent) := B18.out.blk.cell 0; have x18_1 : w8.cell? ⟨b18, 1, none⟩ = some (.slice A13 ff.heads.length c13) := B18.out.blk.cell 1; have x18_2 : w8.cell? ⟨b18, 2, none⟩ = some (.slice A14 ff.bufs.length c14) := B18.out.blk.cell 2) | (have _t := tok2; go_at_call 10; refine (IC.out _ _ B10.out.rd).mono ?_; rw [i1]; rintro e w9 ⟨rfl, hb⟩; replace B3 := Lib.hid (B3.out.below hb); replace B8 := Lib.hid (B8.out.below hb); replace B10 := Lib.hid (B10.out.below hb); replace B12 := Lib.hid (B12.out.below hb); replace B14 := Lib.hid (B14.out.below hb); replace B18 := Lib.hid (B18.out.below hb); replace HB := Lib.hid (HB.out.trans (hb.mono HB.out.size)); clear hb; clear tok2; clear x3_0 x3_1 x3_2 x10_0 x10_1 x10_2 x18_0 x18_1 x18_2; have x3_0 : w9.cell? ⟨b3, 0, none⟩ = some (.string o.sent) := B3.out.blk.cell 0; have x3_1 : w9.cell? ⟨b3, 1, none⟩ = some (.slice A1 o.heads.length c1) := B3.out.blk.cell 1; have x3_2 : w9.cell? ⟨b3, 2, none⟩ = some (.slice A2 o.bufs.length c2) := B3.out.blk.cell 2; have x10_0 : w9.cell? ⟨b10, 0, none⟩ = some (.string dd.sent) := B10.out.blk.cell 0; have x10_1 : w9.cell? ⟨b10, 1, none⟩ = some (.slice A7 dd.heads.length c7) := B10.out.blk.cell 1; have x10_2 : w9.cell? ⟨b10, 2, none⟩ = some (.slice A8 dd.bufs.length c8) := B10.out.blk.cell 2; have x18_0 : w9.cell? ⟨b18, 0, none⟩ = some (.string ff.sent) := B18.out.blk.cell 0; have x18_1 : w9.cell? ⟨b18, 1, none⟩ = some (.slice A13 ff.heads.length c13) := B18.out.blk.cell 1; have x18_2 : w9.cell? ⟨b18, 2, none⟩ = some (.slice A14 ff.bufs.length c14) := B18.out.blk.cell 2) | (go_at_call 10; refine (IF.out _ _ B18.out.rd).mono ?_; rw [i2]; rintro e w10 ⟨rfl, hb⟩; replace B3 := Lib.hid (B3.out.below hb); replace B8 := Lib.hid (B8.out.below hb); replace B10 := Lib.hid (B10.out.below hb); replace B12 := Lib.hid (B12.out.below hb); replace B14 := Lib.hid (B14.out.below hb); replace B18 := Lib.hid (B18.out.below hb); replace HB := Lib.hid (HB.out.trans (hb.mono HB.out.size)); clear hb))
            go_ret
            exact ⟨rfl, HB.out⟩
        | true =>
          obtain rfl : bad = 0 := FP.out.b0 rfl rfl rfl
          go_upto_region 15 with (go_at_call 8; refine (sameOutput_same _ _ _ _ ht.l1 ht.l2 (Nat.le_refl _) B14.out.rd B3.out.rd).mono ?_; rintro e w7 ⟨rfl, hb⟩; replace B3 := Lib.hid (B3.out.below hb); replace B8 := Lib.hid (B8.out.below hb); replace B10 := Lib.hid (B10.out.below hb); replace B12 := Lib.hid (B12.out.below hb); replace B14 := Lib.hid (B14.out.below hb); replace HB := Lib.hid (HB.out.trans (hb.mono HB.out.size)); clear hb)
          clear x14_0 x14_1 x14_2 x3_0 x3_1 x3_2
          have x10_0 : w7.cell? ⟨b10, 0, none⟩ = some (.string dd.sent) := B10.out.blk.cell 0
          have x10_1 : w7.cell? ⟨b10, 1, none⟩ = some (.slice A7 dd.heads.length c7) := B10.out.blk.cell 1
          have x10_2 : w7.cell? ⟨b10, 2, none⟩ = some (.slice A8 dd.bufs.length c8) := B10.out.blk.cell 2
          have x12_0 : w7.cell? ⟨b12, 0, none⟩ = some (.string dd.sent) := B12.out.blk.cell 0
          have x12_1 : w7.cell? ⟨b12, 1, none⟩ = some (.slice A9 dd.heads.length c9) := B12.out.blk.cell 1
          have x12_2 : w7.cell? ⟨b12, 2, none⟩ = some (.slice A10 dd.bufs.length c10) := B12.out.blk.cell 2
          go_upto_region 17 with (go_at_call 8; refine (sameOutput_same _ _ _ _ FP.out.td.l1 FP.out.td.l2 (Nat.le_refl _) B10.out.rd B12.out.rd).mono ?_; rintro e w11 ⟨rfl, hb⟩; replace B3 := Lib.hid (B3.out.below hb); replace B8 := Lib.hid (B8.out.below hb); replace B10 := Lib.hid (B10.out.below hb); replace B12 := Lib.hid (B12.out.below hb); replace B14 := Lib.hid (B14.out.below hb); replace HB := Lib.hid (HB.out.trans (hb.mono HB.out.size)); clear hb)
          clear x10_0 x10_1 x10_2 x12_0 x12_1 x12_2
          have x3_0 : w11.cell? ⟨b3, 0, none⟩ = some (.string o.sent) := B3.out.blk.cell 0
          have x3_1 : w11.cell? ⟨b3, 1, none⟩ = some (.slice A1 o.heads.length c1) := B3.out.blk.cell 1
          have x3_2 : w11.cell? ⟨b3, 2, none⟩ = some (.slice A2 o.bufs.length c2) := B3.out.blk.cell 2
          go_upto_region 18 with (go_at_call 19; refine (FL.out _ _ B3.out.rd).mono ?_; rintro e wk ⟨u, rfl, own, hb⟩; obtain ⟨A13, c13, A14, c14, rfl⟩ := own.form; replace B3 := Lib.hid (B3.out.below hb); replace B8 := Lib.hid (B8.out.below hb); replace B10 := Lib.hid (B10.out.below hb); replace B12 := Lib.hid (B12.out.below hb); replace B14 := Lib.hid (B14.out.below hb); replace HB := Lib.hid (HB.out.trans (hb.mono HB.out.size)); clear hb)
          clear x3_0 x3_1 x3_2
          have N18 := Lib.hid (Bo.new own)
          have HA := Lib.hid (HB.out.alloc HB.out.size (.cells #[.string ff.sent, .slice A13 ff.heads.length c13, .slice A14 ff.bufs.length c14] 27))
          replace B3 := Lib.hid (B3.out.below ((Below.refl _ _).alloc (Nat.le_refl _) (.cells #[.string ff.sent, .slice A13 ff.heads.length c13, .slice A14 ff.bufs.length c14] 27)))
          replace B8 := Lib.hid (B8.out.below ((Below.refl _ _).alloc (Nat.le_refl _) (.cells #[.string ff.sent, .slice A13 ff.heads.length c13, .slice A14 ff.bufs.length c14] 27)))
          replace B10 := Lib.hid (B10.out.below ((Below.refl _ _).alloc (Nat.le_refl _) (.cells #[.string ff.sent, .slice A13 ff.heads.length c13, .slice A14 ff.bufs.length c14] 27)))
          replace B12 := Lib.hid (B12.out.below ((Below.refl _ _).alloc (Nat.le_refl _) (.cells #[.string ff.sent, .slice A13 ff.heads.length c13, .slice A14 ff.bufs.length c14] 27)))
          replace B14 := Lib.hid (B14.out.below ((Below.refl _ _).alloc (Nat.le_refl _) (.cells #[.string ff.sent, .slice A13 ff.heads.length c13, .slice A14 ff.bufs.length c14] 27)))
          clear own HB
          generalize wk.alloc (.cells #[.string ff.sent, .slice A13 ff.heads.length c13, .slice A14 ff.bufs.length c14] 27) = X6 at *
          generalize wk.heap.size = b18 at *
          have HB := HA
          have B18 := N18
          clear HA N18
          have x3_0 : X6.cell? ⟨b3, 0, none⟩ = some (.string o.sent) := B3.out.blk.cell 0
          have x3_1 : X6.cell? ⟨b3, 1, none⟩ = some (.slice A1 o.heads.length c1) := B3.out.blk.cell 1
          have x3_2 : X6.cell? ⟨b3, 2, none⟩ = some (.slice A2 o.bufs.length c2) := B3.out.blk.cell 2
          have x10_0 : X6.cell? ⟨b10, 0, none⟩ = some (.string dd.sent) := B10.out.blk.cell 0
          have x10_1 : X6.cell? ⟨b10, 1, none⟩ = some (.slice A7 dd.heads.length c7) := B10.out.blk.cell 1
          have x10_2 : X6.cell? ⟨b10, 2, none⟩ = some (.slice A8 dd.bufs.length c8) := B10.out.blk.cell 2
          have x18_0 : X6.cell? ⟨b18, 0, none⟩ = some (.string ff.sent) := B18.out.blk.cell 0
          have x18_1 : X6.cell? ⟨b18, 1, none⟩ = some (.slice A13 ff.heads.length c13) := B18.out.blk.cell 1
          have x18_2 : X6.cell? ⟨b18, 2, none⟩ = some (.slice A14 ff.bufs.length c14) := B18.out.blk.cell 2
          have hz : ((ff.bufs.length : Int) == 0) = true := by rw [FP.out.f0]; rfl
          have IC2 := Lib.hid (FP.out.ic rfl)
          have IF2 := Lib.hid FP.out.jf
          cases hio : isO o with
          | false =>
            go_wp2_with ((go_at_call 9; refine (IS.out _ _ B3.out.rd).mono ?_; rw [hio]; rintro e w8 ⟨rfl, hb⟩; replace B3 := Lib.hid (B3.out.below hb); replace B8 := Lib.hid (B8.out.below hb); replace B10 := Lib.hid (B10.out.below hb); replace B12 := Lib.hid (B12.out.below hb); replace B14 := Lib.hid (B14.out.below hb); replace B18 := Lib.hid (B18.out.below hb); replace HB := Lib.hid (HB.out.trans (hb.mono HB.out.size)); clear hb))
            go_ret
            exact ⟨rfl, HB.out⟩
          | true =>
            have i1 := IC2.out hio
            have i2 := IF2.out hio
            have tok2 : True := trivial
            go_wp2_with (first | (go_at_call 9; refine (IS.out _ _ B3.out.rd).mono ?_; rw [hio]; rintro e w8 ⟨rfl, hb⟩; replace B3 := Lib.hid (B3.out.below hb); replace B8 := Lib.hid (B8.out.below hb); replace B10 := Lib.hid (B10.out.below hb); replace B12 := Lib.hid (B12.out.below hb); replace B14 := Lib.hid (B14.out.below hb); replace B18 := Lib.hid (B18.out.below hb); replace HB := Lib.hid (HB.out.trans (hb.mono HB.out.size)); clear hb; clear x3_0 x3_1 x3_2 x10_0 x10_1 x10_2 x18_0 x18_1 x18_2; have x3_0 : w8.cell? ⟨b3, 0, none⟩ = some (.string o.sent) := B3.out.blk.cell 0; have x3_1 : w8.cell? ⟨b3, 1, none⟩ = some (.slice A1 o.heads.length c1) := B3.out.blk.cell 1; have x3_2 : w8.cell? ⟨b3, 2, none⟩ = some (.slice A2 o.bufs.length c2) := B3.out.blk.cell 2; have x10_0 : w8.cell? ⟨b10, 0, none⟩ = some (.string dd.sent) := B10.out.blk.cell 0; have x10_1 : w8.cell? ⟨b10, 1, none⟩ = some (.slice A7 dd.heads.length c7) := B10.out.blk.cell 1; have x10_2 : w8.cell? ⟨b10, 2, none⟩ = some (.slice A8 dd.bufs.length c8) := B10.out.blk.cell 2; have x18_0 : w8.cell? ⟨b18, 0, none⟩ = some (.string ff.sent) := B18.out.blk.cell 0; have x18_1 : w8.cell? ⟨b18, 1, none⟩ = some (.slice A13 ff.heads.length c13) := B18.out.blk.cell 1; have x18_2 : w8.cell? ⟨b18, 2, none⟩ = some (.slice A14 ff.bufs.length c14) := B18.out.blk.cell 2) | (have _t := tok2; go_at_call 10; refine (IC.out _ _ B10.out.rd).mono ?_; rw [i1]; rintro e w9 ⟨rfl, hb⟩; replace B3 := Lib.hid (B3.out.below hb); replace B8 := Lib.hid (B8.out.below hb); replace B10 := Lib.hid (B10.out.below hb); replace B12 := Lib.hid (B12.out.below hb); replace B14 := Lib.hid (B14.out.below hb); replace B18 := Lib.hid (B18.out.below hb); replace HB := Lib.hid (HB.out.trans (hb.mono HB.out.size)); clear hb; clear tok2; clear x3_0 x3_1 x3_2 x10_0 x10_1 x10_2 x18_0 x18_1 x18_2; have x3_0 : w9.cell? ⟨b3, 0, none⟩ = some (.string o.sent) := B3.out.blk.cell 0; have x3_1 : w9.cell? ⟨b3, 1, none⟩ = some (.slice A1 o.heads.length c1) := B3.out.blk.cell 1; have x3_2 : w9.cell? ⟨b3, 2, none⟩ = some (.slice A2 o.bufs.length c2) := B3.out.blk.cell 2; have x10_0 : w9.cell? ⟨b10, 0, none⟩ = some (.string dd.sent) := B10.out.blk.cell 0; have x10_1 : w9.cell? ⟨b10, 1, none⟩ = some (.slice A7 dd.heads.length c7) := B10.out.blk.cell 1; have x10_2 : w9.cell? ⟨b10, 2, none⟩ = some (.slice A8 dd.bufs.length c8) := B10.out.blk.cell 2; have x18_0 : w9.cell? ⟨b18, 0, none⟩ = some (.string ff.sent) := B18.out.blk.cell 0; have x18_1 : w9.cell? ⟨b18, 1, none⟩ = some (.slice A13 ff.heads.length c13) := B18.out.blk.cell 1; have x18_2 : w9.cell? ⟨b18, 2, none⟩ = some (.slice A14 ff.bufs.length c14) := B18.out.blk.cell 2) | (go_at_call 10; refine (IF.out _ _ B18.out.rd).mono ?_; rw [i2]; rintro e w10 ⟨rfl, hb⟩; replace B3 := Lib.hid (B3.out.below hb); replace B8 := Lib.hid (B8.out.below hb); replace B10 := Lib.hid (B10.out.below hb); replace B12 := Lib.hid (B12.out.below hb); replace B14 := Lib.hid (B14.out.below hb); replace B18 := Lib.hid (B18.out.below hb); replace HB := Lib.hid (HB.out.trans (hb.mono HB.out.size)); clear hb))
            go_ret
            exact ⟨rfl, HB.out⟩
set_option maxRecDepth 100000 in
theorem fnOutput_lifted (os : Os) (started : os.Started) (H : Type) (enc : TypeId × Value → H) :
    ReturnsInHanded {} Try.checked os 4 .any (Rows.fnOutputSpec.pre6 enc Try.prog Try.f4 Rows.fnOutputRow.domain false) (Rows.fnOutputSpec.post enc Try.prog Try.f4 false true false false) := by
  refine returnsInHanded_of_change (C := Try.checked) own started (by kernel_rfl) Try.func4
    (ChangeSpec.witness6 (enc := enc) (C := Try.checked) false ⟨#[], #[.slice none 0 0], []⟩ 8 (by kernel_rfl) (by kernel_rfl) (by kernel_rfl) (by kernel_rfl)) ?_
  intro W base args ds gs before hval0 hW hcnd _
  have hval : ∀ (j : Nat) t v, Try.f4.params[j]? = some t → args[j]? = some v → Value.okWide Try.prog W .any base t v := hval0
  have hW' := hW
  obtain ⟨p, q, hA0, hV, rfl, hfz, hnd⟩ := hW
  have hA : DataW.TrodAll enc Try.prog W 0 (fun _ => true) true Try.f4.params.toList args.toList ds p := hA0
  rw [Try.params4] at hA hval
  obtain ⟨v0, vs0, d0, ds0, p0, q0, hargs, rfl, rfl, h0, r0⟩ := trodAll_cons hA
  obtain ⟨rfl, rfl, rfl⟩ := trodAll_nil r0
  obtain rfl : args = #[v0] := by cases args; simp_all
  obtain ⟨rfl, rfl⟩ := trodVars_none hV
  have lt0 : ∀ x ∈ p0, x.block < W.heap.size := by obtain ⟨m, hm⟩ := h0; exact DataW.trod_lt m _ _ _ hm
  have k0 := hval 0 22 v0 rfl rfl
  clear hA0 hval0
  refine (fnOutput_walk W base v0 k0 h0).mono fun e W' ⟨he, bel⟩ => ?_
  subst he
  exact ⟨_, rfl, _, _, _, [], _, [], hW', trodAll_mk1 (shut_bool Try.underlying4 _), (trodAll_cons_mk (Below.trod laidOut (by kernel_rfl) (of_decide_eq_true (by kernel_rfl)) h0 bel lt0) trodAll_mk0), rfl, bel.frame _, fun h => by cases h⟩

theorem fnOutput_holds : Rows.FnOutputSaid :=
  OpenClaim.holds_of_wide 4 Try.f4 rfl rfl rfl rfl rfl rfl rfl ⟨rfl, rfl, rfl, rfl, rfl⟩ rfl rfl rfl rfl rfl (by kernel_rfl) Try.func4 (by kernel_rfl)
    (of_decide_eq_true (by kernel_rfl)) (by unfold Func.isWrapper; rw [if_neg (of_decide_eq_false (by kernel_rfl))]; exact ⟨rfl, rfl⟩)
    (fun os started H enc _ => fnOutput_lifted os started H enc)
#print axioms fnOutput_holds

#print axioms fnOutput_holds
end Go.Proofs.Ytnbedjfmhnpjaaa
