/-
  DrawSetHeader: some output within bounds and short strings. Conditions: none.
-/
import Derived.Test.YtnbedjfmhnpjaaaDrP
import Derived.Deep.CutBlock
namespace Go.Proofs.Ytnbedjfmhnpjaaa
open Go.ChangeShapes Go.WideShapes Go.ChangeAt Go.RowKit Go.Deep Go.Joins
open Go.ChangeMaps (open_string shut_string)
set_option linter.unusedVariables false
set_option linter.unusedSimpArgs false
set_option maxRecDepth 100000
theorem head_tiny (o : Out) (nm vl : ByteArray) (v : Value) (w : World) (ht : o.tiny) (n1 : nm.size ≤ 1000000000) (n2 : vl.size ≤ 1000000000) {B : Nat} (hB0 : B ≤ w.heap.size) (hr : OutR w B v o) :
    Calls Try.prog 23 #[v, .string nm, .string vl] w fun e w' => ∃ (o2 : Out) (u : Value) (z : Int), o2.tiny ∧ e = .returned (.tuple #[u, .int .i64 z]) ∧ OutO w' w.heap.size u o2 ∧ Below w.heap.size w w' :=
  (head_spec o nm vl v w ht.l1 ht.l2 n1 n2 hB0 hr).mono fun e w' ⟨u, he, own, hb⟩ => ⟨_, u, _, tiny_head ht nm vl, he, own, hb⟩
set_option maxHeartbeats 8000000 in
theorem DrawSetHeader_any (A : Option Addr) (n c : Nat) (w : World) (hy : Byts w w.heap.size A n) : Calls Try.prog 6 #[.slice A n c] w fun e w' => (∃ (o : Out) (u : Value) (nm vl : ByteArray), o.tiny ∧ nm.size ≤ 100 ∧ vl.size ≤ 100 ∧ e = .returned (.tuple #[u, .string nm, .string vl]) ∧ OutO w' w.heap.size u o) ∧ Below w.heap.size w w' := by
  have HY := Lib.hid hy
  clear hy
  go_enter Try.func6, Try.ntmps6
  go_upto_region 2 with (go_at_call 20; refine (l1New_any A n c w.heap.size _ (by simp) (HY.out.keep fun b o hb => World.cell?_alloc_old _ _ _ (by show b ≠ _; omega))).mono ?_; rintro e w1 ⟨rfl, hc1, hb1⟩)
  have BZ := Lib.hid ((Blk.new w 27 #[.string ⟨#[]⟩, .slice none 0 0, .slice none 0 0]).below hb1 (Nat.le_refl _))
  have HB1 := Lib.hid (((Below.refl w.heap.size w).alloc (Nat.le_refl _) (.cells #[.string ⟨#[]⟩, .slice none 0 0, .slice none 0 0] 27)).trans (hb1.mono (by simp)))
  clear hb1 HY
  have hge : (w.alloc (.cells #[.string ⟨#[]⟩, .slice none 0 0, .slice none 0 0] 27)).heap.size = w.heap.size + 1 := by simp
  rw [hge] at hc1
  clear hge
  have hg : w.heap.size < w.heap.size + 1 := by omega
  have hgr : w.heap.size + 1 ≠ w.heap.size := by omega
  generalize w.heap.size + 1 = g at *
  obtain ⟨r, hr⟩ : ∃ r, r = w.heap.size := ⟨_, rfl⟩
  have HR := Lib.hid hr
  rw [← hr]
  clear hr
  go_upto_region 3 with (go_at_call 21; refine (l20Draw_any g w.heap.size w1 hc1).mono ?_; rintro e w2 ⟨⟨o, u, ht, rfl, own⟩, hc2, ho2⟩; obtain ⟨A1, c1, A2, c2, rfl⟩ := own.form)
  have hl1 := hc1.lt
  have hl2 := hc2.lt
  have hs2 := ho2.size
  have S : DrG w g w.heap.size r w2.heap.size (w1.heap.size + 2) w2.heap.size A1 c1 A2 c2 o (w2.alloc (.cells #[.string o.sent, .slice A1 o.heads.length c1, .slice A2 o.bufs.length c2] 27)) := by
    have hr := HR.out
    subst hr
    exact ⟨hc2.alloc _, (HB1.out.trans (ho2.below (B := w.heap.size) (by omega) (by omega))).alloc (by have := HB1.out.size; omega) _, ((BZ.out.only ho2 (Nat.le_refl _) (.inl hg))).alloc _, Blk.new _ _ _,
      own.inI.below ((Below.refl _ _).alloc (Nat.le_refl _) _) (Nat.le_refl _), ht, by omega, by omega, .inr (Nat.le_refl _), hgr, by omega, by omega, by omega, Nat.le_refl _, by omega, Nat.le_refl _⟩
  clear own ho2 hc1 hc2 BZ HB1 ht hl1 hl2 hs2 hg hgr
  generalize w2.alloc (.cells #[.string o.sent, .slice A1 o.heads.length c1, .slice A2 o.bufs.length c2] 27) = X at *
  generalize w2.heap.size = b at *
  generalize w1.heap.size + 2 = lo at *
  obtain ⟨hi, hhi⟩ : ∃ hi, hi = b := ⟨_, rfl⟩
  replace S : DrG w g w.heap.size r b lo hi A1 c1 A2 c2 o X := by rw [hhi]; exact S
  clear hhi
  go_upto_if 13 with (go_at_call 22; refine (l1Once_any g w.heap.size 6 (by decide) (by decide) _ S.cur).mono ?_; rintro e wa ⟨⟨bb, rfl⟩, hc1, ho1⟩; replace S := S.only hc1 ho1; clear hc1 ho1)
  cases bb with
  | false =>
    go_wp2_with fail
    refine lateStart (S := (fun w_ => DrG w g w.heap.size r b lo hi A1 c1 A2 c2 o w_)) [6, 7, 8] (by kernel_rfl) ?_ (fun hHeld => ?_)
    · (try dsimp only)
      (exact S.drew)
    refine lateTake (i := 0) (v := ?_) rfl (by kernel_rfl) (by decide) (by kernel_rfl) (by kernel_rfl) (by kernel_rfl) (by kernel_rfl) (fun _ _ _ h => h) (by rfl) ?_ hHeld ?_
    rotate_left
    · intro w_ hSw
      (try dsimp only at hSw)
      have q0 : w_.cell? ⟨b, 0, none⟩ = some (.string o.sent) := hSw.blk.cell 0; have q1 : w_.cell? ⟨b, 1, none⟩ = some (.slice A1 o.heads.length c1) := hSw.blk.cell 1; have q2 : w_.cell? ⟨b, 2, none⟩ = some (.slice A2 o.bufs.length c2) := hSw.blk.cell 2
      go_simp
      (try with_reducible rfl)
    try simp only [Act.put, List.setIfInBounds_toArray, List.set_cons_zero, List.set_cons_succ]
    refine lateTakeW (i := 1) (v := ?_) rfl (by kernel_rfl) (by decide) (by kernel_rfl) (by kernel_rfl) (fun _ _ _ h => h) (by rfl) ?_ hHeld ?_
    rotate_left
    · intro w_
      go_simp
      (try with_reducible rfl)
    try simp only [Act.put, List.setIfInBounds_toArray, List.set_cons_zero, List.set_cons_succ]
    refine lateTakeW (i := 4) (v := ?_) rfl (by kernel_rfl) (by decide) (by kernel_rfl) (by kernel_rfl) (fun _ _ _ h => h) (by rfl) ?_ hHeld ?_
    rotate_left
    · intro w_
      go_simp
      (try with_reducible rfl)
    try simp only [Act.put, List.setIfInBounds_toArray, List.set_cons_zero, List.set_cons_succ]
    refine lateOne (i := 2) (by kernel_rfl) ?_
    refine lateOp (i := 2) rfl (by rfl) (fun K hK => ?_)
    go_simp
    (have hXg : (World.drew wa).heap.size ≠ g := by have h1 := hHeld.cur.lt; omega); have BK := Lib.hid (Blk.new (World.drew wa) 9 #[.string ⟨#[65]⟩, .string ⟨#[66, 45, 99]⟩, .string ⟨#[78, 101, 119]⟩, .string ⟨#[]⟩, .string ⟨#[97, 32, 98]⟩, .string ⟨#[97, 95, 98]⟩]); have hS_ := hHeld.below ((Below.refl _ _).alloc (Nat.le_refl _) (.cells #[.string ⟨#[65]⟩, .string ⟨#[66, 45, 99]⟩, .string ⟨#[78, 101, 119]⟩, .string ⟨#[]⟩, .string ⟨#[97, 32, 98]⟩, .string ⟨#[97, 95, 98]⟩] 9))
    clear hHeld
    refine hK.out _ _ hS_ (fun hHeld => ?_)
    clear hK K hS_
    try simp only [Act.put, List.setIfInBounds_toArray, List.set_cons_zero, List.set_cons_succ]
    refine lateOne (i := 3) (by kernel_rfl) ?_
    refine lateOp (i := 3) rfl (by rfl) (fun K hK => ?_)
    go_simp
    (go_at_call 25; refine (l1StrK g w.heap.size _ 6 100 _ _ _ (by decide) (by decide) (by kernel_rfl) hHeld.cur BK.out hXg).mono ?_; rintro e wc ⟨⟨nx, hnx, rfl⟩, hc1, ho1⟩; have hS_ := hHeld.only hc1 ho1; clear hc1 ho1)
    clear hHeld
    refine hK.out _ _ hS_ (fun hHeld => ?_)
    clear hK K hS_
    try simp only [Act.put, List.setIfInBounds_toArray, List.set_cons_zero, List.set_cons_succ]
    refine lateOne (i := 5) (by kernel_rfl) ?_
    refine lateOp (i := 5) rfl (by rfl) (fun K hK => ?_)
    go_simp
    (go_at_call 26; refine (l4Text_any g w.heap.size _ hHeld.cur).mono ?_; rintro e wb ⟨⟨tx, htx, rfl⟩, hc1, ho1⟩; have hS_ := hHeld.only hc1 ho1; have r0 : wb.cell? ⟨r, 0, none⟩ = some (.string ⟨#[]⟩) := hS_.res.cell 0; have r1 : wb.cell? ⟨r, 1, none⟩ = some (.slice none 0 0) := hS_.res.cell 1; have r2 : wb.cell? ⟨r, 2, none⟩ = some (.slice none 0 0) := hS_.res.cell 2; have g0 : wb.frozen? ⟨r, 0, none⟩ = false := hS_.res.frozen 0; have g1 : wb.frozen? ⟨r, 1, none⟩ = false := hS_.res.frozen 1; have g2 : wb.frozen? ⟨r, 2, none⟩ = false := hS_.res.frozen 2; have rl := hS_.res.lt; clear hc1 ho1)
    clear hHeld
    refine hK.out _ _ hS_ (fun hHeld => ?_)
    clear hK K hS_
    try simp only [Act.put, List.setIfInBounds_toArray, List.set_cons_zero, List.set_cons_succ]
    refine lateOne (i := 6) (by kernel_rfl) ?_
    refine lateLast (i := 6) rfl (by kernel_rfl) (by rfl) (fun K hK => ?_)
    go_simp
    refine hK.out _ _ ?_
    clear hK K
    try simp only [Act.put, List.setIfInBounds_toArray, List.set_cons_zero, List.set_cons_succ]
    refine lateOne (i := 7) (by kernel_rfl) ?_
    refine lateLast (i := 7) rfl (by kernel_rfl) (by rfl) (fun K hK => ?_)
    go_simp
    refine hK.out _ _ ?_
    clear hK K
    try simp only [Act.put, List.setIfInBounds_toArray, List.set_cons_zero, List.set_cons_succ]
    refine lateOne (i := 8) (by kernel_rfl) ?_
    refine lateLast (i := 8) rfl (by kernel_rfl) (by rfl) (fun K hK => ?_)
    go_simp
    refine hK.out _ _ ?_
    clear hK K
    try simp only [Act.put, List.setIfInBounds_toArray, List.set_cons_zero, List.set_cons_succ]
    refine lateDone (by kernel_rfl) ?_ _
    (try go_wp2_with fail)
    refine bodyPost_ret (v := .tuple #[.agg #[.string o.sent, .slice A1 o.heads.length c1, .slice A2 o.bufs.length c2], .string nx, .string tx]) (by simp [results, Try.results6, go_sem, r0, r1, r2, g0, g1, g2, rl]) rfl ⟨⟨o, _, nx, tx, hHeld.tiny, hnx, htx, rfl, (hHeld.out _ _ _).1.le (by have := hHeld.rl; have := hHeld.rw_; omega)⟩, (hHeld.out _ _ _).2⟩

  | true =>
    go_wp2_with fail
    go_loopw [7] (fun kv wr => ∃ (k lo hi : Nat) (A1 : Option Addr) (c1 : Nat) (A2 : Option Addr) (c2 : Nat) (o : Out), k ≤ 8 ∧ kv = .int .i64 k ∧ DrG w g w.heap.size r b lo hi A1 c1 A2 c2 o wr) (fun kv _ => 8 - (intOf kv).toNat)
    case atStart => exact ⟨0, _, _, _, _, _, _, _, by omega, rfl, S⟩
    case round =>
      clear S
      obtain ⟨k, lo, hi, A1, c1, A2, c2, o, hk, rfl, S⟩ := hrel
      by_cases h0 : k < 8
      · have hk0 : (k : Int) < 8 := by omega
        have hks := itoF_size (k : Int) (by omega) (by omega)
        have hxs : (⟨#[72]⟩ ++ itoF (k : Int) : ByteArray).size ≤ 30 := by
          rw [ByteArray.size_append]
          have : (⟨#[72]⟩ : ByteArray).size = 1 := rfl
          omega
        have hxn : ¬ 9223372036854775807 < 1 + (itoF (k : Int)).size := by omega
        go_upto_region 7 with fail
        refine lateStart (S := (fun w_ => DrG w g w.heap.size r b lo hi A1 c1 A2 c2 o w_)) [8] (by kernel_rfl) ?_ (fun hHeld => ?_)
        · (try dsimp only)
          (exact S.drew)
        refine lateTake (i := 0) (v := ?_) rfl (by kernel_rfl) (by decide) (by kernel_rfl) (by kernel_rfl) (by kernel_rfl) (by kernel_rfl) (fun _ _ _ h => h) (by rfl) ?_ hHeld ?_
        rotate_left
        · intro w_ hSw
          (try dsimp only at hSw)
          have q0 : w_.cell? ⟨b, 0, none⟩ = some (.string o.sent) := hSw.blk.cell 0; have q1 : w_.cell? ⟨b, 1, none⟩ = some (.slice A1 o.heads.length c1) := hSw.blk.cell 1; have q2 : w_.cell? ⟨b, 2, none⟩ = some (.slice A2 o.bufs.length c2) := hSw.blk.cell 2
          go_simp
          (try with_reducible rfl)
        try simp only [Act.put, List.setIfInBounds_toArray, List.set_cons_zero, List.set_cons_succ]
        refine lateTake (i := 1) (v := ?_) rfl (by kernel_rfl) (by decide) (by kernel_rfl) (by kernel_rfl) (by kernel_rfl) (by kernel_rfl) (fun _ _ _ h => h) (by rfl) ?_ hHeld ?_
        rotate_left
        · intro w_ hSw
          (try dsimp only at hSw)
          have q0 : w_.cell? ⟨b, 0, none⟩ = some (.string o.sent) := hSw.blk.cell 0; have q1 : w_.cell? ⟨b, 1, none⟩ = some (.slice A1 o.heads.length c1) := hSw.blk.cell 1; have q2 : w_.cell? ⟨b, 2, none⟩ = some (.slice A2 o.bufs.length c2) := hSw.blk.cell 2
          go_simp
          (try with_reducible rfl)
        try simp only [Act.put, List.setIfInBounds_toArray, List.set_cons_zero, List.set_cons_succ]
        refine lateOne (i := 2) (by kernel_rfl) ?_
        refine lateOp (i := 2) rfl (by rfl) (fun K hK => ?_)
        go_simp
        (go_at_call 24; refine (Fmt_spec (k : Int) (by omega) (by omega) _).mono ?_; rintro e wb ⟨rfl, hb⟩; have hS_ := hHeld.below hb; clear hb)
        clear hHeld
        refine hK.out _ _ hS_ (fun hHeld => ?_)
        clear hK K hS_
        try simp only [Act.put, List.setIfInBounds_toArray, List.set_cons_zero, List.set_cons_succ]
        refine lateTake (i := 3) (v := ?_) rfl (by kernel_rfl) (by decide) (by kernel_rfl) (by kernel_rfl) (by kernel_rfl) (by kernel_rfl) (fun _ _ _ h => h) (by rfl) ?_ hHeld ?_
        rotate_left
        · intro w_ hSw
          (try dsimp only at hSw)
          have q0 : w_.cell? ⟨b, 0, none⟩ = some (.string o.sent) := hSw.blk.cell 0; have q1 : w_.cell? ⟨b, 1, none⟩ = some (.slice A1 o.heads.length c1) := hSw.blk.cell 1; have q2 : w_.cell? ⟨b, 2, none⟩ = some (.slice A2 o.bufs.length c2) := hSw.blk.cell 2
          go_simp
          (try with_reducible rfl)
        try simp only [Act.put, List.setIfInBounds_toArray, List.set_cons_zero, List.set_cons_succ]
        refine lateOne (i := 4) (by kernel_rfl) ?_
        refine lateOp (i := 4) rfl (by rfl) (fun K hK => ?_)
        go_simp
        (go_at_call 23; refine (head_tiny o _ _ _ _ hHeld.tiny (by omega) (by decide) (Nat.le_refl _) hHeld.own.reads).mono ?_; rintro e wd ⟨o2, u, z, ht2_, rfl, own, hb⟩; obtain ⟨A3, c3, A4, c4, rfl⟩ := own.form; have hM : g < wb.heap.size ∧ r < wb.heap.size ∧ b < wb.heap.size := ⟨hHeld.cur.lt, hHeld.res.lt, hHeld.blk.lt⟩; have ht2 := Lib.hid ht2_; clear ht2_; have hS_ := hHeld.below hb; have OWN := Lib.hid own; clear own hb; have f0 : wd.frozen? ⟨b, 0, none⟩ = false := hS_.blk.frozen 0; have f1 : wd.frozen? ⟨b, 1, none⟩ = false := hS_.blk.frozen 1; have f2 : wd.frozen? ⟨b, 2, none⟩ = false := hS_.blk.frozen 2; have k0 : wd.cell? ⟨b, 0, none⟩ = some (.string o.sent) := hS_.blk.cell 0; have k1 : wd.cell? ⟨b, 1, none⟩ = some (.slice A1 o.heads.length c1) := hS_.blk.cell 1; have k2 : wd.cell? ⟨b, 2, none⟩ = some (.slice A2 o.bufs.length c2) := hS_.blk.cell 2)
        clear hHeld
        refine hK.out _ _ hS_ (fun hHeld => ?_)
        clear hK K hS_
        try simp only [Act.put, List.setIfInBounds_toArray, List.set_cons_zero, List.set_cons_succ]
        refine lateTake (i := 5) (v := ?_) rfl (by kernel_rfl) (by decide) (by kernel_rfl) (by kernel_rfl) (by kernel_rfl) (by kernel_rfl) (fun _ _ _ h => h) (by rfl) ?_ hHeld ?_
        rotate_left
        · intro w_ hSw
          (try dsimp only at hSw)
          have q0 : w_.cell? ⟨b, 0, none⟩ = some (.string o.sent) := hSw.blk.cell 0; have q1 : w_.cell? ⟨b, 1, none⟩ = some (.slice A1 o.heads.length c1) := hSw.blk.cell 1; have q2 : w_.cell? ⟨b, 2, none⟩ = some (.slice A2 o.bufs.length c2) := hSw.blk.cell 2
          go_simp
          (try with_reducible rfl)
        try simp only [Act.put, List.setIfInBounds_toArray, List.set_cons_zero, List.set_cons_succ]
        refine lateTake (i := 6) (v := ?_) rfl (by kernel_rfl) (by decide) (by kernel_rfl) (by kernel_rfl) (by kernel_rfl) (by kernel_rfl) (fun _ _ _ h => h) (by rfl) ?_ hHeld ?_
        rotate_left
        · intro w_ hSw
          (try dsimp only at hSw)
          have q0 : w_.cell? ⟨b, 0, none⟩ = some (.string o.sent) := hSw.blk.cell 0; have q1 : w_.cell? ⟨b, 1, none⟩ = some (.slice A1 o.heads.length c1) := hSw.blk.cell 1; have q2 : w_.cell? ⟨b, 2, none⟩ = some (.slice A2 o.bufs.length c2) := hSw.blk.cell 2
          go_simp
          (try with_reducible rfl)
        try simp only [Act.put, List.setIfInBounds_toArray, List.set_cons_zero, List.set_cons_succ]
        refine lateTakeW (i := 7) (v := ?_) rfl (by kernel_rfl) (by decide) (by kernel_rfl) (by kernel_rfl) (fun _ _ _ h => h) (by rfl) ?_ hHeld ?_
        rotate_left
        · intro w_
          go_simp
          (try with_reducible rfl)
        try simp only [Act.put, List.setIfInBounds_toArray, List.set_cons_zero, List.set_cons_succ]
        refine lateOne (i := 8) (by kernel_rfl) ?_
        refine lateLast (i := 8) rfl (by kernel_rfl) (by rfl) (fun K hK => ?_)
        go_simp
        refine hK.out _ _ ?_
        clear hK K
        try simp only [Act.put, List.setIfInBounds_toArray, List.set_cons_zero, List.set_cons_succ]
        refine lateDone (by kernel_rfl) ?_ _
        go_wp2_with fail
        go_roundw
        case rel => exact ⟨k + 1, _, _, _, _, _, _, _, by omega, by go_num, hHeld.put _ hM OWN.out ht2.out⟩
        case measure => simp [intOf]; omega

      · have hk0 : ¬ (k : Int) < 8 := by omega
        go_wp2_with fail
        refine lateStart (S := (fun w_ => DrG w g w.heap.size r b lo hi A1 c1 A2 c2 o w_)) [6, 7, 8] (by kernel_rfl) ?_ (fun hHeld => ?_)
        · (try dsimp only)
          (exact S.drew)
        refine lateTake (i := 0) (v := ?_) rfl (by kernel_rfl) (by decide) (by kernel_rfl) (by kernel_rfl) (by kernel_rfl) (by kernel_rfl) (fun _ _ _ h => h) (by rfl) ?_ hHeld ?_
        rotate_left
        · intro w_ hSw
          (try dsimp only at hSw)
          have q0 : w_.cell? ⟨b, 0, none⟩ = some (.string o.sent) := hSw.blk.cell 0; have q1 : w_.cell? ⟨b, 1, none⟩ = some (.slice A1 o.heads.length c1) := hSw.blk.cell 1; have q2 : w_.cell? ⟨b, 2, none⟩ = some (.slice A2 o.bufs.length c2) := hSw.blk.cell 2
          go_simp
          (try with_reducible rfl)
        try simp only [Act.put, List.setIfInBounds_toArray, List.set_cons_zero, List.set_cons_succ]
        refine lateTakeW (i := 1) (v := ?_) rfl (by kernel_rfl) (by decide) (by kernel_rfl) (by kernel_rfl) (fun _ _ _ h => h) (by rfl) ?_ hHeld ?_
        rotate_left
        · intro w_
          go_simp
          (try with_reducible rfl)
        try simp only [Act.put, List.setIfInBounds_toArray, List.set_cons_zero, List.set_cons_succ]
        refine lateTakeW (i := 4) (v := ?_) rfl (by kernel_rfl) (by decide) (by kernel_rfl) (by kernel_rfl) (fun _ _ _ h => h) (by rfl) ?_ hHeld ?_
        rotate_left
        · intro w_
          go_simp
          (try with_reducible rfl)
        try simp only [Act.put, List.setIfInBounds_toArray, List.set_cons_zero, List.set_cons_succ]
        refine lateOne (i := 2) (by kernel_rfl) ?_
        refine lateOp (i := 2) rfl (by rfl) (fun K hK => ?_)
        go_simp
        (have hXg : (World.drew wr).heap.size ≠ g := by have h1 := hHeld.cur.lt; omega); have BK := Lib.hid (Blk.new (World.drew wr) 9 #[.string ⟨#[65]⟩, .string ⟨#[66, 45, 99]⟩, .string ⟨#[78, 101, 119]⟩, .string ⟨#[]⟩, .string ⟨#[97, 32, 98]⟩, .string ⟨#[97, 95, 98]⟩]); have hS_ := hHeld.below ((Below.refl _ _).alloc (Nat.le_refl _) (.cells #[.string ⟨#[65]⟩, .string ⟨#[66, 45, 99]⟩, .string ⟨#[78, 101, 119]⟩, .string ⟨#[]⟩, .string ⟨#[97, 32, 98]⟩, .string ⟨#[97, 95, 98]⟩] 9))
        clear hHeld
        refine hK.out _ _ hS_ (fun hHeld => ?_)
        clear hK K hS_
        try simp only [Act.put, List.setIfInBounds_toArray, List.set_cons_zero, List.set_cons_succ]
        refine lateOne (i := 3) (by kernel_rfl) ?_
        refine lateOp (i := 3) rfl (by rfl) (fun K hK => ?_)
        go_simp
        (go_at_call 25; refine (l1StrK g w.heap.size _ 6 100 _ _ _ (by decide) (by decide) (by kernel_rfl) hHeld.cur BK.out hXg).mono ?_; rintro e wc ⟨⟨nx, hnx, rfl⟩, hc1, ho1⟩; have hS_ := hHeld.only hc1 ho1; clear hc1 ho1)
        clear hHeld
        refine hK.out _ _ hS_ (fun hHeld => ?_)
        clear hK K hS_
        try simp only [Act.put, List.setIfInBounds_toArray, List.set_cons_zero, List.set_cons_succ]
        refine lateOne (i := 5) (by kernel_rfl) ?_
        refine lateOp (i := 5) rfl (by rfl) (fun K hK => ?_)
        go_simp
        (go_at_call 26; refine (l4Text_any g w.heap.size _ hHeld.cur).mono ?_; rintro e wb ⟨⟨tx, htx, rfl⟩, hc1, ho1⟩; have hS_ := hHeld.only hc1 ho1; have r0 : wb.cell? ⟨r, 0, none⟩ = some (.string ⟨#[]⟩) := hS_.res.cell 0; have r1 : wb.cell? ⟨r, 1, none⟩ = some (.slice none 0 0) := hS_.res.cell 1; have r2 : wb.cell? ⟨r, 2, none⟩ = some (.slice none 0 0) := hS_.res.cell 2; have g0 : wb.frozen? ⟨r, 0, none⟩ = false := hS_.res.frozen 0; have g1 : wb.frozen? ⟨r, 1, none⟩ = false := hS_.res.frozen 1; have g2 : wb.frozen? ⟨r, 2, none⟩ = false := hS_.res.frozen 2; have rl := hS_.res.lt; clear hc1 ho1)
        clear hHeld
        refine hK.out _ _ hS_ (fun hHeld => ?_)
        clear hK K hS_
        try simp only [Act.put, List.setIfInBounds_toArray, List.set_cons_zero, List.set_cons_succ]
        refine lateOne (i := 6) (by kernel_rfl) ?_
        refine lateLast (i := 6) rfl (by kernel_rfl) (by rfl) (fun K hK => ?_)
        go_simp
        refine hK.out _ _ ?_
        clear hK K
        try simp only [Act.put, List.setIfInBounds_toArray, List.set_cons_zero, List.set_cons_succ]
        refine lateOne (i := 7) (by kernel_rfl) ?_
        refine lateLast (i := 7) rfl (by kernel_rfl) (by rfl) (fun K hK => ?_)
        go_simp
        refine hK.out _ _ ?_
        clear hK K
        try simp only [Act.put, List.setIfInBounds_toArray, List.set_cons_zero, List.set_cons_succ]
        refine lateOne (i := 8) (by kernel_rfl) ?_
        refine lateLast (i := 8) rfl (by kernel_rfl) (by rfl) (fun K hK => ?_)
        go_simp
        refine hK.out _ _ ?_
        clear hK K
        try simp only [Act.put, List.setIfInBounds_toArray, List.set_cons_zero, List.set_cons_succ]
        refine lateDone (by kernel_rfl) ?_ _
        (try go_wp2_with fail)
        refine bodyPost_ret (v := .tuple #[.agg #[.string o.sent, .slice A1 o.heads.length c1, .slice A2 o.bufs.length c2], .string nx, .string tx]) (by simp [results, Try.results6, go_sem, r0, r1, r2, g0, g1, g2, rl]) rfl ⟨⟨o, _, nx, tx, hHeld.tiny, hnx, htx, rfl, (hHeld.out _ _ _).1.le (by have := hHeld.rl; have := hHeld.rw_; omega)⟩, (hHeld.out _ _ _).2⟩

end Go.Proofs.Ytnbedjfmhnpjaaa
