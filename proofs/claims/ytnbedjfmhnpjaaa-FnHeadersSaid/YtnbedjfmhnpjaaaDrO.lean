/-
  Outputs that are drawn: some output within bounds, in memory of its own. Conditions: none.
-/
import Derived.Test.YtnbedjfmhnpjaaaHeadS
import Derived.Test.YtnbedjfmhnpjaaaOutP
import Derived.Test.YtnbedjfmhnpjaaaDrT
import Derived.Test.YtnbedjfmhnpjaaaFmtS
import Derived.Test.YtnbedjfmhnpjaaaRegL
import Derived.Deep.CutBlock
namespace Go.Proofs.Ytnbedjfmhnpjaaa
open Go.ChangeShapes Go.WideShapes Go.ChangeAt Go.RowKit Go.Deep Go.Joins
open Go.ChangeMaps (open_string shut_string)
set_option linter.unusedVariables false
set_option linter.unusedSimpArgs false
set_option maxRecDepth 100000
/-! ### outputs within bounds -/
structure Out.tiny (o : Out) : Prop where
  t : totF o ≤ 3000
  h : o.heads.length ≤ 8
  b : o.bufs.length ≤ 5
  s : ∀ x ∈ o.heads, x.a0.size ≤ 60 ∧ x.a1.size ≤ 60
theorem Out.tiny.l1 {o : Out} (h : o.tiny) : o.heads.length ≤ 1048576 := Nat.le_trans h.h (by decide)
theorem Out.tiny.l2 {o : Out} (h : o.tiny) : o.bufs.length ≤ 1048576 := Nat.le_trans h.b (by decide)
theorem Out.tiny.t9 {o : Out} (h : o.tiny) : totF o ≤ 1000000000 := Nat.le_trans h.t (by decide)
theorem Out.tiny.t12 {o : Out} (h : o.tiny) : totF o ≤ 1000000000000 := Nat.le_trans h.t (by decide)
theorem tiny_nil : Out.tiny ⟨⟨#[]⟩, [], []⟩ := ⟨by decide, by decide, by decide, fun x hx => by cases hx⟩
theorem echoF_heads (o : Out) (s : ByteArray) : (echoF o s).heads = o.heads := by
  unfold echoF echoY
  split
  · split <;> rfl
  · rfl
theorem tiny_echo {o : Out} (h : o.tiny) (s : ByteArray) : (echoF o s).tiny := by
  refine ⟨?_, ?_, ?_, ?_⟩
  · rcases echoF_tot o s with e | e
    · exact Nat.le_trans e h.t
    · exact e
  · rw [(echoF_len o s).2]; exact h.h
  · rw [(echoF_len o s).1]; exact h.b
  · rw [echoF_heads]; exact h.s
theorem tiny_clean {o : Out} (h : o.tiny) : (cleanF o).tiny := by
  refine ⟨Nat.le_trans (tot_clean o) h.t, h.h, ?_, h.s⟩
  have := h.b
  unfold cleanF
  simp only [List.length_take]
  omega
theorem tiny_end {o : Out} (h : o.tiny) : (endF o).tiny := by
  unfold endF
  split
  · exact h
  · exact tiny_echo (tiny_clean h) _
theorem tiny_flushN : ∀ (n : Nat) (o : Out), o.tiny → (flushN n o).tiny
  | 0, _, h => h
  | n + 1, o, h => tiny_flushN n _ (tiny_end h)
theorem tiny_flush {o : Out} (h : o.tiny) : (flushF o).tiny := tiny_flushN _ _ h
theorem bwts_snoc (l : List FBuffer) (x : FBuffer) : FBuffer.wts (l ++ [x]) = FBuffer.wts l + x.wt := by simp [FBuffer.wts]
theorem tiny_start {o : Out} (h : o.tiny) (f : Int) : (startF o f).tiny := by
  unfold startF
  split
  · rename_i hb
    unfold startB at hb
    simp at hb
    refine ⟨?_, h.h, ?_, h.s⟩
    · show o.sent.size + FBuffer.wts (o.bufs ++ [⟨f, ⟨#[]⟩⟩]) ≤ 3000
      rw [bwts_snoc]
      have h1 := h.t
      unfold totF at h1
      have h2 : FBuffer.wt ⟨f, ⟨#[]⟩⟩ = 0 := rfl
      omega
    · show (o.bufs ++ [(⟨f, ⟨#[]⟩⟩ : FBuffer)]).length ≤ 5
      simp
      omega
  · exact h
theorem hn_size {s : ByteArray} (h : hnF s = true) : s.size ≤ 60 := by
  unfold hnF at h
  rw [Bool.and_eq_true] at h
  have := inB_iff.1 h.2
  omega
theorem hv_size {s : ByteArray} (h : hvF s = true) : s.size ≤ 60 := by
  unfold hvF at h
  rw [Bool.and_eq_true] at h
  have := of_decide_eq_true h.2
  omega
theorem tiny_head {o : Out} (h : o.tiny) (nm vl : ByteArray) : ((hdP o nm vl).1).tiny := by
  rcases hd_ways o nm vl with ⟨_, e⟩ | ⟨_, _, e⟩ | ⟨_, _, _, e⟩ | ⟨_, _, _, _, _, e⟩ | ⟨_, n1, n2, _, hl, e⟩ | ⟨_, n1, n2, k, x, hx, _, _, e⟩ <;> rw [e]
  · exact h
  · exact h
  · exact h
  · exact h
  · refine ⟨h.t, ?_, h.b, ?_⟩
    · show (o.heads ++ [(⟨nm, vl⟩ : FHeader)]).length ≤ 8
      simp
      omega
    · intro y hy
      rcases List.mem_append.1 hy with hy | hy
      · exact h.s y hy
      · rw [List.mem_singleton.1 hy]
        exact ⟨hn_size n1, hv_size n2⟩
  · refine ⟨h.t, ?_, h.b, ?_⟩
    · show (o.heads.set k _).length ≤ 8
      simpa using h.h
    · intro y hy
      rcases List.mem_or_eq_of_mem_set hy with hy | hy
      · exact h.s y hy
      · rw [hy]
        exact ⟨(h.s x (List.mem_of_getElem? hx)).1, hv_size n2⟩
/-! ### an output that is being drawn -/
theorem OutO.only {w w' : World} {B lo hi C : Nat} {v : Value} {o : Out} (h : OutO w B v o) (hb : Only lo hi C w w') (hC : w.heap.size ≤ C) (hd : hi ≤ B) : OutO w' B v o := by
  obtain ⟨hv, bv, rfl, h1, h2⟩ := h
  exact ⟨hv, bv, rfl, own_keep h1 (fun g hg => hb.block g (by have := (h1.lt g hg).2; omega) (.inr (by have := (h1.lt g hg).1; omega))), own_keep h2 (fun g hg => hb.block g (by have := (h2.lt g hg).2; omega) (.inr (by have := (h2.lt g hg).1; omega)))⟩
theorem OutO.le {w : World} {B C : Nat} {v : Value} {o : Out} (h : OutO w B v o) (hC : C ≤ B) : OutO w C v o := by
  obtain ⟨hv, bv, rfl, h1, h2⟩ := h
  exact ⟨hv, bv, rfl, ownsRow_le h1 hC, ownsRow_le h2 hC⟩
theorem OutO.set3 {w : World} {B b : Nat} {v : Value} {o : Out} (h : OutO w B v o) (hb : b < B) (x y z : Value) : OutO (((w.setCell ⟨b, 0, none⟩ x).setCell ⟨b, 1, none⟩ y).setCell ⟨b, 2, none⟩ z) B v o := by
  obtain ⟨hv, bv, rfl, h1, h2⟩ := h
  exact ⟨hv, bv, rfl, own_set3 h1 hb x y z, own_set3 h2 hb x y z⟩
/-- The output o lies in the variable in block b of the call that began in w; block w.heap.size keeps the place of the result. -/
structure DrS (w : World) (g B : Nat) (A1 : Option Addr) (c1 : Nat) (A2 : Option Addr) (c2 : Nat) (o : Out) (X : World) : Prop where
  cur : Cur X g B
  onl : Only g (g + 1) w.heap.size w X
  gr : g < w.heap.size
  res : Blk X w.heap.size 27 #[.string ⟨#[]⟩, .slice none 0 0, .slice none 0 0]
  blk : Blk X (w.heap.size + 1) 27 #[.string o.sent, .slice A1 o.heads.length c1, .slice A2 o.bufs.length c2]
  own : OutO X (w.heap.size + 2) (.agg #[.string o.sent, .slice A1 o.heads.length c1, .slice A2 o.bufs.length c2]) o
  tiny : o.tiny
section
variable {w X X' : World} {g B c1 c2 c3 c4 : Nat} {A1 A2 A3 A4 : Option Addr} {o o2 : Out}
theorem DrS.size (h : DrS w g B A1 c1 A2 c2 o X) : w.heap.size + 2 ≤ X.heap.size := by have := h.blk.lt; omega
theorem DrS.only (h : DrS w g B A1 c1 A2 c2 o X) (hc : Cur X' g B) (ho : Only g (g + 1) X.heap.size X X') : DrS w g B A1 c1 A2 c2 o X' := by
  have h1 := h.gr
  have h2 := h.size
  exact ⟨hc, h.onl.trans (ho.less (by omega)), h1, h.res.only ho (Nat.le_refl _) (.inr (by omega)), h.blk.only ho (Nat.le_refl _) (.inr (by omega)), h.own.only ho (Nat.le_refl _) (by omega), h.tiny⟩
theorem DrS.below (h : DrS w g B A1 c1 A2 c2 o X) (hb : Below X.heap.size X X') : DrS w g B A1 c1 A2 c2 o X' := h.only (h.cur.below hb) (only_of_below hb)
theorem DrS.drew (h : DrS w g B A1 c1 A2 c2 o X) : DrS w g B A1 c1 A2 c2 o X.drew := h.below (Below.refl _ _).drew
theorem DrS.put (h : DrS w g B A1 c1 A2 c2 o X) (M : Nat) (hM : w.heap.size + 2 ≤ M) (ho : OutO X M (.agg #[.string o2.sent, .slice A3 o2.heads.length c3, .slice A4 o2.bufs.length c4]) o2) (ht : o2.tiny) :
    DrS w g B A3 c3 A4 c4 o2 (((X.setCell ⟨w.heap.size + 1, 0, none⟩ (.string o2.sent)).setCell ⟨w.heap.size + 1, 1, none⟩ (.slice A3 o2.heads.length c3)).setCell ⟨w.heap.size + 1, 2, none⟩ (.slice A4 o2.bufs.length c4)) := by
  have h1 := h.gr
  have h2 := h.size
  have h3 := h.cur.le
  have hb : ∀ (Y : World) (i : Nat) (u : Value), Below w.heap.size w Y → Below w.heap.size w (Y.setCell ⟨w.heap.size + 1, i, none⟩ u) := fun Y i u hY => hY.setCell (by show _ ≤ w.heap.size + 1; omega) u
  refine ⟨?_, ?_, h1, ?_, ?_, ?_, ht⟩
  · exact ((h.cur.far (by show w.heap.size + 1 ≠ g; omega) (by show B ≤ w.heap.size + 1; omega) _).far (by show w.heap.size + 1 ≠ g; omega) (by show B ≤ w.heap.size + 1; omega) _).far (by show w.heap.size + 1 ≠ g; omega) (by show B ≤ w.heap.size + 1; omega) _
  · have hs : ∀ (Y : World) (i : Nat) (u : Value), Only g (g + 1) w.heap.size w Y → Only g (g + 1) w.heap.size w (Y.setCell ⟨w.heap.size + 1, i, none⟩ u) := fun Y i u hY => hY.trans (only_of_below ((Below.refl _ _).setCell (by show w.heap.size ≤ w.heap.size + 1; omega) u))
    exact hs _ _ _ (hs _ _ _ (hs _ _ _ h.onl))
  · exact ((h.res.far (by show w.heap.size ≠ w.heap.size + 1; omega) _).far (by show w.heap.size ≠ w.heap.size + 1; omega) _).far (by show w.heap.size ≠ w.heap.size + 1; omega) _
  · exact ((h.blk.set_ 0 _).set_ 1 _).set_ 2 _
  · exact (ho.le hM).set3 (by omega) _ _ _
end
theorem DrS.out {w X : World} {g B c1 c2 : Nat} {A1 A2 : Option Addr} {o : Out} (h : DrS w g B A1 c1 A2 c2 o X) (x y z : Value) :
    OutO (((X.setCell ⟨w.heap.size, 0, none⟩ x).setCell ⟨w.heap.size, 1, none⟩ y).setCell ⟨w.heap.size, 2, none⟩ z) (w.heap.size + 2) (.agg #[.string o.sent, .slice A1 o.heads.length c1, .slice A2 o.bufs.length c2]) o ∧ Cur (((X.setCell ⟨w.heap.size, 0, none⟩ x).setCell ⟨w.heap.size, 1, none⟩ y).setCell ⟨w.heap.size, 2, none⟩ z) g B ∧ Only g (g + 1) w.heap.size w (((X.setCell ⟨w.heap.size, 0, none⟩ x).setCell ⟨w.heap.size, 1, none⟩ y).setCell ⟨w.heap.size, 2, none⟩ z) := by
  have h1 := h.gr
  have h3 := h.cur.le
  refine ⟨h.own.set3 (by omega) _ _ _, ?_, ?_⟩
  · exact ((h.cur.far (by show w.heap.size ≠ g; omega) (by show B ≤ w.heap.size; omega) _).far (by show w.heap.size ≠ g; omega) (by show B ≤ w.heap.size; omega) _).far (by show w.heap.size ≠ g; omega) (by show B ≤ w.heap.size; omega) _
  · have hs : ∀ (Y : World) (i : Nat) (u : Value), Only g (g + 1) w.heap.size w Y → Only g (g + 1) w.heap.size w (Y.setCell ⟨w.heap.size, i, none⟩ u) := fun Y i u hY => hY.trans (only_of_below ((Below.refl _ _).setCell (by show w.heap.size ≤ w.heap.size; omega) u))
    exact hs _ _ _ (hs _ _ _ (hs _ _ _ h.onl))
def szOf : Value → Nat
  | .string s => s.size
  | _ => 0
set_option maxHeartbeats 8000000 in
theorem l20Draw_any (g B : Nat) (w : World) (hc : Cur w g B) : Calls Try.prog 21 #[.pointer (some ⟨g, 0, none⟩)] w fun e w' => (∃ (o : Out) (u : Value), o.tiny ∧ e = .returned u ∧ OutO w' (w.heap.size + 2) u o) ∧ Cur w' g B ∧ Only g (g + 1) w.heap.size w w' := by
  have HC := Lib.hid hc
  have hgl := hc.lt
  clear hc
  go_enter Try.func21, Try.ntmps21
  go_upto_region 2 with fail
  have S0 : DrS w g B none 0 none 0 ⟨⟨#[]⟩, [], []⟩ ((w.alloc (.cells #[.string ⟨#[]⟩, .slice none 0 0, .slice none 0 0] 27)).alloc (.cells #[.string ⟨#[]⟩, .slice none 0 0, .slice none 0 0] 27)) :=
    ⟨(HC.out.alloc _).alloc _, only_of_below (((Below.refl _ _).alloc (Nat.le_refl _) _).alloc (by simp) _), hgl, (Blk.new _ _ _).alloc _, Blk.new' _ _ _ _ (by simp), ⟨_, _, rfl, World.ownsRow_nil _ _ _ _, World.ownsRow_nil _ _ _ _⟩, tiny_nil⟩
  generalize (w.alloc (.cells #[.string ⟨#[]⟩, .slice none 0 0, .slice none 0 0] 27)).alloc (.cells #[.string ⟨#[]⟩, .slice none 0 0, .slice none 0 0] 27) = w2 at *
  go_wp2_with (go_at_call 42; refine (l1Below_any g B 9 (by decide) (by decide) _ S0.cur).mono ?_; rintro e w3 ⟨⟨x, hx, rfl⟩, hc1, ho1⟩)
  replace S0 := S0.only hc1 ho1
  clear hc1 ho1
  go_loopw [4] (fun kv wr => ∃ (k : Nat) (A1 : Option Addr) (c1 : Nat) (A2 : Option Addr) (c2 : Nat) (o : Out), k ≤ 9 ∧ kv = .int .i64 k ∧ DrS w g B A1 c1 A2 c2 o wr) (fun kv _ => (intOf kv).toNat)
  case atStart => exact ⟨x, _, _, _, _, _, by omega, rfl, S0⟩
  case round =>
    obtain ⟨k, A1, c1, A2, c2, o, hk, rfl, S⟩ := hrel
    clear S0
    by_cases h0 : 0 < k
    · have hk0 : (k : Int) > 0 := by omega
      have k0 : wr.cell? ⟨w.heap.size + 1, 0, none⟩ = some (.string o.sent) := S.blk.cell 0
      have k1 : wr.cell? ⟨w.heap.size + 1, 1, none⟩ = some (.slice A1 o.heads.length c1) := S.blk.cell 1
      have k2 : wr.cell? ⟨w.heap.size + 1, 2, none⟩ = some (.slice A2 o.bufs.length c2) := S.blk.cell 2
      have f0 : wr.frozen? ⟨w.heap.size + 1, 0, none⟩ = false := S.blk.frozen 0
      have f1 : wr.frozen? ⟨w.heap.size + 1, 1, none⟩ = false := S.blk.frozen 1
      have f2 : wr.frozen? ⟨w.heap.size + 1, 2, none⟩ = false := S.blk.frozen 2
      go_upto_region 7 with (go_at_call 42; refine (l1Below_any g B 5 (by decide) (by decide) _ S.cur).mono ?_; rintro e wa ⟨⟨y, hy, rfl⟩, hc1, ho1⟩; replace S := S.only hc1 ho1; clear hc1 ho1; clear k0 k1 k2 f0 f1 f2; have k0 : wa.cell? ⟨w.heap.size + 1, 0, none⟩ = some (.string o.sent) := S.blk.cell 0; have k1 : wa.cell? ⟨w.heap.size + 1, 1, none⟩ = some (.slice A1 o.heads.length c1) := S.blk.cell 1; have k2 : wa.cell? ⟨w.heap.size + 1, 2, none⟩ = some (.slice A2 o.bufs.length c2) := S.blk.cell 2; have f0 : wa.frozen? ⟨w.heap.size + 1, 0, none⟩ = false := S.blk.frozen 0; have f1 : wa.frozen? ⟨w.heap.size + 1, 1, none⟩ = false := S.blk.frozen 1; have f2 : wa.frozen? ⟨w.heap.size + 1, 2, none⟩ = false := S.blk.frozen 2)
      clear k0 k1 k2 f0 f1 f2
      by_cases y0 : y = 0
      · subst y0
        go_wp2_with fail
        refine lateStart (S := (fun w_ => DrS w g B A1 c1 A2 c2 o w_)) [7] (by kernel_rfl) ?_ (fun hHeld => ?_)
        · (try dsimp only)
          (exact S.drew)
        refine lateTake (i := 0) (v := ?_) rfl (by kernel_rfl) (by decide) (by kernel_rfl) (by kernel_rfl) (by kernel_rfl) (by kernel_rfl) (fun _ _ _ h => h) (by rfl) ?_ hHeld ?_
        rotate_left
        · intro w_ hSw
          (try dsimp only at hSw)
          have q0 : w_.cell? ⟨w.heap.size + 1, 0, none⟩ = some (.string o.sent) := hSw.blk.cell 0; have q1 : w_.cell? ⟨w.heap.size + 1, 1, none⟩ = some (.slice A1 o.heads.length c1) := hSw.blk.cell 1; have q2 : w_.cell? ⟨w.heap.size + 1, 2, none⟩ = some (.slice A2 o.bufs.length c2) := hSw.blk.cell 2
          go_simp
          (try with_reducible rfl)
        try simp only [Act.put, List.setIfInBounds_toArray, List.set_cons_zero, List.set_cons_succ]
        refine lateTake (i := 1) (v := ?_) rfl (by kernel_rfl) (by decide) (by kernel_rfl) (by kernel_rfl) (by kernel_rfl) (by kernel_rfl) (fun _ _ _ h => h) (by rfl) ?_ hHeld ?_
        rotate_left
        · intro w_ hSw
          (try dsimp only at hSw)
          have q0 : w_.cell? ⟨w.heap.size + 1, 0, none⟩ = some (.string o.sent) := hSw.blk.cell 0; have q1 : w_.cell? ⟨w.heap.size + 1, 1, none⟩ = some (.slice A1 o.heads.length c1) := hSw.blk.cell 1; have q2 : w_.cell? ⟨w.heap.size + 1, 2, none⟩ = some (.slice A2 o.bufs.length c2) := hSw.blk.cell 2
          go_simp
          (try with_reducible rfl)
        try simp only [Act.put, List.setIfInBounds_toArray, List.set_cons_zero, List.set_cons_succ]
        refine lateOne (i := 2) (by kernel_rfl) ?_
        refine lateOp (i := 2) rfl (by rfl) (fun K hK => ?_)
        go_simp
        (go_at_call 42; refine (l1Below_any g B 4 (by decide) (by decide) _ hHeld.cur).mono ?_; rintro e wb ⟨⟨z, hz, rfl⟩, hc1, ho1⟩; have hS_ := hHeld.only hc1 ho1; clear hc1 ho1)
        clear hHeld
        refine hK.out _ _ hS_ (fun hHeld => ?_)
        clear hK K hS_
        try simp only [Act.put, List.setIfInBounds_toArray, List.set_cons_zero, List.set_cons_succ]
        refine lateOne (i := 3) (by kernel_rfl) ?_
        refine lateOp (i := 3) rfl (by rfl) (fun K hK => ?_)
        go_simp
        (go_at_call 43; refine (start_spec o _ _ _ hHeld.tiny.l1 hHeld.tiny.l2 (Nat.le_refl _) hHeld.own.reads).mono ?_; rintro e wd ⟨u, rfl, own, hb⟩; obtain ⟨A3, c3, A4, c4, rfl⟩ := own.form; have hM := hHeld.size; have ht2 := Lib.hid (tiny_start hHeld.tiny (z : Int)); have hS_ := hHeld.below hb; have OWN := Lib.hid own; clear own hb; have f0 : wd.frozen? ⟨w.heap.size + 1, 0, none⟩ = false := hS_.blk.frozen 0; have f1 : wd.frozen? ⟨w.heap.size + 1, 1, none⟩ = false := hS_.blk.frozen 1; have f2 : wd.frozen? ⟨w.heap.size + 1, 2, none⟩ = false := hS_.blk.frozen 2; have k0 : wd.cell? ⟨w.heap.size + 1, 0, none⟩ = some (.string o.sent) := hS_.blk.cell 0; have k1 : wd.cell? ⟨w.heap.size + 1, 1, none⟩ = some (.slice A1 o.heads.length c1) := hS_.blk.cell 1; have k2 : wd.cell? ⟨w.heap.size + 1, 2, none⟩ = some (.slice A2 o.bufs.length c2) := hS_.blk.cell 2)
        clear hHeld
        refine hK.out _ _ hS_ (fun hHeld => ?_)
        clear hK K hS_
        try simp only [Act.put, List.setIfInBounds_toArray, List.set_cons_zero, List.set_cons_succ]
        refine lateTake (i := 4) (v := ?_) rfl (by kernel_rfl) (by decide) (by kernel_rfl) (by kernel_rfl) (by kernel_rfl) (by kernel_rfl) (fun _ _ _ h => h) (by rfl) ?_ hHeld ?_
        rotate_left
        · intro w_ hSw
          (try dsimp only at hSw)
          have q0 : w_.cell? ⟨w.heap.size + 1, 0, none⟩ = some (.string o.sent) := hSw.blk.cell 0; have q1 : w_.cell? ⟨w.heap.size + 1, 1, none⟩ = some (.slice A1 o.heads.length c1) := hSw.blk.cell 1; have q2 : w_.cell? ⟨w.heap.size + 1, 2, none⟩ = some (.slice A2 o.bufs.length c2) := hSw.blk.cell 2
          go_simp
          (try with_reducible rfl)
        try simp only [Act.put, List.setIfInBounds_toArray, List.set_cons_zero, List.set_cons_succ]
        refine lateTake (i := 5) (v := ?_) rfl (by kernel_rfl) (by decide) (by kernel_rfl) (by kernel_rfl) (by kernel_rfl) (by kernel_rfl) (fun _ _ _ h => h) (by rfl) ?_ hHeld ?_
        rotate_left
        · intro w_ hSw
          (try dsimp only at hSw)
          have q0 : w_.cell? ⟨w.heap.size + 1, 0, none⟩ = some (.string o.sent) := hSw.blk.cell 0; have q1 : w_.cell? ⟨w.heap.size + 1, 1, none⟩ = some (.slice A1 o.heads.length c1) := hSw.blk.cell 1; have q2 : w_.cell? ⟨w.heap.size + 1, 2, none⟩ = some (.slice A2 o.bufs.length c2) := hSw.blk.cell 2
          go_simp
          (try with_reducible rfl)
        try simp only [Act.put, List.setIfInBounds_toArray, List.set_cons_zero, List.set_cons_succ]
        refine lateTakeW (i := 6) (v := ?_) rfl (by kernel_rfl) (by decide) (by kernel_rfl) (by kernel_rfl) (fun _ _ _ h => h) (by rfl) ?_ hHeld ?_
        rotate_left
        · intro w_
          go_simp
          (try with_reducible rfl)
        try simp only [Act.put, List.setIfInBounds_toArray, List.set_cons_zero, List.set_cons_succ]
        refine lateOne (i := 7) (by kernel_rfl) ?_
        refine lateLast (i := 7) rfl (by kernel_rfl) (by rfl) (fun K hK => ?_)
        go_simp
        refine hK.out _ _ ?_
        clear hK K
        try simp only [Act.put, List.setIfInBounds_toArray, List.set_cons_zero, List.set_cons_succ]
        refine lateDone (by kernel_rfl) ?_ _
        go_wp2_with fail
        go_roundw
        case rel => exact ⟨k - 1, _, _, _, _, _, by omega, by go_num, hHeld.put _ hM OWN.out ht2.out⟩
        case measure => simp [intOf]; omega

      have z0 : ¬ (y : Int) = 0 := by omega
      by_cases y1 : y = 1
      · subst y1
        have k0 : wa.cell? ⟨w.heap.size + 1, 0, none⟩ = some (.string o.sent) := S.blk.cell 0
        have k1 : wa.cell? ⟨w.heap.size + 1, 1, none⟩ = some (.slice A1 o.heads.length c1) := S.blk.cell 1
        have k2 : wa.cell? ⟨w.heap.size + 1, 2, none⟩ = some (.slice A2 o.bufs.length c2) := S.blk.cell 2
        have f0 : wa.frozen? ⟨w.heap.size + 1, 0, none⟩ = false := S.blk.frozen 0
        have f1 : wa.frozen? ⟨w.heap.size + 1, 1, none⟩ = false := S.blk.frozen 1
        have f2 : wa.frozen? ⟨w.heap.size + 1, 2, none⟩ = false := S.blk.frozen 2
        go_wp2_with (go_at_call 44; refine (end_spec o _ _ S.tiny.l1 S.tiny.l2 S.tiny.t9 (Nat.le_refl _) S.own.reads).mono ?_; rintro e wd ⟨u, rfl, own, hb⟩; obtain ⟨A3, c3, A4, c4, rfl⟩ := own.form; have ht2 := Lib.hid (tiny_end S.tiny); have hM := S.size; replace S := S.below hb; have OWN := Lib.hid own; clear own hb; clear k0 k1 k2 f0 f1 f2; have k0 : wd.cell? ⟨w.heap.size + 1, 0, none⟩ = some (.string o.sent) := S.blk.cell 0; have k1 : wd.cell? ⟨w.heap.size + 1, 1, none⟩ = some (.slice A1 o.heads.length c1) := S.blk.cell 1; have k2 : wd.cell? ⟨w.heap.size + 1, 2, none⟩ = some (.slice A2 o.bufs.length c2) := S.blk.cell 2; have f0 : wd.frozen? ⟨w.heap.size + 1, 0, none⟩ = false := S.blk.frozen 0; have f1 : wd.frozen? ⟨w.heap.size + 1, 1, none⟩ = false := S.blk.frozen 1; have f2 : wd.frozen? ⟨w.heap.size + 1, 2, none⟩ = false := S.blk.frozen 2)
        go_roundw
        case rel => exact ⟨k - 1, _, _, _, _, _, by omega, by go_num, S.put _ hM OWN.out ht2.out⟩
        case measure => simp [intOf]; omega
      have z1 : ¬ (y : Int) = 1 := by omega
      by_cases y2 : y = 2
      · subst y2
        go_wp2_with fail
        refine lateStart (S := (fun w_ => DrS w g B A1 c1 A2 c2 o w_)) [10] (by kernel_rfl) ?_ (fun hHeld => ?_)
        · (try dsimp only)
          (exact S.drew)
        refine lateTake (i := 0) (v := ?_) rfl (by kernel_rfl) (by decide) (by kernel_rfl) (by kernel_rfl) (by kernel_rfl) (by kernel_rfl) (fun _ _ _ h => h) (by rfl) ?_ hHeld ?_
        rotate_left
        · intro w_ hSw
          (try dsimp only at hSw)
          have q0 : w_.cell? ⟨w.heap.size + 1, 0, none⟩ = some (.string o.sent) := hSw.blk.cell 0; have q1 : w_.cell? ⟨w.heap.size + 1, 1, none⟩ = some (.slice A1 o.heads.length c1) := hSw.blk.cell 1; have q2 : w_.cell? ⟨w.heap.size + 1, 2, none⟩ = some (.slice A2 o.bufs.length c2) := hSw.blk.cell 2
          go_simp
          (try with_reducible rfl)
        try simp only [Act.put, List.setIfInBounds_toArray, List.set_cons_zero, List.set_cons_succ]
        refine lateTake (i := 1) (v := ?_) rfl (by kernel_rfl) (by decide) (by kernel_rfl) (by kernel_rfl) (by kernel_rfl) (by kernel_rfl) (fun _ _ _ h => h) (by rfl) ?_ hHeld ?_
        rotate_left
        · intro w_ hSw
          (try dsimp only at hSw)
          have q0 : w_.cell? ⟨w.heap.size + 1, 0, none⟩ = some (.string o.sent) := hSw.blk.cell 0; have q1 : w_.cell? ⟨w.heap.size + 1, 1, none⟩ = some (.slice A1 o.heads.length c1) := hSw.blk.cell 1; have q2 : w_.cell? ⟨w.heap.size + 1, 2, none⟩ = some (.slice A2 o.bufs.length c2) := hSw.blk.cell 2
          go_simp
          (try with_reducible rfl)
        try simp only [Act.put, List.setIfInBounds_toArray, List.set_cons_zero, List.set_cons_succ]
        refine lateTake (i := 4) (v := ?_) rfl (by kernel_rfl) (by decide) (by kernel_rfl) (by kernel_rfl) (by kernel_rfl) (by kernel_rfl) (fun _ _ _ h => h) (by rfl) ?_ hHeld ?_
        rotate_left
        · intro w_ hSw
          (try dsimp only at hSw)
          have q0 : w_.cell? ⟨w.heap.size + 1, 0, none⟩ = some (.string o.sent) := hSw.blk.cell 0; have q1 : w_.cell? ⟨w.heap.size + 1, 1, none⟩ = some (.slice A1 o.heads.length c1) := hSw.blk.cell 1; have q2 : w_.cell? ⟨w.heap.size + 1, 2, none⟩ = some (.slice A2 o.bufs.length c2) := hSw.blk.cell 2
          go_simp
          (try with_reducible rfl)
        try simp only [Act.put, List.setIfInBounds_toArray, List.set_cons_zero, List.set_cons_succ]
        refine lateOne (i := 2) (by kernel_rfl) ?_
        refine lateOp (i := 2) rfl (by rfl) (fun K hK => ?_)
        go_simp
        (have hXg : (World.drew wa).heap.size ≠ g := by have h1 := hHeld.size; have h2 := hHeld.gr; omega); have BK := Lib.hid (Blk.new (World.drew wa) 9 #[.string ⟨#[65]⟩, .string ⟨#[66, 45, 99]⟩, .string ⟨#[83, 101, 116, 45, 67, 111, 111, 107, 105, 101]⟩, .string ⟨#[88, 49]⟩]); have hS_ := hHeld.below ((Below.refl _ _).alloc (Nat.le_refl _) (.cells #[.string ⟨#[65]⟩, .string ⟨#[66, 45, 99]⟩, .string ⟨#[83, 101, 116, 45, 67, 111, 111, 107, 105, 101]⟩, .string ⟨#[88, 49]⟩] 9))
        clear hHeld
        refine hK.out _ _ hS_ (fun hHeld => ?_)
        clear hK K hS_
        try simp only [Act.put, List.setIfInBounds_toArray, List.set_cons_zero, List.set_cons_succ]
        refine lateOne (i := 3) (by kernel_rfl) ?_
        refine lateOp (i := 3) rfl (by rfl) (fun K hK => ?_)
        go_simp
        (go_at_call 25; refine (l1StrK g B _ 4 100 _ _ _ (by decide) (by decide) (by kernel_rfl) hHeld.cur BK.out hXg).mono ?_; rintro e wc ⟨⟨nx, hnx, rfl⟩, hc1, ho1⟩; have hS_ := hHeld.only hc1 ho1; clear hc1 ho1)
        clear hHeld
        refine hK.out _ _ hS_ (fun hHeld => ?_)
        clear hK K hS_
        try simp only [Act.put, List.setIfInBounds_toArray, List.set_cons_zero, List.set_cons_succ]
        refine lateOne (i := 5) (by kernel_rfl) ?_
        refine lateOp (i := 5) rfl (by rfl) (fun K hK => ?_)
        go_simp
        (go_at_call 26; refine (l4Text_any g B _ hHeld.cur).mono ?_; rintro e wb ⟨⟨tx, htx, rfl⟩, hc1, ho1⟩; have hS_ := hHeld.only hc1 ho1; clear hc1 ho1)
        clear hHeld
        refine hK.out _ _ hS_ (fun hHeld => ?_)
        clear hK K hS_
        try simp only [Act.put, List.setIfInBounds_toArray, List.set_cons_zero, List.set_cons_succ]
        refine lateOne (i := 6) (by kernel_rfl) ?_
        refine lateOp (i := 6) rfl (by rfl) (fun K hK => ?_)
        go_simp
        (go_at_call 23; refine (head_spec o nx tx _ _ hHeld.tiny.l1 hHeld.tiny.l2 (by omega) (by omega) (Nat.le_refl _) hHeld.own.reads).mono ?_; rintro e wd ⟨u, rfl, own, hb⟩; obtain ⟨A3, c3, A4, c4, rfl⟩ := own.form; have hM := hHeld.size; have ht2 := Lib.hid (tiny_head hHeld.tiny nx tx); have hS_ := hHeld.below hb; have OWN := Lib.hid own; clear own hb; have f0 : wd.frozen? ⟨w.heap.size + 1, 0, none⟩ = false := hS_.blk.frozen 0; have f1 : wd.frozen? ⟨w.heap.size + 1, 1, none⟩ = false := hS_.blk.frozen 1; have f2 : wd.frozen? ⟨w.heap.size + 1, 2, none⟩ = false := hS_.blk.frozen 2; have k0 : wd.cell? ⟨w.heap.size + 1, 0, none⟩ = some (.string o.sent) := hS_.blk.cell 0; have k1 : wd.cell? ⟨w.heap.size + 1, 1, none⟩ = some (.slice A1 o.heads.length c1) := hS_.blk.cell 1; have k2 : wd.cell? ⟨w.heap.size + 1, 2, none⟩ = some (.slice A2 o.bufs.length c2) := hS_.blk.cell 2)
        clear hHeld
        refine hK.out _ _ hS_ (fun hHeld => ?_)
        clear hK K hS_
        try simp only [Act.put, List.setIfInBounds_toArray, List.set_cons_zero, List.set_cons_succ]
        refine lateTake (i := 7) (v := ?_) rfl (by kernel_rfl) (by decide) (by kernel_rfl) (by kernel_rfl) (by kernel_rfl) (by kernel_rfl) (fun _ _ _ h => h) (by rfl) ?_ hHeld ?_
        rotate_left
        · intro w_ hSw
          (try dsimp only at hSw)
          have q0 : w_.cell? ⟨w.heap.size + 1, 0, none⟩ = some (.string o.sent) := hSw.blk.cell 0; have q1 : w_.cell? ⟨w.heap.size + 1, 1, none⟩ = some (.slice A1 o.heads.length c1) := hSw.blk.cell 1; have q2 : w_.cell? ⟨w.heap.size + 1, 2, none⟩ = some (.slice A2 o.bufs.length c2) := hSw.blk.cell 2
          go_simp
          (try with_reducible rfl)
        try simp only [Act.put, List.setIfInBounds_toArray, List.set_cons_zero, List.set_cons_succ]
        refine lateTake (i := 8) (v := ?_) rfl (by kernel_rfl) (by decide) (by kernel_rfl) (by kernel_rfl) (by kernel_rfl) (by kernel_rfl) (fun _ _ _ h => h) (by rfl) ?_ hHeld ?_
        rotate_left
        · intro w_ hSw
          (try dsimp only at hSw)
          have q0 : w_.cell? ⟨w.heap.size + 1, 0, none⟩ = some (.string o.sent) := hSw.blk.cell 0; have q1 : w_.cell? ⟨w.heap.size + 1, 1, none⟩ = some (.slice A1 o.heads.length c1) := hSw.blk.cell 1; have q2 : w_.cell? ⟨w.heap.size + 1, 2, none⟩ = some (.slice A2 o.bufs.length c2) := hSw.blk.cell 2
          go_simp
          (try with_reducible rfl)
        try simp only [Act.put, List.setIfInBounds_toArray, List.set_cons_zero, List.set_cons_succ]
        refine lateTakeW (i := 9) (v := ?_) rfl (by kernel_rfl) (by decide) (by kernel_rfl) (by kernel_rfl) (fun _ _ _ h => h) (by rfl) ?_ hHeld ?_
        rotate_left
        · intro w_
          go_simp
          (try with_reducible rfl)
        try simp only [Act.put, List.setIfInBounds_toArray, List.set_cons_zero, List.set_cons_succ]
        refine lateOne (i := 10) (by kernel_rfl) ?_
        refine lateLast (i := 10) rfl (by kernel_rfl) (by rfl) (fun K hK => ?_)
        go_simp
        refine hK.out _ _ ?_
        clear hK K
        try simp only [Act.put, List.setIfInBounds_toArray, List.set_cons_zero, List.set_cons_succ]
        refine lateDone (by kernel_rfl) ?_ _
        go_wp2_with fail
        go_roundw
        case rel => exact ⟨k - 1, _, _, _, _, _, by omega, by go_num, hHeld.put _ hM OWN.out ht2.out⟩
        case measure => simp [intOf]; omega

      have z2 : ¬ (y : Int) = 2 := by omega
      go_wp2_with fail
      refine lateStart (S := (fun w_ => DrS w g B A1 c1 A2 c2 o w_)) [7] (by kernel_rfl) ?_ (fun hHeld => ?_)
      · (try dsimp only)
        (exact S.drew)
      refine lateTake (i := 0) (v := ?_) rfl (by kernel_rfl) (by decide) (by kernel_rfl) (by kernel_rfl) (by kernel_rfl) (by kernel_rfl) (fun _ _ _ h => h) (by rfl) ?_ hHeld ?_
      rotate_left
      · intro w_ hSw
        (try dsimp only at hSw)
        have q0 : w_.cell? ⟨w.heap.size + 1, 0, none⟩ = some (.string o.sent) := hSw.blk.cell 0; have q1 : w_.cell? ⟨w.heap.size + 1, 1, none⟩ = some (.slice A1 o.heads.length c1) := hSw.blk.cell 1; have q2 : w_.cell? ⟨w.heap.size + 1, 2, none⟩ = some (.slice A2 o.bufs.length c2) := hSw.blk.cell 2
        go_simp
        (try with_reducible rfl)
      try simp only [Act.put, List.setIfInBounds_toArray, List.set_cons_zero, List.set_cons_succ]
      refine lateTake (i := 1) (v := ?_) rfl (by kernel_rfl) (by decide) (by kernel_rfl) (by kernel_rfl) (by kernel_rfl) (by kernel_rfl) (fun _ _ _ h => h) (by rfl) ?_ hHeld ?_
      rotate_left
      · intro w_ hSw
        (try dsimp only at hSw)
        have q0 : w_.cell? ⟨w.heap.size + 1, 0, none⟩ = some (.string o.sent) := hSw.blk.cell 0; have q1 : w_.cell? ⟨w.heap.size + 1, 1, none⟩ = some (.slice A1 o.heads.length c1) := hSw.blk.cell 1; have q2 : w_.cell? ⟨w.heap.size + 1, 2, none⟩ = some (.slice A2 o.bufs.length c2) := hSw.blk.cell 2
        go_simp
        (try with_reducible rfl)
      try simp only [Act.put, List.setIfInBounds_toArray, List.set_cons_zero, List.set_cons_succ]
      refine lateOne (i := 2) (by kernel_rfl) ?_
      refine lateOp (i := 2) rfl (by rfl) (fun K hK => ?_)
      go_simp
      (go_at_call 26; refine (l4Text_any g B _ hHeld.cur).mono ?_; rintro e wb ⟨⟨tx, htx, rfl⟩, hc1, ho1⟩; have hS_ := hHeld.only hc1 ho1; clear hc1 ho1)
      clear hHeld
      refine hK.out _ _ hS_ (fun hHeld => ?_)
      clear hK K hS_
      try simp only [Act.put, List.setIfInBounds_toArray, List.set_cons_zero, List.set_cons_succ]
      refine lateOne (i := 3) (by kernel_rfl) ?_
      refine lateOp (i := 3) rfl (by rfl) (fun K hK => ?_)
      go_simp
      (go_at_call 45; refine (echo_spec o tx _ _ hHeld.tiny.l1 hHeld.tiny.l2 hHeld.tiny.t12 (by omega) (Nat.le_refl _) hHeld.own.reads).mono ?_; rintro e wd ⟨u, rfl, own, hb⟩; obtain ⟨A3, c3, A4, c4, rfl⟩ := own.form; have hM := hHeld.size; have ht2 := Lib.hid (tiny_echo hHeld.tiny tx); have hS_ := hHeld.below hb; have OWN := Lib.hid own; clear own hb; have f0 : wd.frozen? ⟨w.heap.size + 1, 0, none⟩ = false := hS_.blk.frozen 0; have f1 : wd.frozen? ⟨w.heap.size + 1, 1, none⟩ = false := hS_.blk.frozen 1; have f2 : wd.frozen? ⟨w.heap.size + 1, 2, none⟩ = false := hS_.blk.frozen 2; have k0 : wd.cell? ⟨w.heap.size + 1, 0, none⟩ = some (.string o.sent) := hS_.blk.cell 0; have k1 : wd.cell? ⟨w.heap.size + 1, 1, none⟩ = some (.slice A1 o.heads.length c1) := hS_.blk.cell 1; have k2 : wd.cell? ⟨w.heap.size + 1, 2, none⟩ = some (.slice A2 o.bufs.length c2) := hS_.blk.cell 2)
      clear hHeld
      refine hK.out _ _ hS_ (fun hHeld => ?_)
      clear hK K hS_
      try simp only [Act.put, List.setIfInBounds_toArray, List.set_cons_zero, List.set_cons_succ]
      refine lateTake (i := 4) (v := ?_) rfl (by kernel_rfl) (by decide) (by kernel_rfl) (by kernel_rfl) (by kernel_rfl) (by kernel_rfl) (fun _ _ _ h => h) (by rfl) ?_ hHeld ?_
      rotate_left
      · intro w_ hSw
        (try dsimp only at hSw)
        have q0 : w_.cell? ⟨w.heap.size + 1, 0, none⟩ = some (.string o.sent) := hSw.blk.cell 0; have q1 : w_.cell? ⟨w.heap.size + 1, 1, none⟩ = some (.slice A1 o.heads.length c1) := hSw.blk.cell 1; have q2 : w_.cell? ⟨w.heap.size + 1, 2, none⟩ = some (.slice A2 o.bufs.length c2) := hSw.blk.cell 2
        go_simp
        (try with_reducible rfl)
      try simp only [Act.put, List.setIfInBounds_toArray, List.set_cons_zero, List.set_cons_succ]
      refine lateTake (i := 5) (v := ?_) rfl (by kernel_rfl) (by decide) (by kernel_rfl) (by kernel_rfl) (by kernel_rfl) (by kernel_rfl) (fun _ _ _ h => h) (by rfl) ?_ hHeld ?_
      rotate_left
      · intro w_ hSw
        (try dsimp only at hSw)
        have q0 : w_.cell? ⟨w.heap.size + 1, 0, none⟩ = some (.string o.sent) := hSw.blk.cell 0; have q1 : w_.cell? ⟨w.heap.size + 1, 1, none⟩ = some (.slice A1 o.heads.length c1) := hSw.blk.cell 1; have q2 : w_.cell? ⟨w.heap.size + 1, 2, none⟩ = some (.slice A2 o.bufs.length c2) := hSw.blk.cell 2
        go_simp
        (try with_reducible rfl)
      try simp only [Act.put, List.setIfInBounds_toArray, List.set_cons_zero, List.set_cons_succ]
      refine lateTakeW (i := 6) (v := ?_) rfl (by kernel_rfl) (by decide) (by kernel_rfl) (by kernel_rfl) (fun _ _ _ h => h) (by rfl) ?_ hHeld ?_
      rotate_left
      · intro w_
        go_simp
        (try with_reducible rfl)
      try simp only [Act.put, List.setIfInBounds_toArray, List.set_cons_zero, List.set_cons_succ]
      refine lateOne (i := 7) (by kernel_rfl) ?_
      refine lateLast (i := 7) rfl (by kernel_rfl) (by rfl) (fun K hK => ?_)
      go_simp
      refine hK.out _ _ ?_
      clear hK K
      try simp only [Act.put, List.setIfInBounds_toArray, List.set_cons_zero, List.set_cons_succ]
      refine lateDone (by kernel_rfl) ?_ _
      go_wp2_with fail
      go_roundw
      case rel => exact ⟨k - 1, _, _, _, _, _, by omega, by go_num, hHeld.put _ hM OWN.out ht2.out⟩
      case measure => simp [intOf]; omega

    · have hk0 : ¬ (k : Int) > 0 := by omega
      go_upto_if 51 with (go_at_call 22; refine (l1Once_any g B 9 (by decide) (by decide) _ S.cur).mono ?_; rintro e wa ⟨⟨b, rfl⟩, hc1, ho1⟩; replace S := S.only hc1 ho1; clear hc1 ho1)
      cases b with
      | false =>
        have k0 : wa.cell? ⟨w.heap.size + 1, 0, none⟩ = some (.string o.sent) := S.blk.cell 0
        have k1 : wa.cell? ⟨w.heap.size + 1, 1, none⟩ = some (.slice A1 o.heads.length c1) := S.blk.cell 1
        have k2 : wa.cell? ⟨w.heap.size + 1, 2, none⟩ = some (.slice A2 o.bufs.length c2) := S.blk.cell 2
        have f0 : wa.frozen? ⟨w.heap.size + 1, 0, none⟩ = false := S.blk.frozen 0
        have f1 : wa.frozen? ⟨w.heap.size + 1, 1, none⟩ = false := S.blk.frozen 1
        have f2 : wa.frozen? ⟨w.heap.size + 1, 2, none⟩ = false := S.blk.frozen 2
        have r0 : wa.cell? ⟨w.heap.size, 0, none⟩ = some (.string ⟨#[]⟩) := S.res.cell 0
        have r1 : wa.cell? ⟨w.heap.size, 1, none⟩ = some (.slice none 0 0) := S.res.cell 1
        have r2 : wa.cell? ⟨w.heap.size, 2, none⟩ = some (.slice none 0 0) := S.res.cell 2
        have g0 : wa.frozen? ⟨w.heap.size, 0, none⟩ = false := S.res.frozen 0
        have g1 : wa.frozen? ⟨w.heap.size, 1, none⟩ = false := S.res.frozen 1
        have g2 : wa.frozen? ⟨w.heap.size, 2, none⟩ = false := S.res.frozen 2
        have rl := S.res.lt
        go_wp2_with fail
        refine bodyPost_ret (v := .agg #[.string o.sent, .slice A1 o.heads.length c1, .slice A2 o.bufs.length c2]) (by simp [results, Try.results21, go_sem, r0, r1, r2, g0, g1, g2, rl]) rfl ⟨⟨o, _, S.tiny, rfl, (S.out _ _ _).1⟩, (S.out _ _ _).2⟩
      | true =>
        go_wp2_with fail
        go_loopw [5] (fun sv wr => ∃ s : ByteArray, 1 ≤ s.size ∧ s.size ≤ 6000 ∧ sv = .string s ∧ wr = wa) (fun sv _ => 6000 - szOf sv)
        case atStart => exact ⟨_, by decide, by decide, rfl, rfl⟩
        case round =>
          obtain ⟨s, hs1, hs2, rfl, rfl⟩ := hrel
          by_cases hl : s.size < 2900
          · have hl1 : (s.size : Int) < 2900 := by omega
            go_wp2_with fail
            go_roundw
            case rel => exact ⟨s ++ s, by simp; omega, by simp; omega, rfl, by first | rfl | trivial⟩
            case measure => simp [szOf]; omega
          · have hl1 : ¬ (s.size : Int) < 2900 := by omega
            have k0 : wr.cell? ⟨w.heap.size + 1, 0, none⟩ = some (.string o.sent) := S.blk.cell 0
            have k1 : wr.cell? ⟨w.heap.size + 1, 1, none⟩ = some (.slice A1 o.heads.length c1) := S.blk.cell 1
            have k2 : wr.cell? ⟨w.heap.size + 1, 2, none⟩ = some (.slice A2 o.bufs.length c2) := S.blk.cell 2
            have f0 : wr.frozen? ⟨w.heap.size + 1, 0, none⟩ = false := S.blk.frozen 0
            have f1 : wr.frozen? ⟨w.heap.size + 1, 1, none⟩ = false := S.blk.frozen 1
            have f2 : wr.frozen? ⟨w.heap.size + 1, 2, none⟩ = false := S.blk.frozen 2
            go_wp2_with (go_at_call 45; refine (echo_spec o s _ _ S.tiny.l1 S.tiny.l2 S.tiny.t12 (by omega) (Nat.le_refl _) S.own.reads).mono ?_; rintro e wd ⟨u, rfl, own, hb⟩; obtain ⟨A3, c3, A4, c4, rfl⟩ := own.form; have ht2 := Lib.hid (tiny_echo S.tiny s); have hM := S.size; replace S := S.below hb; have OWN := Lib.hid own; clear own hb; clear k0 k1 k2 f0 f1 f2; have k0 : wd.cell? ⟨w.heap.size + 1, 0, none⟩ = some (.string o.sent) := S.blk.cell 0; have k1 : wd.cell? ⟨w.heap.size + 1, 1, none⟩ = some (.slice A1 o.heads.length c1) := S.blk.cell 1; have k2 : wd.cell? ⟨w.heap.size + 1, 2, none⟩ = some (.slice A2 o.bufs.length c2) := S.blk.cell 2; have f0 : wd.frozen? ⟨w.heap.size + 1, 0, none⟩ = false := S.blk.frozen 0; have f1 : wd.frozen? ⟨w.heap.size + 1, 1, none⟩ = false := S.blk.frozen 1; have f2 : wd.frozen? ⟨w.heap.size + 1, 2, none⟩ = false := S.blk.frozen 2; have r0 : wd.cell? ⟨w.heap.size, 0, none⟩ = some (.string ⟨#[]⟩) := S.res.cell 0; have r1 : wd.cell? ⟨w.heap.size, 1, none⟩ = some (.slice none 0 0) := S.res.cell 1; have r2 : wd.cell? ⟨w.heap.size, 2, none⟩ = some (.slice none 0 0) := S.res.cell 2; have g0 : wd.frozen? ⟨w.heap.size, 0, none⟩ = false := S.res.frozen 0; have g1 : wd.frozen? ⟨w.heap.size, 1, none⟩ = false := S.res.frozen 1; have g2 : wd.frozen? ⟨w.heap.size, 2, none⟩ = false := S.res.frozen 2; have rl := S.res.lt)
            have S2 := S.put _ hM OWN.out ht2.out
            refine bodyPost_ret (v := .agg #[.string (echoF o s).sent, .slice A3 (echoF o s).heads.length c3, .slice A4 (echoF o s).bufs.length c4]) (by simp [results, Try.results21, go_sem, r0, r1, r2, g0, g1, g2, rl]) rfl ⟨⟨echoF o s, _, S2.tiny, rfl, (S2.out _ _ _).1⟩, (S2.out _ _ _).2⟩
end Go.Proofs.Ytnbedjfmhnpjaaa
