/-
  Copies of outputs; CleanBuffer and StartBuffer of both packages: what they return, in memory of their own. Conditions: none.
-/
import Derived.Test.YtnbedjfmhnpjaaaOutB
import Derived.Test.YtnbedjfmhnpjaaaStr
namespace Go.Proofs.Ytnbedjfmhnpjaaa
open Go.ChangeShapes Go.WideShapes Go.ChangeAt Go.RowKit Go.Deep Go.Joins
open Go.ChangeMaps (open_string shut_string)
set_option linter.unusedVariables false
set_option maxRecDepth 100000
set_option linter.unusedSimpArgs false

theorem OutR.form {w : World} {B : Nat} {v : Value} {o : Out} (h : OutR w B v o) : ∃ A1 c1 A2 c2, v = .agg #[.string o.sent, .slice A1 o.heads.length c1, .slice A2 o.bufs.length c2] := by
  obtain ⟨hv, bv, rfl, h1, h2⟩ := h
  obtain ⟨A1, c1, rfl⟩ := h1.form
  obtain ⟨A2, c2, rfl⟩ := h2.form
  exact ⟨A1, c1, A2, c2, rfl⟩
set_option maxHeartbeats 1000000 in
theorem copy_impl (o : Out) (v : Value) (w : World) (l1 : o.heads.length ≤ 1048576) (l2 : o.bufs.length ≤ 1048576) {B : Nat} (hB : B ≤ w.heap.size) (hr : OutR w B v o) :
    Calls Try.prog 27 #[v] w fun e w' => ∃ u, e = .returned u ∧ OutO w' w.heap.size u o ∧ Below w.heap.size w w' := by
  obtain ⟨hv, bv, rfl, r1, r2⟩ := hr
  obtain ⟨A1, c1, rfl⟩ := r1.form
  obtain ⟨A2, c2, rfl⟩ := r2.form
  have R1 := Lib.hid r1
  have R2 := Lib.hid r2
  clear r1 r2
  go_enter Try.func27, Try.ntmps27
  go_wp2_with fail
  have hB0 : Below w.heap.size w ((w.alloc (.cells #[.string o.sent, .slice A1 o.heads.length c1, .slice A2 o.bufs.length c2] 27)).alloc (.cells #[.string ⟨#[]⟩, .slice none 0 0, .slice none 0 0] 27)) := ((Below.refl _ _).alloc (Nat.le_refl _) _).alloc (by simp) _
  obtain ⟨W0, hW0, z0, z1, z2, s0, s1, s2, q0, q1, q2⟩ : ∃ W0 : World, W0 = (w.alloc (.cells #[.string o.sent, .slice A1 o.heads.length c1, .slice A2 o.bufs.length c2] 27)).alloc (.cells #[.string ⟨#[]⟩, .slice none 0 0, .slice none 0 0] 27) ∧
      W0.cell? ⟨w.heap.size, 0, none⟩ = some (.string o.sent) ∧ W0.cell? ⟨w.heap.size, 1, none⟩ = some (.slice A1 o.heads.length c1) ∧ W0.cell? ⟨w.heap.size, 2, none⟩ = some (.slice A2 o.bufs.length c2) ∧
      W0.cell? ⟨w.heap.size + 1, 0, none⟩ = some (.string ⟨#[]⟩) ∧ W0.cell? ⟨w.heap.size + 1, 1, none⟩ = some (.slice none 0 0) ∧ W0.cell? ⟨w.heap.size + 1, 2, none⟩ = some (.slice none 0 0) ∧
      w.heap.size + 2 ≤ W0.heap.size ∧ Below w.heap.size w W0 ∧ ∀ i, W0.frozen? ⟨w.heap.size + 1, i, none⟩ = false := by
    refine ⟨_, rfl, ?_, ?_, ?_, ?_, ?_, ?_, by simp, hB0, fun i => ?_⟩
    all_goals simp [go_sem]
  rw [← hW0]
  have HW := Lib.hid hW0
  clear hW0 hB0
  have y1 : Below w.heap.size w W0.drew := q1.drew
  have U1 := Lib.hid (R1.out.below y1 hB)
  have U2 := Lib.hid (R2.out.below y1 hB)
  go_region_held3 (fun w_ => w_.cell? ⟨w.heap.size, 0, none⟩ = some (.string o.sent) ∧ w_.cell? ⟨w.heap.size, 1, none⟩ = some (.slice A1 o.heads.length c1) ∧ w_.cell? ⟨w.heap.size, 2, none⟩ = some (.slice A2 o.bufs.length c2))
    (first
      | exact ⟨z0, z1, z2⟩
      | exact ⟨((bcell hb2).1 _ _ (by omega)).trans (((bcell hb1).1 _ _ (by simp; omega)).trans z0), ((bcell hb2).1 _ _ (by omega)).trans (((bcell hb1).1 _ _ (by simp; omega)).trans z1), ((bcell hb2).1 _ _ (by omega)).trans (((bcell hb1).1 _ _ (by simp; omega)).trans z2)⟩
      | exact ⟨((bcell hb1).1 _ _ (by simp; omega)).trans z0, ((bcell hb1).1 _ _ (by simp; omega)).trans z1, ((bcell hb1).1 _ _ (by simp; omega)).trans z2⟩
      | go_keep)
    ((first
      | (go_at_call 47
         refine (cloneHeader_any o.heads _ _ l1 (B := B) (by simp; omega) U1.out).mono ?_
         rintro e w1 ⟨A3, c3, rfl, own1, hb1⟩
         have O1 := Lib.hid own1
         have hz1 := hb1.size
         simp at hz1
         have x1 := hb1.mono (show w.heap.size + 2 ≤ W0.drew.heap.size by simp; omega)
         have V2 := Lib.hid (U2.out.below x1 (by omega))
         have g0 := ((bcell x1).1 _ 0 (by omega)).trans s0
         have g1 := ((bcell x1).1 _ 1 (by omega)).trans s1
         have g2 := ((bcell x1).1 _ 2 (by omega)).trans s2
         have f1 := fun i => ((bcell x1).2 (w.heap.size + 1) i (by omega)).trans (q2 i)
         clear own1)
      | (go_at_call 48
         refine (cloneBuffer_any o.bufs _ _ l2 (B := B) (by omega) V2.out).mono ?_
         rintro e w2 ⟨A4, c4, rfl, own2, hb2⟩
         have O2 := Lib.hid own2
         have hz2 := hb2.size
         have k0 := ((bcell hb2).1 _ 0 (by omega)).trans g0
         have k1 := ((bcell hb2).1 _ 1 (by omega)).trans g1
         have k2 := ((bcell hb2).1 _ 2 (by omega)).trans g2
         have f2 := fun i => ((bcell hb2).2 (w.heap.size + 1) i (by omega)).trans (f1 i)
         clear own2)))
  go_wp2_with fail
  refine bodyPost_ret (v := .agg #[.string o.sent, .slice A3 o.heads.length c3, .slice A4 o.bufs.length c4]) (by simp [results, Try.results27, go_sem, k0, k1, k2]) rfl ⟨_, rfl, ⟨_, _, rfl, ?_, ?_⟩, ?_⟩
  · refine ownsRow_le (base := w.heap.size + 2) ?_ (by omega)
    repeat (refine ownsRow_setCell_below ?_ (by simp) _)
    exact ownsRow_le (own_below O1.out hb2 (Nat.le_refl _)) (by simp; omega)
  · refine ownsRow_le (base := w.heap.size + 2) ?_ (by omega)
    repeat (refine ownsRow_setCell_below ?_ (by simp) _)
    exact ownsRow_le O2.out (by omega)
  · repeat (refine Below.setCell ?_ (by simp) _)
    exact (y1.trans (x1.mono (by omega))).trans (hb2.mono (by omega))

theorem own_empty' (w : World) (g : Nat) (e : TypeId) (k : Nat) (hg : w.heap.size = g) : (w.alloc (.cells #[] e)).ownsRow g e k (.slice (some ⟨g, 0, none⟩) 0 0) 0 [] := by
  subst hg
  exact own_empty w e k
set_option maxHeartbeats 1000000 in
theorem copy_spec (o : Out) (v : Value) (w : World) (l1 : o.heads.length ≤ 1048576) (l2 : o.bufs.length ≤ 1048576) {B : Nat} (hB : B ≤ w.heap.size) (hr : OutR w B v o) :
    Calls Try.prog 46 #[v] w fun e w' => ∃ u, e = .returned u ∧ OutO w' w.heap.size u o ∧ Below w.heap.size w w' := by
  obtain ⟨hv, bv, rfl, r1, r2⟩ := hr
  obtain ⟨A1, c1, rfl⟩ := r1.form
  obtain ⟨A2, c2, rfl⟩ := r2.form
  have R1 := Lib.hid r1
  have R2 := Lib.hid r2
  clear r1 r2
  obtain ⟨W3, hW3⟩ : ∃ W3 : World, W3 = ((w.alloc (.cells #[.string o.sent, .slice A1 o.heads.length c1, .slice A2 o.bufs.length c2] 27)).alloc (.cells #[.string ⟨#[]⟩, .slice none 0 0, .slice none 0 0] 27)) := ⟨_, rfl⟩
  have hB3 : Below w.heap.size w W3 := by rw [hW3]; exact ((Below.refl _ _).alloc (Nat.le_refl _) _).alloc (by simp) _
  have q0 : w.heap.size + 2 ≤ W3.heap.size := by rw [hW3]; simp
  have z0 : W3.cell? ⟨w.heap.size, 0, none⟩ = some (.string o.sent) := by rw [hW3]; simp [go_sem]
  have z1 : W3.cell? ⟨w.heap.size, 1, none⟩ = some (.slice A1 o.heads.length c1) := by rw [hW3]; simp [go_sem]
  have z2 : W3.cell? ⟨w.heap.size, 2, none⟩ = some (.slice A2 o.bufs.length c2) := by rw [hW3]; simp [go_sem]
  have s0 : W3.cell? ⟨w.heap.size + 1, 0, none⟩ = some (.string ⟨#[]⟩) := by rw [hW3]; simp [go_sem]
  have s1 : W3.cell? ⟨w.heap.size + 1, 1, none⟩ = some (.slice none 0 0) := by rw [hW3]; simp [go_sem]
  have s2 : W3.cell? ⟨w.heap.size + 1, 2, none⟩ = some (.slice none 0 0) := by rw [hW3]; simp [go_sem]
  have f0 : ∀ i, W3.frozen? ⟨w.heap.size, i, none⟩ = false := by intro i; rw [hW3]; simp [go_sem]
  have f1 : ∀ i, W3.frozen? ⟨w.heap.size + 1, i, none⟩ = false := by intro i; rw [hW3]; simp [go_sem]
  have tok1 : True := trivial
  have qa : w.heap.size < W3.heap.size := by omega
  have qb : w.heap.size + 1 < W3.heap.size := by omega
  go_enter Try.func46, Try.ntmps46
  go_upto_region 1 with (fail)
  rw [← hW3]
  have HW := Lib.hid hW3
  clear hW3
  go_wp2_with (first
    | (at_builtin; have _t := tok1; go_must (refine wpList_append_rd _ rfl (.tmp 3) (.tmp 5) _ rfl W3.heap.size _ _ _ 32 Try.underlying24 infoHeader rfl (by omega) (.slice (some ⟨W3.heap.size, 0, none⟩) 0 0) 0 [] rfl (own_empty W3 _ _) B _ o.heads.length _ _ rfl (R1.out.below (hB3.alloc hB3.size _) hB) (FHeader.one o.heads) (by unfold maxLen; omega) (by omega) (by simp) ?_); intro v1 w1 hown1 hg1 hat1; obtain ⟨A3, c3, rfl⟩ := own_form hown1; rw [Nat.zero_add, List.nil_append] at hown1; go_must (have t1 : Below (w.heap.size + 2) W3 w1 := (Below.refl (w.heap.size + 2) W3).alloc q0 _ |>.grown hg1 (by simp; omega) (fun k hk => Nat.le_trans q0 (Nat.le_of_eq (by simpa [Value.ownBlock] using hk)))); obtain ⟨hc1, hg2⟩ := bcell t1; have za : w.heap.size < w1.heap.size := Nat.lt_of_lt_of_le qa t1.size; have zb : w.heap.size + 1 < w1.heap.size := Nat.lt_of_lt_of_le qb t1.size; have hBx : Below w.heap.size w (w1.setCell ⟨w.heap.size, 1, none⟩ (.slice A3 o.heads.length c3)) := (hB3.trans (t1.mono (Nat.le_add_right _ _))).setCell (Nat.le_refl _) _; have OE := Lib.hid (own_empty' (w1.setCell ⟨w.heap.size, 1, none⟩ (.slice A3 o.heads.length c3)) w1.heap.size 61 2 (by simp)); clear tok1)
    | (at_builtin; go_must (refine wpList_append_rd _ rfl (.tmp 8) (.tmp 10) _ rfl w1.heap.size _ _ _ 24 Try.underlying25 infoBuffer rfl (by omega) (.slice (some ⟨w1.heap.size, 0, none⟩) 0 0) 0 [] rfl OE.out B _ o.bufs.length _ _ rfl (R2.out.below (hBx.alloc hBx.size _) hB) (FBuffer.one o.bufs) (by unfold maxLen; omega) (by omega) (by simp) ?_); intro v2 w2 hown2 hgr2 hat2; obtain ⟨A4, c4, rfl⟩ := own_form hown2; rw [Nat.zero_add, List.nil_append] at hown2; go_must (have t2 : Below w1.heap.size (w1.setCell ⟨w.heap.size, 1, none⟩ (.slice A3 o.heads.length c3)) w2 := (Below.refl w1.heap.size (w1.setCell ⟨w.heap.size, 1, none⟩ (.slice A3 o.heads.length c3))).alloc (by simp) _ |>.grown hgr2 (by simp) (fun k hk => Nat.le_of_eq (by simpa [Value.ownBlock] using hk))); obtain ⟨hc2, hf2⟩ := bcell t2))
  refine bodyPost_ret (v := .agg #[.string o.sent, .slice A3 o.heads.length c3, .slice A4 o.bufs.length c4]) (by simp [results, Try.results46, go_sem, hc2, hc1, z0, s0, s1, s2, za, zb]) rfl ⟨_, rfl, ⟨_, _, rfl, ?_, ?_⟩, ?_⟩
  · refine ownsRow_le (base := w.heap.size + 2) ?_ (by omega)
    repeat (refine ownsRow_setCell_below ?_ (by simp) _)
    exact own_below (ownsRow_setCell_below (ownsRow_le hown1 q0) (by simp) _) t2 (by simp)
  · refine ownsRow_le (base := w.heap.size + 2) ?_ (by omega)
    repeat (refine ownsRow_setCell_below ?_ (by simp) _)
    exact ownsRow_le hown2 (by have := t1.size; omega)
  · repeat (refine Below.setCell ?_ (by simp) _)
    exact hBx.trans (t2.mono (by omega))
end Go.Proofs.Ytnbedjfmhnpjaaa
