/-
  CleanBuffer of both packages: what it returns, in memory of its own. Conditions: none.
-/
import Derived.Test.YtnbedjfmhnpjaaaOutC
import Derived.Test.YtnbedjfmhnpjaaaOutD
namespace Go.Proofs.Ytnbedjfmhnpjaaa
open Go.ChangeShapes Go.WideShapes Go.ChangeAt Go.RowKit Go.Deep Go.Joins
open Go.ChangeMaps (open_string shut_string)
set_option linter.unusedVariables false
set_option linter.unusedSimpArgs false
set_option maxRecDepth 100000

def cleanF (o : Out) : Out := ⟨o.sent, o.heads, o.bufs.take (o.bufs.length - 1)⟩
set_option maxHeartbeats 2000000 in
theorem clean_impl0 (o : Out) (v : Value) (w : World) (l1 : o.heads.length ≤ 1048576) (l2 : o.bufs.length ≤ 1048576) {B : Nat} (hB : B ≤ w.heap.size) (hr : OutR w B v o) (h0 : o.bufs.length = 0) :
    Calls Try.prog 17 #[v] w fun e w' => ∃ u, e = .returned (.tuple #[u, .bool false]) ∧ OutO w' w.heap.size u o ∧ Below w.heap.size w w' := by
  obtain ⟨A1, c1, A2, c2, rfl⟩ := hr.form
  have HR := Lib.hid hr
  clear hr
  have hz : ((o.bufs.length : Int) - 1) < 0 := by omega
  clear h0
  go_enter Try.func17, Try.ntmps17
  go_wp2_with fail
  refine (copy_impl o _ _ l1 l2 (B := B) (by simp; omega) (HR.out.below (((Below.refl w.heap.size w).alloc (Nat.le_refl _) _).alloc (by simp) _) hB)).mono ?_
  rintro e w1 ⟨u1, rfl, own1, hb1⟩
  obtain ⟨A3, c3, A4, c4, rfl⟩ := own1.form
  obtain ⟨h3, h4, he, P1, P2⟩ := own1
  simp only [Value.agg.injEq, Array.mk.injEq, List.cons.injEq, true_and, and_true] at he
  obtain ⟨rfl, rfl⟩ := he
  have O1 := Lib.hid (ownsRow_le P1 (show w.heap.size + 2 ≤ _ by simp))
  have O2 := Lib.hid (ownsRow_le P2 (show w.heap.size + 2 ≤ _ by simp))
  have CP := own_cap P2
  clear P1 P2
  have hc1 := (bcell hb1).1
  have hf1 := (bcell hb1).2
  have qz : w.heap.size + 2 ≤ w1.heap.size := by have := hb1.size; simpa using this
  have hB1 : Below w.heap.size w w1 := (((Below.refl w.heap.size w).alloc (Nat.le_refl _) _).alloc (by simp) _).trans (hb1.mono (by simp; omega))
  have qa : w.heap.size < w1.heap.size := by omega
  have qb : w.heap.size + 1 < w1.heap.size := by omega
  have b0 : w1.cell? ⟨w.heap.size, 0, none⟩ = some (.string o.sent) := by rw [hc1 _ _ (by simp; try omega)]; simp [go_sem]
  have b1 : w1.cell? ⟨w.heap.size, 1, none⟩ = some (.slice A1 o.heads.length c1) := by rw [hc1 _ _ (by simp; try omega)]; simp [go_sem]
  have b2 : w1.cell? ⟨w.heap.size, 2, none⟩ = some (.slice A2 o.bufs.length c2) := by rw [hc1 _ _ (by simp; try omega)]; simp [go_sem]
  have r0 : w1.cell? ⟨w.heap.size + 1, 0, none⟩ = some (.string ⟨#[]⟩) := by rw [hc1 _ _ (by simp; try omega)]; simp [go_sem]
  have r1 : w1.cell? ⟨w.heap.size + 1, 1, none⟩ = some (.slice none 0 0) := by rw [hc1 _ _ (by simp; try omega)]; simp [go_sem]
  have r2 : w1.cell? ⟨w.heap.size + 1, 2, none⟩ = some (.slice none 0 0) := by rw [hc1 _ _ (by simp; try omega)]; simp [go_sem]
  have rf : ∀ i, w1.frozen? ⟨w.heap.size + 1, i, none⟩ = false := fun i => by rw [hf1 _ _ (by simp; try omega)]; simp [go_sem]
  have bf : ∀ i, w1.frozen? ⟨w.heap.size, i, none⟩ = false := fun i => by rw [hf1 _ _ (by simp; try omega)]; simp [go_sem]
  clear hc1 hf1 hb1
  go_wp2_with fail
  refine bodyPost_ret (v := .tuple #[.agg #[.string o.sent, .slice A3 o.heads.length c3, .slice A4 o.bufs.length c4], .bool false]) (by simp [results, Try.results17, go_sem, r0, r1, r2, rf, qa, qb]) rfl ⟨_, rfl, ⟨_, _, rfl, ?_, ?_⟩, ?_⟩
  · refine ownsRow_le (base := w.heap.size + 2) ?_ (by omega)
    repeat (first | (refine ownsRow_setCell_below ?_ (by simp) _) | (refine World.ownsRow.alloc ?_ _))
    exact O1.out
  · refine ownsRow_le (base := w.heap.size + 2) ?_ (by omega)
    repeat (first | (refine ownsRow_setCell_below ?_ (by simp) _) | (refine World.ownsRow.alloc ?_ _))
    exact O2.out
  · repeat (first | exact hB1 | (refine Below.setCell ?_ (by simp; try omega) _) | (refine Below.alloc ?_ (by simp; try omega) _))
set_option maxHeartbeats 2000000 in
theorem clean_impl1 (o : Out) (v : Value) (w : World) (l1 : o.heads.length ≤ 1048576) (l2 : o.bufs.length ≤ 1048576) {B : Nat} (hB : B ≤ w.heap.size) (hr : OutR w B v o) (h0 : 0 < o.bufs.length) :
    Calls Try.prog 17 #[v] w fun e w' => ∃ u, e = .returned (.tuple #[u, .bool true]) ∧ OutO w' w.heap.size u (cleanF o) ∧ Below w.heap.size w w' := by
  obtain ⟨A1, c1, A2, c2, rfl⟩ := hr.form
  have HR := Lib.hid hr
  clear hr
  have hz : ¬ ((o.bufs.length : Int) - 1) < 0 := by omega
  go_enter Try.func17, Try.ntmps17
  go_wp2_with fail
  refine (copy_impl o _ _ l1 l2 (B := B) (by simp; omega) (HR.out.below (((Below.refl w.heap.size w).alloc (Nat.le_refl _) _).alloc (by simp) _) hB)).mono ?_
  rintro e w1 ⟨u1, rfl, own1, hb1⟩
  obtain ⟨A3, c3, A4, c4, rfl⟩ := own1.form
  obtain ⟨h3, h4, he, P1, P2⟩ := own1
  simp only [Value.agg.injEq, Array.mk.injEq, List.cons.injEq, true_and, and_true] at he
  obtain ⟨rfl, rfl⟩ := he
  have O1 := Lib.hid (ownsRow_le P1 (show w.heap.size + 2 ≤ _ by simp))
  have O2 := Lib.hid (ownsRow_le P2 (show w.heap.size + 2 ≤ _ by simp))
  have CP := own_cap P2
  clear P1 P2
  have hc1 := (bcell hb1).1
  have hf1 := (bcell hb1).2
  have qz : w.heap.size + 2 ≤ w1.heap.size := by have := hb1.size; simpa using this
  have hB1 : Below w.heap.size w w1 := (((Below.refl w.heap.size w).alloc (Nat.le_refl _) _).alloc (by simp) _).trans (hb1.mono (by simp; omega))
  have qa : w.heap.size < w1.heap.size := by omega
  have qb : w.heap.size + 1 < w1.heap.size := by omega
  have b0 : w1.cell? ⟨w.heap.size, 0, none⟩ = some (.string o.sent) := by rw [hc1 _ _ (by simp; try omega)]; simp [go_sem]
  have b1 : w1.cell? ⟨w.heap.size, 1, none⟩ = some (.slice A1 o.heads.length c1) := by rw [hc1 _ _ (by simp; try omega)]; simp [go_sem]
  have b2 : w1.cell? ⟨w.heap.size, 2, none⟩ = some (.slice A2 o.bufs.length c2) := by rw [hc1 _ _ (by simp; try omega)]; simp [go_sem]
  have r0 : w1.cell? ⟨w.heap.size + 1, 0, none⟩ = some (.string ⟨#[]⟩) := by rw [hc1 _ _ (by simp; try omega)]; simp [go_sem]
  have r1 : w1.cell? ⟨w.heap.size + 1, 1, none⟩ = some (.slice none 0 0) := by rw [hc1 _ _ (by simp; try omega)]; simp [go_sem]
  have r2 : w1.cell? ⟨w.heap.size + 1, 2, none⟩ = some (.slice none 0 0) := by rw [hc1 _ _ (by simp; try omega)]; simp [go_sem]
  have rf : ∀ i, w1.frozen? ⟨w.heap.size + 1, i, none⟩ = false := fun i => by rw [hf1 _ _ (by simp; try omega)]; simp [go_sem]
  have bf : ∀ i, w1.frozen? ⟨w.heap.size, i, none⟩ = false := fun i => by rw [hf1 _ _ (by simp; try omega)]; simp [go_sem]
  clear hc1 hf1 hb1
  go_wp2_with fail
  refine bodyPost_ret (v := .tuple #[.agg #[.string o.sent, .slice A3 o.heads.length c3, .slice A4 (o.bufs.length - 1) c4], .bool true]) (by simp [results, Try.results17, go_sem, r0, r1, r2, rf, qa, qb]) rfl ⟨_, rfl, ⟨_, _, rfl, ?_, ?_⟩, ?_⟩
  · refine ownsRow_le (base := w.heap.size + 2) ?_ (by omega)
    repeat (first | (refine ownsRow_setCell_below ?_ (by simp) _) | (refine World.ownsRow.alloc ?_ _))
    exact O1.out
  · refine ownsRow_le (base := w.heap.size + 2) ?_ (by omega)
    repeat (first | (refine ownsRow_setCell_below ?_ (by simp) _) | (refine World.ownsRow.alloc ?_ _))
    have := own_take O2.out (m := o.bufs.length - 1) (by omega)
    show w1.ownsRow _ _ 2 _ (o.bufs.take (o.bufs.length - 1)).length (FBuffer.flat (o.bufs.take (o.bufs.length - 1)))
    rw [List.length_take, Nat.min_eq_left (by omega), FBuffer.flat, flat_take FBuffer.len]
    exact this
  · repeat (first | exact hB1 | (refine Below.setCell ?_ (by simp; try omega) _) | (refine Below.alloc ?_ (by simp; try omega) _))
theorem clean_impl (o : Out) (v : Value) (w : World) (l1 : o.heads.length ≤ 1048576) (l2 : o.bufs.length ≤ 1048576) {B : Nat} (hB : B ≤ w.heap.size) (hr : OutR w B v o) :
    Calls Try.prog 17 #[v] w fun e w' => ∃ u, e = .returned (.tuple #[u, .bool (btB o)]) ∧ OutO w' w.heap.size u (cleanF o) ∧ Below w.heap.size w w' := by
  by_cases h0 : o.bufs.length = 0
  · have he0 : o.bufs = [] := List.eq_nil_of_length_eq_zero h0
    have HS : cleanF o = o := by cases o with | mk a b c => unfold cleanF; simp only at he0; subst he0; rfl
    have HB : btB o = false := by unfold btB; rw [he0]; rfl
    rw [HS, HB]
    exact clean_impl0 o v w l1 l2 hB hr h0
  · have hne : o.bufs.isEmpty = false := by cases h : o.bufs with | nil => rw [h] at h0; exact absurd rfl h0 | cons a r => rfl
    have HB : btB o = true := by unfold btB; rw [hne]; rfl
    rw [HB]
    exact clean_impl1 o v w l1 l2 hB hr (by omega)
set_option maxHeartbeats 2000000 in
theorem clean_spec0 (o : Out) (v : Value) (w : World) (l1 : o.heads.length ≤ 1048576) (l2 : o.bufs.length ≤ 1048576) {B : Nat} (hB : B ≤ w.heap.size) (hr : OutR w B v o) (h0 : o.bufs.length = 0) :
    Calls Try.prog 57 #[v] w fun e w' => ∃ u, e = .returned (.tuple #[u, .bool false]) ∧ OutO w' w.heap.size u o ∧ Below w.heap.size w w' := by
  obtain ⟨A1, c1, A2, c2, rfl⟩ := hr.form
  have HR := Lib.hid hr
  clear hr
  have hz : ((o.bufs.length : Int) == 0) = true := by rw [h0]; rfl
  clear h0
  go_enter Try.func57, Try.ntmps57
  go_wp2_with fail
  refine (copy_spec o _ _ l1 l2 (B := B) (by simp; omega) (HR.out.below (((Below.refl w.heap.size w).alloc (Nat.le_refl _) _).alloc (by simp) _) hB)).mono ?_
  rintro e w1 ⟨u1, rfl, own1, hb1⟩
  obtain ⟨A3, c3, A4, c4, rfl⟩ := own1.form
  obtain ⟨h3, h4, he, P1, P2⟩ := own1
  simp only [Value.agg.injEq, Array.mk.injEq, List.cons.injEq, true_and, and_true] at he
  obtain ⟨rfl, rfl⟩ := he
  have O1 := Lib.hid (ownsRow_le P1 (show w.heap.size + 2 ≤ _ by simp))
  have O2 := Lib.hid (ownsRow_le P2 (show w.heap.size + 2 ≤ _ by simp))
  have CP := own_cap P2
  clear P1 P2
  have hc1 := (bcell hb1).1
  have hf1 := (bcell hb1).2
  have qz : w.heap.size + 2 ≤ w1.heap.size := by have := hb1.size; simpa using this
  have hB1 : Below w.heap.size w w1 := (((Below.refl w.heap.size w).alloc (Nat.le_refl _) _).alloc (by simp) _).trans (hb1.mono (by simp; omega))
  have qa : w.heap.size < w1.heap.size := by omega
  have qb : w.heap.size + 1 < w1.heap.size := by omega
  have b0 : w1.cell? ⟨w.heap.size, 0, none⟩ = some (.string o.sent) := by rw [hc1 _ _ (by simp; try omega)]; simp [go_sem]
  have b1 : w1.cell? ⟨w.heap.size, 1, none⟩ = some (.slice A1 o.heads.length c1) := by rw [hc1 _ _ (by simp; try omega)]; simp [go_sem]
  have b2 : w1.cell? ⟨w.heap.size, 2, none⟩ = some (.slice A2 o.bufs.length c2) := by rw [hc1 _ _ (by simp; try omega)]; simp [go_sem]
  have r0 : w1.cell? ⟨w.heap.size + 1, 0, none⟩ = some (.string ⟨#[]⟩) := by rw [hc1 _ _ (by simp; try omega)]; simp [go_sem]
  have r1 : w1.cell? ⟨w.heap.size + 1, 1, none⟩ = some (.slice none 0 0) := by rw [hc1 _ _ (by simp; try omega)]; simp [go_sem]
  have r2 : w1.cell? ⟨w.heap.size + 1, 2, none⟩ = some (.slice none 0 0) := by rw [hc1 _ _ (by simp; try omega)]; simp [go_sem]
  have rf : ∀ i, w1.frozen? ⟨w.heap.size + 1, i, none⟩ = false := fun i => by rw [hf1 _ _ (by simp; try omega)]; simp [go_sem]
  have bf : ∀ i, w1.frozen? ⟨w.heap.size, i, none⟩ = false := fun i => by rw [hf1 _ _ (by simp; try omega)]; simp [go_sem]
  clear hc1 hf1 hb1
  go_wp2_with fail
  refine bodyPost_ret (v := .tuple #[.agg #[.string o.sent, .slice A3 o.heads.length c3, .slice A4 o.bufs.length c4], .bool false]) (by simp [results, Try.results57, go_sem, r0, r1, r2, rf, qa, qb]) rfl ⟨_, rfl, ⟨_, _, rfl, ?_, ?_⟩, ?_⟩
  · refine ownsRow_le (base := w.heap.size + 2) ?_ (by omega)
    repeat (first | (refine ownsRow_setCell_below ?_ (by simp) _) | (refine World.ownsRow.alloc ?_ _))
    exact O1.out
  · refine ownsRow_le (base := w.heap.size + 2) ?_ (by omega)
    repeat (first | (refine ownsRow_setCell_below ?_ (by simp) _) | (refine World.ownsRow.alloc ?_ _))
    exact O2.out
  · repeat (first | exact hB1 | (refine Below.setCell ?_ (by simp; try omega) _) | (refine Below.alloc ?_ (by simp; try omega) _))
set_option maxHeartbeats 2000000 in
theorem clean_spec1 (o : Out) (v : Value) (w : World) (l1 : o.heads.length ≤ 1048576) (l2 : o.bufs.length ≤ 1048576) {B : Nat} (hB : B ≤ w.heap.size) (hr : OutR w B v o) (h0 : 0 < o.bufs.length) :
    Calls Try.prog 57 #[v] w fun e w' => ∃ u, e = .returned (.tuple #[u, .bool true]) ∧ OutO w' w.heap.size u (cleanF o) ∧ Below w.heap.size w w' := by
  obtain ⟨A1, c1, A2, c2, rfl⟩ := hr.form
  have HR := Lib.hid hr
  clear hr
  have hz : ((o.bufs.length : Int) == 0) = false := by rw [beq_eq_false_iff_ne]; omega
  go_enter Try.func57, Try.ntmps57
  go_wp2_with fail
  refine (copy_spec o _ _ l1 l2 (B := B) (by simp; omega) (HR.out.below (((Below.refl w.heap.size w).alloc (Nat.le_refl _) _).alloc (by simp) _) hB)).mono ?_
  rintro e w1 ⟨u1, rfl, own1, hb1⟩
  obtain ⟨A3, c3, A4, c4, rfl⟩ := own1.form
  obtain ⟨h3, h4, he, P1, P2⟩ := own1
  simp only [Value.agg.injEq, Array.mk.injEq, List.cons.injEq, true_and, and_true] at he
  obtain ⟨rfl, rfl⟩ := he
  have O1 := Lib.hid (ownsRow_le P1 (show w.heap.size + 2 ≤ _ by simp))
  have O2 := Lib.hid (ownsRow_le P2 (show w.heap.size + 2 ≤ _ by simp))
  have CP := own_cap P2
  clear P1 P2
  have hc1 := (bcell hb1).1
  have hf1 := (bcell hb1).2
  have qz : w.heap.size + 2 ≤ w1.heap.size := by have := hb1.size; simpa using this
  have hB1 : Below w.heap.size w w1 := (((Below.refl w.heap.size w).alloc (Nat.le_refl _) _).alloc (by simp) _).trans (hb1.mono (by simp; omega))
  have qa : w.heap.size < w1.heap.size := by omega
  have qb : w.heap.size + 1 < w1.heap.size := by omega
  have b0 : w1.cell? ⟨w.heap.size, 0, none⟩ = some (.string o.sent) := by rw [hc1 _ _ (by simp; try omega)]; simp [go_sem]
  have b1 : w1.cell? ⟨w.heap.size, 1, none⟩ = some (.slice A1 o.heads.length c1) := by rw [hc1 _ _ (by simp; try omega)]; simp [go_sem]
  have b2 : w1.cell? ⟨w.heap.size, 2, none⟩ = some (.slice A2 o.bufs.length c2) := by rw [hc1 _ _ (by simp; try omega)]; simp [go_sem]
  have r0 : w1.cell? ⟨w.heap.size + 1, 0, none⟩ = some (.string ⟨#[]⟩) := by rw [hc1 _ _ (by simp; try omega)]; simp [go_sem]
  have r1 : w1.cell? ⟨w.heap.size + 1, 1, none⟩ = some (.slice none 0 0) := by rw [hc1 _ _ (by simp; try omega)]; simp [go_sem]
  have r2 : w1.cell? ⟨w.heap.size + 1, 2, none⟩ = some (.slice none 0 0) := by rw [hc1 _ _ (by simp; try omega)]; simp [go_sem]
  have rf : ∀ i, w1.frozen? ⟨w.heap.size + 1, i, none⟩ = false := fun i => by rw [hf1 _ _ (by simp; try omega)]; simp [go_sem]
  have bf : ∀ i, w1.frozen? ⟨w.heap.size, i, none⟩ = false := fun i => by rw [hf1 _ _ (by simp; try omega)]; simp [go_sem]
  clear hc1 hf1 hb1
  go_wp2_with fail
  refine bodyPost_ret (v := .tuple #[.agg #[.string o.sent, .slice A3 o.heads.length c3, .slice A4 (o.bufs.length - 1) c4], .bool true]) (by simp [results, Try.results57, go_sem, r0, r1, r2, rf, qa, qb]) rfl ⟨_, rfl, ⟨_, _, rfl, ?_, ?_⟩, ?_⟩
  · refine ownsRow_le (base := w.heap.size + 2) ?_ (by omega)
    repeat (first | (refine ownsRow_setCell_below ?_ (by simp) _) | (refine World.ownsRow.alloc ?_ _))
    exact O1.out
  · refine ownsRow_le (base := w.heap.size + 2) ?_ (by omega)
    repeat (first | (refine ownsRow_setCell_below ?_ (by simp) _) | (refine World.ownsRow.alloc ?_ _))
    have := own_take O2.out (m := o.bufs.length - 1) (by omega)
    show w1.ownsRow _ _ 2 _ (o.bufs.take (o.bufs.length - 1)).length (FBuffer.flat (o.bufs.take (o.bufs.length - 1)))
    rw [List.length_take, Nat.min_eq_left (by omega), FBuffer.flat, flat_take FBuffer.len]
    exact this
  · repeat (first | exact hB1 | (refine Below.setCell ?_ (by simp; try omega) _) | (refine Below.alloc ?_ (by simp; try omega) _))
theorem clean_spec (o : Out) (v : Value) (w : World) (l1 : o.heads.length ≤ 1048576) (l2 : o.bufs.length ≤ 1048576) {B : Nat} (hB : B ≤ w.heap.size) (hr : OutR w B v o) :
    Calls Try.prog 57 #[v] w fun e w' => ∃ u, e = .returned (.tuple #[u, .bool (btB o)]) ∧ OutO w' w.heap.size u (cleanF o) ∧ Below w.heap.size w w' := by
  by_cases h0 : o.bufs.length = 0
  · have he0 : o.bufs = [] := List.eq_nil_of_length_eq_zero h0
    have HS : cleanF o = o := by cases o with | mk a b c => unfold cleanF; simp only at he0; subst he0; rfl
    have HB : btB o = false := by unfold btB; rw [he0]; rfl
    rw [HS, HB]
    exact clean_spec0 o v w l1 l2 hB hr h0
  · have hne : o.bufs.isEmpty = false := by cases h : o.bufs with | nil => rw [h] at h0; exact absurd rfl h0 | cons a r => rfl
    have HB : btB o = true := by unfold btB; rw [hne]; rfl
    rw [HB]
    exact clean_spec1 o v w l1 l2 hB hr (by omega)
end Go.Proofs.Ytnbedjfmhnpjaaa
