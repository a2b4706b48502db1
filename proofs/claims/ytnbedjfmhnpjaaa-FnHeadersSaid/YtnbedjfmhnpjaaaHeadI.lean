/-
  SetHeader of one package: what it returns, in memory of its own. Conditions: none.
-/
import Derived.Test.YtnbedjfmhnpjaaaHeadA
import Derived.Deep.DeepMust
namespace Go.Proofs.Ytnbedjfmhnpjaaa
open Go.ChangeShapes Go.WideShapes Go.ChangeAt Go.RowKit Go.Deep Go.Joins
open Go.ChangeMaps (open_string shut_string)
set_option linter.unusedVariables false
set_option linter.unusedSimpArgs false
set_option maxRecDepth 100000
set_option maxHeartbeats 4000000 in
theorem head_impl_1 (o : Out) (nm vl : ByteArray) (v : Value) (w : World) (l1 : o.heads.length ≤ 1048576) (l2 : o.bufs.length ≤ 1048576) (n1 : nm.size ≤ 1000000000) (n2 : vl.size ≤ 1000000000) {B : Nat} (hB0 : B ≤ w.heap.size) (hr : OutR w B v o) (h1 : o.sent.toList.isEmpty = false) :
    Calls Try.prog 7 #[v, .string nm, .string vl] w fun e w' => ∃ u, e = .returned (.tuple #[u, .int .i64 1]) ∧ OutO w' w.heap.size u o ∧ Below w.heap.size w w' := by
  obtain ⟨A1, c1, A2, c2, rfl⟩ := hr.form
  have HR := Lib.hid hr
  clear hr
  obtain ⟨i0, hi0⟩ : ∃ i0, fidx FHeader.a0 o.heads nm = i0 := ⟨_, rfl⟩
  have IX := Lib.hid hi0
  clear hi0
  go_enter Try.func7, Try.ntmps7
  go_wp2_with fail
  refine calls_world _ (fun X => Bx X w.heap.size 27 (.string o.sent) (.slice A1 o.heads.length c1) (.slice A2 o.bufs.length c2) ∧ X.cell? ⟨w.heap.size + 1, 0, none⟩ = some (.string nm) ∧ Bx X (w.heap.size + 2) 27 (.string ⟨#[]⟩) (.slice none 0 0) (.slice none 0 0) ∧ Below w.heap.size w X ∧ w.heap.size + 3 ≤ X.heap.size) ⟨((Bx.new _ _ _ _ _).alloc _).alloc _, by simp [go_sem], by simpa using Bx.new ((w.alloc _).alloc _) _ _ _ _, (((Below.refl _ _).alloc (Nat.le_refl _) _).alloc (by simp) _).alloc (by simp; try omega) _, by simp⟩ ?_
  rintro X0 ⟨ba, bn, bz, hB, hz0⟩
  refine (copy_impl o _ _ l1 l2 (B := B) (by omega) (HR.out.below hB hB0)).mono ?_
  rintro e w1 ⟨u1, rfl, own1, hb1⟩
  obtain ⟨A3, c3, A4, c4, rfl⟩ := own1.form
  have ow := own1.inI
  clear own1
  replace ba := ba.below hb1 (Nat.le_refl _)
  replace bz := bz.below hb1 (Nat.le_refl _)
  replace bn := (hb1.cell (p := ⟨w.heap.size + 1, 0, none⟩) (by show w.heap.size + 1 < X0.heap.size; omega)).trans bn
  replace hB := hB.trans (hb1.mono (by omega))
  have hz1 : X0.heap.size ≤ w1.heap.size := hb1.size
  clear hb1
  have ba0 := ba.cell0
  have ba1 := ba.cell1
  have ba2 := ba.cell2
  have bal := ba.lt
  have baf := fun i => ba.frozen i
  have bz0 := bz.cell0
  have bz1 := bz.cell1
  have bz2 := bz.cell2
  have bzl := bz.lt
  have bzf := fun i => bz.frozen i
  go_wp2_with fail
  clear ba0 ba1 ba2 bal baf bz0 bz1 bz2 bzl bzf
  refine calls_world _ (fun X => Bx X w.heap.size 27 (.string o.sent) (.slice A1 o.heads.length c1) (.slice A2 o.bufs.length c2) ∧ X.cell? ⟨w.heap.size + 1, 0, none⟩ = some (.string nm) ∧ Bx X (w.heap.size + 2) 27 (.string ⟨#[]⟩) (.slice none 0 0) (.slice none 0 0) ∧ Bx X w1.heap.size 27 (.string o.sent) (.slice A3 o.heads.length c3) (.slice A4 o.bufs.length c4) ∧ OutI X X0.heap.size w1.heap.size (.agg #[.string o.sent, .slice A3 o.heads.length c3, .slice A4 o.bufs.length c4]) o ∧ Below w.heap.size w X) ⟨ba.alloc _, (World.cell?_alloc_lt _ _ ⟨w.heap.size + 1, 0, none⟩ (by show w.heap.size + 1 < w1.heap.size; omega)).trans bn, bz.alloc _, Bx.new _ _ _ _ _, ow.alloc _, hB.alloc (by omega) _⟩ ?_
  clear ba bz ow hB bn
  rintro w2 ⟨ba, bn, bz, bo, ow, hB⟩
  have hz2 := bo.lt
  refine (indexHead_any o.heads nm _ _ _ (by omega) (B := B) (by omega) (by omega) bn (HR.out.below hB hB0).heads).mono ?_
  rw [IX.out]
  rintro e w3 ⟨rfl, hb3⟩
  replace ba := ba.below hb3 (Nat.le_refl _)
  replace bz := bz.below hb3 (Nat.le_refl _)
  replace bo := bo.below hb3 (Nat.le_refl _)
  replace bn := (hb3.cell (p := ⟨w.heap.size + 1, 0, none⟩) (by show w.heap.size + 1 < w2.heap.size; omega)).trans bn
  replace ow := ow.below hb3 (Nat.le_refl _)
  replace hB := hB.trans (hb3.mono (by omega))
  have hz3 : w2.heap.size ≤ w3.heap.size := hb3.size
  clear hb3
  have bnl : w.heap.size + 1 < w3.heap.size := by omega
  obtain ⟨h3_, h4_, he, P1, P2, i1, i2⟩ := ow
  simp only [Value.agg.injEq, Array.mk.injEq, List.cons.injEq, true_and, and_true] at he
  obtain ⟨rfl, rfl⟩ := he
  have O1 := Lib.hid P1
  have O2 := Lib.hid P2
  have I1 := Lib.hid i1
  have I2 := Lib.hid i2
  clear P1 P2 i1 i2
  have ba0 := ba.cell0
  have ba1 := ba.cell1
  have ba2 := ba.cell2
  have bal := ba.lt
  have baf := fun i => ba.frozen i
  have bz0 := bz.cell0
  have bz1 := bz.cell1
  have bz2 := bz.cell2
  have bzl := bz.lt
  have bzf := fun i => bz.frozen i
  have bo0 := bo.cell0
  have bo1 := bo.cell1
  have bo2 := bo.cell2
  have bol := bo.lt
  have bof := fun i => bo.frozen i
  go_wp2_with fail
  refine bodyPost_ret (v := .tuple #[.agg #[.string o.sent, .slice A3 o.heads.length c3, .slice A4 o.bufs.length c4], .int .i64 1]) (by simp [results, Try.results7, go_sem, bz0, bz1, bz2, bzl, bzf, bo0, bo1, bo2, bol, bof]; try rfl) rfl ⟨_, rfl, ⟨_, _, rfl, ?_, ?_⟩, ?_⟩
  · exact ownsRow_le (own_set3 O1.out (by omega) _ _ _) (by omega)
  · exact ownsRow_le (own_set3 O2.out (by omega) _ _ _) (by omega)
  · exact below_set3 hB (by omega) _ _ _
set_option maxHeartbeats 4000000 in
theorem head_impl_2 (o : Out) (nm vl : ByteArray) (v : Value) (w : World) (l1 : o.heads.length ≤ 1048576) (l2 : o.bufs.length ≤ 1048576) (n1 : nm.size ≤ 1000000000) (n2 : vl.size ≤ 1000000000) {B : Nat} (hB0 : B ≤ w.heap.size) (hr : OutR w B v o) (h1 : o.sent.toList.isEmpty = true) (h2 : hnF nm = false) :
    Calls Try.prog 7 #[v, .string nm, .string vl] w fun e w' => ∃ u, e = .returned (.tuple #[u, .int .i64 2]) ∧ OutO w' w.heap.size u o ∧ Below w.heap.size w w' := by
  obtain ⟨A1, c1, A2, c2, rfl⟩ := hr.form
  have HR := Lib.hid hr
  clear hr
  have H2 := Lib.hid h2
  clear h2
  obtain ⟨i0, hi0⟩ : ∃ i0, fidx FHeader.a0 o.heads nm = i0 := ⟨_, rfl⟩
  have IX := Lib.hid hi0
  clear hi0
  go_enter Try.func7, Try.ntmps7
  go_wp2_with fail
  refine calls_world _ (fun X => Bx X w.heap.size 27 (.string o.sent) (.slice A1 o.heads.length c1) (.slice A2 o.bufs.length c2) ∧ X.cell? ⟨w.heap.size + 1, 0, none⟩ = some (.string nm) ∧ Bx X (w.heap.size + 2) 27 (.string ⟨#[]⟩) (.slice none 0 0) (.slice none 0 0) ∧ Below w.heap.size w X ∧ w.heap.size + 3 ≤ X.heap.size) ⟨((Bx.new _ _ _ _ _).alloc _).alloc _, by simp [go_sem], by simpa using Bx.new ((w.alloc _).alloc _) _ _ _ _, (((Below.refl _ _).alloc (Nat.le_refl _) _).alloc (by simp) _).alloc (by simp; try omega) _, by simp⟩ ?_
  rintro X0 ⟨ba, bn, bz, hB, hz0⟩
  refine (copy_impl o _ _ l1 l2 (B := B) (by omega) (HR.out.below hB hB0)).mono ?_
  rintro e w1 ⟨u1, rfl, own1, hb1⟩
  obtain ⟨A3, c3, A4, c4, rfl⟩ := own1.form
  have ow := own1.inI
  clear own1
  replace ba := ba.below hb1 (Nat.le_refl _)
  replace bz := bz.below hb1 (Nat.le_refl _)
  replace bn := (hb1.cell (p := ⟨w.heap.size + 1, 0, none⟩) (by show w.heap.size + 1 < X0.heap.size; omega)).trans bn
  replace hB := hB.trans (hb1.mono (by omega))
  have hz1 : X0.heap.size ≤ w1.heap.size := hb1.size
  clear hb1
  have ba0 := ba.cell0
  have ba1 := ba.cell1
  have ba2 := ba.cell2
  have bal := ba.lt
  have baf := fun i => ba.frozen i
  have bz0 := bz.cell0
  have bz1 := bz.cell1
  have bz2 := bz.cell2
  have bzl := bz.lt
  have bzf := fun i => bz.frozen i
  go_wp2_with fail
  clear ba0 ba1 ba2 bal baf bz0 bz1 bz2 bzl bzf
  refine calls_world _ (fun X => Bx X w.heap.size 27 (.string o.sent) (.slice A1 o.heads.length c1) (.slice A2 o.bufs.length c2) ∧ X.cell? ⟨w.heap.size + 1, 0, none⟩ = some (.string nm) ∧ Bx X (w.heap.size + 2) 27 (.string ⟨#[]⟩) (.slice none 0 0) (.slice none 0 0) ∧ Bx X w1.heap.size 27 (.string o.sent) (.slice A3 o.heads.length c3) (.slice A4 o.bufs.length c4) ∧ OutI X X0.heap.size w1.heap.size (.agg #[.string o.sent, .slice A3 o.heads.length c3, .slice A4 o.bufs.length c4]) o ∧ Below w.heap.size w X) ⟨ba.alloc _, (World.cell?_alloc_lt _ _ ⟨w.heap.size + 1, 0, none⟩ (by show w.heap.size + 1 < w1.heap.size; omega)).trans bn, bz.alloc _, Bx.new _ _ _ _ _, ow.alloc _, hB.alloc (by omega) _⟩ ?_
  clear ba bz ow hB bn
  rintro w2 ⟨ba, bn, bz, bo, ow, hB⟩
  have hz2 := bo.lt
  refine (indexHead_any o.heads nm _ _ _ (by omega) (B := B) (by omega) (by omega) bn (HR.out.below hB hB0).heads).mono ?_
  rw [IX.out]
  rintro e w3 ⟨rfl, hb3⟩
  replace ba := ba.below hb3 (Nat.le_refl _)
  replace bz := bz.below hb3 (Nat.le_refl _)
  replace bo := bo.below hb3 (Nat.le_refl _)
  replace bn := (hb3.cell (p := ⟨w.heap.size + 1, 0, none⟩) (by show w.heap.size + 1 < w2.heap.size; omega)).trans bn
  replace ow := ow.below hb3 (Nat.le_refl _)
  replace hB := hB.trans (hb3.mono (by omega))
  have hz3 : w2.heap.size ≤ w3.heap.size := hb3.size
  clear hb3
  have bnl : w.heap.size + 1 < w3.heap.size := by omega
  obtain ⟨h3_, h4_, he, P1, P2, i1, i2⟩ := ow
  simp only [Value.agg.injEq, Array.mk.injEq, List.cons.injEq, true_and, and_true] at he
  obtain ⟨rfl, rfl⟩ := he
  have O1 := Lib.hid P1
  have O2 := Lib.hid P2
  have I1 := Lib.hid i1
  have I2 := Lib.hid i2
  clear P1 P2 i1 i2
  have ba0 := ba.cell0
  have ba1 := ba.cell1
  have ba2 := ba.cell2
  have bal := ba.lt
  have baf := fun i => ba.frozen i
  have bz0 := bz.cell0
  have bz1 := bz.cell1
  have bz2 := bz.cell2
  have bzl := bz.lt
  have bzf := fun i => bz.frozen i
  have bo0 := bo.cell0
  have bo1 := bo.cell1
  have bo2 := bo.cell2
  have bol := bo.lt
  have bof := fun i => bo.frozen i
  go_wp2_with (go_at_call 30; refine (hname_impl nm _ (by omega)).mono ?_; rw [H2.out]; rintro e w' ⟨rfl, rfl⟩)
  refine bodyPost_ret (v := .tuple #[.agg #[.string o.sent, .slice A3 o.heads.length c3, .slice A4 o.bufs.length c4], .int .i64 2]) (by simp [results, Try.results7, go_sem, bz0, bz1, bz2, bzl, bzf, bo0, bo1, bo2, bol, bof]; try rfl) rfl ⟨_, rfl, ⟨_, _, rfl, ?_, ?_⟩, ?_⟩
  · exact ownsRow_le (own_set3 O1.out (by omega) _ _ _) (by omega)
  · exact ownsRow_le (own_set3 O2.out (by omega) _ _ _) (by omega)
  · exact below_set3 hB (by omega) _ _ _
set_option maxHeartbeats 4000000 in
theorem head_impl_3 (o : Out) (nm vl : ByteArray) (v : Value) (w : World) (l1 : o.heads.length ≤ 1048576) (l2 : o.bufs.length ≤ 1048576) (n1 : nm.size ≤ 1000000000) (n2 : vl.size ≤ 1000000000) {B : Nat} (hB0 : B ≤ w.heap.size) (hr : OutR w B v o) (h1 : o.sent.toList.isEmpty = true) (h2 : hnF nm = true) (h3 : hvF vl = false) :
    Calls Try.prog 7 #[v, .string nm, .string vl] w fun e w' => ∃ u, e = .returned (.tuple #[u, .int .i64 3]) ∧ OutO w' w.heap.size u o ∧ Below w.heap.size w w' := by
  obtain ⟨A1, c1, A2, c2, rfl⟩ := hr.form
  have HR := Lib.hid hr
  clear hr
  have H2 := Lib.hid h2
  clear h2
  have H3 := Lib.hid h3
  clear h3
  obtain ⟨i0, hi0⟩ : ∃ i0, fidx FHeader.a0 o.heads nm = i0 := ⟨_, rfl⟩
  have IX := Lib.hid hi0
  clear hi0
  go_enter Try.func7, Try.ntmps7
  go_wp2_with fail
  refine calls_world _ (fun X => Bx X w.heap.size 27 (.string o.sent) (.slice A1 o.heads.length c1) (.slice A2 o.bufs.length c2) ∧ X.cell? ⟨w.heap.size + 1, 0, none⟩ = some (.string nm) ∧ Bx X (w.heap.size + 2) 27 (.string ⟨#[]⟩) (.slice none 0 0) (.slice none 0 0) ∧ Below w.heap.size w X ∧ w.heap.size + 3 ≤ X.heap.size) ⟨((Bx.new _ _ _ _ _).alloc _).alloc _, by simp [go_sem], by simpa using Bx.new ((w.alloc _).alloc _) _ _ _ _, (((Below.refl _ _).alloc (Nat.le_refl _) _).alloc (by simp) _).alloc (by simp; try omega) _, by simp⟩ ?_
  rintro X0 ⟨ba, bn, bz, hB, hz0⟩
  refine (copy_impl o _ _ l1 l2 (B := B) (by omega) (HR.out.below hB hB0)).mono ?_
  rintro e w1 ⟨u1, rfl, own1, hb1⟩
  obtain ⟨A3, c3, A4, c4, rfl⟩ := own1.form
  have ow := own1.inI
  clear own1
  replace ba := ba.below hb1 (Nat.le_refl _)
  replace bz := bz.below hb1 (Nat.le_refl _)
  replace bn := (hb1.cell (p := ⟨w.heap.size + 1, 0, none⟩) (by show w.heap.size + 1 < X0.heap.size; omega)).trans bn
  replace hB := hB.trans (hb1.mono (by omega))
  have hz1 : X0.heap.size ≤ w1.heap.size := hb1.size
  clear hb1
  have ba0 := ba.cell0
  have ba1 := ba.cell1
  have ba2 := ba.cell2
  have bal := ba.lt
  have baf := fun i => ba.frozen i
  have bz0 := bz.cell0
  have bz1 := bz.cell1
  have bz2 := bz.cell2
  have bzl := bz.lt
  have bzf := fun i => bz.frozen i
  go_wp2_with fail
  clear ba0 ba1 ba2 bal baf bz0 bz1 bz2 bzl bzf
  refine calls_world _ (fun X => Bx X w.heap.size 27 (.string o.sent) (.slice A1 o.heads.length c1) (.slice A2 o.bufs.length c2) ∧ X.cell? ⟨w.heap.size + 1, 0, none⟩ = some (.string nm) ∧ Bx X (w.heap.size + 2) 27 (.string ⟨#[]⟩) (.slice none 0 0) (.slice none 0 0) ∧ Bx X w1.heap.size 27 (.string o.sent) (.slice A3 o.heads.length c3) (.slice A4 o.bufs.length c4) ∧ OutI X X0.heap.size w1.heap.size (.agg #[.string o.sent, .slice A3 o.heads.length c3, .slice A4 o.bufs.length c4]) o ∧ Below w.heap.size w X) ⟨ba.alloc _, (World.cell?_alloc_lt _ _ ⟨w.heap.size + 1, 0, none⟩ (by show w.heap.size + 1 < w1.heap.size; omega)).trans bn, bz.alloc _, Bx.new _ _ _ _ _, ow.alloc _, hB.alloc (by omega) _⟩ ?_
  clear ba bz ow hB bn
  rintro w2 ⟨ba, bn, bz, bo, ow, hB⟩
  have hz2 := bo.lt
  refine (indexHead_any o.heads nm _ _ _ (by omega) (B := B) (by omega) (by omega) bn (HR.out.below hB hB0).heads).mono ?_
  rw [IX.out]
  rintro e w3 ⟨rfl, hb3⟩
  replace ba := ba.below hb3 (Nat.le_refl _)
  replace bz := bz.below hb3 (Nat.le_refl _)
  replace bo := bo.below hb3 (Nat.le_refl _)
  replace bn := (hb3.cell (p := ⟨w.heap.size + 1, 0, none⟩) (by show w.heap.size + 1 < w2.heap.size; omega)).trans bn
  replace ow := ow.below hb3 (Nat.le_refl _)
  replace hB := hB.trans (hb3.mono (by omega))
  have hz3 : w2.heap.size ≤ w3.heap.size := hb3.size
  clear hb3
  have bnl : w.heap.size + 1 < w3.heap.size := by omega
  obtain ⟨h3_, h4_, he, P1, P2, i1, i2⟩ := ow
  simp only [Value.agg.injEq, Array.mk.injEq, List.cons.injEq, true_and, and_true] at he
  obtain ⟨rfl, rfl⟩ := he
  have O1 := Lib.hid P1
  have O2 := Lib.hid P2
  have I1 := Lib.hid i1
  have I2 := Lib.hid i2
  clear P1 P2 i1 i2
  have ba0 := ba.cell0
  have ba1 := ba.cell1
  have ba2 := ba.cell2
  have bal := ba.lt
  have baf := fun i => ba.frozen i
  have bz0 := bz.cell0
  have bz1 := bz.cell1
  have bz2 := bz.cell2
  have bzl := bz.lt
  have bzf := fun i => bz.frozen i
  have bo0 := bo.cell0
  have bo1 := bo.cell1
  have bo2 := bo.cell2
  have bol := bo.lt
  have bof := fun i => bo.frozen i
  go_wp2_with (first | (go_at_call 30; refine (hname_impl nm _ (by omega)).mono ?_; rw [H2.out]; rintro e w' ⟨rfl, rfl⟩) | (go_at_call 31; refine (hval_impl vl _ (by omega)).mono ?_; rw [H3.out]; rintro e w' ⟨rfl, rfl⟩))
  refine bodyPost_ret (v := .tuple #[.agg #[.string o.sent, .slice A3 o.heads.length c3, .slice A4 o.bufs.length c4], .int .i64 3]) (by simp [results, Try.results7, go_sem, bz0, bz1, bz2, bzl, bzf, bo0, bo1, bo2, bol, bof]; try rfl) rfl ⟨_, rfl, ⟨_, _, rfl, ?_, ?_⟩, ?_⟩
  · exact ownsRow_le (own_set3 O1.out (by omega) _ _ _) (by omega)
  · exact ownsRow_le (own_set3 O2.out (by omega) _ _ _) (by omega)
  · exact below_set3 hB (by omega) _ _ _
set_option maxHeartbeats 4000000 in
theorem head_impl_4 (o : Out) (nm vl : ByteArray) (v : Value) (w : World) (l1 : o.heads.length ≤ 1048576) (l2 : o.bufs.length ≤ 1048576) (n1 : nm.size ≤ 1000000000) (n2 : vl.size ≤ 1000000000) {B : Nat} (hB0 : B ≤ w.heap.size) (hr : OutR w B v o) (h1 : o.sent.toList.isEmpty = true) (h2 : hnF nm = true) (h3 : hvF vl = true) (hno : (∀ (j : Nat) (y : FHeader), o.heads[j]? = some y → (y.a0.toList == nm.toList) = false)) (h8 : 8 ≤ o.heads.length) :
    Calls Try.prog 7 #[v, .string nm, .string vl] w fun e w' => ∃ u, e = .returned (.tuple #[u, .int .i64 4]) ∧ OutO w' w.heap.size u o ∧ Below w.heap.size w w' := by
  obtain ⟨A1, c1, A2, c2, rfl⟩ := hr.form
  have HR := Lib.hid hr
  clear hr
  have H2 := Lib.hid h2
  clear h2
  have H3 := Lib.hid h3
  clear h3
  have HNO := Lib.hid hno
  have IX := Lib.hid (show fidx FHeader.a0 o.heads nm = -1 from fidx_miss hno)
  have h8z : (8 : Int) ≤ (o.heads.length : Int) := by omega
  clear h8
  clear hno
  go_enter Try.func7, Try.ntmps7
  go_wp2_with fail
  refine calls_world _ (fun X => Bx X w.heap.size 27 (.string o.sent) (.slice A1 o.heads.length c1) (.slice A2 o.bufs.length c2) ∧ X.cell? ⟨w.heap.size + 1, 0, none⟩ = some (.string nm) ∧ Bx X (w.heap.size + 2) 27 (.string ⟨#[]⟩) (.slice none 0 0) (.slice none 0 0) ∧ Below w.heap.size w X ∧ w.heap.size + 3 ≤ X.heap.size) ⟨((Bx.new _ _ _ _ _).alloc _).alloc _, by simp [go_sem], by simpa using Bx.new ((w.alloc _).alloc _) _ _ _ _, (((Below.refl _ _).alloc (Nat.le_refl _) _).alloc (by simp) _).alloc (by simp; try omega) _, by simp⟩ ?_
  rintro X0 ⟨ba, bn, bz, hB, hz0⟩
  refine (copy_impl o _ _ l1 l2 (B := B) (by omega) (HR.out.below hB hB0)).mono ?_
  rintro e w1 ⟨u1, rfl, own1, hb1⟩
  obtain ⟨A3, c3, A4, c4, rfl⟩ := own1.form
  have ow := own1.inI
  clear own1
  replace ba := ba.below hb1 (Nat.le_refl _)
  replace bz := bz.below hb1 (Nat.le_refl _)
  replace bn := (hb1.cell (p := ⟨w.heap.size + 1, 0, none⟩) (by show w.heap.size + 1 < X0.heap.size; omega)).trans bn
  replace hB := hB.trans (hb1.mono (by omega))
  have hz1 : X0.heap.size ≤ w1.heap.size := hb1.size
  clear hb1
  have ba0 := ba.cell0
  have ba1 := ba.cell1
  have ba2 := ba.cell2
  have bal := ba.lt
  have baf := fun i => ba.frozen i
  have bz0 := bz.cell0
  have bz1 := bz.cell1
  have bz2 := bz.cell2
  have bzl := bz.lt
  have bzf := fun i => bz.frozen i
  go_wp2_with fail
  clear ba0 ba1 ba2 bal baf bz0 bz1 bz2 bzl bzf
  refine calls_world _ (fun X => Bx X w.heap.size 27 (.string o.sent) (.slice A1 o.heads.length c1) (.slice A2 o.bufs.length c2) ∧ X.cell? ⟨w.heap.size + 1, 0, none⟩ = some (.string nm) ∧ Bx X (w.heap.size + 2) 27 (.string ⟨#[]⟩) (.slice none 0 0) (.slice none 0 0) ∧ Bx X w1.heap.size 27 (.string o.sent) (.slice A3 o.heads.length c3) (.slice A4 o.bufs.length c4) ∧ OutI X X0.heap.size w1.heap.size (.agg #[.string o.sent, .slice A3 o.heads.length c3, .slice A4 o.bufs.length c4]) o ∧ Below w.heap.size w X) ⟨ba.alloc _, (World.cell?_alloc_lt _ _ ⟨w.heap.size + 1, 0, none⟩ (by show w.heap.size + 1 < w1.heap.size; omega)).trans bn, bz.alloc _, Bx.new _ _ _ _ _, ow.alloc _, hB.alloc (by omega) _⟩ ?_
  clear ba bz ow hB bn
  rintro w2 ⟨ba, bn, bz, bo, ow, hB⟩
  have hz2 := bo.lt
  refine (indexHead_any o.heads nm _ _ _ (by omega) (B := B) (by omega) (by omega) bn (HR.out.below hB hB0).heads).mono ?_
  rw [IX.out]
  rintro e w3 ⟨rfl, hb3⟩
  replace ba := ba.below hb3 (Nat.le_refl _)
  replace bz := bz.below hb3 (Nat.le_refl _)
  replace bo := bo.below hb3 (Nat.le_refl _)
  replace bn := (hb3.cell (p := ⟨w.heap.size + 1, 0, none⟩) (by show w.heap.size + 1 < w2.heap.size; omega)).trans bn
  replace ow := ow.below hb3 (Nat.le_refl _)
  replace hB := hB.trans (hb3.mono (by omega))
  have hz3 : w2.heap.size ≤ w3.heap.size := hb3.size
  clear hb3
  have bnl : w.heap.size + 1 < w3.heap.size := by omega
  obtain ⟨h3_, h4_, he, P1, P2, i1, i2⟩ := ow
  simp only [Value.agg.injEq, Array.mk.injEq, List.cons.injEq, true_and, and_true] at he
  obtain ⟨rfl, rfl⟩ := he
  have O1 := Lib.hid P1
  have O2 := Lib.hid P2
  have I1 := Lib.hid i1
  have I2 := Lib.hid i2
  clear P1 P2 i1 i2
  have ba0 := ba.cell0
  have ba1 := ba.cell1
  have ba2 := ba.cell2
  have bal := ba.lt
  have baf := fun i => ba.frozen i
  have bz0 := bz.cell0
  have bz1 := bz.cell1
  have bz2 := bz.cell2
  have bzl := bz.lt
  have bzf := fun i => bz.frozen i
  have bo0 := bo.cell0
  have bo1 := bo.cell1
  have bo2 := bo.cell2
  have bol := bo.lt
  have bof := fun i => bo.frozen i
  go_wp2_with (first | (go_at_call 30; refine (hname_impl nm _ (by omega)).mono ?_; rw [H2.out]; rintro e w' ⟨rfl, rfl⟩) | (go_at_call 31; refine (hval_impl vl _ (by omega)).mono ?_; rw [H3.out]; rintro e w' ⟨rfl, rfl⟩))
  refine bodyPost_ret (v := .tuple #[.agg #[.string o.sent, .slice A3 o.heads.length c3, .slice A4 o.bufs.length c4], .int .i64 4]) (by simp [results, Try.results7, go_sem, bz0, bz1, bz2, bzl, bzf, bo0, bo1, bo2, bol, bof]; try rfl) rfl ⟨_, rfl, ⟨_, _, rfl, ?_, ?_⟩, ?_⟩
  · exact ownsRow_le (own_set3 O1.out (by omega) _ _ _) (by omega)
  · exact ownsRow_le (own_set3 O2.out (by omega) _ _ _) (by omega)
  · exact below_set3 hB (by omega) _ _ _
set_option maxHeartbeats 4000000 in
theorem head_impl_5 (o : Out) (nm vl : ByteArray) (v : Value) (w : World) (l1 : o.heads.length ≤ 1048576) (l2 : o.bufs.length ≤ 1048576) (n1 : nm.size ≤ 1000000000) (n2 : vl.size ≤ 1000000000) {B : Nat} (hB0 : B ≤ w.heap.size) (hr : OutR w B v o) (h1 : o.sent.toList.isEmpty = true) (h2 : hnF nm = true) (h3 : hvF vl = true) (hno : (∀ (j : Nat) (y : FHeader), o.heads[j]? = some y → (y.a0.toList == nm.toList) = false)) (h8 : o.heads.length < 8) :
    Calls Try.prog 7 #[v, .string nm, .string vl] w fun e w' => ∃ u, e = .returned (.tuple #[u, .int .i64 0]) ∧ OutO w' w.heap.size u (hdApp o nm vl) ∧ Below w.heap.size w w' := by
  obtain ⟨A1, c1, A2, c2, rfl⟩ := hr.form
  have HR := Lib.hid hr
  clear hr
  have H2 := Lib.hid h2
  clear h2
  have H3 := Lib.hid h3
  clear h3
  have HNO := Lib.hid hno
  have IX := Lib.hid (show fidx FHeader.a0 o.heads nm = -1 from fidx_miss hno)
  have h8z : ¬ (8 : Int) ≤ (o.heads.length : Int) := by omega
  have h8n : o.heads.length < 8 := h8
  clear h8
  clear hno
  go_enter Try.func7, Try.ntmps7
  go_wp2_with fail
  refine calls_world _ (fun X => Bx X w.heap.size 27 (.string o.sent) (.slice A1 o.heads.length c1) (.slice A2 o.bufs.length c2) ∧ X.cell? ⟨w.heap.size + 1, 0, none⟩ = some (.string nm) ∧ Bx X (w.heap.size + 2) 27 (.string ⟨#[]⟩) (.slice none 0 0) (.slice none 0 0) ∧ Below w.heap.size w X ∧ w.heap.size + 3 ≤ X.heap.size) ⟨((Bx.new _ _ _ _ _).alloc _).alloc _, by simp [go_sem], by simpa using Bx.new ((w.alloc _).alloc _) _ _ _ _, (((Below.refl _ _).alloc (Nat.le_refl _) _).alloc (by simp) _).alloc (by simp; try omega) _, by simp⟩ ?_
  rintro X0 ⟨ba, bn, bz, hB, hz0⟩
  refine (copy_impl o _ _ l1 l2 (B := B) (by omega) (HR.out.below hB hB0)).mono ?_
  rintro e w1 ⟨u1, rfl, own1, hb1⟩
  obtain ⟨A3, c3, A4, c4, rfl⟩ := own1.form
  have ow := own1.inI
  clear own1
  replace ba := ba.below hb1 (Nat.le_refl _)
  replace bz := bz.below hb1 (Nat.le_refl _)
  replace bn := (hb1.cell (p := ⟨w.heap.size + 1, 0, none⟩) (by show w.heap.size + 1 < X0.heap.size; omega)).trans bn
  replace hB := hB.trans (hb1.mono (by omega))
  have hz1 : X0.heap.size ≤ w1.heap.size := hb1.size
  clear hb1
  have ba0 := ba.cell0
  have ba1 := ba.cell1
  have ba2 := ba.cell2
  have bal := ba.lt
  have baf := fun i => ba.frozen i
  have bz0 := bz.cell0
  have bz1 := bz.cell1
  have bz2 := bz.cell2
  have bzl := bz.lt
  have bzf := fun i => bz.frozen i
  go_wp2_with fail
  clear ba0 ba1 ba2 bal baf bz0 bz1 bz2 bzl bzf
  refine calls_world _ (fun X => Bx X w.heap.size 27 (.string o.sent) (.slice A1 o.heads.length c1) (.slice A2 o.bufs.length c2) ∧ X.cell? ⟨w.heap.size + 1, 0, none⟩ = some (.string nm) ∧ Bx X (w.heap.size + 2) 27 (.string ⟨#[]⟩) (.slice none 0 0) (.slice none 0 0) ∧ Bx X w1.heap.size 27 (.string o.sent) (.slice A3 o.heads.length c3) (.slice A4 o.bufs.length c4) ∧ OutI X X0.heap.size w1.heap.size (.agg #[.string o.sent, .slice A3 o.heads.length c3, .slice A4 o.bufs.length c4]) o ∧ Below w.heap.size w X) ⟨ba.alloc _, (World.cell?_alloc_lt _ _ ⟨w.heap.size + 1, 0, none⟩ (by show w.heap.size + 1 < w1.heap.size; omega)).trans bn, bz.alloc _, Bx.new _ _ _ _ _, ow.alloc _, hB.alloc (by omega) _⟩ ?_
  clear ba bz ow hB bn
  rintro w2 ⟨ba, bn, bz, bo, ow, hB⟩
  have hz2 := bo.lt
  refine (indexHead_any o.heads nm _ _ _ (by omega) (B := B) (by omega) (by omega) bn (HR.out.below hB hB0).heads).mono ?_
  rw [IX.out]
  rintro e w3 ⟨rfl, hb3⟩
  replace ba := ba.below hb3 (Nat.le_refl _)
  replace bz := bz.below hb3 (Nat.le_refl _)
  replace bo := bo.below hb3 (Nat.le_refl _)
  replace bn := (hb3.cell (p := ⟨w.heap.size + 1, 0, none⟩) (by show w.heap.size + 1 < w2.heap.size; omega)).trans bn
  replace ow := ow.below hb3 (Nat.le_refl _)
  replace hB := hB.trans (hb3.mono (by omega))
  have hz3 : w2.heap.size ≤ w3.heap.size := hb3.size
  clear hb3
  have bnl : w.heap.size + 1 < w3.heap.size := by omega
  obtain ⟨h3_, h4_, he, P1, P2, i1, i2⟩ := ow
  simp only [Value.agg.injEq, Array.mk.injEq, List.cons.injEq, true_and, and_true] at he
  obtain ⟨rfl, rfl⟩ := he
  have O1 := Lib.hid P1
  have O2 := Lib.hid P2
  have I1 := Lib.hid i1
  have I2 := Lib.hid i2
  have L1 := Lib.hid (own_lt P1)
  have L3 := Lib.hid (types_ne P2 P1 (by decide))
  have hrd : Rd (w3.alloc (.cells #[.string nm, .string vl] 35)) (w3.heap.size + 1) 2 (.slice (some ⟨w3.heap.size, 0, none⟩) 1 1) 1 [.string nm, .string vl] := by
    refine ⟨_, _, rfl, Nat.le_refl _, by unfold maxLen; omega, rfl, fun _ => ⟨_, _, rfl, by omega, fun j u hu => ?_⟩⟩
    match j, hu with
    | 0, hu => obtain rfl : Value.string nm = u := by simpa using hu
               simp [go_sem]
    | 1, hu => obtain rfl : Value.string vl = u := by simpa using hu
               simp [go_sem]
  have RDX := Lib.hid hrd
  clear hrd
  clear P1 P2 i1 i2
  have ba0 := ba.cell0
  have ba1 := ba.cell1
  have ba2 := ba.cell2
  have bal := ba.lt
  have baf := fun i => ba.frozen i
  have bz0 := bz.cell0
  have bz1 := bz.cell1
  have bz2 := bz.cell2
  have bzl := bz.lt
  have bzf := fun i => bz.frozen i
  have bo0 := bo.cell0
  have bo1 := bo.cell1
  have bo2 := bo.cell2
  have bol := bo.lt
  have bof := fun i => bo.frozen i
  go_wp2_with (first | (go_at_call 30; refine (hname_impl nm _ (by omega)).mono ?_; rw [H2.out]; rintro e w' ⟨rfl, rfl⟩) | (go_at_call 31; refine (hval_impl vl _ (by omega)).mono ?_; rw [H3.out]; rintro e w' ⟨rfl, rfl⟩) | (at_builtin; go_must (refine wpList_append_rd _ rfl (.tmp 51) (.tmp 55) _ rfl X0.heap.size _ _ _ 32 Try.underlying24 infoHeader rfl (by omega) (.slice A3 o.heads.length c3) o.heads.length _ rfl (O1.out.alloc _) (w3.heap.size + 1) _ 1 _ [.string nm, .string vl] rfl RDX.out (by intro u hu; simp only [List.mem_cons, List.not_mem_nil, or_false] at hu; rcases hu with rfl | rfl <;> rfl) (by unfold maxLen; omega) (by omega) (by simp; omega) ?_); intro v2 w4 hown2 hg2 hat2; obtain ⟨A5, c5, rfl⟩ := own_form hown2; have HG2 := Lib.hid hg2; have HAT := Lib.hid hat2; have nb := (bo.alloc (.cells #[.string nm, .string vl] 35)).grown hg2 (fun e => Nat.lt_irrefl _ (I1.out _ e.symm)); have nz := (bz.alloc (.cells #[.string nm, .string vl] 35)).grown hg2 (fun e => by have := (L1.out _ e.symm).1; omega); have nb0 := nb.cell0; have nb1 := nb.cell1; have nb2 := nb.cell2; have nbl := nb.lt; have nbf := fun i => nb.frozen i; have nz0 := nz.cell0; have nz1 := nz.cell1; have nz2 := nz.cell2; have nzl := nz.lt; have nzf := fun i => nz.frozen i; clear hg2 hat2))
  have hg2 := HG2.out
  have X5 : (Value.slice A5 (o.heads.length + 1) c5).ownBlock ≠ some w1.heap.size := fun e => by
    rcases HAT.out with h | h
    · rw [h] at e
      exact Nat.lt_irrefl _ (I1.out _ e)
    · rw [h] at e
      injection e with e
      simp at e
      omega
  have X4 : (Value.slice A4 o.bufs.length c4).ownBlock ≠ some w1.heap.size := fun e => Nat.lt_irrefl _ (I2.out _ e)
  have Q2 : w4.ownsRow X0.heap.size 61 2 (.slice A4 o.bufs.length c4) o.bufs.length (FBuffer.flat o.bufs) := own_keep O2.out (w' := w4) (fun g hg => (hg2.block g (by have := (own_lt O2.out g hg).2; simp; omega) (fun e => L3.out g hg e.symm)).trans (Below.heap_alloc w3 _ g (own_lt O2.out g hg).2))
  have hBw : Below w.heap.size w w4 := (hB.alloc (by omega) _).grown hg2 (by simp; omega) (fun k hk => by have := (L1.out k hk).1; omega)
  refine bodyPost_ret (v := .tuple #[.agg #[.string o.sent, .slice A5 (o.heads.length + 1) c5, .slice A4 o.bufs.length c4], .int .i64 0]) (by simp [results, Try.results7, go_sem, nz0, nz1, nz2, nzl, nzf, nb0, nb1, nb2, nbl, nbf]; try rfl) rfl ⟨_, rfl, ⟨_, _, by show Value.agg #[.string o.sent, _, _] = _; rfl, ?_, ?_⟩, ?_⟩
  · show World.ownsRow _ _ _ 2 _ (o.heads ++ [(⟨nm, vl⟩ : FHeader)]).length (FHeader.flat (o.heads ++ [⟨nm, vl⟩]))
    have e : FHeader.flat (o.heads ++ [⟨nm, vl⟩]) = FHeader.flat o.heads ++ [.string nm, .string vl] := flat_snoc o.heads ⟨nm, vl⟩
    rw [e, show (o.heads ++ [(⟨nm, vl⟩ : FHeader)]).length = o.heads.length + 1 from by simp]
    exact ownsRow_le (own_set3 (ownsRow_setCell_ne hown2 _ X5) (by omega) _ _ _) (by omega)
  · exact ownsRow_le (own_set3 (ownsRow_setCell_ne Q2 _ X4) (by omega) _ _ _) (by omega)
  · exact below_set3 (hBw.setCell (by show w.heap.size ≤ w1.heap.size; omega) _) (by omega) _ _ _
set_option maxHeartbeats 4000000 in
theorem head_impl_6 (o : Out) (nm vl : ByteArray) (v : Value) (w : World) (l1 : o.heads.length ≤ 1048576) (l2 : o.bufs.length ≤ 1048576) (n1 : nm.size ≤ 1000000000) (n2 : vl.size ≤ 1000000000) {B : Nat} (hB0 : B ≤ w.heap.size) (hr : OutR w B v o) (h1 : o.sent.toList.isEmpty = true) (h2 : hnF nm = true) (h3 : hvF vl = true) (k : Nat) (x : FHeader) (hx : o.heads[k]? = some x) (hq : (x.a0.toList == nm.toList) = true) (hno : ∀ (j : Nat) (y : FHeader), j < k → o.heads[j]? = some y → (y.a0.toList == nm.toList) = false) :
    Calls Try.prog 7 #[v, .string nm, .string vl] w fun e w' => ∃ u, e = .returned (.tuple #[u, .int .i64 0]) ∧ OutO w' w.heap.size u (hdSet o k x vl) ∧ Below w.heap.size w w' := by
  obtain ⟨A1, c1, A2, c2, rfl⟩ := hr.form
  have HR := Lib.hid hr
  clear hr
  have H2 := Lib.hid h2
  clear h2
  have H3 := Lib.hid h3
  clear h3
  have HX := Lib.hid hx
  have HQ := Lib.hid hq
  have HNO := Lib.hid hno
  have hkl : k < o.heads.length := (List.getElem?_eq_some_iff.1 hx).1
  have IX := Lib.hid (show fidx FHeader.a0 o.heads nm = (k : Int) from fidx_hit hx hq hno)
  have hk0 : ¬ (k : Int) < 0 := by omega
  have hkz : (0 : Int) ≤ (k : Int) := by omega
  have hkl2 : (k : Int) < (o.heads.length : Int) := by omega
  clear hx hq hno
  go_enter Try.func7, Try.ntmps7
  go_wp2_with fail
  refine calls_world _ (fun X => Bx X w.heap.size 27 (.string o.sent) (.slice A1 o.heads.length c1) (.slice A2 o.bufs.length c2) ∧ X.cell? ⟨w.heap.size + 1, 0, none⟩ = some (.string nm) ∧ Bx X (w.heap.size + 2) 27 (.string ⟨#[]⟩) (.slice none 0 0) (.slice none 0 0) ∧ Below w.heap.size w X ∧ w.heap.size + 3 ≤ X.heap.size) ⟨((Bx.new _ _ _ _ _).alloc _).alloc _, by simp [go_sem], by simpa using Bx.new ((w.alloc _).alloc _) _ _ _ _, (((Below.refl _ _).alloc (Nat.le_refl _) _).alloc (by simp) _).alloc (by simp; try omega) _, by simp⟩ ?_
  rintro X0 ⟨ba, bn, bz, hB, hz0⟩
  refine (copy_impl o _ _ l1 l2 (B := B) (by omega) (HR.out.below hB hB0)).mono ?_
  rintro e w1 ⟨u1, rfl, own1, hb1⟩
  obtain ⟨A3, c3, A4, c4, rfl⟩ := own1.form
  have ow := own1.inI
  clear own1
  replace ba := ba.below hb1 (Nat.le_refl _)
  replace bz := bz.below hb1 (Nat.le_refl _)
  replace bn := (hb1.cell (p := ⟨w.heap.size + 1, 0, none⟩) (by show w.heap.size + 1 < X0.heap.size; omega)).trans bn
  replace hB := hB.trans (hb1.mono (by omega))
  have hz1 : X0.heap.size ≤ w1.heap.size := hb1.size
  clear hb1
  have ba0 := ba.cell0
  have ba1 := ba.cell1
  have ba2 := ba.cell2
  have bal := ba.lt
  have baf := fun i => ba.frozen i
  have bz0 := bz.cell0
  have bz1 := bz.cell1
  have bz2 := bz.cell2
  have bzl := bz.lt
  have bzf := fun i => bz.frozen i
  go_wp2_with fail
  clear ba0 ba1 ba2 bal baf bz0 bz1 bz2 bzl bzf
  refine calls_world _ (fun X => Bx X w.heap.size 27 (.string o.sent) (.slice A1 o.heads.length c1) (.slice A2 o.bufs.length c2) ∧ X.cell? ⟨w.heap.size + 1, 0, none⟩ = some (.string nm) ∧ Bx X (w.heap.size + 2) 27 (.string ⟨#[]⟩) (.slice none 0 0) (.slice none 0 0) ∧ Bx X w1.heap.size 27 (.string o.sent) (.slice A3 o.heads.length c3) (.slice A4 o.bufs.length c4) ∧ OutI X X0.heap.size w1.heap.size (.agg #[.string o.sent, .slice A3 o.heads.length c3, .slice A4 o.bufs.length c4]) o ∧ Below w.heap.size w X) ⟨ba.alloc _, (World.cell?_alloc_lt _ _ ⟨w.heap.size + 1, 0, none⟩ (by show w.heap.size + 1 < w1.heap.size; omega)).trans bn, bz.alloc _, Bx.new _ _ _ _ _, ow.alloc _, hB.alloc (by omega) _⟩ ?_
  clear ba bz ow hB bn
  rintro w2 ⟨ba, bn, bz, bo, ow, hB⟩
  have hz2 := bo.lt
  refine (indexHead_any o.heads nm _ _ _ (by omega) (B := B) (by omega) (by omega) bn (HR.out.below hB hB0).heads).mono ?_
  rw [IX.out]
  rintro e w3 ⟨rfl, hb3⟩
  replace ba := ba.below hb3 (Nat.le_refl _)
  replace bz := bz.below hb3 (Nat.le_refl _)
  replace bo := bo.below hb3 (Nat.le_refl _)
  replace bn := (hb3.cell (p := ⟨w.heap.size + 1, 0, none⟩) (by show w.heap.size + 1 < w2.heap.size; omega)).trans bn
  replace ow := ow.below hb3 (Nat.le_refl _)
  replace hB := hB.trans (hb3.mono (by omega))
  have hz3 : w2.heap.size ≤ w3.heap.size := hb3.size
  clear hb3
  have bnl : w.heap.size + 1 < w3.heap.size := by omega
  obtain ⟨h3_, h4_, he, P1, P2, i1, i2⟩ := ow
  simp only [Value.agg.injEq, Array.mk.injEq, List.cons.injEq, true_and, and_true] at he
  obtain ⟨rfl, rfl⟩ := he
  obtain ⟨g, rfl, hg0, hgl, gc0, gc, gf⟩ := own_hat P1 HX.out
  have hgb : g < w1.heap.size := i1 g rfl
  have hgn : w1.heap.size ≠ g := by omega
  have hgz : w.heap.size + 2 ≠ g := by omega
  have X3 : (Value.slice A4 o.bufs.length c4).ownBlock ≠ some g := fun e => types_ne P2 P1 (by decide) g e rfl
  have Z1 : (w3.setCell ⟨g, k * 2 + 1, none⟩ (.string vl)).ownsRow X0.heap.size 35 2 (.slice (some ⟨g, 0, none⟩) o.heads.length c3) (hdSet o k x vl).heads.length (FHeader.flat (hdSet o k x vl).heads) := by
    show (w3.setCell ⟨g, k * 2 + 1, none⟩ (.string vl)).ownsRow X0.heap.size 35 2 (.slice (some ⟨g, 0, none⟩) o.heads.length c3) (o.heads.set k ⟨x.a0, vl⟩).length (FHeader.flat (o.heads.set k ⟨x.a0, vl⟩))
    rw [List.length_set, hflat_set o.heads k x ⟨x.a0, vl⟩ HX.out rfl]
    exact own_set P1 (by omega) _
  have O1 := Lib.hid P1
  have O2 := Lib.hid P2
  have I1 := Lib.hid i1
  have I2 := Lib.hid i2
  clear P1 P2 i1 i2
  have ba0 := ba.cell0
  have ba1 := ba.cell1
  have ba2 := ba.cell2
  have bal := ba.lt
  have baf := fun i => ba.frozen i
  have bz0 := bz.cell0
  have bz1 := bz.cell1
  have bz2 := bz.cell2
  have bzl := bz.lt
  have bzf := fun i => bz.frozen i
  have bo0 := bo.cell0
  have bo1 := bo.cell1
  have bo2 := bo.cell2
  have bol := bo.lt
  have bof := fun i => bo.frozen i
  go_wp2_with (first | (go_at_call 30; refine (hname_impl nm _ (by omega)).mono ?_; rw [H2.out]; rintro e w' ⟨rfl, rfl⟩) | (go_at_call 31; refine (hval_impl vl _ (by omega)).mono ?_; rw [H3.out]; rintro e w' ⟨rfl, rfl⟩))
  refine bodyPost_ret (v := .tuple #[.agg #[.string o.sent, .slice (some ⟨g, 0, none⟩) o.heads.length c3, .slice A4 o.bufs.length c4], .int .i64 0]) (by simp [results, Try.results7, go_sem, bz0, bz1, bz2, bzl, bzf, bo0, bo1, bo2, bol, bof]; try rfl) rfl ⟨_, rfl, ⟨_, _, by show Value.agg #[.string o.sent, _, _] = _; rfl, ?_, ?_⟩, ?_⟩
  · exact ownsRow_le (own_set3 Z1 (by omega) _ _ _) (by omega)
  · exact ownsRow_le (own_set3 (ownsRow_setCell_ne O2.out _ X3) (by omega) _ _ _) (by omega)
  · exact below_set3 (hB.setCell (by show w.heap.size ≤ g; omega) _) (by omega) _ _ _
theorem head_impl (o : Out) (nm vl : ByteArray) (v : Value) (w : World) (l1 : o.heads.length ≤ 1048576) (l2 : o.bufs.length ≤ 1048576) (n1 : nm.size ≤ 1000000000) (n2 : vl.size ≤ 1000000000) {B : Nat} (hB0 : B ≤ w.heap.size) (hr : OutR w B v o) :
    Calls Try.prog 7 #[v, .string nm, .string vl] w fun e w' => ∃ u, e = .returned (.tuple #[u, .int .i64 (hdP o nm vl).2]) ∧ OutO w' w.heap.size u (hdP o nm vl).1 ∧ Below w.heap.size w w' := by
  rcases hd_ways o nm vl with ⟨h1, e⟩ | ⟨h1, h2, e⟩ | ⟨h1, h2, h3, e⟩ | ⟨h1, h2, h3, hno, h8, e⟩ | ⟨h1, h2, h3, hno, h8, e⟩ | ⟨h1, h2, h3, k, x, hx, hq, hno, e⟩ <;> rw [e]
  · exact head_impl_1 o nm vl v w l1 l2 n1 n2 hB0 hr h1
  · exact head_impl_2 o nm vl v w l1 l2 n1 n2 hB0 hr h1 h2
  · exact head_impl_3 o nm vl v w l1 l2 n1 n2 hB0 hr h1 h2 h3
  · exact head_impl_4 o nm vl v w l1 l2 n1 n2 hB0 hr h1 h2 h3 hno h8
  · exact head_impl_5 o nm vl v w l1 l2 n1 n2 hB0 hr h1 h2 h3 hno h8
  · exact head_impl_6 o nm vl v w l1 l2 n1 n2 hB0 hr h1 h2 h3 k x hx hq hno
end Go.Proofs.Ytnbedjfmhnpjaaa
