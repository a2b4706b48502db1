/-
  StartBuffer of both packages: what it returns, in memory of its own. Conditions: none.
-/
import Derived.Test.YtnbedjfmhnpjaaaOutF
namespace Go.Proofs.Ytnbedjfmhnpjaaa
open Go.ChangeShapes Go.WideShapes Go.ChangeAt Go.RowKit Go.Deep Go.Joins
open Go.ChangeMaps (open_string shut_string)
set_option linter.unusedVariables false
set_option linter.unusedSimpArgs false
set_option maxRecDepth 100000

def startB (o : Out) (f : Int) : Bool := inB f 0 3 && decide (o.bufs.length < 5)
def startY (o : Out) (f : Int) : Out := ⟨o.sent, o.heads, o.bufs ++ [⟨f, ⟨#[]⟩⟩]⟩
def startF (o : Out) (f : Int) : Out := if startB o f = true then startY o f else o
theorem keep2 {w1 w2 : World} {o1 o2 : Obj} {row : Option Nat} (hg : ((w1.alloc o1).alloc o2).grownBy w2 row) (k : Nat) (hk : k < w1.heap.size) (hne : some k ≠ row) : w2.heap[k]? = w1.heap[k]? := by
  rw [hg.block k (by simp; omega) hne, Below.heap_alloc _ _ _ (by simp; omega), Below.heap_alloc _ _ _ hk]
theorem not_out {w1 : World} {o1 o2 : Obj} {v v' : Value} (L : ∀ g, v.ownBlock = some g → g < w1.heap.size) (hat : v'.ownBlock = v.ownBlock ∨ v'.ownBlock = some ((w1.alloc o1).alloc o2).heap.size) : v'.ownBlock ≠ some w1.heap.size := by
  intro e
  rcases hat with h | h
  · rw [h] at e
    exact Nat.lt_irrefl _ (L _ e)
  · rw [h] at e
    injection e with e
    simp at e
    omega
theorem keep2' {w1 w2 : World} {o1 o2 : Obj} {row : Option Nat} (hg : ((w1.alloc o1).alloc o2).grownBy w2 row) (hne : some w1.heap.size ≠ row) : w2.heap[w1.heap.size]? = some o1 := by
  rw [hg.block _ (by simp; omega) hne, Below.heap_alloc _ _ _ (by simp)]
  exact heap_alloc_new w1 o1
theorem Bx.frozen {w : World} {b : Nat} {t : TypeId} {c0 c1 c2 : Value} (h : Bx w b t c0 c1 c2) (i : Nat) : w.frozen? ⟨b, i, none⟩ = false := by unfold Bx at h; simp [World.frozen?, h]
/-- A store into a variable of another type leaves an owned row as it is. -/
theorem ownsRow_setCell_ne {w : World} {base size n : Nat} {e : TypeId} {v : Value} {xs : List Value} {b i : Nat} (h : w.ownsRow base e size v n xs) (u : Value) (hx : v.ownBlock ≠ some b) : (w.setCell ⟨b, i, none⟩ u).ownsRow base e size v n xs := by
  refine own_keep h fun g hg => Below.heap_setCell _ _ _ _ ?_
  rintro rfl
  exact hx hg
set_option maxHeartbeats 2000000 in
theorem start_impl_a (o : Out) (f : Int) (v : Value) (w : World) (l1 : o.heads.length ≤ 1048576) (l2 : o.bufs.length ≤ 1048576) {B : Nat} (hB : B ≤ w.heap.size) (hr : OutR w B v o) (h0 : inB f 0 3 = false) :
    Calls Try.prog 13 #[v, .int .i64 f] w fun e w' => ∃ u, e = .returned (.tuple #[u, .bool false]) ∧ OutO w' w.heap.size u o ∧ Below w.heap.size w w' := by
  obtain ⟨A1, c1, A2, c2, rfl⟩ := hr.form
  have HR := Lib.hid hr
  clear hr
  go_enter Try.func13, Try.ntmps13
  go_wp2_with fail
  refine (copy_impl o _ _ l1 l2 (B := B) (by simp; omega) (HR.out.below (((Below.refl w.heap.size w).alloc (Nat.le_refl _) _).alloc (by simp) _) hB)).mono ?_
  rintro e w1 ⟨u1, rfl, own1, hb1⟩
  obtain ⟨A3, c3, A4, c4, rfl⟩ := own1.form
  obtain ⟨h3, h4, he, P1, P2⟩ := own1
  simp only [Value.agg.injEq, Array.mk.injEq, List.cons.injEq, true_and, and_true] at he
  obtain ⟨rfl, rfl⟩ := he
  have O1 := Lib.hid (ownsRow_le P1 (show w.heap.size + 2 ≤ _ by simp))
  have O2 := Lib.hid (ownsRow_le P2 (show w.heap.size + 2 ≤ _ by simp))
  have CP := own_cap P2
  clear P1 P2
  have hc1 := (bcell hb1).1
  have hf1 := (bcell hb1).2
  have qz : w.heap.size + 2 ≤ w1.heap.size := by have := hb1.size; simpa using this
  have hB1 : Below w.heap.size w w1 := (((Below.refl w.heap.size w).alloc (Nat.le_refl _) _).alloc (by simp) _).trans (hb1.mono (by simp; omega))
  have qa : w.heap.size < w1.heap.size := by omega
  have qb : w.heap.size + 1 < w1.heap.size := by omega
  have b0 : w1.cell? ⟨w.heap.size, 0, none⟩ = some (.string o.sent) := by rw [hc1 _ _ (by simp; try omega)]; simp [go_sem]
  have b1 : w1.cell? ⟨w.heap.size, 1, none⟩ = some (.slice A1 o.heads.length c1) := by rw [hc1 _ _ (by simp; try omega)]; simp [go_sem]
  have b2 : w1.cell? ⟨w.heap.size, 2, none⟩ = some (.slice A2 o.bufs.length c2) := by rw [hc1 _ _ (by simp; try omega)]; simp [go_sem]
  have r0 : w1.cell? ⟨w.heap.size + 1, 0, none⟩ = some (.string ⟨#[]⟩) := by rw [hc1 _ _ (by simp; try omega)]; simp [go_sem]
  have r1 : w1.cell? ⟨w.heap.size + 1, 1, none⟩ = some (.slice none 0 0) := by rw [hc1 _ _ (by simp; try omega)]; simp [go_sem]
  have r2 : w1.cell? ⟨w.heap.size + 1, 2, none⟩ = some (.slice none 0 0) := by rw [hc1 _ _ (by simp; try omega)]; simp [go_sem]
  have rf : ∀ i, w1.frozen? ⟨w.heap.size + 1, i, none⟩ = false := fun i => by rw [hf1 _ _ (by simp; try omega)]; simp [go_sem]
  have bf : ∀ i, w1.frozen? ⟨w.heap.size, i, none⟩ = false := fun i => by rw [hf1 _ _ (by simp; try omega)]; simp [go_sem]
  clear hc1 hf1 hb1
  go_wp2_with fail
  refine (inRange_any f 0 3 _).mono ?_
  rintro e w' ⟨rfl, rfl⟩
  go_wp2_with fail
  refine bodyPost_ret (v := .tuple #[.agg #[.string o.sent, .slice A3 o.heads.length c3, .slice A4 o.bufs.length c4], .bool false]) (by simp [results, Try.results13, go_sem, r0, r1, r2, rf, qa, qb]) rfl ⟨_, rfl, ⟨_, _, rfl, ?_, ?_⟩, ?_⟩
  · refine ownsRow_le (base := w.heap.size + 2) ?_ (by omega)
    repeat (first | (refine ownsRow_setCell_below ?_ (by simp) _) | (refine World.ownsRow.alloc ?_ _))
    exact O1.out
  · refine ownsRow_le (base := w.heap.size + 2) ?_ (by omega)
    repeat (first | (refine ownsRow_setCell_below ?_ (by simp) _) | (refine World.ownsRow.alloc ?_ _))
    exact O2.out
  · repeat (first | exact hB1 | (refine Below.setCell ?_ (by simp; try omega) _) | (refine Below.alloc ?_ (by simp; try omega) _))
set_option maxHeartbeats 2000000 in
theorem start_impl_b (o : Out) (f : Int) (v : Value) (w : World) (l1 : o.heads.length ≤ 1048576) (l2 : o.bufs.length ≤ 1048576) {B : Nat} (hB : B ≤ w.heap.size) (hr : OutR w B v o) (h0 : inB f 0 3 = true) (h5 : 5 ≤ o.bufs.length) :
    Calls Try.prog 13 #[v, .int .i64 f] w fun e w' => ∃ u, e = .returned (.tuple #[u, .bool false]) ∧ OutO w' w.heap.size u o ∧ Below w.heap.size w w' := by
  obtain ⟨A1, c1, A2, c2, rfl⟩ := hr.form
  have HR := Lib.hid hr
  clear hr
  go_enter Try.func13, Try.ntmps13
  go_wp2_with fail
  refine (copy_impl o _ _ l1 l2 (B := B) (by simp; omega) (HR.out.below (((Below.refl w.heap.size w).alloc (Nat.le_refl _) _).alloc (by simp) _) hB)).mono ?_
  rintro e w1 ⟨u1, rfl, own1, hb1⟩
  obtain ⟨A3, c3, A4, c4, rfl⟩ := own1.form
  obtain ⟨h3, h4, he, P1, P2⟩ := own1
  simp only [Value.agg.injEq, Array.mk.injEq, List.cons.injEq, true_and, and_true] at he
  obtain ⟨rfl, rfl⟩ := he
  have O1 := Lib.hid (ownsRow_le P1 (show w.heap.size + 2 ≤ _ by simp))
  have O2 := Lib.hid (ownsRow_le P2 (show w.heap.size + 2 ≤ _ by simp))
  have CP := own_cap P2
  clear P1 P2
  have hc1 := (bcell hb1).1
  have hf1 := (bcell hb1).2
  have qz : w.heap.size + 2 ≤ w1.heap.size := by have := hb1.size; simpa using this
  have hB1 : Below w.heap.size w w1 := (((Below.refl w.heap.size w).alloc (Nat.le_refl _) _).alloc (by simp) _).trans (hb1.mono (by simp; omega))
  have qa : w.heap.size < w1.heap.size := by omega
  have qb : w.heap.size + 1 < w1.heap.size := by omega
  have b0 : w1.cell? ⟨w.heap.size, 0, none⟩ = some (.string o.sent) := by rw [hc1 _ _ (by simp; try omega)]; simp [go_sem]
  have b1 : w1.cell? ⟨w.heap.size, 1, none⟩ = some (.slice A1 o.heads.length c1) := by rw [hc1 _ _ (by simp; try omega)]; simp [go_sem]
  have b2 : w1.cell? ⟨w.heap.size, 2, none⟩ = some (.slice A2 o.bufs.length c2) := by rw [hc1 _ _ (by simp; try omega)]; simp [go_sem]
  have r0 : w1.cell? ⟨w.heap.size + 1, 0, none⟩ = some (.string ⟨#[]⟩) := by rw [hc1 _ _ (by simp; try omega)]; simp [go_sem]
  have r1 : w1.cell? ⟨w.heap.size + 1, 1, none⟩ = some (.slice none 0 0) := by rw [hc1 _ _ (by simp; try omega)]; simp [go_sem]
  have r2 : w1.cell? ⟨w.heap.size + 1, 2, none⟩ = some (.slice none 0 0) := by rw [hc1 _ _ (by simp; try omega)]; simp [go_sem]
  have rf : ∀ i, w1.frozen? ⟨w.heap.size + 1, i, none⟩ = false := fun i => by rw [hf1 _ _ (by simp; try omega)]; simp [go_sem]
  have bf : ∀ i, w1.frozen? ⟨w.heap.size, i, none⟩ = false := fun i => by rw [hf1 _ _ (by simp; try omega)]; simp [go_sem]
  clear hc1 hf1 hb1
  go_wp2_with fail
  refine (inRange_any f 0 3 _).mono ?_
  rintro e w' ⟨rfl, rfl⟩
  go_wp2_with fail
  refine bodyPost_ret (v := .tuple #[.agg #[.string o.sent, .slice A3 o.heads.length c3, .slice A4 o.bufs.length c4], .bool false]) (by simp [results, Try.results13, go_sem, r0, r1, r2, rf, qa, qb]) rfl ⟨_, rfl, ⟨_, _, rfl, ?_, ?_⟩, ?_⟩
  · refine ownsRow_le (base := w.heap.size + 2) ?_ (by omega)
    repeat (first | (refine ownsRow_setCell_below ?_ (by simp) _) | (refine World.ownsRow.alloc ?_ _))
    exact O1.out
  · refine ownsRow_le (base := w.heap.size + 2) ?_ (by omega)
    repeat (first | (refine ownsRow_setCell_below ?_ (by simp) _) | (refine World.ownsRow.alloc ?_ _))
    exact O2.out
  · repeat (first | exact hB1 | (refine Below.setCell ?_ (by simp; try omega) _) | (refine Below.alloc ?_ (by simp; try omega) _))
set_option maxHeartbeats 2000000 in
theorem start_impl_c (o : Out) (f : Int) (v : Value) (w : World) (l1 : o.heads.length ≤ 1048576) (l2 : o.bufs.length ≤ 1048576) {B : Nat} (hB : B ≤ w.heap.size) (hr : OutR w B v o) (h0 : inB f 0 3 = true) (h5 : o.bufs.length < 5) :
    Calls Try.prog 13 #[v, .int .i64 f] w fun e w' => ∃ u, e = .returned (.tuple #[u, .bool true]) ∧ OutO w' w.heap.size u (startY o f) ∧ Below w.heap.size w w' := by
  obtain ⟨A1, c1, A2, c2, rfl⟩ := hr.form
  have HR := Lib.hid hr
  clear hr
  go_enter Try.func13, Try.ntmps13
  go_wp2_with fail
  refine (copy_impl o _ _ l1 l2 (B := B) (by simp; omega) (HR.out.below (((Below.refl w.heap.size w).alloc (Nat.le_refl _) _).alloc (by simp) _) hB)).mono ?_
  rintro e w1 ⟨u1, rfl, own1, hb1⟩
  obtain ⟨A3, c3, A4, c4, rfl⟩ := own1.form
  obtain ⟨h3, h4, he, P1, P2⟩ := own1
  simp only [Value.agg.injEq, Array.mk.injEq, List.cons.injEq, true_and, and_true] at he
  obtain ⟨rfl, rfl⟩ := he
  have O1 := Lib.hid (ownsRow_le P1 (show w.heap.size + 2 ≤ _ by simp))
  have O2 := Lib.hid (ownsRow_le P2 (show w.heap.size + 2 ≤ _ by simp))
  have CP := own_cap P2
  clear P1 P2
  have hc1 := (bcell hb1).1
  have hf1 := (bcell hb1).2
  have qz : w.heap.size + 2 ≤ w1.heap.size := by have := hb1.size; simpa using this
  have hB1 : Below w.heap.size w w1 := (((Below.refl w.heap.size w).alloc (Nat.le_refl _) _).alloc (by simp) _).trans (hb1.mono (by simp; omega))
  have qa : w.heap.size < w1.heap.size := by omega
  have qb : w.heap.size + 1 < w1.heap.size := by omega
  have b0 : w1.cell? ⟨w.heap.size, 0, none⟩ = some (.string o.sent) := by rw [hc1 _ _ (by simp; try omega)]; simp [go_sem]
  have b1 : w1.cell? ⟨w.heap.size, 1, none⟩ = some (.slice A1 o.heads.length c1) := by rw [hc1 _ _ (by simp; try omega)]; simp [go_sem]
  have b2 : w1.cell? ⟨w.heap.size, 2, none⟩ = some (.slice A2 o.bufs.length c2) := by rw [hc1 _ _ (by simp; try omega)]; simp [go_sem]
  have r0 : w1.cell? ⟨w.heap.size + 1, 0, none⟩ = some (.string ⟨#[]⟩) := by rw [hc1 _ _ (by simp; try omega)]; simp [go_sem]
  have r1 : w1.cell? ⟨w.heap.size + 1, 1, none⟩ = some (.slice none 0 0) := by rw [hc1 _ _ (by simp; try omega)]; simp [go_sem]
  have r2 : w1.cell? ⟨w.heap.size + 1, 2, none⟩ = some (.slice none 0 0) := by rw [hc1 _ _ (by simp; try omega)]; simp [go_sem]
  have rf : ∀ i, w1.frozen? ⟨w.heap.size + 1, i, none⟩ = false := fun i => by rw [hf1 _ _ (by simp; try omega)]; simp [go_sem]
  have bf : ∀ i, w1.frozen? ⟨w.heap.size, i, none⟩ = false := fun i => by rw [hf1 _ _ (by simp; try omega)]; simp [go_sem]
  clear hc1 hf1 hb1
  go_wp2_with fail
  refine (inRange_any f 0 3 _).mono ?_
  rintro e w' ⟨rfl, rfl⟩
  have L2 := Lib.hid (own_lt O2.out)
  have L3 := Lib.hid (types_ne O1.out O2.out (by decide))
  have hrd : Rd ((w1.alloc (.cells #[.string o.sent, .slice A3 o.heads.length c3, .slice A4 o.bufs.length c4] 27)).alloc (.cells #[.int .i64 f, .string ⟨#[]⟩] 61)) (w1.heap.size + 2) 2 (.slice (some ⟨w1.heap.size + 1, 0, none⟩) 1 1) 1 [.int .i64 f, .string ⟨#[]⟩] := by
    refine ⟨_, _, rfl, Nat.le_refl _, by unfold maxLen; omega, rfl, fun _ => ⟨_, _, rfl, by omega, fun j u hu => ?_⟩⟩
    match j, hu with
    | 0, hu => obtain rfl : Value.int .i64 f = u := by simpa using hu
               simp [go_sem]
    | 1, hu => obtain rfl : Value.string ⟨#[]⟩ = u := by simpa using hu
               simp [go_sem]
  have RDX := Lib.hid hrd
  clear hrd
  go_wp2_with (at_builtin; go_must (refine wpList_append_rd _ rfl (.tmp 20) (.tmp 23) _ rfl (w.heap.size + 2) _ _ _ 24 Try.underlying25 infoBuffer rfl (by omega) (.slice A4 o.bufs.length c4) o.bufs.length _ rfl ((O2.out.alloc _).alloc _) (w1.heap.size + 2) _ 1 _ [.int .i64 f, .string ⟨#[]⟩] rfl RDX.out (by intro u hu; simp only [List.mem_cons, List.not_mem_nil, or_false] at hu; rcases hu with rfl | rfl <;> rfl) (by unfold maxLen; omega) (by omega) (by simp; omega) ?_); intro v2 w2 hown2 hg2 hat2; obtain ⟨A5, c5, rfl⟩ := own_form hown2; have k1 := Lib.hid (fun k hk hne => keep2 hg2 k hk hne); have m0 := (World.cell?_of_block (a := ⟨w.heap.size + 1, 0, none⟩) (k1.out (w.heap.size + 1) qb (fun e => by have := (L2.out _ e.symm).1; omega))).trans r0; have m1 := (World.cell?_of_block (a := ⟨w.heap.size + 1, 1, none⟩) (k1.out (w.heap.size + 1) qb (fun e => by have := (L2.out _ e.symm).1; omega))).trans r1; have m2 := (World.cell?_of_block (a := ⟨w.heap.size + 1, 2, none⟩) (k1.out (w.heap.size + 1) qb (fun e => by have := (L2.out _ e.symm).1; omega))).trans r2; have mf := fun i => (World.frozen?_of_block (a := ⟨w.heap.size + 1, i, none⟩) (k1.out (w.heap.size + 1) qb (fun e => by have := (L2.out _ e.symm).1; omega))).trans (rf i); have nb : Bx w2 w1.heap.size 27 (.string o.sent) (.slice A3 o.heads.length c3) (.slice A4 o.bufs.length c4) := keep2' hg2 (fun e => by have := (L2.out _ e.symm).2; omega); have n0 := nb.cell0; have n1 := nb.cell1; have n2 := nb.cell2; have nf := fun i => nb.frozen i; have ql := nb.lt; have X1 : (Value.slice A3 o.heads.length c3).ownBlock ≠ some w1.heap.size := fun e => Nat.lt_irrefl _ (own_lt O1.out _ e).2; have Q1 := Lib.hid (own_keep O1.out (w' := w2) (fun g hg => k1.out g (own_lt O1.out g hg).2 (fun e => L3.out g hg e.symm))); have HG2 := Lib.hid hg2; have X2 : (Value.slice A5 (o.bufs.length + 1) c5).ownBlock ≠ some w1.heap.size := not_out (fun g hg => (L2.out g hg).2) hat2)
  refine bodyPost_ret (v := .tuple #[.agg #[.string o.sent, .slice A3 o.heads.length c3, .slice A5 (o.bufs.length + 1) c5], .bool true]) (by simp [results, Try.results13, go_sem, m0, m1, m2, mf, n0, n1, n2, nf]) rfl ⟨_, rfl, ⟨_, _, rfl, ?_, ?_⟩, ?_⟩
  · refine ownsRow_le (base := w.heap.size + 2) ?_ (by omega)
    repeat (first | (refine ownsRow_setCell_ne ?_ _ (by assumption)) | (refine ownsRow_setCell_below ?_ (by simp) _))
    exact Q1.out
  · refine ownsRow_le (base := w.heap.size + 2) ?_ (by omega)
    repeat (first | (refine ownsRow_setCell_ne ?_ _ (by assumption)) | (refine ownsRow_setCell_below ?_ (by simp) _))
    show w2.ownsRow _ _ 2 _ (startY o f).bufs.length (FBuffer.flat (startY o f).bufs)
    have e : FBuffer.flat (startY o f).bufs = FBuffer.flat o.bufs ++ [.int .i64 f, .string ⟨#[]⟩] := flat_snoc o.bufs ⟨f, ⟨#[]⟩⟩
    have e2 : (startY o f).bufs.length = o.bufs.length + 1 := by simp [startY]
    rw [e, e2]
    exact hown2
  · have hg2 := HG2.out
    have hBw : Below w.heap.size w w2 := (((hB1.alloc (by omega) _).alloc (by simp; omega) _).grown hg2 (by simp; omega) (fun k hk => by have := (L2.out k hk).1; omega))
    repeat (first | exact hBw | (refine Below.setCell ?_ (by simp; try omega) _))
theorem start_impl (o : Out) (f : Int) (v : Value) (w : World) (l1 : o.heads.length ≤ 1048576) (l2 : o.bufs.length ≤ 1048576) {B : Nat} (hB : B ≤ w.heap.size) (hr : OutR w B v o) :
    Calls Try.prog 13 #[v, .int .i64 f] w fun e w' => ∃ u, e = .returned (.tuple #[u, .bool (startB o f)]) ∧ OutO w' w.heap.size u (startF o f) ∧ Below w.heap.size w w' := by
  by_cases h0 : inB f 0 3 = true
  · by_cases h5 : o.bufs.length < 5
    · have hb : startB o f = true := by unfold startB; rw [h0, decide_eq_true h5]; rfl
      have hf : startF o f = startY o f := by unfold startF; rw [if_pos hb]
      rw [hb, hf]
      exact start_impl_c o f v w l1 l2 hB hr h0 h5
    · have hb : startB o f = false := by unfold startB; rw [decide_eq_false h5]; simp
      have hf : startF o f = o := by unfold startF; rw [hb]; rfl
      rw [hb, hf]
      exact start_impl_b o f v w l1 l2 hB hr h0 (by omega)
  · have h0' : inB f 0 3 = false := by simpa using h0
    have hb : startB o f = false := by unfold startB; rw [h0']; rfl
    have hf : startF o f = o := by unfold startF; rw [hb]; rfl
    rw [hb, hf]
    exact start_impl_a o f v w l1 l2 hB hr h0'
set_option maxHeartbeats 2000000 in
theorem start_spec_a (o : Out) (f : Int) (v : Value) (w : World) (l1 : o.heads.length ≤ 1048576) (l2 : o.bufs.length ≤ 1048576) {B : Nat} (hB : B ≤ w.heap.size) (hr : OutR w B v o) (h0 : inB f 0 3 = false) :
    Calls Try.prog 43 #[v, .int .i64 f] w fun e w' => ∃ u, e = .returned (.tuple #[u, .bool false]) ∧ OutO w' w.heap.size u o ∧ Below w.heap.size w w' := by
  obtain ⟨A1, c1, A2, c2, rfl⟩ := hr.form
  have HR := Lib.hid hr
  clear hr
  go_enter Try.func43, Try.ntmps43
  go_wp2_with fail
  refine (copy_spec o _ _ l1 l2 (B := B) (by simp; omega) (HR.out.below (((Below.refl w.heap.size w).alloc (Nat.le_refl _) _).alloc (by simp) _) hB)).mono ?_
  rintro e w1 ⟨u1, rfl, own1, hb1⟩
  obtain ⟨A3, c3, A4, c4, rfl⟩ := own1.form
  obtain ⟨h3, h4, he, P1, P2⟩ := own1
  simp only [Value.agg.injEq, Array.mk.injEq, List.cons.injEq, true_and, and_true] at he
  obtain ⟨rfl, rfl⟩ := he
  have O1 := Lib.hid (ownsRow_le P1 (show w.heap.size + 2 ≤ _ by simp))
  have O2 := Lib.hid (ownsRow_le P2 (show w.heap.size + 2 ≤ _ by simp))
  have CP := own_cap P2
  clear P1 P2
  have hc1 := (bcell hb1).1
  have hf1 := (bcell hb1).2
  have qz : w.heap.size + 2 ≤ w1.heap.size := by have := hb1.size; simpa using this
  have hB1 : Below w.heap.size w w1 := (((Below.refl w.heap.size w).alloc (Nat.le_refl _) _).alloc (by simp) _).trans (hb1.mono (by simp; omega))
  have qa : w.heap.size < w1.heap.size := by omega
  have qb : w.heap.size + 1 < w1.heap.size := by omega
  have b0 : w1.cell? ⟨w.heap.size, 0, none⟩ = some (.string o.sent) := by rw [hc1 _ _ (by simp; try omega)]; simp [go_sem]
  have b1 : w1.cell? ⟨w.heap.size, 1, none⟩ = some (.slice A1 o.heads.length c1) := by rw [hc1 _ _ (by simp; try omega)]; simp [go_sem]
  have b2 : w1.cell? ⟨w.heap.size, 2, none⟩ = some (.slice A2 o.bufs.length c2) := by rw [hc1 _ _ (by simp; try omega)]; simp [go_sem]
  have r0 : w1.cell? ⟨w.heap.size + 1, 0, none⟩ = some (.string ⟨#[]⟩) := by rw [hc1 _ _ (by simp; try omega)]; simp [go_sem]
  have r1 : w1.cell? ⟨w.heap.size + 1, 1, none⟩ = some (.slice none 0 0) := by rw [hc1 _ _ (by simp; try omega)]; simp [go_sem]
  have r2 : w1.cell? ⟨w.heap.size + 1, 2, none⟩ = some (.slice none 0 0) := by rw [hc1 _ _ (by simp; try omega)]; simp [go_sem]
  have rf : ∀ i, w1.frozen? ⟨w.heap.size + 1, i, none⟩ = false := fun i => by rw [hf1 _ _ (by simp; try omega)]; simp [go_sem]
  have bf : ∀ i, w1.frozen? ⟨w.heap.size, i, none⟩ = false := fun i => by rw [hf1 _ _ (by simp; try omega)]; simp [go_sem]
  clear hc1 hf1 hb1
  go_wp2_with fail
  refine (l1In_any f 0 3 _).mono ?_
  rintro e w' ⟨rfl, rfl⟩
  go_wp2_with fail
  refine bodyPost_ret (v := .tuple #[.agg #[.string o.sent, .slice A3 o.heads.length c3, .slice A4 o.bufs.length c4], .bool false]) (by simp [results, Try.results43, go_sem, r0, r1, r2, rf, qa, qb]) rfl ⟨_, rfl, ⟨_, _, rfl, ?_, ?_⟩, ?_⟩
  · refine ownsRow_le (base := w.heap.size + 2) ?_ (by omega)
    repeat (first | (refine ownsRow_setCell_below ?_ (by simp) _) | (refine World.ownsRow.alloc ?_ _))
    exact O1.out
  · refine ownsRow_le (base := w.heap.size + 2) ?_ (by omega)
    repeat (first | (refine ownsRow_setCell_below ?_ (by simp) _) | (refine World.ownsRow.alloc ?_ _))
    exact O2.out
  · repeat (first | exact hB1 | (refine Below.setCell ?_ (by simp; try omega) _) | (refine Below.alloc ?_ (by simp; try omega) _))
set_option maxHeartbeats 2000000 in
theorem start_spec_b (o : Out) (f : Int) (v : Value) (w : World) (l1 : o.heads.length ≤ 1048576) (l2 : o.bufs.length ≤ 1048576) {B : Nat} (hB : B ≤ w.heap.size) (hr : OutR w B v o) (h0 : inB f 0 3 = true) (h5 : 5 ≤ o.bufs.length) :
    Calls Try.prog 43 #[v, .int .i64 f] w fun e w' => ∃ u, e = .returned (.tuple #[u, .bool false]) ∧ OutO w' w.heap.size u o ∧ Below w.heap.size w w' := by
  obtain ⟨A1, c1, A2, c2, rfl⟩ := hr.form
  have HR := Lib.hid hr
  clear hr
  go_enter Try.func43, Try.ntmps43
  go_wp2_with fail
  refine (copy_spec o _ _ l1 l2 (B := B) (by simp; omega) (HR.out.below (((Below.refl w.heap.size w).alloc (Nat.le_refl _) _).alloc (by simp) _) hB)).mono ?_
  rintro e w1 ⟨u1, rfl, own1, hb1⟩
  obtain ⟨A3, c3, A4, c4, rfl⟩ := own1.form
  obtain ⟨h3, h4, he, P1, P2⟩ := own1
  simp only [Value.agg.injEq, Array.mk.injEq, List.cons.injEq, true_and, and_true] at he
  obtain ⟨rfl, rfl⟩ := he
  have O1 := Lib.hid (ownsRow_le P1 (show w.heap.size + 2 ≤ _ by simp))
  have O2 := Lib.hid (ownsRow_le P2 (show w.heap.size + 2 ≤ _ by simp))
  have CP := own_cap P2
  clear P1 P2
  have hc1 := (bcell hb1).1
  have hf1 := (bcell hb1).2
  have qz : w.heap.size + 2 ≤ w1.heap.size := by have := hb1.size; simpa using this
  have hB1 : Below w.heap.size w w1 := (((Below.refl w.heap.size w).alloc (Nat.le_refl _) _).alloc (by simp) _).trans (hb1.mono (by simp; omega))
  have qa : w.heap.size < w1.heap.size := by omega
  have qb : w.heap.size + 1 < w1.heap.size := by omega
  have b0 : w1.cell? ⟨w.heap.size, 0, none⟩ = some (.string o.sent) := by rw [hc1 _ _ (by simp; try omega)]; simp [go_sem]
  have b1 : w1.cell? ⟨w.heap.size, 1, none⟩ = some (.slice A1 o.heads.length c1) := by rw [hc1 _ _ (by simp; try omega)]; simp [go_sem]
  have b2 : w1.cell? ⟨w.heap.size, 2, none⟩ = some (.slice A2 o.bufs.length c2) := by rw [hc1 _ _ (by simp; try omega)]; simp [go_sem]
  have r0 : w1.cell? ⟨w.heap.size + 1, 0, none⟩ = some (.string ⟨#[]⟩) := by rw [hc1 _ _ (by simp; try omega)]; simp [go_sem]
  have r1 : w1.cell? ⟨w.heap.size + 1, 1, none⟩ = some (.slice none 0 0) := by rw [hc1 _ _ (by simp; try omega)]; simp [go_sem]
  have r2 : w1.cell? ⟨w.heap.size + 1, 2, none⟩ = some (.slice none 0 0) := by rw [hc1 _ _ (by simp; try omega)]; simp [go_sem]
  have rf : ∀ i, w1.frozen? ⟨w.heap.size + 1, i, none⟩ = false := fun i => by rw [hf1 _ _ (by simp; try omega)]; simp [go_sem]
  have bf : ∀ i, w1.frozen? ⟨w.heap.size, i, none⟩ = false := fun i => by rw [hf1 _ _ (by simp; try omega)]; simp [go_sem]
  clear hc1 hf1 hb1
  go_wp2_with fail
  refine (l1In_any f 0 3 _).mono ?_
  rintro e w' ⟨rfl, rfl⟩
  go_wp2_with fail
  refine bodyPost_ret (v := .tuple #[.agg #[.string o.sent, .slice A3 o.heads.length c3, .slice A4 o.bufs.length c4], .bool false]) (by simp [results, Try.results43, go_sem, r0, r1, r2, rf, qa, qb]) rfl ⟨_, rfl, ⟨_, _, rfl, ?_, ?_⟩, ?_⟩
  · refine ownsRow_le (base := w.heap.size + 2) ?_ (by omega)
    repeat (first | (refine ownsRow_setCell_below ?_ (by simp) _) | (refine World.ownsRow.alloc ?_ _))
    exact O1.out
  · refine ownsRow_le (base := w.heap.size + 2) ?_ (by omega)
    repeat (first | (refine ownsRow_setCell_below ?_ (by simp) _) | (refine World.ownsRow.alloc ?_ _))
    exact O2.out
  · repeat (first | exact hB1 | (refine Below.setCell ?_ (by simp; try omega) _) | (refine Below.alloc ?_ (by simp; try omega) _))
set_option maxHeartbeats 2000000 in
theorem start_spec_c (o : Out) (f : Int) (v : Value) (w : World) (l1 : o.heads.length ≤ 1048576) (l2 : o.bufs.length ≤ 1048576) {B : Nat} (hB : B ≤ w.heap.size) (hr : OutR w B v o) (h0 : inB f 0 3 = true) (h5 : o.bufs.length < 5) :
    Calls Try.prog 43 #[v, .int .i64 f] w fun e w' => ∃ u, e = .returned (.tuple #[u, .bool true]) ∧ OutO w' w.heap.size u (startY o f) ∧ Below w.heap.size w w' := by
  obtain ⟨A1, c1, A2, c2, rfl⟩ := hr.form
  have HR := Lib.hid hr
  clear hr
  go_enter Try.func43, Try.ntmps43
  go_wp2_with fail
  refine (copy_spec o _ _ l1 l2 (B := B) (by simp; omega) (HR.out.below (((Below.refl w.heap.size w).alloc (Nat.le_refl _) _).alloc (by simp) _) hB)).mono ?_
  rintro e w1 ⟨u1, rfl, own1, hb1⟩
  obtain ⟨A3, c3, A4, c4, rfl⟩ := own1.form
  obtain ⟨h3, h4, he, P1, P2⟩ := own1
  simp only [Value.agg.injEq, Array.mk.injEq, List.cons.injEq, true_and, and_true] at he
  obtain ⟨rfl, rfl⟩ := he
  have O1 := Lib.hid (ownsRow_le P1 (show w.heap.size + 2 ≤ _ by simp))
  have O2 := Lib.hid (ownsRow_le P2 (show w.heap.size + 2 ≤ _ by simp))
  have CP := own_cap P2
  clear P1 P2
  have hc1 := (bcell hb1).1
  have hf1 := (bcell hb1).2
  have qz : w.heap.size + 2 ≤ w1.heap.size := by have := hb1.size; simpa using this
  have hB1 : Below w.heap.size w w1 := (((Below.refl w.heap.size w).alloc (Nat.le_refl _) _).alloc (by simp) _).trans (hb1.mono (by simp; omega))
  have qa : w.heap.size < w1.heap.size := by omega
  have qb : w.heap.size + 1 < w1.heap.size := by omega
  have b0 : w1.cell? ⟨w.heap.size, 0, none⟩ = some (.string o.sent) := by rw [hc1 _ _ (by simp; try omega)]; simp [go_sem]
  have b1 : w1.cell? ⟨w.heap.size, 1, none⟩ = some (.slice A1 o.heads.length c1) := by rw [hc1 _ _ (by simp; try omega)]; simp [go_sem]
  have b2 : w1.cell? ⟨w.heap.size, 2, none⟩ = some (.slice A2 o.bufs.length c2) := by rw [hc1 _ _ (by simp; try omega)]; simp [go_sem]
  have r0 : w1.cell? ⟨w.heap.size + 1, 0, none⟩ = some (.string ⟨#[]⟩) := by rw [hc1 _ _ (by simp; try omega)]; simp [go_sem]
  have r1 : w1.cell? ⟨w.heap.size + 1, 1, none⟩ = some (.slice none 0 0) := by rw [hc1 _ _ (by simp; try omega)]; simp [go_sem]
  have r2 : w1.cell? ⟨w.heap.size + 1, 2, none⟩ = some (.slice none 0 0) := by rw [hc1 _ _ (by simp; try omega)]; simp [go_sem]
  have rf : ∀ i, w1.frozen? ⟨w.heap.size + 1, i, none⟩ = false := fun i => by rw [hf1 _ _ (by simp; try omega)]; simp [go_sem]
  have bf : ∀ i, w1.frozen? ⟨w.heap.size, i, none⟩ = false := fun i => by rw [hf1 _ _ (by simp; try omega)]; simp [go_sem]
  clear hc1 hf1 hb1
  go_wp2_with fail
  refine (l1In_any f 0 3 _).mono ?_
  rintro e w' ⟨rfl, rfl⟩
  have L2 := Lib.hid (own_lt O2.out)
  have L3 := Lib.hid (types_ne O1.out O2.out (by decide))
  have hrd : Rd ((w1.alloc (.cells #[.string o.sent, .slice A3 o.heads.length c3, .slice A4 o.bufs.length c4] 27)).alloc (.cells #[.int .i64 f, .string ⟨#[]⟩] 61)) (w1.heap.size + 2) 2 (.slice (some ⟨w1.heap.size + 1, 0, none⟩) 1 1) 1 [.int .i64 f, .string ⟨#[]⟩] := by
    refine ⟨_, _, rfl, Nat.le_refl _, by unfold maxLen; omega, rfl, fun _ => ⟨_, _, rfl, by omega, fun j u hu => ?_⟩⟩
    match j, hu with
    | 0, hu => obtain rfl : Value.int .i64 f = u := by simpa using hu
               simp [go_sem]
    | 1, hu => obtain rfl : Value.string ⟨#[]⟩ = u := by simpa using hu
               simp [go_sem]
  have RDX := Lib.hid hrd
  clear hrd
  go_wp2_with (at_builtin; go_must (refine wpList_append_rd _ rfl (.tmp 20) (.tmp 23) _ rfl (w.heap.size + 2) _ _ _ 24 Try.underlying25 infoBuffer rfl (by omega) (.slice A4 o.bufs.length c4) o.bufs.length _ rfl ((O2.out.alloc _).alloc _) (w1.heap.size + 2) _ 1 _ [.int .i64 f, .string ⟨#[]⟩] rfl RDX.out (by intro u hu; simp only [List.mem_cons, List.not_mem_nil, or_false] at hu; rcases hu with rfl | rfl <;> rfl) (by unfold maxLen; omega) (by omega) (by simp; omega) ?_); intro v2 w2 hown2 hg2 hat2; obtain ⟨A5, c5, rfl⟩ := own_form hown2; have k1 := Lib.hid (fun k hk hne => keep2 hg2 k hk hne); have m0 := (World.cell?_of_block (a := ⟨w.heap.size + 1, 0, none⟩) (k1.out (w.heap.size + 1) qb (fun e => by have := (L2.out _ e.symm).1; omega))).trans r0; have m1 := (World.cell?_of_block (a := ⟨w.heap.size + 1, 1, none⟩) (k1.out (w.heap.size + 1) qb (fun e => by have := (L2.out _ e.symm).1; omega))).trans r1; have m2 := (World.cell?_of_block (a := ⟨w.heap.size + 1, 2, none⟩) (k1.out (w.heap.size + 1) qb (fun e => by have := (L2.out _ e.symm).1; omega))).trans r2; have mf := fun i => (World.frozen?_of_block (a := ⟨w.heap.size + 1, i, none⟩) (k1.out (w.heap.size + 1) qb (fun e => by have := (L2.out _ e.symm).1; omega))).trans (rf i); have nb : Bx w2 w1.heap.size 27 (.string o.sent) (.slice A3 o.heads.length c3) (.slice A4 o.bufs.length c4) := keep2' hg2 (fun e => by have := (L2.out _ e.symm).2; omega); have n0 := nb.cell0; have n1 := nb.cell1; have n2 := nb.cell2; have nf := fun i => nb.frozen i; have ql := nb.lt; have X1 : (Value.slice A3 o.heads.length c3).ownBlock ≠ some w1.heap.size := fun e => Nat.lt_irrefl _ (own_lt O1.out _ e).2; have Q1 := Lib.hid (own_keep O1.out (w' := w2) (fun g hg => k1.out g (own_lt O1.out g hg).2 (fun e => L3.out g hg e.symm))); have HG2 := Lib.hid hg2; have X2 : (Value.slice A5 (o.bufs.length + 1) c5).ownBlock ≠ some w1.heap.size := not_out (fun g hg => (L2.out g hg).2) hat2)
  refine bodyPost_ret (v := .tuple #[.agg #[.string o.sent, .slice A3 o.heads.length c3, .slice A5 (o.bufs.length + 1) c5], .bool true]) (by simp [results, Try.results43, go_sem, m0, m1, m2, mf, n0, n1, n2, nf]) rfl ⟨_, rfl, ⟨_, _, rfl, ?_, ?_⟩, ?_⟩
  · refine ownsRow_le (base := w.heap.size + 2) ?_ (by omega)
    repeat (first | (refine ownsRow_setCell_ne ?_ _ (by assumption)) | (refine ownsRow_setCell_below ?_ (by simp) _))
    exact Q1.out
  · refine ownsRow_le (base := w.heap.size + 2) ?_ (by omega)
    repeat (first | (refine ownsRow_setCell_ne ?_ _ (by assumption)) | (refine ownsRow_setCell_below ?_ (by simp) _))
    show w2.ownsRow _ _ 2 _ (startY o f).bufs.length (FBuffer.flat (startY o f).bufs)
    have e : FBuffer.flat (startY o f).bufs = FBuffer.flat o.bufs ++ [.int .i64 f, .string ⟨#[]⟩] := flat_snoc o.bufs ⟨f, ⟨#[]⟩⟩
    have e2 : (startY o f).bufs.length = o.bufs.length + 1 := by simp [startY]
    rw [e, e2]
    exact hown2
  · have hg2 := HG2.out
    have hBw : Below w.heap.size w w2 := (((hB1.alloc (by omega) _).alloc (by simp; omega) _).grown hg2 (by simp; omega) (fun k hk => by have := (L2.out k hk).1; omega))
    repeat (first | exact hBw | (refine Below.setCell ?_ (by simp; try omega) _))
theorem start_spec (o : Out) (f : Int) (v : Value) (w : World) (l1 : o.heads.length ≤ 1048576) (l2 : o.bufs.length ≤ 1048576) {B : Nat} (hB : B ≤ w.heap.size) (hr : OutR w B v o) :
    Calls Try.prog 43 #[v, .int .i64 f] w fun e w' => ∃ u, e = .returned (.tuple #[u, .bool (startB o f)]) ∧ OutO w' w.heap.size u (startF o f) ∧ Below w.heap.size w w' := by
  by_cases h0 : inB f 0 3 = true
  · by_cases h5 : o.bufs.length < 5
    · have hb : startB o f = true := by unfold startB; rw [h0, decide_eq_true h5]; rfl
      have hf : startF o f = startY o f := by unfold startF; rw [if_pos hb]
      rw [hb, hf]
      exact start_spec_c o f v w l1 l2 hB hr h0 h5
    · have hb : startB o f = false := by unfold startB; rw [decide_eq_false h5]; simp
      have hf : startF o f = o := by unfold startF; rw [hb]; rfl
      rw [hb, hf]
      exact start_spec_b o f v w l1 l2 hB hr h0 (by omega)
  · have h0' : inB f 0 3 = false := by simpa using h0
    have hb : startB o f = false := by unfold startB; rw [h0']; rfl
    have hf : startF o f = o := by unfold startF; rw [hb]; rfl
    rw [hb, hf]
    exact start_spec_a o f v w l1 l2 hB hr h0'
end Go.Proofs.Ytnbedjfmhnpjaaa
