/-
  Outputs as a whole: reading one, owning one, and what the laws' conversion, size, comparison and marking return. Conditions: none.
-/
import Derived.Test.YtikebdhpgmejpaaOutA
namespace Go.Proofs.Ytikebdhpgmejpaa
open Go.ChangeShapes Go.WideShapes Go.ChangeAt Go.RowKit Go.Deep Go.Joins
open Go.ChangeMaps (open_string shut_string)
set_option linter.unusedVariables false
set_option maxRecDepth 100000

structure Out where
  sent : ByteArray
  heads : List FHeader
  bufs : List FBuffer
/-- The value v reads as the output o, below block B. -/
def OutR (w : World) (B : Nat) (v : Value) (o : Out) : Prop :=
  ∃ hv bv, v = .agg #[.string o.sent, hv, bv] ∧ Rd w B 2 hv o.heads.length (FHeader.flat o.heads) ∧ Rd w B 2 bv o.bufs.length (FBuffer.flat o.bufs)
/-- The value v is the output o, and its rows are its own, from block B on. -/
def OutO (w : World) (B : Nat) (v : Value) (o : Out) : Prop :=
  ∃ hv bv, v = .agg #[.string o.sent, hv, bv] ∧ w.ownsRow B 52 2 hv o.heads.length (FHeader.flat o.heads) ∧ w.ownsRow B 62 2 bv o.bufs.length (FBuffer.flat o.bufs)
/-- Not too many headers and buffers. -/
def Out.small (o : Out) : Prop := o.heads.length ≤ 1048576 ∧ o.bufs.length ≤ 1048576
section
variable {w w' : World} {B C : Nat} {v : Value} {o : Out}
theorem OutR.more (h : OutR w B v o) (hB : B ≤ C) : OutR w C v o := by
  obtain ⟨hv, bv, rfl, h1, h2⟩ := h
  exact ⟨hv, bv, rfl, h1.more hB, h2.more hB⟩
theorem OutR.below (h : OutR w B v o) (hb : Below C w w') (hC : B ≤ C) : OutR w' B v o := by
  obtain ⟨hv, bv, rfl, h1, h2⟩ := h
  exact ⟨hv, bv, rfl, h1.below hb hC, h2.below hb hC⟩
theorem OutR.keep (h : OutR w B v o) (hk : ∀ p : Addr, p.block < B → w'.cell? p = w.cell? p) : OutR w' B v o := by
  obtain ⟨hv, bv, rfl, h1, h2⟩ := h
  exact ⟨hv, bv, rfl, h1.keep hk, h2.keep hk⟩
theorem OutO.reads (h : OutO w B v o) : OutR w w.heap.size v o := by
  obtain ⟨hv, bv, rfl, h1, h2⟩ := h
  exact ⟨hv, bv, rfl, rd_of_own h1, rd_of_own h2⟩
theorem OutO.below (h : OutO w B v o) (hb : Below C w w') (hC : w.heap.size ≤ C) : OutO w' B v o := by
  obtain ⟨hv, bv, rfl, h1, h2⟩ := h
  exact ⟨hv, bv, rfl, own_below h1 hb hC, own_below h2 hb hC⟩
end
theorem OutO.form {w : World} {B : Nat} {v : Value} {o : Out} (h : OutO w B v o) : ∃ A1 c1 A2 c2, v = .agg #[.string o.sent, .slice A1 o.heads.length c1, .slice A2 o.bufs.length c2] := by
  obtain ⟨hv, bv, rfl, h1, h2⟩ := h
  obtain ⟨A1, c1, rfl⟩ := own_form h1
  obtain ⟨A2, c2, rfl⟩ := own_form h2
  exact ⟨A1, c1, A2, c2, rfl⟩
theorem below_chain {a b c : World} (h : Below a.heap.size a b) (k : Below b.heap.size b c) : Below a.heap.size a c := h.trans (k.mono h.size)

theorem toOutput_any (o : Out) (v : Value) (w : World) (hs : o.small) {B : Nat} (hB : B ≤ w.heap.size) (hr : OutR w B v o) :
    Calls Try.prog 15 #[v] w fun e w' => ∃ u, e = .returned u ∧ OutO w' w.heap.size u o ∧ Below w.heap.size w w' := by
  obtain ⟨hv, bv, rfl, h1, h2⟩ := hr
  obtain ⟨A1, c1, rfl⟩ := h1.form
  obtain ⟨A2, c2, rfl⟩ := h2.form
  have l1 : o.heads.length ≤ 1048576 := by unfold Out.small at hs; omega
  have l2 : o.bufs.length ≤ 1048576 := by unfold Out.small at hs; omega
  have H1 := Lib.hid h1
  have H2 := Lib.hid h2
  clear h1 h2 hs
  go_enter Try.func15, Try.ntmps15
  go_wp2_with fail
  refine (toHeaderS_any o.heads _ _ l1 (B := B) (by simp; omega) (H1.out.below (C := w.heap.size) (by repeat (first | exact Below.refl _ _ | (refine Below.alloc ?_ (by simp; try omega) _) | (refine Below.setCell ?_ (by simp) _))) hB)).mono ?_
  rintro e w1 ⟨rfl, own1, hb1⟩
  obtain ⟨hc1, hf1⟩ := bcell hb1
  have O1 := Lib.hid (show w1.ownsRow (w.heap.size + 3) 52 2 (.slice (some ⟨w.heap.size + 1 + 1 + 1, 0, none⟩) o.heads.length o.heads.length) o.heads.length (FHeader.flat o.heads) from ownsRow_le (by simpa using own1) (by omega))
  have hz1 := hb1.size
  simp at hz1
  clear own1
  have hB1 : Below w.heap.size w w1 := Below.trans (by repeat (first | exact Below.refl _ _ | (refine Below.alloc ?_ (by simp; try omega) _) | (refine Below.setCell ?_ (by simp; try omega) _))) (hb1.mono (by simp; omega))
  go_wp2_with fail
  refine (toBufferS_any o.bufs _ _ l2 (B := B) (by simp; omega) (H2.out.below (C := w.heap.size) (hB1.setCell (by simp; omega) _) hB)).mono ?_
  rintro e w2 ⟨rfl, own2, hb2⟩
  have hb2' : Below (w.heap.size + 3) (w1.setCell ⟨w.heap.size + 1 + 1, 1, none⟩ (.slice (some ⟨w.heap.size + 1 + 1 + 1, 0, none⟩) o.heads.length o.heads.length)) w2 := hb2.mono (by simp; omega)
  obtain ⟨hc2, hf2⟩ := bcell hb2'
  have hB2 : Below w.heap.size w w2 := (hB1.setCell (by simp; omega) _).trans (hb2.mono (by simp; omega))
  have hz2 := hb2.size
  simp at hz2
  have O2 := Lib.hid (show w2.ownsRow (w.heap.size + 3) 62 2 (.slice (some ⟨w1.heap.size, 0, none⟩) o.bufs.length o.bufs.length) o.bufs.length (FBuffer.flat o.bufs) from ownsRow_le (by simpa using own2) (by omega))
  have O1' := Lib.hid (own_below (ownsRow_setCell_below O1.out (a := ⟨w.heap.size + 1 + 1, 1, none⟩) (by simp) _) hb2 (by simp))
  clear own2 hb2
  go_wp2_with fail
  refine bodyPost_ret (v := .agg #[.string o.sent, .slice (some ⟨w.heap.size + 1 + 1 + 1, 0, none⟩) o.heads.length o.heads.length, .slice (some ⟨w1.heap.size, 0, none⟩) o.bufs.length o.bufs.length]) (by simp [results, Try.results15, go_sem, hc2, hc1]) rfl ⟨_, rfl, ⟨_, _, rfl, ?_, ?_⟩, ?_⟩
  · refine ownsRow_le (base := w.heap.size + 3) ?_ (by omega)
    repeat (refine ownsRow_setCell_below ?_ (by simp) _)
    exact O1'.out
  · refine ownsRow_le (base := w.heap.size + 3) ?_ (by omega)
    repeat (refine ownsRow_setCell_below ?_ (by simp) _)
    exact O2.out
  · repeat (refine Below.setCell ?_ (by simp; try omega) _)
    exact hB2

def Out.wt (o : Out) : Nat := o.sent.size + ((o.heads.length + FHeader.wts o.heads) + (o.bufs.length + FBuffer.wts o.bufs))
def Out.ok (o : Out) : Prop := o.sent.size ≤ 9223372036854775807 ∧ (∀ x ∈ o.heads, x.ok) ∧ ∀ x ∈ o.bufs, x.ok
theorem szOutput_any (o : Out) (v : Value) (left : Int) (w : World) (hok : o.ok) (h0 : 0 ≤ left) (h1 : left ≤ 1048576) {B : Nat} (hB : B ≤ w.heap.size) (hr : OutR w B v o) :
    Calls Try.prog 13 #[v, .int .i64 left] w fun e w' => e = .returned (.int .i64 (bud left o.wt)) ∧ Below w.heap.size w w' := by
  obtain ⟨hv, bv, rfl, r1, r2⟩ := hr
  obtain ⟨A1, c1, rfl⟩ := r1.form
  obtain ⟨A2, c2, rfl⟩ := r2.form
  obtain ⟨k0, k1, k2⟩ := hok
  have R1 := Lib.hid r1
  have R2 := Lib.hid r2
  have K1 := Lib.hid k1
  have K2 := Lib.hid k2
  have HW := Lib.hid (show o.wt = o.sent.size + ((o.heads.length + FHeader.wts o.heads) + (o.bufs.length + FBuffer.wts o.bufs)) from rfl)
  clear r1 r2 k1 k2
  by_cases f1 : left - o.sent.size < 0
  · go_enter Try.func13, Try.ntmps13
    go_wp2_with fail
    go_ret
    exact ⟨ret_int (by rw [bud_neg (by rw [HW.out]; omega)]), (Below.refl _ _).alloc (Nat.le_refl _) _⟩
  by_cases f2 : ((o.heads.length + FHeader.wts o.heads : Nat) : Int) ≤ left - o.sent.size
  · have E2 := Lib.hid (bud_pos f2)
    have p2 : 0 ≤ bud (left - o.sent.size) (o.heads.length + FHeader.wts o.heads) := by rw [E2.out]; omega
    have q2 : bud (left - o.sent.size) (o.heads.length + FHeader.wts o.heads) ≤ 1048576 := by rw [E2.out]; omega
    generalize hu2 : bud (left - o.sent.size) (o.heads.length + FHeader.wts o.heads) = L2 at *
    have U2 := Lib.hid hu2
    clear hu2
    by_cases f3 : ((o.bufs.length + FBuffer.wts o.bufs : Nat) : Int) ≤ L2
    · have E3 := Lib.hid (bud_pos f3)
      have p3 : 0 ≤ bud L2 (o.bufs.length + FBuffer.wts o.bufs) := by rw [E3.out]; omega
      go_enter Try.func13, Try.ntmps13
      go_wp2_with fail
      refine (szHeaderS_any o.heads _ _ _ K1.out (by omega) (by omega) (B := B) (by simp; omega) (R1.out.below (C := w.heap.size) ((Below.refl _ _).alloc (Nat.le_refl _) _) hB)).mono ?_
      rintro e w1 ⟨rfl, hb1⟩
      obtain ⟨hc1, hf1⟩ := bcell hb1
      have hz1 := hb1.size
      simp at hz1
      have hB1 : Below w.heap.size w w1 := ((Below.refl _ _).alloc (Nat.le_refl _) _).trans (hb1.mono (by simp))
      rw [U2.out]
      go_wp2_with fail
      refine (szBufferS_any o.bufs _ _ _ K2.out (by omega) (by omega) (B := B) (by omega) (R2.out.below (C := w.heap.size) hB1 hB)).mono ?_
      rintro e w2 ⟨rfl, hb2⟩
      go_wp2_with fail
      go_ret
      exact ⟨ret_int (by rw [E3.out, ← U2.out] ; rw [U2.out, E2.out, bud_pos (by rw [HW.out]; have := E2.out; omega), HW.out]; omega), hB1.trans (hb2.mono (by omega))⟩
    · have E3 := Lib.hid (bud_neg f3)
      have p3 : bud L2 (o.bufs.length + FBuffer.wts o.bufs) < 0 := by rw [E3.out]; omega
      go_enter Try.func13, Try.ntmps13
      go_wp2_with fail
      refine (szHeaderS_any o.heads _ _ _ K1.out (by omega) (by omega) (B := B) (by simp; omega) (R1.out.below (C := w.heap.size) ((Below.refl _ _).alloc (Nat.le_refl _) _) hB)).mono ?_
      rintro e w1 ⟨rfl, hb1⟩
      obtain ⟨hc1, hf1⟩ := bcell hb1
      have hz1 := hb1.size
      simp at hz1
      have hB1 : Below w.heap.size w w1 := ((Below.refl _ _).alloc (Nat.le_refl _) _).trans (hb1.mono (by simp))
      rw [U2.out]
      go_wp2_with fail
      refine (szBufferS_any o.bufs _ _ _ K2.out (by omega) (by omega) (B := B) (by omega) (R2.out.below (C := w.heap.size) hB1 hB)).mono ?_
      rintro e w2 ⟨rfl, hb2⟩
      go_wp2_with fail
      go_ret
      exact ⟨ret_int (by rw [bud_neg (by rw [HW.out]; have := E2.out; omega)]), hB1.trans (hb2.mono (by omega))⟩
  · have E2 := Lib.hid (bud_neg f2)
    have p2 : bud (left - o.sent.size) (o.heads.length + FHeader.wts o.heads) < 0 := by rw [E2.out]; omega
    go_enter Try.func13, Try.ntmps13
    go_wp2_with fail
    refine (szHeaderS_any o.heads _ _ _ K1.out (by omega) (by omega) (B := B) (by simp; omega) (R1.out.below (C := w.heap.size) ((Below.refl _ _).alloc (Nat.le_refl _) _) hB)).mono ?_
    rintro e w1 ⟨rfl, hb1⟩
    have hB1 : Below w.heap.size w w1 := ((Below.refl _ _).alloc (Nat.le_refl _) _).trans (hb1.mono (by simp))
    go_wp2_with fail
    go_ret
    exact ⟨ret_int (by rw [bud_neg (by rw [HW.out]; omega)]), hB1⟩

theorem eqOutput_same (o : Out) (u v : Value) (w : World) (hs : o.small) {B : Nat} (hB : B ≤ w.heap.size) (hu : OutR w B u o) (hv : OutR w B v o) :
    Calls Try.prog 17 #[u, v] w fun e w' => e = .returned (.bool true) ∧ Below w.heap.size w w' := by
  obtain ⟨h1, b1, rfl, r1, s1⟩ := hu
  obtain ⟨h2, b2, rfl, r2, s2⟩ := hv
  obtain ⟨A1, c1, rfl⟩ := r1.form
  obtain ⟨A2, c2, rfl⟩ := s1.form
  obtain ⟨A3, c3, rfl⟩ := r2.form
  obtain ⟨A4, c4, rfl⟩ := s2.form
  have l1 : o.heads.length ≤ 1048576 := by unfold Out.small at hs; omega
  have l2 : o.bufs.length ≤ 1048576 := by unfold Out.small at hs; omega
  have R1 := Lib.hid r1
  have R2 := Lib.hid r2
  have S1 := Lib.hid s1
  have S2 := Lib.hid s2
  clear r1 r2 s1 s2 hs
  go_enter Try.func17, Try.ntmps17
  go_wp2_with fail
  have hB0 : Below w.heap.size w ((w.alloc (.cells #[.string o.sent, .slice A1 o.heads.length c1, .slice A2 o.bufs.length c2] 32)).alloc (.cells #[.string o.sent, .slice A3 o.heads.length c3, .slice A4 o.bufs.length c4] 32)) := ((Below.refl _ _).alloc (Nat.le_refl _) _).alloc (by simp) _
  refine (eqHeaderS_same o.heads _ _ _ l1 ((R1.out.below hB0 hB).more (by simp; omega)) ((R2.out.below hB0 hB).more (by simp; omega))).mono ?_
  rintro e w1 ⟨rfl, hb1⟩
  obtain ⟨hc1, hf1⟩ := bcell hb1
  have hz1 := hb1.size
  simp at hz1
  have hB1 : Below w.heap.size w w1 := hB0.trans (hb1.mono (by simp; omega))
  go_wp2_with fail
  refine (eqBufferS_same o.bufs _ _ _ l2 ((S1.out.below hB1 hB).more (by omega)) ((S2.out.below hB1 hB).more (by omega))).mono ?_
  rintro e w2 ⟨rfl, hb2⟩
  go_wp2_with fail
  go_ret
  exact ⟨rfl, hB1.trans (hb2.mono (by omega))⟩

/-! ### marking and finding the marks -/
def Out.marked (o : Out) (k : Int) : Out := ⟨o.sent, FHeader.marks o.heads.length k, FBuffer.marks o.bufs.length (k + ((o.heads.length * 2 : Nat) : Int))⟩
def Out.next (o : Out) (k : Int) : Int := k + ((o.heads.length * 2 : Nat) : Int) + ((o.bufs.length * 2 : Nat) : Int)
theorem types_ne {w : World} {b1 b2 k1 k2 n1 n2 : Nat} {e1 e2 : TypeId} {v1 v2 : Value} {x1 x2 : List Value} (h1 : w.ownsRow b1 e1 k1 v1 n1 x1) (h2 : w.ownsRow b2 e2 k2 v2 n2 x2) (hne : e1 ≠ e2) : ∀ g, v1.ownBlock = some g → v2.ownBlock ≠ some g := by
  intro g hg hg2
  rcases h1.2 with ⟨rfl, _⟩ | ⟨g1, cap1, cur1, rfl, _, q1, _⟩
  · cases hg
  · rcases h2.2 with ⟨rfl, _⟩ | ⟨g2, cap2, cur2, rfl, _, q2, _⟩
    · cases hg2
    · have e1' : g1 = g := by simpa [Value.ownBlock] using hg
      have e2' : g2 = g := by simpa [Value.ownBlock] using hg2
      subst e1' e2'
      rw [q1] at q2
      injection q2 with q2
      injection q2 with _ q2
      exact hne q2
theorem heldOutput_any (o : Out) (v : Value) (k0 : Int) (w : World) (hs : o.small) (h1 : 1 ≤ k0) (h2 : k0 ≤ 100000000) (hr : OutR w w.heap.size v (o.marked k0)) :
    Calls Try.prog 23 #[v, .int .i64 k0] w fun e w' => e = .returned (.int .i64 (o.next k0)) ∧ Below w.heap.size w w' := by
  obtain ⟨hv, bv, rfl, r1, r2⟩ := hr
  have l1 : o.heads.length ≤ 1048576 := by unfold Out.small at hs; omega
  have l2 : o.bufs.length ≤ 1048576 := by unfold Out.small at hs; omega
  have r1' : Rd w w.heap.size 2 hv o.heads.length (FHeader.flat (FHeader.marks o.heads.length k0)) := by
    have := r1; unfold Out.marked at this; simp only [FHeader.marks_len] at this; exact this
  have r2' : Rd w w.heap.size 2 bv o.bufs.length (FBuffer.flat (FBuffer.marks o.bufs.length (k0 + ((o.heads.length * 2 : Nat) : Int)))) := by
    have := r2; unfold Out.marked at this; simp only [FBuffer.marks_len] at this; exact this
  obtain ⟨A1, c1, rfl⟩ := r1'.form
  obtain ⟨A2, c2, rfl⟩ := r2'.form
  have R1 := Lib.hid r1'
  have R2 := Lib.hid r2'
  clear r1 r2 hs r1' r2'
  go_enter Try.func23, Try.ntmps23
  go_wp2_with fail
  refine (heldHeaderS_any o.heads.length _ k0 _ h1 (by omega) ((R1.out.below ((Below.refl _ _).alloc (Nat.le_refl _) _) (Nat.le_refl _)).more (by simp))).mono ?_
  rintro e w1 ⟨rfl, hb1⟩
  obtain ⟨hc1, hf1⟩ := bcell hb1
  have hz1 := hb1.size
  simp at hz1
  have hB1 : Below w.heap.size w w1 := ((Below.refl _ _).alloc (Nat.le_refl _) _).trans (hb1.mono (by simp))
  go_wp2_with fail
  refine (heldBufferS_any o.bufs.length _ _ _ (by omega) (by omega) ((R2.out.below hB1 (Nat.le_refl _)).more (by omega))).mono ?_
  rintro e w2 ⟨rfl, hb2⟩
  go_wp2_with fail
  go_ret
  exact ⟨rfl, hB1.trans (hb2.mono (by omega))⟩
end Go.Proofs.Ytikebdhpgmejpaa
