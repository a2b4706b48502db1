/-
  EndBuffer of both packages: what it returns, in memory of its own. Conditions: none.
-/
import Derived.Test.YtnbedjfmhnpjaaaOutE
import Derived.Test.YtnbedjfmhnpjaaaOutK
import Derived.Test.YtnbedjfmhnpjaaaEscB
namespace Go.Proofs.Ytnbedjfmhnpjaaa
open Go.ChangeShapes Go.WideShapes Go.ChangeAt Go.RowKit Go.Deep Go.Joins
open Go.ChangeMaps (open_string shut_string)
set_option linter.unusedVariables false
set_option linter.unusedSimpArgs false
set_option maxRecDepth 100000

section
variable {w : World} {b : Nat} {t : TypeId} {c0 c1 c2 : Value}
theorem Bx.far (h : Bx w b t c0 c1 c2) {a : Addr} (hne : b ≠ a.block) (u : Value) : Bx (w.setCell a u) b t c0 c1 c2 := (Below.heap_setCell w a u b hne).trans h
theorem Bx.far3 (h : Bx w b t c0 c1 c2) {g : Nat} (hne : b ≠ g) (x y z : Value) : Bx (((w.setCell ⟨g, 0, none⟩ x).setCell ⟨g, 1, none⟩ y).setCell ⟨g, 2, none⟩ z) b t c0 c1 c2 := ((h.far (a := ⟨g, 0, none⟩) hne x).far (a := ⟨g, 1, none⟩) hne y).far (a := ⟨g, 2, none⟩) hne z
theorem below_set3 {C g : Nat} {a : World} (h : Below C a w) (hg : C ≤ g) (x y z : Value) : Below C a (((w.setCell ⟨g, 0, none⟩ x).setCell ⟨g, 1, none⟩ y).setCell ⟨g, 2, none⟩ z) := ((h.setCell (p := ⟨g, 0, none⟩) hg x).setCell (p := ⟨g, 1, none⟩) hg y).setCell (p := ⟨g, 2, none⟩) hg z
theorem Bx.set_0 (h : Bx w b t c0 c1 c2) (x : Value) : Bx (w.setCell ⟨b, 0, none⟩ x) b t x c1 c2 := by
  unfold Bx at h ⊢
  simp [World.setCell, Array.getElem?_modify, h]
theorem Bx.set_1 (h : Bx w b t c0 c1 c2) (x : Value) : Bx (w.setCell ⟨b, 1, none⟩ x) b t c0 x c2 := by
  unfold Bx at h ⊢
  simp [World.setCell, Array.getElem?_modify, h]
theorem Bx.set_2 (h : Bx w b t c0 c1 c2) (x : Value) : Bx (w.setCell ⟨b, 2, none⟩ x) b t c0 c1 x := by
  unfold Bx at h ⊢
  simp [World.setCell, Array.getElem?_modify, h]
theorem Bx.set3 (h : Bx w b t c0 c1 c2) (x y z : Value) : Bx (((w.setCell ⟨b, 0, none⟩ x).setCell ⟨b, 1, none⟩ y).setCell ⟨b, 2, none⟩ z) b t x y z := ((h.set_0 x).set_1 y).set_2 z
end
theorem own_set3 {w : World} {base k n : Nat} {e : TypeId} {v : Value} {xs : List Value} (h : w.ownsRow base e k v n xs) {b : Nat} (hb : b < base) (x y z : Value) : (((w.setCell ⟨b, 0, none⟩ x).setCell ⟨b, 1, none⟩ y).setCell ⟨b, 2, none⟩ z).ownsRow base e k v n xs :=
  ownsRow_setCell_below (ownsRow_setCell_below (ownsRow_setCell_below h (a := ⟨b, 0, none⟩) hb x) (a := ⟨b, 1, none⟩) hb y) (a := ⟨b, 2, none⟩) hb z
def endC (o : Out) : Int := match o.bufs[o.bufs.length - 1]? with
  | none => 1
  | some x => if echoB (cleanF o) (escF x.a0 x.a1) = true then 0 else 2
def endF (o : Out) : Out := match o.bufs[o.bufs.length - 1]? with
  | none => o
  | some x => echoF (cleanF o) (escF x.a0 x.a1)
theorem tot_clean (o : Out) : totF (cleanF o) ≤ totF o := by
  unfold totF cleanF
  have := FBuffer.wts_le o.bufs (o.bufs.length - 1)
  show o.sent.size + FBuffer.wts (List.take (o.bufs.length - 1) o.bufs) ≤ o.sent.size + FBuffer.wts o.bufs
  omega
theorem tot_at (o : Out) (n : Nat) (x : FBuffer) (hx : o.bufs[n]? = some x) : x.a1.size ≤ totF o := by
  have e1 := FBuffer.wts_take o.bufs n x hx
  have e2 := FBuffer.wts_le o.bufs (n + 1)
  have e3 : x.wt = x.a1.size := rfl
  unfold totF
  omega
set_option maxHeartbeats 4000000 in
theorem end_impl_a (o : Out) (v : Value) (w : World) (l1 : o.heads.length ≤ 1048576) (l2 : o.bufs.length ≤ 1048576) (ht : totF o ≤ 1000000000) {B : Nat} (hB0 : B ≤ w.heap.size) (hr : OutR w B v o) (h0 : btB o = false) (h1 : cleanF o = o) :
    Calls Try.prog 15 #[v] w fun e w' => ∃ u, e = .returned (.tuple #[u, .int .i64 1]) ∧ OutO w' w.heap.size u o ∧ Below w.heap.size w w' := by
  obtain ⟨A1, c1, A2, c2, rfl⟩ := hr.form
  have HR := Lib.hid hr
  clear hr
  go_enter Try.func15, Try.ntmps15
  go_wp2_with fail
  refine calls_world _ (fun X => Bx X w.heap.size 27 (.string o.sent) (.slice A1 o.heads.length c1) (.slice A2 o.bufs.length c2) ∧ Bx X (w.heap.size + 1) 27 (.string ⟨#[]⟩) (.slice none 0 0) (.slice none 0 0) ∧ Below w.heap.size w X ∧ w.heap.size + 2 ≤ X.heap.size) ⟨(Bx.new _ _ _ _ _).alloc _, by simpa using Bx.new (w.alloc _) _ _ _ _, ((Below.refl _ _).alloc (Nat.le_refl _) _).alloc (by simp) _, by simp⟩ ?_
  rintro X0 ⟨ba, bz, hB, hz0⟩
  refine (clean_impl o _ _ l1 l2 (B := B) (by omega) (HR.out.below hB hB0)).mono ?_
  rw [h0, h1]
  rintro e w1 ⟨u1, rfl, own1, hb1⟩
  obtain ⟨A3, c3, A4, c4, rfl⟩ := own1.form
  have ow := own1.inI
  clear own1
  replace ba := ba.below hb1 (Nat.le_refl _)
  replace bz := bz.below hb1 (Nat.le_refl _)
  replace hB := hB.trans (hb1.mono (by omega))
  have hz1 : X0.heap.size ≤ w1.heap.size := hb1.size
  clear hb1
  obtain ⟨h3, h4, he, P1, P2, i1, i2⟩ := ow
  simp only [Value.agg.injEq, Array.mk.injEq, List.cons.injEq, true_and, and_true] at he
  obtain ⟨rfl, rfl⟩ := he
  have O1 := Lib.hid P1
  have O2 := Lib.hid P2
  have X1 : (Value.slice A3 o.heads.length c3).ownBlock ≠ some w1.heap.size := fun e => Nat.lt_irrefl _ (i1 _ e)
  have X2 : (Value.slice A4 o.bufs.length c4).ownBlock ≠ some w1.heap.size := fun e => Nat.lt_irrefl _ (i2 _ e)
  clear P1 P2 i1 i2
  have ba0 := ba.cell0
  have ba1 := ba.cell1
  have ba2 := ba.cell2
  have bal := ba.lt
  have baf := fun i => ba.frozen i
  have bz0 := bz.cell0
  have bz1 := bz.cell1
  have bz2 := bz.cell2
  have bzl := bz.lt
  have bzf := fun i => bz.frozen i
  go_wp2_with fail
  refine bodyPost_ret (v := .tuple #[.agg #[.string o.sent, .slice A3 o.heads.length c3, .slice A4 o.bufs.length c4], .int .i64 1]) (by simp [results, Try.results15, go_sem, bz0, bz1, bz2, bzl, bzf]) rfl ⟨_, rfl, ⟨_, _, rfl, ?_, ?_⟩, ?_⟩
  · refine ownsRow_le (base := X0.heap.size) ?_ (by omega)
    repeat (first | (refine ownsRow_setCell_below ?_ (by first | (simp; done) | (simp; omega)) _) | (refine ownsRow_setCell_ne ?_ _ (by assumption)) | (refine World.ownsRow.alloc ?_ _))
    exact O1.out
  · refine ownsRow_le (base := X0.heap.size) ?_ (by omega)
    repeat (first | (refine ownsRow_setCell_below ?_ (by first | (simp; done) | (simp; omega)) _) | (refine ownsRow_setCell_ne ?_ _ (by assumption)) | (refine World.ownsRow.alloc ?_ _))
    exact O2.out
  · repeat (first | exact hB | (refine Below.drew ?_) | (refine Below.setCell ?_ (by first | (simp; done) | (simp; omega)) _) | (refine Below.alloc ?_ (by first | (simp; done) | (simp; omega)) _))
set_option maxHeartbeats 4000000 in
theorem end_impl_b (o : Out) (v : Value) (w : World) (l1 : o.heads.length ≤ 1048576) (l2 : o.bufs.length ≤ 1048576) (ht : totF o ≤ 1000000000) {B : Nat} (hB0 : B ≤ w.heap.size) (hr : OutR w B v o) (h0 : btB o = true) (q : Out) (h1 : cleanF o = q) (l3 : q.heads.length ≤ 1048576) (l4 : q.bufs.length ≤ 1048576) (hq : totF q ≤ 1000000000) (n : Nat) (hn : o.bufs.length = n + 1) (x : FBuffer) (hx : o.bufs[n]? = some x) (hxs : x.a1.size ≤ 1000000000) (y : ByteArray) (hy : y = escF x.a0 x.a1) (ok : Bool) (hok : echoB q y = ok) (z : Out) (hz : echoF q y = z) :
    Calls Try.prog 15 #[v] w fun e w' => ∃ u, e = .returned (.tuple #[u, .int .i64 (if ok = true then 0 else 2)]) ∧ OutO w' w.heap.size u z ∧ Below w.heap.size w w' := by
  obtain ⟨A1, c1, A2, c2, rfl⟩ := hr.form
  have HR := Lib.hid hr
  clear hr
  obtain ⟨b, off, hA2, hbB, hc⟩ : ∃ b off, A2 = some ⟨b, off, none⟩ ∧ b < B ∧ ∀ (j : Nat) (u : Value), (FBuffer.cells x)[j]? = some u → w.cell? ⟨b, off + n * 2 + j, none⟩ = some u := by
    obtain ⟨hv, bv, he, r1, r2⟩ := HR.out
    simp only [Value.agg.injEq, Array.mk.injEq, List.cons.injEq, true_and, and_true] at he
    obtain ⟨rfl, rfl⟩ := he
    obtain ⟨A2', c2', hA, q1, q2, q3, hcell⟩ := r2
    simp only [Value.slice.injEq, true_and] at hA
    obtain ⟨rfl, rfl⟩ := hA
    exact Rd.at_ FBuffer.len hcell hx
  subst hA2
  have g0 : w.cell? ⟨b, off + n * 2, none⟩ = some (.int .i64 x.a0) := hc 0 _ rfl
  have g1 : w.cell? ⟨b, off + n * 2 + 1, none⟩ = some (.string x.a1) := hc 1 _ rfl
  have hs : y.size ≤ 6000000000 := by rw [hy]; have := escF_le x.a0 x.a1; omega
  have hln : ((o.bufs.length : Int) - 1) = (n : Int) := by omega
  have hlt : n < o.bufs.length := by omega
  have HY := Lib.hid hy
  have HOK := Lib.hid hok
  have HZ := Lib.hid hz
  clear hc hx hn hy hok hz
  go_enter Try.func15, Try.ntmps15
  go_wp2_with fail
  refine calls_world _ (fun X => Bx X w.heap.size 27 (.string o.sent) (.slice A1 o.heads.length c1) (.slice (some ⟨b, off, none⟩) o.bufs.length c2) ∧ Bx X (w.heap.size + 1) 27 (.string ⟨#[]⟩) (.slice none 0 0) (.slice none 0 0) ∧ Below w.heap.size w X ∧ w.heap.size + 2 ≤ X.heap.size) ⟨(Bx.new _ _ _ _ _).alloc _, by simpa using Bx.new (w.alloc _) _ _ _ _, ((Below.refl _ _).alloc (Nat.le_refl _) _).alloc (by simp) _, by simp⟩ ?_
  rintro X0 ⟨ba, bz, hB, hz0⟩
  refine (clean_impl o _ _ l1 l2 (B := B) (by omega) (HR.out.below hB hB0)).mono ?_
  rw [h0, h1]
  rintro e w1 ⟨u1, rfl, own1, hb1⟩
  obtain ⟨A3, c3, A4, c4, rfl⟩ := own1.form
  have ow := own1.inI
  clear own1
  replace ba := ba.below hb1 (Nat.le_refl _)
  replace bz := bz.below hb1 (Nat.le_refl _)
  replace hB := hB.trans (hb1.mono (by omega))
  have hz1 : X0.heap.size ≤ w1.heap.size := hb1.size
  clear hb1
  have k0 : w1.cell? ⟨b, off + n * 2, none⟩ = some (.int .i64 x.a0) := ((bcell hB).1 _ _ (by omega)).trans g0
  have k1 : w1.cell? ⟨b, off + n * 2 + 1, none⟩ = some (.string x.a1) := ((bcell hB).1 _ _ (by omega)).trans g1
  have hbw : b < w1.heap.size := by omega
  have ba0 := ba.cell0
  have ba1 := ba.cell1
  have ba2 := ba.cell2
  have bal := ba.lt
  have baf := fun i => ba.frozen i
  have bz0 := bz.cell0
  have bz1 := bz.cell1
  have bz2 := bz.cell2
  have bzl := bz.lt
  have bzf := fun i => bz.frozen i
  go_wp2_with fail
  obtain ⟨W0, hW0⟩ : ∃ W0 : World, W0 = (w1.alloc (.cells #[.string q.sent, .slice A3 q.heads.length c3, .slice A4 q.bufs.length c4] 27)).alloc (.cells #[.int .i64 x.a0, .string x.a1] 61) := ⟨_, rfl⟩
  have b0 : Below w1.heap.size w1 W0 := by rw [hW0]; exact ((Below.refl _ _).alloc (Nat.le_refl _) _).alloc (by simp) _
  have bo : Bx W0 w1.heap.size 27 (.string q.sent) (.slice A3 q.heads.length c3) (.slice A4 q.bufs.length c4) := by rw [hW0]; exact (Bx.new _ _ _ _ _).alloc _
  have m0 : W0.cell? ⟨w1.heap.size + 1, 0, none⟩ = some (.int .i64 x.a0) := by rw [hW0]; simp [go_sem]
  have m1 : W0.cell? ⟨w1.heap.size + 1, 1, none⟩ = some (.string x.a1) := by rw [hW0]; simp [go_sem]
  have sz0 : W0.heap.size = w1.heap.size + 2 := by rw [hW0]; simp
  rw [← hW0]
  have HW := Lib.hid hW0
  clear hW0
  clear ba0 ba1 ba2 bal baf bz0 bz1 bz2 bzl bzf
  replace ow := ow.below b0 (Nat.le_refl _)
  replace ba := ba.below b0 (Nat.le_refl _)
  replace bz := bz.below b0 (Nat.le_refl _)
  replace hB := hB.trans (b0.mono (by omega))
  clear b0 k0 k1
  have o0 := bo.cell0
  have o1 := bo.cell1
  have o2 := bo.cell2
  have hs2 : y.size ≤ 1000000000000 := by omega
  have hq2 : totF q ≤ 1000000000000 := by omega
  have hxs2 : x.a1.size ≤ 1000000000000 := by omega
  have ESC := Lib.hid (fun W : World => escIn_impl x.a0 x.a1 W hxs2)
  rw [← HY.out] at ESC
  have ECH := Lib.hid (fun (v : Value) (W : World) (h : OutR W W.heap.size v q) => echo_impl q y v W l3 l4 hq2 hs2 (B := W.heap.size) (Nat.le_refl _) h)
  rw [HOK.out, HZ.out] at ECH
  go_cut [5] from 23 (fun s5 wx => s5 = .bool ok ∧ ∃ A5 c5 A6 c6, Bx wx w1.heap.size 27 (.string z.sent) (.slice A5 z.heads.length c5) (.slice A6 z.bufs.length c6) ∧ Bx wx (w.heap.size + 1) 27 (.string ⟨#[]⟩) (.slice none 0 0) (.slice none 0 0) ∧ wx.ownsRow W0.heap.size 35 2 (.slice A5 z.heads.length c5) z.heads.length (FHeader.flat z.heads) ∧ wx.ownsRow W0.heap.size 61 2 (.slice A6 z.bufs.length c6) z.bufs.length (FBuffer.flat z.bufs) ∧ Below w.heap.size w wx)
  case first =>
    go_region_with (first
      | (go_at_call 16
         refine (ESC.out _).mono ?_
         rintro e wa ⟨rfl, hb1⟩
         have zb : Below W0.heap.size W0 wa := (Below.refl W0.heap.size W0).drew.trans (hb1.mono (by simp))
         have p0 := ((bcell zb).1 _ _ (by omega)).trans o0
         have p1 := ((bcell zb).1 _ _ (by omega)).trans o1
         have p2 := ((bcell zb).1 _ _ (by omega)).trans o2)
      | (go_at_call 14
         refine (ECH.out _ _ (ow.below zb (Nat.le_refl _)).reads).mono ?_
         rintro e wb ⟨u, rfl, own2, hb2⟩
         obtain ⟨A5, c5, A6, c6, rfl⟩ := own2.form
         have zc : Below W0.heap.size W0 wb := zb.trans (hb2.mono zb.size)
         have n0 := ((bcell zc).1 _ _ (by omega)).trans o0
         have n1 := ((bcell zc).1 _ _ (by omega)).trans o1
         have n2 := ((bcell zc).1 _ _ (by omega)).trans o2
         have nf : ∀ i, wb.frozen? ⟨w1.heap.size, i, none⟩ = false := fun i => ((bcell zc).2 _ _ (by omega)).trans (bo.frozen i)))
    all_goals (try go_wp2_with fail)
    all_goals go_meet
    all_goals
      obtain ⟨hv5, bv5, he5, P1, P2⟩ := own2
      simp only [Value.agg.injEq, Array.mk.injEq, List.cons.injEq, true_and, and_true] at he5
      obtain ⟨rfl, rfl⟩ := he5
      exact ⟨rfl, A5, c5, A6, c6, (bo.below zc (Nat.le_refl _)).set3 _ _ _, (bz.below zc (Nat.le_refl _)).far3 (by omega) _ _ _, own_set3 (ownsRow_le P1 zb.size) (by omega) _ _ _, own_set3 (ownsRow_le P2 zb.size) (by omega) _ _ _, below_set3 (hB.trans (zc.mono (by omega))) (by omega) _ _ _⟩
  case rest =>
    obtain ⟨rfl, A5, c5, A6, c6, bo, bz, P1, P2, hB⟩ := hcut
    have Q1 := Lib.hid P1
    have Q2 := Lib.hid P2
    have hww := hB.size
    have hbz := bz.lt
    clear P1 P2
    have bz0 := bz.cell0
    have bz1 := bz.cell1
    have bz2 := bz.cell2
    have bzl := bz.lt
    have bzf := fun i => bz.frozen i
    have bo0 := bo.cell0
    have bo1 := bo.cell1
    have bo2 := bo.cell2
    have bol := bo.lt
    have bof := fun i => bo.frozen i
    cases ok
    all_goals
      go_wp2_with fail
      refine bodyPost_ret (v := .tuple #[.agg #[.string z.sent, .slice A5 z.heads.length c5, .slice A6 z.bufs.length c6], _]) (by simp [results, Try.results15, go_sem, bz0, bz1, bz2, bzl, bzf, bo0, bo1, bo2, bol, bof]; try rfl) rfl ⟨_, rfl, ⟨_, _, rfl, ?_, ?_⟩, ?_⟩
      · refine ownsRow_le (base := W0.heap.size) ?_ (by omega)
        repeat (refine ownsRow_setCell_below ?_ (by simp; omega) _)
        exact Q1.out
      · refine ownsRow_le (base := W0.heap.size) ?_ (by omega)
        repeat (refine ownsRow_setCell_below ?_ (by simp; omega) _)
        exact Q2.out
      · repeat (refine Below.setCell ?_ (by simp) _)
        exact hB
theorem end_impl (o : Out) (v : Value) (w : World) (l1 : o.heads.length ≤ 1048576) (l2 : o.bufs.length ≤ 1048576) (ht : totF o ≤ 1000000000) {B : Nat} (hB0 : B ≤ w.heap.size) (hr : OutR w B v o) :
    Calls Try.prog 15 #[v] w fun e w' => ∃ u, e = .returned (.tuple #[u, .int .i64 (endC o)]) ∧ OutO w' w.heap.size u (endF o) ∧ Below w.heap.size w w' := by
  by_cases h0 : o.bufs.length = 0
  · have hn : o.bufs = [] := List.eq_nil_of_length_eq_zero h0
    have hx : o.bufs[o.bufs.length - 1]? = none := by rw [hn]; rfl
    have e1 : endC o = 1 := by unfold endC; rw [hx]
    have e2 : endF o = o := by unfold endF; rw [hx]
    rw [e1, e2]
    refine end_impl_a o v w l1 l2 ht hB0 hr (by unfold btB; rw [hn]; rfl) ?_
    cases o
    simp at hn
    subst hn
    rfl
  · obtain ⟨n, hn⟩ : ∃ n, o.bufs.length = n + 1 := ⟨o.bufs.length - 1, by omega⟩
    obtain ⟨x, hx⟩ : ∃ x, o.bufs[n]? = some x := ⟨_, List.getElem?_eq_getElem (by omega)⟩
    have hx' : o.bufs[o.bufs.length - 1]? = some x := by rw [show o.bufs.length - 1 = n from by omega]; exact hx
    have e1 : endC o = if echoB (cleanF o) (escF x.a0 x.a1) = true then 0 else 2 := by unfold endC; rw [hx']
    have e2 : endF o = echoF (cleanF o) (escF x.a0 x.a1) := by unfold endF; rw [hx']
    rw [e1, e2]
    have hw := tot_at o n x hx
    have hq := tot_clean o
    refine end_impl_b o v w l1 l2 ht hB0 hr (by unfold btB; cases hb : o.bufs with | nil => rw [hb] at hn; simp at hn | cons a r => rfl) _ rfl l1 ?_ (by omega) n hn x hx (by omega) _ rfl _ rfl _ rfl
    show (o.bufs.take _).length ≤ _
    rw [List.length_take]
    omega
set_option maxHeartbeats 4000000 in
theorem end_spec_a (o : Out) (v : Value) (w : World) (l1 : o.heads.length ≤ 1048576) (l2 : o.bufs.length ≤ 1048576) (ht : totF o ≤ 1000000000) {B : Nat} (hB0 : B ≤ w.heap.size) (hr : OutR w B v o) (h0 : btB o = false) (h1 : cleanF o = o) :
    Calls Try.prog 44 #[v] w fun e w' => ∃ u, e = .returned (.tuple #[u, .int .i64 1]) ∧ OutO w' w.heap.size u o ∧ Below w.heap.size w w' := by
  obtain ⟨A1, c1, A2, c2, rfl⟩ := hr.form
  have HR := Lib.hid hr
  clear hr
  go_enter Try.func44, Try.ntmps44
  go_wp2_with fail
  refine calls_world _ (fun X => Bx X w.heap.size 27 (.string o.sent) (.slice A1 o.heads.length c1) (.slice A2 o.bufs.length c2) ∧ Bx X (w.heap.size + 1) 27 (.string ⟨#[]⟩) (.slice none 0 0) (.slice none 0 0) ∧ Below w.heap.size w X ∧ w.heap.size + 2 ≤ X.heap.size) ⟨(Bx.new _ _ _ _ _).alloc _, by simpa using Bx.new (w.alloc _) _ _ _ _, ((Below.refl _ _).alloc (Nat.le_refl _) _).alloc (by simp) _, by simp⟩ ?_
  rintro X0 ⟨ba, bz, hB, hz0⟩
  refine (clean_spec o _ _ l1 l2 (B := B) (by omega) (HR.out.below hB hB0)).mono ?_
  rw [h0, h1]
  rintro e w1 ⟨u1, rfl, own1, hb1⟩
  obtain ⟨A3, c3, A4, c4, rfl⟩ := own1.form
  have ow := own1.inI
  clear own1
  replace ba := ba.below hb1 (Nat.le_refl _)
  replace bz := bz.below hb1 (Nat.le_refl _)
  replace hB := hB.trans (hb1.mono (by omega))
  have hz1 : X0.heap.size ≤ w1.heap.size := hb1.size
  clear hb1
  obtain ⟨h3, h4, he, P1, P2, i1, i2⟩ := ow
  simp only [Value.agg.injEq, Array.mk.injEq, List.cons.injEq, true_and, and_true] at he
  obtain ⟨rfl, rfl⟩ := he
  have O1 := Lib.hid P1
  have O2 := Lib.hid P2
  have X1 : (Value.slice A3 o.heads.length c3).ownBlock ≠ some w1.heap.size := fun e => Nat.lt_irrefl _ (i1 _ e)
  have X2 : (Value.slice A4 o.bufs.length c4).ownBlock ≠ some w1.heap.size := fun e => Nat.lt_irrefl _ (i2 _ e)
  clear P1 P2 i1 i2
  have ba0 := ba.cell0
  have ba1 := ba.cell1
  have ba2 := ba.cell2
  have bal := ba.lt
  have baf := fun i => ba.frozen i
  have bz0 := bz.cell0
  have bz1 := bz.cell1
  have bz2 := bz.cell2
  have bzl := bz.lt
  have bzf := fun i => bz.frozen i
  go_wp2_with fail
  refine bodyPost_ret (v := .tuple #[.agg #[.string o.sent, .slice A3 o.heads.length c3, .slice A4 o.bufs.length c4], .int .i64 1]) (by simp [results, Try.results44, go_sem, bz0, bz1, bz2, bzl, bzf]) rfl ⟨_, rfl, ⟨_, _, rfl, ?_, ?_⟩, ?_⟩
  · refine ownsRow_le (base := X0.heap.size) ?_ (by omega)
    repeat (first | (refine ownsRow_setCell_below ?_ (by first | (simp; done) | (simp; omega)) _) | (refine ownsRow_setCell_ne ?_ _ (by assumption)) | (refine World.ownsRow.alloc ?_ _))
    exact O1.out
  · refine ownsRow_le (base := X0.heap.size) ?_ (by omega)
    repeat (first | (refine ownsRow_setCell_below ?_ (by first | (simp; done) | (simp; omega)) _) | (refine ownsRow_setCell_ne ?_ _ (by assumption)) | (refine World.ownsRow.alloc ?_ _))
    exact O2.out
  · repeat (first | exact hB | (refine Below.drew ?_) | (refine Below.setCell ?_ (by first | (simp; done) | (simp; omega)) _) | (refine Below.alloc ?_ (by first | (simp; done) | (simp; omega)) _))
set_option maxHeartbeats 4000000 in
theorem end_spec_b (o : Out) (v : Value) (w : World) (l1 : o.heads.length ≤ 1048576) (l2 : o.bufs.length ≤ 1048576) (ht : totF o ≤ 1000000000) {B : Nat} (hB0 : B ≤ w.heap.size) (hr : OutR w B v o) (h0 : btB o = true) (q : Out) (h1 : cleanF o = q) (l3 : q.heads.length ≤ 1048576) (l4 : q.bufs.length ≤ 1048576) (hq : totF q ≤ 1000000000) (n : Nat) (hn : o.bufs.length = n + 1) (x : FBuffer) (hx : o.bufs[n]? = some x) (hxs : x.a1.size ≤ 1000000000) (y : ByteArray) (hy : y = escF x.a0 x.a1) (ok : Bool) (hok : echoB q y = ok) (z : Out) (hz : echoF q y = z) :
    Calls Try.prog 44 #[v] w fun e w' => ∃ u, e = .returned (.tuple #[u, .int .i64 (if ok = true then 0 else 2)]) ∧ OutO w' w.heap.size u z ∧ Below w.heap.size w w' := by
  obtain ⟨A1, c1, A2, c2, rfl⟩ := hr.form
  have HR := Lib.hid hr
  clear hr
  obtain ⟨b, off, hA2, hbB, hc⟩ : ∃ b off, A2 = some ⟨b, off, none⟩ ∧ b < B ∧ ∀ (j : Nat) (u : Value), (FBuffer.cells x)[j]? = some u → w.cell? ⟨b, off + n * 2 + j, none⟩ = some u := by
    obtain ⟨hv, bv, he, r1, r2⟩ := HR.out
    simp only [Value.agg.injEq, Array.mk.injEq, List.cons.injEq, true_and, and_true] at he
    obtain ⟨rfl, rfl⟩ := he
    obtain ⟨A2', c2', hA, q1, q2, q3, hcell⟩ := r2
    simp only [Value.slice.injEq, true_and] at hA
    obtain ⟨rfl, rfl⟩ := hA
    exact Rd.at_ FBuffer.len hcell hx
  subst hA2
  have g0 : w.cell? ⟨b, off + n * 2, none⟩ = some (.int .i64 x.a0) := hc 0 _ rfl
  have g1 : w.cell? ⟨b, off + n * 2 + 1, none⟩ = some (.string x.a1) := hc 1 _ rfl
  have hs : y.size ≤ 6000000000 := by rw [hy]; have := escF_le x.a0 x.a1; omega
  have hln : ((o.bufs.length : Int) - 1) = (n : Int) := by omega
  have hlt : n < o.bufs.length := by omega
  have HY := Lib.hid hy
  have HOK := Lib.hid hok
  have HZ := Lib.hid hz
  clear hc hx hn hy hok hz
  go_enter Try.func44, Try.ntmps44
  go_wp2_with fail
  refine calls_world _ (fun X => Bx X w.heap.size 27 (.string o.sent) (.slice A1 o.heads.length c1) (.slice (some ⟨b, off, none⟩) o.bufs.length c2) ∧ Bx X (w.heap.size + 1) 27 (.string ⟨#[]⟩) (.slice none 0 0) (.slice none 0 0) ∧ Below w.heap.size w X ∧ w.heap.size + 2 ≤ X.heap.size) ⟨(Bx.new _ _ _ _ _).alloc _, by simpa using Bx.new (w.alloc _) _ _ _ _, ((Below.refl _ _).alloc (Nat.le_refl _) _).alloc (by simp) _, by simp⟩ ?_
  rintro X0 ⟨ba, bz, hB, hz0⟩
  refine (clean_spec o _ _ l1 l2 (B := B) (by omega) (HR.out.below hB hB0)).mono ?_
  rw [h0, h1]
  rintro e w1 ⟨u1, rfl, own1, hb1⟩
  obtain ⟨A3, c3, A4, c4, rfl⟩ := own1.form
  have ow := own1.inI
  clear own1
  replace ba := ba.below hb1 (Nat.le_refl _)
  replace bz := bz.below hb1 (Nat.le_refl _)
  replace hB := hB.trans (hb1.mono (by omega))
  have hz1 : X0.heap.size ≤ w1.heap.size := hb1.size
  clear hb1
  have k0 : w1.cell? ⟨b, off + n * 2, none⟩ = some (.int .i64 x.a0) := ((bcell hB).1 _ _ (by omega)).trans g0
  have k1 : w1.cell? ⟨b, off + n * 2 + 1, none⟩ = some (.string x.a1) := ((bcell hB).1 _ _ (by omega)).trans g1
  have hbw : b < w1.heap.size := by omega
  have ba0 := ba.cell0
  have ba1 := ba.cell1
  have ba2 := ba.cell2
  have bal := ba.lt
  have baf := fun i => ba.frozen i
  have bz0 := bz.cell0
  have bz1 := bz.cell1
  have bz2 := bz.cell2
  have bzl := bz.lt
  have bzf := fun i => bz.frozen i
  go_wp2_with fail
  obtain ⟨W0, hW0⟩ : ∃ W0 : World, W0 = (w1.alloc (.cells #[.string q.sent, .slice A3 q.heads.length c3, .slice A4 q.bufs.length c4] 27)).alloc (.cells #[.int .i64 x.a0, .string x.a1] 61) := ⟨_, rfl⟩
  have b0 : Below w1.heap.size w1 W0 := by rw [hW0]; exact ((Below.refl _ _).alloc (Nat.le_refl _) _).alloc (by simp) _
  have bo : Bx W0 w1.heap.size 27 (.string q.sent) (.slice A3 q.heads.length c3) (.slice A4 q.bufs.length c4) := by rw [hW0]; exact (Bx.new _ _ _ _ _).alloc _
  have m0 : W0.cell? ⟨w1.heap.size + 1, 0, none⟩ = some (.int .i64 x.a0) := by rw [hW0]; simp [go_sem]
  have m1 : W0.cell? ⟨w1.heap.size + 1, 1, none⟩ = some (.string x.a1) := by rw [hW0]; simp [go_sem]
  have sz0 : W0.heap.size = w1.heap.size + 2 := by rw [hW0]; simp
  rw [← hW0]
  have HW := Lib.hid hW0
  clear hW0
  clear ba0 ba1 ba2 bal baf bz0 bz1 bz2 bzl bzf
  replace ow := ow.below b0 (Nat.le_refl _)
  replace ba := ba.below b0 (Nat.le_refl _)
  replace bz := bz.below b0 (Nat.le_refl _)
  replace hB := hB.trans (b0.mono (by omega))
  clear b0 k0 k1
  have o0 := bo.cell0
  have o1 := bo.cell1
  have o2 := bo.cell2
  have hs2 : y.size ≤ 1000000000000 := by omega
  have hq2 : totF q ≤ 1000000000000 := by omega
  have hxs2 : x.a1.size ≤ 1000000000000 := by omega
  have ESC := Lib.hid (fun W : World => escIn_spec x.a0 x.a1 W hxs2)
  rw [← HY.out] at ESC
  have ECH := Lib.hid (fun (v : Value) (W : World) (h : OutR W W.heap.size v q) => echo_spec q y v W l3 l4 hq2 hs2 (B := W.heap.size) (Nat.le_refl _) h)
  rw [HOK.out, HZ.out] at ECH
  go_cut [5] from 23 (fun s5 wx => s5 = .bool ok ∧ ∃ A5 c5 A6 c6, Bx wx w1.heap.size 27 (.string z.sent) (.slice A5 z.heads.length c5) (.slice A6 z.bufs.length c6) ∧ Bx wx (w.heap.size + 1) 27 (.string ⟨#[]⟩) (.slice none 0 0) (.slice none 0 0) ∧ wx.ownsRow W0.heap.size 35 2 (.slice A5 z.heads.length c5) z.heads.length (FHeader.flat z.heads) ∧ wx.ownsRow W0.heap.size 61 2 (.slice A6 z.bufs.length c6) z.bufs.length (FBuffer.flat z.bufs) ∧ Below w.heap.size w wx)
  case first =>
    go_region_with (first
      | (go_at_call 58
         refine (ESC.out _).mono ?_
         rintro e wa ⟨rfl, hb1⟩
         have zb : Below W0.heap.size W0 wa := (Below.refl W0.heap.size W0).drew.trans (hb1.mono (by simp))
         have p0 := ((bcell zb).1 _ _ (by omega)).trans o0
         have p1 := ((bcell zb).1 _ _ (by omega)).trans o1
         have p2 := ((bcell zb).1 _ _ (by omega)).trans o2)
      | (go_at_call 45
         refine (ECH.out _ _ (ow.below zb (Nat.le_refl _)).reads).mono ?_
         rintro e wb ⟨u, rfl, own2, hb2⟩
         obtain ⟨A5, c5, A6, c6, rfl⟩ := own2.form
         have zc : Below W0.heap.size W0 wb := zb.trans (hb2.mono zb.size)
         have n0 := ((bcell zc).1 _ _ (by omega)).trans o0
         have n1 := ((bcell zc).1 _ _ (by omega)).trans o1
         have n2 := ((bcell zc).1 _ _ (by omega)).trans o2
         have nf : ∀ i, wb.frozen? ⟨w1.heap.size, i, none⟩ = false := fun i => ((bcell zc).2 _ _ (by omega)).trans (bo.frozen i)))
    all_goals (try go_wp2_with fail)
    all_goals go_meet
    all_goals
      obtain ⟨hv5, bv5, he5, P1, P2⟩ := own2
      simp only [Value.agg.injEq, Array.mk.injEq, List.cons.injEq, true_and, and_true] at he5
      obtain ⟨rfl, rfl⟩ := he5
      exact ⟨rfl, A5, c5, A6, c6, (bo.below zc (Nat.le_refl _)).set3 _ _ _, (bz.below zc (Nat.le_refl _)).far3 (by omega) _ _ _, own_set3 (ownsRow_le P1 zb.size) (by omega) _ _ _, own_set3 (ownsRow_le P2 zb.size) (by omega) _ _ _, below_set3 (hB.trans (zc.mono (by omega))) (by omega) _ _ _⟩
  case rest =>
    obtain ⟨rfl, A5, c5, A6, c6, bo, bz, P1, P2, hB⟩ := hcut
    have Q1 := Lib.hid P1
    have Q2 := Lib.hid P2
    have hww := hB.size
    have hbz := bz.lt
    clear P1 P2
    have bz0 := bz.cell0
    have bz1 := bz.cell1
    have bz2 := bz.cell2
    have bzl := bz.lt
    have bzf := fun i => bz.frozen i
    have bo0 := bo.cell0
    have bo1 := bo.cell1
    have bo2 := bo.cell2
    have bol := bo.lt
    have bof := fun i => bo.frozen i
    cases ok
    all_goals
      go_wp2_with fail
      refine bodyPost_ret (v := .tuple #[.agg #[.string z.sent, .slice A5 z.heads.length c5, .slice A6 z.bufs.length c6], _]) (by simp [results, Try.results44, go_sem, bz0, bz1, bz2, bzl, bzf, bo0, bo1, bo2, bol, bof]; try rfl) rfl ⟨_, rfl, ⟨_, _, rfl, ?_, ?_⟩, ?_⟩
      · refine ownsRow_le (base := W0.heap.size) ?_ (by omega)
        repeat (refine ownsRow_setCell_below ?_ (by simp; omega) _)
        exact Q1.out
      · refine ownsRow_le (base := W0.heap.size) ?_ (by omega)
        repeat (refine ownsRow_setCell_below ?_ (by simp; omega) _)
        exact Q2.out
      · repeat (refine Below.setCell ?_ (by simp) _)
        exact hB
theorem end_spec (o : Out) (v : Value) (w : World) (l1 : o.heads.length ≤ 1048576) (l2 : o.bufs.length ≤ 1048576) (ht : totF o ≤ 1000000000) {B : Nat} (hB0 : B ≤ w.heap.size) (hr : OutR w B v o) :
    Calls Try.prog 44 #[v] w fun e w' => ∃ u, e = .returned (.tuple #[u, .int .i64 (endC o)]) ∧ OutO w' w.heap.size u (endF o) ∧ Below w.heap.size w w' := by
  by_cases h0 : o.bufs.length = 0
  · have hn : o.bufs = [] := List.eq_nil_of_length_eq_zero h0
    have hx : o.bufs[o.bufs.length - 1]? = none := by rw [hn]; rfl
    have e1 : endC o = 1 := by unfold endC; rw [hx]
    have e2 : endF o = o := by unfold endF; rw [hx]
    rw [e1, e2]
    refine end_spec_a o v w l1 l2 ht hB0 hr (by unfold btB; rw [hn]; rfl) ?_
    cases o
    simp at hn
    subst hn
    rfl
  · obtain ⟨n, hn⟩ : ∃ n, o.bufs.length = n + 1 := ⟨o.bufs.length - 1, by omega⟩
    obtain ⟨x, hx⟩ : ∃ x, o.bufs[n]? = some x := ⟨_, List.getElem?_eq_getElem (by omega)⟩
    have hx' : o.bufs[o.bufs.length - 1]? = some x := by rw [show o.bufs.length - 1 = n from by omega]; exact hx
    have e1 : endC o = if echoB (cleanF o) (escF x.a0 x.a1) = true then 0 else 2 := by unfold endC; rw [hx']
    have e2 : endF o = echoF (cleanF o) (escF x.a0 x.a1) := by unfold endF; rw [hx']
    rw [e1, e2]
    have hw := tot_at o n x hx
    have hq := tot_clean o
    refine end_spec_b o v w l1 l2 ht hB0 hr (by unfold btB; cases hb : o.bufs with | nil => rw [hb] at hn; simp at hn | cons a r => rfl) _ rfl l1 ?_ (by omega) n hn x hx (by omega) _ rfl _ rfl _ rfl
    show (o.bufs.take _).length ≤ _
    rw [List.length_take]
    omega
end Go.Proofs.Ytnbedjfmhnpjaaa
