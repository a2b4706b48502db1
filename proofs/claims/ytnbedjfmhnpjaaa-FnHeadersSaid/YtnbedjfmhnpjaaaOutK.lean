/-
  Echo of both packages: what it returns, in memory of its own. Conditions: none.
-/
import Derived.Test.YtnbedjfmhnpjaaaOutH
import Derived.Test.YtnbedjfmhnpjaaaOutJ
namespace Go.Proofs.Ytnbedjfmhnpjaaa
open Go.ChangeShapes Go.WideShapes Go.ChangeAt Go.RowKit Go.Deep Go.Joins
open Go.ChangeMaps (open_string shut_string)
set_option linter.unusedVariables false
set_option linter.unusedSimpArgs false
set_option maxRecDepth 100000

/-- A store into an owned row. -/
theorem own_set {w : World} {base k n cap g i : Nat} {e : TypeId} {xs : List Value} (h : w.ownsRow base e k (.slice (some ⟨g, 0, none⟩) n cap) n xs) (hi : i < n * k) (u : Value) : (w.setCell ⟨g, i, none⟩ u).ownsRow base e k (.slice (some ⟨g, 0, none⟩) n cap) n (xs.set i u) := by
  rcases own_row h with ⟨hv, _⟩ | ⟨g1, cap1, f, hv, hg, hn, hc, hrow, hf⟩
  · cases hv
  · injection hv with e1 e2 e3
    injection e1 with e1
    injection e1 with e1 _ _
    subst e1 e3
    refine own_of_row_cap (hrow.set i u) hg hn hc (by rw [List.length_set]; exact h.1) fun j hj => ?_
    rw [List.getElem?_set]
    by_cases hij : i = j
    · subst hij
      rw [if_pos rfl, if_pos (by rw [h.1]; exact hi)]
      simp
    · rw [if_neg hij, hf j hj, if_neg (fun e => hij e.symm)]
/-- The last buffer of an owned row of buffers. -/
theorem own_last {w : World} {base n c4 : Nat} {e : TypeId} {A4 : Option Addr} {l : List FBuffer} {x : FBuffer} (h : w.ownsRow base e 2 (.slice A4 l.length c4) l.length (FBuffer.flat l)) (hx : l[n]? = some x) (hl : l.length = n + 1) :
    ∃ g, A4 = some ⟨g, 0, none⟩ ∧ base ≤ g ∧ g < w.heap.size ∧ w.cell? ⟨g, n * 2 + 1, none⟩ = some (.string x.a1) ∧ (∀ i, w.frozen? ⟨g, i, none⟩ = false) := by
  rcases own_row h with ⟨hv, h0, _⟩ | ⟨g, cap1, f, hv, hg, hn, hc, hrow, hf⟩
  · omega
  · injection hv with e1 e2 e3
    subst e1 e3
    refine ⟨g, rfl, hg, hrow.lt, ?_, hrow.frozen⟩
    have e := hf (n * 2 + 1) (by omega)
    rw [hrow.cell (by omega), ← e]
    exact flat_get FBuffer.len l n x hx 1 (by omega)
theorem flat_set (l : List FBuffer) (n : Nat) (x y : FBuffer) (hx : l[n]? = some x) (h0 : y.a0 = x.a0) : FBuffer.flat (l.set n y) = (FBuffer.flat l).set (n * 2 + 1) (.string y.a1) := by
  induction l generalizing n with
  | nil => cases hx
  | cons a t ih =>
    cases n with
    | zero =>
      have : a = x := by simpa using hx
      subst this
      show [Value.int .i64 y.a0, Value.string y.a1] ++ FBuffer.flat t = _
      rw [h0]
      rfl
    | succ n =>
      show [Value.int .i64 a.a0, Value.string a.a1] ++ FBuffer.flat (t.set n y) = ([Value.int .i64 a.a0, Value.string a.a1] ++ FBuffer.flat t).set _ _
      rw [ih n (by simpa using hx), show (n + 1) * 2 + 1 = (n * 2 + 1) + 2 from by omega]
      rfl
def echoB (o : Out) (s : ByteArray) : Bool := decide (totF o + s.size ≤ 3000)
def echoL (l : List FBuffer) (s : ByteArray) : List FBuffer := match l[l.length - 1]? with | none => l | some x => l.set (l.length - 1) ⟨x.a0, x.a1 ++ s⟩
def echoY (o : Out) (s : ByteArray) : Out := if o.bufs.length = 0 then ⟨o.sent ++ s, o.heads, o.bufs⟩ else ⟨o.sent, o.heads, echoL o.bufs s⟩
def echoF (o : Out) (s : ByteArray) : Out := if echoB o s = true then echoY o s else o
set_option maxHeartbeats 2000000 in
theorem echo_impl_a (o : Out) (s : ByteArray) (v : Value) (w : World) (l1 : o.heads.length ≤ 1048576) (l2 : o.bufs.length ≤ 1048576) (ht : totF o ≤ 1000000000000) (hs : s.size ≤ 1000000000000) {B : Nat} (hB0 : B ≤ w.heap.size) (hr : OutR w B v o) (h0 : ¬ totF o + s.size ≤ 3000) :
    Calls Try.prog 14 #[v, .string s] w fun e w' => ∃ u, e = .returned (.tuple #[u, .bool false]) ∧ OutO w' w.heap.size u o ∧ Below w.heap.size w w' := by
  obtain ⟨A1, c1, A2, c2, rfl⟩ := hr.form
  have HR := Lib.hid hr
  clear hr
  have hz : ¬ ((totF o : Nat) : Int) + ((s.size : Nat) : Int) ≤ 3000 := by omega
  clear h0
  go_enter Try.func14, Try.ntmps14
  go_wp2_with fail
  refine calls_world _ (fun X => Bx X w.heap.size 27 (.string o.sent) (.slice A1 o.heads.length c1) (.slice A2 o.bufs.length c2) ∧ Bx X (w.heap.size + 1) 27 (.string ⟨#[]⟩) (.slice none 0 0) (.slice none 0 0) ∧ Below w.heap.size w X ∧ w.heap.size + 2 ≤ X.heap.size) ⟨(Bx.new _ _ _ _ _).alloc _, by simpa using Bx.new (w.alloc _) _ _ _ _, ((Below.refl _ _).alloc (Nat.le_refl _) _).alloc (by simp) _, by simp⟩ ?_
  rintro X0 ⟨ba, bz, hB, hz0⟩
  refine (copy_impl o _ _ l1 l2 (B := B) (by omega) (HR.out.below hB hB0)).mono ?_
  rintro e w1 ⟨u1, rfl, own1, hb1⟩
  obtain ⟨A3, c3, A4, c4, rfl⟩ := own1.form
  have ow := own1.inI
  clear own1
  replace ba := ba.below hb1 (Nat.le_refl _)
  replace bz := bz.below hb1 (Nat.le_refl _)
  replace hB := hB.trans (hb1.mono (by omega))
  have hz1 : X0.heap.size ≤ w1.heap.size := hb1.size
  clear hb1
  have ba0 := ba.cell0
  have ba1 := ba.cell1
  have ba2 := ba.cell2
  have bal := ba.lt
  have baf := fun i => ba.frozen i
  have bz0 := bz.cell0
  have bz1 := bz.cell1
  have bz2 := bz.cell2
  have bzl := bz.lt
  have bzf := fun i => bz.frozen i
  go_wp2_with fail
  clear ba0 ba1 ba2 bal baf bz0 bz1 bz2 bzl bzf
  refine calls_world _ (fun X => Bx X w.heap.size 27 (.string o.sent) (.slice A1 o.heads.length c1) (.slice A2 o.bufs.length c2) ∧ Bx X (w.heap.size + 1) 27 (.string ⟨#[]⟩) (.slice none 0 0) (.slice none 0 0) ∧ Bx X w1.heap.size 27 (.string o.sent) (.slice A3 o.heads.length c3) (.slice A4 o.bufs.length c4) ∧ OutI X X0.heap.size w1.heap.size (.agg #[.string o.sent, .slice A3 o.heads.length c3, .slice A4 o.bufs.length c4]) o ∧ Below w.heap.size w X) ⟨ba.alloc _, bz.alloc _, Bx.new _ _ _ _ _, ow.alloc _, hB.alloc (by omega) _⟩ ?_
  clear ba bz ow hB
  rintro w2 ⟨ba, bz, bo, ow, hB⟩
  have hz2 := bo.lt
  refine (total_impl o _ _ l2 ht (B := B) (by omega) (HR.out.below hB hB0)).mono ?_
  rintro e w3 ⟨rfl, hb3⟩
  replace ba := ba.below hb3 (Nat.le_refl _)
  replace bz := bz.below hb3 (Nat.le_refl _)
  replace bo := bo.below hb3 (Nat.le_refl _)
  replace ow := ow.below hb3 (Nat.le_refl _)
  replace hB := hB.trans (hb3.mono (by omega))
  have hz3 : w2.heap.size ≤ w3.heap.size := hb3.size
  clear hb3
  obtain ⟨h3, h4, he, P1, P2, i1, i2⟩ := ow
  simp only [Value.agg.injEq, Array.mk.injEq, List.cons.injEq, true_and, and_true] at he
  obtain ⟨rfl, rfl⟩ := he
  have O1 := Lib.hid P1
  have O2 := Lib.hid P2
  have X1 : (Value.slice A3 o.heads.length c3).ownBlock ≠ some w1.heap.size := fun e => Nat.lt_irrefl _ (i1 _ e)
  have X2 : (Value.slice A4 o.bufs.length c4).ownBlock ≠ some w1.heap.size := fun e => Nat.lt_irrefl _ (i2 _ e)
  clear P1 P2 i1 i2
  have ba0 := ba.cell0
  have ba1 := ba.cell1
  have ba2 := ba.cell2
  have bal := ba.lt
  have baf := fun i => ba.frozen i
  have bz0 := bz.cell0
  have bz1 := bz.cell1
  have bz2 := bz.cell2
  have bzl := bz.lt
  have bzf := fun i => bz.frozen i
  have bo0 := bo.cell0
  have bo1 := bo.cell1
  have bo2 := bo.cell2
  have bol := bo.lt
  have bof := fun i => bo.frozen i
  go_wp2_with fail
  refine bodyPost_ret (v := .tuple #[.agg #[.string o.sent, .slice A3 o.heads.length c3, .slice A4 o.bufs.length c4], .bool false]) (by simp [results, Try.results14, go_sem, bz0, bz1, bz2, bzl, bzf, bo0, bo1, bo2, bol, bof]) rfl ⟨_, rfl, ⟨_, _, rfl, ?_, ?_⟩, ?_⟩
  · refine ownsRow_le (base := X0.heap.size) ?_ (by omega)
    repeat (first | (refine ownsRow_setCell_below ?_ (by first | (simp; done) | (simp; omega)) _) | (refine ownsRow_setCell_ne ?_ _ (by assumption)) | (refine World.ownsRow.alloc ?_ _))
    exact O1.out
  · refine ownsRow_le (base := X0.heap.size) ?_ (by omega)
    repeat (first | (refine ownsRow_setCell_below ?_ (by first | (simp; done) | (simp; omega)) _) | (refine ownsRow_setCell_ne ?_ _ (by assumption)) | (refine World.ownsRow.alloc ?_ _))
    exact O2.out
  · repeat (first | exact hB | (refine Below.drew ?_) | (refine Below.setCell ?_ (by first | (simp; done) | (simp; omega)) _) | (refine Below.alloc ?_ (by first | (simp; done) | (simp; omega)) _))
set_option maxHeartbeats 2000000 in
theorem echo_impl_b (o : Out) (s : ByteArray) (v : Value) (w : World) (l1 : o.heads.length ≤ 1048576) (l2 : o.bufs.length ≤ 1048576) (ht : totF o ≤ 1000000000000) (hs : s.size ≤ 1000000000000) {B : Nat} (hB0 : B ≤ w.heap.size) (hr : OutR w B v o) (h0 : totF o + s.size ≤ 3000) (h1 : o.bufs.length = 0) :
    Calls Try.prog 14 #[v, .string s] w fun e w' => ∃ u, e = .returned (.tuple #[u, .bool true]) ∧ OutO w' w.heap.size u ⟨o.sent ++ s, o.heads, o.bufs⟩ ∧ Below w.heap.size w w' := by
  obtain ⟨A1, c1, A2, c2, rfl⟩ := hr.form
  have HR := Lib.hid hr
  clear hr
  have hz : ((totF o : Nat) : Int) + ((s.size : Nat) : Int) ≤ 3000 := by omega
  have hss : o.sent.size ≤ 3000 := by unfold totF at h0; omega
  have hso : s.size ≤ 3000 := by omega
  have hn : ¬ ((o.bufs.length : Int) - 1) ≥ 0 := by omega
  have hn2 : ((o.bufs.length : Int) - 1) < 0 := by omega
  clear h0 h1
  go_enter Try.func14, Try.ntmps14
  go_wp2_with fail
  refine calls_world _ (fun X => Bx X w.heap.size 27 (.string o.sent) (.slice A1 o.heads.length c1) (.slice A2 o.bufs.length c2) ∧ Bx X (w.heap.size + 1) 27 (.string ⟨#[]⟩) (.slice none 0 0) (.slice none 0 0) ∧ Below w.heap.size w X ∧ w.heap.size + 2 ≤ X.heap.size) ⟨(Bx.new _ _ _ _ _).alloc _, by simpa using Bx.new (w.alloc _) _ _ _ _, ((Below.refl _ _).alloc (Nat.le_refl _) _).alloc (by simp) _, by simp⟩ ?_
  rintro X0 ⟨ba, bz, hB, hz0⟩
  refine (copy_impl o _ _ l1 l2 (B := B) (by omega) (HR.out.below hB hB0)).mono ?_
  rintro e w1 ⟨u1, rfl, own1, hb1⟩
  obtain ⟨A3, c3, A4, c4, rfl⟩ := own1.form
  have ow := own1.inI
  clear own1
  replace ba := ba.below hb1 (Nat.le_refl _)
  replace bz := bz.below hb1 (Nat.le_refl _)
  replace hB := hB.trans (hb1.mono (by omega))
  have hz1 : X0.heap.size ≤ w1.heap.size := hb1.size
  clear hb1
  have ba0 := ba.cell0
  have ba1 := ba.cell1
  have ba2 := ba.cell2
  have bal := ba.lt
  have baf := fun i => ba.frozen i
  have bz0 := bz.cell0
  have bz1 := bz.cell1
  have bz2 := bz.cell2
  have bzl := bz.lt
  have bzf := fun i => bz.frozen i
  go_wp2_with fail
  clear ba0 ba1 ba2 bal baf bz0 bz1 bz2 bzl bzf
  refine calls_world _ (fun X => Bx X w.heap.size 27 (.string o.sent) (.slice A1 o.heads.length c1) (.slice A2 o.bufs.length c2) ∧ Bx X (w.heap.size + 1) 27 (.string ⟨#[]⟩) (.slice none 0 0) (.slice none 0 0) ∧ Bx X w1.heap.size 27 (.string o.sent) (.slice A3 o.heads.length c3) (.slice A4 o.bufs.length c4) ∧ OutI X X0.heap.size w1.heap.size (.agg #[.string o.sent, .slice A3 o.heads.length c3, .slice A4 o.bufs.length c4]) o ∧ Below w.heap.size w X) ⟨ba.alloc _, bz.alloc _, Bx.new _ _ _ _ _, ow.alloc _, hB.alloc (by omega) _⟩ ?_
  clear ba bz ow hB
  rintro w2 ⟨ba, bz, bo, ow, hB⟩
  have hz2 := bo.lt
  refine (total_impl o _ _ l2 ht (B := B) (by omega) (HR.out.below hB hB0)).mono ?_
  rintro e w3 ⟨rfl, hb3⟩
  replace ba := ba.below hb3 (Nat.le_refl _)
  replace bz := bz.below hb3 (Nat.le_refl _)
  replace bo := bo.below hb3 (Nat.le_refl _)
  replace ow := ow.below hb3 (Nat.le_refl _)
  replace hB := hB.trans (hb3.mono (by omega))
  have hz3 : w2.heap.size ≤ w3.heap.size := hb3.size
  clear hb3
  obtain ⟨h3, h4, he, P1, P2, i1, i2⟩ := ow
  simp only [Value.agg.injEq, Array.mk.injEq, List.cons.injEq, true_and, and_true] at he
  obtain ⟨rfl, rfl⟩ := he
  have O1 := Lib.hid P1
  have O2 := Lib.hid P2
  have X1 : (Value.slice A3 o.heads.length c3).ownBlock ≠ some w1.heap.size := fun e => Nat.lt_irrefl _ (i1 _ e)
  have X2 : (Value.slice A4 o.bufs.length c4).ownBlock ≠ some w1.heap.size := fun e => Nat.lt_irrefl _ (i2 _ e)
  clear P1 P2 i1 i2
  have ba0 := ba.cell0
  have ba1 := ba.cell1
  have ba2 := ba.cell2
  have bal := ba.lt
  have baf := fun i => ba.frozen i
  have bz0 := bz.cell0
  have bz1 := bz.cell1
  have bz2 := bz.cell2
  have bzl := bz.lt
  have bzf := fun i => bz.frozen i
  have bo0 := bo.cell0
  have bo1 := bo.cell1
  have bo2 := bo.cell2
  have bol := bo.lt
  have bof := fun i => bo.frozen i
  go_wp2_with fail
  refine bodyPost_ret (v := .tuple #[.agg #[.string (o.sent ++ s), .slice A3 o.heads.length c3, .slice A4 o.bufs.length c4], .bool true]) (by simp [results, Try.results14, go_sem, bz0, bz1, bz2, bzl, bzf, bo0, bo1, bo2, bol, bof]) rfl ⟨_, rfl, ⟨_, _, rfl, ?_, ?_⟩, ?_⟩
  · refine ownsRow_le (base := X0.heap.size) ?_ (by omega)
    repeat (first | (refine ownsRow_setCell_below ?_ (by first | (simp; done) | (simp; omega)) _) | (refine ownsRow_setCell_ne ?_ _ (by assumption)) | (refine World.ownsRow.alloc ?_ _))
    exact O1.out
  · refine ownsRow_le (base := X0.heap.size) ?_ (by omega)
    repeat (first | (refine ownsRow_setCell_below ?_ (by first | (simp; done) | (simp; omega)) _) | (refine ownsRow_setCell_ne ?_ _ (by assumption)) | (refine World.ownsRow.alloc ?_ _))
    exact O2.out
  · repeat (first | exact hB | (refine Below.drew ?_) | (refine Below.setCell ?_ (by first | (simp; done) | (simp; omega)) _) | (refine Below.alloc ?_ (by first | (simp; done) | (simp; omega)) _))
set_option maxHeartbeats 2000000 in
theorem echo_impl_c (o : Out) (s : ByteArray) (v : Value) (w : World) (l1 : o.heads.length ≤ 1048576) (l2 : o.bufs.length ≤ 1048576) (ht : totF o ≤ 1000000000000) (hs : s.size ≤ 1000000000000) {B : Nat} (hB0 : B ≤ w.heap.size) (hr : OutR w B v o) (h0 : totF o + s.size ≤ 3000) (x : FBuffer) (n : Nat) (h1 : o.bufs.length = n + 1) (hx : o.bufs[n]? = some x) :
    Calls Try.prog 14 #[v, .string s] w fun e w' => ∃ u, e = .returned (.tuple #[u, .bool true]) ∧ OutO w' w.heap.size u ⟨o.sent, o.heads, o.bufs.set n ⟨x.a0, x.a1 ++ s⟩⟩ ∧ Below w.heap.size w w' := by
  obtain ⟨A1, c1, A2, c2, rfl⟩ := hr.form
  have HR := Lib.hid hr
  clear hr
  have hz : ((totF o : Nat) : Int) + ((s.size : Nat) : Int) ≤ 3000 := by omega
  have hso : s.size ≤ 3000 := by omega
  have hxs : x.a1.size ≤ 3000 := by
    have e1 := FBuffer.wts_take o.bufs n x hx
    have e2 := FBuffer.wts_le o.bufs (n + 1)
    have e5 : x.wt = x.a1.size := rfl
    unfold totF at h0
    omega
  have HX := Lib.hid hx
  have HN := Lib.hid h1
  have hn : ((o.bufs.length : Int) - 1) = (n : Int) := by omega
  have hn0 : ¬ ((o.bufs.length : Int) - 1) < 0 := by omega
  have hlt : n < o.bufs.length := by omega
  clear h0 hx h1
  go_enter Try.func14, Try.ntmps14
  go_wp2_with fail
  refine calls_world _ (fun X => Bx X w.heap.size 27 (.string o.sent) (.slice A1 o.heads.length c1) (.slice A2 o.bufs.length c2) ∧ Bx X (w.heap.size + 1) 27 (.string ⟨#[]⟩) (.slice none 0 0) (.slice none 0 0) ∧ Below w.heap.size w X ∧ w.heap.size + 2 ≤ X.heap.size) ⟨(Bx.new _ _ _ _ _).alloc _, by simpa using Bx.new (w.alloc _) _ _ _ _, ((Below.refl _ _).alloc (Nat.le_refl _) _).alloc (by simp) _, by simp⟩ ?_
  rintro X0 ⟨ba, bz, hB, hz0⟩
  refine (copy_impl o _ _ l1 l2 (B := B) (by omega) (HR.out.below hB hB0)).mono ?_
  rintro e w1 ⟨u1, rfl, own1, hb1⟩
  obtain ⟨A3, c3, A4, c4, rfl⟩ := own1.form
  have ow := own1.inI
  clear own1
  replace ba := ba.below hb1 (Nat.le_refl _)
  replace bz := bz.below hb1 (Nat.le_refl _)
  replace hB := hB.trans (hb1.mono (by omega))
  have hz1 : X0.heap.size ≤ w1.heap.size := hb1.size
  clear hb1
  have ba0 := ba.cell0
  have ba1 := ba.cell1
  have ba2 := ba.cell2
  have bal := ba.lt
  have baf := fun i => ba.frozen i
  have bz0 := bz.cell0
  have bz1 := bz.cell1
  have bz2 := bz.cell2
  have bzl := bz.lt
  have bzf := fun i => bz.frozen i
  go_wp2_with fail
  clear ba0 ba1 ba2 bal baf bz0 bz1 bz2 bzl bzf
  refine calls_world _ (fun X => Bx X w.heap.size 27 (.string o.sent) (.slice A1 o.heads.length c1) (.slice A2 o.bufs.length c2) ∧ Bx X (w.heap.size + 1) 27 (.string ⟨#[]⟩) (.slice none 0 0) (.slice none 0 0) ∧ Bx X w1.heap.size 27 (.string o.sent) (.slice A3 o.heads.length c3) (.slice A4 o.bufs.length c4) ∧ OutI X X0.heap.size w1.heap.size (.agg #[.string o.sent, .slice A3 o.heads.length c3, .slice A4 o.bufs.length c4]) o ∧ Below w.heap.size w X) ⟨ba.alloc _, bz.alloc _, Bx.new _ _ _ _ _, ow.alloc _, hB.alloc (by omega) _⟩ ?_
  clear ba bz ow hB
  rintro w2 ⟨ba, bz, bo, ow, hB⟩
  have hz2 := bo.lt
  refine (total_impl o _ _ l2 ht (B := B) (by omega) (HR.out.below hB hB0)).mono ?_
  rintro e w3 ⟨rfl, hb3⟩
  replace ba := ba.below hb3 (Nat.le_refl _)
  replace bz := bz.below hb3 (Nat.le_refl _)
  replace bo := bo.below hb3 (Nat.le_refl _)
  replace ow := ow.below hb3 (Nat.le_refl _)
  replace hB := hB.trans (hb3.mono (by omega))
  have hz3 : w2.heap.size ≤ w3.heap.size := hb3.size
  clear hb3
  obtain ⟨h3, h4, he, P1, P2, i1, i2⟩ := ow
  simp only [Value.agg.injEq, Array.mk.injEq, List.cons.injEq, true_and, and_true] at he
  obtain ⟨rfl, rfl⟩ := he
  have O1 := Lib.hid P1
  have O2 := Lib.hid P2
  have X1 : (Value.slice A3 o.heads.length c3).ownBlock ≠ some w1.heap.size := fun e => Nat.lt_irrefl _ (i1 _ e)
  have X2 : (Value.slice A4 o.bufs.length c4).ownBlock ≠ some w1.heap.size := fun e => Nat.lt_irrefl _ (i2 _ e)
  obtain ⟨g, rfl, hg0, hgl, gc, gf⟩ := own_last P2 HX.out HN.out
  have hgb : g < w1.heap.size := i2 g rfl
  have X3 : (Value.slice A3 o.heads.length c3).ownBlock ≠ some g := fun e => types_ne P1 P2 (by decide) g e rfl
  have Z2 : (w3.setCell ⟨g, n * 2 + 1, none⟩ (.string (x.a1 ++ s))).ownsRow X0.heap.size 61 2 (.slice (some ⟨g, 0, none⟩) o.bufs.length c4) (o.bufs.set n ⟨x.a0, x.a1 ++ s⟩).length (FBuffer.flat (o.bufs.set n ⟨x.a0, x.a1 ++ s⟩)) := by
    rw [List.length_set, flat_set o.bufs n x ⟨x.a0, x.a1 ++ s⟩ HX.out rfl]
    exact own_set P2 (by omega) _
  clear P1 P2 i1 i2
  have ba0 := ba.cell0
  have ba1 := ba.cell1
  have ba2 := ba.cell2
  have bal := ba.lt
  have baf := fun i => ba.frozen i
  have bz0 := bz.cell0
  have bz1 := bz.cell1
  have bz2 := bz.cell2
  have bzl := bz.lt
  have bzf := fun i => bz.frozen i
  have bo0 := bo.cell0
  have bo1 := bo.cell1
  have bo2 := bo.cell2
  have bol := bo.lt
  have bof := fun i => bo.frozen i
  go_wp2_with fail
  go_region
  all_goals go_wp2_with fail
  refine bodyPost_ret (v := .tuple #[.agg #[.string o.sent, .slice A3 o.heads.length c3, .slice (some ⟨g, 0, none⟩) o.bufs.length c4], .bool true]) (by simp [results, Try.results14, go_sem, bz0, bz1, bz2, bzl, bzf, bo0, bo1, bo2, bol, bof]) rfl ⟨_, rfl, ⟨_, _, rfl, ?_, ?_⟩, ?_⟩
  · refine ownsRow_le (base := X0.heap.size) ?_ (by omega)
    repeat (first | (refine ownsRow_setCell_below ?_ (by first | (simp; done) | (simp; omega)) _) | (refine ownsRow_setCell_ne ?_ _ (by assumption)) | (refine World.ownsRow.alloc ?_ _))
    exact O1.out
  · refine ownsRow_le (base := X0.heap.size) ?_ (by omega)
    repeat (first | (refine ownsRow_setCell_below ?_ (by first | (simp; done) | (simp; omega)) _) | (refine ownsRow_setCell_ne ?_ _ (by assumption)) | (refine World.ownsRow.alloc ?_ _))
    exact Z2
  · repeat (first | exact hB | (refine Below.drew ?_) | (refine Below.setCell ?_ (by first | (simp; done) | (simp; omega)) _) | (refine Below.alloc ?_ (by first | (simp; done) | (simp; omega)) _))
set_option maxHeartbeats 2000000 in
theorem echo_impl (o : Out) (s : ByteArray) (v : Value) (w : World) (l1 : o.heads.length ≤ 1048576) (l2 : o.bufs.length ≤ 1048576) (ht : totF o ≤ 1000000000000) (hs : s.size ≤ 1000000000000) {B : Nat} (hB0 : B ≤ w.heap.size) (hr : OutR w B v o)  :
    Calls Try.prog 14 #[v, .string s] w fun e w' => ∃ u, e = .returned (.tuple #[u, .bool (echoB o s)]) ∧ OutO w' w.heap.size u (echoF o s) ∧ Below w.heap.size w w' := by
  by_cases h0 : totF o + s.size ≤ 3000
  · have hb : echoB o s = true := by unfold echoB; exact decide_eq_true h0
    have hf : echoF o s = echoY o s := by unfold echoF; rw [if_pos hb]
    rw [hb, hf]
    by_cases h1 : o.bufs.length = 0
    · have hy : echoY o s = ⟨o.sent ++ s, o.heads, o.bufs⟩ := by unfold echoY; rw [if_pos h1]
      rw [hy]
      exact echo_impl_b o s v w l1 l2 ht hs hB0 hr h0 h1
    · obtain ⟨n, hn⟩ : ∃ n, o.bufs.length = n + 1 := ⟨o.bufs.length - 1, by omega⟩
      obtain ⟨x, hx⟩ : ∃ x, o.bufs[n]? = some x := ⟨_, List.getElem?_eq_getElem (by omega)⟩
      have hy : echoY o s = ⟨o.sent, o.heads, o.bufs.set n ⟨x.a0, x.a1 ++ s⟩⟩ := by
        unfold echoY echoL
        rw [if_neg h1, show o.bufs.length - 1 = n from by omega, hx]
      rw [hy]
      exact echo_impl_c o s v w l1 l2 ht hs hB0 hr h0 x n hn hx
  · have hb : echoB o s = false := by unfold echoB; exact decide_eq_false h0
    have hf : echoF o s = o := by unfold echoF; rw [hb]; rfl
    rw [hb, hf]
    exact echo_impl_a o s v w l1 l2 ht hs hB0 hr h0
set_option maxHeartbeats 2000000 in
theorem echo_spec_a (o : Out) (s : ByteArray) (v : Value) (w : World) (l1 : o.heads.length ≤ 1048576) (l2 : o.bufs.length ≤ 1048576) (ht : totF o ≤ 1000000000000) (hs : s.size ≤ 1000000000000) {B : Nat} (hB0 : B ≤ w.heap.size) (hr : OutR w B v o) (h0 : ¬ totF o + s.size ≤ 3000) :
    Calls Try.prog 45 #[v, .string s] w fun e w' => ∃ u, e = .returned (.tuple #[u, .bool false]) ∧ OutO w' w.heap.size u o ∧ Below w.heap.size w w' := by
  obtain ⟨A1, c1, A2, c2, rfl⟩ := hr.form
  have HR := Lib.hid hr
  clear hr
  have hz : ¬ ((s.size : Nat) : Int) ≤ 3000 - ((totF o : Nat) : Int) := by omega
  clear h0
  go_enter Try.func45, Try.ntmps45
  go_wp2_with fail
  refine calls_world _ (fun X => Bx X w.heap.size 27 (.string o.sent) (.slice A1 o.heads.length c1) (.slice A2 o.bufs.length c2) ∧ Bx X (w.heap.size + 1) 27 (.string ⟨#[]⟩) (.slice none 0 0) (.slice none 0 0) ∧ Below w.heap.size w X ∧ w.heap.size + 2 ≤ X.heap.size) ⟨(Bx.new _ _ _ _ _).alloc _, by simpa using Bx.new (w.alloc _) _ _ _ _, ((Below.refl _ _).alloc (Nat.le_refl _) _).alloc (by simp) _, by simp⟩ ?_
  rintro X0 ⟨ba, bz, hB, hz0⟩
  refine (copy_spec o _ _ l1 l2 (B := B) (by omega) (HR.out.below hB hB0)).mono ?_
  rintro e w1 ⟨u1, rfl, own1, hb1⟩
  obtain ⟨A3, c3, A4, c4, rfl⟩ := own1.form
  have ow := own1.inI
  clear own1
  replace ba := ba.below hb1 (Nat.le_refl _)
  replace bz := bz.below hb1 (Nat.le_refl _)
  replace hB := hB.trans (hb1.mono (by omega))
  have hz1 : X0.heap.size ≤ w1.heap.size := hb1.size
  clear hb1
  have ba0 := ba.cell0
  have ba1 := ba.cell1
  have ba2 := ba.cell2
  have bal := ba.lt
  have baf := fun i => ba.frozen i
  have bz0 := bz.cell0
  have bz1 := bz.cell1
  have bz2 := bz.cell2
  have bzl := bz.lt
  have bzf := fun i => bz.frozen i
  go_wp2_with fail
  clear ba0 ba1 ba2 bal baf bz0 bz1 bz2 bzl bzf
  refine calls_world _ (fun X => Bx X w.heap.size 27 (.string o.sent) (.slice A1 o.heads.length c1) (.slice A2 o.bufs.length c2) ∧ Bx X (w.heap.size + 1) 27 (.string ⟨#[]⟩) (.slice none 0 0) (.slice none 0 0) ∧ Bx X w1.heap.size 27 (.string o.sent) (.slice A3 o.heads.length c3) (.slice A4 o.bufs.length c4) ∧ OutI X X0.heap.size w1.heap.size (.agg #[.string o.sent, .slice A3 o.heads.length c3, .slice A4 o.bufs.length c4]) o ∧ Below w.heap.size w X) ⟨ba.alloc _, bz.alloc _, Bx.new _ _ _ _ _, ow.alloc _, hB.alloc (by omega) _⟩ ?_
  clear ba bz ow hB
  rintro w2 ⟨ba, bz, bo, ow, hB⟩
  have hz2 := bo.lt
  refine (total_spec o _ _ l2 ht (B := B) (by omega) (HR.out.below hB hB0)).mono ?_
  rintro e w3 ⟨rfl, hb3⟩
  replace ba := ba.below hb3 (Nat.le_refl _)
  replace bz := bz.below hb3 (Nat.le_refl _)
  replace bo := bo.below hb3 (Nat.le_refl _)
  replace ow := ow.below hb3 (Nat.le_refl _)
  replace hB := hB.trans (hb3.mono (by omega))
  have hz3 : w2.heap.size ≤ w3.heap.size := hb3.size
  clear hb3
  obtain ⟨h3, h4, he, P1, P2, i1, i2⟩ := ow
  simp only [Value.agg.injEq, Array.mk.injEq, List.cons.injEq, true_and, and_true] at he
  obtain ⟨rfl, rfl⟩ := he
  have O1 := Lib.hid P1
  have O2 := Lib.hid P2
  have X1 : (Value.slice A3 o.heads.length c3).ownBlock ≠ some w1.heap.size := fun e => Nat.lt_irrefl _ (i1 _ e)
  have X2 : (Value.slice A4 o.bufs.length c4).ownBlock ≠ some w1.heap.size := fun e => Nat.lt_irrefl _ (i2 _ e)
  clear P1 P2 i1 i2
  have ba0 := ba.cell0
  have ba1 := ba.cell1
  have ba2 := ba.cell2
  have bal := ba.lt
  have baf := fun i => ba.frozen i
  have bz0 := bz.cell0
  have bz1 := bz.cell1
  have bz2 := bz.cell2
  have bzl := bz.lt
  have bzf := fun i => bz.frozen i
  have bo0 := bo.cell0
  have bo1 := bo.cell1
  have bo2 := bo.cell2
  have bol := bo.lt
  have bof := fun i => bo.frozen i
  go_wp2_with fail
  refine bodyPost_ret (v := .tuple #[.agg #[.string o.sent, .slice A3 o.heads.length c3, .slice A4 o.bufs.length c4], .bool false]) (by simp [results, Try.results45, go_sem, bz0, bz1, bz2, bzl, bzf, bo0, bo1, bo2, bol, bof]) rfl ⟨_, rfl, ⟨_, _, rfl, ?_, ?_⟩, ?_⟩
  · refine ownsRow_le (base := X0.heap.size) ?_ (by omega)
    repeat (first | (refine ownsRow_setCell_below ?_ (by first | (simp; done) | (simp; omega)) _) | (refine ownsRow_setCell_ne ?_ _ (by assumption)) | (refine World.ownsRow.alloc ?_ _))
    exact O1.out
  · refine ownsRow_le (base := X0.heap.size) ?_ (by omega)
    repeat (first | (refine ownsRow_setCell_below ?_ (by first | (simp; done) | (simp; omega)) _) | (refine ownsRow_setCell_ne ?_ _ (by assumption)) | (refine World.ownsRow.alloc ?_ _))
    exact O2.out
  · repeat (first | exact hB | (refine Below.drew ?_) | (refine Below.setCell ?_ (by first | (simp; done) | (simp; omega)) _) | (refine Below.alloc ?_ (by first | (simp; done) | (simp; omega)) _))
set_option maxHeartbeats 2000000 in
theorem echo_spec_b (o : Out) (s : ByteArray) (v : Value) (w : World) (l1 : o.heads.length ≤ 1048576) (l2 : o.bufs.length ≤ 1048576) (ht : totF o ≤ 1000000000000) (hs : s.size ≤ 1000000000000) {B : Nat} (hB0 : B ≤ w.heap.size) (hr : OutR w B v o) (h0 : totF o + s.size ≤ 3000) (h1 : o.bufs.length = 0) :
    Calls Try.prog 45 #[v, .string s] w fun e w' => ∃ u, e = .returned (.tuple #[u, .bool true]) ∧ OutO w' w.heap.size u ⟨o.sent ++ s, o.heads, o.bufs⟩ ∧ Below w.heap.size w w' := by
  obtain ⟨A1, c1, A2, c2, rfl⟩ := hr.form
  have HR := Lib.hid hr
  clear hr
  have hz : ((s.size : Nat) : Int) ≤ 3000 - ((totF o : Nat) : Int) := by omega
  have hss : o.sent.size ≤ 3000 := by unfold totF at h0; omega
  have hso : s.size ≤ 3000 := by omega
  have hn : ((o.bufs.length : Int) == 0) = true := by rw [h1]; rfl
  clear h0 h1
  go_enter Try.func45, Try.ntmps45
  go_wp2_with fail
  refine calls_world _ (fun X => Bx X w.heap.size 27 (.string o.sent) (.slice A1 o.heads.length c1) (.slice A2 o.bufs.length c2) ∧ Bx X (w.heap.size + 1) 27 (.string ⟨#[]⟩) (.slice none 0 0) (.slice none 0 0) ∧ Below w.heap.size w X ∧ w.heap.size + 2 ≤ X.heap.size) ⟨(Bx.new _ _ _ _ _).alloc _, by simpa using Bx.new (w.alloc _) _ _ _ _, ((Below.refl _ _).alloc (Nat.le_refl _) _).alloc (by simp) _, by simp⟩ ?_
  rintro X0 ⟨ba, bz, hB, hz0⟩
  refine (copy_spec o _ _ l1 l2 (B := B) (by omega) (HR.out.below hB hB0)).mono ?_
  rintro e w1 ⟨u1, rfl, own1, hb1⟩
  obtain ⟨A3, c3, A4, c4, rfl⟩ := own1.form
  have ow := own1.inI
  clear own1
  replace ba := ba.below hb1 (Nat.le_refl _)
  replace bz := bz.below hb1 (Nat.le_refl _)
  replace hB := hB.trans (hb1.mono (by omega))
  have hz1 : X0.heap.size ≤ w1.heap.size := hb1.size
  clear hb1
  have ba0 := ba.cell0
  have ba1 := ba.cell1
  have ba2 := ba.cell2
  have bal := ba.lt
  have baf := fun i => ba.frozen i
  have bz0 := bz.cell0
  have bz1 := bz.cell1
  have bz2 := bz.cell2
  have bzl := bz.lt
  have bzf := fun i => bz.frozen i
  go_wp2_with fail
  clear ba0 ba1 ba2 bal baf bz0 bz1 bz2 bzl bzf
  refine calls_world _ (fun X => Bx X w.heap.size 27 (.string o.sent) (.slice A1 o.heads.length c1) (.slice A2 o.bufs.length c2) ∧ Bx X (w.heap.size + 1) 27 (.string ⟨#[]⟩) (.slice none 0 0) (.slice none 0 0) ∧ Bx X w1.heap.size 27 (.string o.sent) (.slice A3 o.heads.length c3) (.slice A4 o.bufs.length c4) ∧ OutI X X0.heap.size w1.heap.size (.agg #[.string o.sent, .slice A3 o.heads.length c3, .slice A4 o.bufs.length c4]) o ∧ Below w.heap.size w X) ⟨ba.alloc _, bz.alloc _, Bx.new _ _ _ _ _, ow.alloc _, hB.alloc (by omega) _⟩ ?_
  clear ba bz ow hB
  rintro w2 ⟨ba, bz, bo, ow, hB⟩
  have hz2 := bo.lt
  refine (total_spec o _ _ l2 ht (B := B) (by omega) (HR.out.below hB hB0)).mono ?_
  rintro e w3 ⟨rfl, hb3⟩
  replace ba := ba.below hb3 (Nat.le_refl _)
  replace bz := bz.below hb3 (Nat.le_refl _)
  replace bo := bo.below hb3 (Nat.le_refl _)
  replace ow := ow.below hb3 (Nat.le_refl _)
  replace hB := hB.trans (hb3.mono (by omega))
  have hz3 : w2.heap.size ≤ w3.heap.size := hb3.size
  clear hb3
  obtain ⟨h3, h4, he, P1, P2, i1, i2⟩ := ow
  simp only [Value.agg.injEq, Array.mk.injEq, List.cons.injEq, true_and, and_true] at he
  obtain ⟨rfl, rfl⟩ := he
  have O1 := Lib.hid P1
  have O2 := Lib.hid P2
  have X1 : (Value.slice A3 o.heads.length c3).ownBlock ≠ some w1.heap.size := fun e => Nat.lt_irrefl _ (i1 _ e)
  have X2 : (Value.slice A4 o.bufs.length c4).ownBlock ≠ some w1.heap.size := fun e => Nat.lt_irrefl _ (i2 _ e)
  clear P1 P2 i1 i2
  have ba0 := ba.cell0
  have ba1 := ba.cell1
  have ba2 := ba.cell2
  have bal := ba.lt
  have baf := fun i => ba.frozen i
  have bz0 := bz.cell0
  have bz1 := bz.cell1
  have bz2 := bz.cell2
  have bzl := bz.lt
  have bzf := fun i => bz.frozen i
  have bo0 := bo.cell0
  have bo1 := bo.cell1
  have bo2 := bo.cell2
  have bol := bo.lt
  have bof := fun i => bo.frozen i
  go_wp2_with fail
  refine bodyPost_ret (v := .tuple #[.agg #[.string (o.sent ++ s), .slice A3 o.heads.length c3, .slice A4 o.bufs.length c4], .bool true]) (by simp [results, Try.results45, go_sem, bz0, bz1, bz2, bzl, bzf, bo0, bo1, bo2, bol, bof]) rfl ⟨_, rfl, ⟨_, _, rfl, ?_, ?_⟩, ?_⟩
  · refine ownsRow_le (base := X0.heap.size) ?_ (by omega)
    repeat (first | (refine ownsRow_setCell_below ?_ (by first | (simp; done) | (simp; omega)) _) | (refine ownsRow_setCell_ne ?_ _ (by assumption)) | (refine World.ownsRow.alloc ?_ _))
    exact O1.out
  · refine ownsRow_le (base := X0.heap.size) ?_ (by omega)
    repeat (first | (refine ownsRow_setCell_below ?_ (by first | (simp; done) | (simp; omega)) _) | (refine ownsRow_setCell_ne ?_ _ (by assumption)) | (refine World.ownsRow.alloc ?_ _))
    exact O2.out
  · repeat (first | exact hB | (refine Below.drew ?_) | (refine Below.setCell ?_ (by first | (simp; done) | (simp; omega)) _) | (refine Below.alloc ?_ (by first | (simp; done) | (simp; omega)) _))
set_option maxHeartbeats 2000000 in
theorem echo_spec_c (o : Out) (s : ByteArray) (v : Value) (w : World) (l1 : o.heads.length ≤ 1048576) (l2 : o.bufs.length ≤ 1048576) (ht : totF o ≤ 1000000000000) (hs : s.size ≤ 1000000000000) {B : Nat} (hB0 : B ≤ w.heap.size) (hr : OutR w B v o) (h0 : totF o + s.size ≤ 3000) (x : FBuffer) (n : Nat) (h1 : o.bufs.length = n + 1) (hx : o.bufs[n]? = some x) :
    Calls Try.prog 45 #[v, .string s] w fun e w' => ∃ u, e = .returned (.tuple #[u, .bool true]) ∧ OutO w' w.heap.size u ⟨o.sent, o.heads, o.bufs.set n ⟨x.a0, x.a1 ++ s⟩⟩ ∧ Below w.heap.size w w' := by
  obtain ⟨A1, c1, A2, c2, rfl⟩ := hr.form
  have HR := Lib.hid hr
  clear hr
  have hz : ((s.size : Nat) : Int) ≤ 3000 - ((totF o : Nat) : Int) := by omega
  have hso : s.size ≤ 3000 := by omega
  have hxs : x.a1.size ≤ 3000 := by
    have e1 := FBuffer.wts_take o.bufs n x hx
    have e2 := FBuffer.wts_le o.bufs (n + 1)
    have e5 : x.wt = x.a1.size := rfl
    unfold totF at h0
    omega
  have HX := Lib.hid hx
  have HN := Lib.hid h1
  have hn : ((o.bufs.length : Int) == 0) = false := by rw [beq_eq_false_iff_ne]; omega
  have hn2 : ((o.bufs.length : Int) - 1) = (n : Int) := by omega
  have hlt : n < o.bufs.length := by omega
  clear h0 hx h1
  go_enter Try.func45, Try.ntmps45
  go_wp2_with fail
  refine calls_world _ (fun X => Bx X w.heap.size 27 (.string o.sent) (.slice A1 o.heads.length c1) (.slice A2 o.bufs.length c2) ∧ Bx X (w.heap.size + 1) 27 (.string ⟨#[]⟩) (.slice none 0 0) (.slice none 0 0) ∧ Below w.heap.size w X ∧ w.heap.size + 2 ≤ X.heap.size) ⟨(Bx.new _ _ _ _ _).alloc _, by simpa using Bx.new (w.alloc _) _ _ _ _, ((Below.refl _ _).alloc (Nat.le_refl _) _).alloc (by simp) _, by simp⟩ ?_
  rintro X0 ⟨ba, bz, hB, hz0⟩
  refine (copy_spec o _ _ l1 l2 (B := B) (by omega) (HR.out.below hB hB0)).mono ?_
  rintro e w1 ⟨u1, rfl, own1, hb1⟩
  obtain ⟨A3, c3, A4, c4, rfl⟩ := own1.form
  have ow := own1.inI
  clear own1
  replace ba := ba.below hb1 (Nat.le_refl _)
  replace bz := bz.below hb1 (Nat.le_refl _)
  replace hB := hB.trans (hb1.mono (by omega))
  have hz1 : X0.heap.size ≤ w1.heap.size := hb1.size
  clear hb1
  have ba0 := ba.cell0
  have ba1 := ba.cell1
  have ba2 := ba.cell2
  have bal := ba.lt
  have baf := fun i => ba.frozen i
  have bz0 := bz.cell0
  have bz1 := bz.cell1
  have bz2 := bz.cell2
  have bzl := bz.lt
  have bzf := fun i => bz.frozen i
  go_wp2_with fail
  clear ba0 ba1 ba2 bal baf bz0 bz1 bz2 bzl bzf
  refine calls_world _ (fun X => Bx X w.heap.size 27 (.string o.sent) (.slice A1 o.heads.length c1) (.slice A2 o.bufs.length c2) ∧ Bx X (w.heap.size + 1) 27 (.string ⟨#[]⟩) (.slice none 0 0) (.slice none 0 0) ∧ Bx X w1.heap.size 27 (.string o.sent) (.slice A3 o.heads.length c3) (.slice A4 o.bufs.length c4) ∧ OutI X X0.heap.size w1.heap.size (.agg #[.string o.sent, .slice A3 o.heads.length c3, .slice A4 o.bufs.length c4]) o ∧ Below w.heap.size w X) ⟨ba.alloc _, bz.alloc _, Bx.new _ _ _ _ _, ow.alloc _, hB.alloc (by omega) _⟩ ?_
  clear ba bz ow hB
  rintro w2 ⟨ba, bz, bo, ow, hB⟩
  have hz2 := bo.lt
  refine (total_spec o _ _ l2 ht (B := B) (by omega) (HR.out.below hB hB0)).mono ?_
  rintro e w3 ⟨rfl, hb3⟩
  replace ba := ba.below hb3 (Nat.le_refl _)
  replace bz := bz.below hb3 (Nat.le_refl _)
  replace bo := bo.below hb3 (Nat.le_refl _)
  replace ow := ow.below hb3 (Nat.le_refl _)
  replace hB := hB.trans (hb3.mono (by omega))
  have hz3 : w2.heap.size ≤ w3.heap.size := hb3.size
  clear hb3
  obtain ⟨h3, h4, he, P1, P2, i1, i2⟩ := ow
  simp only [Value.agg.injEq, Array.mk.injEq, List.cons.injEq, true_and, and_true] at he
  obtain ⟨rfl, rfl⟩ := he
  have O1 := Lib.hid P1
  have O2 := Lib.hid P2
  have X1 : (Value.slice A3 o.heads.length c3).ownBlock ≠ some w1.heap.size := fun e => Nat.lt_irrefl _ (i1 _ e)
  have X2 : (Value.slice A4 o.bufs.length c4).ownBlock ≠ some w1.heap.size := fun e => Nat.lt_irrefl _ (i2 _ e)
  obtain ⟨g, rfl, hg0, hgl, gc, gf⟩ := own_last P2 HX.out HN.out
  have hgb : g < w1.heap.size := i2 g rfl
  have X3 : (Value.slice A3 o.heads.length c3).ownBlock ≠ some g := fun e => types_ne P1 P2 (by decide) g e rfl
  have Z2 : (w3.setCell ⟨g, n * 2 + 1, none⟩ (.string (x.a1 ++ s))).ownsRow X0.heap.size 61 2 (.slice (some ⟨g, 0, none⟩) o.bufs.length c4) (o.bufs.set n ⟨x.a0, x.a1 ++ s⟩).length (FBuffer.flat (o.bufs.set n ⟨x.a0, x.a1 ++ s⟩)) := by
    rw [List.length_set, flat_set o.bufs n x ⟨x.a0, x.a1 ++ s⟩ HX.out rfl]
    exact own_set P2 (by omega) _
  clear P1 P2 i1 i2
  have ba0 := ba.cell0
  have ba1 := ba.cell1
  have ba2 := ba.cell2
  have bal := ba.lt
  have baf := fun i => ba.frozen i
  have bz0 := bz.cell0
  have bz1 := bz.cell1
  have bz2 := bz.cell2
  have bzl := bz.lt
  have bzf := fun i => bz.frozen i
  have bo0 := bo.cell0
  have bo1 := bo.cell1
  have bo2 := bo.cell2
  have bol := bo.lt
  have bof := fun i => bo.frozen i
  go_wp2_with fail
  go_region
  all_goals go_wp2_with fail
  refine bodyPost_ret (v := .tuple #[.agg #[.string o.sent, .slice A3 o.heads.length c3, .slice (some ⟨g, 0, none⟩) o.bufs.length c4], .bool true]) (by simp [results, Try.results45, go_sem, bz0, bz1, bz2, bzl, bzf, bo0, bo1, bo2, bol, bof]) rfl ⟨_, rfl, ⟨_, _, rfl, ?_, ?_⟩, ?_⟩
  · refine ownsRow_le (base := X0.heap.size) ?_ (by omega)
    repeat (first | (refine ownsRow_setCell_below ?_ (by first | (simp; done) | (simp; omega)) _) | (refine ownsRow_setCell_ne ?_ _ (by assumption)) | (refine World.ownsRow.alloc ?_ _))
    exact O1.out
  · refine ownsRow_le (base := X0.heap.size) ?_ (by omega)
    repeat (first | (refine ownsRow_setCell_below ?_ (by first | (simp; done) | (simp; omega)) _) | (refine ownsRow_setCell_ne ?_ _ (by assumption)) | (refine World.ownsRow.alloc ?_ _))
    exact Z2
  · repeat (first | exact hB | (refine Below.drew ?_) | (refine Below.setCell ?_ (by first | (simp; done) | (simp; omega)) _) | (refine Below.alloc ?_ (by first | (simp; done) | (simp; omega)) _))
set_option maxHeartbeats 2000000 in
theorem echo_spec (o : Out) (s : ByteArray) (v : Value) (w : World) (l1 : o.heads.length ≤ 1048576) (l2 : o.bufs.length ≤ 1048576) (ht : totF o ≤ 1000000000000) (hs : s.size ≤ 1000000000000) {B : Nat} (hB0 : B ≤ w.heap.size) (hr : OutR w B v o)  :
    Calls Try.prog 45 #[v, .string s] w fun e w' => ∃ u, e = .returned (.tuple #[u, .bool (echoB o s)]) ∧ OutO w' w.heap.size u (echoF o s) ∧ Below w.heap.size w w' := by
  by_cases h0 : totF o + s.size ≤ 3000
  · have hb : echoB o s = true := by unfold echoB; exact decide_eq_true h0
    have hf : echoF o s = echoY o s := by unfold echoF; rw [if_pos hb]
    rw [hb, hf]
    by_cases h1 : o.bufs.length = 0
    · have hy : echoY o s = ⟨o.sent ++ s, o.heads, o.bufs⟩ := by unfold echoY; rw [if_pos h1]
      rw [hy]
      exact echo_spec_b o s v w l1 l2 ht hs hB0 hr h0 h1
    · obtain ⟨n, hn⟩ : ∃ n, o.bufs.length = n + 1 := ⟨o.bufs.length - 1, by omega⟩
      obtain ⟨x, hx⟩ : ∃ x, o.bufs[n]? = some x := ⟨_, List.getElem?_eq_getElem (by omega)⟩
      have hy : echoY o s = ⟨o.sent, o.heads, o.bufs.set n ⟨x.a0, x.a1 ++ s⟩⟩ := by
        unfold echoY echoL
        rw [if_neg h1, show o.bufs.length - 1 = n from by omega, hx]
      rw [hy]
      exact echo_spec_c o s v w l1 l2 ht hs hB0 hr h0 x n hn hx
  · have hb : echoB o s = false := by unfold echoB; exact decide_eq_false h0
    have hf : echoF o s = o := by unfold echoF; rw [hb]; rfl
    rw [hb, hf]
    exact echo_spec_a o s v w l1 l2 ht hs hB0 hr h0
end Go.Proofs.Ytnbedjfmhnpjaaa
