/-
  FlushAll of both packages: what it returns, in memory of its own. Conditions: none.
-/
import Derived.Test.YtnbedjfmhnpjaaaOutM
import Derived.Deep.LoopGhost
namespace Go.Proofs.Ytnbedjfmhnpjaaa
open Go.ChangeShapes Go.WideShapes Go.ChangeAt Go.RowKit Go.Deep Go.Joins
open Go.ChangeMaps (open_string shut_string)
set_option linter.unusedVariables false
set_option linter.unusedSimpArgs false
set_option maxRecDepth 100000
theorem wts_set (l : List FBuffer) (n : Nat) (x y : FBuffer) (h : l[n]? = some x) : FBuffer.wts (l.set n y) + x.wt = FBuffer.wts l + y.wt := by
  induction l generalizing n with
  | nil => simp at h
  | cons a r ih =>
    cases n with
    | zero =>
      simp at h
      subst h
      simp [FBuffer.wts]
      omega
    | succ n =>
      simp at h
      have := ih n h
      simp [FBuffer.wts] at this ⊢
      omega
theorem echoY_tot (o : Out) (s : ByteArray) : totF (echoY o s) = totF o + s.size := by
  unfold echoY echoL
  by_cases h0 : o.bufs.length = 0
  · rw [if_pos h0]
    unfold totF
    simp
    omega
  · rw [if_neg h0]
    obtain ⟨x, hx⟩ : ∃ x, o.bufs[o.bufs.length - 1]? = some x := ⟨_, List.getElem?_eq_getElem (by omega)⟩
    rw [hx]
    have := wts_set o.bufs (o.bufs.length - 1) x ⟨x.a0, x.a1 ++ s⟩ hx
    have e1 : x.wt = x.a1.size := rfl
    have e2 : FBuffer.wt ⟨x.a0, x.a1 ++ s⟩ = x.a1.size + s.size := by show (x.a1 ++ s).size = _; simp
    unfold totF
    show o.sent.size + FBuffer.wts (o.bufs.set (o.bufs.length - 1) ⟨x.a0, x.a1 ++ s⟩) = o.sent.size + FBuffer.wts o.bufs + s.size
    omega
theorem echoF_tot (o : Out) (s : ByteArray) : totF (echoF o s) ≤ totF o ∨ totF (echoF o s) ≤ 3000 := by
  unfold echoF
  by_cases h : echoB o s = true
  · rw [if_pos h, echoY_tot]
    unfold echoB at h
    simp at h
    omega
  · rw [if_neg h]; exact Or.inl (Nat.le_refl _)
theorem end_tot (o : Out) (h : totF o ≤ 1000000000) : totF (endF o) ≤ 1000000000 := by
  unfold endF
  split
  · exact h
  · rename_i x _
    have := tot_clean o
    have := echoF_tot (cleanF o) (escF x.a0 x.a1)
    omega
theorem echoF_len (o : Out) (s : ByteArray) : (echoF o s).bufs.length = o.bufs.length ∧ (echoF o s).heads.length = o.heads.length := by
  unfold echoF echoY echoL
  split
  · split
    · exact ⟨rfl, rfl⟩
    · split <;> simp
  · exact ⟨rfl, rfl⟩
theorem end_len (o : Out) : (endF o).bufs.length = o.bufs.length - 1 ∧ (endF o).heads.length = o.heads.length := by
  unfold endF
  by_cases h0 : o.bufs.length = 0
  · have : o.bufs[o.bufs.length - 1]? = none := by rw [List.eq_nil_of_length_eq_zero h0]; rfl
    rw [this]
    simp [h0]
  · obtain ⟨x, hx⟩ : ∃ x, o.bufs[o.bufs.length - 1]? = some x := ⟨_, List.getElem?_eq_getElem (by omega)⟩
    rw [hx]
    have := echoF_len (cleanF o) (escF x.a0 x.a1)
    simp only [this]
    unfold cleanF
    simp
def flushN : Nat → Out → Out
  | 0, o => o
  | n + 1, o => flushN n (endF o)
def flushF (o : Out) : Out := flushN o.bufs.length o
theorem flush_0 (o : Out) (h : o.bufs.length = 0) : flushF o = o := by unfold flushF; rw [h]; rfl
theorem flush_1 (o : Out) (h : o.bufs.length ≠ 0) : flushF (endF o) = flushF o := by
  unfold flushF
  rw [(end_len o).1]
  obtain ⟨n, hn⟩ : ∃ n, o.bufs.length = n + 1 := ⟨o.bufs.length - 1, by omega⟩
  rw [hn]
  rfl
theorem flushN_small (n : Nat) (o : Out) (h : o.small) : (flushN n o).small := by
  induction n generalizing o with
  | zero => exact h
  | succ n ih => exact ih _ ⟨by rw [(end_len o).2]; exact h.1, by have := h.2; rw [(end_len o).1]; omega⟩
theorem flush_small {o : Out} (h : o.small) : (flushF o).small := flushN_small _ _ h
set_option maxHeartbeats 4000000 in
theorem flush_impl (o : Out) (v : Value) (w : World) (l1 : o.heads.length ≤ 1048576) (l2 : o.bufs.length ≤ 1048576) (ht : totF o ≤ 1000000000) {B : Nat} (hB0 : B ≤ w.heap.size) (hr : OutR w B v o) :
    Calls Try.prog 19 #[v] w fun e w' => ∃ u, e = .returned u ∧ OutO w' w.heap.size u (flushF o) ∧ Below w.heap.size w w' := by
  obtain ⟨A1, c1, A2, c2, rfl⟩ := hr.form
  have HR := Lib.hid hr
  clear hr
  have HSM := Lib.hid (show o.small from ⟨l1, l2⟩)
  have HT := Lib.hid ht
  clear ht
  generalize hq : flushF o = q
  have HQ := Lib.hid hq
  clear hq
  go_enter Try.func19, Try.ntmps19
  go_wp2_with fail
  refine calls_world _ (fun X => Bx X w.heap.size 27 (.string o.sent) (.slice A1 o.heads.length c1) (.slice A2 o.bufs.length c2) ∧ Bx X (w.heap.size + 1) 27 (.string ⟨#[]⟩) (.slice none 0 0) (.slice none 0 0) ∧ Below w.heap.size w X ∧ w.heap.size + 2 ≤ X.heap.size) ⟨(Bx.new _ _ _ _ _).alloc _, by simpa using Bx.new (w.alloc _) _ _ _ _, ((Below.refl _ _).alloc (Nat.le_refl _) _).alloc (by simp) _, by simp⟩ ?_
  rintro X0 ⟨ba, bz, hB, hz0⟩
  refine (copy_impl o _ _ l1 l2 (B := B) (by omega) (HR.out.below hB hB0)).mono ?_
  rintro e w1 ⟨u1, rfl, own1, hb1⟩
  obtain ⟨A3, c3, A4, c4, rfl⟩ := own1.form
  have ow := own1.inI
  clear own1
  replace ba := ba.below hb1 (Nat.le_refl _)
  replace bz := bz.below hb1 (Nat.le_refl _)
  replace hB := hB.trans (hb1.mono (by omega))
  have hz1 : X0.heap.size ≤ w1.heap.size := hb1.size
  clear hb1
  have ba0 := ba.cell0
  have ba1 := ba.cell1
  have ba2 := ba.cell2
  have bal := ba.lt
  have baf := fun i => ba.frozen i
  have bz0 := bz.cell0
  have bz1 := bz.cell1
  have bz2 := bz.cell2
  have bzl := bz.lt
  have bzf := fun i => bz.frozen i
  go_wp2_with fail
  go_loopg [10] o.bufs.length (fun k x wr => ∃ (p : Out) (A3 : Option Addr) (c3 : Nat) (A4 : Option Addr) (c4 lo hi : Nat), p.bufs.length = k ∧ p.small ∧ totF p ≤ 1000000000 ∧ flushF p = q ∧ Bx wr w.heap.size 27 (.string o.sent) (.slice A1 o.heads.length c1) (.slice A2 o.bufs.length c2) ∧ Bx wr (w.heap.size + 1) 27 (.string ⟨#[]⟩) (.slice none 0 0) (.slice none 0 0) ∧ Bx wr w1.heap.size 27 (.string p.sent) (.slice A3 p.heads.length c3) (.slice A4 p.bufs.length c4) ∧ OutI wr lo hi (.agg #[.string p.sent, .slice A3 p.heads.length c3, .slice A4 p.bufs.length c4]) p ∧ w.heap.size + 2 ≤ lo ∧ (hi ≤ w1.heap.size ∨ w1.heap.size < lo) ∧ Below w.heap.size w wr ∧ w1.heap.size < wr.heap.size)
  case atStart => exact ⟨o, A3, c3, A4, c4, X0.heap.size, w1.heap.size, rfl, HSM.out, HT.out, HQ.out, ba.alloc _, bz.alloc _, Bx.new _ _ _ _ _, ow.alloc _, by omega, Or.inl (Nat.le_refl _), hB.alloc (by omega) _, by simp⟩
  case round =>
    clear ba bz hB ow ba0 ba1 ba2 bal baf bz0 bz1 bz2 bzl bzf
    obtain ⟨p, A3, c3, A4, c4, lo, hi, hk, hsm, ht, hfl, ba, bz, bo, ow, hlo, hhi, hB, hsz⟩ := hrel
    have l3 : p.heads.length ≤ 1048576 := hsm.1
    have l4 : p.bufs.length ≤ 1048576 := hsm.2
    have HS := Lib.hid hsm
    have HF := Lib.hid hfl
    have HK := Lib.hid hk
    clear hsm hfl hk
    by_cases h0 : p.bufs.length = 0
    · have H0 := Lib.hid h0
      have hz : ¬ (0 : Int) < (p.bufs.length : Int) := by omega
      clear h0
      have ba0 := ba.cell0
      have ba1 := ba.cell1
      have ba2 := ba.cell2
      have bal := ba.lt
      have baf := fun i => ba.frozen i
      have bz0 := bz.cell0
      have bz1 := bz.cell1
      have bz2 := bz.cell2
      have bzl := bz.lt
      have bzf := fun i => bz.frozen i
      have bo0 := bo.cell0
      have bo1 := bo.cell1
      have bo2 := bo.cell2
      have bol := bo.lt
      have bof := fun i => bo.frozen i
      go_wp2_with fail
      obtain rfl : q = p := HF.out.symm.trans (flush_0 p H0.out)
      refine bodyPost_ret (v := .agg #[.string q.sent, .slice A3 q.heads.length c3, .slice A4 q.bufs.length c4]) (by simp [results, Try.results19, go_sem, bz0, bz1, bz2, bzl, bzf, bo0, bo1, bo2, bol, bof]; try rfl) rfl ⟨_, rfl, ?_, ?_⟩
      · refine OutI.inO (hi := hi) ?_
        obtain ⟨hv5, bv5, he5, P1, P2, i1, i2⟩ := ow
        exact ⟨hv5, bv5, he5, ownsRow_le (own_set3 P1 (by omega) _ _ _) (by omega), ownsRow_le (own_set3 P2 (by omega) _ _ _) (by omega), i1, i2⟩
      · exact below_set3 hB (by omega) _ _ _
    · have hz : (0 : Int) < (p.bufs.length : Int) := by omega
      have H0 := Lib.hid h0
      clear h0
      have ba0 := ba.cell0
      have ba1 := ba.cell1
      have ba2 := ba.cell2
      have bal := ba.lt
      have baf := fun i => ba.frozen i
      have bz0 := bz.cell0
      have bz1 := bz.cell1
      have bz2 := bz.cell2
      have bzl := bz.lt
      have bzf := fun i => bz.frozen i
      have bo0 := bo.cell0
      have bo1 := bo.cell1
      have bo2 := bo.cell2
      have bol := bo.lt
      have bof := fun i => bo.frozen i
      go_wp2_with fail
      clear ba0 ba1 ba2 bal baf bz0 bz1 bz2 bzl bzf bo0 bo1 bo2 bol bof
      refine (end_impl p _ _ l3 l4 ht (B := wr.heap.size) (Nat.le_refl _) ow.reads).mono ?_
      rintro e wb ⟨u, rfl, own2, hb2⟩
      obtain ⟨A5, c5, A6, c6, rfl⟩ := own2.form
      have ox := own2.inI
      clear own2
      replace ba := ba.below hb2 (Nat.le_refl _)
      replace bz := bz.below hb2 (Nat.le_refl _)
      replace bo := bo.below hb2 (Nat.le_refl _)
      replace hB := hB.trans (hb2.mono (by omega))
      have hsz2 := hb2.size
      clear hb2 ow
      have ba0 := ba.cell0
      have ba1 := ba.cell1
      have ba2 := ba.cell2
      have bal := ba.lt
      have baf := fun i => ba.frozen i
      have bz0 := bz.cell0
      have bz1 := bz.cell1
      have bz2 := bz.cell2
      have bzl := bz.lt
      have bzf := fun i => bz.frozen i
      have bo0 := bo.cell0
      have bo1 := bo.cell1
      have bo2 := bo.cell2
      have bol := bo.lt
      have bof := fun i => bo.frozen i
      go_wp2_with fail
      go_roundg (gk - 1)
      case measure => have := HK.out; have := H0.out; omega
      case rel =>
        obtain ⟨hv5, bv5, he5, P1, P2, i1, i2⟩ := ox
        have L := end_len p
        have hs := HS.out
        exact ⟨endF p, A5, c5, A6, c6, wr.heap.size, wb.heap.size, by rw [L.1, HK.out], ⟨by rw [L.2]; exact hs.1, by have := hs.2; rw [L.1]; omega⟩, end_tot p ht, (flush_1 p H0.out).trans HF.out, ba.far3 (by omega) _ _ _, bz.far3 (by omega) _ _ _, bo.set3 _ _ _, ⟨hv5, bv5, he5, own_set3 P1 (by omega) _ _ _, own_set3 P2 (by omega) _ _ _, i1, i2⟩, by omega, Or.inr (by omega), below_set3 hB (by omega) _ _ _, by simp; omega⟩
end Go.Proofs.Ytnbedjfmhnpjaaa
