/-
  Parts of the proof: VarS, VarI, ClI. Conditions: none.
-/
import Derived.Test.YtgejkfcemlkclaaPGSeenIsK6
import Derived.Deep.CutRange
import Derived.Deep.CutBlock
import Derived.Deep.QuietTactic
import Derived.BigQuiet
import Derived.Laws.EntriesVeiled
import Derived.Test.YtgejkfcemlkclaaPGToUSdF
set_option linter.unusedVariables false
set_option linter.unusedSimpArgs false
namespace Go.Proofs.Ytgejkfcemlkclaa
open Go.ChangeShapes Go.WideShapes Go.ChangeAt Go.RowKit Go.Deep Go.Joins
open Go.ChangeMaps (open_string shut_string)
set_option maxRecDepth 100000
/-- The row lies where it lay, or in a block that is new since w. -/
def RowTo (r r' : Option Nat) (w : World) : Prop := r' = r ∨ ∃ g, r' = some g ∧ w.heap.size ≤ g
theorem grown_next {a b c : World} {r r' : Option Nat} (h : a.grownBy b r) (t : RowTo r r' a) (k : b.grownBy c r') : a.grownBy c r := by
  refine ⟨k.os.trans h.os, k.tape.trans h.tape, k.output.trans h.output, Nat.le_trans h.size k.size, fun i hi hn => ?_⟩
  have hs := h.size
  refine (k.block i (by omega) ?_).trans (h.block i hi hn)
  rcases t with rfl | ⟨g, rfl, hg⟩
  · exact hn
  · exact fun e => by have := Option.some.inj e; omega
theorem RowTo.next {a b : World} {r r' r'' : Option Nat} (h : RowTo r r' a) (k : RowTo r' r'' b) (hs : a.heap.size ≤ b.heap.size) : RowTo r r'' a := by
  rcases k with rfl | ⟨g, rfl, hg⟩
  · exact h
  · exact .inr ⟨g, rfl, by omega⟩
/-- A row of strings of one's own that grows: at world v, since world w. -/
structure VsS (w v : World) (base : Nat) (r0 : Option Nat) (A : Option Addr) (c : Nat) (l : List FStr) : Prop where
  own : v.ownsRow base 9 1 (.slice A l.length c) l.length (sVals l)
  fr : w.grownBy v r0
  rt : RowTo r0 (Value.slice A l.length c).ownBlock w
section
variable {w v v' : World} {base : Nat} {r0 : Option Nat} {A : Option Addr} {c : Nat} {l : List FStr}
theorem VsS.start (h : w.ownsRow base 9 1 (.slice A l.length c) l.length (sVals l)) : VsS w w base (Value.slice A l.length c).ownBlock A c l := ⟨h, grown_refl _ _, .inl rfl⟩
theorem VsS.below (h : VsS w v base r0 A c l) (hb : Below v.heap.size v v') : VsS w v' base r0 A c l :=
  ⟨own_below h.own hb (Nat.le_refl _), grown_next h.fr h.rt (grown_below hb), h.rt⟩
theorem VsS.next {A' : Option Addr} {c' : Nat} {l' : List FStr} (h : VsS w v base r0 A c l) (k : VsS v v' base (Value.slice A l.length c).ownBlock A' c' l') : VsS w v' base r0 A' c' l' :=
  ⟨k.own, grown_next h.fr h.rt k.fr, h.rt.next k.rt h.fr.size⟩
theorem VsS.app (h : VsS w v base r0 A c l) (s : ByteArray) {v2 : World} {u2 : Value} (ho : v2.ownsRow base 9 1 u2 (l.length + 1) (sVals l ++ [.string s])) (hg : v.grownBy v2 (Value.slice A l.length c).ownBlock) (ha : u2.ownBlock = (Value.slice A l.length c).ownBlock ∨ u2.ownBlock = some v.heap.size) :
    ∃ A' c', u2 = .slice A' (l ++ [(⟨s⟩ : FStr)]).length c' ∧ VsS w v2 base r0 A' c' (l ++ [⟨s⟩]) := by
  obtain ⟨A', c', rfl⟩ := own_form ho
  have e : (l ++ [(⟨s⟩ : FStr)]).length = l.length + 1 := by simp
  refine ⟨A', c', by rw [e], by rw [e, sVals_snoc]; exact ho, grown_next h.fr h.rt hg, ?_⟩
  rw [e]
  refine h.rt.next (b := v) ?_ h.fr.size
  rcases ha with ha | ha
  · exact .inl ha
  · exact .inr ⟨_, ha, Nat.le_refl _⟩
theorem VsS.blk (h : VsS w v base r0 A c l) {g : Nat} {t : TypeId} {cs : Array Value} (hb : Blk w g t cs) (hr : some g ≠ r0) : Blk v g t cs := (h.fr.block g hb.lt hr).trans hb
theorem VsS.lo (h : VsS w v base r0 A c l) (hr : ∀ g, r0 = some g → base ≤ g) (hB : base ≤ w.heap.size) : Below base w v :=
  ⟨h.fr.os, h.fr.tape, h.fr.output, h.fr.size, fun i hi => h.fr.block i (by omega) (fun e => by have := hr i e.symm; omega)⟩
end
theorem isV_last {k : Int} (h1 : ¬ k = 4) (h2 : ¬ k = 24) (h3 : ¬ k = 25) (h4 : ¬ k = 17) : (k == 40) = isV k := by
  unfold isV
  rw [beq_false_of_ne h1, beq_false_of_ne h2, beq_false_of_ne h3, beq_false_of_ne h4]
  rfl
end Go.Proofs.Ytgejkfcemlkclaa
namespace Go.Proofs.Ytgejkfcemlkclaa
set_option maxHeartbeats 40000000
open Lib (hid)
open Go.ChangeShapes Go.WideShapes Go.ChangeAt Go.RowKit Go.Deep Go.Joins
open Go.ChangeMaps (open_string shut_string)
set_option maxRecDepth 100000
theorem zeroBv (w : World) : (zeroValue 4).run Try.prog w = .ok (.bool false) w := by kernel_rfl
/-- What a visit may change: the block of the list, the map, the row; and new blocks. -/
structure VFr (w v : World) (O b : Nat) (r : Option Nat) : Prop where
  os : v.os = w.os
  tape : v.tape = w.tape
  output : v.output = w.output
  size : w.heap.size ≤ v.heap.size
  block : ∀ i, i < w.heap.size → i ≠ O → i ≠ b → some i ≠ r → v.heap[i]? = w.heap[i]?
theorem VFr.refl (w : World) (O b : Nat) (r : Option Nat) : VFr w w O b r := ⟨rfl, rfl, rfl, Nat.le_refl _, fun _ _ _ _ _ => rfl⟩
theorem VFr.next {w v v' : World} {O b : Nat} {r r' : Option Nat} (h : VFr w v O b r) (t : RowTo r r' w) (k : VFr v v' O b r') : VFr w v' O b r := by
  refine ⟨k.os.trans h.os, k.tape.trans h.tape, k.output.trans h.output, Nat.le_trans h.size k.size, fun i hi h1 h2 h3 => ?_⟩
  have hs := h.size
  refine (k.block i (by omega) h1 h2 ?_).trans (h.block i hi h1 h2 h3)
  rcases t with rfl | ⟨g, rfl, hg⟩
  · exact h3
  · exact fun e => by have := Option.some.inj e; omega
theorem VFr.of_below {w v : World} {O b : Nat} {r : Option Nat} (h : Below w.heap.size w v) : VFr w v O b r := ⟨h.os, h.tape, h.output, h.size, fun i hi _ _ _ => h.block i hi⟩
theorem VFr.of_grown {w v : World} {O b : Nat} {r r' : Option Nat} (h : w.grownBy v r') (hr : r' = some b ∨ r' = r) : VFr w v O b r :=
  ⟨h.os, h.tape, h.output, h.size, fun i hi _ h2 h3 => h.block i hi (by rcases hr with rfl | rfl; exact fun e => h2 (Option.some.inj e); exact h3)⟩
theorem VFr.of_set {w : World} {O b : Nat} {r : Option Nat} (u : Value) : VFr w (w.setCell ⟨O, 0, none⟩ u) O b r :=
  ⟨rfl, rfl, rfl, by simp, fun i _ h1 _ _ => Below.heap_setCell w ⟨O, 0, none⟩ u i h1⟩
/-- The state of a visit. -/
structure VaI (w v : World) (base O M V b : Nat) (r0 : Option Nat) (A : Option Addr) (c : Nat) (l : List FStr) : Prop where
  own : v.ownsRow base 9 1 (.slice A l.length c) l.length (sVals l)
  out : Blk v O 36 #[.slice A l.length c]
  mp : Blk v M 51 #[.map (some b)]
  fn : Blk v V 52 #[.func (.func 26) #[] #[.pointer (some ⟨M, 0, none⟩), .pointer (some ⟨O, 0, none⟩), .pointer (some ⟨V, 0, none⟩)]]
  seen : ∃ S, Seen Try.prog 9 4 v b l.length S ∧ ∀ s : ByteArray, hasS S s.toList = inV l s
  fr : VFr w v O b r0
  rt : RowTo r0 (Value.slice A l.length c).ownBlock w
  nb : O ≠ b ∧ M ≠ b ∧ V ≠ b ∧ O ≠ M ∧ O ≠ V
  rn : ∀ g, (Value.slice A l.length c).ownBlock = some g → g ≠ O ∧ g ≠ M ∧ g ≠ V ∧ g ≠ b
section
variable {w v v' : World} {base O M V b : Nat} {r0 : Option Nat} {A : Option Addr} {c : Nat} {l : List FStr}
theorem VaI.start (h : VaI w v base O M V b r0 A c l) : VaI v v base O M V b (Value.slice A l.length c).ownBlock A c l := ⟨h.own, h.out, h.mp, h.fn, h.seen, VFr.refl _ _ _ _, .inl rfl, h.nb, h.rn⟩
theorem VaI.below (h : VaI w v base O M V b r0 A c l) (hb : Below v.heap.size v v') : VaI w v' base O M V b r0 A c l := by
  obtain ⟨S, h1, h2⟩ := h.seen
  exact ⟨own_below h.own hb (Nat.le_refl _), h.out.below hb (Nat.le_refl _), h.mp.below hb (Nat.le_refl _), h.fn.below hb (Nat.le_refl _), ⟨S, h1.below hb (Nat.le_refl _), h2⟩, h.fr.next h.rt (VFr.of_below hb), h.rt, h.nb, h.rn⟩
theorem VaI.next {A' : Option Addr} {c' : Nat} {l' : List FStr} (h : VaI w v base O M V b r0 A c l) (k : VaI v v' base O M V b (Value.slice A l.length c).ownBlock A' c' l') : VaI w v' base O M V b r0 A' c' l' :=
  ⟨k.own, k.out, k.mp, k.fn, k.seen, h.fr.next h.rt k.fr, h.rt.next k.rt h.fr.size, k.nb, k.rn⟩
theorem VaI.blk (h : VaI w v base O M V b r0 A c l) {g : Nat} {t : TypeId} {cs : Array Value} (hb : Blk w g t cs) (h1 : g ≠ O) (h2 : g ≠ b) (hr : some g ≠ r0) : Blk v g t cs := (h.fr.block g hb.lt h1 h2 hr).trans hb
theorem VaI.lo (h : VaI w v base O M V b r0 A c l) (hO : base ≤ O) (hb : base ≤ b) (hr : ∀ g, r0 = some g → base ≤ g) (hB : base ≤ w.heap.size) : Below base w v :=
  ⟨h.fr.os, h.fr.tape, h.fr.output, h.fr.size, fun i hi => h.fr.block i (by omega) (by omega) (by omega) (fun e => by have := hr i e.symm; omega)⟩
/-- A name is marked in the map, put behind the row, and the row is laid back. -/
theorem VaI.add (h : VaI w v base O M V b r0 A c l) (s : ByteArray) {S : List (List UInt8)} {v1 v2 : World} {u2 : Value} (h2 : ∀ t : ByteArray, hasS S t.toList = inV l t)
    (hs1 : Seen Try.prog 9 4 v1 b (l.length + 1) (s.toList :: S)) (hg1 : v.grownBy v1 (some b))
    (ho : v2.ownsRow base 9 1 u2 (l.length + 1) (sVals l ++ [.string s])) (hg2 : (v1.alloc (.cells #[.string s] 9)).grownBy v2 (Value.slice A l.length c).ownBlock)
    (ha : u2.ownBlock = (Value.slice A l.length c).ownBlock ∨ u2.ownBlock = some (v1.alloc (.cells #[.string s] 9)).heap.size) :
    ∃ A' c', u2 = .slice A' (l ++ [(⟨s⟩ : FStr)]).length c' ∧ VaI w (v2.setCell ⟨O, 0, none⟩ u2) base O M V b r0 A' c' (l ++ [⟨s⟩]) := by
  obtain ⟨A', c', rfl⟩ := own_form ho
  have e : (l ++ [(⟨s⟩ : FStr)]).length = l.length + 1 := by simp
  obtain ⟨n1, n2, n3, n4, n5⟩ := h.nb
  have lO := h.out.lt
  have lM := h.mp.lt
  have lV := h.fn.lt
  have lb : b < v.heap.size := by obtain ⟨S', q, _⟩ := h.seen; exact q.lt
  have z1 := hg1.size
  have za : (v1.alloc (.cells #[.string s] 9)).heap.size = v1.heap.size + 1 := by simp
  have z2 := hg2.size
  have hrow : ∀ g, (Value.slice A' (l.length + 1) c').ownBlock = some g → g ≠ O ∧ g ≠ M ∧ g ≠ V ∧ g ≠ b := by
    intro g hg
    rcases ha with ha | ha
    · exact h.rn g (ha.symm.trans hg)
    · have e1 := Option.some.inj (ha.symm.trans hg)
      rw [za] at e1
      refine ⟨?_, ?_, ?_, ?_⟩ <;> omega
  have keep : ∀ i, i < v.heap.size → i ≠ b → (∀ g, (Value.slice A l.length c).ownBlock = some g → g ≠ i) → v2.heap[i]? = v.heap[i]? := fun i hi hb hr =>
    (hg2.block i (by omega) (fun e => hr i e.symm rfl)).trans ((Below.heap_alloc v1 _ i (by omega)).trans (hg1.block i hi (fun e => hb (Option.some.inj e))))
  have b1 : Blk v2 O 36 #[.slice A l.length c] := (keep O lO n1 (fun g hg => (h.rn g hg).1)).trans h.out
  have b2 : Blk v2 M 51 #[.map (some b)] := (keep M lM n2 (fun g hg => (h.rn g hg).2.1)).trans h.mp
  have b3 : Blk v2 V 52 #[.func (.func 26) #[] #[.pointer (some ⟨M, 0, none⟩), .pointer (some ⟨O, 0, none⟩), .pointer (some ⟨V, 0, none⟩)]] := (keep V lV n3 (fun g hg => (h.rn g hg).2.2.1)).trans h.fn
  have b4 : Seen Try.prog 9 4 v2 b (l.length + 1) (s.toList :: S) := (hs1.alloc _).kept hg2 (fun e => (h.rn b e.symm).2.2.2 rfl)
  refine ⟨A', c', by rw [e], ?_, by rw [e]; exact b1.set_ 0 _, b2.far (fun e => n4 e.symm) _, b3.far (fun e => n5 e.symm) _, ⟨s.toList :: S, by rw [e]; exact b4.set (fun e => n1 e.symm) _, fun t => ?_⟩, ?_, ?_, h.nb, by rw [e]; exact hrow⟩
  · rw [e, sVals_snoc]
    exact own_keep ho (fun g hg => Below.heap_setCell v2 ⟨O, 0, none⟩ _ g (hrow g hg).1)
  · rw [hasS_cons, h2, inV_snoc]
    congr 1
    rw [Bool.eq_iff_iff, beq_iff_eq, beq_iff_eq]
    exact ⟨Eq.symm, Eq.symm⟩
  · have f1 : VFr v v1 O b (Value.slice A l.length c).ownBlock := VFr.of_grown hg1 (.inl rfl)
    have f2 : VFr v (v1.alloc (.cells #[.string s] 9)) O b (Value.slice A l.length c).ownBlock := f1.next (.inl rfl) (VFr.of_below ((Below.refl _ _).alloc (Nat.le_refl _) _))
    have f3 := f2.next (.inl rfl) (VFr.of_grown hg2 (.inr rfl))
    exact h.fr.next h.rt (f3.next (.inl rfl) (VFr.of_set _))
  · rw [e]
    refine h.rt.next (b := v) ?_ h.fr.size
    rcases ha with ha | ha
    · exact .inl ha
    · exact .inr ⟨_, ha, by omega⟩
end
def VisI (x : FNode) : Prop := ∀ (us : List Value) (w : World) (B base O M V b : Nat) (l : List FStr) (A : Option Addr) (c : Nat), B ≤ base → base ≤ w.heap.size → base ≤ O → base ≤ b → RdVs w B x.c us → VaI w w base O M V b (Value.slice A l.length c).ownBlock A c l → l.length + FStr.wts l + 1 + x.wt ≤ 1000000000 →
  Calls Try.prog 26 #[.agg us.toArray, .pointer (some ⟨M, 0, none⟩), .pointer (some ⟨O, 0, none⟩), .pointer (some ⟨V, 0, none⟩)] w fun e w' => e = .returned (.tuple #[]) ∧ ∃ A' c', VaI w w' base O M V b (Value.slice A l.length c).ownBlock A' c' (visN x l)
theorem visI_of (z0 z1 : Int) (z2 : ByteArray) (z3 : List FNode) (h3 : ∀ x, x ∈ z3 → VisI x) : VisI ⟨z0, z1, z2, z3⟩ := by
  intro us w B base O M V b l A c hB hbase hbO hbb hr hst hbd
  rw [FNode.c_eq] at hr
  rw [FNode.wt_eq] at hbd
  obtain ⟨us0, rfl, hr_0⟩ := hr.unv
  obtain ⟨us1, rfl, hr_1⟩ := hr_0.unv
  obtain ⟨us2, rfl, hr_2⟩ := hr_1.unv
  obtain ⟨A3, c3, us3, rfl, r3, hr_3⟩ := hr_2.uns
  obtain rfl := hr_3.un0
  have R3 := hid r3
  have H3 := hid h3
  clear r3 h3 hr hr_0 hr_1 hr_2 hr_3
  have HRL := hid (fun (g : Nat) (hg : (Value.slice A l.length c).ownBlock = some g) => own_lt hst.own g hg)
  have hlO := hst.out.lt
  have hlb : b < w.heap.size := by obtain ⟨S', q, _⟩ := hst.seen; exact q.lt
  have V0 := hid (hst.below ((Below.refl _ _).alloc (Nat.le_refl _) (.cells #[.int .i64 z0, .int .i64 z1, .string z2, .slice A3 z3.length c3] 29)))
  have b0 : Blk (w.alloc (.cells #[.int .i64 z0, .int .i64 z1, .string z2, .slice A3 z3.length c3] 29)) w.heap.size 29 #[.int .i64 z0, .int .i64 z1, .string z2, .slice A3 z3.length c3] := Blk.new _ _ _
  have hs0 : (w.alloc (.cells #[.int .i64 z0, .int .i64 z1, .string z2, .slice A3 z3.length c3] 29)).heap.size = w.heap.size + 1 := by simp
  clear hst
  go_enter Try.func26, Try.ntmps26
  go_upto_block 0 with fail
  generalize w.alloc (.cells #[.int .i64 z0, .int .i64 z1, .string z2, .slice A3 z3.length c3] 29) = w0 at *
  have k0 : w0.cell? ⟨w.heap.size, 0, none⟩ = some (.int .i64 z0) := b0.cell 0
  have k2 : w0.cell? ⟨w.heap.size, 2, none⟩ = some (.string z2) := b0.cell 2
  have k3 : w0.cell? ⟨w.heap.size, 3, none⟩ = some (.slice A3 z3.length c3) := b0.cell 3
  have U0 := hid V0.out.start
  have HS0 := hid hs0
  clear hs0
  go_cut [4] from 9 to 32 (fun v wx => v = .pointer (some ⟨w.heap.size, 0, none⟩) ∧ ∃ A1 c1, VaI w0 wx base O M V b (Value.slice A l.length c).ownBlock A1 c1 (addV z0 z2 l))
  case first =>
    go_upto_if 9 with fail
    go_cut [9] from 9 to 14 (fun v wx => v = .bool (isV z0) ∧ wx = w0)
    case first =>
      go_wp2_with fail
      all_goals
        go_meet
        exact ⟨by first | exact congrArg Value.bool (isV_last (by assumption) (by assumption) (by assumption) (by assumption)) | (simp [isV, *]; done) | (simp_all [isV]; done), rfl⟩
    case rest =>
      obtain ⟨rfl, rfl⟩ := hcut
      generalize hv : isV z0 = bv at *
      have HV := hid hv
      clear hv
      cases bv with
      | false =>
        have HAD := hid (show addV z0 z2 l = l from by unfold addV; rw [HV.out]; rfl)
        go_wp2_with fail
        go_meet
        rw [HAD.out]
        exact ⟨rfl, A, c, U0.out⟩
      | true =>
        have HAD := hid (show addV z0 z2 l = (if (!(z2.toList == thisL || inV l z2)) = true then l ++ [⟨z2⟩] else l) from by unfold addV; rw [HV.out]; cases (z2.toList == thisL) <;> cases inV l z2 <;> rfl)
        have hz2 : z2.size ≤ 1000000000 := by omega
        have hz2m : z2.size ≤ maxLen := by unfold maxLen; omega
        have hll : l.length ≤ 1000000000 := by omega
        obtain ⟨S, hse, hhs⟩ := U0.out.seen
        have SE := hid hse
        have HH := hid hhs
        have km : wc.cell? ⟨M, 0, none⟩ = some (.map (some b)) := U0.out.mp.cell 0
        have ko : wc.cell? ⟨O, 0, none⟩ = some (.slice A l.length c) := U0.out.out.cell 0
        clear hse hhs
        by_cases hth : (z2.toList == [116, 104, 105, 115]) = true
        · have hth2 : (!(z2.toList == [116, 104, 105, 115])) = false := by rw [hth]; rfl
          have HTH := hid hth
          clear hth
          go_wp2_with fail
          go_meet
          rw [HAD.out]
          exact ⟨rfl, A, c, by have e : (z2.toList == thisL) = true := HTH.out; rw [e]; exact U0.out⟩
        · have hth1 : (z2.toList == [116, 104, 105, 115]) = false := by simpa using hth
          have hth2 : (!(z2.toList == [116, 104, 105, 115])) = true := by rw [hth1]; rfl
          have HTH := hid hth1
          clear hth hth1
          generalize hin : inV l z2 = bi at *
          have HI := hid ((HH.out z2).trans hin)
          clear hin
          cases bi with
          | true =>
            go_wp2_with (at_lookup; go_must (refine wpList_look_seen_g _ rfl _ _ 51 rfl 9 4 Try.underlying9 Try.underlying4 zeroBv Try.underlying51 b l.length S rfl SE.out z2 hz2m rfl ?_); rw [HI.out])
            go_meet
            rw [HAD.out]
            exact ⟨rfl, A, c, by have e : (z2.toList == thisL) = false := HTH.out; rw [e]; exact U0.out⟩
          | false =>
            have hn9 : l.length < maxLen := by unfold maxLen; omega
            have HL9 := hid (show (l ++ [(⟨z2⟩ : FStr)]).length = l.length + 1 by simp)
            have hGb : w.heap.size ≠ b := by omega
            have hbw0 : base ≤ wc.heap.size := by have := b0.lt; omega
            have tok1 : True := trivial
            go_wp2_with (first
              | (at_lookup; go_must (refine wpList_look_seen_g _ rfl _ _ 51 rfl 9 4 Try.underlying9 Try.underlying4 zeroBv Try.underlying51 b l.length S rfl SE.out z2 hz2m rfl ?_); rw [HI.out])
              | (at_mapUpdate; go_must (refine wpList_put_seen _ rfl _ _ _ 51 rfl 9 4 Try.underlying9 Try.underlying4 Try.underlying51 b l.length S rfl SE.out hn9 z2 hz2m rfl rfl ?_); intro v1 hs1 hg1; have zs1 := hg1.size; have bO1 : Blk v1 O 36 #[.slice A l.length c] := (hg1.block _ U0.out.out.lt (fun e => U0.out.nb.1 (Option.some.inj e))).trans U0.out.out; have ko1 : v1.cell? ⟨O, 0, none⟩ = some (.slice A l.length c) := bO1.cell 0; have bG1 : Blk v1 w.heap.size 29 #[.int .i64 z0, .int .i64 z1, .string z2, .slice A3 z3.length c3] := (hg1.block _ b0.lt (fun e => hGb (Option.some.inj e))).trans b0; have kg1 : v1.cell? ⟨w.heap.size, 2, none⟩ = some (.string z2) := bG1.cell 2; have own1 := own_keep U0.out.own (fun g hg => hg1.block g (own_lt U0.out.own g hg).2 (fun e => (U0.out.rn g hg).2.2.2 (Option.some.inj e))))
              | (at_builtin; have _t := tok1; go_must (refine wpList_append_rd _ rfl (.tmp 28) (.tmp 31) _ rfl base _ _ _ 16 Try.underlying36 sInfoV rfl (by omega) (.slice A l.length c) l.length _ rfl (own1.alloc _) (v1.heap.size + 1) _ 1 1 _ rfl (srd_oneV v1 (.string z2) 9) (by intro u hu; simp only [List.mem_cons, List.not_mem_nil, or_false] at hu; rcases hu with rfl; rfl) (by unfold maxLen; omega) (by omega) (by have := hbw0; simp; omega) ?_); intro u2 v2 hown2 hg2 hat2; have bO2 : Blk v2 O 36 #[.slice A l.length c] := (hg2.block O (by have := bO1.lt; simp; omega) (fun e => (U0.out.rn O e.symm).1 rfl)).trans (bO1.alloc _); have ko2 : v2.cell? ⟨O, 0, none⟩ = some (.slice A l.length c) := bO2.cell 0; have fo2 : v2.frozen? ⟨O, 0, none⟩ = false := bO2.frozen 0; obtain ⟨A2, c2, rfl, V2⟩ := U0.out.add z2 HH.out hs1 hg1 hown2 hg2 hat2; rw [HL9.out] at V2; clear tok1))
            go_meet
            rw [HAD.out]
            exact ⟨rfl, A2, c2, by have e : (z2.toList == thisL) = false := HTH.out; rw [e]; exact V2⟩
  case rest =>
    have VW := V0
    have UB : ∀ (v : World) (A' : Option Addr) (c' : Nat) (l' : List FStr), VaI w0 v base O M V b (Value.slice A l.length c).ownBlock A' c' l' → Blk v w.heap.size 29 #[.int .i64 z0, .int .i64 z1, .string z2, .slice A3 z3.length c3] ∧ Below base w v := fun v A' c' l' U => ⟨U.blk b0 (by omega) (by omega) (fun e => by have := (HRL.out _ e.symm).2; omega), (VW.out.next U).lo hbO hbb (fun g hg => (HRL.out g hg).1) hbase⟩
    have UBH := hid UB
    clear UB V0 U0 b0 k0 k2 k3
    obtain ⟨rfl, A1, c1, V1⟩ := hcut
    have hwt := addV_wt z0 z2 l
    generalize hl1 : addV z0 z2 l = l1 at *
    have HL1 := hid hl1
    clear hl1
    obtain ⟨b1, be1⟩ := UBH.out _ _ _ _ V1
    have hbd2 : l1.length + FStr.wts l1 + (z3.length + FNode.wts z3) ≤ 1000000000 := by omega
    have hzl : z3.length ≤ 1000000000 := by omega
    have k3 : wc.cell? ⟨w.heap.size, 3, none⟩ = some (.slice A3 z3.length c3) := b1.cell 3
    clear hbd hwt b1 be1
    go_wp2_with fail
    go_loopw [36] (fun iv wr => ∃ (k : Nat) (A' : Option Addr) (c' : Nat), k ≤ z3.length ∧ iv = .int .i64 k ∧ VaI w0 wr base O M V b (Value.slice A l.length c).ownBlock A' c' (visL (z0 == 23) (z3.take k) l1)) (fun iv _ => z3.length - (intOf iv).toNat)
    case atStart => exact ⟨0, A1, c1, Nat.zero_le _, rfl, by rw [List.take_zero, visL]; exact V1⟩
    case round =>
      obtain ⟨k, A2, c2, hk, rfl, V2⟩ := hrel
      obtain ⟨b2, be2⟩ := UBH.out _ _ _ _ V2
      have hwl := b2.lt
      have hwl2 := be2.size
      clear k3
      have k0 : wr.cell? ⟨w.heap.size, 0, none⟩ = some (.int .i64 z0) := b2.cell 0
      have hkm : k < maxLen := by unfold maxLen; omega
      have haw := visL_wt (z0 == 23) (z3.take k) l1
      have htw := FNode.wts_le z3 k
      by_cases hlt : k < z3.length
      · have hlt2 : (k : Int) < (z3.length : Int) := by omega
        obtain ⟨x, hx⟩ : ∃ x, z3[k]? = some x := ⟨_, List.getElem?_eq_getElem hlt⟩
        obtain ⟨bc, offc, rfl, hblc, hcc⟩ := RdC.at_ FNode.len R3.out hx
        have hxm := List.mem_of_getElem? hx
        have htk := FNode.wts_take z3 k x hx
        have htw2 := FNode.wts_le z3 (k + 1)
        have HX := hid (visL_take (z0 == 23) z3 l1 k x hx)
        have HV := hid (H3.out x hxm)
        clear hx hxm
        have hbx : (visL (z0 == 23) (z3.take k) l1).length + FStr.wts (visL (z0 == 23) (z3.take k) l1) + 1 + x.wt ≤ 1000000000 := by
          rw [List.length_take] at haw
          omega
        obtain ⟨y0, y1, y2, y3⟩ := x
        rw [FNode.c_eq] at hcc
        obtain ⟨u0, e0, q0⟩ := hcc 0 _ rfl
        obtain rfl := q0.val
        have c_0 : wr.cell? ⟨bc, offc + k * 4, none⟩ = some (.int .i64 y0) := (be2.cell (p := ⟨bc, _, none⟩) (by show bc < base; omega)).trans (by simpa using e0)
        obtain ⟨u1, e1, q1⟩ := hcc 1 _ rfl
        obtain rfl := q1.val
        have c_1 : wr.cell? ⟨bc, offc + k * 4 + 1, none⟩ = some (.int .i64 y1) := (be2.cell (p := ⟨bc, _, none⟩) (by show bc < base; omega)).trans (by simpa using e1)
        obtain ⟨u2, e2, q2⟩ := hcc 2 _ rfl
        obtain rfl := q2.val
        have c_2 : wr.cell? ⟨bc, offc + k * 4 + 2, none⟩ = some (.string y2) := (be2.cell (p := ⟨bc, _, none⟩) (by show bc < base; omega)).trans (by simpa using e2)
        obtain ⟨u3, e3, q3⟩ := hcc 3 _ rfl
        obtain ⟨D, d, rfl⟩ := q3.form
        have c_3 : wr.cell? ⟨bc, offc + k * 4 + 3, none⟩ = some (.slice D y3.length d) := (be2.cell (p := ⟨bc, _, none⟩) (by show bc < base; omega)).trans (by simpa using e3)
        have hba : Below wr.heap.size wr (wr.alloc (.cells #[.int .i64 y0, .int .i64 y1, .string y2, .slice D y3.length d] 29)) := (Below.refl _ _).alloc (Nat.le_refl _) _
        have RX := hid (show RdVs (wr.alloc (.cells #[.int .i64 y0, .int .i64 y1, .string y2, .slice D y3.length d] 29)) B (FNode.c ⟨y0, y1, y2, y3⟩) [.int .i64 y0, .int .i64 y1, .string y2, .slice D y3.length d] from by
          rw [FNode.c_eq]
          exact RdVs.cons (by unfold RdC; rfl) (RdVs.cons (by unfold RdC; rfl) (RdVs.cons (by unfold RdC; rfl) (RdVs.cons ((q3.on be2 hB (Nat.le_refl _)).on hba (by omega) (Nat.le_refl _)) (RdVs.nil _ _)))))
        clear hcc e0 e1 e2 e3 q0 q1 q2 q3
        generalize hacc : visL (z0 == 23) (z3.take k) l1 = ac at *
        clear hacc
        have VB := hid (V2.below hba)
        have kv : wr.cell? ⟨V, 0, none⟩ = some (.func (.func 26) #[] #[.pointer (some ⟨M, 0, none⟩), .pointer (some ⟨O, 0, none⟩), .pointer (some ⟨V, 0, none⟩)]) := V2.fn.cell 0
        have lv := V2.fn.lt
        have CALL := hid (HV.out [.int .i64 y0, .int .i64 y1, .string y2, .slice D y3.length d] _ B base O M V b ac A2 c2 hB (by simp; omega) hbO hbb RX.out VB.out.start hbx)
        clear hba
        by_cases g1 : z0 = 23
        · have t1 : (z0 != 23) = false := by rw [g1]; rfl
          have t1' : (z0 == 23) = true := by rw [g1]; rfl
          by_cases g2 : y0 = 25
          · have t2 : (y0 == 25) = true := by rw [g2]; rfl
            have HA := hid (show visL (z0 == 23) (z3.take (k + 1)) l1 = visN ⟨y0, y1, y2, y3⟩ ac from by rw [HX.out]; exact if_pos (by show (!(z0 == 23) || y0 == 25) = true; rw [t1', t2]; rfl))
            clear g1 g2 t1' V2
            go_wp2_with (go_at_call 26; refine CALL.out.mono ?_; rintro e w2 ⟨rfl, A3', c3', V3⟩)
            go_roundw
            case rel => exact ⟨k + 1, A3', c3', by omega, by go_num, by rw [HA.out]; exact VB.out.next V3⟩
            case measure => simp [intOf]; omega
          · have t2 : (y0 == 25) = false := beq_false_of_ne g2
            have HA := hid (show visL (z0 == 23) (z3.take (k + 1)) l1 = ac from by rw [HX.out]; exact if_neg (by show ¬ (!(z0 == 23) || y0 == 25) = true; rw [t1', t2]; decide))
            clear g1 g2 t1' V2
            go_wp2_with fail
            go_roundw
            case rel => exact ⟨k + 1, A2, c2, by omega, by go_num, by rw [HA.out]; exact VB.out⟩
            case measure => simp [intOf]; omega
        · have t1 : (z0 != 23) = true := by simp [bne, g1]
          have t1' : (z0 == 23) = false := beq_false_of_ne g1
          have HA := hid (show visL (z0 == 23) (z3.take (k + 1)) l1 = visN ⟨y0, y1, y2, y3⟩ ac from by rw [HX.out]; exact if_pos (by show (!(z0 == 23) || y0 == 25) = true; rw [t1']; rfl))
          clear g1 t1' V2
          go_wp2_with (go_at_call 26; refine CALL.out.mono ?_; rintro e w2 ⟨rfl, A3', c3', V3⟩)
          go_roundw
          case rel => exact ⟨k + 1, A3', c3', by omega, by go_num, by rw [HA.out]; exact VB.out.next V3⟩
          case measure => simp [intOf]; omega
      · obtain rfl : k = z3.length := by omega
        clear hlt
        rw [List.take_length] at V2
        go_wp2_with fail
        have hfin : visN ⟨z0, z1, z2, z3⟩ l = visL (z0 == 23) z3 l1 := by rw [visN, HL1.out]
        rw [hfin]
        go_end0
        exact ⟨rfl, A2, c2, VW.out.next V2⟩
mutual
theorem visI_any : ∀ x : FNode, VisI x
  | .mk a0 a1 a2 a3 => visI_of a0 a1 a2 a3 (visI_all a3)
theorem visI_all : ∀ (l : List FNode) (x : FNode), x ∈ l → VisI x
  | [], x, hx => by cases hx
  | y :: r, x, hx => by
    rcases List.mem_cons.1 hx with e | hx
    · rw [e]
      exact visI_any y
    · exact visI_all r x hx
end
theorem vars_start (w : World) (O b M V : Nat) (h1 : w.heap.size + 1 = O) (h2 : w.heap.size + 1 + 1 = b) (h3 : w.heap.size + 1 + 1 + 1 = M) (h4 : w.heap.size + 1 + 1 + 1 + 1 = V) :
    VaI (((((w.alloc (.cells #[] 9)).alloc (.cells #[.slice (some ⟨w.heap.size, 0, none⟩) 0 0] 36)).alloc (.map #[] 0)).alloc (.cells #[.map (some b)] 51)).alloc (.cells #[.func (.func 26) #[] #[.pointer (some ⟨M, 0, none⟩), .pointer (some ⟨O, 0, none⟩), .pointer (some ⟨V, 0, none⟩)]] 52))
      (((((w.alloc (.cells #[] 9)).alloc (.cells #[.slice (some ⟨w.heap.size, 0, none⟩) 0 0] 36)).alloc (.map #[] 0)).alloc (.cells #[.map (some b)] 51)).alloc (.cells #[.func (.func 26) #[] #[.pointer (some ⟨M, 0, none⟩), .pointer (some ⟨O, 0, none⟩), .pointer (some ⟨V, 0, none⟩)]] 52))
      w.heap.size O M V b (some w.heap.size) (some ⟨w.heap.size, 0, none⟩) 0 [] := by
  have hb : b = ((w.alloc (.cells #[] 9)).alloc (.cells #[.slice (some ⟨w.heap.size, 0, none⟩) 0 0] 36)).heap.size := by simp; omega
  refine ⟨((((own_empty w _ 1).alloc _).alloc _).alloc _).alloc _, (((Blk.new' _ _ _ O (by simp; omega)).alloc _).alloc _).alloc _, (Blk.new' _ _ _ M (by simp; omega)).alloc _, Blk.new' _ _ _ V (by simp; omega), ⟨[], ?_, fun s => rfl⟩, VFr.refl _ _ _ _, .inl rfl, ⟨by omega, by omega, by omega, by omega, by omega⟩, fun g hg => ?_⟩
  · rw [hb]
    exact ((Seen.made _).alloc _).alloc _
  · have e9 : w.heap.size = g := Option.some.inj hg
    refine ⟨?_, ?_, ?_, ?_⟩ <;> omega
theorem Vars_impl (z : List FNode) (A : Option Addr) (c : Nat) (w : World) (hw : z.length + FNode.wts z ≤ 1000000000) {B : Nat} (hB0 : B ≤ w.heap.size) (hr : RdC w B (.s 29 4 z.length (FNode.flat z)) (.slice A z.length c)) :
    Calls Try.prog 12 #[.slice A z.length c] w fun e w' => ∃ A' c', e = .returned (.slice A' (visQ z).length c') ∧ OwnI w' w.heap.size w'.heap.size [.s 9 1 (visQ z).length (FStr.flat (visQ z))] [.slice A' (visQ z).length c'] ∧ Below w.heap.size w w' := by
  have R3 := hid hr
  clear hr
  have hmm := @run_makeMap Try.prog
  have hmf : ∀ (fn : Fn) (first cap : Array Value) (w : World), (Instr.makeFunc fn first cap).run Try.prog w = .ok (.func fn first cap) w := fun _ _ _ _ => rfl
  go_enter Try.func12, Try.ntmps12
  go_upto_region 5 with fail
  obtain ⟨V, hV⟩ : ∃ V, w.heap.size + 1 + 1 + 1 + 1 = V := ⟨_, rfl⟩
  obtain ⟨M, hM⟩ : ∃ M, w.heap.size + 1 + 1 + 1 = M := ⟨_, rfl⟩
  obtain ⟨b, hb⟩ : ∃ b, w.heap.size + 1 + 1 = b := ⟨_, rfl⟩
  obtain ⟨O, hO⟩ : ∃ O, w.heap.size + 1 = O := ⟨_, rfl⟩
  have V5 := vars_start w O b M V hO hb hM hV
  have hB5 : Below w.heap.size w (((((w.alloc (.cells #[] 9)).alloc (.cells #[.slice (some ⟨w.heap.size, 0, none⟩) 0 0] 36)).alloc (.map #[] 0)).alloc (.cells #[.map (some b)] 51)).alloc (.cells #[.func (.func 26) #[] #[.pointer (some ⟨M, 0, none⟩), .pointer (some ⟨O, 0, none⟩), .pointer (some ⟨V, 0, none⟩)]] 52)) :=
    (((((Below.refl _ _).alloc (Nat.le_refl _) _).alloc (by simp) _).alloc (by simp; omega) _).alloc (by simp; omega) _).alloc (by simp; omega) _
  rw [hV, hM, hb, hO]
  generalize ((((w.alloc (.cells #[] 9)).alloc (.cells #[.slice (some ⟨w.heap.size, 0, none⟩) 0 0] 36)).alloc (.map #[] 0)).alloc (.cells #[.map (some b)] 51)).alloc (.cells #[.func (.func 26) #[] #[.pointer (some ⟨M, 0, none⟩), .pointer (some ⟨O, 0, none⟩), .pointer (some ⟨V, 0, none⟩)]] 52) = w5 at *
  have hbO : w.heap.size ≤ O := by omega
  have hbb : w.heap.size ≤ b := by omega
  have hzl : z.length ≤ 1000000000 := by omega
  have V5' := hid V5
  have B5 := hid hB5
  clear V5 hB5 hV hM hb hO hmm hmf
  go_wp2_with fail
  go_loopw [13] (fun iv wr => ∃ (k : Nat) (A' : Option Addr) (c' : Nat), k ≤ z.length ∧ iv = .int .i64 k ∧ VaI w5 wr w.heap.size O M V b (some w.heap.size) A' c' (visL false (z.take k) [])) (fun iv _ => z.length - (intOf iv).toNat)
  case atStart => exact ⟨0, _, _, Nat.zero_le _, rfl, by rw [List.take_zero, visL]; exact V5'.out⟩
  case round =>
    obtain ⟨k, A2, c2, hk, rfl, V2⟩ := hrel
    have be2 : Below w.heap.size w wr := B5.out.trans (V2.lo hbO hbb (fun g hg => by have e9 : w.heap.size = g := Option.some.inj hg; omega) B5.out.size)
    have hwl2 := be2.size
    have hkm : k < maxLen := by unfold maxLen; omega
    have haw := visL_wt false (z.take k) []
    have htw := FNode.wts_le z k
    simp only [List.length_nil, FStr.wts, Nat.zero_add] at haw
    by_cases hlt : k < z.length
    · have hlt2 : (k : Int) < (z.length : Int) := by omega
      obtain ⟨x, hx⟩ : ∃ x, z[k]? = some x := ⟨_, List.getElem?_eq_getElem hlt⟩
      obtain ⟨bc, offc, rfl, hblc, hcc⟩ := RdC.at_ FNode.len R3.out hx
      have htk := FNode.wts_take z k x hx
      have htw2 := FNode.wts_le z (k + 1)
      have HX := hid (visL_take false z [] k x hx)
      clear hx
      have hbx : (visL false (z.take k) []).length + FStr.wts (visL false (z.take k) []) + 1 + x.wt ≤ 1000000000 := by
        rw [List.length_take] at haw
        omega
      have HV := hid (visI_any x)
      obtain ⟨y0, y1, y2, y3⟩ := x
      rw [FNode.c_eq] at hcc
      obtain ⟨u0, e0, q0⟩ := hcc 0 _ rfl
      obtain rfl := q0.val
      have c_0 : wr.cell? ⟨bc, offc + k * 4, none⟩ = some (.int .i64 y0) := (be2.cell (p := ⟨bc, _, none⟩) (by show bc < w.heap.size; omega)).trans (by simpa using e0)
      obtain ⟨u1, e1, q1⟩ := hcc 1 _ rfl
      obtain rfl := q1.val
      have c_1 : wr.cell? ⟨bc, offc + k * 4 + 1, none⟩ = some (.int .i64 y1) := (be2.cell (p := ⟨bc, _, none⟩) (by show bc < w.heap.size; omega)).trans (by simpa using e1)
      obtain ⟨u2, e2, q2⟩ := hcc 2 _ rfl
      obtain rfl := q2.val
      have c_2 : wr.cell? ⟨bc, offc + k * 4 + 2, none⟩ = some (.string y2) := (be2.cell (p := ⟨bc, _, none⟩) (by show bc < w.heap.size; omega)).trans (by simpa using e2)
      obtain ⟨u3, e3, q3⟩ := hcc 3 _ rfl
      obtain ⟨D, d, rfl⟩ := q3.form
      have c_3 : wr.cell? ⟨bc, offc + k * 4 + 3, none⟩ = some (.slice D y3.length d) := (be2.cell (p := ⟨bc, _, none⟩) (by show bc < w.heap.size; omega)).trans (by simpa using e3)
      have hba : Below wr.heap.size wr (wr.alloc (.cells #[.int .i64 y0, .int .i64 y1, .string y2, .slice D y3.length d] 29)) := (Below.refl _ _).alloc (Nat.le_refl _) _
      have RX := hid (show RdVs (wr.alloc (.cells #[.int .i64 y0, .int .i64 y1, .string y2, .slice D y3.length d] 29)) B (FNode.c ⟨y0, y1, y2, y3⟩) [.int .i64 y0, .int .i64 y1, .string y2, .slice D y3.length d] from by
        rw [FNode.c_eq]
        exact RdVs.cons (by unfold RdC; rfl) (RdVs.cons (by unfold RdC; rfl) (RdVs.cons (by unfold RdC; rfl) (RdVs.cons ((q3.on be2 hB0 (Nat.le_refl _)).on hba (by omega) (Nat.le_refl _)) (RdVs.nil _ _)))))
      clear hcc e0 e1 e2 e3 q0 q1 q2 q3
      have HA := hid (show visL false (z.take (k + 1)) [] = visN ⟨y0, y1, y2, y3⟩ (visL false (z.take k) []) from by rw [HX.out]; exact if_pos rfl)
      generalize hacc : visL false (z.take k) [] = ac at *
      clear hacc
      have VB := hid (V2.below hba)
      have kv : wr.cell? ⟨V, 0, none⟩ = some (.func (.func 26) #[] #[.pointer (some ⟨M, 0, none⟩), .pointer (some ⟨O, 0, none⟩), .pointer (some ⟨V, 0, none⟩)]) := V2.fn.cell 0
      have lv := V2.fn.lt
      have CALL := hid (HV.out [.int .i64 y0, .int .i64 y1, .string y2, .slice D y3.length d] _ B w.heap.size O M V b ac A2 c2 hB0 (by simp; omega) hbO hbb RX.out VB.out.start hbx)
      clear hba V2
      go_wp2_with (go_at_call 26; refine CALL.out.mono ?_; rintro e w2 ⟨rfl, A3', c3', V3⟩)
      go_roundw
      case rel => exact ⟨k + 1, A3', c3', by omega, by go_num, by rw [HA.out]; exact VB.out.next V3⟩
      case measure => simp [intOf]; omega
    · obtain rfl : k = z.length := by omega
      clear hlt
      rw [List.take_length] at V2
      have ko : wr.cell? ⟨O, 0, none⟩ = some (.slice A2 (visL false z []).length c2) := V2.out.cell 0
      have OW := hid V2.own
      have BE := hid be2
      clear V2 be2
      go_wp2_with fail
      go_ret
      exact ⟨A2, c2, rfl, own_sv OW.out BE.out.size, BE.out⟩
end Go.Proofs.Ytgejkfcemlkclaa
namespace Go.Proofs.Ytgejkfcemlkclaa
set_option maxHeartbeats 40000000
open Lib (hid)
open Go.ChangeShapes Go.WideShapes Go.ChangeAt Go.RowKit Go.Deep Go.Joins
open Go.ChangeMaps (open_string shut_string)
set_option maxRecDepth 100000
theorem own_emptyG (w : World) (g : Nat) (e : TypeId) (k : Nat) (hg : w.heap.size = g) : (w.alloc (.cells #[] e)).ownsRow g e k (.slice (some ⟨g, 0, none⟩) 0 0) 0 [] := by
  subst hg
  exact own_empty w e k
theorem nodes_onecell {w : World} {F : List Nat} {us : List Value} (l : List FNode) (h : OwnL w (FNode.flat l) F us) : ∀ u, u ∈ us → u.oneCell' = true := by
  refine OwnL.onecell _ _ _ h fun y hy u hu => ?_
  obtain ⟨x, _, hx⟩ := List.mem_flatMap.1 hy
  obtain ⟨z0, z1, z2, z3⟩ := x
  rw [FNode.c_eq] at hx
  simp only [List.mem_cons, List.not_mem_nil, or_false] at hx
  rcases hx with rfl | rfl | rfl | rfl <;> (first | (injection hu with hu; subst hu; rfl) | cases hu)
/-- Nodes of one's own, at world X, since world w. -/
abbrev NdO (lo : Nat) (X : World) (A : Option Addr) (c : Nat) (l : List FNode) : Prop := OwnI X lo X.heap.size [.s 29 4 l.length (FNode.flat l)] [.slice A l.length c]
/-- What append leaves of two rows. -/
theorem NdO.push {lo : Nat} {X Y Z : World} {A : Option Addr} {c : Nat} {l m : List FNode} {us us2 : List Value} {G G2 : List Nat} {v' : Value}
    (hol : OwnL Y (FNode.flat l) G us) (hG : G.Nodup) (hGb : ∀ b, b ∈ G → lo ≤ b ∧ b < X.heap.size) (hGv : ∀ g, (Value.slice A l.length c).ownBlock = some g → g ∉ G ∧ lo ≤ g ∧ g < X.heap.size)
    (hol2 : OwnL Y (FNode.flat m) G2 us2) (hG2 : G2.Nodup) (hGb2 : ∀ b, b ∈ G2 → X.heap.size ≤ b)
    (hl : lo ≤ X.heap.size)
    (hown : Z.ownsRow lo 29 4 v' (l.length + m.length) (us ++ us2)) (hg : Y.grownBy Z (Value.slice A l.length c).ownBlock) (hat : v'.ownBlock = (Value.slice A l.length c).ownBlock ∨ v'.ownBlock = some Y.heap.size) :
    ∃ A' c', v' = .slice A' (l ++ m).length c' ∧ NdO lo Z A' c' (l ++ m) := by
  obtain ⟨A', c', rfl⟩ := own_form hown
  have hp := OwnI.pushed hown hg hat hol hol2 hG hG2 (fun b hb1 hb2 => by have := hGb b hb1; have := hGb2 b hb2; omega) (fun b hb1 => (hGb b hb1).1) (fun b hb1 => by have := hGb2 b hb1; omega) (fun g hg => ⟨(hGv g hg).1, fun h2 => by have := (hGv g hg).2; have := hGb2 g h2; omega⟩)
  have e : FNode.flat (l ++ m) = FNode.flat l ++ FNode.flat m := List.flatMap_append
  refine ⟨A', c', by rw [List.length_append], ?_⟩
  unfold NdO
  rw [e, List.length_append]
  exact hp
def ClI (x : FNode) : Prop := ∀ (us : List Value) (w : World) (B : Nat), B ≤ w.heap.size → RdVs w B x.c us → Calls Try.prog 14 #[.agg us.toArray] w fun e w' => ∃ A c, e = .returned (.slice A (clN x).length c) ∧ NdO w.heap.size w' A c (clN x) ∧ Below w.heap.size w w'
theorem clI_of (z0 z1 : Int) (z2 : ByteArray) (z3 : List FNode) (hw : (FNode.mk z0 z1 z2 z3).wt ≤ 1000000000) (h3 : ∀ x, x ∈ z3 → ClI x) : ClI ⟨z0, z1, z2, z3⟩ := by
  intro us w B hB0 hr
  have hcp := cpNode_any ⟨z0, z1, z2, z3⟩ (by omega)
  have hR := hr
  rw [FNode.c_eq] at hr
  obtain ⟨us0, rfl, hr_0⟩ := hr.unv
  obtain ⟨us1, rfl, hr_1⟩ := hr_0.unv
  obtain ⟨us2, rfl, hr_2⟩ := hr_1.unv
  obtain ⟨A3, c3, us3, rfl, r3, hr_3⟩ := hr_2.uns
  obtain rfl := hr_3.un0
  have R3 := hid r3
  have H3 := hid h3
  clear r3 h3 hr_0 hr_1 hr_2 hr_3
  have RX := hid hR
  have CP := hid hcp
  rw [FNode.wt_eq] at hw
  clear hcp hR hr
  have hzl : z3.length ≤ 1000000000 := by omega
  have hcll := clL_len z3
  obtain ⟨hd, hhd⟩ : ∃ hd, hd = (if (z0 == 23) = true then [(⟨z0, z1, z2, z3⟩ : FNode)] else []) := ⟨_, rfl⟩
  have hdl : hd.length ≤ 1 := by rw [hhd]; split <;> simp
  have HD := hid hhd
  have HCL := hid (show clN ⟨z0, z1, z2, z3⟩ = hd ++ clL z3 from by rw [clN, hhd])
  clear hhd
  go_enter Try.func14, Try.ntmps14
  go_upto_if 9 with fail
  have b0 : Blk ((w.alloc (.cells #[.int .i64 z0, .int .i64 z1, .string z2, .slice A3 z3.length c3] 29)).alloc (.cells #[] 29)) w.heap.size 29 #[.int .i64 z0, .int .i64 z1, .string z2, .slice A3 z3.length c3] := (Blk.new _ _ _).alloc _
  have o0 : NdO w.heap.size ((w.alloc (.cells #[.int .i64 z0, .int .i64 z1, .string z2, .slice A3 z3.length c3] 29)).alloc (.cells #[] 29)) (some ⟨w.heap.size + 1, 0, none⟩) 0 [] :=
    OwnI.mk (lo' := w.heap.size) (hi' := w.heap.size) (own_emptyG (w.alloc (.cells #[.int .i64 z0, .int .i64 z1, .string z2, .slice A3 z3.length c3] 29)) (w.heap.size + 1) _ 4 (by simp)) (OwnI.nil _ _ _) (fun g hg => by have e9 : w.heap.size + 1 = g := Option.some.inj hg; simp; omega) (Nat.le_refl _) (by simp; omega)
  have l0 : Below w.heap.size w ((w.alloc (.cells #[.int .i64 z0, .int .i64 z1, .string z2, .slice A3 z3.length c3] 29)).alloc (.cells #[] 29)) := ((Below.refl _ _).alloc (Nat.le_refl _) _).alloc (by simp) _
  generalize (w.alloc (.cells #[.int .i64 z0, .int .i64 z1, .string z2, .slice A3 z3.length c3] 29)).alloc (.cells #[] 29) = X0 at *
  have hs0 := l0.size
  have k0 : X0.cell? ⟨w.heap.size, 0, none⟩ = some (.int .i64 z0) := b0.cell 0
  have k1 : X0.cell? ⟨w.heap.size, 1, none⟩ = some (.int .i64 z1) := b0.cell 1
  have k2 : X0.cell? ⟨w.heap.size, 2, none⟩ = some (.string z2) := b0.cell 2
  have k3 : X0.cell? ⟨w.heap.size, 3, none⟩ = some (.slice A3 z3.length c3) := b0.cell 3
  have B0 := hid b0
  have O0 := hid o0
  have L0 := hid l0
  clear b0 o0 l0
  go_cut [3] from 9 to 14 (fun v wx => ∃ A1 c1, v = .slice A1 hd.length c1 ∧ NdO w.heap.size wx A1 c1 hd ∧ Below w.heap.size w wx ∧ Blk wx w.heap.size 29 #[.int .i64 z0, .int .i64 z1, .string z2, .slice A3 z3.length c3])
  case first =>
    cases hz : (z0 == 23) with
    | false =>
      have h23 : ¬ z0 = 23 := by simpa using hz
      have HN : hd = [] := by rw [HD.out, hz]; rfl
      subst HN
      go_wp2_with fail
      go_meet
      exact ⟨_, _, rfl, O0.out, L0.out, B0.out⟩
    | true =>
      have h23 : z0 = 23 := by simpa using hz
      have HN := hid (show hd = [(⟨z0, z1, z2, z3⟩ : FNode)] from by rw [HD.out, hz]; rfl)
      have hz' := hid h23
      clear h23
      go_wp2_with fail
      refine (CP.out [.int .i64 z0, .int .i64 z1, .string z2, .slice A3 z3.length c3] X0 w.heap.size hs0 (RX.out.on L0.out hB0 hB0)).mono ?_
      rintro e w2 ⟨us2, rfl, own2, hb2⟩
      have hs2 := hb2.size
      have B2 := hid (B0.out.below hb2 (Nat.le_refl _))
      have L2 := hid (L0.out.trans (hb2.mono hs0))
      have hv := own2.vs
      rw [FNode.c_eq] at hv
      obtain ⟨us2_0, rfl, hv_0⟩ := hv.unv
      obtain ⟨us2_1, rfl, hv_1⟩ := hv_0.unv
      obtain ⟨us2_2, rfl, hv_2⟩ := hv_1.unv
      obtain ⟨D3, d3, us2_3, rfl, _, hv_3⟩ := hv_2.uns
      obtain rfl := hv_3.un0
      clear hv hv_0 hv_1 hv_2 hv_3
      obtain ⟨us, G, ho, hol, hG, hGb, hGv⟩ := (O0.out.below hb2 (Nat.le_refl _)).row
      obtain ⟨G2, g1, g2, g3⟩ := own2
      have HO := hid (World.ownsRow.alloc ho (.cells #[.int .i64 z0, .int .i64 z1, .string z2, .slice D3 z3.length d3] 29))
      have HN2 := hid (rd_new w2 29 4 [.int .i64 z0, .int .i64 z1, .string z2, .slice D3 z3.length d3] rfl)
      have H1 := hid (node_onecell _ g1)
      have HG1 := hid (OwnL.keep _ _ _ hol (w' := w2.alloc (.cells #[.int .i64 z0, .int .i64 z1, .string z2, .slice D3 z3.length d3] 29)) fun g hg => Below.heap_alloc w2 _ g (OwnL.lt _ _ _ hol g hg))
      have HG2 := hid (show OwnL (w2.alloc (.cells #[.int .i64 z0, .int .i64 z1, .string z2, .slice D3 z3.length d3] 29)) (FNode.flat [(⟨z0, z1, z2, z3⟩ : FNode)]) G2 _ from by
        have e : FNode.flat [(⟨z0, z1, z2, z3⟩ : FNode)] = FNode.c ⟨z0, z1, z2, z3⟩ := by simp [FNode.flat]
        rw [e]
        exact OwnL.keep _ _ _ g1 fun g hg => Below.heap_alloc w2 _ g (OwnL.lt _ _ _ g1 g hg))
      have HV := hid hGv
      have HB := hid hGb
      have HB2 := hid g3
      have HD1 := hid hG
      have HD2 := hid g2
      clear ho hol g1 hGv hGb g3 hG g2 hb2 k0 k1 k2 k3
      go_wp2_with (at_builtin; go_must (refine wpList_append_rd _ rfl _ _ _ rfl w.heap.size _ _ _ 56 Try.underlying27 infoNodeC rfl (by omega) (.slice (some ⟨w.heap.size + 1, 0, none⟩) 0 0) 0 us rfl HO.out (w2.heap.size + 1) _ 1 1 [.int .i64 z0, .int .i64 z1, .string z2, .slice D3 z3.length d3] rfl HN2.out H1.out (by unfold maxLen; omega) (by omega) (by simp; omega) ?_); intro v1 w1 hown1 hg1 hat1)
      go_meet
      obtain ⟨A4, c4, e4, N4⟩ := NdO.push (l := []) (m := [(⟨z0, z1, z2, z3⟩ : FNode)]) HG1.out HD1.out HB.out HV.out HG2.out HD2.out (fun b hb => (HB2.out b hb).1) hs0 hown1 hg1 hat1
      rw [HN.out, e4]
      refine ⟨A4, c4, rfl, N4, Below.grownI (L2.out.alloc L2.out.size _) hg1 (fun g hg => (HV.out g hg).2.1) (by simp; omega), ?_⟩
      exact (B2.out.alloc _).bgrown hg1 (fun e => by have e9 : w.heap.size = w.heap.size + 1 := Option.some.inj e; omega)
  case rest =>
    obtain ⟨A1, c1, rfl, N1, L1, B1⟩ := hcut
    have k3' : wc.cell? ⟨w.heap.size, 3, none⟩ = some (.slice A3 z3.length c3) := B1.cell 3
    have NN1 := hid N1
    have LL1 := hid L1
    clear k0 k1 k2 k3 N1 L1 B1 O0 L0 B0 hs0
    go_wp2_with fail
    go_loopw [3, 18] (fun v i wr => ∃ (k : Nat) (A' : Option Addr) (c' : Nat), k ≤ z3.length ∧ i = .int .i64 k ∧ v = .slice A' (hd ++ clL (z3.take k)).length c' ∧ NdO w.heap.size wr A' c' (hd ++ clL (z3.take k)) ∧ Below w.heap.size w wr) (fun _ i _ => z3.length - (intOf i).toNat)
    case atStart => exact ⟨0, A1, c1, Nat.zero_le _, rfl, by rw [List.take_zero, clL, List.append_nil], by rw [List.take_zero, clL, List.append_nil]; exact NN1.out, LL1.out⟩
    case round =>
      clear k3'
      obtain ⟨k, A', c', hk, rfl, rfl, hown, hb⟩ := hrel
      have HOWN := hid hown
      have hbs := hb.size
      clear hown
      by_cases hlt : k < z3.length
      · obtain ⟨x, hx⟩ : ∃ x, z3[k]? = some x := ⟨_, List.getElem?_eq_getElem hlt⟩
        obtain ⟨bc, offc, rfl, hblc, hcc⟩ := RdC.at_ FNode.len R3.out hx
        have HP := hid (H3.out x (List.mem_of_getElem? hx))
        have hxl := clN_len x
        have htk := FNode.wts_take z3 k x hx
        have htw2 := FNode.wts_le z3 (k + 1)
        have hcl2 := clL_len (z3.take k)
        have htl := List.length_take_le k z3
        have HX := hid (clL_take z3 k x hx)
        clear hx
        obtain ⟨y0, y1, y2, y3⟩ := x
        rw [FNode.c_eq] at hcc
        obtain ⟨u0, e0, q0⟩ := hcc 0 _ rfl
        obtain rfl := q0.val
        obtain ⟨u1, e1, q1⟩ := hcc 1 _ rfl
        obtain rfl := q1.val
        obtain ⟨u2, e2, q2⟩ := hcc 2 _ rfl
        obtain rfl := q2.val
        obtain ⟨u3, e3, q3⟩ := hcc 3 _ rfl
        obtain ⟨D, d, rfl⟩ := q3.form
        have Q3 := hid q3
        have k0 : wr.cell? ⟨bc, offc + k * 4, none⟩ = some (.int .i64 y0) := (hb.cell (p := ⟨bc, _, none⟩) (by show bc < _; omega)).trans (by simpa using e0)
        have k1 : wr.cell? ⟨bc, offc + k * 4 + 1, none⟩ = some (.int .i64 y1) := (hb.cell (p := ⟨bc, _, none⟩) (by show bc < _; omega)).trans (by simpa using e1)
        have k2 : wr.cell? ⟨bc, offc + k * 4 + 2, none⟩ = some (.string y2) := (hb.cell (p := ⟨bc, _, none⟩) (by show bc < _; omega)).trans (by simpa using e2)
        have k3 : wr.cell? ⟨bc, offc + k * 4 + 3, none⟩ = some (.slice D y3.length d) := (hb.cell (p := ⟨bc, _, none⟩) (by show bc < _; omega)).trans (by simpa using e3)
        clear hcc e0 e1 e2 e3 q0 q1 q2 q3
        generalize hac : hd ++ clL (z3.take k) = ac at *
        have hacl : ac.length ≤ 2000000000 := by rw [← hac, List.length_append]; omega
        have HAC := hid hac
        generalize hnc : clN ⟨y0, y1, y2, y3⟩ = nc at *
        have HNC := hid hnc
        clear hac hnc hcl2
        go_wp2_with fail
        refine calls_worldD _ (fun X => NdO w.heap.size X A' c' ac ∧ Below w.heap.size w X ∧ wr.heap.size ≤ X.heap.size) ⟨(HOWN.out.alloc _).wide (Nat.le_refl _) (by simp), hb.alloc hbs _, by simp⟩ ?_
        clear HOWN hb k0 k1 k2 k3
        rintro X1 ⟨hown, hb, hs1⟩
        refine (HP.out [.int .i64 y0, .int .i64 y1, .string y2, .slice D y3.length d] _ w.heap.size (by omega) (by rw [FNode.c_eq]; exact RdVs.cons (by unfold RdC; rfl) (RdVs.cons (by unfold RdC; rfl) (RdVs.cons (by unfold RdC; rfl) (RdVs.cons ((Q3.out.up hB0).below hb (Nat.le_refl _)) (RdVs.nil _ _)))))).mono ?_
        rw [HNC.out]
        rintro e w2 ⟨D2, d2, rfl, own2, hb2⟩
        have hs2 : X1.heap.size ≤ w2.heap.size := hb2.size
        have hb3 := hb.trans (hb2.mono (by omega))
        obtain ⟨us, G, ho, hol, hG, hGb, hGv⟩ := (hown.below hb2 (Nat.le_refl _)).row
        obtain ⟨us2, G2, ho2, hol2, hG2, hGb2, hGv2⟩ := own2.row
        have HO := hid ho
        have HN2 := hid (rd_of_own ho2)
        have H1 := hid (nodes_onecell _ hol2)
        have HG1 := hid hol
        have HG2 := hid hol2
        have HV := hid hGv
        have HB := hid hGb
        have HB2 := hid hGb2
        have HD1 := hid hG
        have HD2 := hid hG2
        have hbw : w.heap.size ≤ w2.heap.size := by omega
        have hX1 : w.heap.size ≤ X1.heap.size := by omega
        clear ho hol ho2 hol2 hGv hGb hGv2 hGb2 hG hG2 hown hb2
        go_wp2_with (at_builtin; go_must (refine wpList_append_rd _ rfl _ _ _ rfl w.heap.size _ _ _ 56 Try.underlying27 infoNodeC rfl (by omega) (.slice A' ac.length c') ac.length us rfl HO.out w2.heap.size _ nc.length d2 us2 rfl HN2.out H1.out (by unfold maxLen; omega) (by omega) (by omega) ?_); intro v1 w1 hown1 hg1 hat1)
        obtain ⟨A4, c4, rfl, N4⟩ := NdO.push (l := ac) (m := nc) HG1.out HD1.out HB.out HV.out HG2.out HD2.out (fun b hb => (HB2.out b hb).1) hX1 hown1 hg1 hat1
        go_roundw
        case rel =>
          have e : hd ++ clL (z3.take (k + 1)) = ac ++ nc := by rw [HX.out, ← List.append_assoc, HAC.out]
          refine ⟨k + 1, A4, c4, by omega, by go_num, by rw [e], by rw [e]; exact N4, Below.grownI hb3 hg1 (fun g hg => (HV.out g hg).2.1) hbw⟩
        case measure => simp [intOf]; omega
      · obtain rfl : k = z3.length := by omega
        clear hlt
        go_wp2_with fail
        go_ret
        have ho := HOWN.out
        rw [List.take_length] at ho ⊢
        rw [HCL.out]
        exact ⟨_, _, rfl, ho, hb⟩
mutual
theorem clI_any : ∀ x : FNode, x.wt ≤ 1000000000 → ClI x
  | .mk a0 a1 a2 a3, hw => clI_of a0 a1 a2 a3 hw (clI_all a3 (by rw [FNode.wt_eq] at hw; omega))
theorem clI_all : ∀ (l : List FNode), l.length + FNode.wts l ≤ 1000000000 → ∀ x, x ∈ l → ClI x
  | [], _, x, hx => by cases hx
  | y :: r, hw, x, hx => by
    rw [FNode.wts, List.length_cons] at hw
    rcases List.mem_cons.1 hx with e | hx
    · rw [e]
      exact clI_any y (by omega)
    · exact clI_all r (by omega) x hx
end
end Go.Proofs.Ytgejkfcemlkclaa
