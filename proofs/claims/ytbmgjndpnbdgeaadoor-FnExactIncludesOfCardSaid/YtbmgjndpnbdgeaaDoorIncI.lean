/-
  IncludesOf of the program, its closure; IncludesOf of the reference. Conditions: none; the program's needs that the library's variable that strings.Index reads holds an integer.
-/
import Derived.Test.YtbmgjndpnbdgeaaDoorIncS
import Derived.Laws.EntriesVeiled
namespace Go.Proofs.YtbmgjndpnbdgeaaDoor
open Go.ChangeShapes Go.WideShapes Go.ChangeAt Go.RowKit Go.Deep Go.Joins
open Go.ChangeMaps (open_string shut_string)
set_option linter.unusedVariables false
set_option linter.unusedSimpArgs false
set_option maxRecDepth 100000
/-- The variable that strings.Index reads lies below block base. -/
def MaxB (w : World) (base : Nat) : Prop := ∃ g m, Tryd.prog.globalNamed "internal/bytealg.MaxLen" = some g ∧ g < base ∧ w.cell? ⟨g, 0, none⟩ = some (.int .i64 m)
theorem MaxB.at_ {w : World} {base : Nat} (h : MaxB w base) : MaxAt w := by obtain ⟨g, m, h1, _, h2⟩ := h; exact ⟨g, m, h1, h2⟩
theorem MaxB.below {w w' : World} {base : Nat} (h : MaxB w base) (hb : Below base w w') : MaxB w' base := by
  obtain ⟨g, m, h1, h2, h3⟩ := h
  exact ⟨g, m, h1, h2, (hb.cell (p := ⟨g, 0, none⟩) h2).trans h3⟩
theorem MaxB.of {w : World} (h : MaxAt w) : MaxB w w.heap.size := by
  obtain ⟨g, m, h1, h2⟩ := h
  exact ⟨g, m, h1, World.block_lt_of_cell? _ _ h2, h2⟩
theorem zeroBv (w : World) : (zeroValue 4).run Tryd.prog w = .ok (.bool false) w := by kernel_rfl
/-- What a visit may change: the block of the list, the map, the row; and new blocks. -/
structure VFr (w v : World) (O b : Nat) (r : Option Nat) : Prop where
  os : v.os = w.os
  tape : v.tape = w.tape
  output : v.output = w.output
  size : w.heap.size ≤ v.heap.size
  block : ∀ i, i < w.heap.size → i ≠ O → i ≠ b → some i ≠ r → v.heap[i]? = w.heap[i]?
theorem VFr.refl (w : World) (O b : Nat) (r : Option Nat) : VFr w w O b r := ⟨rfl, rfl, rfl, Nat.le_refl _, fun _ _ _ _ _ => rfl⟩
theorem VFr.next {w v v' : World} {O b : Nat} {r r' : Option Nat} (h : VFr w v O b r) (t : RowTo r r' w) (k : VFr v v' O b r') : VFr w v' O b r := by
  refine ⟨k.os.trans h.os, k.tape.trans h.tape, k.output.trans h.output, Nat.le_trans h.size k.size, fun i hi h1 h2 h3 => ?_⟩
  have hs := h.size
  refine (k.block i (by omega) h1 h2 ?_).trans (h.block i hi h1 h2 h3)
  rcases t with rfl | ⟨g, rfl, hg⟩
  · exact h3
  · exact fun e => by have := Option.some.inj e; omega
theorem VFr.of_below {w v : World} {O b : Nat} {r : Option Nat} (h : Below w.heap.size w v) : VFr w v O b r := ⟨h.os, h.tape, h.output, h.size, fun i hi _ _ _ => h.block i hi⟩
theorem VFr.of_grown {w v : World} {O b : Nat} {r r' : Option Nat} (h : w.grownBy v r') (hr : r' = some b ∨ r' = r) : VFr w v O b r :=
  ⟨h.os, h.tape, h.output, h.size, fun i hi _ h2 h3 => h.block i hi (by rcases hr with rfl | rfl; exact fun e => h2 (Option.some.inj e); exact h3)⟩
theorem VFr.of_set {w : World} {O b : Nat} {r : Option Nat} (u : Value) : VFr w (w.setCell ⟨O, 0, none⟩ u) O b r :=
  ⟨rfl, rfl, rfl, by simp, fun i _ h1 _ _ => Below.heap_setCell w ⟨O, 0, none⟩ u i h1⟩
/-- The state of a visit. -/
structure VaI (w v : World) (base O M V b : Nat) (r0 : Option Nat) (A : Option Addr) (c : Nat) (l : List FStr) : Prop where
  own : v.ownsRow base 9 1 (.slice A l.length c) l.length (sVals l)
  out : Blk v O 26 #[.slice A l.length c]
  mp : Blk v M 40 #[.map (some b)]
  fn : Blk v V 41 #[.func (.func 16) #[] #[.pointer (some ⟨M, 0, none⟩), .pointer (some ⟨O, 0, none⟩), .pointer (some ⟨V, 0, none⟩)]]
  seen : ∃ S, Seen Tryd.prog 9 4 v b l.length S ∧ ∀ s : ByteArray, hasS S s.toList = inV l s
  fr : VFr w v O b r0
  rt : RowTo r0 (Value.slice A l.length c).ownBlock w
  nb : O ≠ b ∧ M ≠ b ∧ V ≠ b ∧ O ≠ M ∧ O ≠ V
  rn : ∀ g, (Value.slice A l.length c).ownBlock = some g → g ≠ O ∧ g ≠ M ∧ g ≠ V ∧ g ≠ b
section
variable {w v v' : World} {base O M V b : Nat} {r0 : Option Nat} {A : Option Addr} {c : Nat} {l : List FStr}
theorem VaI.start (h : VaI w v base O M V b r0 A c l) : VaI v v base O M V b (Value.slice A l.length c).ownBlock A c l := ⟨h.own, h.out, h.mp, h.fn, h.seen, VFr.refl _ _ _ _, .inl rfl, h.nb, h.rn⟩
theorem VaI.below (h : VaI w v base O M V b r0 A c l) (hb : Below v.heap.size v v') : VaI w v' base O M V b r0 A c l := by
  obtain ⟨S, h1, h2⟩ := h.seen
  exact ⟨own_below h.own hb (Nat.le_refl _), h.out.below hb (Nat.le_refl _), h.mp.below hb (Nat.le_refl _), h.fn.below hb (Nat.le_refl _), ⟨S, h1.below hb (Nat.le_refl _), h2⟩, h.fr.next h.rt (VFr.of_below hb), h.rt, h.nb, h.rn⟩
theorem VaI.next {A' : Option Addr} {c' : Nat} {l' : List FStr} (h : VaI w v base O M V b r0 A c l) (k : VaI v v' base O M V b (Value.slice A l.length c).ownBlock A' c' l') : VaI w v' base O M V b r0 A' c' l' :=
  ⟨k.own, k.out, k.mp, k.fn, k.seen, h.fr.next h.rt k.fr, h.rt.next k.rt h.fr.size, k.nb, k.rn⟩
theorem VaI.blk (h : VaI w v base O M V b r0 A c l) {g : Nat} {t : TypeId} {cs : Array Value} (hb : Blk w g t cs) (h1 : g ≠ O) (h2 : g ≠ b) (hr : some g ≠ r0) : Blk v g t cs := (h.fr.block g hb.lt h1 h2 hr).trans hb
theorem VaI.lo (h : VaI w v base O M V b r0 A c l) (hO : base ≤ O) (hb : base ≤ b) (hr : ∀ g, r0 = some g → base ≤ g) (hB : base ≤ w.heap.size) : Below base w v :=
  ⟨h.fr.os, h.fr.tape, h.fr.output, h.fr.size, fun i hi => h.fr.block i (by omega) (by omega) (by omega) (fun e => by have := hr i e.symm; omega)⟩
/-- A name is marked in the map, put behind the row, and the row is laid back. -/
theorem VaI.add (h : VaI w v base O M V b r0 A c l) (s : ByteArray) {S : List (List UInt8)} {v1 v2 : World} {u2 : Value} (h2 : ∀ t : ByteArray, hasS S t.toList = inV l t)
    (hs1 : Seen Tryd.prog 9 4 v1 b (l.length + 1) (s.toList :: S)) (hg1 : v.grownBy v1 (some b))
    (ho : v2.ownsRow base 9 1 u2 (l.length + 1) (sVals l ++ [.string s])) (hg2 : (v1.alloc (.cells #[.string s] 9)).grownBy v2 (Value.slice A l.length c).ownBlock)
    (ha : u2.ownBlock = (Value.slice A l.length c).ownBlock ∨ u2.ownBlock = some (v1.alloc (.cells #[.string s] 9)).heap.size) :
    ∃ A' c', u2 = .slice A' (l ++ [(⟨s⟩ : FStr)]).length c' ∧ VaI w (v2.setCell ⟨O, 0, none⟩ u2) base O M V b r0 A' c' (l ++ [⟨s⟩]) := by
  obtain ⟨A', c', rfl⟩ := own_form ho
  have e : (l ++ [(⟨s⟩ : FStr)]).length = l.length + 1 := by simp
  obtain ⟨n1, n2, n3, n4, n5⟩ := h.nb
  have lO := h.out.lt
  have lM := h.mp.lt
  have lV := h.fn.lt
  have lb : b < v.heap.size := by obtain ⟨S', q, _⟩ := h.seen; exact q.lt
  have z1 := hg1.size
  have za : (v1.alloc (.cells #[.string s] 9)).heap.size = v1.heap.size + 1 := by simp
  have z2 := hg2.size
  have hrow : ∀ g, (Value.slice A' (l.length + 1) c').ownBlock = some g → g ≠ O ∧ g ≠ M ∧ g ≠ V ∧ g ≠ b := by
    intro g hg
    rcases ha with ha | ha
    · exact h.rn g (ha.symm.trans hg)
    · have e1 := Option.some.inj (ha.symm.trans hg)
      rw [za] at e1
      refine ⟨?_, ?_, ?_, ?_⟩ <;> omega
  have keep : ∀ i, i < v.heap.size → i ≠ b → (∀ g, (Value.slice A l.length c).ownBlock = some g → g ≠ i) → v2.heap[i]? = v.heap[i]? := fun i hi hb hr =>
    (hg2.block i (by omega) (fun e => hr i e.symm rfl)).trans ((Below.heap_alloc v1 _ i (by omega)).trans (hg1.block i hi (fun e => hb (Option.some.inj e))))
  have b1 : Blk v2 O 26 #[.slice A l.length c] := (keep O lO n1 (fun g hg => (h.rn g hg).1)).trans h.out
  have b2 : Blk v2 M 40 #[.map (some b)] := (keep M lM n2 (fun g hg => (h.rn g hg).2.1)).trans h.mp
  have b3 : Blk v2 V 41 #[.func (.func 16) #[] #[.pointer (some ⟨M, 0, none⟩), .pointer (some ⟨O, 0, none⟩), .pointer (some ⟨V, 0, none⟩)]] := (keep V lV n3 (fun g hg => (h.rn g hg).2.2.1)).trans h.fn
  have b4 : Seen Tryd.prog 9 4 v2 b (l.length + 1) (s.toList :: S) := (hs1.alloc _).kept hg2 (fun e => (h.rn b e.symm).2.2.2 rfl)
  refine ⟨A', c', by rw [e], ?_, by rw [e]; exact b1.set_ 0 _, b2.far (fun e => n4 e.symm) _, b3.far (fun e => n5 e.symm) _, ⟨s.toList :: S, by rw [e]; exact b4.set (fun e => n1 e.symm) _, fun t => ?_⟩, ?_, ?_, h.nb, by rw [e]; exact hrow⟩
  · rw [e, sVals_snoc]
    exact own_keep ho (fun g hg => Below.heap_setCell v2 ⟨O, 0, none⟩ _ g (hrow g hg).1)
  · rw [hasS_cons, h2, inV_snoc]
    congr 1
    rw [Bool.eq_iff_iff, beq_iff_eq, beq_iff_eq]
    exact ⟨Eq.symm, Eq.symm⟩
  · have f1 : VFr v v1 O b (Value.slice A l.length c).ownBlock := VFr.of_grown hg1 (.inl rfl)
    have f2 : VFr v (v1.alloc (.cells #[.string s] 9)) O b (Value.slice A l.length c).ownBlock := f1.next (.inl rfl) (VFr.of_below ((Below.refl _ _).alloc (Nat.le_refl _) _))
    have f3 := f2.next (.inl rfl) (VFr.of_grown hg2 (.inr rfl))
    exact h.fr.next h.rt (f3.next (.inl rfl) (VFr.of_set _))
  · rw [e]
    refine h.rt.next (b := v) ?_ h.fr.size
    rcases ha with ha | ha
    · exact .inl ha
    · exact .inr ⟨_, ha, by omega⟩
end
theorem vars_start (w : World) (O b M V : Nat) (h1 : w.heap.size + 1 = O) (h2 : w.heap.size + 1 + 1 = b) (h3 : w.heap.size + 1 + 1 + 1 = M) (h4 : w.heap.size + 1 + 1 + 1 + 1 = V) :
    VaI (((((w.alloc (.cells #[] 9)).alloc (.cells #[.slice (some ⟨w.heap.size, 0, none⟩) 0 0] 26)).alloc (.map #[] 0)).alloc (.cells #[.map (some b)] 40)).alloc (.cells #[.func (.func 16) #[] #[.pointer (some ⟨M, 0, none⟩), .pointer (some ⟨O, 0, none⟩), .pointer (some ⟨V, 0, none⟩)]] 41))
      (((((w.alloc (.cells #[] 9)).alloc (.cells #[.slice (some ⟨w.heap.size, 0, none⟩) 0 0] 26)).alloc (.map #[] 0)).alloc (.cells #[.map (some b)] 40)).alloc (.cells #[.func (.func 16) #[] #[.pointer (some ⟨M, 0, none⟩), .pointer (some ⟨O, 0, none⟩), .pointer (some ⟨V, 0, none⟩)]] 41))
      w.heap.size O M V b (some w.heap.size) (some ⟨w.heap.size, 0, none⟩) 0 [] := by
  have hb : b = ((w.alloc (.cells #[] 9)).alloc (.cells #[.slice (some ⟨w.heap.size, 0, none⟩) 0 0] 26)).heap.size := by simp; omega
  refine ⟨((((own_empty w _ 1).alloc _).alloc _).alloc _).alloc _, (((Blk.new' _ _ _ O (by simp; omega)).alloc _).alloc _).alloc _, (Blk.new' _ _ _ M (by simp; omega)).alloc _, Blk.new' _ _ _ V (by simp; omega), ⟨[], ?_, fun s => rfl⟩, VFr.refl _ _ _ _, .inl rfl, ⟨by omega, by omega, by omega, by omega, by omega⟩, fun g hg => ?_⟩
  · rw [hb]
    exact ((Seen.made _).alloc _).alloc _
  · have e9 : w.heap.size = g := Option.some.inj hg
    refine ⟨?_, ?_, ?_, ?_⟩ <;> omega
def IncI (x : FNode) : Prop := ∀ (us : List Value) (w : World) (B base O M V b : Nat) (l : List FStr) (A : Option Addr) (c : Nat), B ≤ base → base ≤ w.heap.size → base ≤ O → base ≤ b → MaxB w base → RdVs w B x.c us → VaI w w base O M V b (Value.slice A l.length c).ownBlock A c l → x.wt ≤ 1048576 → l.length + FStr.wts l + 61 * (1 + x.wt) ≤ 1000000000 →
  Calls Tryd.prog 16 #[.agg us.toArray, .pointer (some ⟨M, 0, none⟩), .pointer (some ⟨O, 0, none⟩), .pointer (some ⟨V, 0, none⟩)] w fun e w' => e = .returned (.tuple #[]) ∧ ∃ A' c', VaI w w' base O M V b (Value.slice A l.length c).ownBlock A' c' (incN x l)
set_option maxHeartbeats 1000000 in
theorem incI_of (z0 z1 : Int) (z2 : ByteArray) (z3 : List FNode) (h3 : ∀ x, x ∈ z3 → IncI x) : IncI ⟨z0, z1, z2, z3⟩ := by
  intro us w B base O M V b l A c hB hbase hbO hbb hmx hr hst hxw hbd
  rw [FNode.c_eq] at hr
  rw [FNode.wt_eq] at hbd hxw
  obtain ⟨us0, rfl, hr_0⟩ := hr.unv
  obtain ⟨us1, rfl, hr_1⟩ := hr_0.unv
  obtain ⟨us2, rfl, hr_2⟩ := hr_1.unv
  obtain ⟨A3, c3, us3, rfl, r3, hr_3⟩ := hr_2.uns
  obtain rfl := hr_3.un0
  have R3 := Lib.hid r3
  have H3 := Lib.hid h3
  have MX := Lib.hid hmx
  clear r3 h3 hr hr_0 hr_1 hr_2 hr_3 hmx
  have hz1m : z2.size ≤ 1048576 := by omega
  have HRL := Lib.hid (fun (g : Nat) (hg : (Value.slice A l.length c).ownBlock = some g) => own_lt hst.own g hg)
  have hlO := hst.out.lt
  have hlb : b < w.heap.size := by obtain ⟨S', q, _⟩ := hst.seen; exact q.lt
  have V0 := Lib.hid (hst.below ((Below.refl _ _).alloc (Nat.le_refl _) (.cells #[.int .i64 z0, .int .i64 z1, .string z2, .slice A3 z3.length c3] 30)))
  have b0 : Blk (w.alloc (.cells #[.int .i64 z0, .int .i64 z1, .string z2, .slice A3 z3.length c3] 30)) w.heap.size 30 #[.int .i64 z0, .int .i64 z1, .string z2, .slice A3 z3.length c3] := Blk.new _ _ _
  have MX0 := Lib.hid (MX.out.below ((Below.refl _ _).alloc hbase (.cells #[.int .i64 z0, .int .i64 z1, .string z2, .slice A3 z3.length c3] 30)))
  have hps := nmS_size z2
  clear hst
  go_enter Tryd.func16, Tryd.ntmps16
  go_upto_if 11 with fail
  generalize w.alloc (.cells #[.int .i64 z0, .int .i64 z1, .string z2, .slice A3 z3.length c3] 30) = w0 at *
  have k0 : w0.cell? ⟨w.heap.size, 0, none⟩ = some (.int .i64 z0) := b0.cell 0
  have k2 : w0.cell? ⟨w.heap.size, 2, none⟩ = some (.string z2) := b0.cell 2
  have U0 := Lib.hid V0.out.start
  generalize hgg : (z0 == 47) = gg at *
  have HG := Lib.hid hgg
  clear hgg
  go_cut [4] from 5 to 30 (fun v wx => v = .pointer (some ⟨w.heap.size, 0, none⟩) ∧ ∃ A1 c1, VaI w0 wx base O M V b (Value.slice A l.length c).ownBlock A1 c1 (addI z0 z2 l))
  case first =>
    cases gg with
    | false =>
      have HAD := Lib.hid (show addI z0 z2 l = l from by unfold addI; rw [HG.out]; rfl)
      go_wp2_with fail
      go_meet
      rw [HAD.out]
      exact ⟨rfl, A, c, U0.out⟩
    | true =>
      have HAD0 := Lib.hid (show addI z0 z2 l = (if (nmOk z2 && !inV l (nmS z2)) = true then l ++ [⟨nmS z2⟩] else l) from by unfold addI; rw [HG.out]; rfl)
      have NP := Lib.hid (NormalPath_impl z2 w0 hz1m MX0.out.at_)
      generalize nmS z2 = pth at *
      generalize nmOk z2 = okk at *
      obtain ⟨S, hse, hhs⟩ := U0.out.seen
      have SE := Lib.hid hse
      have HH := Lib.hid hhs
      have HB0 := Lib.hid b0
      clear hse hhs
      cases okk with
      | false =>
        have HAD := Lib.hid (show addI z0 z2 l = l from HAD0.out)
        clear HAD0
        go_wp2_with (go_at_call 17; refine NP.out.mono ?_; rintro e w1 ⟨rfl, hb⟩; have U1 := Lib.hid (U0.out.below hb); clear hb)
        go_meet
        rw [HAD.out]
        exact ⟨rfl, A, c, U1.out⟩
      | true =>
        have hz2m : pth.size ≤ maxLen := by unfold maxLen; omega
        have hll : l.length ≤ 1000000000 := by omega
        have hGb : w.heap.size ≠ b := by omega
        have hn9 : l.length < maxLen := by unfold maxLen; omega
        have HL9 := Lib.hid (show (l ++ [(⟨pth⟩ : FStr)]).length = l.length + 1 by simp)
        have hbw0 : base ≤ w0.heap.size := by have := HB0.out.lt; omega
        generalize hin : inV l pth = bi at *
        have HI := Lib.hid ((HH.out pth).trans hin)
        clear hin
        cases bi with
        | true =>
          have HAD := Lib.hid (show addI z0 z2 l = l from HAD0.out)
          clear HAD0
          go_wp2_with (first
            | (go_at_call 17; refine NP.out.mono ?_; rintro e w1 ⟨rfl, hb⟩; have U1 := Lib.hid (U0.out.below hb); have SE1 := Lib.hid (SE.out.below hb (Nat.le_refl _)); have km : w1.cell? ⟨M, 0, none⟩ = some (.map (some b)) := U1.out.mp.cell 0; clear hb)
            | (at_lookup; go_must (refine wpList_look_seen_g _ rfl _ _ 40 rfl 9 4 Tryd.underlying9 Tryd.underlying4 zeroBv Tryd.underlying40 b l.length S rfl SE1.out pth hz2m rfl ?_); rw [HI.out]))
          go_meet
          rw [HAD.out]
          exact ⟨rfl, A, c, U1.out⟩
        | false =>
          have HAD := Lib.hid (show addI z0 z2 l = l ++ [⟨pth⟩] from HAD0.out)
          clear HAD0
          have tok1 : True := trivial
          go_wp2_with (first
            | (go_at_call 17; refine NP.out.mono ?_; rintro e w1 ⟨rfl, hb⟩; have U1 := Lib.hid (U0.out.below hb); have SE1 := Lib.hid (SE.out.below hb (Nat.le_refl _)); have km : w1.cell? ⟨M, 0, none⟩ = some (.map (some b)) := U1.out.mp.cell 0; have ko : w1.cell? ⟨O, 0, none⟩ = some (.slice A l.length c) := U1.out.out.cell 0; have hzz := hb.size; clear hb)
            | (at_lookup; go_must (refine wpList_look_seen_g _ rfl _ _ 40 rfl 9 4 Tryd.underlying9 Tryd.underlying4 zeroBv Tryd.underlying40 b l.length S rfl SE1.out pth hz2m rfl ?_); rw [HI.out])
            | (at_mapUpdate; go_must (refine wpList_put_seen _ rfl _ _ _ 40 rfl 9 4 Tryd.underlying9 Tryd.underlying4 Tryd.underlying40 b l.length S rfl SE1.out hn9 pth hz2m rfl rfl ?_); intro v1 hs1 hg1; have zs1 := hg1.size; have bO1 : Blk v1 O 26 #[.slice A l.length c] := (hg1.block _ U1.out.out.lt (fun e => U1.out.nb.1 (Option.some.inj e))).trans U1.out.out; have ko1 : v1.cell? ⟨O, 0, none⟩ = some (.slice A l.length c) := bO1.cell 0; have own1 := own_keep U1.out.own (fun g hg => hg1.block g (own_lt U1.out.own g hg).2 (fun e => (U1.out.rn g hg).2.2.2 (Option.some.inj e))))
            | (at_builtin; have _t := tok1; go_must (refine wpList_append_rd _ rfl (.tmp 27) (.tmp 29) _ rfl base _ _ _ 16 Tryd.underlying26 sInfoV rfl (by omega) (.slice A l.length c) l.length _ rfl (own1.alloc _) (v1.heap.size + 1) _ 1 1 _ rfl (srd_oneV v1 (.string pth) 9) (by intro u hu; simp only [List.mem_cons, List.not_mem_nil, or_false] at hu; rcases hu with rfl; rfl) (by unfold maxLen; omega) (by omega) (by have := hbw0; simp; omega) ?_); intro u2 v2 hown2 hg2 hat2; have bO2 : Blk v2 O 26 #[.slice A l.length c] := (hg2.block O (by have := bO1.lt; simp; omega) (fun e => (U1.out.rn O e.symm).1 rfl)).trans (bO1.alloc _); have ko2 : v2.cell? ⟨O, 0, none⟩ = some (.slice A l.length c) := bO2.cell 0; have fo2 : v2.frozen? ⟨O, 0, none⟩ = false := bO2.frozen 0; obtain ⟨A2, c2, rfl, V2⟩ := U1.out.add pth HH.out hs1 hg1 hown2 hg2 hat2; rw [HL9.out] at V2; clear tok1))
          go_meet
          rw [HAD.out]
          exact ⟨rfl, A2, c2, V2⟩
  case rest =>
    have VW := V0
    have UB : ∀ (v : World) (A' : Option Addr) (c' : Nat) (l' : List FStr), VaI w0 v base O M V b (Value.slice A l.length c).ownBlock A' c' l' → Blk v w.heap.size 30 #[.int .i64 z0, .int .i64 z1, .string z2, .slice A3 z3.length c3] ∧ Below base w v := fun v A' c' l' U => ⟨U.blk b0 (by omega) (by omega) (fun e => by have := (HRL.out _ e.symm).2; omega), (VW.out.next U).lo hbO hbb (fun g hg => (HRL.out g hg).1) hbase⟩
    have UBH := Lib.hid UB
    clear UB V0 U0 b0 k0 k2
    obtain ⟨rfl, A1, c1, V1⟩ := hcut
    have hwt := addI_wt z0 z2 l
    generalize hl1 : addI z0 z2 l = l1 at *
    have HL1 := Lib.hid hl1
    clear hl1
    obtain ⟨b1, be1⟩ := UBH.out _ _ _ _ V1
    have hbd2 : l1.length + FStr.wts l1 + 61 * (z3.length + FNode.wts z3) ≤ 1000000000 := by omega
    have hzl : z3.length ≤ 1048576 := by omega
    have hzw : z3.length + FNode.wts z3 ≤ 1048576 := by omega
    have k3 : wc.cell? ⟨w.heap.size, 3, none⟩ = some (.slice A3 z3.length c3) := b1.cell 3
    clear hbd hwt b1 be1 hxw
    go_wp2_with fail
    go_loopw [34] (fun iv wr => ∃ (k : Nat) (A' : Option Addr) (c' : Nat), k ≤ z3.length ∧ iv = .int .i64 k ∧ VaI w0 wr base O M V b (Value.slice A l.length c).ownBlock A' c' (incL (z3.take k) l1)) (fun iv _ => z3.length - (intOf iv).toNat)
    case atStart => exact ⟨0, A1, c1, Nat.zero_le _, rfl, by rw [List.take_zero, incL]; exact V1⟩
    case round =>
      obtain ⟨k, A2, c2, hk, rfl, V2⟩ := hrel
      obtain ⟨b2, be2⟩ := UBH.out _ _ _ _ V2
      have hwl := b2.lt
      have hwl2 := be2.size
      clear k3
      have hkm : k < maxLen := by unfold maxLen; omega
      have haw := incL_wt (z3.take k) l1
      have htw := FNode.wts_le z3 k
      by_cases hlt : k < z3.length
      · have hlt2 : (k : Int) < (z3.length : Int) := by omega
        obtain ⟨x, hx⟩ : ∃ x, z3[k]? = some x := ⟨_, List.getElem?_eq_getElem hlt⟩
        obtain ⟨bc, offc, rfl, hblc, hcc⟩ := RdC.at_ FNode.len R3.out hx
        have hxm := List.mem_of_getElem? hx
        have htk := FNode.wts_take z3 k x hx
        have htw2 := FNode.wts_le z3 (k + 1)
        have HX := Lib.hid (incL_take z3 l1 k x hx)
        have HV := Lib.hid (H3.out x hxm)
        clear hx hxm
        have hbx : (incL (z3.take k) l1).length + FStr.wts (incL (z3.take k) l1) + 61 * (1 + x.wt) ≤ 1000000000 := by
          rw [List.length_take] at haw
          omega
        have hxw2 : x.wt ≤ 1048576 := by omega
        obtain ⟨y0, y1, y2, y3⟩ := x
        rw [FNode.c_eq] at hcc
        obtain ⟨u0, e0, q0⟩ := hcc 0 _ rfl
        obtain rfl := q0.val
        have c_0 : wr.cell? ⟨bc, offc + k * 4, none⟩ = some (.int .i64 y0) := (be2.cell (p := ⟨bc, _, none⟩) (by show bc < base; omega)).trans (by simpa using e0)
        obtain ⟨u1, e1, q1⟩ := hcc 1 _ rfl
        obtain rfl := q1.val
        have c_1 : wr.cell? ⟨bc, offc + k * 4 + 1, none⟩ = some (.int .i64 y1) := (be2.cell (p := ⟨bc, _, none⟩) (by show bc < base; omega)).trans (by simpa using e1)
        obtain ⟨u2, e2, q2⟩ := hcc 2 _ rfl
        obtain rfl := q2.val
        have c_2 : wr.cell? ⟨bc, offc + k * 4 + 2, none⟩ = some (.string y2) := (be2.cell (p := ⟨bc, _, none⟩) (by show bc < base; omega)).trans (by simpa using e2)
        obtain ⟨u3, e3, q3⟩ := hcc 3 _ rfl
        obtain ⟨D, d, rfl⟩ := q3.form
        have c_3 : wr.cell? ⟨bc, offc + k * 4 + 3, none⟩ = some (.slice D y3.length d) := (be2.cell (p := ⟨bc, _, none⟩) (by show bc < base; omega)).trans (by simpa using e3)
        have hba : Below wr.heap.size wr (wr.alloc (.cells #[.int .i64 y0, .int .i64 y1, .string y2, .slice D y3.length d] 30)) := (Below.refl _ _).alloc (Nat.le_refl _) _
        have RX := Lib.hid (show RdVs (wr.alloc (.cells #[.int .i64 y0, .int .i64 y1, .string y2, .slice D y3.length d] 30)) B (FNode.c ⟨y0, y1, y2, y3⟩) [.int .i64 y0, .int .i64 y1, .string y2, .slice D y3.length d] from by
          rw [FNode.c_eq]
          exact RdVs.cons (by unfold RdC; rfl) (RdVs.cons (by unfold RdC; rfl) (RdVs.cons (by unfold RdC; rfl) (RdVs.cons ((q3.on be2 hB (Nat.le_refl _)).on hba (by omega) (Nat.le_refl _)) (RdVs.nil _ _)))))
        clear hcc e0 e1 e2 e3 q0 q1 q2 q3
        generalize hacc : incL (z3.take k) l1 = ac at *
        clear hacc
        have VB := Lib.hid (V2.below hba)
        have kv : wr.cell? ⟨V, 0, none⟩ = some (.func (.func 16) #[] #[.pointer (some ⟨M, 0, none⟩), .pointer (some ⟨O, 0, none⟩), .pointer (some ⟨V, 0, none⟩)]) := V2.fn.cell 0
        have lv := V2.fn.lt
        have CALL := Lib.hid (HV.out [.int .i64 y0, .int .i64 y1, .string y2, .slice D y3.length d] _ B base O M V b ac A2 c2 hB (by simp; omega) hbO hbb (MX.out.below (be2.trans (hba.mono (by omega)))) RX.out VB.out.start hxw2 hbx)
        clear hba V2
        go_wp2_with (go_at_call 16; refine CALL.out.mono ?_; rintro e w2 ⟨rfl, A3', c3', V3⟩)
        go_roundw
        case rel => exact ⟨k + 1, A3', c3', by omega, by go_num, by rw [HX.out]; exact VB.out.next V3⟩
        case measure => simp [intOf]; omega
      · obtain rfl : k = z3.length := by omega
        clear hlt
        rw [List.take_length] at V2
        go_wp2_with fail
        have hfin : incN ⟨z0, z1, z2, z3⟩ l = incL z3 l1 := by rw [incN, HL1.out]
        rw [hfin]
        go_end0
        exact ⟨rfl, A2, c2, VW.out.next V2⟩
mutual
theorem incI_any : ∀ x : FNode, IncI x
  | .mk a0 a1 a2 a3 => incI_of a0 a1 a2 a3 (incI_all a3)
theorem incI_all : ∀ (l : List FNode) (x : FNode), x ∈ l → IncI x
  | [], x, hx => by cases hx
  | y :: r, x, hx => by
    rcases List.mem_cons.1 hx with e | hx
    · rw [e]
      exact incI_any y
    · exact incI_all r x hx
end
end Go.Proofs.YtbmgjndpnbdgeaaDoor
