/-
  l18Closures, ClosuresOf of the reference: a row of nodes that are shared, then copies of them. Conditions: none.
-/
import Derived.Test.YtbmgjndpnbdgeaaClI
import Derived.Deep.CutRange
import Derived.Deep.CutBlock
namespace Go.Proofs.Ytbmgjndpnbdgeaa
open Go.ChangeShapes Go.WideShapes Go.ChangeAt Go.RowKit Go.Deep Go.Joins
open Go.ChangeMaps (open_string shut_string)
set_option linter.unusedVariables false
set_option linter.unusedSimpArgs false
set_option maxRecDepth 100000
theorem rd_shared {w : World} {base e k n : Nat} {u : Value} {us : List Value} {xs : List Cel} (ho : w.ownsRow base e k u n us) (hr : RdVs w w.heap.size xs us) : RdC w w.heap.size (.s e k n xs) u := by
  unfold RdC
  rcases own_row ho with ⟨rfl, rfl, rfl⟩ | ⟨g, cap, f, rfl, hg, hn, hc, hrow, hx⟩
  · exact ⟨none, 0, rfl, Nat.le_refl _, Nat.zero_le _, by rw [← hr.1]; simp, fun h => absurd h (by omega)⟩
  · refine ⟨some ⟨g, 0, none⟩, cap, rfl, hn, hc, by rw [← hr.1]; exact ho.1, fun _ => ⟨g, 0, rfl, hrow.lt, RdL.of _ _ fun j x hj => ?_⟩⟩
    have hjl : j < us.length := by rw [hr.1]; exact (List.getElem?_eq_some_iff.1 hj).1
    have hu : us[j]? = some us[j] := List.getElem?_eq_getElem hjl
    refine ⟨us[j], ?_, hr.2 j x _ hj hu⟩
    have hj2 : j < n * k := by rw [← ho.1]; exact hjl
    have hle : n * k ≤ cap * k := Nat.mul_le_mul_right k hn
    rw [Nat.zero_add, hrow.cell (by omega), ← hx j hj2, hu]
def RowTo (r r' : Option Nat) (w : World) : Prop := r' = r ∨ ∃ g, r' = some g ∧ w.heap.size ≤ g
theorem grown_next {a b c : World} {r r' : Option Nat} (h : a.grownBy b r) (t : RowTo r r' a) (k : b.grownBy c r') : a.grownBy c r := by
  refine ⟨k.os.trans h.os, k.tape.trans h.tape, k.output.trans h.output, Nat.le_trans h.size k.size, fun i hi hn => ?_⟩
  have hs := h.size
  refine (k.block i (by omega) ?_).trans (h.block i hi hn)
  rcases t with rfl | ⟨g, rfl, hg⟩
  · exact hn
  · exact fun e => by have := Option.some.inj e; omega
theorem RowTo.next {a b : World} {r r' r'' : Option Nat} (h : RowTo r r' a) (k : RowTo r' r'' b) (hs : a.heap.size ≤ b.heap.size) : RowTo r r'' a := by
  rcases k with rfl | ⟨g, rfl, hg⟩
  · exact h
  · exact .inr ⟨g, rfl, by omega⟩
/-- A row of n nodes of one's own whose kids are another's: at world v, since world w. -/
structure ShS (w v : World) (base : Nat) (r0 : Option Nat) (A : Option Addr) (c n : Nat) (vs : List Value) : Prop where
  own : v.ownsRow base 38 4 (.slice A n c) n vs
  fr : w.grownBy v r0
  rt : RowTo r0 (Value.slice A n c).ownBlock w
section
variable {w v v' : World} {base : Nat} {r0 : Option Nat} {A : Option Addr} {c n : Nat} {vs : List Value}
theorem ShS.start (h : w.ownsRow base 38 4 (.slice A n c) n vs) : ShS w w base (Value.slice A n c).ownBlock A c n vs := ⟨h, grown_refl _ _, .inl rfl⟩
theorem ShS.below (h : ShS w v base r0 A c n vs) (hb : Below v.heap.size v v') : ShS w v' base r0 A c n vs :=
  ⟨own_below h.own hb (Nat.le_refl _), grown_next h.fr h.rt (grown_below hb), h.rt⟩
theorem ShS.next {A' : Option Addr} {c' n' : Nat} {vs' : List Value} (h : ShS w v base r0 A c n vs) (k : ShS v v' base (Value.slice A n c).ownBlock A' c' n' vs') : ShS w v' base r0 A' c' n' vs' :=
  ⟨k.own, grown_next h.fr h.rt k.fr, h.rt.next k.rt h.fr.size⟩
theorem ShS.app (h : ShS w v base r0 A c n vs) {us : List Value} {v2 : World} {u2 : Value} (ho : v2.ownsRow base 38 4 u2 (n + 1) (vs ++ us)) (hg : v.grownBy v2 (Value.slice A n c).ownBlock) (ha : u2.ownBlock = (Value.slice A n c).ownBlock ∨ u2.ownBlock = some v.heap.size) :
    ∃ A' c', u2 = .slice A' (n + 1) c' ∧ ShS w v2 base r0 A' c' (n + 1) (vs ++ us) := by
  obtain ⟨A', c', rfl⟩ := own_form ho
  refine ⟨A', c', rfl, ho, grown_next h.fr h.rt hg, ?_⟩
  refine h.rt.next (b := v) ?_ h.fr.size
  rcases ha with ha | ha
  · exact .inl ha
  · exact .inr ⟨_, ha, Nat.le_refl _⟩
theorem ShS.blk (h : ShS w v base r0 A c n vs) {g : Nat} {t : TypeId} {cs : Array Value} (hb : Blk w g t cs) (hr : some g ≠ r0) : Blk v g t cs := (h.fr.block g hb.lt hr).trans hb
theorem ShS.lo (h : ShS w v base r0 A c n vs) (hr : ∀ g, r0 = some g → base ≤ g) (hB : base ≤ w.heap.size) : Below base w v :=
  ⟨h.fr.os, h.fr.tape, h.fr.output, h.fr.size, fun i hi => h.fr.block i (by omega) (fun e => by have := hr i e.symm; omega)⟩
end
def ClS (x : FNode) : Prop := ∀ (us : List Value) (w : World) (B base : Nat) (A : Option Addr) (c n : Nat) (vs : List Value), B ≤ base → base ≤ w.heap.size → RdVs w B x.c us → w.ownsRow base 38 4 (.slice A n c) n vs → n + x.wt ≤ 4000000 →
  Calls Try.prog 24 #[.agg us.toArray, .slice A n c] w fun e w' => ∃ A' c' us', e = .returned (.slice A' (n + (clN x).length) c') ∧ RdVs w B (FNode.flat (clN x)) us' ∧ ShS w w' base (Value.slice A n c).ownBlock A' c' (n + (clN x).length) (vs ++ us')
theorem rdvs_one (w : World) (u0 u1 u2 u3 : Value) (e : TypeId) : Rd (w.alloc (.cells #[u0, u1, u2, u3] e)) (w.heap.size + 1) 4 (.slice (some ⟨w.heap.size, 0, none⟩) 1 1) 1 [u0, u1, u2, u3] := rd_new w e 4 [u0, u1, u2, u3] rfl
set_option maxHeartbeats 4000000 in
theorem clS_of (z0 z1 : Int) (z2 : ByteArray) (z3 : List FNode) (h3 : ∀ x, x ∈ z3 → ClS x) : ClS ⟨z0, z1, z2, z3⟩ := by
  intro us w B base A c n vs hB hbase hr hown hbd
  have hR := hr
  rw [FNode.c_eq] at hr
  obtain ⟨us0, rfl, hr_0⟩ := hr.unv
  obtain ⟨us1, rfl, hr_1⟩ := hr_0.unv
  obtain ⟨us2, rfl, hr_2⟩ := hr_1.unv
  obtain ⟨A3, c3, us3, rfl, r3, hr_3⟩ := hr_2.uns
  obtain rfl := hr_3.un0
  have R3 := Lib.hid r3
  have H3 := Lib.hid h3
  clear r3 h3 hr_0 hr_1 hr_2 hr_3
  have RX := Lib.hid hR
  rw [FNode.wt_eq] at hbd
  clear hR hr
  have hcll := clL_len z3
  obtain ⟨hd, hhd⟩ : ∃ hd, hd = (if (z0 == 23) = true then [(⟨z0, z1, z2, z3⟩ : FNode)] else []) := ⟨_, rfl⟩
  have hdl : hd.length ≤ 1 := by rw [hhd]; split <;> simp
  have HD := Lib.hid hhd
  have HCL := Lib.hid (show clN ⟨z0, z1, z2, z3⟩ = hd ++ clL z3 from by rw [clN, hhd])
  clear hhd
  have hrl : ∀ g, (Value.slice A n c).ownBlock = some g → base ≤ g ∧ g < w.heap.size := fun g hg => own_lt hown g hg
  have HRL := Lib.hid hrl
  clear hrl
  have V0 := Lib.hid ((ShS.start hown).below ((Below.refl _ _).alloc (Nat.le_refl _) (.cells #[.int .i64 z0, .int .i64 z1, .string z2, .slice A3 z3.length c3] 38)))
  have b0 : Blk (w.alloc (.cells #[.int .i64 z0, .int .i64 z1, .string z2, .slice A3 z3.length c3] 38)) w.heap.size 38 #[.int .i64 z0, .int .i64 z1, .string z2, .slice A3 z3.length c3] := Blk.new _ _ _
  have hs0 : (w.alloc (.cells #[.int .i64 z0, .int .i64 z1, .string z2, .slice A3 z3.length c3] 38)).heap.size = w.heap.size + 1 := by simp
  have RX0 := Lib.hid (RX.out.on ((Below.refl w.heap.size w).alloc (Nat.le_refl _) (.cells #[.int .i64 z0, .int .i64 z1, .string z2, .slice A3 z3.length c3] 38)) (Nat.le_trans hB hbase) (Nat.le_refl _))
  have hlo0 := Lib.hid ((Below.refl w.heap.size w).alloc (Nat.le_refl _) (.cells #[.int .i64 z0, .int .i64 z1, .string z2, .slice A3 z3.length c3] 38))
  clear hown
  go_enter Try.func24, Try.ntmps24
  go_upto_if 8 with fail
  generalize w.alloc (.cells #[.int .i64 z0, .int .i64 z1, .string z2, .slice A3 z3.length c3] 38) = w0 at *
  have k0 : w0.cell? ⟨w.heap.size, 0, none⟩ = some (.int .i64 z0) := b0.cell 0
  have k1 : w0.cell? ⟨w.heap.size, 1, none⟩ = some (.int .i64 z1) := b0.cell 1
  have k2 : w0.cell? ⟨w.heap.size, 2, none⟩ = some (.string z2) := b0.cell 2
  have k3 : w0.cell? ⟨w.heap.size, 3, none⟩ = some (.slice A3 z3.length c3) := b0.cell 3
  have hwl0 : w.heap.size < w0.heap.size := by omega
  have HS0 := Lib.hid hs0
  clear hs0
  have U0 := Lib.hid (ShS.start V0.out.own)
  go_cut [1] from 8 to 12 (fun v wx => ∃ A1 c1 us1, v = .slice A1 (n + hd.length) c1 ∧ RdVs w B (FNode.flat hd) us1 ∧ ShS w0 wx base (Value.slice A n c).ownBlock A1 c1 (n + hd.length) (vs ++ us1))
  case first =>
    cases hz : (z0 == 23) with
    | false =>
      have h23 : ¬ z0 = 23 := by simpa using hz
      have HN : hd = [] := by rw [HD.out, hz]; rfl
      subst HN
      go_wp2_with fail
      go_meet
      exact ⟨A, c, [], rfl, RdVs.nil _ _, by rw [List.append_nil]; exact U0.out⟩
    | true =>
      have h23 : z0 = 23 := by simpa using hz
      have HN := Lib.hid (show hd = [(⟨z0, z1, z2, z3⟩ : FNode)] from by rw [HD.out, hz]; rfl)
      have hz' := Lib.hid h23
      clear h23
      have hsz := V0.out.fr.size
      go_wp2_with (at_builtin; go_must (refine wpList_append_rd _ rfl _ _ _ rfl base _ _ _ 56 Try.underlying26 infoNodeC rfl (by omega) (.slice A n c) n vs rfl (World.ownsRow.alloc U0.out.own _) (w0.heap.size + 1) _ 1 1 [.int .i64 z0, .int .i64 z1, .string z2, .slice A3 z3.length c3] rfl (rdvs_one w0 _ _ _ _ _) (by intro u hu; simp only [List.mem_cons, List.not_mem_nil, or_false] at hu; rcases hu with rfl | rfl | rfl | rfl <;> rfl) (by unfold maxLen; omega) (by omega) (by simp; omega) ?_); intro v1 w1 hown1 hg1 hat1)
      go_meet
      obtain ⟨A4, c4, e4, N4⟩ := (U0.out.below ((Below.refl _ _).alloc (Nat.le_refl _) (.cells #[.int .i64 z0, .int .i64 z1, .string z2, .slice A3 z3.length c3] 38))).app hown1 hg1 hat1
      rw [HN.out, e4]
      refine ⟨A4, c4, _, rfl, ?_, N4⟩
      have e : FNode.flat [(⟨z0, z1, z2, z3⟩ : FNode)] = FNode.c ⟨z0, z1, z2, z3⟩ := by simp [FNode.flat]
      rw [e]
      exact RX.out
  case rest =>
    obtain ⟨A1, c1, us1, rfl, R1, V1⟩ := hcut
    have VW := V0
    have UB : ∀ (v : World) (A' : Option Addr) (c' n' : Nat) (vs' : List Value), ShS w0 v base (Value.slice A n c).ownBlock A' c' n' vs' → Blk v w.heap.size 38 #[.int .i64 z0, .int .i64 z1, .string z2, .slice A3 z3.length c3] ∧ Below base w v := fun v A' c' n' vs' U => ⟨U.blk b0 (fun e => by have := (HRL.out _ e.symm).2; omega), (VW.out.next U).lo (fun g hg => (HRL.out g hg).1) hbase⟩
    have UBH := Lib.hid UB
    clear UB V0 U0 b0 k0 k1 k2 k3 RX0
    obtain ⟨b1, be1⟩ := UBH.out _ _ _ _ _ V1
    have k3 : wc.cell? ⟨w.heap.size, 3, none⟩ = some (.slice A3 z3.length c3) := b1.cell 3
    have hzl : z3.length ≤ 4000000 := by omega
    have V1H := Lib.hid V1
    have R1H := Lib.hid R1
    clear b1 be1 V1 R1
    go_wp2_with fail
    go_loopw [1, 5] (fun lv iv wr => ∃ (k : Nat) (A' : Option Addr) (c' : Nat) (us' : List Value), k ≤ z3.length ∧ iv = .int .i64 k ∧ lv = .slice A' (n + (hd ++ clL (z3.take k)).length) c' ∧ RdVs w B (FNode.flat (hd ++ clL (z3.take k))) us' ∧ ShS w0 wr base (Value.slice A n c).ownBlock A' c' (n + (hd ++ clL (z3.take k)).length) (vs ++ us')) (fun _ iv _ => z3.length - (intOf iv).toNat)
    case atStart => exact ⟨0, A1, c1, us1, Nat.zero_le _, rfl, by rw [List.take_zero, clL, List.append_nil], by rw [List.take_zero, clL, List.append_nil]; exact R1H.out, by rw [List.take_zero, clL, List.append_nil]; exact V1H.out⟩
    case round =>
      obtain ⟨k, A2, c2, us2, hk, rfl, rfl, hrd, V2⟩ := hrel
      obtain ⟨b2, be2⟩ := UBH.out _ _ _ _ _ V2
      have hwl := b2.lt
      have hwl2 := be2.size
      have HRD := Lib.hid hrd
      clear k3 V1H R1H hrd
      have k3 : wr.cell? ⟨w.heap.size, 3, none⟩ = some (.slice A3 z3.length c3) := b2.cell 3
      have hkm : k < maxLen := by unfold maxLen; omega
      by_cases hlt : k < z3.length
      · have hlt2 : (k : Int) < (z3.length : Int) := by omega
        obtain ⟨x, hx⟩ : ∃ x, z3[k]? = some x := ⟨_, List.getElem?_eq_getElem hlt⟩
        obtain ⟨bc, offc, rfl, hblc, hcc⟩ := RdC.at_ FNode.len R3.out hx
        have hxm := List.mem_of_getElem? hx
        have htk := FNode.wts_take z3 k x hx
        have htw2 := FNode.wts_le z3 (k + 1)
        have hxl := clN_len x
        have hcl2 := clL_len (z3.take k)
        rw [List.length_take] at hcl2
        have HX := Lib.hid (clL_take z3 k x hx)
        have HV := Lib.hid (H3.out x hxm)
        have hal : (hd ++ clL (z3.take k)).length = hd.length + (clL (z3.take k)).length := List.length_append
        clear hx hxm
        have hbx : n + (hd ++ clL (z3.take k)).length + x.wt ≤ 4000000 := by omega
        obtain ⟨y0, y1, y2, y3⟩ := x
        rw [FNode.c_eq] at hcc
        obtain ⟨u0, e0, q0⟩ := hcc 0 _ rfl
        obtain rfl := q0.val
        have c_0 : wr.cell? ⟨bc, offc + k * 4, none⟩ = some (.int .i64 y0) := (be2.cell (p := ⟨bc, _, none⟩) (by show bc < base; omega)).trans (by simpa using e0)
        obtain ⟨u1, e1, q1⟩ := hcc 1 _ rfl
        obtain rfl := q1.val
        have c_1 : wr.cell? ⟨bc, offc + k * 4 + 1, none⟩ = some (.int .i64 y1) := (be2.cell (p := ⟨bc, _, none⟩) (by show bc < base; omega)).trans (by simpa using e1)
        obtain ⟨u2, e2, q2⟩ := hcc 2 _ rfl
        obtain rfl := q2.val
        have c_2 : wr.cell? ⟨bc, offc + k * 4 + 2, none⟩ = some (.string y2) := (be2.cell (p := ⟨bc, _, none⟩) (by show bc < base; omega)).trans (by simpa using e2)
        obtain ⟨u3, e3, q3⟩ := hcc 3 _ rfl
        obtain ⟨D, d, rfl⟩ := q3.form
        have c_3 : wr.cell? ⟨bc, offc + k * 4 + 3, none⟩ = some (.slice D y3.length d) := (be2.cell (p := ⟨bc, _, none⟩) (by show bc < base; omega)).trans (by simpa using e3)
        have RY := Lib.hid (show RdVs wr B (FNode.c ⟨y0, y1, y2, y3⟩) [.int .i64 y0, .int .i64 y1, .string y2, .slice D y3.length d] from by
          rw [FNode.c_eq]
          exact RdVs.cons (by unfold RdC; rfl) (RdVs.cons (by unfold RdC; rfl) (RdVs.cons (by unfold RdC; rfl) (RdVs.cons (q3.on be2 hB (Nat.le_refl _)) (RdVs.nil _ _)))))
        clear hcc e0 e1 e2 e3 q0 q1 q2 q3
        generalize hac : hd ++ clL (z3.take k) = ac at *
        have HAC := Lib.hid hac
        clear hac
        have VV2 := Lib.hid V2
        have BE2 := Lib.hid be2
        have CALL := Lib.hid (HV.out [.int .i64 y0, .int .i64 y1, .string y2, .slice D y3.length d] wr B base A2 c2 (n + ac.length) (vs ++ us2) hB (by omega) RY.out V2.own hbx)
        generalize hnc : clN ⟨y0, y1, y2, y3⟩ = nc at *
        have HNC := Lib.hid hnc
        clear V2 hal hnc be2 b2
        go_wp2_with (go_at_call 24; refine CALL.out.mono ?_; rintro e w2 ⟨A3', c3', us3, rfl, R3', V3⟩)
        go_roundw
        case rel =>
          have e : hd ++ clL (z3.take (k + 1)) = ac ++ nc := by rw [HX.out, ← List.append_assoc, HAC.out]
          have e2 : FNode.flat (ac ++ nc) = FNode.flat ac ++ FNode.flat nc := List.flatMap_append
          have e3 : n + ac.length + nc.length = n + (ac ++ nc).length := by rw [List.length_append]; omega
          rw [e3] at V3
          refine ⟨k + 1, A3', c3', us2 ++ us3, by omega, by go_num, by rw [e, ← e3], ?_, ?_⟩
          · rw [e, e2]
            refine HRD.out.app ⟨R3'.1, fun j x u hx hu => RdC.keep (fun p hp => (BE2.out.cell (p := p) (by omega)).symm) x u (R3'.2 j x u hx hu)⟩
          · rw [e, ← List.append_assoc]
            exact VV2.out.next V3
        case measure => simp [intOf]; omega
      · obtain rfl : k = z3.length := by omega
        clear hlt
        rw [List.take_length] at V2 HRD
        go_wp2_with fail
        go_ret
        rw [HCL.out, List.take_length]
        exact ⟨A2, c2, us2, rfl, HRD.out, VW.out.next V2⟩
mutual
theorem clS_any : ∀ x : FNode, ClS x
  | .mk a0 a1 a2 a3 => clS_of a0 a1 a2 a3 (clS_all a3)
theorem clS_all : ∀ (l : List FNode) (x : FNode), x ∈ l → ClS x
  | [], x, hx => by cases hx
  | y :: r, x, hx => by
    rcases List.mem_cons.1 hx with e | hx
    · rw [e]
      exact clS_any y
    · exact clS_all r x hx
end
set_option maxHeartbeats 4000000 in
theorem Clos_spec (x : FNode) (us : List Value) (w : World) (hw : x.wt ≤ 1048576) {B : Nat} (hB0 : B ≤ w.heap.size) (hr : RdVs w B x.c us) :
    Calls Try.prog 15 #[.agg us.toArray] w fun e w' => ∃ A c, e = .returned (.slice A (clN x).length c) ∧ OwnI w' w.heap.size w'.heap.size [.s 38 4 (clN x).length (FNode.flat (clN x))] [.slice A (clN x).length c] ∧ Below w.heap.size w w' := by
  obtain ⟨hl, hm, _⟩ := clQ_wt x hw
  have CL := Lib.hid (clS_any x)
  have HE := Lib.hid (show ∀ y, y ∈ clN x → CpNode 25 y from fun y hy => cpSpec_any y (by have := hm y hy; omega))
  clear hm
  obtain ⟨z0, z1, z2, z3⟩ := x
  generalize hq : clN (FNode.mk z0 z1 z2 z3) = l at *
  have HQ := Lib.hid hq
  have hR := hr
  rw [FNode.c_eq] at hr
  obtain ⟨us0, rfl, hr_0⟩ := hr.unv
  obtain ⟨us1, rfl, hr_1⟩ := hr_0.unv
  obtain ⟨us2, rfl, hr_2⟩ := hr_1.unv
  obtain ⟨A3, c3, us3, rfl, r3, hr_3⟩ := hr_2.uns
  obtain rfl := hr_3.un0
  have RX := Lib.hid hR
  clear hr hR r3 hr_0 hr_1 hr_2 hr_3 hq
  go_enter Try.func15, Try.ntmps15
  go_wp2_with fail
  have l0 : Below w.heap.size w ((w.alloc (.cells #[.int .i64 z0, .int .i64 z1, .string z2, .slice A3 z3.length c3] 38)).alloc (.cells #[] 38)) := ((Below.refl _ _).alloc (Nat.le_refl _) _).alloc (by simp) _
  have o0 := own_emptyG (w.alloc (.cells #[.int .i64 z0, .int .i64 z1, .string z2, .slice A3 z3.length c3] 38)) (w.heap.size + 1) 38 4 (by simp)
  generalize (w.alloc (.cells #[.int .i64 z0, .int .i64 z1, .string z2, .slice A3 z3.length c3] 38)).alloc (.cells #[] 38) = X0 at *
  refine (CL.out [.int .i64 z0, .int .i64 z1, .string z2, .slice A3 z3.length c3] X0 w.heap.size w.heap.size (some ⟨w.heap.size + 1, 0, none⟩) 0 0 [] (Nat.le_refl _) l0.size (RX.out.on l0 hB0 hB0) (ownsRow_le o0 (by omega)) (by omega)).mono ?_
  rw [HQ.out, Nat.zero_add]
  rintro e W2 ⟨A, c, us', rfl, hrd, V⟩
  have hlo : Below w.heap.size X0 W2 := V.lo (fun g hg => by have e9 : w.heap.size + 1 = g := Option.some.inj hg; omega) l0.size
  have HB2 := Lib.hid (l0.trans hlo)
  have HC := Lib.hid (rd_shared (us := us') (n := l.length) (e := 38) (k := 4) (u := .slice A l.length c) (xs := FNode.flat l) (by simpa using V.own) ⟨hrd.1, fun j x u hx hu => RdC.more (Nat.le_trans l0.size hlo.size) x u (RdC.keep (fun p hp => hlo.cell (p := p) hp) x u (hrd.2 j x u hx hu))⟩)
  have hw2 := HB2.out.size
  have hn : l.length ≤ 9223372036854775807 := by omega
  clear V hlo hrd o0 l0 CL RX
  go_wp2_with fail
  go_loopw [4, 5] (fun v i wr => ∃ (k : Nat) (A' : Option Addr) (c' : Nat), k ≤ l.length ∧ i = .int .i64 k ∧ v = .slice A' k c' ∧ OwnI wr W2.heap.size wr.heap.size [.s 38 4 k (FNode.flat (l.take k))] [.slice A' k c'] ∧ Below W2.heap.size W2 wr) (fun _ i _ => l.length - (intOf i).toNat)
  case atStart =>
    refine ⟨0, _, 0, Nat.zero_le _, rfl, rfl, ?_, (Below.refl _ _).alloc (Nat.le_refl _) _⟩
    exact OwnI.mk (lo' := W2.heap.size) (hi' := W2.heap.size) (own_empty W2 _ 4) (OwnI.nil _ _ _) (fun g hg => by have e9 : W2.heap.size = g := Option.some.inj hg; simp; omega) (Nat.le_refl _) (by simp)
  case round =>
    obtain ⟨k, A', c', hk, rfl, rfl, hown, hb⟩ := hrel
    have HOWN := Lib.hid hown
    have hbs := hb.size
    clear hown
    by_cases hlt : k < l.length
    · obtain ⟨x, hx⟩ : ∃ x, l[k]? = some x := ⟨_, List.getElem?_eq_getElem hlt⟩
      obtain ⟨bc, offc, rfl, hblc, hcc⟩ := RdC.at_ FNode.len HC.out hx
      have HX := Lib.hid hx
      have HP := Lib.hid (HE.out x (List.mem_of_getElem? hx))
      clear hx
      have hlt2 : (k : Int) < (l.length : Int) := by omega
      obtain ⟨y0, y1, y2, y3⟩ := x
      rw [FNode.c_eq] at hcc
      obtain ⟨u0, e0, q0⟩ := hcc 0 _ rfl
      obtain rfl := q0.val
      obtain ⟨u1, e1, q1⟩ := hcc 1 _ rfl
      obtain rfl := q1.val
      obtain ⟨u2, e2, q2⟩ := hcc 2 _ rfl
      obtain rfl := q2.val
      obtain ⟨u3, e3, q3⟩ := hcc 3 _ rfl
      obtain ⟨D, d, rfl⟩ := q3.form
      have Q3 := Lib.hid q3
      have k0 : wr.cell? ⟨bc, offc + k * 4, none⟩ = some (.int .i64 y0) := (hb.cell (p := ⟨bc, _, none⟩) hblc).trans (by simpa using e0)
      have k1 : wr.cell? ⟨bc, offc + k * 4 + 1, none⟩ = some (.int .i64 y1) := (hb.cell (p := ⟨bc, _, none⟩) hblc).trans (by simpa using e1)
      have k2 : wr.cell? ⟨bc, offc + k * 4 + 2, none⟩ = some (.string y2) := (hb.cell (p := ⟨bc, _, none⟩) hblc).trans (by simpa using e2)
      have k3 : wr.cell? ⟨bc, offc + k * 4 + 3, none⟩ = some (.slice D y3.length d) := (hb.cell (p := ⟨bc, _, none⟩) hblc).trans (by simpa using e3)
      clear hcc e0 e1 e2 e3 q0 q1 q2 q3
      go_wp2_with fail
      refine (HP.out [.int .i64 y0, .int .i64 y1, .string y2, .slice D y3.length d] _ W2.heap.size (by omega) (by rw [FNode.c_eq]; exact RdVs.cons (by unfold RdC; rfl) (RdVs.cons (by unfold RdC; rfl) (RdVs.cons (by unfold RdC; rfl) (RdVs.cons (Q3.out.below hb (Nat.le_refl _)) (RdVs.nil _ _)))))).mono ?_
      rw [FNode.c_eq]
      rintro e w2 ⟨us2, rfl, own2, hb2⟩
      have hv := own2.vs
      obtain ⟨us2_0, rfl, hv_0⟩ := hv.unv
      obtain ⟨us2_1, rfl, hv_1⟩ := hv_0.unv
      obtain ⟨us2_2, rfl, hv_2⟩ := hv_1.unv
      obtain ⟨D3, d3, us2_3, rfl, _, hv_3⟩ := hv_2.uns
      obtain rfl := hv_3.un0
      clear hv hv_0 hv_1 hv_2 hv_3
      have hN : FNode.c ⟨y0, y1, y2, y3⟩ = _ := FNode.c_eq y0 y1 y2 y3
      rw [← hN] at own2
      have hs2 : wr.heap.size ≤ w2.heap.size := hb2.size
      have hb3 := hb.trans (hb2.mono (by omega))
      obtain ⟨us, G, ho, hol, hG, hGb, hGv⟩ := (HOWN.out.below hb2 (Nat.le_refl _)).row
      obtain ⟨G2, g1, g2, g3⟩ := own2
      have HO := Lib.hid (World.ownsRow.alloc ho (.cells #[.int .i64 y0, .int .i64 y1, .string y2, .slice D3 y3.length d3] 38))
      have HN := Lib.hid (rd_new w2 38 4 [.int .i64 y0, .int .i64 y1, .string y2, .slice D3 y3.length d3] rfl)
      have H1 := Lib.hid (node_onecell _ g1)
      have hbw : W2.heap.size ≤ w2.heap.size := by omega
      have HG1 := Lib.hid (OwnL.keep _ _ _ hol (w' := w2.alloc (.cells #[.int .i64 y0, .int .i64 y1, .string y2, .slice D3 y3.length d3] 38)) fun g hg => Below.heap_alloc w2 _ g (OwnL.lt _ _ _ hol g hg))
      have HG2 := Lib.hid (OwnL.keep _ _ _ g1 (w' := w2.alloc (.cells #[.int .i64 y0, .int .i64 y1, .string y2, .slice D3 y3.length d3] 38)) fun g hg => Below.heap_alloc w2 _ g (OwnL.lt _ _ _ g1 g hg))
      have HV := Lib.hid hGv
      have HB := Lib.hid hGb
      have HB3 := Lib.hid g3
      have HD1 := Lib.hid hG
      have HD2 := Lib.hid g2
      clear ho hol g1 hGv hGb g3 hG g2 hb2 hN k0 k1 k2 k3 HOWN
      go_wp2_with (at_builtin; go_must (refine wpList_append_rd _ rfl _ _ _ rfl W2.heap.size _ _ _ 56 Try.underlying26 infoNodeC rfl (by omega) (.slice A' k c') k us rfl HO.out (w2.heap.size + 1) _ 1 1 [.int .i64 y0, .int .i64 y1, .string y2, .slice D3 y3.length d3] rfl HN.out H1.out (by unfold maxLen; omega) (by omega) (by simp; omega) ?_); intro v1 w1 hown1 hg1 hat1)
      obtain ⟨A4, c4, rfl⟩ := own_form hown1
      go_roundw
      case rel =>
        have hp := OwnI.pushed hown1 hg1 hat1 HG1.out HG2.out HD1.out HD2.out (fun b hb1 hb2 => by have := HB.out b hb1; have := HB3.out b hb2; omega) (fun b hb1 => (HB.out b hb1).1) (fun b hb1 => by have := HB3.out b hb1; omega) (fun g hg => ⟨(HV.out g hg).1, fun h2 => by have := (HV.out g hg).2; have := HB3.out g h2; omega⟩)
        refine ⟨k + 1, A4, c4, by omega, by go_num, rfl, ?_, Below.grownI (hb3.alloc hbw _) hg1 (fun g hg => (HV.out g hg).2.1) (by simp; omega)⟩
        rw [FNode.flat_take l k _ HX.out]
        exact hp
      case measure => simp [intOf]; omega
    · obtain rfl : k = l.length := by omega
      clear hlt
      have hlt2 : ¬ (l.length : Int) < (l.length : Int) := by omega
      go_wp2_with fail
      go_ret
      have ho := HOWN.out
      rw [List.take_length] at ho
      exact ⟨_, _, rfl, ho.wide hw2 (Nat.le_refl _), HB2.out.trans (hb.mono hw2)⟩
theorem Clos_impl (x : FNode) (us : List Value) (w : World) (hw : x.wt ≤ 1048576) {B : Nat} (hB0 : B ≤ w.heap.size) (hr : RdVs w B x.c us) :
    Calls Try.prog 17 #[.agg us.toArray] w fun e w' => ∃ A c, e = .returned (.slice A (clN x).length c) ∧ OwnI w' w.heap.size w'.heap.size [.s 38 4 (clN x).length (FNode.flat (clN x))] [.slice A (clN x).length c] ∧ Below w.heap.size w w' :=
  clI_any x hw us w B hB0 hr
end Go.Proofs.Ytbmgjndpnbdgeaa
