/-
  l18Vars, VarsOf of the reference. Conditions: none.
-/
import Derived.Test.YtbmgjndpnbdgeaaVarP
import Derived.Deep.CutRange
import Derived.Deep.CutBlock
import Derived.Deep.QuietTactic
import Derived.BigQuiet
namespace Go.Proofs.Ytbmgjndpnbdgeaa
open Go.ChangeShapes Go.WideShapes Go.ChangeAt Go.RowKit Go.Deep Go.Joins
open Go.ChangeMaps (open_string shut_string)
set_option linter.unusedVariables false
set_option linter.unusedSimpArgs false
set_option maxRecDepth 100000
/-- The row lies where it lay, or in a block that is new since w. -/
def RowTo (r r' : Option Nat) (w : World) : Prop := r' = r ∨ ∃ g, r' = some g ∧ w.heap.size ≤ g
theorem grown_next {a b c : World} {r r' : Option Nat} (h : a.grownBy b r) (t : RowTo r r' a) (k : b.grownBy c r') : a.grownBy c r := by
  refine ⟨k.os.trans h.os, k.tape.trans h.tape, k.output.trans h.output, Nat.le_trans h.size k.size, fun i hi hn => ?_⟩
  have hs := h.size
  refine (k.block i (by omega) ?_).trans (h.block i hi hn)
  rcases t with rfl | ⟨g, rfl, hg⟩
  · exact hn
  · exact fun e => by have := Option.some.inj e; omega
theorem RowTo.next {a b : World} {r r' r'' : Option Nat} (h : RowTo r r' a) (k : RowTo r' r'' b) (hs : a.heap.size ≤ b.heap.size) : RowTo r r'' a := by
  rcases k with rfl | ⟨g, rfl, hg⟩
  · exact h
  · exact .inr ⟨g, rfl, by omega⟩
/-- A row of strings of one's own that grows: at world v, since world w. -/
structure VsS (w v : World) (base : Nat) (r0 : Option Nat) (A : Option Addr) (c : Nat) (l : List FStr) : Prop where
  own : v.ownsRow base 9 1 (.slice A l.length c) l.length (sVals l)
  fr : w.grownBy v r0
  rt : RowTo r0 (Value.slice A l.length c).ownBlock w
section
variable {w v v' : World} {base : Nat} {r0 : Option Nat} {A : Option Addr} {c : Nat} {l : List FStr}
theorem VsS.start (h : w.ownsRow base 9 1 (.slice A l.length c) l.length (sVals l)) : VsS w w base (Value.slice A l.length c).ownBlock A c l := ⟨h, grown_refl _ _, .inl rfl⟩
theorem VsS.below (h : VsS w v base r0 A c l) (hb : Below v.heap.size v v') : VsS w v' base r0 A c l :=
  ⟨own_below h.own hb (Nat.le_refl _), grown_next h.fr h.rt (grown_below hb), h.rt⟩
theorem VsS.next {A' : Option Addr} {c' : Nat} {l' : List FStr} (h : VsS w v base r0 A c l) (k : VsS v v' base (Value.slice A l.length c).ownBlock A' c' l') : VsS w v' base r0 A' c' l' :=
  ⟨k.own, grown_next h.fr h.rt k.fr, h.rt.next k.rt h.fr.size⟩
theorem VsS.app (h : VsS w v base r0 A c l) (s : ByteArray) {v2 : World} {u2 : Value} (ho : v2.ownsRow base 9 1 u2 (l.length + 1) (sVals l ++ [.string s])) (hg : v.grownBy v2 (Value.slice A l.length c).ownBlock) (ha : u2.ownBlock = (Value.slice A l.length c).ownBlock ∨ u2.ownBlock = some v.heap.size) :
    ∃ A' c', u2 = .slice A' (l ++ [(⟨s⟩ : FStr)]).length c' ∧ VsS w v2 base r0 A' c' (l ++ [⟨s⟩]) := by
  obtain ⟨A', c', rfl⟩ := own_form ho
  have e : (l ++ [(⟨s⟩ : FStr)]).length = l.length + 1 := by simp
  refine ⟨A', c', by rw [e], by rw [e, sVals_snoc]; exact ho, grown_next h.fr h.rt hg, ?_⟩
  rw [e]
  refine h.rt.next (b := v) ?_ h.fr.size
  rcases ha with ha | ha
  · exact .inl ha
  · exact .inr ⟨_, ha, Nat.le_refl _⟩
theorem VsS.blk (h : VsS w v base r0 A c l) {g : Nat} {t : TypeId} {cs : Array Value} (hb : Blk w g t cs) (hr : some g ≠ r0) : Blk v g t cs := (h.fr.block g hb.lt hr).trans hb
theorem VsS.lo (h : VsS w v base r0 A c l) (hr : ∀ g, r0 = some g → base ≤ g) (hB : base ≤ w.heap.size) : Below base w v :=
  ⟨h.fr.os, h.fr.tape, h.fr.output, h.fr.size, fun i hi => h.fr.block i (by omega) (fun e => by have := hr i e.symm; omega)⟩
end
theorem isV_last {k : Int} (h1 : ¬ k = 4) (h2 : ¬ k = 24) (h3 : ¬ k = 25) (h4 : ¬ k = 17) : (k == 40) = isV k := by
  unfold isV
  rw [beq_false_of_ne h1, beq_false_of_ne h2, beq_false_of_ne h3, beq_false_of_ne h4]
  rfl
def VisS (x : FNode) : Prop := ∀ (us : List Value) (w : World) (B base : Nat) (l : List FStr) (A : Option Addr) (c : Nat), B ≤ base → base ≤ w.heap.size → RdVs w B x.c us → w.ownsRow base 9 1 (.slice A l.length c) l.length (sVals l) → l.length + FStr.wts l + 1 + x.wt ≤ 1000000000 →
  Calls Try.prog 21 #[.agg us.toArray, .slice A l.length c] w fun e w' => ∃ A' c', e = .returned (.slice A' (visN x l).length c') ∧ VsS w w' base (Value.slice A l.length c).ownBlock A' c' (visN x l)
set_option maxHeartbeats 400000 in
theorem visS_of (z0 z1 : Int) (z2 : ByteArray) (z3 : List FNode) (h3 : ∀ x, x ∈ z3 → VisS x) : VisS ⟨z0, z1, z2, z3⟩ := by
  intro us w B base l A c hB hbase hr hown hbd
  rw [FNode.c_eq] at hr
  rw [FNode.wt_eq] at hbd
  obtain ⟨us0, rfl, hr_0⟩ := hr.unv
  obtain ⟨us1, rfl, hr_1⟩ := hr_0.unv
  obtain ⟨us2, rfl, hr_2⟩ := hr_1.unv
  obtain ⟨A3, c3, us3, rfl, r3, hr_3⟩ := hr_2.uns
  obtain rfl := hr_3.un0
  have R3 := Lib.hid r3
  have H3 := Lib.hid h3
  clear r3 h3 hr hr_0 hr_1 hr_2 hr_3
  have hrl : ∀ g, (Value.slice A l.length c).ownBlock = some g → base ≤ g ∧ g < w.heap.size := fun g hg => own_lt hown g hg
  have HRL := Lib.hid hrl
  clear hrl
  have V0 := Lib.hid ((VsS.start hown).below ((Below.refl _ _).alloc (Nat.le_refl _) (.cells #[.int .i64 z0, .int .i64 z1, .string z2, .slice A3 z3.length c3] 38)))
  have b0 : Blk (w.alloc (.cells #[.int .i64 z0, .int .i64 z1, .string z2, .slice A3 z3.length c3] 38)) w.heap.size 38 #[.int .i64 z0, .int .i64 z1, .string z2, .slice A3 z3.length c3] := Blk.new _ _ _
  have hs0 : (w.alloc (.cells #[.int .i64 z0, .int .i64 z1, .string z2, .slice A3 z3.length c3] 38)).heap.size = w.heap.size + 1 := by simp
  clear hown
  go_enter Try.func21, Try.ntmps21
  go_upto_block 0 with fail
  generalize w.alloc (.cells #[.int .i64 z0, .int .i64 z1, .string z2, .slice A3 z3.length c3] 38) = w0 at *
  have k0 : w0.cell? ⟨w.heap.size, 0, none⟩ = some (.int .i64 z0) := b0.cell 0
  have k1 : w0.cell? ⟨w.heap.size, 1, none⟩ = some (.int .i64 z1) := b0.cell 1
  have k2 : w0.cell? ⟨w.heap.size, 2, none⟩ = some (.string z2) := b0.cell 2
  have k3 : w0.cell? ⟨w.heap.size, 3, none⟩ = some (.slice A3 z3.length c3) := b0.cell 3
  have U0 := Lib.hid (VsS.start V0.out.own)
  go_cut [1] from 5 to 41 (fun v wx => ∃ A1 c1, v = .slice A1 (addV z0 z2 l).length c1 ∧ VsS w0 wx base (Value.slice A l.length c).ownBlock A1 c1 (addV z0 z2 l))
  case first =>
    go_upto_if 10 with fail
    go_cut [10] from 10 to 14 (fun v wx => v = .bool (isV z0) ∧ wx = w0)
    case first =>
      go_wp2_with fail
      all_goals
        go_meet
        exact ⟨by first | exact congrArg Value.bool (isV_last (by assumption) (by assumption) (by assumption) (by assumption)) | (simp [isV, *]; done) | (simp_all [isV]; done), rfl⟩
    case rest =>
      obtain ⟨rfl, rfl⟩ := hcut
      generalize hv : isV z0 = bv at *
      have HV := Lib.hid hv
      clear hv
      cases bv with
      | false =>
        have HAD := Lib.hid (show addV z0 z2 l = l from by unfold addV; rw [HV.out]; rfl)
        go_wp2_with fail
        go_meet
        rw [HAD.out]
        exact ⟨A, c, rfl, U0.out⟩
      | true =>
        have HAD := Lib.hid (show addV z0 z2 l = (if (!(z2.toList == thisL || inV l z2)) = true then l ++ [⟨z2⟩] else l) from by unfold addV; rw [HV.out]; cases (z2.toList == thisL) <;> cases inV l z2 <;> rfl)
        have hz2 : z2.size ≤ 1000000000 := by omega
        have hll : l.length ≤ 1000000000 := by omega
        have hsz0 := (V0.out.fr).size
        go_upto_region 8 with fail
        generalize hth : (z2.toList == [116, 104, 105, 115]) = th at *
        clear hth
        have HS0 := Lib.hid hs0
        clear hs0 hsz0
        go_wp2_with fail
        go_loopw [5, 6] (fun tv iv wr => ∃ k m : Nat, k ≤ l.length ∧ iv = .int .i64 k ∧ tv = .bool (th || inV (l.take k) z2) ∧ wr = wc.drewN m) (fun _ iv _ => l.length - (intOf iv).toNat)
        case atStart => exact ⟨0, 0, Nat.zero_le _, rfl, by rw [List.take_zero]; show Value.bool th = Value.bool (th || false); rw [Bool.or_false], rfl⟩
        case round =>
          obtain ⟨k, m, hk, rfl, rfl, hwr⟩ := hrel
          have V1 : Hid (VsS wc wr base (Value.slice A l.length c).ownBlock A c l) := Lib.hid (by rw [hwr]; exact U0.out.below (v' := wc.drewN m) (below_drewN (Below.refl _ _) m))
          have b1 : Blk wr w.heap.size 38 #[.int .i64 z0, .int .i64 z1, .string z2, .slice A3 z3.length c3] := by rw [hwr]; exact b0
          have HW := Lib.hid hwr
          clear hwr k0 k1 k2 k3
          have k0 : wr.cell? ⟨w.heap.size, 0, none⟩ = some (.int .i64 z0) := b1.cell 0
          have k1 : wr.cell? ⟨w.heap.size, 1, none⟩ = some (.int .i64 z1) := b1.cell 1
          have k2 : wr.cell? ⟨w.heap.size, 2, none⟩ = some (.string z2) := b1.cell 2
          have k3 : wr.cell? ⟨w.heap.size, 3, none⟩ = some (.slice A3 z3.length c3) := b1.cell 3
          have hdr : ∀ m', ∃ m2, wr.drewN m' = wc.drewN m2 := fun m' => ⟨m + m', by rw [HW.out]; simp [World.drewN, Nat.add_assoc]⟩
          have hwl := b1.lt
          by_cases hlt : k < l.length
          · obtain ⟨y, hy⟩ : ∃ y, l[k]? = some y := ⟨_, List.getElem?_eq_getElem hlt⟩
            obtain ⟨g, o, rfl, cy⟩ := sv_cell V1.out.own hy
            have HT := Lib.hid (inV_take l z2 k y hy)
            have hlt2 : (k : Int) < (l.length : Int) := by omega
            have hkm : k < maxLen := by unfold maxLen; omega
            clear hy
            generalize hb : (th || inV (l.take k) z2) = bb at *
            have HBB := Lib.hid hb
            clear hb
            cases bb with
            | true =>
              go_upto_region 11 with fail
              go_quiet (fail)
              go_wp2_with fail
              go_roundw
              case rel =>
                obtain ⟨m2, hm2⟩ := hdr nq
                exact ⟨k + 1, m2, by omega, by go_num, by rw [HT.out, ← Bool.or_assoc, HBB.out]; rfl, hm2⟩
              case measure => simp [intOf]; omega
            | false =>
              go_upto_region 11 with fail
              go_quiet (fail)
              go_wp2_with fail
              go_roundw
              case rel =>
                obtain ⟨m2, hm2⟩ := hdr nq
                exact ⟨k + 1, m2, by omega, by go_num, by rw [HT.out, ← Bool.or_assoc, HBB.out]; rfl, hm2⟩
              case measure => simp [intOf]; omega
          · obtain rfl : k = l.length := by omega
            clear hlt
            rw [List.take_length]
            generalize hb : (th || inV l z2) = bb at *
            cases bb with
            | true =>
              go_wp2_with fail
              go_meet
              rw [HAD.out]
              exact ⟨A, c, rfl, V1.out⟩
            | false =>
              have tok1 : True := trivial
              go_wp2_with (at_builtin; have _t := tok1; go_must (refine wpList_append_rd _ rfl (.tmp 37) (.tmp 40) _ rfl base _ _ _ 16 Try.underlying24 sInfoV rfl (by omega) (.slice A l.length c) l.length _ rfl (V1.out.own.alloc _) (wr.heap.size + 1) _ 1 1 _ rfl (srd_oneV wr (.string z2) 9) (by intro u hu; simp only [List.mem_cons, List.not_mem_nil, or_false] at hu; rcases hu with rfl; rfl) (by unfold maxLen; omega) (by omega) (by have := hwl; simp; omega) ?_); intro v2 w2 hown2 hg2 hat2; obtain ⟨A2, c2, rfl, V2⟩ := (V1.out.below ((Below.refl _ _).alloc (Nat.le_refl _) _)).app z2 hown2 hg2 hat2; clear tok1 hown2 hg2 hat2)
              go_meet
              rw [HAD.out]
              exact ⟨A2, c2, by simp, V2⟩
  case rest =>
    have VW := V0
    have B0 := Lib.hid b0
    have UB : ∀ (v : World) (A' : Option Addr) (c' : Nat) (l' : List FStr), VsS w0 v base (Value.slice A l.length c).ownBlock A' c' l' → Blk v w.heap.size 38 #[.int .i64 z0, .int .i64 z1, .string z2, .slice A3 z3.length c3] ∧ Below base w v := fun v A' c' l' U => ⟨U.blk b0 (fun e => by have := (HRL.out _ e.symm).2; omega), (VW.out.next U).lo (fun g hg => (HRL.out g hg).1) hbase⟩
    have UBH := Lib.hid UB
    have HS0 := Lib.hid hs0
    clear UB V0 U0 b0 hs0 k0 k1 k2 k3
    obtain ⟨A1, c1, rfl, V1⟩ := hcut
    have hwt := addV_wt z0 z2 l
    generalize hl1 : addV z0 z2 l = l1 at *
    have HL1 := Lib.hid hl1
    clear hl1
    obtain ⟨b1, be1⟩ := UBH.out _ _ _ _ V1
    have hbd2 : l1.length + FStr.wts l1 + (z3.length + FNode.wts z3) ≤ 1000000000 := by omega
    have hzl : z3.length ≤ 1000000000 := by omega
    have k3 : wc.cell? ⟨w.heap.size, 3, none⟩ = some (.slice A3 z3.length c3) := b1.cell 3
    clear hbd hwt b1 be1
    go_wp2_with fail
    go_loopw [1, 7] (fun lv iv wr => ∃ (k : Nat) (A' : Option Addr) (c' : Nat), k ≤ z3.length ∧ iv = .int .i64 k ∧ lv = .slice A' (visL (z0 == 23) (z3.take k) l1).length c' ∧ VsS w0 wr base (Value.slice A l.length c).ownBlock A' c' (visL (z0 == 23) (z3.take k) l1)) (fun _ iv _ => z3.length - (intOf iv).toNat)
    case atStart => exact ⟨0, A1, c1, Nat.zero_le _, rfl, by rw [List.take_zero, visL], by rw [List.take_zero, visL]; exact V1⟩
    case round =>
      obtain ⟨k, A2, c2, hk, rfl, rfl, V2⟩ := hrel
      obtain ⟨b2, be2⟩ := UBH.out _ _ _ _ V2
      have hwl := b2.lt
      have hwl2 := be2.size
      clear k3
      have k0 : wr.cell? ⟨w.heap.size, 0, none⟩ = some (.int .i64 z0) := b2.cell 0
      have k3 : wr.cell? ⟨w.heap.size, 3, none⟩ = some (.slice A3 z3.length c3) := b2.cell 3
      have hkm : k < maxLen := by unfold maxLen; omega
      have haw := visL_wt (z0 == 23) (z3.take k) l1
      have htw := FNode.wts_le z3 k
      by_cases hlt : k < z3.length
      · have hlt2 : (k : Int) < (z3.length : Int) := by omega
        obtain ⟨x, hx⟩ : ∃ x, z3[k]? = some x := ⟨_, List.getElem?_eq_getElem hlt⟩
        obtain ⟨bc, offc, rfl, hblc, hcc⟩ := RdC.at_ FNode.len R3.out hx
        have hxm := List.mem_of_getElem? hx
        have htk := FNode.wts_take z3 k x hx
        have htw2 := FNode.wts_le z3 (k + 1)
        have HX := Lib.hid (visL_take (z0 == 23) z3 l1 k x hx)
        have HV := Lib.hid (H3.out x hxm)
        clear hx hxm
        have hbx : (visL (z0 == 23) (z3.take k) l1).length + FStr.wts (visL (z0 == 23) (z3.take k) l1) + 1 + x.wt ≤ 1000000000 := by
          rw [List.length_take] at haw
          omega
        obtain ⟨y0, y1, y2, y3⟩ := x
        rw [FNode.c_eq] at hcc
        obtain ⟨u0, e0, q0⟩ := hcc 0 _ rfl
        obtain rfl := q0.val
        have c_0 : wr.cell? ⟨bc, offc + k * 4, none⟩ = some (.int .i64 y0) := (be2.cell (p := ⟨bc, _, none⟩) (by show bc < base; omega)).trans (by simpa using e0)
        obtain ⟨u1, e1, q1⟩ := hcc 1 _ rfl
        obtain rfl := q1.val
        have c_1 : wr.cell? ⟨bc, offc + k * 4 + 1, none⟩ = some (.int .i64 y1) := (be2.cell (p := ⟨bc, _, none⟩) (by show bc < base; omega)).trans (by simpa using e1)
        obtain ⟨u2, e2, q2⟩ := hcc 2 _ rfl
        obtain rfl := q2.val
        have c_2 : wr.cell? ⟨bc, offc + k * 4 + 2, none⟩ = some (.string y2) := (be2.cell (p := ⟨bc, _, none⟩) (by show bc < base; omega)).trans (by simpa using e2)
        obtain ⟨u3, e3, q3⟩ := hcc 3 _ rfl
        obtain ⟨D, d, rfl⟩ := q3.form
        have c_3 : wr.cell? ⟨bc, offc + k * 4 + 3, none⟩ = some (.slice D y3.length d) := (be2.cell (p := ⟨bc, _, none⟩) (by show bc < base; omega)).trans (by simpa using e3)
        have RX := Lib.hid (show RdVs wr B (FNode.c ⟨y0, y1, y2, y3⟩) [.int .i64 y0, .int .i64 y1, .string y2, .slice D y3.length d] from by
          rw [FNode.c_eq]
          exact RdVs.cons (by unfold RdC; rfl) (RdVs.cons (by unfold RdC; rfl) (RdVs.cons (by unfold RdC; rfl) (RdVs.cons (q3.on be2 hB (Nat.le_refl _)) (RdVs.nil _ _)))))
        clear hcc e0 e1 e2 e3 q0 q1 q2 q3
        generalize hacc : visL (z0 == 23) (z3.take k) l1 = ac at *
        clear hacc
        have VV2 := Lib.hid V2
        have CALL := Lib.hid (HV.out [.int .i64 y0, .int .i64 y1, .string y2, .slice D y3.length d] wr B base ac A2 c2 hB (by omega) RX.out V2.own hbx)
        have hac1 : ac.length ≤ 1000000000 := by omega
        clear V2
        by_cases g1 : z0 = 23
        · have t1 : (z0 != 23) = false := by rw [g1]; rfl
          have t1' : (z0 == 23) = true := by rw [g1]; rfl
          by_cases g2 : y0 = 25
          · have t2 : (y0 == 25) = true := by rw [g2]; rfl
            have HA := Lib.hid (show visL (z0 == 23) (z3.take (k + 1)) l1 = visN ⟨y0, y1, y2, y3⟩ ac from by rw [HX.out]; exact if_pos (by show (!(z0 == 23) || y0 == 25) = true; rw [t1', t2]; rfl))
            clear g1 g2 t1'
            go_wp2_with (go_at_call 21; refine CALL.out.mono ?_; rintro e w2 ⟨A3', c3', rfl, V3⟩)
            go_roundw
            case rel => exact ⟨k + 1, A3', c3', by omega, by go_num, by rw [HA.out], by rw [HA.out]; exact VV2.out.next V3⟩
            case measure => simp [intOf]; omega
          · have t2 : (y0 == 25) = false := beq_false_of_ne g2
            have HA := Lib.hid (show visL (z0 == 23) (z3.take (k + 1)) l1 = ac from by rw [HX.out]; exact if_neg (by show ¬ (!(z0 == 23) || y0 == 25) = true; rw [t1', t2]; decide))
            clear g1 g2 t1'
            go_wp2_with fail
            go_roundw
            case rel => exact ⟨k + 1, A2, c2, by omega, by go_num, by rw [HA.out], by rw [HA.out]; exact VV2.out⟩
            case measure => simp [intOf]; omega
        · have t1 : (z0 != 23) = true := by simp [bne, g1]
          have t1' : (z0 == 23) = false := beq_false_of_ne g1
          have HA := Lib.hid (show visL (z0 == 23) (z3.take (k + 1)) l1 = visN ⟨y0, y1, y2, y3⟩ ac from by rw [HX.out]; exact if_pos (by show (!(z0 == 23) || y0 == 25) = true; rw [t1']; rfl))
          clear g1 t1'
          go_wp2_with (go_at_call 21; refine CALL.out.mono ?_; rintro e w2 ⟨A3', c3', rfl, V3⟩)
          go_roundw
          case rel => exact ⟨k + 1, A3', c3', by omega, by go_num, by rw [HA.out], by rw [HA.out]; exact VV2.out.next V3⟩
          case measure => simp [intOf]; omega
      · obtain rfl : k = z3.length := by omega
        clear hlt
        rw [List.take_length] at V2
        go_wp2_with fail
        go_ret
        have hfin : visN ⟨z0, z1, z2, z3⟩ l = visL (z0 == 23) z3 l1 := by rw [visN, HL1.out]
        rw [hfin, List.take_length]
        exact ⟨A2, c2, rfl, VW.out.next V2⟩
mutual
theorem visS_any : ∀ x : FNode, VisS x
  | .mk a0 a1 a2 a3 => visS_of a0 a1 a2 a3 (visS_all a3)
theorem visS_all : ∀ (l : List FNode) (x : FNode), x ∈ l → VisS x
  | [], x, hx => by cases hx
  | y :: r, x, hx => by
    rcases List.mem_cons.1 hx with e | hx
    · rw [e]
      exact visS_any y
    · exact visS_all r x hx
end
theorem visN_top (l : List FNode) : visN ⟨48, 0, ⟨#[]⟩, l⟩ [] = visQ l := by rw [visN]; rfl
theorem Vars_spec (l : List FNode) (A : Option Addr) (c : Nat) (w : World) (hw : l.length + FNode.wts l ≤ 1048576) {B : Nat} (hB0 : B ≤ w.heap.size) (hr : RdC w B (.s 38 4 l.length (FNode.flat l)) (.slice A l.length c)) :
    Calls Try.prog 6 #[.slice A l.length c] w fun e w' => ∃ A' c', e = .returned (.slice A' (visQ l).length c') ∧ OwnI w' w.heap.size w'.heap.size [.s 9 1 (visQ l).length (FStr.flat (visQ l))] [.slice A' (visQ l).length c'] ∧ Below w.heap.size w w' := by
  have hba := (Below.refl w.heap.size w).alloc (Nat.le_refl _) (.cells #[] 9)
  have RX := Lib.hid (show RdVs (w.alloc (.cells #[] 9)) B (FNode.c ⟨48, 0, ⟨#[]⟩, l⟩) [.int .i64 48, .int .i64 0, .string ⟨#[]⟩, .slice A l.length c] from by
    rw [FNode.c_eq]
    exact RdVs.cons (by unfold RdC; rfl) (RdVs.cons (by unfold RdC; rfl) (RdVs.cons (by unfold RdC; rfl) (RdVs.cons (hr.on hba hB0 (Nat.le_refl _)) (RdVs.nil _ _)))))
  have CALL := Lib.hid (visS_any ⟨48, 0, ⟨#[]⟩, l⟩ [.int .i64 48, .int .i64 0, .string ⟨#[]⟩, .slice A l.length c] _ B w.heap.size [] (some ⟨w.heap.size, 0, none⟩) 0 hB0 (by simp) RX.out (own_empty w _ 1) (by rw [FNode.wt_eq]; show 0 + 0 + 1 + (0 + (l.length + FNode.wts l)) ≤ _; omega))
  rw [visN_top] at CALL
  have HBA := Lib.hid hba
  clear hr hba
  go_enter Try.func6, Try.ntmps6
  go_wp2_with (go_at_call 21; refine CALL.out.mono ?_; rintro e w2 ⟨A', c', rfl, V⟩)
  go_ret
  have hlo := V.lo (fun g hg => by have e9 : w.heap.size = g := Option.some.inj hg; omega) (by simp)
  have hb := HBA.out.trans hlo
  exact ⟨A', c', rfl, own_sv V.own hb.size, hb⟩
end Go.Proofs.Ytbmgjndpnbdgeaa
