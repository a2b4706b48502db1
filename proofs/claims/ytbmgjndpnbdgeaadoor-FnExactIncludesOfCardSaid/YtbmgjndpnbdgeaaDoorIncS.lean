/-
  l23Includes, IncludesOf of the reference. Conditions: none.
-/
import Derived.Test.YtbmgjndpnbdgeaaDoorIncP
import Derived.Deep.CutRange
import Derived.Deep.CutBlock
import Derived.Deep.QuietTactic
import Derived.BigQuiet
namespace Go.Proofs.YtbmgjndpnbdgeaaDoor
open Go.ChangeShapes Go.WideShapes Go.ChangeAt Go.RowKit Go.Deep Go.Joins
open Go.ChangeMaps (open_string shut_string)
set_option linter.unusedVariables false
set_option linter.unusedSimpArgs false
set_option maxRecDepth 100000
/-- The row lies where it lay, or in a block that is new since w. -/
def RowTo (r r' : Option Nat) (w : World) : Prop := r' = r ∨ ∃ g, r' = some g ∧ w.heap.size ≤ g
theorem grown_next {a b c : World} {r r' : Option Nat} (h : a.grownBy b r) (t : RowTo r r' a) (k : b.grownBy c r') : a.grownBy c r := by
  refine ⟨k.os.trans h.os, k.tape.trans h.tape, k.output.trans h.output, Nat.le_trans h.size k.size, fun i hi hn => ?_⟩
  have hs := h.size
  refine (k.block i (by omega) ?_).trans (h.block i hi hn)
  rcases t with rfl | ⟨g, rfl, hg⟩
  · exact hn
  · exact fun e => by have := Option.some.inj e; omega
theorem RowTo.next {a b : World} {r r' r'' : Option Nat} (h : RowTo r r' a) (k : RowTo r' r'' b) (hs : a.heap.size ≤ b.heap.size) : RowTo r r'' a := by
  rcases k with rfl | ⟨g, rfl, hg⟩
  · exact h
  · exact .inr ⟨g, rfl, by omega⟩
/-- A row of strings of one's own that grows: at world v, since world w. -/
structure VsS (w v : World) (base : Nat) (r0 : Option Nat) (A : Option Addr) (c : Nat) (l : List FStr) : Prop where
  own : v.ownsRow base 9 1 (.slice A l.length c) l.length (sVals l)
  fr : w.grownBy v r0
  rt : RowTo r0 (Value.slice A l.length c).ownBlock w
section
variable {w v v' : World} {base : Nat} {r0 : Option Nat} {A : Option Addr} {c : Nat} {l : List FStr}
theorem VsS.start (h : w.ownsRow base 9 1 (.slice A l.length c) l.length (sVals l)) : VsS w w base (Value.slice A l.length c).ownBlock A c l := ⟨h, grown_refl _ _, .inl rfl⟩
theorem VsS.below (h : VsS w v base r0 A c l) (hb : Below v.heap.size v v') : VsS w v' base r0 A c l :=
  ⟨own_below h.own hb (Nat.le_refl _), grown_next h.fr h.rt (grown_below hb), h.rt⟩
theorem VsS.next {A' : Option Addr} {c' : Nat} {l' : List FStr} (h : VsS w v base r0 A c l) (k : VsS v v' base (Value.slice A l.length c).ownBlock A' c' l') : VsS w v' base r0 A' c' l' :=
  ⟨k.own, grown_next h.fr h.rt k.fr, h.rt.next k.rt h.fr.size⟩
theorem VsS.app (h : VsS w v base r0 A c l) (s : ByteArray) {v2 : World} {u2 : Value} (ho : v2.ownsRow base 9 1 u2 (l.length + 1) (sVals l ++ [.string s])) (hg : v.grownBy v2 (Value.slice A l.length c).ownBlock) (ha : u2.ownBlock = (Value.slice A l.length c).ownBlock ∨ u2.ownBlock = some v.heap.size) :
    ∃ A' c', u2 = .slice A' (l ++ [(⟨s⟩ : FStr)]).length c' ∧ VsS w v2 base r0 A' c' (l ++ [⟨s⟩]) := by
  obtain ⟨A', c', rfl⟩ := own_form ho
  have e : (l ++ [(⟨s⟩ : FStr)]).length = l.length + 1 := by simp
  refine ⟨A', c', by rw [e], by rw [e, sVals_snoc]; exact ho, grown_next h.fr h.rt hg, ?_⟩
  rw [e]
  refine h.rt.next (b := v) ?_ h.fr.size
  rcases ha with ha | ha
  · exact .inl ha
  · exact .inr ⟨_, ha, Nat.le_refl _⟩
theorem VsS.blk (h : VsS w v base r0 A c l) {g : Nat} {t : TypeId} {cs : Array Value} (hb : Blk w g t cs) (hr : some g ≠ r0) : Blk v g t cs := (h.fr.block g hb.lt hr).trans hb
theorem VsS.lo (h : VsS w v base r0 A c l) (hr : ∀ g, r0 = some g → base ≤ g) (hB : base ≤ w.heap.size) : Below base w v :=
  ⟨h.fr.os, h.fr.tape, h.fr.output, h.fr.size, fun i hi => h.fr.block i (by omega) (fun e => by have := hr i e.symm; omega)⟩
end
def IncS (x : FNode) : Prop := ∀ (us : List Value) (w : World) (B base : Nat) (l : List FStr) (A : Option Addr) (c : Nat), B ≤ base → base ≤ w.heap.size → RdVs w B x.c us → w.ownsRow base 9 1 (.slice A l.length c) l.length (sVals l) → x.wt ≤ 1048576 → l.length + FStr.wts l + 61 * (1 + x.wt) ≤ 1000000000 →
  Calls Tryd.prog 14 #[.agg us.toArray, .slice A l.length c] w fun e w' => ∃ A' c', e = .returned (.slice A' (incN x l).length c') ∧ VsS w w' base (Value.slice A l.length c).ownBlock A' c' (incN x l)
set_option maxHeartbeats 1000000 in
theorem incS_of (z0 z1 : Int) (z2 : ByteArray) (z3 : List FNode) (h3 : ∀ x, x ∈ z3 → IncS x) : IncS ⟨z0, z1, z2, z3⟩ := by
  intro us w B base l A c hB hbase hr hown hxw hbd
  rw [FNode.c_eq] at hr
  rw [FNode.wt_eq] at hbd hxw
  obtain ⟨us0, rfl, hr_0⟩ := hr.unv
  obtain ⟨us1, rfl, hr_1⟩ := hr_0.unv
  obtain ⟨us2, rfl, hr_2⟩ := hr_1.unv
  obtain ⟨A3, c3, us3, rfl, r3, hr_3⟩ := hr_2.uns
  obtain rfl := hr_3.un0
  have R3 := Lib.hid r3
  have H3 := Lib.hid h3
  clear r3 h3 hr hr_0 hr_1 hr_2 hr_3
  have hz1m : z2.size ≤ 1048576 := by omega
  have HRL := Lib.hid (fun (g : Nat) (hg : (Value.slice A l.length c).ownBlock = some g) => own_lt hown g hg)
  have V0 := Lib.hid ((VsS.start hown).below ((Below.refl _ _).alloc (Nat.le_refl _) (.cells #[.int .i64 z0, .int .i64 z1, .string z2, .slice A3 z3.length c3] 30)))
  have b00 : Blk (w.alloc (.cells #[.int .i64 z0, .int .i64 z1, .string z2, .slice A3 z3.length c3] 30)) w.heap.size 30 #[.int .i64 z0, .int .i64 z1, .string z2, .slice A3 z3.length c3] := Blk.new _ _ _
  have NP := Lib.hid (fun (W : World) => NormalPath_spec z2 W hz1m)
  have hps := nmS_size z2
  clear hown
  generalize hp : nmS z2 = pth at *
  generalize ho : nmOk z2 = okk at *
  have HAD := Lib.hid (show addI z0 z2 l = (if (z0 == 47 && (okk && !inV l pth)) = true then l ++ [⟨pth⟩] else l) from by unfold addI; rw [hp, ho])
  clear hp ho
  go_enter Tryd.func14, Tryd.ntmps14
  go_upto_region 2 with (go_at_call 21; refine (NP.out _).mono ?_; rintro e w0 ⟨rfl, hb⟩; have b0 := b00.below hb (Nat.le_refl _); have VW := Lib.hid (V0.out.below hb); clear hb b00 V0; have k0 : w0.cell? ⟨w.heap.size, 0, none⟩ = some (.int .i64 z0) := b0.cell 0; have k2 : w0.cell? ⟨w.heap.size, 2, none⟩ = some (.string z2) := b0.cell 2; have k3 : w0.cell? ⟨w.heap.size, 3, none⟩ = some (.slice A3 z3.length c3) := b0.cell 3)
  have U0 := Lib.hid (VsS.start VW.out.own)
  go_cut [20] from 15 to 20 (fun v wx => v = .bool (z0 == 47 && okk) ∧ wx = w0)
  case first =>
    rcases Bool.eq_false_or_eq_true (z0 == 47) with g1 | g1
    · go_wp2_with fail
      go_meet
      exact ⟨by rw [g1]; rfl, rfl⟩
    · go_wp2_with fail
      go_meet
      exact ⟨by rw [g1]; rfl, rfl⟩
  case rest =>
    obtain ⟨rfl, hww⟩ := hcut
    have hw2 := hww.symm
    subst hw2
    clear hww
    generalize hgg : (z0 == 47 && okk) = gg at *
    have HAD2 := Lib.hid (show addI z0 z2 l = (if (gg && !inV l pth) = true then l ++ [⟨pth⟩] else l) from by rw [HAD.out, ← hgg, Bool.and_assoc])
    have HG := Lib.hid hgg
    clear hgg HAD
    go_upto_if 20 with fail
    go_cut [1] from 6 to 40 (fun v wx => ∃ A1 c1, v = .slice A1 (addI z0 z2 l).length c1 ∧ VsS w0 wx base (Value.slice A l.length c).ownBlock A1 c1 (addI z0 z2 l))
    case first =>
      cases gg with
      | false =>
        go_wp2_with fail
        go_meet
        rw [HAD2.out]
        exact ⟨A, c, rfl, U0.out⟩
      | true =>
        have hok : okk = true := by
          have := HG.out
          cases okk with
          | true => rfl
          | false => rw [Bool.and_false] at this; cases this
        subst hok
        have hll : l.length ≤ 1000000000 := by omega
        have HB0 := Lib.hid b0
        have hwl := b0.lt
        have hbw : base ≤ w0.heap.size := by omega
        clear b0
        go_wp2_with fail
        go_loopw [6, 7] (fun tv iv wr => ∃ k m : Nat, k ≤ l.length ∧ iv = .int .i64 k ∧ tv = .bool (!inV (l.take k) pth) ∧ wr = w0.drewN m) (fun _ iv _ => l.length - (intOf iv).toNat)
        case atStart => exact ⟨0, 0, Nat.zero_le _, rfl, by rw [List.take_zero]; rfl, rfl⟩
        case round =>
          obtain ⟨k, m, hk, rfl, rfl, hwr⟩ := hrel
          have V1 : Hid (VsS w0 wr base (Value.slice A l.length c).ownBlock A c l) := Lib.hid (by rw [hwr]; exact U0.out.below (v' := w0.drewN m) (below_drewN (Below.refl _ _) m))
          have hz : base ≤ wr.heap.size := by rw [hwr]; exact hbw
          have HW := Lib.hid hwr
          clear hwr k0 k2 k3
          have hdr : ∀ m', ∃ m2, wr.drewN m' = w0.drewN m2 := fun m' => ⟨m + m', by rw [HW.out]; simp [World.drewN, Nat.add_assoc]⟩
          by_cases hlt : k < l.length
          · obtain ⟨y, hy⟩ : ∃ y, l[k]? = some y := ⟨_, List.getElem?_eq_getElem hlt⟩
            obtain ⟨g, o, rfl, cy⟩ := sv_cell V1.out.own hy
            have HT := Lib.hid (inV_take l pth k y hy)
            have hlt2 : (k : Int) < (l.length : Int) := by omega
            have hkm : k < maxLen := by unfold maxLen; omega
            clear hy
            generalize hb : inV (l.take k) pth = bb at *
            clear hb
            cases bb with
            | true =>
              go_wp2_with fail
              go_roundw
              case rel => exact ⟨k + 1, m, by omega, by go_num, by rw [HT.out]; rfl, HW.out⟩
              case measure => simp [intOf]; omega
            | false =>
              go_wp2_with fail
              go_roundw
              case rel => exact ⟨k + 1, m, by omega, by go_num, by rw [HT.out]; rfl, HW.out⟩
              case measure => simp [intOf]; omega
          · obtain rfl : k = l.length := by omega
            clear hlt
            rw [List.take_length]
            generalize hb : inV l pth = bb at *
            clear hb
            cases bb with
            | true =>
              go_wp2_with fail
              go_meet
              rw [HAD2.out]
              exact ⟨A, c, rfl, V1.out⟩
            | false =>
              have tok1 : True := trivial
              go_wp2_with (at_builtin; have _t := tok1; go_must (refine wpList_append_rd _ rfl (.tmp 37) (.tmp 39) _ rfl base _ _ _ 16 Tryd.underlying26 sInfoV rfl (by omega) (.slice A l.length c) l.length _ rfl (V1.out.own.alloc _) (wr.heap.size + 1) _ 1 1 _ rfl (srd_oneV wr (.string pth) 9) (by intro u hu; simp only [List.mem_cons, List.not_mem_nil, or_false] at hu; rcases hu with rfl; rfl) (by unfold maxLen; omega) (by omega) (by have := hz; simp; omega) ?_); intro v2 w2 hown2 hg2 hat2; obtain ⟨A2, c2, rfl, V2⟩ := (V1.out.below ((Below.refl _ _).alloc (Nat.le_refl _) _)).app pth hown2 hg2 hat2; clear tok1 hown2 hg2 hat2)
              go_meet
              rw [HAD2.out]
              exact ⟨A2, c2, by simp, V2⟩
    case rest =>
      have hcw := VW.out.fr.size
      have UB : ∀ (v : World) (A' : Option Addr) (c' : Nat) (l' : List FStr), VsS w0 v base (Value.slice A l.length c).ownBlock A' c' l' → Blk v w.heap.size 30 #[.int .i64 z0, .int .i64 z1, .string z2, .slice A3 z3.length c3] ∧ Below base w v := fun v A' c' l' U => ⟨U.blk b0 (fun e => by have := (HRL.out _ e.symm).2; omega), (VW.out.next U).lo (fun g hg => (HRL.out g hg).1) hbase⟩
      have UBH := Lib.hid UB
      clear UB U0 b0 k0 k2 k3
      obtain ⟨A1, c1, rfl, V1⟩ := hcut
      have hwt := addI_wt z0 z2 l
      generalize hl1 : addI z0 z2 l = l1 at *
      have HL1 := Lib.hid hl1
      clear hl1
      obtain ⟨b1, be1⟩ := UBH.out _ _ _ _ V1
      have hbd2 : l1.length + FStr.wts l1 + 61 * (z3.length + FNode.wts z3) ≤ 1000000000 := by omega
      have hzl : z3.length ≤ 1048576 := by omega
      have hzw : z3.length + FNode.wts z3 ≤ 1048576 := by omega
      have k3 : wc.cell? ⟨w.heap.size, 3, none⟩ = some (.slice A3 z3.length c3) := b1.cell 3
      clear hbd hwt b1 be1 hxw
      go_wp2_with fail
      go_loopw [1, 8] (fun lv iv wr => ∃ (k : Nat) (A' : Option Addr) (c' : Nat), k ≤ z3.length ∧ iv = .int .i64 k ∧ lv = .slice A' (incL (z3.take k) l1).length c' ∧ VsS w0 wr base (Value.slice A l.length c).ownBlock A' c' (incL (z3.take k) l1)) (fun _ iv _ => z3.length - (intOf iv).toNat)
      case atStart => exact ⟨0, A1, c1, Nat.zero_le _, rfl, by rw [List.take_zero, incL], by rw [List.take_zero, incL]; exact V1⟩
      case round =>
        obtain ⟨k, A2, c2, hk, rfl, rfl, V2⟩ := hrel
        obtain ⟨b2, be2⟩ := UBH.out _ _ _ _ V2
        have hwl := b2.lt
        have hwl2 := be2.size
        clear k3
        have k3 : wr.cell? ⟨w.heap.size, 3, none⟩ = some (.slice A3 z3.length c3) := b2.cell 3
        have hkm : k < maxLen := by unfold maxLen; omega
        have haw := incL_wt (z3.take k) l1
        have htw := FNode.wts_le z3 k
        by_cases hlt : k < z3.length
        · have hlt2 : (k : Int) < (z3.length : Int) := by omega
          obtain ⟨x, hx⟩ : ∃ x, z3[k]? = some x := ⟨_, List.getElem?_eq_getElem hlt⟩
          obtain ⟨bc, offc, rfl, hblc, hcc⟩ := RdC.at_ FNode.len R3.out hx
          have hxm := List.mem_of_getElem? hx
          have htk := FNode.wts_take z3 k x hx
          have htw2 := FNode.wts_le z3 (k + 1)
          have HX := Lib.hid (incL_take z3 l1 k x hx)
          have HV := Lib.hid (H3.out x hxm)
          clear hx hxm
          have hbx : (incL (z3.take k) l1).length + FStr.wts (incL (z3.take k) l1) + 61 * (1 + x.wt) ≤ 1000000000 := by
            rw [List.length_take] at haw
            omega
          have hxw2 : x.wt ≤ 1048576 := by omega
          obtain ⟨y0, y1, y2, y3⟩ := x
          rw [FNode.c_eq] at hcc
          obtain ⟨u0, e0, q0⟩ := hcc 0 _ rfl
          obtain rfl := q0.val
          have c_0 : wr.cell? ⟨bc, offc + k * 4, none⟩ = some (.int .i64 y0) := (be2.cell (p := ⟨bc, _, none⟩) (by show bc < base; omega)).trans (by simpa using e0)
          obtain ⟨u1, e1, q1⟩ := hcc 1 _ rfl
          obtain rfl := q1.val
          have c_1 : wr.cell? ⟨bc, offc + k * 4 + 1, none⟩ = some (.int .i64 y1) := (be2.cell (p := ⟨bc, _, none⟩) (by show bc < base; omega)).trans (by simpa using e1)
          obtain ⟨u2, e2, q2⟩ := hcc 2 _ rfl
          obtain rfl := q2.val
          have c_2 : wr.cell? ⟨bc, offc + k * 4 + 2, none⟩ = some (.string y2) := (be2.cell (p := ⟨bc, _, none⟩) (by show bc < base; omega)).trans (by simpa using e2)
          obtain ⟨u3, e3, q3⟩ := hcc 3 _ rfl
          obtain ⟨D, d, rfl⟩ := q3.form
          have c_3 : wr.cell? ⟨bc, offc + k * 4 + 3, none⟩ = some (.slice D y3.length d) := (be2.cell (p := ⟨bc, _, none⟩) (by show bc < base; omega)).trans (by simpa using e3)
          have RX := Lib.hid (show RdVs wr B (FNode.c ⟨y0, y1, y2, y3⟩) [.int .i64 y0, .int .i64 y1, .string y2, .slice D y3.length d] from by
            rw [FNode.c_eq]
            exact RdVs.cons (by unfold RdC; rfl) (RdVs.cons (by unfold RdC; rfl) (RdVs.cons (by unfold RdC; rfl) (RdVs.cons (q3.on be2 hB (Nat.le_refl _)) (RdVs.nil _ _)))))
          clear hcc e0 e1 e2 e3 q0 q1 q2 q3
          generalize hacc : incL (z3.take k) l1 = ac at *
          clear hacc
          have VV2 := Lib.hid V2
          have CALL := Lib.hid (HV.out [.int .i64 y0, .int .i64 y1, .string y2, .slice D y3.length d] wr B base ac A2 c2 hB (by omega) RX.out V2.own hxw2 hbx)
          have hac1 : ac.length ≤ 1000000000 := by omega
          clear V2
          go_wp2_with (go_at_call 14; refine CALL.out.mono ?_; rintro e w2 ⟨A3', c3', rfl, V3⟩)
          go_roundw
          case rel => exact ⟨k + 1, A3', c3', by omega, by go_num, by rw [HX.out], by rw [HX.out]; exact VV2.out.next V3⟩
          case measure => simp [intOf]; omega
        · obtain rfl : k = z3.length := by omega
          clear hlt
          rw [List.take_length] at V2
          go_wp2_with fail
          go_ret
          have hfin : incN ⟨z0, z1, z2, z3⟩ l = incL z3 l1 := by rw [incN, HL1.out]
          rw [hfin, List.take_length]
          exact ⟨A2, c2, rfl, VW.out.next V2⟩
mutual
theorem incS_any : ∀ x : FNode, IncS x
  | .mk a0 a1 a2 a3 => incS_of a0 a1 a2 a3 (incS_all a3)
theorem incS_all : ∀ (l : List FNode) (x : FNode), x ∈ l → IncS x
  | [], x, hx => by cases hx
  | y :: r, x, hx => by
    rcases List.mem_cons.1 hx with e | hx
    · rw [e]
      exact incS_any y
    · exact incS_all r x hx
end
end Go.Proofs.YtbmgjndpnbdgeaaDoor
