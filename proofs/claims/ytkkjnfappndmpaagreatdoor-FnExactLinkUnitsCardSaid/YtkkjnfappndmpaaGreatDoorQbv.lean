/-
 Parts of the proof: LuS. Conditions: none.
-/
import Derived.Test.YtkkjnfappndmpaaGreatDoorQFold
import Derived.Test.YtkkjnfappndmpaaGreatDoorQbg
import Derived.Test.YtkkjnfappndmpaaGreatDoorQbb
import Derived.Test.YtkkjnfappndmpaaGreatDoorQbs
import Derived.Deep.QuietTactic
import Derived.BigQuiet
set_option linter.unusedVariables false
set_option linter.unusedSimpArgs false
namespace Go.Proofs.YtkkjnfappndmpaaGreatDoor
set_option maxHeartbeats 40000000
open Lib (hid)
open Go.ChangeShapes Go.WideShapes Go.ChangeAt Go.RowKit Go.Deep Go.Joins
open Go.ChangeMaps (open_string shut_string)
set_option maxRecDepth 100000
/-- A unit's cells, in every later world. -/
theorem opU {w : World} {B b off k : Nat} {z0 z3 : ByteArray} {z1 z2 : Int} {z4 : List FNode} (hB : b < w.heap.size) (hcc : ∀ j y, (FUnit.c ⟨z0, ⟨z1, z2, z3, z4⟩⟩)[j]? = some y → ∃ u, w.cell? ⟨b, off + k * 5 + j, none⟩ = some u ∧ RdC w B y u) :
  ∃ D d, RdC w B (.s 44 4 z4.length (FNode.flat z4)) (.slice D z4.length d) ∧ ∀ X, Below w.heap.size w X → X.cell? ⟨b, off + k * 5, none⟩ = some (.string z0) ∧ X.cell? ⟨b, off + k * 5 + 1, none⟩ = some (.int .i64 z1) ∧ X.cell? ⟨b, off + k * 5 + 1 + 1, none⟩ = some (.int .i64 z2) ∧ X.cell? ⟨b, off + k * 5 + 1 + 2, none⟩ = some (.string z3) ∧ X.cell? ⟨b, off + k * 5 + 1 + 3, none⟩ = some (.slice D z4.length d) := by
 rw [FUnit.c_eq] at hcc
 obtain ⟨u0, e0, q0⟩ := hcc 0 _ rfl
 obtain rfl := q0.val
 obtain ⟨u1, e1, q1⟩ := hcc 1 _ rfl
 obtain rfl := q1.val
 obtain ⟨u2, e2, q2⟩ := hcc 2 _ rfl
 obtain rfl := q2.val
 obtain ⟨u3, e3, q3⟩ := hcc 3 _ rfl
 obtain rfl := q3.val
 obtain ⟨u4, e4, q4⟩ := hcc 4 _ rfl
 obtain ⟨D, d, rfl⟩ := q4.form
 exact ⟨D, d, q4, fun X hb => ⟨(hb.cell (p := ⟨b, _, none⟩) hB).trans e0, (hb.cell (p := ⟨b, _, none⟩) hB).trans e1, (hb.cell (p := ⟨b, _, none⟩) hB).trans e2, (hb.cell (p := ⟨b, _, none⟩) hB).trans e3, (hb.cell (p := ⟨b, _, none⟩) hB).trans e4⟩⟩
theorem sNm_snoc (l : List FStr) (s : ByteArray) : sNm (l ++ [⟨s⟩]) = sNm l ++ [s.toList] := by unfold sNm; rw [List.map_append]; rfl
theorem sNm_len (l : List FStr) : (sNm l).length = l.length := by unfold sNm; rw [List.length_map]
theorem LinkUnits_spec (l : List FUnit) (hw : l.length + FUnit.wts l ≤ 1048576) (u : Value) (w : World) {B : Nat} (hB0 : B ≤ w.heap.size) (hr : RdC w B (.s 46 5 l.length (FUnit.flat l)) u) :
  Calls Tryz.prog 5 #[u] w fun e w' => LuR l w w' e := by
 obtain ⟨A, c, rfl⟩ := hr.form
 have HR := hid (hr.up hB0)
 have hn : l.length ≤ 9223372036854775807 := qaa
 have hbw := body_wts l
 clear hr
 have hs1 : (w.alloc (.cells #[] 9)).heap.size = w.heap.size + 1 := by simp
 have L0 : LuB l w (w.heap.size + 1) ((w.alloc (.cells #[] 9)).alloc (.cells #[] 44)) 0 (.slice (some ⟨w.heap.size + 1, 0, none⟩) 0 0) := by
  have h := LuB.start l w (w.alloc (.cells #[] 9)) (w.heap.size + 1) (by rw [hs1]; exact Nat.le_refl _) ((Below.refl _ _).alloc nr _)
  rw [hs1] at h
  exact h
 have N0 : Blk ((w.alloc (.cells #[] 9)).alloc (.cells #[] 44)) w.heap.size 9 #[] := (Blk.new _ _ _).alloc _
 clear hs1
 go_enter Tryz.func5, Tryz.ntmps5
 go_upto_region 3 with fail
 generalize (w.alloc (.cells #[] 9)).alloc (.cells #[] 44) = X0 at *
 by_cases hmany : 8 < l.length
 ·have HG := hid (luF_many hmany)
  have h8 : (8 : Int) < (l.length : Int) := qaa
  have BE := hid L0.be
  clear hmany L0 N0
  go_wp2_with fail
  refine bodyPost_ret (v := .tuple #[.slice (some ⟨X0.heap.size, 0, none⟩) 0 0, .int .i64 5]) qbi rfl (luR_empty HG.out BE.out)
 have h8 : ¬ (8 : Int) < (l.length : Int) := qaa
 have HM := hid hmany
 have h88 : l.length ≤ 8 := qaa
 clear hmany
 go_wp2_with fail
 go_loopw [6, 5] (fun iv v wr => ∃ k : Nat, k ≤ l.length ∧ iv = .int .i64 k ∧ (∀ (j : Nat) (x : FUnit), j < k → l[j]? = some x → unB l j x = true) ∧ Blk wr w.heap.size 9 #[] ∧ LuB l w (w.heap.size + 1) wr k v) (fun iv _ _ => l.length - (intOf iv).toNat)
 case atStart => exact ⟨0, Nat.zero_le _, rfl, fun j x hj => absurd hj qaa, N0, L0⟩
 case round =>
  clear L0 N0
  obtain ⟨k, hk, rfl, hall, bN, L1⟩ := hrel
  have HALL := hid hall
  clear hall
  obtain ⟨wo, rfl⟩ : ∃ X : World, X = wr := ⟨_, rfl⟩
  by_cases hlt : k < l.length
  ·obtain ⟨x, hx⟩ : ∃ x, l[k]? = some x := ⟨_, List.getElem?_eq_getElem hlt⟩
   obtain ⟨bx, offx, Ex, hbl, hcc⟩ := RdC.at_ FUnit.len HR.out hx
   subst Ex
   have HX := hid hx
   have hxw := FUnit.wts_at l x (List.mem_of_getElem? hx)
   have hx1 := (body_wt x).1
   have hx2 := (body_wt x).2
   have hlt2 : (k : Int) < (l.length : Int) := qaa
   have hk0 : (0 : Int) ≤ (k : Int) := qaa
   clear hx
   obtain ⟨z0, ⟨z1, z2, z3, z4⟩⟩ := x
   rw [show (FUnit.body ⟨z0, ⟨z1, z2, z3, z4⟩⟩) = FNode.mk z1 z2 z3 z4 from rfl] at hx1
   rw [show (FUnit.nm ⟨z0, ⟨z1, z2, z3, z4⟩⟩) = z0 from rfl] at hx2
   obtain ⟨D, d, q4, ce⟩ := opU hbl hcc
   have CE := hid ce
   have RB := hid (ndV (k := z1) (n := z2) (t := z3) q4)
   have HU := hid (show unB l k ⟨z0, ⟨z1, z2, z3, z4⟩⟩ = (isnF z0 && ((fidx FUnit.nm l z0 == (k : Int)) && (csS ⟨z1, z2, z3, z4⟩ == 0))) from rfl)
   have C1 := hid (fun X (h : Below w.heap.size w X) => IsNormal_spec z0 X qaa)
   have C2 := hid (fun X (h : Below w.heap.size w X) => FindUnit_spec l z0 (.slice (some ⟨bx, offx, none⟩) l.length c) X qaa (B := w.heap.size) h.size (HR.out.on h nr nr))
   have C3 := hid (fun X (h : Below w.heap.size w X) => check_spec (FNode.mk z1 z2 z3 z4) qaa [.int .i64 z1, .int .i64 z2, .string z3, .slice D z4.length d] X w.heap.size h.size (RB.out.on h nr nr))
   obtain ⟨c_0, c_1, c_2, c_3, c_4⟩ := CE.out _ L1.be
   generalize hp : isnF z0 = p at *
   generalize hf : fidx FUnit.nm l z0 = f at *
   generalize hq : csS ⟨z1, z2, z3, z4⟩ = q at *
   have hws := L1.be.size
   clear hp hf hq q4 ce hcc
   cases p with
   | false =>
    have HG := hid (luF_bad HM.out HX.out (HU.out.trans rfl))
    go_upto_region 9 with (go_at_call 14; refine (C1.out _ L1.be).mono ?_; rintro e w3 ⟨rfl, hb⟩; have L3 := L1.below hb; replace bN := bN.below hb nr; obtain ⟨c_0, c_1, c_2, c_3, c_4⟩ := CE.out _ L3.be; clear hb)
    have BE := hid L3.be
    clear L1 L3 bN c_0 c_1 c_2 c_3 c_4 CE RB C1 C2 C3
    go_wp2_with fail
    refine bodyPost_ret (v := .tuple #[.slice (some ⟨w3.heap.size, 0, none⟩) 0 0, .int .i64 5]) qbi rfl (luR_empty HG.out BE.out)
   | true =>
    by_cases hfk : f = (k : Int)
    case neg =>
     have v1 : (f == (k : Int)) = false := beq_false_of_ne hfk
     have v2 : (f != (k : Int)) = true := by simp [bne, v1]
     have v3 : decide (f = (k : Int)) = false := decide_eq_false hfk
     have HG := hid (luF_bad HM.out HX.out (HU.out.trans (by rw [v1]; rfl)))
     go_upto_region 9 with (first | (go_at_call 14; refine (C1.out _ L1.be).mono ?_; rintro e w3 ⟨rfl, hb⟩; have L3 := L1.below hb; replace bN := bN.below hb nr; obtain ⟨c_0, c_1, c_2, c_3, c_4⟩ := CE.out _ L3.be; clear hb) | (go_at_call 15; refine (C2.out _ L3.be).mono ?_; rintro e w4 ⟨rfl, hb⟩; have L4 := L3.below hb; replace bN := bN.below hb nr; obtain ⟨c_0, c_1, c_2, c_3, c_4⟩ := CE.out _ L4.be; clear hb))
     have BE := hid L4.be
     clear L1 L3 L4 bN c_0 c_1 c_2 c_3 c_4 CE RB C1 C2 C3
     go_wp2_with fail
     refine bodyPost_ret (v := .tuple #[.slice (some ⟨w4.heap.size, 0, none⟩) 0 0, .int .i64 5]) qbi rfl (luR_empty HG.out BE.out)
    case pos =>
     have v1 : (f == (k : Int)) = true := by rw [hfk]; simp
     have v2 : (f != (k : Int)) = false := by simp only [bne, v1]; rfl
     have v3 : decide (f = (k : Int)) = true := decide_eq_true hfk
     clear hfk
     by_cases hq0 : q = 0
     case neg =>
      have q1 : (q == 0) = false := beq_false_of_ne hq0
      have q2 : (q != 0) = true := by simp [bne, q1]
      have q3 : decide (q = 0) = false := decide_eq_false hq0
      have HG := hid (luF_bad HM.out HX.out (HU.out.trans (by rw [v1, q1]; rfl)))
      go_upto_region 9 with (first | (go_at_call 14; refine (C1.out _ L1.be).mono ?_; rintro e w3 ⟨rfl, hb⟩; have L3 := L1.below hb; replace bN := bN.below hb nr; obtain ⟨c_0, c_1, c_2, c_3, c_4⟩ := CE.out _ L3.be; clear hb) | (go_at_call 15; refine (C2.out _ L3.be).mono ?_; rintro e w4 ⟨rfl, hb⟩; have L4 := L3.below hb; replace bN := bN.below hb nr; obtain ⟨c_0, c_1, c_2, c_3, c_4⟩ := CE.out _ L4.be; clear hb) | (go_at_call 16; refine (C3.out _ L4.be).mono ?_; rintro e w5 ⟨rfl, hb⟩; have L5 := L4.below hb; replace bN := bN.below hb nr; obtain ⟨c_0, c_1, c_2, c_3, c_4⟩ := CE.out _ L5.be; clear hb))
      have BE := hid L5.be
      clear L1 L3 L4 L5 bN c_0 c_1 c_2 c_3 c_4 CE RB C1 C2 C3
      go_wp2_with fail
      refine bodyPost_ret (v := .tuple #[.slice (some ⟨w5.heap.size, 0, none⟩) 0 0, .int .i64 5]) qbi rfl (luR_empty HG.out BE.out)
     case pos =>
      have HOK := hid (HU.out.trans (by rw [v1, hq0]; rfl) : unB l k ⟨z0, ⟨z1, z2, z3, z4⟩⟩ = true)
      subst hq0
      go_upto_region 10 with (first | (go_at_call 14; refine (C1.out _ L1.be).mono ?_; rintro e w3 ⟨rfl, hb⟩; have L3 := L1.below hb; replace bN := bN.below hb nr; obtain ⟨c_0, c_1, c_2, c_3, c_4⟩ := CE.out _ L3.be; clear hb) | (go_at_call 15; refine (C2.out _ L3.be).mono ?_; rintro e w4 ⟨rfl, hb⟩; have L4 := L3.below hb; replace bN := bN.below hb nr; obtain ⟨c_0, c_1, c_2, c_3, c_4⟩ := CE.out _ L4.be; clear hb) | (go_at_call 16; refine (C3.out _ L4.be).mono ?_; rintro e w5 ⟨rfl, hb⟩; have L5 := L4.below hb; replace bN := bN.below hb nr; obtain ⟨c_0, c_1, c_2, c_3, c_4⟩ := CE.out _ L5.be; clear hb))
      obtain ⟨A5, c5, us5, ev, o5, r5, b5⟩ := L5
      subst ev
      have HB5 := hid b5
      have HR5 := hid r5
      have HV5 := hid (fun g (e : (Value.slice A5 k c5).ownBlock = some g) => (World.ownsRow.lt o5 g e).1)
      have OW := hid (World.ownsRow.alloc o5 (.cells #[.int .i64 z1, .int .i64 z2, .string z3, .slice D z4.length d] 44))
      have RN := hid (rd_new w5 44 4 [.int .i64 z1, .int .i64 z2, .string z3, .slice D z4.length d] rfl)
      have ON := hid (show ∀ u ∈ ([.int .i64 z1, .int .i64 z2, .string z3, .slice D z4.length d] : List Value), u.oneCell' = true from by intro u hu; simp only [List.mem_cons, List.not_mem_nil, or_false] at hu; rcases hu with rfl | rfl | rfl | rfl <;> rfl)
      have hw6 : w.heap.size + 1 ≤ (w5.alloc (.cells #[.int .i64 z1, .int .i64 z2, .string z3, .slice D z4.length d] 44)).heap.size := by have := b5.size; simp; omega
      have BN := hid (bN.alloc (.cells #[.int .i64 z1, .int .i64 z2, .string z3, .slice D z4.length d] 44))
      clear L1 L3 L4 o5 r5 b5 C1 C2 C3 bN
      go_wp2_with (at_builtin; go_must (refine wpList_append_rd _ rfl (.tmp 51) (.tmp 57) _ rfl (w.heap.size + 1) _ _ _ 56 Tryz.underlying41 infoNodeU rfl qaa (.slice A5 k c5) k us5 rfl OW.out (w5.heap.size + 1) _ 1 1 [.int .i64 z1, .int .i64 z2, .string z3, .slice D z4.length d] rfl RN.out ON.out qao qaa hw6 ?_); intro v7 w7 own7 hg7 hat)
      go_roundw
      case rel =>
       exact ⟨k + 1, by omega, by go_num, fun j x hj hjx => by
        by_cases e : j = k
        ·exact zz130
        ·exact HALL.out j x qaa hjx, (hg7.block w.heap.size (Blk.lt BN.out) (fun e => by have := HV5.out w.heap.size e.symm; omega)).trans BN.out, LuB.next HX.out (HB5.out.alloc HB5.out.size _) HR5.out RB.out own7 hg7 (fun g e => by have := HV5.out g e; omega)⟩
      case measure => simp [intOf]; omega
  ·obtain rfl : k = l.length := qaa
   clear hlt
   have UA := hid (show unsA l from fun i u hu => HALL.out i u (List.getElem?_eq_some_iff.1 hu).1 hu)
   have B1 := L1.be
   have V0 := hid (VsS.start (l := []) (own_noneU bN))
   have LL := hid L1
   clear L1 HALL bN
   obtain ⟨bs, hbs⟩ : ∃ bs, l.map FUnit.body = bs := ⟨_, rfl⟩
   have hbl : bs.length = l.length := by rw [← hbs, List.length_map]
   rw [hbs] at hbw
   have AT := hid (fun k u (h : l[k]? = some u) => (body_at h : (l.map FUnit.body)[k]? = some u.body))
   have GO := hid (fun h => (luF_go HM.out UA.out h).trans (by rw [hbs]) : (fnA (l.map FUnit.body)).Nodup → luF l = linkL bs)
   have DUP := hid (fun h => luF_dup HM.out UA.out h)
   rw [hbs] at GO DUP AT
   have HBS := hid hbs
   have HBL := hid hbl
   have hbw3 : bs.length + FNode.wts bs ≤ 1048576 := qaa
   clear hbs UA hbl hbw
   have hB1 := hid B1
   have hwo : w.heap.size ≤ wo.heap.size := B1.size
   have HBE := hid (fun X (A' : Option Addr) (c' : Nat) (NS : List FStr) (V : VsS wo X w.heap.size (some w.heap.size) A' c' NS) => (B1.trans (V.lo (fun g e => Nat.le_of_eq (Option.some.inj e)) hwo) : Below w.heap.size w X))
   clear B1
   go_wp2_with fail
   go_loopw [7, 4] (fun iv nv wr => ∃ (k : Nat) (NS : List FStr) (A' : Option Addr) (c' : Nat), k ≤ l.length ∧ iv = .int .i64 k ∧ nv = .slice A' NS.length c' ∧ sNm NS = fnA (bs.take k) ∧ (fnA (bs.take k)).Nodup ∧ VsS wo wr w.heap.size (some w.heap.size) A' c' NS) (fun iv _ _ => l.length - (intOf iv).toNat)
   case atStart => exact ⟨0, [], _, 0, Nat.zero_le _, rfl, rfl, by rw [List.take_zero]; rfl, by rw [List.take_zero]; exact List.nodup_nil, V0.out⟩
   case round =>
    clear V0
    obtain ⟨k, NS, AN, cN, hk, rfl, rfl, hns, hnd, V1⟩ := hrel
    obtain ⟨wb, rfl⟩ : ∃ X : World, X = wr := ⟨_, rfl⟩
    by_cases hlt : k < l.length
    ·obtain ⟨x, hx⟩ : ∃ x, l[k]? = some x := ⟨_, List.getElem?_eq_getElem hlt⟩
     obtain ⟨bx, offx, Ex, hbl2, hcc⟩ := RdC.at_ FUnit.len HR.out hx
     subst Ex
     have hbx := AT.out k x hx
     have hxw := FNode.wts_at bs x.body (List.mem_of_getElem? hbx)
     have hkw := kids_wt x.body
     have hlt2 : (k : Int) < (l.length : Int) := qaa
     have hk0 : (0 : Int) ≤ (k : Int) := qaa
     have NL := hid (fun j => nmK_len hbx j)
     have EN := hid (nmK_end hbx)
     have DU := hid (fun j y (hy : x.body.kids[j]? = some y) (hf : isFnU y = true) (hm : y.tx.toList ∈ nmK bs k x.body.kids j) => DUP.out (nmK_dup hbx hy hf hm))
     rw [← nmK_zero bs k x.body.kids] at hns hnd
     clear hx hbx
     obtain ⟨z0, ⟨z1, z2, z3, z4⟩⟩ := x
     obtain ⟨D, d, q4, ce⟩ := opU hbl2 hcc
     have CE := hid (fun X h => (ce X h).2.2.2.2)
     have QX := hid q4
     rw [show (FUnit.body ⟨z0, ⟨z1, z2, z3, z4⟩⟩).kids = z4 from rfl] at hkw NL EN DU hns hnd
     rw [show FUnit.body ⟨z0, ⟨z1, z2, z3, z4⟩⟩ = FNode.mk z1 z2 z3 z4 from rfl] at hkw hxw
     have hz4 : z4.length ≤ 9223372036854775807 := qaa
     clear hcc q4 ce
     go_wp2_with fail
     go_loopw [8, 4] (fun iv nv wr => ∃ (j : Nat) (NS : List FStr) (A' : Option Addr) (c' : Nat), j ≤ z4.length ∧ iv = .int .i64 j ∧ nv = .slice A' NS.length c' ∧ sNm NS = nmK bs k z4 j ∧ (nmK bs k z4 j).Nodup ∧ VsS wo wr w.heap.size (some w.heap.size) A' c' NS) (fun iv _ _ => z4.length - (intOf iv).toNat)
     case atStart => exact ⟨0, NS, AN, cN, Nat.zero_le _, rfl, rfl, hns, hnd, V1⟩
     case round =>
      clear V1 hnd hns
      obtain ⟨j, NS, AN, cN, hj, rfl, rfl, hns, hnd, V1⟩ := hrel
      have HND := hid hnd
      have HNS := hid hns
      have hnl := NL.out j
      rw [← hns, sNm_len] at hnl
      clear hnd hns
      obtain ⟨wi, rfl⟩ : ∃ X : World, X = wr := ⟨_, rfl⟩
      have be := HBE.out _ _ _ _ V1
      have c_4 := CE.out _ be
      have hwi := be.size
      by_cases hjt : j < z4.length
      ·obtain ⟨y, hy⟩ : ∃ y, z4[j]? = some y := ⟨_, List.getElem?_eq_getElem hjt⟩
       obtain ⟨by_, offy, Ey, hby, hcc⟩ := RdC.at_ FNode.len QX.out hy
       subst Ey
       have hyw := FNode.wts_at z4 y (List.mem_of_getElem? hy)
       have hjt2 : (j : Int) < (z4.length : Int) := qaa
       have hj0 : (0 : Int) ≤ (j : Int) := qaa
       have HY := hid hy
       clear hy
       obtain ⟨y0, y1, y2, y3⟩ := y
       rw [FNode.wt_eq] at hyw
       rw [FNode.wt_eq] at hxw
       have hyt : y2.size ≤ 1048576 := qaa
       obtain ⟨Dy, dy, d_0, d_1, d_2, d_3, q3y⟩ := opN be hby hcc (offy + j * 4) (offy + j * 4 + 1) (offy + j * 4 + 2) (offy + j * 4 + 3) qaa
       have V2 := V1.below ((Below.refl wi.heap.size wi).alloc nr (.cells #[.int .i64 y0, .int .i64 y1, .string y2, .slice Dy y3.length dy] 44))
       have bY := Blk.new wi 44 #[.int .i64 y0, .int .i64 y1, .string y2, .slice Dy y3.length dy]
       clear hcc q3y V1
       go_upto_region 18 with fail
       have hX5 : wi.heap.size < (wi.alloc (.cells #[.int .i64 y0, .int .i64 y1, .string y2, .slice Dy y3.length dy] 44)).heap.size := by simp
       generalize wi.alloc (.cells #[.int .i64 y0, .int .i64 y1, .string y2, .slice Dy y3.length dy] 44) = X5 at *
       have bY0 := bY.cell 0; have bY2 := bY.cell 2
       have BY := hid bY
       clear d_0 d_1 d_2 d_3 bY c_4
       by_cases h49 : y0 = 49
       case neg =>
        have e1 : (y0 == 49) = false := beq_false_of_ne h49
        have e2 : (y0 != 49) = true := by simp [bne, e1]
        have e3 : decide (y0 = 49) = false := decide_eq_false h49
        have NN := hid (nmK_no (bs := bs) (k := k) HY.out (show isFnU ⟨y0, y1, y2, y3⟩ = false from e1))
        have VH := hid V2
        clear h49 V2
        go_wp2_with fail
        go_roundw
        case rel => exact ⟨j + 1, NS, AN, cN, by omega, by go_num, rfl, by rw [NN.out]; exact HNS.out, by rw [NN.out]; exact HND.out, VH.out⟩
        case measure => simp [intOf]; omega
       case pos =>
        subst h49
        have hif : isFnU ⟨49, y1, y2, y3⟩ = true := rfl
        have VH := hid V2
        clear V2
        go_wp2_with fail
        go_loopw [10] (fun iv wr => ∃ i m : Nat, i ≤ NS.length ∧ iv = .int .i64 i ∧ inV (NS.take i) y2 = false ∧ wr = X5.drewN m) (fun iv _ => NS.length - (intOf iv).toNat)
        case atStart => exact ⟨0, 0, Nat.zero_le _, rfl, by rw [List.take_zero]; rfl, rfl⟩
        case round =>
         clear bY0 bY2
         obtain ⟨i, m, hi, rfl, hno, hwr⟩ := hrel
         have V3 : Hid (VsS wo wr w.heap.size (some w.heap.size) AN cN NS) := hid (by rw [hwr]; exact VH.out.below (v' := X5.drewN m) (below_drewN (Below.refl _ _) m))
         have bY : Blk wr wi.heap.size 44 #[.int .i64 49, .int .i64 y1, .string y2, .slice Dy y3.length dy] := by rw [hwr]; exact BY.out
         have hX6 : wi.heap.size < wr.heap.size := bY.lt
         have bY2 := bY.cell 2
         have HW := hid hwr
         have HNO := hid hno
         clear hwr bY hno
         have hdr : ∀ m', ∃ m2, wr.drewN m' = X5.drewN m2 := fun m' => ⟨m + m', by rw [HW.out]; simp [World.drewN, Nat.add_assoc]⟩
         have HDR := hid hdr
         clear hdr
         by_cases hit : i < NS.length
         ·obtain ⟨s, hs⟩ : ∃ s, NS[i]? = some s := ⟨_, List.getElem?_eq_getElem hit⟩
          obtain ⟨g, o, rfl, cy⟩ := sv_cell V3.out.own hs
          have HT := hid (inV_take NS y2 i s hs)
          have HSM := hid (List.mem_of_getElem? hs)
          have hit2 : (i : Int) < (NS.length : Int) := qaa
          have him : i < maxLen := by unfold maxLen; omega
          clear hs
          cases hsq : (s.a0.toList == y2.toList) with
          | true =>
           have HSQ := hid hsq
           have HG := hid (DU.out j ⟨49, y1, y2, y3⟩ HY.out hif (by rw [← HNS.out]; exact (inV_nm NS y2).1 (by unfold inV; rw [List.any_eq_true]; exact ⟨s, HSM.out, HSQ.out⟩)))
           go_upto_region 22 with fail
           go_quiet (fail)
           obtain ⟨m2, hm2⟩ := HDR.out nq
           have BE := hid (HBE.out _ _ _ _ (VH.out.below (v' := X5.drewN m2) (below_drewN (Below.refl _ _) m2)))
           rw [hm2]
           generalize X5.drewN m2 = X9 at *
           go_wp2_with fail
           refine bodyPost_ret (v := .tuple #[.slice (some ⟨X9.heap.size, 0, none⟩) 0 0, .int .i64 1]) qbi rfl (luR_empty HG.out BE.out)
          | false =>
           have HSQ := hid hsq
           go_upto_region 22 with fail
           go_quiet (fail)
           go_wp2_with fail
           go_roundw
           case rel =>
            obtain ⟨m2, hm2⟩ := HDR.out nq
            exact ⟨i + 1, m2, by omega, by go_num, by rw [HT.out, HNO.out, HSQ.out]; rfl, hm2⟩
           case measure => simp [intOf]; omega
         ·obtain rfl : i = NS.length := qaa
          have hno := HNO.out
          rw [List.take_length] at hno
          have HN2 := hid (nodup_one HND.out (fun h => by rw [← HNS.out] at h; have := (inV_nm NS y2).2 h; rw [hno] at this; cases this))
          have NN := hid (nmK_yes (bs := bs) (k := k) HY.out hif)
          clear hno
          go_wp2_with (at_builtin; go_must (refine wpList_append_rd _ rfl (.tmp 102) (.tmp 105) _ rfl w.heap.size _ _ _ 16 Tryz.underlying40 sInfoV rfl qaa (.slice AN NS.length cN) NS.length _ rfl (V3.out.own.alloc _) (wr.heap.size + 1) _ 1 1 _ rfl (srd_oneV wr (.string y2) 9) qa1 qao qaa qak ?_); intro v2 w2 hown2 hg2 hat2; obtain ⟨A2, c2, rfl, V4⟩ := (V3.out.below ((Below.refl _ _).alloc nr _)).app y2 hown2 hg2 hat2; have VV := hid V4; clear hown2 hg2 hat2 V4)
          go_roundw
          case rel => exact ⟨j + 1, NS ++ [⟨y2⟩], A2, c2, by omega, by go_num, by simp, by rw [NN.out, sNm_snoc, HNS.out]; rfl, by rw [NN.out]; exact HN2.out, VV.out⟩
          case measure => simp [intOf]; omega
      ·obtain rfl : j = z4.length := qaa
       have VH := hid V1
       rw [EN.out] at HND HNS
       clear V1
       go_wp2_with fail
       go_roundw
       case rel => exact ⟨k + 1, NS, AN, cN, by omega, by go_num, rfl, HNS.out, HND.out, VH.out⟩
       case measure => simp [intOf]; omega
    ·obtain rfl : k = l.length := qaa
     rw [← HBL.out, List.take_length] at hnd
     have LF := GO.out hnd
     have L9 := LuB.fr LL.out V1 (Nat.lt_succ_self _)
     have RD := L9.read
     have hb := L9.be
     rw [HBS.out] at RD
     have LC := hid (fun v (h : RdC wb wb.heap.size (.s 44 4 bs.length (FNode.flat bs)) v) => LinkW_spec bs v wb qaa (B := wb.heap.size) nr h)
     have RDh := hid RD
     generalize linkL bs = R at *
     have HLF := hid LF
     have HB := hid hb
     have hbz := hb.size
     clear LF hnd hns hb L9 V1 RD LL
     go_wp2_with (go_at_call 17; refine (LC.out _ RDh.out).mono ?_; rintro e w9 ⟨A9, c9, rfl, own9, hb9⟩; have OW9 := hid own9; have HB9 := hid hb9; clear own9 hb9)
     refine bodyPost_ret (v := .tuple #[.slice A9 R.2.length c9, .int .i64 R.1]) qbi rfl (luR_link HLF.out HB.out HB9.out OW9.out)
end Go.Proofs.YtkkjnfappndmpaaGreatDoor
