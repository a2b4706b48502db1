/-
 Parts of the proof: LuI. Conditions: none.
-/
import Derived.Test.YtkkjnfappndmpaaGreatDoorQFold
import Derived.Test.YtkkjnfappndmpaaGreatDoorQaj
import Derived.Test.YtkkjnfappndmpaaGreatDoorQba
import Derived.Test.YtkkjnfappndmpaaGreatDoorQbb
import Derived.Test.YtkkjnfappndmpaaGreatDoorQbf
set_option linter.unusedVariables false
set_option linter.unusedSimpArgs false
namespace Go.Proofs.YtkkjnfappndmpaaGreatDoor
set_option maxHeartbeats 40000000
open Lib (hid)
open Go.ChangeShapes Go.WideShapes Go.ChangeAt Go.RowKit Go.Deep Go.Joins
open Go.ChangeMaps (open_string shut_string)
set_option maxRecDepth 100000
theorem check_implU (x : FNode) (hw : x.wt ≤ 1000000000) (us : List Value) (w : World) (B : Nat) (hmx : MaxAt w) (hB0 : B ≤ w.heap.size) (hr : RdVs w B x.c us) :
  Calls Tryz.prog 21 #[.agg us.toArray] w fun e w' => e = .returned (.int .i64 (csS x)) ∧ Below w.heap.size w w' := by
 rw [← cs_eq]
 exact check_impl x hw (tk_sc x) us w B hmx hB0 hr
theorem zeroBu (w : World) : (zeroValue 4).run Tryz.prog w = .ok (.bool false) w := by kernel_rfl
theorem luR_link {l : List FUnit} {w wo w' : World} {R : Int × List FClass} {A : Option Addr} {c : Nat} (h : luF l = R) (hb : Below w.heap.size w wo) (h2 : Below wo.heap.size wo w') (own : OwnI w' wo.heap.size w'.heap.size [.s 56 4 R.2.length (FClass.flat R.2)] [.slice A R.2.length c]) :
  LuR l w w' (.returned (.tuple #[.slice A R.2.length c, .int .i64 R.1])) := by
 subst h
 exact ⟨A, c, rfl, own.wide hb.size nr, hb.trans (h2.mono hb.size)⟩
theorem LinkUnits_impl (l : List FUnit) (hw : l.length + FUnit.wts l ≤ 1048576) (u : Value) (w : World) {B : Nat} (hB0 : B ≤ w.heap.size) (hmx : MaxAt w) (hr : RdC w B (.s 46 5 l.length (FUnit.flat l)) u) :
  Calls Tryz.prog 7 #[u] w fun e w' => LuR l w w' e := by
 obtain ⟨A, c, rfl⟩ := hr.form
 have HR := hid (hr.up hB0)
 have hn : l.length ≤ 9223372036854775807 := qaa
 have hbw := body_wts l
 clear hr
 by_cases hmany : 8 < l.length
 ·have HG := hid (luF_many hmany)
  have h8 : (8 : Int) < (l.length : Int) := qaa
  clear hmany
  go_enter Tryz.func7, Tryz.ntmps7
  go_wp2_with fail
  refine bodyPost_ret (v := .tuple #[.slice none 0 0, .int .i64 5]) qbh rfl (luR_none HG.out (Below.refl _ _))
 have h8 : ¬ (8 : Int) < (l.length : Int) := qaa
 have HM := hid hmany
 have h88 : l.length ≤ 8 := qaa
 clear hmany
 go_enter Tryz.func7, Tryz.ntmps7
 go_upto_region 4 with fail
 have L0 := LuB.start l w w w.heap.size nr (Below.refl _ _)
 generalize w.alloc (.cells #[] 44) = X0 at *
 go_wp2_with fail
 go_loopw [18, 4] (fun iv v wr => ∃ k : Nat, k ≤ l.length ∧ iv = .int .i64 k ∧ (∀ (j : Nat) (x : FUnit), j < k → l[j]? = some x → unB l j x = true) ∧ LuB l w w.heap.size wr k v) (fun iv _ _ => l.length - (intOf iv).toNat)
 case atStart => exact ⟨0, Nat.zero_le _, rfl, fun j x hj => absurd hj qaa, L0⟩
 case round =>
  clear L0
  obtain ⟨k, hk, rfl, hall, L1⟩ := hrel
  have HALL := hid hall
  clear hall
  obtain ⟨wo, rfl⟩ : ∃ X : World, X = wr := ⟨_, rfl⟩
  by_cases hlt : k < l.length
  ·obtain ⟨x, hx⟩ : ∃ x, l[k]? = some x := ⟨_, List.getElem?_eq_getElem hlt⟩
   obtain ⟨bx, offx, Ex, hbl, hcc⟩ := RdC.at_ FUnit.len HR.out hx
   subst Ex
   have HX := hid hx
   have hxw := FUnit.wts_at l x (List.mem_of_getElem? hx)
   have hx1 := (body_wt x).1
   have hx2 := (body_wt x).2
   have be1 := L1.be
   have hlt2 : (k : Int) < (l.length : Int) := qaa
   have hk0 : (0 : Int) ≤ (k : Int) := qaa
   clear hx
   obtain ⟨z0, ⟨z1, z2, z3, z4⟩⟩ := x
   rw [show (FUnit.body ⟨z0, ⟨z1, z2, z3, z4⟩⟩) = FNode.mk z1 z2 z3 z4 from rfl] at hx1
   rw [show (FUnit.nm ⟨z0, ⟨z1, z2, z3, z4⟩⟩) = z0 from rfl] at hx2
   rw [FUnit.c_eq] at hcc
   obtain ⟨u0, e0, q0⟩ := hcc 0 _ rfl
   obtain rfl := q0.val
   obtain ⟨u1, e1, q1⟩ := hcc 1 _ rfl
   obtain rfl := q1.val
   obtain ⟨u2, e2, q2⟩ := hcc 2 _ rfl
   obtain rfl := q2.val
   obtain ⟨u3, e3, q3⟩ := hcc 3 _ rfl
   obtain rfl := q3.val
   obtain ⟨u4, e4, q4⟩ := hcc 4 _ rfl
   obtain ⟨D, d, rfl⟩ := q4.form
   have c_0 : wo.cell? ⟨bx, offx + k * 5, none⟩ = some (.string z0) := (be1.cell (p := ⟨bx, _, none⟩) hbl).trans e0
   have c_1 : wo.cell? ⟨bx, offx + k * 5 + 1, none⟩ = some (.int .i64 z1) := (be1.cell (p := ⟨bx, _, none⟩) hbl).trans e1
   have c_2 : wo.cell? ⟨bx, offx + k * 5 + 2, none⟩ = some (.int .i64 z2) := (be1.cell (p := ⟨bx, _, none⟩) hbl).trans e2
   have c_3 : wo.cell? ⟨bx, offx + k * 5 + 3, none⟩ = some (.string z3) := (be1.cell (p := ⟨bx, _, none⟩) hbl).trans e3
   have c_4 : wo.cell? ⟨bx, offx + k * 5 + 4, none⟩ = some (.slice D z4.length d) := (be1.cell (p := ⟨bx, _, none⟩) hbl).trans e4
   clear hcc q0 q1 q2 q3 e0 e1 e2 e3 e4
   have RB := hid (ndV (k := z1) (n := z2) (t := z3) q4)
   have HU := hid (show unB l k ⟨z0, ⟨z1, z2, z3, z4⟩⟩ = (isnF z0 && ((fidx FUnit.nm l z0 == (k : Int)) && (csS ⟨z1, z2, z3, z4⟩ == 0))) from rfl)
   have C1 := hid (fun X (h : Below w.heap.size w X) => IsNormal_impl z0 X qaa (hmx.below h))
   have C2 := hid (fun X (h : Below w.heap.size w X) => FindUnit_impl l z0 (.slice (some ⟨bx, offx, none⟩) l.length c) X qaa (B := w.heap.size) h.size (HR.out.on h nr nr))
   have C3 := hid (fun X (h : Below w.heap.size w X) => check_implU (FNode.mk z1 z2 z3 z4) qaa [.int .i64 z1, .int .i64 z2, .string z3, .slice D z4.length d] X w.heap.size (hmx.below h) h.size (RB.out.on h nr nr))
   generalize hp : isnF z0 = p at *
   generalize hf : fidx FUnit.nm l z0 = f at *
   generalize hq : csS ⟨z1, z2, z3, z4⟩ = q at *
   clear hp hf hq q4
   have L2 := L1.below ((Below.refl wo.heap.size wo).alloc nr (.cells #[.string z0, .int .i64 z1, .int .i64 z2, .string z3, .slice D z4.length d] 46))
   have bX := Blk.new wo 46 #[.string z0, .int .i64 z1, .int .i64 z2, .string z3, .slice D z4.length d]
   go_upto_region 7 with fail
   generalize wo.alloc (.cells #[.string z0, .int .i64 z1, .int .i64 z2, .string z3, .slice D z4.length d] 46) = X4 at *
   clear L1 be1 c_0 c_1 c_2 c_3 c_4
   have bX0 := bX.cell 0; have bX1 := bX.cell 1; have bX2 := bX.cell 2; have bX3 := bX.cell 3; have bX4 := bX.cell 4; have bXl := bX.lt
   cases p with
   | false =>
    have HG := hid (luF_bad HM.out HX.out (HU.out.trans rfl))
    go_wp2_with (go_at_call 19; refine (C1.out _ L2.be).mono ?_; rintro e w3 ⟨rfl, hb⟩; have L3 := L2.below hb; replace bX := bX.below hb nr; replace bX0 := bX.cell 0; replace bX1 := bX.cell 1; replace bX2 := bX.cell 2; replace bX3 := bX.cell 3; replace bX4 := bX.cell 4; replace bXl := bX.lt; clear hb)
    refine bodyPost_ret (v := .tuple #[.slice none 0 0, .int .i64 5]) qbh rfl (luR_none HG.out L3.be)
   | true =>
    by_cases hfk : f = (k : Int)
    case neg =>
     have v1 : (f == (k : Int)) = false := beq_false_of_ne hfk
     have v2 : (f != (k : Int)) = true := by simp [bne, v1]
     have v3 : decide (f = (k : Int)) = false := decide_eq_false hfk
     have HG := hid (luF_bad HM.out HX.out (HU.out.trans (by rw [v1]; rfl)))
     go_wp2_with (first | (go_at_call 19; refine (C1.out _ L2.be).mono ?_; rintro e w3 ⟨rfl, hb⟩; have L3 := L2.below hb; replace bX := bX.below hb nr; replace bX0 := bX.cell 0; replace bX1 := bX.cell 1; replace bX2 := bX.cell 2; replace bX3 := bX.cell 3; replace bX4 := bX.cell 4; replace bXl := bX.lt; clear hb) | (go_at_call 20; refine (C2.out _ L3.be).mono ?_; rintro e w4 ⟨rfl, hb⟩; have L4 := L3.below hb; replace bX := bX.below hb nr; replace bX0 := bX.cell 0; replace bX1 := bX.cell 1; replace bX2 := bX.cell 2; replace bX3 := bX.cell 3; replace bX4 := bX.cell 4; replace bXl := bX.lt; clear hb))
     refine bodyPost_ret (v := .tuple #[.slice none 0 0, .int .i64 5]) qbh rfl (luR_none HG.out L4.be)
    case pos =>
     have v1 : (f == (k : Int)) = true := by rw [hfk]; simp
     have v2 : (f != (k : Int)) = false := by simp only [bne, v1]; rfl
     have v3 : decide (f = (k : Int)) = true := decide_eq_true hfk
     clear hfk
     by_cases hq0 : q = 0
     case neg =>
      have q1 : (q == 0) = false := beq_false_of_ne hq0
      have q2 : (q != 0) = true := by simp [bne, q1]
      have q3 : decide (q = 0) = false := decide_eq_false hq0
      have HG := hid (luF_bad HM.out HX.out (HU.out.trans (by rw [v1, q1]; rfl)))
      go_wp2_with (first | (go_at_call 19; refine (C1.out _ L2.be).mono ?_; rintro e w3 ⟨rfl, hb⟩; have L3 := L2.below hb; replace bX := bX.below hb nr; replace bX0 := bX.cell 0; replace bX1 := bX.cell 1; replace bX2 := bX.cell 2; replace bX3 := bX.cell 3; replace bX4 := bX.cell 4; replace bXl := bX.lt; clear hb) | (go_at_call 20; refine (C2.out _ L3.be).mono ?_; rintro e w4 ⟨rfl, hb⟩; have L4 := L3.below hb; replace bX := bX.below hb nr; replace bX0 := bX.cell 0; replace bX1 := bX.cell 1; replace bX2 := bX.cell 2; replace bX3 := bX.cell 3; replace bX4 := bX.cell 4; replace bXl := bX.lt; clear hb) | (go_at_call 21; refine (C3.out _ L4.be).mono ?_; rintro e w5 ⟨rfl, hb⟩; have L5 := L4.below hb; replace bX := bX.below hb nr; replace bX0 := bX.cell 0; replace bX1 := bX.cell 1; replace bX2 := bX.cell 2; replace bX3 := bX.cell 3; replace bX4 := bX.cell 4; replace bXl := bX.lt; clear hb))
      refine bodyPost_ret (v := .tuple #[.slice none 0 0, .int .i64 5]) qbh rfl (luR_none HG.out L5.be)
     case pos =>
      have HOK := hid (HU.out.trans (by rw [v1, hq0]; rfl) : unB l k ⟨z0, ⟨z1, z2, z3, z4⟩⟩ = true)
      subst hq0
      go_upto_region 9 with (first | (go_at_call 19; refine (C1.out _ L2.be).mono ?_; rintro e w3 ⟨rfl, hb⟩; have L3 := L2.below hb; replace bX := bX.below hb nr; replace bX0 := bX.cell 0; replace bX1 := bX.cell 1; replace bX2 := bX.cell 2; replace bX3 := bX.cell 3; replace bX4 := bX.cell 4; replace bXl := bX.lt; clear hb) | (go_at_call 20; refine (C2.out _ L3.be).mono ?_; rintro e w4 ⟨rfl, hb⟩; have L4 := L3.below hb; replace bX := bX.below hb nr; replace bX0 := bX.cell 0; replace bX1 := bX.cell 1; replace bX2 := bX.cell 2; replace bX3 := bX.cell 3; replace bX4 := bX.cell 4; replace bXl := bX.lt; clear hb) | (go_at_call 21; refine (C3.out _ L4.be).mono ?_; rintro e w5 ⟨rfl, hb⟩; have L5 := L4.below hb; replace bX := bX.below hb nr; replace bX0 := bX.cell 0; replace bX1 := bX.cell 1; replace bX2 := bX.cell 2; replace bX3 := bX.cell 3; replace bX4 := bX.cell 4; replace bXl := bX.lt; clear hb))
      obtain ⟨A5, c5, us5, ev, o5, r5, b5⟩ := L5
      subst ev
      have HB5 := hid b5
      have HR5 := hid r5
      have HV5 := hid (fun g (e : (Value.slice A5 k c5).ownBlock = some g) => (World.ownsRow.lt o5 g e).1)
      have OW := hid (World.ownsRow.alloc o5 (.cells #[.int .i64 z1, .int .i64 z2, .string z3, .slice D z4.length d] 44))
      have RN := hid (rd_new w5 44 4 [.int .i64 z1, .int .i64 z2, .string z3, .slice D z4.length d] rfl)
      have ON := hid (show ∀ u ∈ ([.int .i64 z1, .int .i64 z2, .string z3, .slice D z4.length d] : List Value), u.oneCell' = true from by intro u hu; simp only [List.mem_cons, List.not_mem_nil, or_false] at hu; rcases hu with rfl | rfl | rfl | rfl <;> rfl)
      have hw6 : w.heap.size ≤ (w5.alloc (.cells #[.int .i64 z1, .int .i64 z2, .string z3, .slice D z4.length d] 44)).heap.size := Nat.le_trans b5.size qag
      clear L2 L3 L4 o5 r5 b5 C1 C2 C3
      go_wp2_with (at_builtin; go_must (refine wpList_append_rd _ rfl (.tmp 41) (.tmp 44) _ rfl w.heap.size _ _ _ 56 Tryz.underlying41 infoNodeU rfl qaa (.slice A5 k c5) k us5 rfl OW.out (w5.heap.size + 1) _ 1 1 [.int .i64 z1, .int .i64 z2, .string z3, .slice D z4.length d] rfl RN.out ON.out qao qaa hw6 ?_); intro v7 w7 own7 hg7 hat)
      go_roundw
      case rel =>
       exact ⟨k + 1, by omega, by go_num, fun j x hj hjx => by
        by_cases e : j = k
        ·exact zz130
        ·exact HALL.out j x qaa hjx, LuB.next HX.out (HB5.out.alloc HB5.out.size _) HR5.out RB.out own7 hg7 HV5.out⟩
      case measure => simp [intOf]; omega
  ·obtain rfl : k = l.length := qaa
   clear hlt
   have UA := hid (show unsA l from fun i u hu => HALL.out i u (List.getElem?_eq_some_iff.1 hu).1 hu)
   have RD := L1.read
   have B1 := L1.be
   clear L1 HALL
   obtain ⟨bs, hbs⟩ : ∃ bs, l.map FUnit.body = bs := ⟨_, rfl⟩
   have hbl : bs.length = l.length := by rw [← hbs, List.length_map]
   rw [hbs] at RD hbw
   have GO := hid (fun h => (luF_go HM.out UA.out h).trans (by rw [hbs]) : (fnA (l.map FUnit.body)).Nodup → luF l = linkL bs)
   have DUP := hid (fun h => luF_dup HM.out UA.out h)
   rw [hbs] at GO DUP
   clear hbs UA
   obtain ⟨A1, c1, ev⟩ := RD.form
   subst ev
   have hB1 := hid B1
   have RDh := hid RD
   have hwo : w.heap.size ≤ wo.heap.size := B1.size
   have MX := hid (fun X (h : Below wo.heap.size wo X) => hmx.below (B1.trans (h.mono hwo)))
   have hbn : bs.length ≤ 9223372036854775807 := qaa
   clear B1 RD
   rw [← hbl]
   have hbw3 : bs.length + FNode.wts bs ≤ 1048576 := qaa
   have HBL := hid hbl
   clear hbl hbw
   have hmm := @run_makeMap Tryz.prog
   go_upto_region 12 with fail
   clear hmm
   have S0 : Seen Tryz.prog 9 4 (wo.alloc (.map #[] 0)) wo.heap.size 0 [] := Seen.made wo
   have B0 : Below wo.heap.size wo (wo.alloc (.map #[] 0)) := (Below.refl _ _).alloc nr _
   generalize wo.alloc (.map #[] 0) = X1 at *
   go_wp2_with fail
   go_loopw [50] (fun iv wr => ∃ k : Nat, k ≤ bs.length ∧ iv = .int .i64 k ∧ (fnA (bs.take k)).Nodup ∧ Seen Tryz.prog 9 4 wr wo.heap.size (fnA (bs.take k)).length (fnA (bs.take k)).reverse ∧ Below wo.heap.size wo wr) (fun iv _ => bs.length - (intOf iv).toNat)
   case atStart => exact ⟨0, Nat.zero_le _, rfl, by rw [List.take_zero]; exact List.nodup_nil, by rw [List.take_zero]; exact S0, B0⟩
   case round =>
    clear S0 B0
    obtain ⟨k, hk, rfl, hnd, hs, hb⟩ := hrel
    obtain ⟨wb, rfl⟩ : ∃ X : World, X = wr := ⟨_, rfl⟩
    by_cases hlt : k < bs.length
    ·obtain ⟨x, hx⟩ : ∃ x, bs[k]? = some x := ⟨_, List.getElem?_eq_getElem hlt⟩
     obtain ⟨bx, offx, Ex, hbx, hcc⟩ := RdC.at_ FNode.len RDh.out hx
     subst Ex
     have HX := hid hx
     have hxw := FNode.wts_at bs x (List.mem_of_getElem? hx)
     have hkw := kids_wt x
     have hlt2 : (k : Int) < (bs.length : Int) := qaa
     have hk0 : (0 : Int) ≤ (k : Int) := qaa
     have NL := hid (fun j => nmK_len hx j)
     have HKD := hid (fun y (hy : y ∈ x.kids) => (kid_wt hy))
     have EN := hid (nmK_end hx)
     have DU := hid (fun j y (hy : x.kids[j]? = some y) (hf : isFnU y = true) (hm : y.tx.toList ∈ nmK bs k x.kids j) => DUP.out (nmK_dup hx hy hf hm))
     rw [← nmK_zero bs k x.kids] at hnd hs
     clear hx
     obtain ⟨z1, z2, z3, z4⟩ := x
     obtain ⟨D, d, c_0, c_1, c_2, c_3, q4⟩ := opN hb hbx hcc (offx + k * 4) (offx + k * 4 + 1) (offx + k * 4 + 2) (offx + k * 4 + 3) qaa
     have QX := hid q4
     rw [show (FNode.mk z1 z2 z3 z4).kids = z4 from rfl] at hkw NL HKD EN DU hnd hs
     have hz4 : z4.length ≤ 9223372036854775807 := qaa
     have S2 := hs.alloc (.cells #[.int .i64 z1, .int .i64 z2, .string z3, .slice D z4.length d] 44)
     have B2 := hb.alloc hb.size (.cells #[.int .i64 z1, .int .i64 z2, .string z3, .slice D z4.length d] 44)
     have bX := Blk.new wb 44 #[.int .i64 z1, .int .i64 z2, .string z3, .slice D z4.length d]
     clear hcc q4 hs hb
     go_upto_region 15 with fail
     generalize wb.alloc (.cells #[.int .i64 z1, .int .i64 z2, .string z3, .slice D z4.length d] 44) = X4 at *
     have bX3 := bX.cell 3; have bXl := bX.lt
     clear c_0 c_1 c_2 c_3
     go_wp2_with fail
     go_loopw [57] (fun iv wr => ∃ j : Nat, j ≤ z4.length ∧ iv = .int .i64 j ∧ (nmK bs k z4 j).Nodup ∧ Seen Tryz.prog 9 4 wr wo.heap.size (nmK bs k z4 j).length (nmK bs k z4 j).reverse ∧ Below wo.heap.size wo wr) (fun iv _ => z4.length - (intOf iv).toNat)
     case atStart => exact ⟨0, Nat.zero_le _, rfl, hnd, S2, B2⟩
     case round =>
      clear S2 B2 bX bX3 bXl hnd
      obtain ⟨j, hj, rfl, hnd, hs, hb⟩ := hrel
      have HND := hid hnd
      clear hnd
      obtain ⟨wi, rfl⟩ : ∃ X : World, X = wr := ⟨_, rfl⟩
      by_cases hjt : j < z4.length
      ·obtain ⟨y, hy⟩ : ∃ y, z4[j]? = some y := ⟨_, List.getElem?_eq_getElem hjt⟩
       obtain ⟨by_, offy, Ey, hby, hcc⟩ := RdC.at_ FNode.len QX.out hy
       subst Ey
       have hyw := (HKD.out y (List.mem_of_getElem? hy)).1
       have hjt2 : (j : Int) < (z4.length : Int) := qaa
       have hj0 : (0 : Int) ≤ (j : Int) := qaa
       have hnl := NL.out j
       have HY := hid hy
       clear hy
       obtain ⟨y0, y1, y2, y3⟩ := y
       have hyt : y2.size ≤ 1048576 := by have := (kid_wt (x := FNode.mk z1 z2 z3 z4) (List.mem_of_getElem? HY.out)).1; have e : (FNode.mk y0 y1 y2 y3).wt = _ := FNode.wt_eq y0 y1 y2 y3; omega
       have hsm : y2.size ≤ maxLen := by unfold maxLen; omega
       have hnm : (nmK bs k z4 j).length < maxLen := by unfold maxLen; omega
       obtain ⟨Dy, dy, d_0, d_1, d_2, d_3, q3y⟩ := opN hb hby hcc (offy + j * 4) (offy + j * 4 + 1) (offy + j * 4 + 2) (offy + j * 4 + 3) qaa
       have S3 := hs.alloc (.cells #[.int .i64 y0, .int .i64 y1, .string y2, .slice Dy y3.length dy] 44)
       have B3 := hb.alloc hb.size (.cells #[.int .i64 y0, .int .i64 y1, .string y2, .slice Dy y3.length dy] 44)
       have bY := Blk.new wi 44 #[.int .i64 y0, .int .i64 y1, .string y2, .slice Dy y3.length dy]
       clear hcc q3y hs hb
       go_upto_region 18 with fail
       generalize wi.alloc (.cells #[.int .i64 y0, .int .i64 y1, .string y2, .slice Dy y3.length dy] 44) = X5 at *
       have bY0 := bY.cell 0; have bY2 := bY.cell 2; have bYl := bY.lt
       clear d_0 d_1 d_2 d_3 bY
       have SE := hid S3
       have HB3 := hid B3
       have hX5 := B3.size
       clear S3 B3
       by_cases h49 : y0 = 49
       case neg =>
        have e1 : (y0 == 49) = false := beq_false_of_ne h49
        have e2 : (y0 != 49) = true := by simp [bne, e1]
        have e3 : decide (y0 = 49) = false := decide_eq_false h49
        have NN := hid (nmK_no (bs := bs) (k := k) HY.out (show isFnU ⟨y0, y1, y2, y3⟩ = false from e1))
        clear h49
        go_wp2_with fail
        go_roundw
        case rel => exact ⟨j + 1, by omega, by go_num, by rw [NN.out]; exact HND.out, by rw [NN.out]; exact SE.out, HB3.out⟩
        case measure => simp [intOf]; omega
       case pos =>
        subst h49
        have hif : isFnU ⟨49, y1, y2, y3⟩ = true := rfl
        have hrv := has_rev (nmK bs k z4 j) y2.toList
        cases hh : hasS (nmK bs k z4 j).reverse y2.toList with
        | true =>
         have HAS := hid hh
         have HG := hid (DU.out j ⟨49, y1, y2, y3⟩ HY.out hif (hrv.1 hh))
         clear hrv hh
         go_wp2_with (at_lookup; refine wpList_look_seen _ rfl _ _ 51 rfl 9 4 Tryz.underlying9 Tryz.underlying4 zeroBu Tryz.underlying51 wo.heap.size (nmK bs k z4 j).length (nmK bs k z4 j).reverse rfl SE.out y2 hsm rfl ?_; rw [HAS.out])
         refine bodyPost_ret (v := .tuple #[.slice none 0 0, .int .i64 1]) qbh rfl (luR_none HG.out (hB1.out.trans (HB3.out.mono hwo)))
        | false =>
         have HAS := hid hh
         have NN := hid (nmK_yes (bs := bs) (k := k) HY.out hif)
         have HN2 := hid (nodup_one HND.out (fun h => by have := hrv.2 h; rw [hh] at this; cases this))
         clear hrv hh
         go_wp2_with (first | (at_lookup; refine wpList_look_seen _ rfl _ _ 51 rfl 9 4 Tryz.underlying9 Tryz.underlying4 zeroBu Tryz.underlying51 wo.heap.size (nmK bs k z4 j).length (nmK bs k z4 j).reverse rfl SE.out y2 hsm rfl ?_; rw [HAS.out]) | (at_mapUpdate; refine wpList_put_seen _ rfl _ _ _ 51 rfl 9 4 Tryz.underlying9 Tryz.underlying4 Tryz.underlying51 wo.heap.size (nmK bs k z4 j).length (nmK bs k z4 j).reverse rfl SE.out hnm y2 hsm rfl rfl ?_; intro w9 hse hg9))
         go_roundw
         case rel => exact ⟨j + 1, by omega, by go_num, by rw [NN.out]; exact HN2.out, by rw [NN.out, List.length_append, List.reverse_append]; exact hse, HB3.out.grown hg9 hX5 (fun g e => by have e9 : wo.heap.size = g := Option.some.inj e; omega)⟩
         case measure => simp [intOf]; omega
      ·obtain rfl : j = z4.length := qaa
       rw [EN.out] at HND hs
       have SE := hid hs
       have HB3 := hid hb
       clear hs hb
       go_wp2_with fail
       go_roundw
       case rel => exact ⟨k + 1, by omega, by go_num, HND.out, SE.out, HB3.out⟩
       case measure => simp [intOf]; omega
    ·obtain rfl : k = bs.length := qaa
     rw [List.take_length] at hnd
     have LF := GO.out hnd
     have LC := hid (LinkW_impl bs (.slice A1 bs.length c1) wb qaa (B := wo.heap.size) (MX.out _ hb) hb.size (RDh.out.on hb nr nr))
     generalize linkL bs = R at *
     have HLF := hid LF
     have HB := hid hb
     have hbz := hb.size
     clear LF hnd hs hb
     go_wp2_with (go_at_call 22; refine LC.out.mono ?_; rintro e w9 ⟨A9, c9, rfl, own9, hb9⟩; have OW9 := hid own9; have HB9 := hid hb9; clear own9 hb9)
     refine bodyPost_ret (v := .tuple #[.slice A9 R.2.length c9, .int .i64 R.1]) qbh rfl (luR_link HLF.out hB1.out (HB.out.trans (HB9.out.mono hbz)) (OW9.out.wide hbz nr))
end Go.Proofs.YtkkjnfappndmpaaGreatDoor
