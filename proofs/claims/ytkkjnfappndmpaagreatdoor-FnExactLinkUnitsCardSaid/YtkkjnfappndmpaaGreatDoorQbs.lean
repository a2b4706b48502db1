/-
 Parts of the proof: LmL, Nil, LkW. Conditions: none.
-/
import Derived.Test.YtkkjnfappndmpaaGreatDoorQFold
import Derived.Test.YtkkjnfappndmpaaGreatDoorQbr
import Derived.Test.YtkkjnfappndmpaaGreatDoorQbo
import Derived.Test.YtkkjnfappndmpaaGreatDoorQae
import Derived.Test.YtkkjnfappndmpaaGreatDoorQbt
import Derived.Test.YtkkjnfappndmpaaGreatDoorQbu
import Derived.Test.YtkkjnfappndmpaaGreatDoorQbf
set_option linter.unusedVariables false
set_option linter.unusedSimpArgs false
namespace Go.Proofs.YtkkjnfappndmpaaGreatDoor
set_option maxHeartbeats 40000000
open Lib (hid)
open Go.ChangeShapes Go.WideShapes Go.ChangeAt Go.RowKit Go.Deep Go.Joins
open Go.ChangeMaps (open_string shut_string)
set_option maxRecDepth 100000
theorem owni_emp0 {w X : World} (h : Below w.heap.size w X) : OwnI (X.alloc (.cells #[] 56)) w.heap.size (X.alloc (.cells #[] 56)).heap.size [.s 56 4 ([] : List FClass).length (FClass.flat [])] [.slice (some ⟨X.heap.size, 0, none⟩) 0 0] := by
 have hs := h.size
 refine ⟨[X.heap.size], OwnL.one (by simpa [ownB, Value.ownBlock] using OwnC.mk (ownsRow_leC (own_empty X 56 4) hs) (OwnL.nil _)), by simp, fun b hb => ?_⟩
 rw [List.mem_singleton.1 hb]
 exact ⟨hs, by simp⟩
theorem below_emp0 {w X : World} (h : Below w.heap.size w X) : Below w.heap.size w (X.alloc (.cells #[] 56)) := h.alloc h.size _
theorem owni_emp1 {w X : World} {o : Obj} (h : Below w.heap.size w X) : OwnI ((X.alloc o).alloc (.cells #[] 56)) w.heap.size ((X.alloc o).alloc (.cells #[] 56)).heap.size [.s 56 4 ([] : List FClass).length (FClass.flat [])] [.slice (some ⟨X.heap.size + 1, 0, none⟩) 0 0] := by
 have h1 := owni_emp0 (h.alloc h.size o)
 rwa [show (X.alloc o).heap.size = X.heap.size + 1 from by simp] at h1
theorem below_emp1 {w X : World} {o : Obj} (h : Below w.heap.size w X) : Below w.heap.size w ((X.alloc o).alloc (.cells #[] 56)) := below_emp0 (h.alloc h.size o)
theorem LinkClasses_spec (l : List FNode) (hw : l.length + FNode.wts l ≤ 900000000) (A : Option Addr) (c : Nat) (w : World) {B : Nat} (hB0 : B ≤ w.heap.size) (hr : RdC w B (.s 44 4 l.length (FNode.flat l)) (.slice A l.length c)) :
  Calls Tryz.prog 17 #[.slice A l.length c] w fun e w' => ∃ A' n c', e = .returned (.tuple #[.slice A' n c', .int .i64 (linkL l).1]) ∧ OwnI w' w.heap.size w'.heap.size [.s 56 4 (linkL l).2.length (FClass.flat (linkL l).2)] [.slice A' n c'] ∧ Below w.heap.size w w' := by
 have HR := hid hr
 clear hr
 go_enter Tryz.func17, Tryz.ntmps17
 go_upto_region 3 with (go_at_call 35; refine (err_spec _).mono ?_; rintro e w1 ⟨rfl, hF, hb⟩; have HF := hid hF; have HB1 := hid hb; clear hF hb)
 have T0 := two_errS HF.out HB1.out rfl rfl
 have b0 : Below w.heap.size w ((w1.alloc (.cells #[.string ⟨#[69, 114, 114, 111, 114]⟩, .string ⟨#[]⟩, .slice (some ⟨w.heap.size + 1, 0, none⟩) 1 1, .slice none 0 0] 56)).alloc (.cells #[] 56)) := (HB1.out.alloc HB1.out.size _).alloc (by have := HB1.out.size; simp; omega) _
 obtain ⟨N, hN⟩ : ∃ N, N = FNode.wts l + 1 := ⟨_, rfl⟩
 have G0 := link_start l N qaa
 have hN9 : N ≤ 900000001 := qaa
 have hGl : (namesG l).length ≤ 1000000000 := by have := names_len l; omega
 generalize (w1.alloc (.cells #[.string ⟨#[69, 114, 114, 111, 114]⟩, .string ⟨#[]⟩, .slice (some ⟨w.heap.size + 1, 0, none⟩) 1 1, .slice none 0 0] 56)).alloc (.cells #[] 56) = X3 at *
 have L0 : LcT l N w X3 (nodesL (l.drop 0)) (.slice (some ⟨w1.heap.size, 0, none⟩) 1 1) (.slice (some ⟨w1.heap.size + 1, 0, none⟩) 0 0) := ⟨_, _, _, _, _, _, rfl, rfl, T0, G0, rfl, b0⟩
 clear T0 G0 b0 hN
 go_wp2_with fail
 go_loopw [6, 4, 5] (fun iv u v wr => ∃ k : Nat, k ≤ l.length ∧ iv = .int .i64 k ∧ LcT l N w wr (nodesL (l.drop k)) u v) (fun iv _ _ _ => l.length - (intOf iv).toNat)
 case atStart => exact ⟨0, Nat.zero_le _, rfl, L0⟩
 case round =>
  clear L0
  obtain ⟨k, hk, rfl, L1⟩ := hrel
  obtain ⟨wo, rfl⟩ : ∃ X : World, X = wr := ⟨_, rfl⟩
  by_cases hlt : k < l.length
  ·obtain ⟨x, hx⟩ : ∃ x, l[k]? = some x := ⟨_, List.getElem?_eq_getElem hlt⟩
   obtain ⟨bx, offx, Ex, hbl, hcc⟩ := RdC.at_ FNode.len HR.out hx
   subst Ex
   have hwx : x.wt ≤ 1000000000 := by have := FNode.wts_at l x (List.mem_of_getElem? hx); omega
   have SC := hid (script_spec x hwx)
   have ND := hid (nodes_drop hx)
   have hkw : x.kids.length ≤ 1000000000 := by have := kids_wt x; omega
   have HKW := hid (fun y (hy : y ∈ x.kids) => show y.kids.length ≤ 1000000000 from by have := (kid_wt hy).1; have := kids_wt y; omega)
   have hlt2 : (k : Int) < (l.length : Int) := qaa
   have hk0 : (0 : Int) ≤ (k : Int) := qaa
   obtain ⟨z0, z1, z2, z3⟩ := x
   have hz3l : z3.length ≤ 1000000000 := hkw
   obtain ⟨D, d, -, -, -, -, q3⟩ := opN (Below.refl w.heap.size w) (Nat.lt_of_lt_of_le hbl hB0) hcc (offx + k * 4) (offx + k * 4 + 1) (offx + k * 4 + 2) (offx + k * 4 + 3) qaa
   have QX := hid q3
   have XC := hid (fun (X : World) (hb : Below w.heap.size w X) => show ∃ D', ∃ d', X.cell? ⟨bx, offx + k * 4, none⟩ = some (.int .i64 z0) ∧ X.cell? ⟨bx, offx + k * 4 + 1, none⟩ = some (.int .i64 z1) ∧ X.cell? ⟨bx, offx + k * 4 + 2, none⟩ = some (.string z2) ∧ X.cell? ⟨bx, offx + k * 4 + 3, none⟩ = some (.slice D' z3.length d') ∧ RdC w B (.s 44 4 z3.length (FNode.flat z3)) (.slice D' z3.length d') from opN hb (Nat.lt_of_lt_of_le hbl hB0) hcc (offx + k * 4) (offx + k * 4 + 1) (offx + k * 4 + 2) (offx + k * 4 + 3) qaa)
   clear hcc hx q3 QX
   generalize hs : scF ⟨z0, z1, z2, z3⟩ = sb at *
   go_wp2_with fail
   cases sb with
   | false =>
    have ND2 : nodesL (l.drop k) = nodesL (l.drop (k + 1)) := by rw [ND.out]; rfl
    rw [ND2] at L1
    clear ND ND2
    go_loopw [7, 4, 5] (fun iv u v wr => iv = .int .i64 0 ∧ LcT l N w wr (nodesL (l.drop (k + 1))) u v) (fun iv _ _ _ => 0)
    case atStart => exact ⟨rfl, L1⟩
    case round =>
     clear L1
     obtain ⟨rfl, L4⟩ := hrel
     obtain ⟨D2, d2, x0, x1, x2, x3, qq⟩ := XC.out wr L4.be
     have CALL := hid (SC.out [.int .i64 z0, .int .i64 z1, .string z2, .slice D2 z3.length d2] wr w.heap.size L4.be.size (ndV (qq.on L4.be hB0 hB0)))
     have L4h := hid L4
     clear L4 qq
     go_wp2_with (go_at_call 33; refine CALL.out.mono ?_; rintro e w4 ⟨rfl, hb⟩; have L5 := hid (L4h.out.below hb); clear hb)
     go_roundw
     case rel => exact ⟨k + 1, by omega, by go_num, L5.out⟩
     case measure => simp [intOf]; omega
   | true =>
    have ND2 : nodesL (l.drop k) = z3 ++ nodesL (l.drop (k + 1)) := by rw [ND.out]; rfl
    rw [ND2] at L1
    clear ND ND2
    obtain ⟨RS, hRS⟩ : ∃ RS, nodesL (l.drop (k + 1)) = RS := ⟨_, rfl⟩
    rw [hRS] at L1
    have HRS := hid hRS
    clear hRS
    go_loopw [7, 4, 5] (fun iv u v wr => ∃ m : Nat, m ≤ z3.length ∧ iv = .int .i64 m ∧ LcT l N w wr (z3.drop m ++ RS) u v) (fun iv _ _ _ => z3.length - (intOf iv).toNat)
    case atStart => exact ⟨0, Nat.zero_le _, rfl, L1⟩
    case round =>
     clear L1
     obtain ⟨m, hm, rfl, L4⟩ := hrel
     obtain ⟨wj, rfl⟩ : ∃ X : World, X = wr := ⟨_, rfl⟩
     have hm0 : (0 : Int) ≤ (m : Int) := qaa
     obtain ⟨D, d, x0_, x1_, x2_, x3_, qq⟩ := XC.out wj L4.be
     have CALL := hid (SC.out [.int .i64 z0, .int .i64 z1, .string z2, .slice D z3.length d] wj w.heap.size L4.be.size (ndV (qq.on L4.be hB0 hB0)))
     have QX := hid qq
     have XC3 := hid (fun (X : World) (hb : Below wj.heap.size wj X) => show X.cell? ⟨bx, offx + k * 4 + 3, none⟩ = some (.slice D z3.length d) from (hb.cell (p := ⟨bx, offx + k * 4 + 3, none⟩) (Nat.lt_of_lt_of_le (Nat.lt_of_lt_of_le hbl hB0) L4.be.size)).trans x3_)
     have L4h := hid L4
     clear L4 qq
     by_cases hmt : m < z3.length
     ·obtain ⟨y, hy⟩ : ∃ y, z3[m]? = some y := ⟨_, List.getElem?_eq_getElem hmt⟩
      obtain ⟨by_, offy, Ey, hbly, hcc⟩ := RdC.at_ FNode.len QX.out hy
      subst Ey
      have HY := hid hy
      have hmt2 : (m : Int) < (z3.length : Int) := qaa
      obtain ⟨y0, y1, y2, y3⟩ := y
      go_upto_region 9 with (go_at_call 33; refine CALL.out.mono ?_; rintro e wi ⟨rfl, hb⟩; have L4 := L4h.out.below hb; have x3n := XC3.out _ hb; clear hb)
      rw [show z3.drop m ++ RS = FNode.mk y0 y1 y2 y3 :: (z3.drop (m + 1) ++ RS) from by rw [drop_cons hy]; rfl] at L4
      have bw : ∀ o, Below wi.heap.size wi (wi.alloc o) := fun o => (Below.refl _ _).alloc nr o
      obtain ⟨Dy, dy, d_0, d_1, d_2, d_3, q3y⟩ := opN L4.be (Nat.lt_of_lt_of_le hbly hB0) hcc (offy + m * 4) (offy + m * 4 + 1) (offy + m * 4 + 2) (offy + m * 4 + 3) qaa
      clear hcc hy x0_ x1_ x2_ x3_ CALL
      by_cases h50 : y0 = 50
      ·subst h50
       have L5 := L4.below (bw (.cells #[.int .i64 50, .int .i64 y1, .string y2, .slice Dy y3.length dy] 44))
       have bY := Blk.new wi 44 #[.int .i64 50, .int .i64 y1, .string y2, .slice Dy y3.length dy]
       have BYS := hid (show wi.heap.size < (wi.alloc (.cells #[.int .i64 50, .int .i64 y1, .string y2, .slice Dy y3.length dy] 44)).heap.size from by simp)
       go_upto_region 10 with fail
       generalize wi.alloc (.cells #[.int .i64 50, .int .i64 y1, .string y2, .slice Dy y3.length dy] 44) = X5 at *
       obtain ⟨K, J, AK, cK, AJ, cJ, eu, ev, T1, G1, E1, B1⟩ := L5
       subst eu ev
       have hg := G1.top ⟨50, y1, y2, y3⟩ (List.mem_cons_self ..)
       have hnc := G1.nc
       have hnt := G1.nt
       rw [List.length_map] at hnc hnt
       have hKl : K.length ≤ 900000001 := qaa
       have hJl : J.length ≤ 900000001 := qaa
       have PLK := hid (fun p (hp : p ∈ K) => show PlC p.1 from fun x hx => ((G1.gc p.1 (List.mem_map.2 ⟨p, hp, rfl⟩)).f.mem x hx).1)
       have PLJ := hid (fun p (hp : p ∈ J) => show PlC p.1 from fun x hx => ((G1.gt p.1 (List.mem_map.2 ⟨p, hp, rfl⟩)).f.mem x hx).1)
       have RKK := hid T1.a.rdK
       have RKJ := hid T1.b.rdK
       have FI := hid (fun (s : ByteArray) X (hb : Below X5.heap.size X5 X) => find_K K s AK cK X5 X qaa RKK.out PLK.out hb)
       have FJ := hid (fun (s : ByteArray) X (hb : Below X5.heap.size X5 X) => find_K J s AJ cJ X5 X qaa RKJ.out PLJ.out hb)
       have hcl := top_cl hg.1 (.inl rfl)
       have T1h := hid T1
       have G1h := hid G1
       have E1h := hid E1
       have B1h := hid B1
       have hkl3 : y3.length ≤ 1000000000 := HKW.out _ (List.mem_of_getElem? HY.out)
       have HCLO := hid hcl
       have bYl := bY.lt
       have bY0 := bY.cell 0; have bY1 := bY.cell 1; have bY2 := bY.cell 2; have bY3 := bY.cell 3; have bYl := bY.lt; have bYf := fun i => bY.frozen i
       have B5 := hid (Below.refl X5.heap.size X5)
       clear T1 G1 E1 L4 hnc hnt bw hcl PLK PLJ
       cases hbad : badN (K.map Prod.fst) (J.map Prod.fst) y2 with
       | true =>
        have EB := hid (show linkL l = (1, []) from by rw [E1h.out, addK_bad (.inl rfl) (by rw [linkC_1 hbad]; decide), linkC_1 hbad])
        exact zz11
       | false =>
        have hq : (y2.toList == [115, 101, 108, 102] || (y2.toList == [112, 97, 114, 101, 110, 116] || (decide (0 ≤ fidx FClass.nm (K.map Prod.fst) y2) || decide (0 ≤ fidx FClass.nm (J.map Prod.fst) y2)))) = false := hbad
        have HBD := hid hbad
        simp only [Bool.or_eq_false_iff] at hq
        obtain ⟨h1, h2, h3, h4⟩ := hq
        have F1 := hid (FI.out y2)
        have F2 := hid (FJ.out y2)
        clear hbad FJ
        generalize fidx FClass.nm (K.map Prod.fst) y2 = fi at *
        generalize fidx FClass.nm (J.map Prod.fst) y2 = fj at *
        have tok1 : True := trivial
        go_upto_region 13 with (first | (have _q := tok2; go_at_call 36; refine (F2.out _ HB1.out).mono ?_; rintro e w2 ⟨rfl, hb, hb2⟩; have HB2 := hid hb2; replace bY := bY.below hb nr; have bY2 := bY.cell 2; clear hb hb2) | (go_at_call 36; refine (F1.out _ B5.out).mono ?_; rintro e w1 ⟨rfl, hb, hb2⟩; have HB1 := hid hb2; replace bY := bY.below hb nr; have bY2 := bY.cell 2; have tok2 : True := trivial; clear hb hb2))
        go_upto_region 14 with fail
        have bX9 := Blk.new w2 56 #[.string ⟨#[]⟩, .string ⟨#[]⟩, .slice none 0 0, .slice none 0 0]
        have HB3 := hid (HB2.out.alloc HB2.out.size (.cells #[.string ⟨#[]⟩, .string ⟨#[]⟩, .slice none 0 0, .slice none 0 0] 56))
        replace bY := bY.alloc (.cells #[.string ⟨#[]⟩, .string ⟨#[]⟩, .slice none 0 0, .slice none 0 0] 56)
        clear bY2 bY0 bY1 bY3 bYl bYf F1 F2 HB1
        generalize w2.alloc (.cells #[.string ⟨#[]⟩, .string ⟨#[]⟩, .slice none 0 0, .slice none 0 0] 56) = W8 at *
        have bYl := bY.lt
        have bY0 := bY.cell 0; have bY1 := bY.cell 1; have bY2 := bY.cell 2; have bY3 := bY.cell 3; have bYl := bY.lt; have bYf := fun i => bY.frozen i
        have bX90 := bX9.cell 0; have bX91 := bX9.cell 1; have bX92 := bX9.cell 2; have bX93 := bX9.cell 3; have bX9l := bX9.lt; have bX9f := fun i => bX9.frozen i
        by_cases hx52 : (hdN y3).kd = 52
        ·obtain ⟨y, hy0⟩ : ∃ y, y3[0]? = some y := by
          exact zz135
         have hhd := hdN_0 hy0
         rw [hhd] at hx52
         have hlen : 0 < y3.length := (List.getElem?_eq_some_iff.1 hy0).1
         obtain ⟨bq, offq, Eq_, hblq, hcq⟩ := RdC.at_ FNode.len q3y hy0
         subst Eq_
         obtain ⟨x0, x1, x2, x3⟩ := y
         obtain rfl : x0 = 52 := hx52
         have BW8 := hid (B1h.out.trans (HB3.out.mono B1h.out.size))
         obtain ⟨Dq, dq, u0, u1, u2, u3, -⟩ := opN BW8.out (Nat.lt_of_lt_of_le hblq hB0) hcq (offq) (offq + 1) (offq + 2) (offq + 3) qaa
         have QC := hid (fun (X : World) (hb : Below w.heap.size w X) => show X.cell? ⟨bq, offq, none⟩ = some (.int .i64 52) ∧ X.cell? ⟨bq, offq + 2, none⟩ = some (.string x2) from by
          exact zz133)
         have hlen2 : (0 : Int) < (y3.length : Int) := qaa
         have F3 := hid (FI.out x2)
         rcases fidx_lt FClass.nm (K.map Prod.fst) x2 with hi | ⟨i, c9, hi, hil, hci⟩
         ·have EB := hid (show linkL l = (2, []) from by
           have hn : linkC ⟨50, y1, y2, y3⟩ (K.map Prod.fst) (J.map Prod.fst) = (2, ⟨⟨#[]⟩, ⟨#[]⟩, [], []⟩) := linkC_none HBD.out (parC_no hy0 hi)
           rw [E1h.out, addK_bad (.inl rfl) (by rw [hn]; decide), hn])
          exact zz53
         ·obtain ⟨p, hp, hpc⟩ : ∃ p, K[i]? = some p ∧ p.1 = c9 := by
           exact zz79
          have hnm : FClass.nm c9 = x2 := ba_inj (by have := fidx_hitS hi hci; simpa using this)
          have PCC := hid (parC_at hy0 hi hci)
          have RM := hid (RKK.out.mem p (List.mem_of_getElem? hp))
          have RK := hid (fun (X : World) (hb : Below X5.heap.size X5 X) => RKK.out.at_ hb nr hp)
          obtain ⟨⟨ca, cb, cfs, cms⟩, uFi, uMi⟩ := p
          subst hpc
          obtain rfl : ca = x2 := hnm
          obtain ⟨AF, cF, eF⟩ : ∃ A c, uFi = .slice A cfs.length c := RM.out.1.form
          obtain ⟨AM, cM, eM⟩ : ∃ A c, uMi = .slice A cms.length c := RM.out.2.form
          subst eF eM
          obtain ⟨bk, offk, Ek, hbk, -⟩ := RK.out X5 (Below.refl _ _)
          subst Ek
          have RK2 := hid (fun (X : World) (hb : Below X5.heap.size X5 X) => show X.cell? ⟨bk, offk + i * 4, none⟩ = some (.string ca) ∧ X.cell? ⟨bk, offk + i * 4 + 1, none⟩ = some (.string cb) ∧ X.cell? ⟨bk, offk + i * 4 + 2, none⟩ = some (.slice AF cfs.length cF) ∧ X.cell? ⟨bk, offk + i * 4 + 3, none⟩ = some (.slice AM cms.length cM) from by
           exact zz84)
          have LB := hid (show linkC ⟨50, y1, y2, y3⟩ (K.map Prod.fst) (J.map Prod.fst) = bldC ⟨50, y1, y2, y3⟩ ca cfs cms (J.map Prod.fst) from linkC_bld (x := ⟨50, y1, y2, y3⟩) HBD.out PCC.out)
          have HPG := hid (parC_good (x := ⟨50, y1, y2, y3⟩) G1h.out.gc HCLO.out PCC.out)
          rw [hi] at F3
          have hi0 : (0 : Int) ≤ (i : Int) := qaa
          have hi2 : (i : Int) < (K.length : Int) := by rw [List.length_map] at hil; omega
          clear hcq hp hci RK hi FI
          go_upto_region 19 with (go_at_call 36; refine (F3.out _ HB3.out).mono ?_; rintro e w4 ⟨rfl, hb, hb2⟩; have HB4 := hid hb2; obtain ⟨g0, g1, g2, g3⟩ := RK2.out _ hb2; replace bY := bY.below hb nr; replace bX9 := bX9.below hb nr; have bX90 := bX9.cell 0; have bX91 := bX9.cell 1; have bX92 := bX9.cell 2; have bX93 := bX9.cell 3; have bX9l := bX9.lt; have bX9f := fun i => bX9.frozen i; clear hb hb2)
          have bP : Blk ((((w4.setCell ⟨w2.heap.size, 0, none⟩ (.string ca)).setCell ⟨w2.heap.size, 1, none⟩ (.string cb)).setCell ⟨w2.heap.size, 2, none⟩ (.slice AF cfs.length cF)).setCell ⟨w2.heap.size, 3, none⟩ (.slice AM cms.length cM)) w2.heap.size 56 #[.string ca, .string cb, .slice AF cfs.length cF, .slice AM cms.length cM] := by simpa using (((bX9.set_ 0 (.string ca)).set_ 1 (.string cb)).set_ 2 (.slice AF cfs.length cF)).set_ 3 (.slice AM cms.length cM)
          have hgt2 : X5.heap.size ≤ w2.heap.size := HB2.out.size
          have hyne : wi.heap.size ≠ w2.heap.size := Nat.ne_of_lt (Nat.lt_of_lt_of_le BYS.out hgt2)
          have HB9 := hid ((((HB4.out.setCell (p := ⟨w2.heap.size, 0, none⟩) hgt2 (.string ca)).setCell (p := ⟨w2.heap.size, 1, none⟩) hgt2 (.string cb)).setCell (p := ⟨w2.heap.size, 2, none⟩) hgt2 (.slice AF cfs.length cF)).setCell (p := ⟨w2.heap.size, 3, none⟩) hgt2 (.slice AM cms.length cM))
          replace bY := (((bY.far (p := ⟨w2.heap.size, 0, none⟩) hyne (.string ca)).far (p := ⟨w2.heap.size, 1, none⟩) hyne (.string cb)).far (p := ⟨w2.heap.size, 2, none⟩) hyne (.slice AF cfs.length cF)).far (p := ⟨w2.heap.size, 3, none⟩) hyne (.slice AM cms.length cM)
          try clear g0; try clear g1; try clear g2; try clear g3; try clear bX9; try clear bX90; try clear bX91; try clear bX92; try clear bX93; try clear bX9l; try clear bX9f; try clear bY0; try clear bY1; try clear bY2; try clear bY3; try clear bYl; try clear bYf; try clear u0; try clear u1; try clear u2; try clear u3
          generalize (((w4.setCell ⟨w2.heap.size, 0, none⟩ (.string ca)).setCell ⟨w2.heap.size, 1, none⟩ (.string cb)).setCell ⟨w2.heap.size, 2, none⟩ (.slice AF cfs.length cF)).setCell ⟨w2.heap.size, 3, none⟩ (.slice AM cms.length cM) = W9 at *
          have BW := hid (B1h.out.trans (HB9.out.mono B1h.out.size))
          have TW := hid (T1h.out.below HB9.out nr)
          have bYl := bY.lt
          have bY0 := bY.cell 0; have bY1 := bY.cell 1; have bY2 := bY.cell 2; have bY3 := bY.cell 3; have bYl := bY.lt; have bYf := fun i => bY.frozen i
          have bP0 := bP.cell 0; have bP1 := bP.cell 1; have bP2 := bP.cell 2; have bP3 := bP.cell 3; have bPl := bP.lt; have bPf := fun i => bP.frozen i
          have LI := hid (build_K ⟨50, y1, y2, y3⟩ (top_cl hg.1 (.inl rfl)) J (some ⟨bq, offq, none⟩) dy AJ cJ ca cb cfs cms AF cF AM cM W9 (TW.out.b.rdK) ((RM.out.1.below HB9.out nr).more HB9.out.size) ((RM.out.2.below HB9.out nr).more HB9.out.size) (q3y.on BW.out hB0 (Nat.le_trans hB0 BW.out.size)) (namesG l) hGl HPG.out.2.1 HPG.out.2.2 G1h.out.gt hg.2 (HKW.out _ (List.mem_of_getElem? HY.out)) qaa 50 y1 y2 ⟨rfl, rfl, rfl⟩)
          obtain ⟨R, hR⟩ : ∃ R, linkC ⟨50, y1, y2, y3⟩ (K.map Prod.fst) (J.map Prod.fst) = R := ⟨_, rfl⟩
          rw [← LB.out, hR] at LI
          have HRr := hid hR
          clear hR
          by_cases h0 : R.1 = 0
          ·go_upto_region 23 with (go_at_call 37; refine LI.out.mono ?_; rintro e w5 ⟨va, vb, A1, n1, c1, A2, n2, c2, rfl, hb, hr⟩; obtain ⟨rfl, rfl, RF, RM, FM⟩ := hr h0; rw [h0]; have HB5 := hid hb; replace bY := bY.below hb nr; have bY0 := bY.cell 0; have bYl := bY.lt; have RFh := hid RF; have RMh := hid RM; have FMh := hid FM; clear hr hb RF RM FM)
           have bZ := Blk.new w5 56 #[.string (FClass.nm R.2), .string R.2.pa, .slice A1 n1 c1, .slice A2 n2 c2]
           have HB6 := hid ((HB5.out.alloc HB5.out.size (.cells #[.string (FClass.nm R.2), .string R.2.pa, .slice A1 n1 c1, .slice A2 n2 c2] 56)).alloc qbf (.cells #[.string (FClass.nm R.2), .string R.2.pa, .slice A1 n1 c1, .slice A2 n2 c2] 56))
           have OW := hid (own_below (own_below TW.out.a.row HB5.out nr) (((Below.refl w5.heap.size w5).alloc nr (.cells #[.string (FClass.nm R.2), .string R.2.pa, .slice A1 n1 c1, .slice A2 n2 c2] 56)).alloc qag (.cells #[.string (FClass.nm R.2), .string R.2.pa, .slice A1 n1 c1, .slice A2 n2 c2] 56)) nr)
           have RFz := hid (own_below RFh.out (((Below.refl w5.heap.size w5).alloc nr (.cells #[.string (FClass.nm R.2), .string R.2.pa, .slice A1 n1 c1, .slice A2 n2 c2] 56)).alloc qag (.cells #[.string (FClass.nm R.2), .string R.2.pa, .slice A1 n1 c1, .slice A2 n2 c2] 56)) nr)
           have RMz := hid (own_below RMh.out (((Below.refl w5.heap.size w5).alloc nr (.cells #[.string (FClass.nm R.2), .string R.2.pa, .slice A1 n1 c1, .slice A2 n2 c2] 56)).alloc qag (.cells #[.string (FClass.nm R.2), .string R.2.pa, .slice A1 n1 c1, .slice A2 n2 c2] 56)) nr)
           have ON := hid (show ∀ u ∈ ([.string (FClass.nm R.2), .string R.2.pa, .slice A1 n1 c1, .slice A2 n2 c2] : List Value), u.oneCell' = true from by intro u hu; simp only [List.mem_cons, List.not_mem_nil, or_false] at hu; rcases hu with rfl | rfl | rfl | rfl <;> rfl)
           have s6 : w5.heap.size ≤ (w5.alloc (.cells #[.string (FClass.nm R.2), .string R.2.pa, .slice A1 n1 c1, .slice A2 n2 c2] 56)).heap.size := by simp
           generalize w5.alloc (.cells #[.string (FClass.nm R.2), .string R.2.pa, .slice A1 n1 c1, .slice A2 n2 c2] 56) = W6 at *
           have RN := hid (rd_new W6 56 4 [.string (FClass.nm R.2), .string R.2.pa, .slice A1 n1 c1, .slice A2 n2 c2] rfl)
           have hw6 : w.heap.size ≤ (W6.alloc (.cells #[.string (FClass.nm R.2), .string R.2.pa, .slice A1 n1 c1, .slice A2 n2 c2] 56)).heap.size := Nat.le_trans BW.out.size (Nat.le_trans HB5.out.size (Nat.le_trans s6 qag))
           have bZ0 := bZ.cell 0; have bZ1 := bZ.cell 1; have bZ2 := bZ.cell 2; have bZ3 := bZ.cell 3; have bZl := bZ.lt; have bZf := fun i => bZ.frozen i
           go_wp2_with (at_builtin; go_must (refine wpList_append_rd _ rfl (.tmp 119) (.tmp 121) _ rfl w.heap.size _ _ _ 80 Tryz.underlying24 infoClassL rfl qaa (.slice (some ⟨bk, offk, none⟩) K.length cK) K.length _ rfl OW.out (W6.heap.size + 1) _ 1 1 [.string (FClass.nm R.2), .string R.2.pa, .slice A1 n1 c1, .slice A2 n2 c2] rfl RN.out ON.out qao qaa hw6 ?_); intro v7 w7 own7 hg7 hat7; have hS := hid (LcT.cls TW.out G1h.out E1h.out BW.out rfl HRr.out h0 HB6.out RFz.out RMz.out FMh.out own7 hg7 hat7 ⟨AJ, cJ, rfl⟩); clear own7 hg7 hat7)
           exact zz38
          ·have EB := hid (show linkL l = (R.1, []) from by rw [E1h.out, addK_bad (.inl rfl) qbp, HRr.out])
           exact zz15
        ·have PCC := hid (parC_ne (cs := K.map Prod.fst) hx52)
         have LB := hid (linkC_bld (x := ⟨50, y1, y2, y3⟩) HBD.out PCC.out)
         have HPG := hid (parC_good (x := ⟨50, y1, y2, y3⟩) G1h.out.gc HCLO.out PCC.out)
         have BW := hid (B1h.out.trans (HB3.out.mono B1h.out.size))
         have TW := hid (T1h.out.below HB3.out nr)
         clear FI
         by_cases hlen : 0 < y3.length
         ·obtain ⟨y, hy0⟩ : ∃ y, y3[0]? = some y := ⟨_, List.getElem?_eq_getElem hlen⟩
          have hhd := hdN_0 hy0
          rw [hhd] at hx52
          obtain ⟨bq, offq, Eq_, hblq, hcq⟩ := RdC.at_ FNode.len q3y hy0
          subst Eq_
          obtain ⟨x0, x1, x2, x3⟩ := y
          have hx5 : (x0 == 52) = false := by rw [beq_eq_false_iff_ne]; exact hx52
          obtain ⟨Dq, dq, u0, u1, u2, u3, -⟩ := opN BW.out (Nat.lt_of_lt_of_le hblq hB0) hcq (offq) (offq + 1) (offq + 2) (offq + 3) qaa
          have hlen2 : (0 : Int) < (y3.length : Int) := qaa
          clear hcq hhd hy0
          go_upto_region 19 with fail
          clear u0 u1 u2 u3
          generalize W8 = W9 at *
          have LI := hid (build_K ⟨50, y1, y2, y3⟩ (top_cl hg.1 (.inl rfl)) J (some ⟨bq, offq, none⟩) dy AJ cJ ⟨#[]⟩ ⟨#[]⟩ [] [] none 0 none 0 W9 (TW.out.b.rdK) (rd_nil9 _ _ _) (rd_nil9 _ _ _) (q3y.on BW.out hB0 (Nat.le_trans hB0 BW.out.size)) (namesG l) hGl HPG.out.2.1 HPG.out.2.2 G1h.out.gt hg.2 (HKW.out _ (List.mem_of_getElem? HY.out)) qaa 50 y1 y2 ⟨rfl, rfl, rfl⟩)
          obtain ⟨R, hR⟩ : ∃ R, linkC ⟨50, y1, y2, y3⟩ (K.map Prod.fst) (J.map Prod.fst) = R := ⟨_, rfl⟩
          exact zz4
         ·obtain rfl : y3 = [] := List.eq_nil_of_length_eq_zero qaa
          go_upto_region 19 with fail
          generalize W8 = W9 at *
          have LI := hid (build_K ⟨50, y1, y2, []⟩ (top_cl hg.1 (.inl rfl)) J Dy dy AJ cJ ⟨#[]⟩ ⟨#[]⟩ [] [] none 0 none 0 W9 (TW.out.b.rdK) (rd_nil9 _ _ _) (rd_nil9 _ _ _) (q3y.on BW.out hB0 (Nat.le_trans hB0 BW.out.size)) (namesG l) hGl HPG.out.2.1 HPG.out.2.2 G1h.out.gt hg.2 (HKW.out _ (List.mem_of_getElem? HY.out)) qaa 50 y1 y2 ⟨rfl, rfl, rfl⟩)
          obtain ⟨R, hR⟩ : ∃ R, linkC ⟨50, y1, y2, []⟩ (K.map Prod.fst) (J.map Prod.fst) = R := ⟨_, rfl⟩
          exact zz4
      by_cases h51 : y0 = 51
      ·subst h51
       have L5 := L4.below (bw (.cells #[.int .i64 51, .int .i64 y1, .string y2, .slice Dy y3.length dy] 44))
       have bY := Blk.new wi 44 #[.int .i64 51, .int .i64 y1, .string y2, .slice Dy y3.length dy]
       have BYS := hid (show wi.heap.size < (wi.alloc (.cells #[.int .i64 51, .int .i64 y1, .string y2, .slice Dy y3.length dy] 44)).heap.size from by simp)
       go_upto_region 10 with fail
       generalize wi.alloc (.cells #[.int .i64 51, .int .i64 y1, .string y2, .slice Dy y3.length dy] 44) = X5 at *
       obtain ⟨K, J, AK, cK, AJ, cJ, eu, ev, T1, G1, E1, B1⟩ := L5
       subst eu ev
       have hg := G1.top ⟨51, y1, y2, y3⟩ (List.mem_cons_self ..)
       have hnc := G1.nc
       have hnt := G1.nt
       rw [List.length_map] at hnc hnt
       have hKl : K.length ≤ 900000001 := qaa
       have hJl : J.length ≤ 900000001 := qaa
       have PLK := hid (fun p (hp : p ∈ K) => show PlC p.1 from fun x hx => ((G1.gc p.1 (List.mem_map.2 ⟨p, hp, rfl⟩)).f.mem x hx).1)
       have PLJ := hid (fun p (hp : p ∈ J) => show PlC p.1 from fun x hx => ((G1.gt p.1 (List.mem_map.2 ⟨p, hp, rfl⟩)).f.mem x hx).1)
       have RKK := hid T1.a.rdK
       have RKJ := hid T1.b.rdK
       have FI := hid (fun (s : ByteArray) X (hb : Below X5.heap.size X5 X) => find_K K s AK cK X5 X qaa RKK.out PLK.out hb)
       have FJ := hid (fun (s : ByteArray) X (hb : Below X5.heap.size X5 X) => find_K J s AJ cJ X5 X qaa RKJ.out PLJ.out hb)
       have hcl := top_cl hg.1 (.inr rfl)
       have T1h := hid T1
       have G1h := hid G1
       have E1h := hid E1
       have B1h := hid B1
       have hkl3 : y3.length ≤ 1000000000 := HKW.out _ (List.mem_of_getElem? HY.out)
       have HCLO := hid hcl
       have bYl := bY.lt
       have bY0 := bY.cell 0; have bY1 := bY.cell 1; have bY2 := bY.cell 2; have bY3 := bY.cell 3; have bYl := bY.lt; have bYf := fun i => bY.frozen i
       have B5 := hid (Below.refl X5.heap.size X5)
       clear T1 G1 E1 L4 hnc hnt bw hcl PLK PLJ
       cases hbad : badN (K.map Prod.fst) (J.map Prod.fst) y2 with
       | true =>
        have EB := hid (show linkL l = (1, []) from by rw [E1h.out, addK_bad (.inr rfl) (by rw [linkC_1 hbad]; decide), linkC_1 hbad])
        exact zz11
       | false =>
        have hq : (y2.toList == [115, 101, 108, 102] || (y2.toList == [112, 97, 114, 101, 110, 116] || (decide (0 ≤ fidx FClass.nm (K.map Prod.fst) y2) || decide (0 ≤ fidx FClass.nm (J.map Prod.fst) y2)))) = false := hbad
        have HBD := hid hbad
        simp only [Bool.or_eq_false_iff] at hq
        obtain ⟨h1, h2, h3, h4⟩ := hq
        have F1 := hid (FI.out y2)
        have F2 := hid (FJ.out y2)
        clear hbad FJ
        generalize fidx FClass.nm (K.map Prod.fst) y2 = fi at *
        generalize fidx FClass.nm (J.map Prod.fst) y2 = fj at *
        have tok1 : True := trivial
        go_upto_region 13 with (first | (have _q := tok2; go_at_call 36; refine (F2.out _ HB1.out).mono ?_; rintro e w2 ⟨rfl, hb, hb2⟩; have HB2 := hid hb2; replace bY := bY.below hb nr; have bY2 := bY.cell 2; clear hb hb2) | (go_at_call 36; refine (F1.out _ B5.out).mono ?_; rintro e w1 ⟨rfl, hb, hb2⟩; have HB1 := hid hb2; replace bY := bY.below hb nr; have bY2 := bY.cell 2; have tok2 : True := trivial; clear hb hb2))
        go_upto_region 14 with fail
        have bX9 := Blk.new w2 56 #[.string ⟨#[]⟩, .string ⟨#[]⟩, .slice none 0 0, .slice none 0 0]
        have HB3 := hid (HB2.out.alloc HB2.out.size (.cells #[.string ⟨#[]⟩, .string ⟨#[]⟩, .slice none 0 0, .slice none 0 0] 56))
        replace bY := bY.alloc (.cells #[.string ⟨#[]⟩, .string ⟨#[]⟩, .slice none 0 0, .slice none 0 0] 56)
        clear bY2 bY0 bY1 bY3 bYl bYf F1 F2 HB1
        generalize w2.alloc (.cells #[.string ⟨#[]⟩, .string ⟨#[]⟩, .slice none 0 0, .slice none 0 0] 56) = W8 at *
        have bYl := bY.lt
        have bY0 := bY.cell 0; have bY1 := bY.cell 1; have bY2 := bY.cell 2; have bY3 := bY.cell 3; have bYl := bY.lt; have bYf := fun i => bY.frozen i
        have bX90 := bX9.cell 0; have bX91 := bX9.cell 1; have bX92 := bX9.cell 2; have bX93 := bX9.cell 3; have bX9l := bX9.lt; have bX9f := fun i => bX9.frozen i
        by_cases hx52 : (hdN y3).kd = 52
        ·obtain ⟨y, hy0⟩ : ∃ y, y3[0]? = some y := by
          exact zz135
         have hhd := hdN_0 hy0
         rw [hhd] at hx52
         have hlen : 0 < y3.length := (List.getElem?_eq_some_iff.1 hy0).1
         obtain ⟨bq, offq, Eq_, hblq, hcq⟩ := RdC.at_ FNode.len q3y hy0
         subst Eq_
         obtain ⟨x0, x1, x2, x3⟩ := y
         obtain rfl : x0 = 52 := hx52
         have BW8 := hid (B1h.out.trans (HB3.out.mono B1h.out.size))
         obtain ⟨Dq, dq, u0, u1, u2, u3, -⟩ := opN BW8.out (Nat.lt_of_lt_of_le hblq hB0) hcq (offq) (offq + 1) (offq + 2) (offq + 3) qaa
         have QC := hid (fun (X : World) (hb : Below w.heap.size w X) => show X.cell? ⟨bq, offq, none⟩ = some (.int .i64 52) ∧ X.cell? ⟨bq, offq + 2, none⟩ = some (.string x2) from by
          exact zz133)
         have hlen2 : (0 : Int) < (y3.length : Int) := qaa
         have F3 := hid (FI.out x2)
         rcases fidx_lt FClass.nm (K.map Prod.fst) x2 with hi | ⟨i, c9, hi, hil, hci⟩
         ·have EB := hid (show linkL l = (2, []) from by
           have hn : linkC ⟨51, y1, y2, y3⟩ (K.map Prod.fst) (J.map Prod.fst) = (2, ⟨⟨#[]⟩, ⟨#[]⟩, [], []⟩) := linkC_none HBD.out (parC_no hy0 hi)
           rw [E1h.out, addK_bad (.inr rfl) (by rw [hn]; decide), hn])
          exact zz53
         ·obtain ⟨p, hp, hpc⟩ : ∃ p, K[i]? = some p ∧ p.1 = c9 := by
           exact zz79
          have hnm : FClass.nm c9 = x2 := ba_inj (by have := fidx_hitS hi hci; simpa using this)
          have PCC := hid (parC_at hy0 hi hci)
          have RM := hid (RKK.out.mem p (List.mem_of_getElem? hp))
          have RK := hid (fun (X : World) (hb : Below X5.heap.size X5 X) => RKK.out.at_ hb nr hp)
          obtain ⟨⟨ca, cb, cfs, cms⟩, uFi, uMi⟩ := p
          subst hpc
          obtain rfl : ca = x2 := hnm
          obtain ⟨AF, cF, eF⟩ : ∃ A c, uFi = .slice A cfs.length c := RM.out.1.form
          obtain ⟨AM, cM, eM⟩ : ∃ A c, uMi = .slice A cms.length c := RM.out.2.form
          subst eF eM
          obtain ⟨bk, offk, Ek, hbk, -⟩ := RK.out X5 (Below.refl _ _)
          subst Ek
          have RK2 := hid (fun (X : World) (hb : Below X5.heap.size X5 X) => show X.cell? ⟨bk, offk + i * 4, none⟩ = some (.string ca) ∧ X.cell? ⟨bk, offk + i * 4 + 1, none⟩ = some (.string cb) ∧ X.cell? ⟨bk, offk + i * 4 + 2, none⟩ = some (.slice AF cfs.length cF) ∧ X.cell? ⟨bk, offk + i * 4 + 3, none⟩ = some (.slice AM cms.length cM) from by
           exact zz84)
          have LB := hid (show linkC ⟨51, y1, y2, y3⟩ (K.map Prod.fst) (J.map Prod.fst) = bldC ⟨51, y1, y2, y3⟩ ca cfs cms (J.map Prod.fst) from linkC_bld (x := ⟨51, y1, y2, y3⟩) HBD.out PCC.out)
          have HPG := hid (parC_good (x := ⟨51, y1, y2, y3⟩) G1h.out.gc HCLO.out PCC.out)
          rw [hi] at F3
          have hi0 : (0 : Int) ≤ (i : Int) := qaa
          have hi2 : (i : Int) < (K.length : Int) := by rw [List.length_map] at hil; omega
          clear hcq hp hci RK hi FI
          go_upto_region 19 with (go_at_call 36; refine (F3.out _ HB3.out).mono ?_; rintro e w4 ⟨rfl, hb, hb2⟩; have HB4 := hid hb2; obtain ⟨g0, g1, g2, g3⟩ := RK2.out _ hb2; replace bY := bY.below hb nr; replace bX9 := bX9.below hb nr; have bX90 := bX9.cell 0; have bX91 := bX9.cell 1; have bX92 := bX9.cell 2; have bX93 := bX9.cell 3; have bX9l := bX9.lt; have bX9f := fun i => bX9.frozen i; clear hb hb2)
          have bP : Blk ((((w4.setCell ⟨w2.heap.size, 0, none⟩ (.string ca)).setCell ⟨w2.heap.size, 1, none⟩ (.string cb)).setCell ⟨w2.heap.size, 2, none⟩ (.slice AF cfs.length cF)).setCell ⟨w2.heap.size, 3, none⟩ (.slice AM cms.length cM)) w2.heap.size 56 #[.string ca, .string cb, .slice AF cfs.length cF, .slice AM cms.length cM] := by simpa using (((bX9.set_ 0 (.string ca)).set_ 1 (.string cb)).set_ 2 (.slice AF cfs.length cF)).set_ 3 (.slice AM cms.length cM)
          have hgt2 : X5.heap.size ≤ w2.heap.size := HB2.out.size
          have hyne : wi.heap.size ≠ w2.heap.size := Nat.ne_of_lt (Nat.lt_of_lt_of_le BYS.out hgt2)
          have HB9 := hid ((((HB4.out.setCell (p := ⟨w2.heap.size, 0, none⟩) hgt2 (.string ca)).setCell (p := ⟨w2.heap.size, 1, none⟩) hgt2 (.string cb)).setCell (p := ⟨w2.heap.size, 2, none⟩) hgt2 (.slice AF cfs.length cF)).setCell (p := ⟨w2.heap.size, 3, none⟩) hgt2 (.slice AM cms.length cM))
          replace bY := (((bY.far (p := ⟨w2.heap.size, 0, none⟩) hyne (.string ca)).far (p := ⟨w2.heap.size, 1, none⟩) hyne (.string cb)).far (p := ⟨w2.heap.size, 2, none⟩) hyne (.slice AF cfs.length cF)).far (p := ⟨w2.heap.size, 3, none⟩) hyne (.slice AM cms.length cM)
          try clear g0; try clear g1; try clear g2; try clear g3; try clear bX9; try clear bX90; try clear bX91; try clear bX92; try clear bX93; try clear bX9l; try clear bX9f; try clear bY0; try clear bY1; try clear bY2; try clear bY3; try clear bYl; try clear bYf; try clear u0; try clear u1; try clear u2; try clear u3
          generalize (((w4.setCell ⟨w2.heap.size, 0, none⟩ (.string ca)).setCell ⟨w2.heap.size, 1, none⟩ (.string cb)).setCell ⟨w2.heap.size, 2, none⟩ (.slice AF cfs.length cF)).setCell ⟨w2.heap.size, 3, none⟩ (.slice AM cms.length cM) = W9 at *
          have BW := hid (B1h.out.trans (HB9.out.mono B1h.out.size))
          have TW := hid (T1h.out.below HB9.out nr)
          have bYl := bY.lt
          have bY0 := bY.cell 0; have bY1 := bY.cell 1; have bY2 := bY.cell 2; have bY3 := bY.cell 3; have bYl := bY.lt; have bYf := fun i => bY.frozen i
          have bP0 := bP.cell 0; have bP1 := bP.cell 1; have bP2 := bP.cell 2; have bP3 := bP.cell 3; have bPl := bP.lt; have bPf := fun i => bP.frozen i
          have LI := hid (build_K ⟨51, y1, y2, y3⟩ (top_cl hg.1 (.inr rfl)) J (some ⟨bq, offq, none⟩) dy AJ cJ ca cb cfs cms AF cF AM cM W9 (TW.out.b.rdK) ((RM.out.1.below HB9.out nr).more HB9.out.size) ((RM.out.2.below HB9.out nr).more HB9.out.size) (q3y.on BW.out hB0 (Nat.le_trans hB0 BW.out.size)) (namesG l) hGl HPG.out.2.1 HPG.out.2.2 G1h.out.gt hg.2 (HKW.out _ (List.mem_of_getElem? HY.out)) qaa 51 y1 y2 ⟨rfl, rfl, rfl⟩)
          obtain ⟨R, hR⟩ : ∃ R, linkC ⟨51, y1, y2, y3⟩ (K.map Prod.fst) (J.map Prod.fst) = R := ⟨_, rfl⟩
          rw [← LB.out, hR] at LI
          have HRr := hid hR
          clear hR
          by_cases h0 : R.1 = 0
          ·go_upto_region 24 with (go_at_call 37; refine LI.out.mono ?_; rintro e w5 ⟨va, vb, A1, n1, c1, A2, n2, c2, rfl, hb, hr⟩; obtain ⟨rfl, rfl, RF, RM, FM⟩ := hr h0; rw [h0]; have HB5 := hid hb; replace bY := bY.below hb nr; have bY0 := bY.cell 0; have bYl := bY.lt; have RFh := hid RF; have RMh := hid RM; have FMh := hid FM; clear hr hb RF RM FM)
           have bZ := Blk.new w5 56 #[.string (FClass.nm R.2), .string R.2.pa, .slice A1 n1 c1, .slice A2 n2 c2]
           have HB6 := hid ((HB5.out.alloc HB5.out.size (.cells #[.string (FClass.nm R.2), .string R.2.pa, .slice A1 n1 c1, .slice A2 n2 c2] 56)).alloc qbf (.cells #[.string (FClass.nm R.2), .string R.2.pa, .slice A1 n1 c1, .slice A2 n2 c2] 56))
           have OW := hid (own_below (own_below TW.out.b.row HB5.out nr) (((Below.refl w5.heap.size w5).alloc nr (.cells #[.string (FClass.nm R.2), .string R.2.pa, .slice A1 n1 c1, .slice A2 n2 c2] 56)).alloc qag (.cells #[.string (FClass.nm R.2), .string R.2.pa, .slice A1 n1 c1, .slice A2 n2 c2] 56)) nr)
           have RFz := hid (own_below RFh.out (((Below.refl w5.heap.size w5).alloc nr (.cells #[.string (FClass.nm R.2), .string R.2.pa, .slice A1 n1 c1, .slice A2 n2 c2] 56)).alloc qag (.cells #[.string (FClass.nm R.2), .string R.2.pa, .slice A1 n1 c1, .slice A2 n2 c2] 56)) nr)
           have RMz := hid (own_below RMh.out (((Below.refl w5.heap.size w5).alloc nr (.cells #[.string (FClass.nm R.2), .string R.2.pa, .slice A1 n1 c1, .slice A2 n2 c2] 56)).alloc qag (.cells #[.string (FClass.nm R.2), .string R.2.pa, .slice A1 n1 c1, .slice A2 n2 c2] 56)) nr)
           have ON := hid (show ∀ u ∈ ([.string (FClass.nm R.2), .string R.2.pa, .slice A1 n1 c1, .slice A2 n2 c2] : List Value), u.oneCell' = true from by intro u hu; simp only [List.mem_cons, List.not_mem_nil, or_false] at hu; rcases hu with rfl | rfl | rfl | rfl <;> rfl)
           have s6 : w5.heap.size ≤ (w5.alloc (.cells #[.string (FClass.nm R.2), .string R.2.pa, .slice A1 n1 c1, .slice A2 n2 c2] 56)).heap.size := by simp
           generalize w5.alloc (.cells #[.string (FClass.nm R.2), .string R.2.pa, .slice A1 n1 c1, .slice A2 n2 c2] 56) = W6 at *
           have RN := hid (rd_new W6 56 4 [.string (FClass.nm R.2), .string R.2.pa, .slice A1 n1 c1, .slice A2 n2 c2] rfl)
           have hw6 : w.heap.size ≤ (W6.alloc (.cells #[.string (FClass.nm R.2), .string R.2.pa, .slice A1 n1 c1, .slice A2 n2 c2] 56)).heap.size := Nat.le_trans BW.out.size (Nat.le_trans HB5.out.size (Nat.le_trans s6 qag))
           have bZ0 := bZ.cell 0; have bZ1 := bZ.cell 1; have bZ2 := bZ.cell 2; have bZ3 := bZ.cell 3; have bZl := bZ.lt; have bZf := fun i => bZ.frozen i
           go_wp2_with (at_builtin; go_must (refine wpList_append_rd _ rfl (.tmp 123) (.tmp 125) _ rfl w.heap.size _ _ _ 80 Tryz.underlying24 infoClassL rfl qaa (.slice AJ J.length cJ) J.length _ rfl OW.out (W6.heap.size + 1) _ 1 1 [.string (FClass.nm R.2), .string R.2.pa, .slice A1 n1 c1, .slice A2 n2 c2] rfl RN.out ON.out qao qaa hw6 ?_); intro v7 w7 own7 hg7 hat7; have hS := hid (LcT.trt TW.out G1h.out E1h.out BW.out rfl HRr.out h0 HB6.out RFz.out RMz.out FMh.out own7 hg7 hat7 ⟨(some ⟨bk, offk, none⟩), cK, rfl⟩); clear own7 hg7 hat7)
           exact zz38
          ·have EB := hid (show linkL l = (R.1, []) from by rw [E1h.out, addK_bad (.inr rfl) qbp, HRr.out])
           exact zz15
        ·have PCC := hid (parC_ne (cs := K.map Prod.fst) hx52)
         have LB := hid (linkC_bld (x := ⟨51, y1, y2, y3⟩) HBD.out PCC.out)
         have HPG := hid (parC_good (x := ⟨51, y1, y2, y3⟩) G1h.out.gc HCLO.out PCC.out)
         have BW := hid (B1h.out.trans (HB3.out.mono B1h.out.size))
         have TW := hid (T1h.out.below HB3.out nr)
         clear FI
         by_cases hlen : 0 < y3.length
         ·obtain ⟨y, hy0⟩ : ∃ y, y3[0]? = some y := ⟨_, List.getElem?_eq_getElem hlen⟩
          have hhd := hdN_0 hy0
          rw [hhd] at hx52
          obtain ⟨bq, offq, Eq_, hblq, hcq⟩ := RdC.at_ FNode.len q3y hy0
          subst Eq_
          obtain ⟨x0, x1, x2, x3⟩ := y
          have hx5 : (x0 == 52) = false := by rw [beq_eq_false_iff_ne]; exact hx52
          obtain ⟨Dq, dq, u0, u1, u2, u3, -⟩ := opN BW.out (Nat.lt_of_lt_of_le hblq hB0) hcq (offq) (offq + 1) (offq + 2) (offq + 3) qaa
          have hlen2 : (0 : Int) < (y3.length : Int) := qaa
          clear hcq hhd hy0
          go_upto_region 19 with fail
          clear u0 u1 u2 u3
          generalize W8 = W9 at *
          have LI := hid (build_K ⟨51, y1, y2, y3⟩ (top_cl hg.1 (.inr rfl)) J (some ⟨bq, offq, none⟩) dy AJ cJ ⟨#[]⟩ ⟨#[]⟩ [] [] none 0 none 0 W9 (TW.out.b.rdK) (rd_nil9 _ _ _) (rd_nil9 _ _ _) (q3y.on BW.out hB0 (Nat.le_trans hB0 BW.out.size)) (namesG l) hGl HPG.out.2.1 HPG.out.2.2 G1h.out.gt hg.2 (HKW.out _ (List.mem_of_getElem? HY.out)) qaa 51 y1 y2 ⟨rfl, rfl, rfl⟩)
          obtain ⟨R, hR⟩ : ∃ R, linkC ⟨51, y1, y2, y3⟩ (K.map Prod.fst) (J.map Prod.fst) = R := ⟨_, rfl⟩
          exact zz5
         ·obtain rfl : y3 = [] := List.eq_nil_of_length_eq_zero qaa
          go_upto_region 19 with fail
          generalize W8 = W9 at *
          have LI := hid (build_K ⟨51, y1, y2, []⟩ (top_cl hg.1 (.inr rfl)) J Dy dy AJ cJ ⟨#[]⟩ ⟨#[]⟩ [] [] none 0 none 0 W9 (TW.out.b.rdK) (rd_nil9 _ _ _) (rd_nil9 _ _ _) (q3y.on BW.out hB0 (Nat.le_trans hB0 BW.out.size)) (namesG l) hGl HPG.out.2.1 HPG.out.2.2 G1h.out.gt hg.2 (HKW.out _ (List.mem_of_getElem? HY.out)) qaa 51 y1 y2 ⟨rfl, rfl, rfl⟩)
          obtain ⟨R, hR⟩ : ∃ R, linkC ⟨51, y1, y2, []⟩ (K.map Prod.fst) (J.map Prod.fst) = R := ⟨_, rfl⟩
          exact zz5
      exact zz45
     ·obtain rfl : m = z3.length := qaa
      go_wp2_with (go_at_call 33; refine CALL.out.mono ?_; rintro e wi ⟨rfl, hb⟩; have L4 := L4h.out.below hb; have x3n := XC3.out _ hb; clear hb)
      rw [List.drop_length, List.nil_append] at L4
      go_roundw
      case rel => exact ⟨k + 1, by omega, by go_num, by rw [HRS.out]; exact L4⟩
      case measure => simp [intOf]; omega
  ·obtain rfl : k = l.length := qaa
   rw [List.drop_length] at L1
   obtain ⟨K, J, AK, cK, AJ, cJ, eu, ev, T1, G1, E1, B1⟩ := L1
   subst eu ev
   have E2 := hid (show linkL l = (0, K.map Prod.fst) from E1)
   have hnc := G1.nc
   rw [List.length_map] at hnc
   have CP := hid (copies_spec K AK cK wo nr T1.a.rdK qaa (fun p hp => by
    have hg := G1.gc p.1 (List.mem_map.2 ⟨p, hp, rfl⟩)
    exact ⟨fun x hx => (hg.f.mem x hx).1, Nat.le_trans hg.f.len hGl, Nat.le_trans hg.m.len hGl⟩))
   have B1h := hid B1
   clear T1 G1 E1 B1 hnc
   go_wp2_with (go_at_call 38; refine CP.out.mono ?_; rintro e w4 ⟨A', c', rfl, own, hb⟩; have OWN := hid own; have HB4 := hid hb; clear own hb)
   refine bodyPost_ret (v := .tuple #[.slice A' K.length c', .int .i64 0]) qan rfl ⟨A', K.length, c', by rw [E2.out], by rw [E2.out]; exact OWN.out.wide B1h.out.size nr, B1h.out.trans (HB4.out.mono B1h.out.size)⟩
theorem eqEntryS_nil : EqEntryS [] := by
 intro u v w hu hv
 obtain ⟨A, c, rfl⟩ := hu.form
 obtain ⟨A', c', rfl⟩ := hv.form
 clear hu hv
 go_enter Tryz.func141, Tryz.ntmps141
 go_wp2
 go_loopw [5] (fun i wr => i = .int .i64 0 ∧ Below w.heap.size w wr) (fun i _ => 0)
 case atStart => exact ⟨rfl, Below.refl _ _⟩
 case round =>
  obtain ⟨rfl, hb⟩ := hrel
  go_wp2_with fail
  go_ret
  exact ⟨rfl, hb⟩
theorem markEntryS_nil : MarkEntryS [] := by
 intro u k0 F w h1 h2 hF hO
 obtain ⟨A, c, rfl⟩ := hO.form
 have HO := Lib.hid hO
 clear hO
 go_enter Tryz.func47, Tryz.ntmps47
 exact zz27
theorem heldEntryS_nil : HeldEntryS [] := by
 intro u k0 w h1 h2 hR
 obtain ⟨A, c, rfl⟩ := hR.form
 clear hR
 go_enter Tryz.func48, Tryz.ntmps48
 go_wp2_with fail
 go_loop [1, 5] (fun kv i => kv = .int .i64 k0 ∧ i = .int .i64 0) (fun _ i => 0)
 case atStart => exact ⟨rfl, rfl⟩
 case round =>
  obtain ⟨rfl, rfl⟩ := hrel
  go_wp2_with fail
  go_ret
  exact ⟨ret_int (by simp [cntL]), Below.refl _ _⟩
theorem eqField_pl (x : FField) (h : x.plain) : EqField x := by
 obtain ⟨c0, c1, c2, ⟨c3, c4, c5, c6, c7⟩⟩ := x
 obtain ⟨p1, p2, p3, p4⟩ := h
 have e7 : c7 = [] := p4
 subst e7
 exact eqField_of c0 c1 c2 c3 c4 c5 c6 [] (eqValue_of c3 c4 c5 c6 [] eqEntryS_nil)
theorem mkField_pl (x : FField) (h : x.plain) : MkField x := by
 obtain ⟨c0, c1, c2, ⟨c3, c4, c5, c6, c7⟩⟩ := x
 obtain ⟨p1, p2, p3, p4⟩ := h
 have e7 : c7 = [] := p4
 subst e7
 exact markEntryS_nil
theorem hdField_pl (x : FField) (h : x.plain) : HdField x := by
 obtain ⟨c0, c1, c2, ⟨c3, c4, c5, c6, c7⟩⟩ := x
 obtain ⟨p1, p2, p3, p4⟩ := h
 have e7 : c7 = [] := p4
 subst e7
 exact heldEntryS_nil
theorem markClassS_pl (l : List FClass) (h : ∀ c, c ∈ l → PlC c) : MarkClassS l := markClassS_of l (fun x hx => by
 have hp := h x hx
 obtain ⟨z0, z1, z2, z3⟩ := x
 exact ⟨markFieldS_of z2 fun f hf => mkField_pl f (hp f hf), markMethodS_of z3⟩)
theorem heldClassS_pl (l : List FClass) (h : ∀ c, c ∈ l → PlC c) : HeldClassS l := heldClassS_of l (fun x hx => by
 have hp := h x hx
 obtain ⟨z0, z1, z2, z3⟩ := x
 exact ⟨heldFieldS_of z2 fun f hf => hdField_pl f (hp f hf), heldMethodS_of z3⟩)
theorem markClassS_IP (l : List FClass) (hp : ∀ c, c ∈ l → PlC c) (u : Value) (k0 : Int) (lo hi : Nat) (w : World) (h1 : 1 ≤ k0) (h2 : k0 + (cntL (FClass.flat l) : Int) ≤ 1000000000000000) (h : OwnI w lo hi [.s 56 4 l.length (FClass.flat l)] [u]) :
  Calls Tryz.prog 11 #[u, .int .i64 k0] w fun e w' => e = .returned (.int .i64 (k0 + (cntL (FClass.flat l) : Int))) ∧ OwnI w' lo hi [.s 56 4 l.length (mkL (FClass.flat l) k0)] [u] ∧ Only lo hi w.heap.size w w' := by
 obtain ⟨F, a1, a2, a3⟩ := h
 exact (markClassS_pl l hp u k0 F w h1 h2 a2 a1.unone).mono fun e w' ⟨h3, h4, h5⟩ => ⟨h3, own_interval a2 a3 (OwnL.one h4) h5⟩
theorem LinkW_spec (l : List FNode) (u : Value) (w : World) (hw : l.length + FNode.wts l ≤ 900000000) {B : Nat} (hB0 : B ≤ w.heap.size) (hr : RdC w B (.s 44 4 l.length (FNode.flat l)) u) :
  Calls Tryz.prog 17 #[u] w fun e w' => ∃ A c, e = .returned (.tuple #[.slice A (linkL l).2.length c, .int .i64 (linkL l).1]) ∧ OwnI w' w.heap.size w'.heap.size [.s 56 4 (linkL l).2.length (FClass.flat (linkL l).2)] [.slice A (linkL l).2.length c] ∧ Below w.heap.size w w' := by
 obtain ⟨A, c, rfl⟩ := hr.form
 refine (LinkClasses_spec l hw A c w hB0 hr).mono fun e w' h => ?_
 obtain ⟨A', n, c', h1, h2, h3⟩ := h
 obtain rfl := owni_len h2
 exact ⟨A', c', h1, h2, h3⟩
theorem lk_eq (l : List FNode) (hw : FNode.wts l ≤ 1048576) : (linkL l).2.length ≤ 1000000000 ∧ EqClassS (linkL l).2 := by
 obtain ⟨h1, h2⟩ := link_good l
 have h3 := names_len l
 refine ⟨by omega, eqClassS_of _ qaa fun x hx => ?_⟩
 have hg := h1 x hx
 have hf := hg.f.len
 have hm := hg.m.len
 obtain ⟨a, b, fs, ms⟩ := x
 refine eqClass_of a b fs ms (eqFieldS_of fs (by have h4 : fs.length ≤ _ := hf; omega) fun f hf => ?_) (eqMethodS_of ms (by have h4 : ms.length ≤ _ := hm; omega) fun f hf => ?_)
 ·exact eqField_pl f (hg.f.mem f hf).1
 ·obtain ⟨hp, -⟩ := hg.m.mem f hf
  obtain ⟨c0, c1, c2, c3, c4⟩ := f
  obtain ⟨p1, p2, p3⟩ := hp
  exact eqMethod_any _ (by
   have q1 : c0.size ≤ 1000 := p1
   have q2 : c1.size ≤ 1000 := p2
   have q3 : c2.size ≤ 1000 := p3
   rw [FMethod.wt_eq]
   omega)
theorem cnt_F : ∀ (l : List FField), (∀ f, f ∈ l → f.plain) → cntL (FField.flat l) ≤ 8 * l.length
 | [], _ => by simp [FField.flat, cntL]
 | x :: r, h => by
  have ih := cnt_F r fun y hy => h y (List.mem_cons_of_mem _ hy)
  have hx := h x (List.mem_cons_self ..)
  obtain ⟨a, b, p, ⟨k, n, s, y, l⟩⟩ := x
  obtain rfl : l = [] := hx.2.2.2
  have e1 : FField.flat (⟨a, b, p, ⟨k, n, s, y, []⟩⟩ :: r) = FField.c ⟨a, b, p, ⟨k, n, s, y, []⟩⟩ ++ FField.flat r := List.flatMap_cons
  rw [e1, cntL_append, FField.c_eq, List.length_cons]
  have : cntL [Cel.v (.string a), .v (.string b), .v (.bool p), .v (.int .i64 k), .v (.int .i64 n), .v (.string s), .v (.int .i64 y), .s 114 8 ([] : List FEntry).length (FEntry.flat [])] ≤ 8 := by simp [cntL, Cel.cnt, FEntry.flat]
  omega
theorem cnt_M : ∀ (l : List FMethod), cntL (FMethod.flat l) ≤ 5 * l.length
 | [] => by simp [FMethod.flat, cntL]
 | x :: r => by
  have ih := cnt_M r
  obtain ⟨a, b, p, k, n⟩ := x
  have e1 : FMethod.flat (⟨a, b, p, k, n⟩ :: r) = FMethod.c ⟨a, b, p, k, n⟩ ++ FMethod.flat r := List.flatMap_cons
  rw [e1, cntL_append, FMethod.c_eq, List.length_cons]
  have : cntL [Cel.v (.string a), .v (.string b), .v (.string p), .v (.bool k), .v (.bool n)] ≤ 5 := by simp [cntL, Cel.cnt]
  omega
theorem cnt_K (M : Nat) : ∀ (l : List FClass), (∀ c, c ∈ l → PlC c ∧ c.fields.length ≤ M ∧ c.methods.length ≤ M) → cntL (FClass.flat l) ≤ l.length * (2 + 13 * M)
 | [], _ => by simp [FClass.flat, cntL]
 | x :: r, h => by
  have ih := cnt_K M r fun y hy => h y (List.mem_cons_of_mem _ hy)
  obtain ⟨h1, h2, h3⟩ := h x (List.mem_cons_self ..)
  obtain ⟨a, b, fs, ms⟩ := x
  have e1 : FClass.flat (⟨a, b, fs, ms⟩ :: r) = FClass.c ⟨a, b, fs, ms⟩ ++ FClass.flat r := List.flatMap_cons
  have f1 := cnt_F fs h1
  have f2 := cnt_M ms
  have h2' : fs.length ≤ M := h2
  have h3' : ms.length ≤ M := h3
  rw [e1, cntL_append, FClass.c_eq, List.length_cons, Nat.succ_mul]
  have : cntL [Cel.v (.string a), .v (.string b), .s 79 8 fs.length (FField.flat fs), .s 87 5 ms.length (FMethod.flat ms)] ≤ 2 + (cntL (FField.flat fs) + cntL (FMethod.flat ms)) := by simp [cntL, Cel.cnt]; omega
  omega
theorem lk_cnt (l : List FNode) (hw : FNode.wts l ≤ 1048576) : cntL (FClass.flat (linkL l).2) ≤ 20000000000000 := by
 obtain ⟨h1, h2⟩ := link_good l
 have h3 := names_len l
 have h4 := cnt_K 1048577 (linkL l).2 fun c hc => ⟨fun x hx => ((h1 c hc).f.mem x hx).1, by have := (h1 c hc).f.len; omega, by have := (h1 c hc).m.len; omega⟩
 have h5 : (linkL l).2.length * (2 + 13 * 1048577) ≤ 1048577 * (2 + 13 * 1048577) := Nat.mul_le_mul_right _ qaa
 omega
end Go.Proofs.YtkkjnfappndmpaaGreatDoor
