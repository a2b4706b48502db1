/-
 Parts of the proof: LmB. Conditions: none.
-/
import Derived.Test.YtkkjnfappndmpaaGreatDoorQFold
import Derived.Test.YtkkjnfappndmpaaGreatDoorQbp
import Derived.Test.YtkkjnfappndmpaaGreatDoorQbc
set_option linter.unusedVariables false
set_option linter.unusedSimpArgs false
namespace Go.Proofs.YtkkjnfappndmpaaGreatDoor
set_option maxHeartbeats 40000000
open Lib (hid)
open Go.ChangeShapes Go.WideShapes Go.ChangeAt Go.RowKit Go.Deep Go.Joins
open Go.ChangeMaps (open_string shut_string)
set_option maxRecDepth 100000
theorem ownsRow_le9 {w : World} {a b k n : Nat} {e : TypeId} {v : Value} {xs : List Value} (h : w.ownsRow a e k v n xs) (hb : b ≤ a) : w.ownsRow b e k v n xs := own_up h fun g e => Nat.le_trans hb (World.ownsRow.lt h g e).1
theorem build_go (z0 z1 : Int) (z2 : ByteArray) (z3 : List FNode) (A3 : Option Addr) (c3 : Nat) (pa pp : ByteArray) (fs : List FField) (ms : List FMethod) (AP : Option Addr) (cP : Nat) (AQ : Option Addr) (cQ : Nat) (ts : List FClass) (At : Option Addr) (ct : Nat) (w : World) {B : Nat} (hB0 : B ≤ w.heap.size)
  (J : List CV) (hJe : J.map Prod.fst = ts) (hJr : RdK w B J (.slice At ts.length ct)) (htl : ts.length ≤ 1000000000) (hPf : Rd w B 8 (.slice AP fs.length cP) fs.length (fvF fs)) (hPm : Rd w B 5 (.slice AQ ms.length cQ) ms.length (fvM ms)) (r3 : RdC w B (.s 44 4 z3.length (FNode.flat z3)) (.slice A3 z3.length c3))
  (hx : ClO ⟨z0, z1, z2, z3⟩) (G : List (List UInt8)) (hG : G.length ≤ 1000000000) (hgf : GdF G fs) (hgm : GdM G ms) (hts : ∀ t, t ∈ ts → ClG G t) (hkg : ∀ y, y ∈ z3 → y.tx.toList ∈ G) (hz : z3.length ≤ 1000000000) (hsz : ∀ y, y ∈ z3 → y.tx.size ≤ 1000) :
  Calls Tryz.prog 37 #[.agg #[.int .i64 z0, .int .i64 z1, .string z2, .slice A3 z3.length c3], .agg #[.string pa, .string pp, .slice AP fs.length cP, .slice AQ ms.length cQ], .slice At ts.length ct] w fun e w' => LcR w w' e (bldC ⟨z0, z1, z2, z3⟩ pa fs ms ts) := by
 have ht : RdC w B (.s 56 4 ts.length (FClass.flat ts)) (.slice At ts.length ct) := by subst hJe; exact hJr.rdC fun p hp x hx => ((hts p.1 (List.mem_map.2 ⟨p, hp, rfl⟩)).f.mem x hx).1
 have HT := hid ht
 have HJR := hid hJr
 have R3 := hid r3
 have HX := hid hx
 have HPF := hid hPf
 have HPM := hid hPm
 have hz2 : z2.size ≤ 1000 := Nat.le_trans hx.nm qae
 have BD := hid (show bldC ⟨z0, z1, z2, z3⟩ pa fs ms ts = if z3.any (noTr ts) then (3, ⟨⟨#[]⟩, ⟨#[]⟩, [], []⟩) else if (bsC ⟨z0, z1, z2, z3⟩ ts fs ms).ok then (0, ⟨z2, pa, (bsC ⟨z0, z1, z2, z3⟩ ts fs ms).fs, (bsC ⟨z0, z1, z2, z3⟩ ts fs ms).ms⟩) else (4, ⟨⟨#[]⟩, ⟨#[]⟩, [], []⟩) from rfl)
 have FT_ := hid (fun (s : ByteArray) X (hb : Below w.heap.size w X) => find_any ts s At ct w X hB0 htl HT.out hb)
 have hfl0 : fs.length ≤ 1000000000 := Nat.le_trans hgf.len hG
 have hml0 : ms.length ≤ 1000000000 := Nat.le_trans hgm.len hG
 have HGD := hid (show (⟨fs, ms, true⟩ : BS).gd G from ⟨hgf, hgm⟩)
 clear ht hJr r3 hx hPf hPm hgf hgm
 have bN := (((Blk.new w 44 #[.int .i64 z0, .int .i64 z1, .string z2, .slice A3 z3.length c3]).alloc (.cells #[.string pa, .string pp, .slice AP fs.length cP, .slice AQ ms.length cQ] 56)).alloc (.cells #[.string ⟨#[]⟩, .string ⟨#[]⟩, .slice none 0 0, .slice none 0 0] 56)).alloc (.cells #[.string z2, .string pa, .slice none 0 0, .slice none 0 0] 56)
 have bP := ((Blk.new' (w.alloc (.cells #[.int .i64 z0, .int .i64 z1, .string z2, .slice A3 z3.length c3] 44)) 56 #[.string pa, .string pp, .slice AP fs.length cP, .slice AQ ms.length cQ] (w.heap.size + 1) qag).alloc (.cells #[.string ⟨#[]⟩, .string ⟨#[]⟩, .slice none 0 0, .slice none 0 0] 56)).alloc (.cells #[.string z2, .string pa, .slice none 0 0, .slice none 0 0] 56)
 have bR := (Blk.new' ((w.alloc (.cells #[.int .i64 z0, .int .i64 z1, .string z2, .slice A3 z3.length c3] 44)).alloc (.cells #[.string pa, .string pp, .slice AP fs.length cP, .slice AQ ms.length cQ] 56)) 56 #[.string ⟨#[]⟩, .string ⟨#[]⟩, .slice none 0 0, .slice none 0 0] (w.heap.size + 1 + 1) qag).alloc (.cells #[.string z2, .string pa, .slice none 0 0, .slice none 0 0] 56)
 have bC := Blk.new' (((w.alloc (.cells #[.int .i64 z0, .int .i64 z1, .string z2, .slice A3 z3.length c3] 44)).alloc (.cells #[.string pa, .string pp, .slice AP fs.length cP, .slice AQ ms.length cQ] 56)).alloc (.cells #[.string ⟨#[]⟩, .string ⟨#[]⟩, .slice none 0 0, .slice none 0 0] 56)) 56 #[.string z2, .string pa, .slice none 0 0, .slice none 0 0] (w.heap.size + 1 + 1 + 1) qag
 have HB := ((((Below.refl w.heap.size w).alloc nr (.cells #[.int .i64 z0, .int .i64 z1, .string z2, .slice A3 z3.length c3] 44)).alloc qag (.cells #[.string pa, .string pp, .slice AP fs.length cP, .slice AQ ms.length cQ] 56)).alloc qak (.cells #[.string ⟨#[]⟩, .string ⟨#[]⟩, .slice none 0 0, .slice none 0 0] 56)).alloc qak (.cells #[.string z2, .string pa, .slice none 0 0, .slice none 0 0] 56)
 go_enter Tryz.func37, Tryz.ntmps37
 go_upto_region 2 with fail
 have K0 : LkB w ((((w.alloc (.cells #[.int .i64 z0, .int .i64 z1, .string z2, .slice A3 z3.length c3] 44)).alloc (.cells #[.string pa, .string pp, .slice AP fs.length cP, .slice AQ ms.length cQ] 56)).alloc (.cells #[.string ⟨#[]⟩, .string ⟨#[]⟩, .slice none 0 0, .slice none 0 0] 56)).alloc (.cells #[.string z2, .string pa, .slice none 0 0, .slice none 0 0] 56)) [w.heap.size, w.heap.size + 1, w.heap.size + 1 + 1] z0 z1 z2 A3 z3.length c3 pa [] [] (.slice none 0 0) (.slice none 0 0) := by
  refine ⟨⟨bC, Ro.nil _ _, Ro.nil _ _, fun g e => (by cases e), HB, by omega, ⟨fun e => (by cases e), fun e => (by cases e)⟩, fun s hs => ?_⟩, bN, bR, fun s hs => ?_⟩
  ·simp only [List.mem_cons, List.not_mem_nil, or_false] at hs
   have := bC.lt
   exact ⟨by omega, by omega, fun e => (by cases e), fun e => (by cases e)⟩
  ·simp only [List.mem_cons, List.not_mem_nil, or_false]
   omega
 clear bN bR bC HB
 generalize (((w.alloc (.cells #[.int .i64 z0, .int .i64 z1, .string z2, .slice A3 z3.length c3] 44)).alloc (.cells #[.string pa, .string pp, .slice AP fs.length cP, .slice AQ ms.length cQ] 56)).alloc (.cells #[.string ⟨#[]⟩, .string ⟨#[]⟩, .slice none 0 0, .slice none 0 0] 56)).alloc (.cells #[.string z2, .string pa, .slice none 0 0, .slice none 0 0] 56) = X0 at *
 generalize hPe : Value.slice AP fs.length cP = uP at bP ⊢
 generalize hQe : Value.slice AQ ms.length cQ = uQ at bP ⊢
 have HPE := hid hPe.symm
 have HQE := hid hQe.symm
 clear hPe hQe
 have bC0 := K0.lk.box
 have K0s := K0.lk.sp (w.heap.size + 1) qag
 have bP1 := bP.alloc (.cells #[] 79)
 have bC1 := bC0.alloc (.cells #[] 79)
 have OW := hid (ownsRow_le9 (own_empty X0 79 8) K0.lk.be.size)
 have RDF := hid (HPF.out.below (K0.lk.be.alloc K0.lk.be.size (.cells #[] 79)) hB0)
 have hwd : w.heap.size ≤ (X0.alloc (.cells #[] 79)).heap.size := (K0.lk.be.alloc K0.lk.be.size (.cells #[] 79)).size
 have hBd : B ≤ (X0.alloc (.cells #[] 79)).heap.size := Nat.le_trans hB0 hwd
 have hne1 : some (w.heap.size + 1 + 1 + 1) ≠ (Value.slice (some ⟨X0.heap.size, 0, none⟩) 0 0).ownBlock := by
  intro e
  have e2 : w.heap.size + 1 + 1 + 1 = X0.heap.size := Option.some.inj e
  have := bC0.lt
  omega
 have bP10 := bP1.cell 0; have bP11 := bP1.cell 1; have bP12 := bP1.cell 2; have bP13 := bP1.cell 3; have bP1l := bP1.lt; have bP1f := fun i => bP1.frozen i
 go_upto_region 3 with (at_builtin; go_must (refine wpList_append_rd _ rfl (.tmp 26) (.tmp 28) _ rfl w.heap.size _ _ _ 104 Tryz.underlying53 infoFieldL rfl qaa (.slice (some ⟨X0.heap.size, 0, none⟩) 0 0) 0 _ rfl OW.out B AP fs.length cP (fvF fs) HPE.out RDF.out (fvF_one fs) qao qaa hwd ?_); intro v7 w7 own7 hg7 hat7; rw [Nat.zero_add, List.nil_append] at own7; obtain ⟨A7, c7, rfl⟩ := own_form own7; have OWN7 := hid own7; have HG7 := hid hg7; have HAT7 := hid hat7; have bC7 := (hg7.block _ bC1.lt hne1).trans bC1; have bC7_ : Blk w7 (w.heap.size + 1 + 1 + 1) 56 #[.string z2, .string pa, .slice none 0 0, .slice none 0 0] := bC7; have bC7_0 := bC7_.cell 0; have bC7_1 := bC7_.cell 1; have bC7_2 := bC7_.cell 2; have bC7_3 := bC7_.cell 3; have bC7_l := bC7_.lt; have bC7_f := fun i => bC7_.frozen i; clear own7 hg7 hat7 bC7)
 obtain ⟨L1, fr1⟩ := Lk.setF K0.lk OWN7.out (Put.made HG7.out HAT7.out)
 have K1 := K0.stay L1 fr1
 have bQ : Blk (w7.setCell ⟨w.heap.size + 1 + 1 + 1, 2, none⟩ (.slice A7 fs.length c7)) (w.heap.size + 1) 56 #[.string pa, .string pp, uP, uQ] := (fr1 _ qag).trans bP
 clear L1 fr1 K0 K0s bP1 bC0 bC1 OW RDF hwd hBd hne1 OWN7 HG7 HAT7 bP bP10 bP11 bP12 bP13 bP1l bP1f bC7_0 bC7_1 bC7_2 bC7_3 bC7_l bC7_f bC7_
 generalize w7.setCell ⟨w.heap.size + 1 + 1 + 1, 2, none⟩ (.slice A7 fs.length c7) = X1 at *
 have bC0 := K1.lk.box
 have bP1 := bQ.alloc (.cells #[] 87)
 have bC1 := bC0.alloc (.cells #[] 87)
 have OW := hid (ownsRow_le9 (own_empty X1 87 5) K1.lk.be.size)
 have RDF := hid (HPM.out.below (K1.lk.be.alloc K1.lk.be.size (.cells #[] 87)) hB0)
 have hwd : w.heap.size ≤ (X1.alloc (.cells #[] 87)).heap.size := (K1.lk.be.alloc K1.lk.be.size (.cells #[] 87)).size
 have hBd : B ≤ (X1.alloc (.cells #[] 87)).heap.size := Nat.le_trans hB0 hwd
 have hne1 : some (w.heap.size + 1 + 1 + 1) ≠ (Value.slice (some ⟨X1.heap.size, 0, none⟩) 0 0).ownBlock := by
  intro e
  have e2 : w.heap.size + 1 + 1 + 1 = X1.heap.size := Option.some.inj e
  have := bC0.lt
  omega
 have bP10 := bP1.cell 0; have bP11 := bP1.cell 1; have bP12 := bP1.cell 2; have bP13 := bP1.cell 3; have bP1l := bP1.lt; have bP1f := fun i => bP1.frozen i
 go_upto_region 4 with (at_builtin; go_must (refine wpList_append_rd _ rfl (.tmp 31) (.tmp 33) _ rfl w.heap.size _ _ _ 56 Tryz.underlying54 infoMethodL rfl qaa (.slice (some ⟨X1.heap.size, 0, none⟩) 0 0) 0 _ rfl OW.out B AQ ms.length cQ (fvM ms) HQE.out RDF.out (fvM_one ms) qao qaa hwd ?_); intro v8 w8 own7 hg7 hat7; rw [Nat.zero_add, List.nil_append] at own7; obtain ⟨A8, c8, rfl⟩ := own_form own7; have OWN7 := hid own7; have HG7 := hid hg7; have HAT7 := hid hat7; have bC7 := (hg7.block _ bC1.lt hne1).trans bC1; have bC7_ : Blk w8 (w.heap.size + 1 + 1 + 1) 56 #[.string z2, .string pa, .slice A7 fs.length c7, .slice none 0 0] := bC7; have bC7_0 := bC7_.cell 0; have bC7_1 := bC7_.cell 1; have bC7_2 := bC7_.cell 2; have bC7_3 := bC7_.cell 3; have bC7_l := bC7_.lt; have bC7_f := fun i => bC7_.frozen i; clear own7 hg7 hat7 bC7)
 obtain ⟨L1, fr1⟩ := Lk.setM K1.lk OWN7.out (Put.made HG7.out HAT7.out)
 have K2 := K1.stay L1 fr1
 clear L1 fr1 K1 bP1 bC0 bC1 OW RDF hwd hBd hne1 OWN7 HG7 HAT7 bQ bP10 bP11 bP12 bP13 bP1l bP1f bC7_0 bC7_1 bC7_2 bC7_3 bC7_l bC7_f bC7_ HPE HQE HPF HPM
 generalize w8.setCell ⟨w.heap.size + 1 + 1 + 1, 3, none⟩ (.slice A8 ms.length c8) = X2 at *
 obtain ⟨S, hS⟩ : ∃ S, S = [w.heap.size, w.heap.size + 1, w.heap.size + 1 + 1] := ⟨_, rfl⟩
 rw [← hS] at K2
 clear hS
 have hsl : ∀ s, s = w.heap.size ∨ s = w.heap.size + 1 + 1 → s ∈ S := K2.hs
 obtain ⟨s0, hs0⟩ : ∃ s0, s0 = (⟨fs, ms, true⟩ : BS) := ⟨_, rfl⟩
 have M0 : LkB w X2 S z0 z1 z2 A3 z3.length c3 pa s0.fs s0.ms (.slice A7 fs.length c7) (.slice A8 ms.length c8) := by rw [hs0]; exact K2
 have BSC := hid (show bsC ⟨z0, z1, z2, z3⟩ ts fs ms = z3.foldl (BS.stepM z2) (z3.foldl (BS.stepW z2 z3 ts) s0) from by rw [hs0]; exact (HX.out.two ts ⟨fs, ms, true⟩).symm)
 have HOK := hid (show s0.ok = true by rw [hs0])
 have HGD2 := hid (show s0.gd G by rw [hs0]; exact HGD.out)
 clear K2 hs0 HGD
 have HSW := hid (fun (k : Nat) (y : FNode) (hy : z3[k]? = some y) => show (z3.take (k + 1)).foldl (BS.stepW z2 z3 ts) s0 = BS.stepW z2 z3 ts ((z3.take k).foldl (BS.stepW z2 z3 ts) s0) y from by rw [List.take_add_one, hy, List.foldl_append]; rfl)
 have HGW := hid (fun (k : Nat) => show ((z3.take k).foldl (BS.stepW z2 z3 ts) s0).gd G from BS.gd.stepsW hz2 hts _ _ HGD2.out)
 go_wp2_with fail
 go_loopw [10, 9] (fun iv cv wr => ∃ k : Nat, k ≤ z3.length ∧ iv = .int .i64 k ∧ cv = .bool (!((z3.take k).foldl (BS.stepW z2 z3 ts) s0).ok) ∧ (∃ uF uM, LkB w wr S z0 z1 z2 A3 z3.length c3 pa ((z3.take k).foldl (BS.stepW z2 z3 ts) s0).fs ((z3.take k).foldl (BS.stepW z2 z3 ts) s0).ms uF uM) ∧ ∀ (j : Nat) (y : FNode), j < k → z3[j]? = some y → noTr ts y = false) (fun iv _ _ => z3.length - (intOf iv).toNat)
 case atStart => exact ⟨0, Nat.zero_le _, rfl, by rw [List.take_zero]; show _ = Value.bool (!s0.ok); rw [HOK.out]; rfl, ⟨_, _, by rw [List.take_zero]; exact M0⟩, fun j y h => absurd h qaa⟩
 case round =>
  clear M0
  obtain ⟨k, hk, rfl, rfl, ⟨uF, uM, M⟩, hno⟩ := hrel
  obtain ⟨wo, rfl⟩ : ∃ X : World, X = wr := ⟨_, rfl⟩
  have HNO := hid hno
  have kn3 := M.n.cell 3
  clear hno
  by_cases hlt : k < z3.length
  ·obtain ⟨y, hy⟩ : ∃ y, z3[k]? = some y := ⟨_, List.getElem?_eq_getElem hlt⟩
   have HSK := hid (HSW.out k y hy)
   have hgd := HGW.out k
   generalize (z3.take k).foldl (BS.stepW z2 z3 ts) s0 = st at *
   have HG := hid hgd
   obtain ⟨by_, offy, Ey, hbly, hcc⟩ := RdC.at_ FNode.len R3.out hy
   subst Ey
   have HY := hid hy
   have hlt2 : (k : Int) < (z3.length : Int) := qaa
   have hk0 : (0 : Int) ≤ (k : Int) := qaa
   obtain ⟨y0, y1, y2, y3⟩ := y
   obtain ⟨Dy, dy, cy_0, cy_1, cy_2, cy_3, -⟩ := opN M.lk.be (Nat.lt_of_lt_of_le hbly hB0) hcc (offy + k * 4) (offy + k * 4 + 1) (offy + k * 4 + 2) (offy + k * 4 + 3) qaa
   have M1 := hid (M.fresh (.cells #[.int .i64 y0, .int .i64 y1, .string y2, .slice Dy y3.length dy] 44))
   have bY := Blk.new wo 44 #[.int .i64 y0, .int .i64 y1, .string y2, .slice Dy y3.length dy]
   clear hcc hy hgd M
   have HNX := hid (fun (h : noTr ts ⟨y0, y1, y2, y3⟩ = false) (j : Nat) (y : FNode) (hj : j < k + 1) (hy : z3[j]? = some y) => show noTr ts y = false from by
    by_cases e : j = k
    ·subst e
     rw [HY.out] at hy
     cases hy
     exact h
    ·exact HNO.out j y qaa hy)
   by_cases h53 : y0 = 53
   ·subst h53
    rcases fidx_lt FClass.nm ts y2 with hi | ⟨i, cl, hi, hil, hci⟩
    ·have FY := hid (FT_.out y2)
     rw [hi] at FY
     have BD3 := hid (show bldC ⟨z0, z1, z2, z3⟩ pa fs ms ts = (3, ⟨⟨#[]⟩, ⟨#[]⟩, [], []⟩) from by rw [BD.out, if_pos (List.any_eq_true.2 ⟨_, List.mem_of_getElem? HY.out, by show ((53 : Int) == 53 && decide (fidx FClass.nm ts y2 < 0)) = true; rw [hi]; rfl⟩)])
     go_wp2_with (go_at_call 36; refine (FY.out _ M1.out.lk.be).mono ?_; rintro e w3 ⟨rfl, hb, hb2⟩; have M3 := M1.out.below hb; have bR := M3.r; have HB3 := hid hb2; have bR0 := bR.cell 0; have bR1 := bR.cell 1; have bR2 := bR.cell 2; have bR3 := bR.cell 3; have bRl := bR.lt; have bRf := fun i => bR.frozen i; clear hb hb2)
     rw [BD3.out]
     refine bodyPost_ret (v := .tuple #[.agg #[.string ⟨#[]⟩, .string ⟨#[]⟩, .slice none 0 0, .slice none 0 0], .int .i64 3]) (by simp [results, Tryz.results37, go_sem, bR0, bR1, bR2, bR3, bRl, bRf]) rfl ⟨⟨#[]⟩, ⟨#[]⟩, none, 0, 0, none, 0, 0, rfl, ?_, fun h => by cases h⟩
     repeat (refine Below.setCell ?_ qbl _)
     exact HB3.out
    obtain ⟨p, hp, hpc⟩ : ∃ p, J[i]? = some p ∧ p.1 = cl := by
     exact zz112
    have HNZ := hid (HNX.out (show ((53 : Int) == 53 && decide (fidx FClass.nm ts y2 < 0)) = false from by rw [hi]; simp))
    have HCL := hid (hts cl (List.mem_of_getElem? hci))
    have hcat : clAt ts y2 = some cl := by unfold clAt; rw [hi, atI_nat hci]
    have RM := hid (HJR.out.mem p (List.mem_of_getElem? hp))
    obtain ⟨⟨ca, cb, cfs, cms⟩, uFi, uMi⟩ := p
    subst hpc
    have HS0 := hid (show (z3.take (k + 1)).foldl (BS.stepW z2 z3 ts) s0 = (st.useF z2 cfs).useM z2 z3 cms from by
     rw [HSK.out]
     unfold BS.stepW
     exact zz115)
    obtain ⟨AF, cF, eF⟩ : ∃ A c, uFi = .slice A cfs.length c := RM.out.1.form
    obtain ⟨AM, cM, eM⟩ : ∃ A c, uMi = .slice A cms.length c := RM.out.2.form
    subst eF eM
    have RK := hid (fun (X : World) (hb : Below w.heap.size w X) => HJR.out.at_ hb hB0 hp)
    obtain ⟨bk, offk, Ek, hbk, -⟩ := RK.out w (Below.refl _ _)
    subst Ek
    have RK2 := hid (fun (X : World) (hb : Below w.heap.size w X) => show X.cell? ⟨bk, offk + i * 4 + 2, none⟩ = some (.slice AF cfs.length cF) ∧ X.cell? ⟨bk, offk + i * 4 + 3, none⟩ = some (.slice AM cms.length cM) from by
     obtain ⟨b', off', e', -, -, k0, k1, k2, k3⟩ := RK.out X hb
     cases e'
     exact ⟨k2, k3⟩)
    have FY := hid (FT_.out y2)
    rw [hi] at FY
    have hi0 : (0 : Int) ≤ (i : Int) := qaa
    have hil2 : (i : Int) < (ts.length : Int) := qaa
    have hcf : cfs.length ≤ 1000000000 := Nat.le_trans HCL.out.f.len hG
    have hcm : cms.length ≤ 1000000000 := Nat.le_trans HCL.out.m.len hG
    clear hp hci RK hcat
    go_upto_region 14 with (go_at_call 36; refine (FY.out _ M1.out.lk.be).mono ?_; rintro e w3 ⟨rfl, hb, hb2⟩; have M3 := M1.out.below hb; clear hb hb2)
    clear bY
    go_wp2_with fail
    go_loopw [14, 9] (fun iv cv wr => ∃ j : Nat, j ≤ cfs.length ∧ iv = .int .i64 j ∧ cv = .bool (!(st.useF z2 (cfs.take j)).ok) ∧ ∃ uF uM, LkB w wr (wo.heap.size :: S) z0 z1 z2 (some ⟨by_, offy, none⟩) z3.length c3 pa (st.useF z2 (cfs.take j)).fs (st.useF z2 (cfs.take j)).ms uF uM) (fun iv _ _ => cfs.length - (intOf iv).toNat)
    case atStart => exact ⟨0, Nat.zero_le _, rfl, by rw [List.take_zero]; rfl, _, _, by rw [List.take_zero]; exact M3⟩
    case round =>
     clear M3
     obtain ⟨j, hj, rfl, rfl, uF, uM, M5⟩ := hrel
     obtain ⟨k2, k3⟩ := RK2.out _ M5.lk.be
     by_cases hjl : j < cfs.length
     ·obtain ⟨f, hf⟩ : ∃ f, cfs[j]? = some f := ⟨_, List.getElem?_eq_getElem hjl⟩
      have hfp := HCL.out.f.mem f (List.mem_of_getElem? hf)
      obtain ⟨bf, offf, cF2, eF, hbf, hfc⟩ := rd_at FField.vlen RM.out.1 M5.lk.be hB0 hf
      cases eF
      have HTK := hid (show st.useF z2 (cfs.take (j + 1)) = (st.useF z2 (cfs.take j)).putF z2 (f.own z2) from by unfold BS.useF; rw [List.take_add_one, hf, List.foldl_append]; rfl)
      have hgj : (st.useF z2 (cfs.take j)).gd G := BS.gd.useF hz2 _ _ HG.out fun x hx => HCL.out.f.mem x (List.mem_of_mem_take hx)
      generalize st.useF z2 (cfs.take j) = sj at *
      have hlj : sj.fs.length ≤ 1000000000 := Nat.le_trans hgj.1.len hG
      clear hgj
      have hjl2 : (j : Int) < (cfs.length : Int) := qaa
      have hj0 : (0 : Int) ≤ (j : Int) := qaa
      obtain ⟨f0, f1, f2, ⟨f3, f4, f5, f6, f7⟩⟩ := f
      obtain rfl : f7 = [] := hfp.1.2.2.2
      have hwp : FField.plain ⟨f0, z2, f2, ⟨f3, f4, f5, f6, []⟩⟩ := own_plainF hfp.1 hz2
      have q0 : wr.cell? ⟨bf, offf + j * 8, none⟩ = some (.string f0) := hfc 0 _ rfl
      have q1 : wr.cell? ⟨bf, offf + j * 8 + 1, none⟩ = some (.string f1) := hfc 1 _ rfl
      have q2 : wr.cell? ⟨bf, offf + j * 8 + 2, none⟩ = some (.bool f2) := hfc 2 _ rfl
      have q3 : wr.cell? ⟨bf, offf + j * 8 + 3, none⟩ = some (.int .i64 f3) := hfc 3 _ rfl
      have q4 : wr.cell? ⟨bf, offf + j * 8 + 4, none⟩ = some (.int .i64 f4) := hfc 4 _ rfl
      have q5 : wr.cell? ⟨bf, offf + j * 8 + 5, none⟩ = some (.string f5) := hfc 5 _ rfl
      have q6 : wr.cell? ⟨bf, offf + j * 8 + 6, none⟩ = some (.int .i64 f6) := hfc 6 _ rfl
      have q7 : wr.cell? ⟨bf, offf + j * 8 + 7, none⟩ = some (.slice none 0 0) := hfc 7 _ rfl
      obtain ⟨AF9, cF9, eF9⟩ : ∃ A c, uF = .slice A sj.fs.length c := M5.lk.rf.form
      obtain ⟨AM9, cM9, eM9⟩ : ∃ A c, uM = .slice A sj.ms.length c := M5.lk.rm.form
      subst eF9 eM9
      have bC6 := (M5.fresh (.cells #[.string f0, .string f1, .bool f2, .int .i64 f3, .int .i64 f4, .string f5, .int .i64 f6, .slice none 0 0] 79)).lk.box
      have bC60 := bC6.cell 0
      have M7 := M5.fresh (.cells #[.string f0, .string z2, .bool f2, .int .i64 f3, .int .i64 f4, .string f5, .int .i64 f6, .slice none 0 0] 79)
      have bF := Blk.new wr 79 #[.string f0, .string f1, .bool f2, .int .i64 f3, .int .i64 f4, .string f5, .int .i64 f6, .slice none 0 0]
      have bF7 := Blk.new wr 79 #[.string f0, .string z2, .bool f2, .int .i64 f3, .int .i64 f4, .string f5, .int .i64 f6, .slice none 0 0]
      have bFl := bF.lt
      have bFf := fun i => bF.frozen i
      clear hfc hf M5
      go_upto_region 19 with fail
      clear bF bC6 bC60 bFl bFf q0 q1 q2 q3 q4 q5 q6 q7 k2 k3
      generalize wr.alloc (.cells #[.string f0, .string z2, .bool f2, .int .i64 f3, .int .i64 f4, .string f5, .int .i64 f6, .slice none 0 0] 79) = W4 at *
      have bF70 := bF7.cell 0; have bF71 := bF7.cell 1; have bF72 := bF7.cell 2; have bF73 := bF7.cell 3; have bF74 := bF7.cell 4; have bF75 := bF7.cell 5; have bF76 := bF7.cell 6; have bF77 := bF7.cell 7; have bF7l := bF7.lt; have bF7f := fun i => bF7.frozen i
      have bC7 := M7.lk.box
      have bC70 := bC7.cell 0; have bC71 := bC7.cell 1; have bC72 := bC7.cell 2; have bC73 := bC7.cell 3; have bC7l := bC7.lt; have bC7f := fun i => bC7.frozen i
      have MX := hid M7
      have hle7 := M7.lk.be.size
      have HS := hid (show st.useF z2 (cfs.take (j + 1)) = ⟨(putF z2 sj.fs ⟨f0, z2, f2, ⟨f3, f4, f5, f6, []⟩⟩).1, sj.ms, (putF z2 sj.fs ⟨f0, z2, f2, ⟨f3, f4, f5, f6, []⟩⟩).2 && sj.ok⟩ from HTK.out)
      clear M7 HTK
      cases hok : sj.ok
      all_goals
       go_wp2_with (go_at_call 59; refine (put_spec w.heap.size z2 pa sj.fs _ AM9 _ cM9 ⟨f0, z2, f2, ⟨f3, f4, f5, f6, []⟩⟩ _ hle7 MX.out.lk.rf hlj hwp).mono ?_; rintro e w6 ⟨vF, rfl, ro6, p6⟩; obtain ⟨A6, c6, e6⟩ := ro6.form; subst e6; obtain ⟨L9, fr9⟩ := Lk.ptF4 MX.out.lk ro6 p6; have MY := hid ((MX.out.stay L9 fr9).drop fun s h => List.mem_cons_of_mem _ (hsl s h)); have bC9 : Blk w6 (w.heap.size + 1 + 1 + 1) 56 #[.string z2, .string pa, .slice AF9 sj.fs.length cF9, .slice AM9 sj.ms.length cM9] := (p6.gr.block _ MX.out.lk.box.lt fun e => MX.out.lk.nb.1 e.symm).trans MX.out.lk.box; have bC90 := bC9.cell 0; have bC91 := bC9.cell 1; have bC92 := bC9.cell 2; have bC93 := bC9.cell 3; have bC9l := bC9.lt; have bC9f := fun i => bC9.frozen i; clear ro6 p6 L9 fr9)
       exact zz119
     ·obtain rfl : j = cfs.length := qaa
      rw [List.take_length] at M5
      rw [List.take_length]
      have hg2 : (st.useF z2 cfs).gd G := BS.gd.useF hz2 _ _ HG.out fun x hx => HCL.out.f.mem x hx
      generalize st.useF z2 cfs = s2 at *
      have HG2 := hid hg2
      have hj0 : (0 : Int) ≤ (cfs.length : Int) := qaa
      clear hg2 hjl hj
      go_wp2_with fail
      clear k2 k3
      go_loopw [16, 9] (fun iv cv wr => ∃ j : Nat, j ≤ cms.length ∧ iv = .int .i64 j ∧ cv = .bool (!(s2.useM z2 z3 (cms.take j)).ok) ∧ ∃ uF uM, LkB w wr (wo.heap.size :: S) z0 z1 z2 (some ⟨by_, offy, none⟩) z3.length c3 pa (s2.useM z2 z3 (cms.take j)).fs (s2.useM z2 z3 (cms.take j)).ms uF uM) (fun iv _ _ => cms.length - (intOf iv).toNat)
      case atStart => exact ⟨0, Nat.zero_le _, rfl, by rw [List.take_zero]; rfl, _, _, by rw [List.take_zero]; exact M5⟩
      case round =>
       clear M5
       obtain ⟨j, hj, rfl, rfl, uF, uM, M5⟩ := hrel
       obtain ⟨k2, k3⟩ := RK2.out _ M5.lk.be
       by_cases hjl : j < cms.length
       ·obtain ⟨f, hf⟩ : ∃ f, cms[j]? = some f := ⟨_, List.getElem?_eq_getElem hjl⟩
        have hfp := HCL.out.m.mem f (List.mem_of_getElem? hf)
        obtain ⟨bf, offf, cF2, eF, hbf, hfc⟩ := rd_at FMethod.vlen RM.out.2 M5.lk.be hB0 hf
        cases eF
        have HTK := hid (show s2.useM z2 z3 (cms.take (j + 1)) = (if dclB z3 (FMethod.nm f) then s2.useM z2 z3 (cms.take j) else (s2.useM z2 z3 (cms.take j)).putM z2 (f.own z2)) from by unfold BS.useM; rw [List.take_add_one, hf, List.foldl_append]; rfl)
        have hgj : (s2.useM z2 z3 (cms.take j)).gd G := BS.gd.useM hz2 _ _ HG2.out fun x hx => HCL.out.m.mem x (List.mem_of_mem_take hx)
        generalize s2.useM z2 z3 (cms.take j) = sj at *
        have hlj : sj.ms.length ≤ 1000000000 := Nat.le_trans hgj.2.len hG
        clear hgj
        have hjl2 : (j : Int) < (cms.length : Int) := qaa
        have hj0 : (0 : Int) ≤ (j : Int) := qaa
        obtain ⟨f0, f1, f2, f3, f4⟩ := f
        have q0 : wr.cell? ⟨bf, offf + j * 5, none⟩ = some (.string f0) := hfc 0 _ rfl
        have q1 : wr.cell? ⟨bf, offf + j * 5 + 1, none⟩ = some (.string f1) := hfc 1 _ rfl
        have q2 : wr.cell? ⟨bf, offf + j * 5 + 2, none⟩ = some (.string f2) := hfc 2 _ rfl
        have q3 : wr.cell? ⟨bf, offf + j * 5 + 3, none⟩ = some (.bool f3) := hfc 3 _ rfl
        have q4 : wr.cell? ⟨bf, offf + j * 5 + 4, none⟩ = some (.bool f4) := hfc 4 _ rfl
        obtain ⟨AF9, cF9, eF9⟩ : ∃ A c, uF = .slice A sj.fs.length c := M5.lk.rf.form
        obtain ⟨AM9, cM9, eM9⟩ : ∃ A c, uM = .slice A sj.ms.length c := M5.lk.rm.form
        subst eF9 eM9
        have bC6 := (M5.fresh (.cells #[.string f0, .string f1, .string f2, .bool f3, .bool f4] 87)).lk.box
        have bC60 := bC6.cell 0
        have M7 := M5.fresh (.cells #[.string f0, .string z2, .string f2, .bool f3, .bool f4] 87)
        have bF := Blk.new wr 87 #[.string f0, .string f1, .string f2, .bool f3, .bool f4]
        have bF7 := Blk.new wr 87 #[.string f0, .string z2, .string f2, .bool f3, .bool f4]
        have bFl := bF.lt
        have bFf := fun i => bF.frozen i
        clear hfc hf M5
        go_upto_region 26 with fail
        clear bF bC6 bC60 bFl bFf q0 q1 q2 q3 q4 k2 k3
        generalize wr.alloc (.cells #[.string f0, .string z2, .string f2, .bool f3, .bool f4] 87) = W4 at *
        have bF70 := bF7.cell 0; have bF71 := bF7.cell 1; have bF72 := bF7.cell 2; have bF73 := bF7.cell 3; have bF74 := bF7.cell 4; have bF7l := bF7.lt; have bF7f := fun i => bF7.frozen i
        have bN7 := M7.n
        have bN70 := bN7.cell 0; have bN71 := bN7.cell 1; have bN72 := bN7.cell 2; have bN73 := bN7.cell 3; have bN7l := bN7.lt; have bN7f := fun i => bN7.frozen i
        have MX := hid M7
        have DCL := hid (dcl_spec z0 z1 z2 z3 f0 (some ⟨by_, offy, none⟩) c3 W4 (B := B) (Nat.le_trans hB0 M7.lk.be.size) hz (R3.out.below M7.lk.be hB0))
        clear M7
        cases hd : dclB z3 f0 with
        | true =>
         rw [hd] at DCL
         have HS := hid (show s2.useM z2 z3 (cms.take (j + 1)) = sj from by rw [HTK.out, show dclB z3 (FMethod.nm ⟨f0, f1, f2, f3, f4⟩) = true from hd]; rfl)
         go_wp2_with (go_at_call 60; refine DCL.out.mono ?_; rintro e w5 ⟨rfl, hb⟩; have MY := hid ((MX.out.below hb).drop fun s h => List.mem_cons_of_mem _ (hsl s h)); clear hb)
         go_roundw
         case rel => exact ⟨j + 1, by omega, by go_num, by rw [HS.out], _, _, by rw [HS.out]; exact MY.out⟩
         case measure => simp [intOf]; omega
        | false =>
         rw [hd] at DCL
         have HS := hid (show s2.useM z2 z3 (cms.take (j + 1)) = ⟨sj.fs, (putM z2 sj.ms ⟨f0, z2, f2, f3, f4⟩).1, (putM z2 sj.ms ⟨f0, z2, f2, f3, f4⟩).2 && sj.ok⟩ from by rw [HTK.out, show dclB z3 (FMethod.nm ⟨f0, f1, f2, f3, f4⟩) = false from hd]; rfl)
         clear HTK
         cases hok : sj.ok
         all_goals
          go_wp2_with (first | (go_at_call 60; refine DCL.out.mono ?_; rintro e w5 ⟨rfl, hb⟩; have MZ := hid (MX.out.below hb); replace bF7 := bF7.below hb nr; have bC7 := MZ.out.lk.box; have hle7 := MZ.out.lk.be.size; have bC70 := bC7.cell 0; have bC71 := bC7.cell 1; have bC72 := bC7.cell 2; have bC73 := bC7.cell 3; have bC7l := bC7.lt; have bC7f := fun i => bC7.frozen i; have bF70 := bF7.cell 0; have bF71 := bF7.cell 1; have bF72 := bF7.cell 2; have bF73 := bF7.cell 3; have bF74 := bF7.cell 4; have bF7l := bF7.lt; have bF7f := fun i => bF7.frozen i; clear hb) | (go_at_call 61; refine (give_spec w.heap.size z2 pa sj.ms _ AF9 _ cF9 ⟨f0, z2, f2, f3, f4⟩ _ hle7 MZ.out.lk.rm hlj).mono ?_; rintro e w6 ⟨vF, rfl, ro6, p6⟩; obtain ⟨A6, c6, e6⟩ := ro6.form; subst e6; obtain ⟨L9, fr9⟩ := Lk.ptM4 MZ.out.lk ro6 p6; have MY := hid ((MZ.out.stay L9 fr9).drop fun s h => List.mem_cons_of_mem _ (hsl s h)); have bC9 : Blk w6 (w.heap.size + 1 + 1 + 1) 56 #[.string z2, .string pa, .slice AF9 sj.fs.length cF9, .slice AM9 sj.ms.length cM9] := (p6.gr.block _ MZ.out.lk.box.lt fun e => MZ.out.lk.nb.2 e.symm).trans MZ.out.lk.box; have bC90 := bC9.cell 0; have bC91 := bC9.cell 1; have bC92 := bC9.cell 2; have bC93 := bC9.cell 3; have bC9l := bC9.lt; have bC9f := fun i => bC9.frozen i; clear ro6 p6 L9 fr9))
          exact zz119
       ·obtain rfl : j = cms.length := qaa
        rw [List.take_length] at M5
        rw [List.take_length]
        have M5b := hid (M5.drop hsl)
        have hj0 : (0 : Int) ≤ (cms.length : Int) := qaa
        clear M5 hjl hj
        go_wp2_with fail
        go_roundw
        case rel => exact ⟨k + 1, by omega, by go_num, by rw [HS0.out], ⟨_, _, by rw [HS0.out]; exact M5b.out⟩, HNZ.out⟩
        case measure => simp [intOf]; omega
   ·have h5 : (y0 == 53) = false := by rw [beq_eq_false_iff_ne]; exact h53
    have h5n : (y0 != 53) = true := by rw [bne_iff_ne]; exact h53
    have HS := hid (show (z3.take (k + 1)).foldl (BS.stepW z2 z3 ts) s0 = st from by rw [HSK.out]; unfold BS.stepW; rw [if_neg (show ¬ (FNode.mk y0 y1 y2 y3).kd = 53 from h53)])
    have HNZ := hid (HNX.out (show (y0 == 53 && decide (fidx FClass.nm ts y2 < 0)) = false from by rw [h5]; rfl))
    clear bY
    go_wp2_with fail
    go_roundw
    case rel => exact ⟨k + 1, by omega, by go_num, by rw [HS.out], ⟨_, _, by rw [HS.out]; exact M1.out.drop hsl⟩, HNZ.out⟩
    case measure => simp [intOf]; omega
  ·obtain rfl : k = z3.length := qaa
   rw [List.take_length] at M
   rw [List.take_length]
   have hany : z3.any (noTr ts) = false := by
    exact zz122
   have hg1 : (z3.foldl (BS.stepW z2 z3 ts) s0).gd G := BS.gd.stepsW hz2 hts _ _ HGD2.out
   generalize z3.foldl (BS.stepW z2 z3 ts) s0 = s1 at *
   have BD4 := hid (show bldC ⟨z0, z1, z2, z3⟩ pa fs ms ts = if (z3.foldl (BS.stepM z2) s1).ok then (0, ⟨z2, pa, (z3.foldl (BS.stepM z2) s1).fs, (z3.foldl (BS.stepM z2) s1).ms⟩) else (4, ⟨⟨#[]⟩, ⟨#[]⟩, [], []⟩) from by rw [BD.out, hany, BSC.out]; rfl)
   have HSM := hid (fun (k : Nat) (y : FNode) (hy : z3[k]? = some y) => show (z3.take (k + 1)).foldl (BS.stepM z2) s1 = BS.stepM z2 ((z3.take k).foldl (BS.stepM z2) s1) y from by rw [List.take_add_one, hy, List.foldl_append]; rfl)
   have HGM := hid (fun (k : Nat) => show ((z3.take k).foldl (BS.stepM z2) s1).gd G from BS.gd.stepsM hz2 _ _ hg1 fun y hy => ⟨hkg y (List.mem_of_mem_take hy), HX.out.mem y (List.mem_of_mem_take hy)⟩)
   clear hany hg1 BSC BD HGD2 HSW HGW HNO HOK hlt hk
   go_wp2_with fail
   go_loopw [18, 9] (fun iv cv wr => ∃ k : Nat, k ≤ z3.length ∧ iv = .int .i64 k ∧ cv = .bool (!((z3.take k).foldl (BS.stepM z2) s1).ok) ∧ ∃ uF uM, LkB w wr S z0 z1 z2 A3 z3.length c3 pa ((z3.take k).foldl (BS.stepM z2) s1).fs ((z3.take k).foldl (BS.stepM z2) s1).ms uF uM) (fun iv _ _ => z3.length - (intOf iv).toNat)
   case atStart => exact ⟨0, Nat.zero_le _, rfl, by rw [List.take_zero]; rfl, _, _, by rw [List.take_zero]; exact M⟩
   case round =>
    clear M kn3
    obtain ⟨k, hk, rfl, rfl, uF, uM, M⟩ := hrel
    obtain ⟨wo, rfl⟩ : ∃ X : World, X = wr := ⟨_, rfl⟩
    have kn3 := M.n.cell 3
    by_cases hlt : k < z3.length
    ·obtain ⟨y, hy⟩ : ∃ y, z3[k]? = some y := ⟨_, List.getElem?_eq_getElem hlt⟩
     have hyo := HX.out.any (x := ⟨z0, z1, z2, z3⟩) (show z3[k]? = some y from hy)
     have HSK := hid (HSM.out k y hy)
     have hgd := HGM.out k
     have hsz2 := hsz y (List.mem_of_getElem? hy)
     generalize (z3.take k).foldl (BS.stepM z2) s1 = sj at *
     have hfl : sj.fs.length ≤ 1000000000 := Nat.le_trans hgd.1.len hG
     have hml : sj.ms.length ≤ 1000000000 := Nat.le_trans hgd.2.len hG
     obtain ⟨by_, offy, Ey, hbly, hcc⟩ := RdC.at_ FNode.len R3.out hy
     subst Ey
     have hlt2 : (k : Int) < (z3.length : Int) := qaa
     have hk0 : (0 : Int) ≤ (k : Int) := qaa
     obtain ⟨y0, y1, y2, y3⟩ := y
     obtain ⟨Dy, dy, cy_0, cy_1, cy_2, cy_3, q3⟩ := opN M.lk.be (Nat.lt_of_lt_of_le hbly hB0) hcc (offy + k * 4) (offy + k * 4 + 1) (offy + k * 4 + 2) (offy + k * 4 + 3) qaa
     have QY := hid q3
     obtain ⟨AF, cF, eF⟩ : ∃ A c, uF = .slice A sj.fs.length c := M.lk.rf.form
     obtain ⟨AM, cM, eM⟩ : ∃ A c, uM = .slice A sj.ms.length c := M.lk.rm.form
     subst eF eM
     have M1 := hid (M.fresh (.cells #[.int .i64 y0, .int .i64 y1, .string y2, .slice Dy y3.length dy] 44))
     have bY := Blk.new wo 44 #[.int .i64 y0, .int .i64 y1, .string y2, .slice Dy y3.length dy]
     clear hcc q3 hy hgd M
     rcases hyo.kd with hk52 | hk53 | hk54 | hk55
     ·obtain ⟨e52, _, _⟩ := hk52
      obtain rfl : y0 = 52 := e52
      exact zz87
     ·obtain rfl : y0 = 53 := hk53
      exact zz87
     ·obtain ⟨e54, ⟨yk, eyk, ⟨hk13, hk400⟩, hn54⟩⟩ := hk54
      obtain rfl : y0 = 54 := e54
      obtain rfl : y3 = [yk] := eyk
      have hn := inB_iff.1 hn54
      have hn2 : 0 ≤ y1 ∧ y1 ≤ 1 := hn
      have hy4 : y1 = 0 ∨ y1 = 1 := qaa
      clear hn hn2 hn54
      obtain ⟨q0, q1, q2, q3⟩ := yk
      obtain ⟨bq, offq, Eq_, hblq, hcq⟩ := RdC.at_ (l := [⟨q0, q1, q2, q3⟩]) FNode.len QY.out (i := 0) (x := ⟨q0, q1, q2, q3⟩) rfl
      subst Eq_
      obtain ⟨Dq, dq, kq0, kq1, kq2, kq3, -⟩ := opN (Below.refl w.heap.size w) (Nat.lt_of_lt_of_le hblq hB0) hcq (offq) (offq + 1) (offq + 2) (offq + 3) qaa
      have hbq : bq < w.heap.size := Nat.lt_of_lt_of_le hblq hB0
      have QC := hid (fun (X : World) (hb : Below w.heap.size w X) => show X.cell? ⟨bq, offq, none⟩ = some (.int .i64 q0) ∧ X.cell? ⟨bq, offq + 1, none⟩ = some (.int .i64 q1) ∧ X.cell? ⟨bq, offq + 2, none⟩ = some (.string q2) ∧ X.cell? ⟨bq, offq + 3, none⟩ = some (.slice Dq q3.length dq) from
       ⟨(hb.cell (p := ⟨bq, offq, none⟩) hbq).trans kq0, (hb.cell (p := ⟨bq, offq + 1, none⟩) hbq).trans kq1, (hb.cell (p := ⟨bq, offq + 2, none⟩) hbq).trans kq2, (hb.cell (p := ⟨bq, offq + 3, none⟩) hbq).trans kq3⟩)
      obtain ⟨V, hV⟩ : ∃ V, litV ⟨q0, q1, q2, q3⟩ = V := ⟨_, rfl⟩
      have hVp : ∀ b, FField.plain ⟨y2, z2, b, V⟩ := fun b => by rw [← hV]; exact litV_plain hsz2 hz2 hk400
      have LV0 := hid (fun X => litV_spec q0 q1 q2 q3 Dq q3.length dq X hk13)
      rw [hV] at LV0
      obtain ⟨v0, v1, v2, v3, v4⟩ := V
      obtain rfl : v4 = [] := (hVp false).2.2.2
      have LV := hid (fun (X : World) => show Calls Tryz.prog 62 #[.agg #[.int .i64 q0, .int .i64 q1, .string q2, .slice Dq q3.length dq]] X fun e w' => e = .returned (.agg #[.int .i64 v0, .int .i64 v1, .string v2, .int .i64 v3, .slice none 0 0]) ∧ Below X.heap.size X w' from LV0.out X)
      clear LV0 hcq kq0 kq1 kq2 kq3 QY hblq
      obtain ⟨b1, hb1⟩ : ∃ b, prvI y1 = b := ⟨_, rfl⟩
      have hA1 : (y1 == 1) = b1 := by rw [← hb1]; rcases hy4 with rfl | rfl <;> decide
      have HS := hid (show (z3.take (k + 1)).foldl (BS.stepM z2) s1 = ⟨(putF z2 sj.fs ⟨y2, z2, b1, ⟨v0, v1, v2, v3, []⟩⟩).1, sj.ms, (putF z2 sj.fs ⟨y2, z2, b1, ⟨v0, v1, v2, v3, []⟩⟩).2 && sj.ok⟩ from by rw [HSK.out, ← hb1, ← hV]; rfl)
      clear hV hb1
      simp only [List.length_singleton] at M1 bY cy_3
      cases hok : sj.ok
      all_goals
       go_upto_region 35 with fail
       generalize wo.alloc (.cells #[.int .i64 54, .int .i64 y1, .string y2, .slice (some ⟨bq, offq, none⟩) 1 dy] 44) = X9 at *
       have MD := hid (M1.out.below (below_drL (Below.refl _ _)))
       have bYD := bY.drew
       clear bY
       refine lateStart (S := (fun w_ => (Below w.heap.size w w_ ∧ Blk w_ wo.heap.size 44 #[.int .i64 54, .int .i64 y1, .string y2, .slice (some ⟨bq, offq, none⟩) 1 dy] ∧ Blk w_ (w.heap.size + 1 + 1 + 1) 56 #[.string z2, .string pa, .slice AF sj.fs.length cF, .slice AM sj.ms.length cM]))) [18, 19] qab ?_ (fun hHeld => ?_)
       ·(try dsimp only)
        (exact ⟨MD.out.lk.be, bYD, MD.out.lk.box⟩)
       generalize X9.drew = wd at *
       refine lateTake (i := 0) (v := ?_) rfl qab qae qab qab qab qab (fun _ _ _ h => h) qar ?_ hHeld ?_
       rotate_left
       ·intro w_ hSw
        (try dsimp only at hSw)
        have y0 := hSw.2.2.cell 0; have y1 := hSw.2.2.cell 1; have y2 := hSw.2.2.cell 2; have y3 := hSw.2.2.cell 3
        exact zz24
       try simp only [aS]
       (refine lgt (i := 1) rfl qz hHeld ?_; try simp only [aS])
       refine lateTake (i := 2) (v := ?_) rfl qab qae qab qab qab qab (fun _ _ _ h => h) qar ?_ hHeld ?_
       rotate_left
       ·exact zz185
       try simp only [aS]
       (refine lgt (i := 3) rfl qz hHeld ?_; try simp only [aS])
       refine lateTake (i := 4) (v := ?_) rfl qab qae qab qab qab qab (fun _ _ _ h => h) qar ?_ hHeld ?_
       rotate_left
       ·intro w_ hSw
        (try dsimp only at hSw)
        have y := hSw.2.2.cell 0
        exact zz24
       try simp only [aS]
       (refine lgt (i := 5) rfl qz hHeld ?_; try simp only [aS])
       refine lateTake (i := 6) (v := ?_) rfl qab qae qab qab qab qab (fun _ _ _ h => h) qar ?_ hHeld ?_
       rotate_left
       ·exact zz198
       try simp only [aS]
       (refine lgt (i := 7) rfl qz hHeld ?_; try simp only [aS])
       (refine lgt (i := 8) rfl qz hHeld ?_; try simp only [aS])
       refine lateTake (i := 9) (v := ?_) rfl qab qae qab qab qab qab (fun _ _ _ h => h) qar ?_ hHeld ?_
       rotate_left
       ·exact zz199
       try simp only [aS]
       (refine lgt (i := 10) rfl qz hHeld ?_; try simp only [aS])
       refine lateTake (i := 11) (v := ?_) rfl qab qae qab qab qab qab (fun _ _ _ h => h) qar ?_ hHeld ?_
       rotate_left
       ·exact zz193
       try simp only [aS]
       refine lateOne (i := 12) qab ?_
       refine lateOp (i := 12) rfl qar (fun K hK => ?_)
       go_simp
       (go_at_call 62; refine (LV.out _).mono ?_; rintro e w4 ⟨rfl, hb⟩; have M4 := hid (MD.out.below hb); have bY4 := bYD.below hb nr; have hS_ : (Below w.heap.size w w4 ∧ Blk w4 wo.heap.size 44 #[.int .i64 54, .int .i64 y1, .string y2, .slice (some ⟨bq, offq, none⟩) 1 dy] ∧ Blk w4 (w.heap.size + 1 + 1 + 1) 56 #[.string z2, .string pa, .slice AF sj.fs.length cF, .slice AM sj.ms.length cM]) := ⟨M4.out.lk.be, bY4, M4.out.lk.box⟩; clear hb)
       clear hHeld
       refine hK.out _ _ hS_ (fun hHeld => ?_)
       clear hK K hS_
       try simp only [aS]
       (refine lgt (i := 13) rfl qz hHeld ?_; try simp only [aS])
       refine lateOne (i := 14) qab ?_
       refine lateOp (i := 14) rfl qar (fun K hK => ?_)
       go_simp
       (go_at_call 59; refine (put_spec w.heap.size z2 pa sj.fs _ AM _ cM ⟨y2, z2, b1, ⟨v0, v1, v2, v3, []⟩⟩ _ M4.out.lk.be.size M4.out.lk.rf hfl (hVp b1)).mono ?_; rintro e w3 ⟨vF, rfl, ro3, p3⟩; obtain ⟨A8, c8, e8⟩ := ro3.form; subst e8; have RO3 := hid ro3; have P3 := hid p3; have hS_ : (Below w.heap.size w w3 ∧ Blk w3 wo.heap.size 44 #[.int .i64 54, .int .i64 y1, .string y2, .slice (some ⟨bq, offq, none⟩) 1 dy] ∧ Blk w3 (w.heap.size + 1 + 1 + 1) 56 #[.string z2, .string pa, .slice AF sj.fs.length cF, .slice AM sj.ms.length cM]) := ⟨(M4.out.lk.be.grown p3.gr M4.out.lk.be.size fun k e => (World.ownsRow.lt M4.out.lk.rf k e).1), (p3.gr.block wo.heap.size (M4.out.lk.sp _ (List.mem_cons_self ..)).1 fun e => (M4.out.lk.sp _ (List.mem_cons_self ..)).2.2.1 e.symm).trans bY4, (p3.gr.block _ M4.out.lk.box.lt fun e => M4.out.lk.nb.1 e.symm).trans M4.out.lk.box⟩; clear ro3 p3)
       clear hHeld
       refine hK.out _ _ hS_ (fun hHeld => ?_)
       clear hK K hS_
       try simp only [aS]
       (refine lgt (i := 15) rfl qz hHeld ?_; try simp only [aS])
       (refine lgt (i := 16) rfl qz hHeld ?_; try simp only [aS])
       (refine lgW (i := 17) (v := ?_) qab rfl (fun _ _ _ h => h) qar ?_ hHeld ?_; rotate_left; (focus (intro w_; go_simp; (try with_reducible rfl); done)); try simp only [aS])
       refine lateOne (i := 18) qab ?_
       refine lateLast (i := 18) rfl qab qar (fun K hK => ?_)
       have o_l := hHeld.2.2.lt; have o_f := fun i => hHeld.2.2.frozen i; have o0 := hHeld.2.2.cell 0; have o1 := hHeld.2.2.cell 1; have o2 := hHeld.2.2.cell 2; have o3 := hHeld.2.2.cell 3
       go_simp
       refine hK.out _ _ ?_
       clear hK K
       try simp only [aS]
       refine lateOne (i := 19) qab ?_
       refine lateLast (i := 19) rfl qab qar (fun K hK => ?_)
       go_simp
       refine hK.out _ _ ?_
       clear hK K
       try simp only [aS]
       refine lateDone qab ?_ _
       obtain ⟨L9, fr9⟩ := Lk.ptF4 M4.out.lk RO3.out P3.out
       have M9 := hid ((M4.out.stay L9 fr9).drop hsl)
       have bY9 := (fr9 wo.heap.size (List.mem_cons_self ..)).trans bY4
       have bY90 := Blk.cell bY9 0
       clear L9 fr9 bY9
       go_wp2_with fail
       go_roundw
       case rel => exact ⟨k + 1, by omega, by go_num, by rw [HS.out]; simp [hok], _, _, by rw [HS.out]; exact M9.out⟩
       case measure => simp [intOf]; omega
     ·obtain ⟨e55, hn55⟩ := hk55
      obtain rfl : y0 = 55 := e55
      have hn := inB_iff.1 hn55
      have hn2 : 0 ≤ y1 ∧ y1 ≤ 3 := hn
      have hy4 : y1 = 0 ∨ y1 = 1 ∨ y1 = 2 ∨ y1 = 3 := qaa
      clear hn hn2 hn55
      have bC := M1.out.lk.box
      have bC0 := bC.cell 0; have bC1 := bC.cell 1; have bC2 := bC.cell 2; have bC3 := bC.cell 3; have bCl := bC.lt; have bCf := fun i => bC.frozen i
      have hle7 := M1.out.lk.be.size
      obtain ⟨b1, hb1⟩ : ∃ b, prvI y1 = b := ⟨_, rfl⟩
      obtain ⟨b2, hb2⟩ : ∃ b, stcI y1 = b := ⟨_, rfl⟩
      have hA1 : (bits .and .i64 y1 1 == 1) = b1 := by rw [← hb1]; rcases hy4 with rfl | rfl | rfl | rfl <;> decide
      have hA2 : (bits .and .i64 y1 2 == 2) = b2 := by rw [← hb2]; rcases hy4 with rfl | rfl | rfl | rfl <;> decide
      have HS := hid (show (z3.take (k + 1)).foldl (BS.stepM z2) s1 = ⟨sj.fs, (putM z2 sj.ms ⟨y2, z2, z2, b1, b2⟩).1, (putM z2 sj.ms ⟨y2, z2, z2, b1, b2⟩).2 && sj.ok⟩ from by rw [HSK.out, ← hb1, ← hb2]; rfl)
      clear hb1 hb2
      cases hok : sj.ok
      all_goals
       go_wp2_with (go_at_call 61; refine (give_spec w.heap.size z2 pa sj.ms _ AF _ cF ⟨y2, z2, z2, b1, b2⟩ _ hle7 M1.out.lk.rm hml).mono ?_; rintro e w6 ⟨vF, rfl, ro6, p6⟩; obtain ⟨A6, c6, e6⟩ := ro6.form; subst e6; obtain ⟨L9, fr9⟩ := Lk.ptM4 M1.out.lk ro6 p6; have MY := hid ((M1.out.stay L9 fr9).drop hsl); have bC9 : Blk w6 (w.heap.size + 1 + 1 + 1) 56 #[.string z2, .string pa, .slice AF sj.fs.length cF, .slice AM sj.ms.length cM] := (p6.gr.block _ M1.out.lk.box.lt fun e => M1.out.lk.nb.2 e.symm).trans M1.out.lk.box; have bC90 := bC9.cell 0; have bC91 := bC9.cell 1; have bC92 := bC9.cell 2; have bC93 := bC9.cell 3; have bC9l := bC9.lt; have bC9f := fun i => bC9.frozen i; clear ro6 p6 L9 fr9)
       go_roundw
       case rel => exact ⟨k + 1, by omega, by go_num, by rw [HS.out]; simp [hok], _, _, by rw [HS.out]; exact MY.out⟩
       case measure => simp [intOf]; omega
    ·obtain rfl : k = z3.length := qaa
     rw [List.take_length] at M
     rw [List.take_length]
     generalize z3.foldl (BS.stepM z2) s1 = se at *
     obtain ⟨AF9, cF9, eF9⟩ : ∃ A c, uF = .slice A se.fs.length c := M.lk.rf.form
     obtain ⟨AM9, cM9, eM9⟩ : ∃ A c, uM = .slice A se.ms.length c := M.lk.rm.form
     subst eF9 eM9
     have bC := M.lk.box
     have bR := M.r
     have sR := M.lk.sp (w.heap.size + 1 + 1) (hsl _ (.inr rfl))
     have RFx := hid M.lk.rf
     have RMx := hid M.lk.rm
     have FMx := hid M.lk.fm
     have BEx := hid M.lk.be
     have bC0 := bC.cell 0; have bC1 := bC.cell 1; have bC2 := bC.cell 2; have bC3 := bC.cell 3; have bCl := bC.lt; have bCf := fun i => bC.frozen i
     have bR0 := bR.cell 0; have bR1 := bR.cell 1; have bR2 := bR.cell 2; have bR3 := bR.cell 3; have bRl := bR.lt; have bRf := fun i => bR.frozen i
     cases hok : se.ok
     all_goals
      have LK5 := BD4.out
      rw [hok] at LK5
      replace LK5 := hid LK5
      clear M BD4
      go_wp2_with fail
      rw [LK5.out]
     ·refine bodyPost_ret (v := .tuple #[.agg #[.string ⟨#[]⟩, .string ⟨#[]⟩, .slice none 0 0, .slice none 0 0], .int .i64 4]) (by simp [results, Tryz.results37, go_sem, bR0, bR1, bR2, bR3, bRl, bRf, bC0, bC1, bC2, bC3]) rfl ⟨⟨#[]⟩, ⟨#[]⟩, none, 0, 0, none, 0, 0, rfl, ?_, fun h => by cases h⟩
      repeat (refine Below.setCell ?_ qbl _)
      exact BEx.out
     ·refine bodyPost_ret (v := .tuple #[.agg #[.string z2, .string pa, .slice AF9 se.fs.length cF9, .slice AM9 se.ms.length cM9], .int .i64 0]) (by simp [results, Tryz.results37, go_sem, bR0, bR1, bR2, bR3, bRl, bRf, bC0, bC1, bC2, bC3]) rfl ⟨z2, pa, AF9, se.fs.length, cF9, AM9, se.ms.length, cM9, rfl, ?_, fun _ => ⟨rfl, rfl, ?_, ?_, FMx.out⟩⟩
      ·repeat (refine Below.setCell ?_ qbl _)
       exact BEx.out
      ·repeat (refine own_setCell ?_ sR.2.2.1 _)
       exact RFx.out
      ·repeat (refine own_setCell ?_ sR.2.2.2 _)
       exact RMx.out
end Go.Proofs.YtkkjnfappndmpaaGreatDoor
