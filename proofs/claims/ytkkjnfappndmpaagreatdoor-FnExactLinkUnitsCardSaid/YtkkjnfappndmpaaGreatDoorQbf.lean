/-
 Parts of the proof: LkF, LkX. Conditions: none.
-/
import Derived.Test.YtkkjnfappndmpaaGreatDoorQFold
import Derived.Test.YtkkjnfappndmpaaGreatDoorQbe
import Derived.Test.YtkkjnfappndmpaaGreatDoorQae
import Derived.Test.YtkkjnfappndmpaaGreatDoorQba
set_option linter.unusedVariables false
set_option linter.unusedSimpArgs false
namespace Go.Proofs.YtkkjnfappndmpaaGreatDoor
set_option maxHeartbeats 40000000
open Lib (hid)
open Go.ChangeShapes Go.WideShapes Go.ChangeAt Go.RowKit Go.Deep Go.Joins
open Go.ChangeMaps (open_string shut_string)
set_option maxRecDepth 100000
/-- linkClass of the program, for any declaration. -/
theorem link_impl (x : FNode) (hx : ClO x) (K J : List CV) (A3 : Option Addr) (c3 : Nat) (Ac : Option Addr) (cc : Nat) (At : Option Addr) (ct : Nat) (w : World) (hKr : RdK w w.heap.size K (.slice Ac K.length cc)) (hJr : RdK w w.heap.size J (.slice At J.length ct))
  (r3 : RdC w w.heap.size (.s 44 4 x.kids.length (FNode.flat x.kids)) (.slice A3 x.kids.length c3)) (G : List (List UInt8)) (hG : G.length ≤ 1000000000) (hcs : ∀ t, t ∈ K.map Prod.fst → ClG G t) (hts : ∀ t, t ∈ J.map Prod.fst → ClG G t) (hkg : ∀ y, y ∈ x.kids → y.tx.toList ∈ G) (hz : x.kids.length ≤ 1000000000)
  (hcl : K.length ≤ 1000000000) (htl : J.length ≤ 1000000000) (k n : Int) (s : ByteArray) (hk : k = x.kd ∧ n = x.nu ∧ s = x.tx) :
  Calls Tryz.prog 43 #[.agg #[.int .i64 k, .int .i64 n, .string s, .slice A3 x.kids.length c3], .slice Ac K.length cc, .slice At J.length ct] w fun e w' => LcR w w' e (linkC x (K.map Prod.fst) (J.map Prod.fst)) := by
 obtain ⟨z0, z1, z2, z3⟩ := x
 obtain ⟨rfl, rfl, rfl⟩ := hk
 have hc : RdC w w.heap.size (.s 56 4 (K.map Prod.fst).length (FClass.flat (K.map Prod.fst))) (.slice Ac K.length cc) := hKr.rdC fun p hp x hx => ((hcs p.1 (List.mem_map.2 ⟨p, hp, rfl⟩)).f.mem x hx).1
 have ht : RdC w w.heap.size (.s 56 4 (J.map Prod.fst).length (FClass.flat (J.map Prod.fst))) (.slice At J.length ct) := hJr.rdC fun p hp x hx => ((hts p.1 (List.mem_map.2 ⟨p, hp, rfl⟩)).f.mem x hx).1
 have eK : (K.map Prod.fst).length = K.length := List.length_map ..
 have eJ : (J.map Prod.fst).length = J.length := List.length_map ..
 have hKr2 : RdK w w.heap.size K (.slice Ac (K.map Prod.fst).length cc) := by rw [eK]; exact hKr
 have hJr2 : RdK w w.heap.size J (.slice At (J.map Prod.fst).length ct) := by rw [eJ]; exact hJr
 have hc2 : RdC w w.heap.size (.s 56 4 (K.map Prod.fst).length (FClass.flat (K.map Prod.fst))) (.slice Ac (K.map Prod.fst).length cc) := by rw [eK] at hc ⊢; exact hc
 have ht2 : RdC w w.heap.size (.s 56 4 (J.map Prod.fst).length (FClass.flat (J.map Prod.fst))) (.slice At (J.map Prod.fst).length ct) := by rw [eJ] at ht ⊢; exact ht
 rw [← eK, ← eJ]
 cases hb : badN (K.map Prod.fst) (J.map Prod.fst) s with
 | true => exact link_bad k n s z3 A3 c3 _ _ Ac cc At ct w nr hc2 ht2 (by rw [eK]; exact hcl) (by rw [eJ]; exact htl) hb
 | false =>
  exact link_go k n s z3 A3 c3 _ _ Ac cc At ct w nr K J rfl rfl hKr2 hJr2 r3 (by rw [eK]; exact hcl) (by rw [eJ]; exact htl) hx G hG hcs hts hkg hz (fun y hy => by
   obtain ⟨cl, f, h⟩ := hx.mem y hy
   exact Nat.le_trans h.nm qae) hb
/-- What stands after some declarations. -/
def LcT (l : List FNode) (N : Nat) (w wr : World) (rest : List FNode) (u v : Value) : Prop := ∃ K J A c A' c', u = .slice A K.length c ∧ v = .slice A' J.length c' ∧ Two wr w.heap.size K u J v ∧ LkG (namesG l) N rest (K.map Prod.fst) (J.map Prod.fst) ∧ linkL l = addK rest (K.map Prod.fst) (J.map Prod.fst) ∧ Below w.heap.size w wr
theorem LcT.below {l : List FNode} {N : Nat} {w wr w' : World} {rest : List FNode} {u v : Value} (h : LcT l N w wr rest u v) (hb : Below wr.heap.size wr w') : LcT l N w w' rest u v := by
 obtain ⟨K, J, A, c, A', c', e1, e2, h1, h2, h3, h4⟩ := h
 exact ⟨K, J, A, c, A', c', e1, e2, h1.below hb nr, h2, h3, h4.trans (hb.mono h4.size)⟩
theorem LcT.be {l : List FNode} {N : Nat} {w wr : World} {rest : List FNode} {u v : Value} (h : LcT l N w wr rest u v) : Below w.heap.size w wr := by
 obtain ⟨K, J, A, c, A', c', e1, e2, h1, h2, h3, h4⟩ := h
 exact h4
theorem LcT.skip {l : List FNode} {N : Nat} {w wr : World} {x : FNode} {rest : List FNode} {u v : Value} (h : LcT l N w wr (x :: rest) u v) (hk : ¬ (x.kd = 50 ∨ x.kd = 51)) : LcT l N w wr rest u v := by
 obtain ⟨K, J, A, c, A', c', e1, e2, h1, h2, h3, h4⟩ := h
 exact ⟨K, J, A, c, A', c', e1, e2, h1, h2.to (addC_no hk), by rw [h3, addK_to (addC_no hk)], h4⟩
/-- A class is there. -/
theorem LcT.cls {l : List FNode} {N : Nat} {w w1 W W' : World} {x : FNode} {rest : List FNode} {K J : List CV} {u v uF uM u' : Value} {R : Int × FClass} (h1 : Two w1 w.heap.size K u J v) (h2 : LkG (namesG l) N (x :: rest) (K.map Prod.fst) (J.map Prod.fst)) (h3 : linkL l = addK (x :: rest) (K.map Prod.fst) (J.map Prod.fst)) (h4 : Below w.heap.size w w1)
  (hk : x.kd = 50) (hR : linkC x (K.map Prod.fst) (J.map Prod.fst) = R) (h0 : R.1 = 0) (hb : Below w1.heap.size w1 W) (hF : RoF W w1.heap.size uF R.2.fields) (hM : RoM W w1.heap.size uM R.2.methods) (hd : ∀ g, uF.ownBlock = some g → uM.ownBlock ≠ some g)
  (ho : W'.ownsRow w.heap.size 56 4 u' (K.length + 1) (K.flatMap clv ++ clv (R.2, uF, uM))) (hg : W.grownBy W' u.ownBlock) (hat : u'.ownBlock = u.ownBlock ∨ u'.ownBlock = some W.heap.size) (hv : ∃ A c, v = .slice A J.length c) : LcT l N w W' rest u' v := by
 subst hR
 obtain ⟨A, c, eu⟩ := own_form ho
 obtain ⟨A', c', ev⟩ := hv
 have P := Two.push h1 hb h4.size hF hM hd ho hg hat
 refine ⟨K ++ [((linkC x (K.map Prod.fst) (J.map Prod.fst)).2, uF, uM)], J, A, c, A', c', by rw [eu, List.length_append]; rfl, ev, P, ?_, ?_, ?_⟩
 ·rw [List.map_append]; exact h2.to (addC_cl hk h0)
 ·rw [h3, addK_to (addC_cl hk h0), List.map_append]; rfl
 ·exact (h4.trans (hb.mono h4.size)).grown hg (Nat.le_trans h4.size hb.size) fun g e => (World.ownsRow.lt h1.a.row g e).1
theorem LcT.trt {l : List FNode} {N : Nat} {w w1 W W' : World} {x : FNode} {rest : List FNode} {K J : List CV} {u v uF uM v' : Value} {R : Int × FClass} (h1 : Two w1 w.heap.size K u J v) (h2 : LkG (namesG l) N (x :: rest) (K.map Prod.fst) (J.map Prod.fst)) (h3 : linkL l = addK (x :: rest) (K.map Prod.fst) (J.map Prod.fst)) (h4 : Below w.heap.size w w1)
  (hk : x.kd = 51) (hR : linkC x (K.map Prod.fst) (J.map Prod.fst) = R) (h0 : R.1 = 0) (hb : Below w1.heap.size w1 W) (hF : RoF W w1.heap.size uF R.2.fields) (hM : RoM W w1.heap.size uM R.2.methods) (hd : ∀ g, uF.ownBlock = some g → uM.ownBlock ≠ some g)
  (ho : W'.ownsRow w.heap.size 56 4 v' (J.length + 1) (J.flatMap clv ++ clv (R.2, uF, uM))) (hg : W.grownBy W' v.ownBlock) (hat : v'.ownBlock = v.ownBlock ∨ v'.ownBlock = some W.heap.size) (hu : ∃ A c, u = .slice A K.length c) : LcT l N w W' rest u v' := by
 subst hR
 obtain ⟨A', c', ev⟩ := own_form ho
 obtain ⟨A, c, eu⟩ := hu
 have P := (Two.push h1.swap hb h4.size hF hM hd ho hg hat).swap
 refine ⟨K, J ++ [((linkC x (K.map Prod.fst) (J.map Prod.fst)).2, uF, uM)], A, c, A', c', eu, by rw [ev, List.length_append]; rfl, P, ?_, ?_, ?_⟩
 ·rw [List.map_append]; exact h2.to (addC_tr hk h0)
 ·rw [h3, addK_to (addC_tr hk h0), List.map_append]; rfl
 ·exact (h4.trans (hb.mono h4.size)).grown hg (Nat.le_trans h4.size hb.size) fun g e => (World.ownsRow.lt h1.b.row g e).1
theorem own_made {base k n : Nat} {e : TypeId} (w : World) (cur : Array Value) (hb : base ≤ w.heap.size) (hm : n ≤ maxLen) (hs : cur.size = n * k) : (w.alloc (.cells cur e)).ownsRow base e k (.slice (some ⟨w.heap.size, 0, none⟩) n n) n cur.toList :=
 ⟨by simpa using hs, .inr ⟨w.heap.size, n, cur, rfl, hb, heap_alloc_new w _, Nat.le_refl _, hm, hs, by rw [List.take_of_length_le (by simp [hs])]⟩⟩
/-- The classes that stand at the start. -/
theorem two_err {w w1 w2 w3 : World} (e1 : w1 = w.alloc (.cells #[.string ⟨#[109, 101, 115, 115, 97, 103, 101]⟩, .string ⟨#[69, 114, 114, 111, 114]⟩, .bool false, .int .i64 0, .int .i64 0, .string ⟨#[]⟩, .int .i64 0, .slice none 0 0] 79)) (e2 : w2 = w1.alloc (.cells #[.string ⟨#[69, 114, 114, 111, 114]⟩, .string ⟨#[]⟩, .slice (some ⟨w.heap.size, 0, none⟩) 1 1, .slice none 0 0] 56)) (e3 : w3 = w2.alloc (.cells #[] 56)) :
  Two w3 w.heap.size [(errC, .slice (some ⟨w.heap.size, 0, none⟩) 1 1, .slice none 0 0)] (.slice (some ⟨w.heap.size + 1, 0, none⟩) 1 1) [] (.slice (some ⟨w.heap.size + 1 + 1, 0, none⟩) 0 0) := by
 have s1 : w1.heap.size = w.heap.size + 1 := by rw [e1]; simp
 have s2 : w2.heap.size = w.heap.size + 1 + 1 := by rw [e2]; simp [s1]
 have o1 : w1.ownsRow w.heap.size 79 8 (.slice (some ⟨w.heap.size, 0, none⟩) 1 1) 1 (fvF [errF]) := by rw [e1]; exact own_made w _ nr qae qag
 have o2 : w2.ownsRow w.heap.size 56 4 (.slice (some ⟨w1.heap.size, 0, none⟩) 1 1) 1 [.string errL, .string ⟨#[]⟩, .slice (some ⟨w.heap.size, 0, none⟩) 1 1, .slice none 0 0] := by rw [e2]; exact own_made w1 _ qaa qae qag
 have o3 : w3.ownsRow w2.heap.size 56 4 (.slice (some ⟨w2.heap.size, 0, none⟩) 0 0) 0 [] := by rw [e3]; exact own_empty w2 _ 4
 have b2 : Below w1.heap.size w1 w3 := by rw [e3, e2]; exact ((Below.refl _ _).alloc nr _).alloc qag _
 have b3 : Below w2.heap.size w2 w3 := by rw [e3]; exact (Below.refl _ _).alloc nr _
 rw [s1] at o2
 rw [s2] at o3
 refine ⟨⟨own_below o2 b3 nr, fun p hp => ?_⟩, ⟨own_up o3 fun g e => by have e9 : w.heap.size + 1 + 1 = g := Option.some.inj e; omega, fun p hp => (by cases hp)⟩, ?_, fun g hg => ?_, fun g hg => ?_⟩
 ·rw [List.mem_singleton.1 hp]
  exact ⟨own_below o1 b2 nr, Ro.nil _ _⟩
 ·simp [blkL, ownB, Value.ownBlock]
 ·have e9 : w.heap.size + 1 = g := Option.some.inj hg
  subst e9
  refine ⟨by simp [blkL, ownB, Value.ownBlock], fun e => ?_⟩
  have e8 : w.heap.size + 1 + 1 = w.heap.size + 1 := Option.some.inj e
  omega
 ·have e9 : w.heap.size + 1 + 1 = g := Option.some.inj hg
  subst e9
  simp [blkL, ownB, Value.ownBlock]
  omega
theorem LinkClasses_impl (l : List FNode) (hw : l.length + FNode.wts l ≤ 900000000) (A : Option Addr) (c : Nat) (w : World) {B : Nat} (hB0 : B ≤ w.heap.size) (hmx : MaxAt w) (hr : RdC w B (.s 44 4 l.length (FNode.flat l)) (.slice A l.length c)) :
  Calls Tryz.prog 22 #[.slice A l.length c] w fun e w' => ∃ A' n c', e = .returned (.tuple #[.slice A' n c', .int .i64 (linkL l).1]) ∧ OwnI w' w.heap.size w'.heap.size [.s 56 4 (linkL l).2.length (FClass.flat (linkL l).2)] [.slice A' n c'] ∧ Below w.heap.size w w' := by
 have HR := hid hr
 clear hr
 go_enter Tryz.func22, Tryz.ntmps22
 go_upto_region 3 with fail
 have T0 := two_err (w := w) rfl rfl rfl
 have b0 : Below w.heap.size w (((w.alloc (.cells #[.string ⟨#[109, 101, 115, 115, 97, 103, 101]⟩, .string ⟨#[69, 114, 114, 111, 114]⟩, .bool false, .int .i64 0, .int .i64 0, .string ⟨#[]⟩, .int .i64 0, .slice none 0 0] 79)).alloc (.cells #[.string ⟨#[69, 114, 114, 111, 114]⟩, .string ⟨#[]⟩, .slice (some ⟨w.heap.size, 0, none⟩) 1 1, .slice none 0 0] 56)).alloc (.cells #[] 56)) := (((Below.refl _ _).alloc nr _).alloc qag _).alloc qak _
 obtain ⟨N, hN⟩ : ∃ N, N = FNode.wts l + 1 := ⟨_, rfl⟩
 have G0 := link_start l N qaa
 have hN9 : N ≤ 900000001 := qaa
 have hGl : (namesG l).length ≤ 1000000000 := by have := names_len l; omega
 generalize ((w.alloc (.cells #[.string ⟨#[109, 101, 115, 115, 97, 103, 101]⟩, .string ⟨#[69, 114, 114, 111, 114]⟩, .bool false, .int .i64 0, .int .i64 0, .string ⟨#[]⟩, .int .i64 0, .slice none 0 0] 79)).alloc (.cells #[.string ⟨#[69, 114, 114, 111, 114]⟩, .string ⟨#[]⟩, .slice (some ⟨w.heap.size, 0, none⟩) 1 1, .slice none 0 0] 56)).alloc (.cells #[] 56) = X3 at *
 have L0 : LcT l N w X3 (nodesL (l.drop 0)) (.slice (some ⟨w.heap.size + 1, 0, none⟩) 1 1) (.slice (some ⟨w.heap.size + 1 + 1, 0, none⟩) 0 0) := ⟨_, _, _, _, _, _, rfl, rfl, T0, G0, rfl, b0⟩
 clear T0 G0 b0 hN
 go_wp2_with fail
 go_loopw [19, 4, 5] (fun iv u v wr => ∃ k : Nat, k ≤ l.length ∧ iv = .int .i64 k ∧ LcT l N w wr (nodesL (l.drop k)) u v) (fun iv _ _ _ => l.length - (intOf iv).toNat)
 case atStart => exact ⟨0, Nat.zero_le _, rfl, L0⟩
 case round =>
  clear L0
  obtain ⟨k, hk, rfl, L1⟩ := hrel
  obtain ⟨wo, rfl⟩ : ∃ X : World, X = wr := ⟨_, rfl⟩
  by_cases hlt : k < l.length
  ·obtain ⟨x, hx⟩ : ∃ x, l[k]? = some x := ⟨_, List.getElem?_eq_getElem hlt⟩
   obtain ⟨bx, offx, Ex, hbl, hcc⟩ := RdC.at_ FNode.len HR.out hx
   subst Ex
   have hwx : x.wt ≤ 1000000000 := by have := FNode.wts_at l x (List.mem_of_getElem? hx); omega
   have SC := hid (script_impl x hwx)
   have ND := hid (nodes_drop hx)
   have hkw : x.kids.length ≤ 1000000000 := by have := kids_wt x; omega
   have HKW := hid (fun y (hy : y ∈ x.kids) => show y.kids.length ≤ 1000000000 from by have := (kid_wt hy).1; have := kids_wt y; omega)
   have hlt2 : (k : Int) < (l.length : Int) := qaa
   have hk0 : (0 : Int) ≤ (k : Int) := qaa
   have be1 := L1.be
   obtain ⟨z0, z1, z2, z3⟩ := x
   have hz3l : z3.length ≤ 1000000000 := hkw
   obtain ⟨D, d, c_0, c_1, c_2, c_3, q3⟩ := opN be1 (Nat.lt_of_lt_of_le hbl hB0) hcc (offx + k * 4) (offx + k * 4 + 1) (offx + k * 4 + 2) (offx + k * 4 + 3) qaa
   have QX := hid q3
   have bw : Below wo.heap.size wo (wo.alloc (.cells #[.int .i64 z0, .int .i64 z1, .string z2, .slice D z3.length d] 44)) := (Below.refl _ _).alloc nr _
   have bX := Blk.new wo 44 #[.int .i64 z0, .int .i64 z1, .string z2, .slice D z3.length d]
   have L2 := L1.below bw
   have hmx2 : MaxAt (wo.alloc (.cells #[.int .i64 z0, .int .i64 z1, .string z2, .slice D z3.length d] 44)) := hmx.below L2.be
   have CALL := hid (SC.out [.int .i64 z0, .int .i64 z1, .string z2, .slice D z3.length d] (wo.alloc (.cells #[.int .i64 z0, .int .i64 z1, .string z2, .slice D z3.length d] 44)) w.heap.size hmx2 L2.be.size (ndV (q3.on L2.be hB0 hB0)))
   have be2 := L2.be
   have bXl := bX.lt
   have bX0 := bX.cell 0; have bX1 := bX.cell 1; have bX2 := bX.cell 2; have bX3 := bX.cell 3; have bXl := bX.lt; have bXf := fun i => bX.frozen i
   clear hcc hx L1 bw SC hmx2 be1
   generalize hs : scF ⟨z0, z1, z2, z3⟩ = sb at *
   go_upto_region 6 with fail
   generalize wo.alloc (.cells #[.int .i64 z0, .int .i64 z1, .string z2, .slice D z3.length d] 44) = X4 at *
   cases sb with
   | false =>
    go_wp2_with (go_at_call 41; refine CALL.out.mono ?_; rintro e w4 ⟨rfl, hb⟩; have L3 := L2.below hb; clear hb)
    go_roundw
    case rel => exact ⟨k + 1, by omega, by go_num, by rw [ND.out] at L3; exact L3⟩
    case measure => simp [intOf]; omega
   | true =>
    go_wp2_with (go_at_call 41; refine CALL.out.mono ?_; rintro e w4 ⟨rfl, hb⟩; have L3 := L2.below hb; replace bX := bX.below hb nr; replace bX3 := bX.cell 3; replace bXl := bX.lt; clear hb)
    have ND2 : nodesL (l.drop k) = z3 ++ nodesL (l.drop (k + 1)) := by rw [ND.out]; rfl
    rw [ND2] at L3
    clear ND ND2 CALL L2 be2
    obtain ⟨RS, hRS⟩ : ∃ RS, nodesL (l.drop (k + 1)) = RS := ⟨_, rfl⟩
    rw [hRS] at L3
    have HRS := hid hRS
    clear hRS
    go_loopw [29, 4, 5] (fun iv u v wr => ∃ m : Nat, m ≤ z3.length ∧ iv = .int .i64 m ∧ LcT l N w wr (z3.drop m ++ RS) u v) (fun iv _ _ _ => z3.length - (intOf iv).toNat)
    case atStart => exact ⟨0, Nat.zero_le _, rfl, L3⟩
    case round =>
     clear L3 bX bX0 bX1 bX2 bX3 bXl bXf c_0 c_1 c_2 c_3
     obtain ⟨m, hm, rfl, L4⟩ := hrel
     obtain ⟨wi, rfl⟩ : ∃ X : World, X = wr := ⟨_, rfl⟩
     by_cases hmt : m < z3.length
     ·obtain ⟨y, hy⟩ : ∃ y, z3[m]? = some y := ⟨_, List.getElem?_eq_getElem hmt⟩
      obtain ⟨by_, offy, Ey, hbly, hcc⟩ := RdC.at_ FNode.len QX.out hy
      subst Ey
      have HY := hid hy
      rw [show z3.drop m ++ RS = y :: (z3.drop (m + 1) ++ RS) from by rw [drop_cons hy]; rfl] at L4
      have hmt2 : (m : Int) < (z3.length : Int) := qaa
      have hm0 : (0 : Int) ≤ (m : Int) := qaa
      have bw : ∀ o, Below wi.heap.size wi (wi.alloc o) := fun o => (Below.refl _ _).alloc nr o
      obtain ⟨y0, y1, y2, y3⟩ := y
      obtain ⟨Dy, dy, d_0, d_1, d_2, d_3, q3y⟩ := opN L4.be (Nat.lt_of_lt_of_le hbly hB0) hcc (offy + m * 4) (offy + m * 4 + 1) (offy + m * 4 + 2) (offy + m * 4 + 3) qaa
      clear hcc hy
      by_cases h50 : y0 = 50
      ·subst h50
       have L5 := L4.below (bw (.cells #[.int .i64 50, .int .i64 y1, .string y2, .slice Dy y3.length dy] 44))
       have bY := Blk.new wi 44 #[.int .i64 50, .int .i64 y1, .string y2, .slice Dy y3.length dy]
       go_upto_region 10 with fail
       generalize wi.alloc (.cells #[.int .i64 50, .int .i64 y1, .string y2, .slice Dy y3.length dy] 44) = X5 at *
       obtain ⟨K, J, AK, cK, AJ, cJ, eu, ev, T1, G1, E1, B1⟩ := L5
       subst eu ev
       have hg := G1.top ⟨50, y1, y2, y3⟩ (List.mem_cons_self ..)
       have hnc := G1.nc
       have hnt := G1.nt
       rw [List.length_map] at hnc hnt
       have hKl : K.length ≤ 900000001 := qaa
       have hJl : J.length ≤ 900000001 := qaa
       have LI := hid (link_impl ⟨50, y1, y2, y3⟩ (top_cl hg.1 (.inl rfl)) K J Dy dy AK cK AJ cJ X5 T1.a.rdK T1.b.rdK (q3y.on B1 hB0 (Nat.le_trans hB0 B1.size)) (namesG l) hGl G1.gc G1.gt hg.2 (HKW.out _ (List.mem_of_getElem? HY.out)) qaa qaa 50 y1 y2 ⟨rfl, rfl, rfl⟩)
       obtain ⟨R, hR⟩ : ∃ R, linkC ⟨50, y1, y2, y3⟩ (K.map Prod.fst) (J.map Prod.fst) = R := ⟨_, rfl⟩
       rw [hR] at LI
       have HRr := hid hR
       have T1h := hid T1
       have G1h := hid G1
       have E1h := hid E1
       have B1h := hid B1
       have bYl := bY.lt
       have bY0 := bY.cell 0; have bY1 := bY.cell 1; have bY2 := bY.cell 2; have bY3 := bY.cell 3; have bYl := bY.lt; have bYf := fun i => bY.frozen i
       clear hR T1 G1 E1 L4 hg hnc hnt bw
       by_cases h0 : R.1 = 0
       ·go_upto_region 15 with (go_at_call 43; refine LI.out.mono ?_; rintro e w5 ⟨va, vb, A1, n1, c1, A2, n2, c2, rfl, hb, hr⟩; obtain ⟨rfl, rfl, RF, RM, FM⟩ := hr h0; rw [h0]; have HB5 := hid hb; replace bY := bY.below hb nr; replace bY0 := bY.cell 0; replace bYl := bY.lt; have RFh := hid RF; have RMh := hid RM; have FMh := hid FM; clear hr hb RF RM FM)
        have bZ := Blk.new w5 56 #[.string (FClass.nm R.2), .string R.2.pa, .slice A1 n1 c1, .slice A2 n2 c2]
        have HB6 := hid ((HB5.out.alloc HB5.out.size (.cells #[.string (FClass.nm R.2), .string R.2.pa, .slice A1 n1 c1, .slice A2 n2 c2] 56)).alloc qbf (.cells #[.string (FClass.nm R.2), .string R.2.pa, .slice A1 n1 c1, .slice A2 n2 c2] 56))
        have OW := hid (own_below (own_below T1h.out.a.row HB5.out nr) (((Below.refl w5.heap.size w5).alloc nr (.cells #[.string (FClass.nm R.2), .string R.2.pa, .slice A1 n1 c1, .slice A2 n2 c2] 56)).alloc qag (.cells #[.string (FClass.nm R.2), .string R.2.pa, .slice A1 n1 c1, .slice A2 n2 c2] 56)) nr)
        have RFz := hid (own_below RFh.out (((Below.refl w5.heap.size w5).alloc nr (.cells #[.string (FClass.nm R.2), .string R.2.pa, .slice A1 n1 c1, .slice A2 n2 c2] 56)).alloc qag (.cells #[.string (FClass.nm R.2), .string R.2.pa, .slice A1 n1 c1, .slice A2 n2 c2] 56)) nr)
        have RMz := hid (own_below RMh.out (((Below.refl w5.heap.size w5).alloc nr (.cells #[.string (FClass.nm R.2), .string R.2.pa, .slice A1 n1 c1, .slice A2 n2 c2] 56)).alloc qag (.cells #[.string (FClass.nm R.2), .string R.2.pa, .slice A1 n1 c1, .slice A2 n2 c2] 56)) nr)
        have ON := hid (show ∀ u ∈ ([.string (FClass.nm R.2), .string R.2.pa, .slice A1 n1 c1, .slice A2 n2 c2] : List Value), u.oneCell' = true from by intro u hu; simp only [List.mem_cons, List.not_mem_nil, or_false] at hu; rcases hu with rfl | rfl | rfl | rfl <;> rfl)
        have s6 : w5.heap.size ≤ (w5.alloc (.cells #[.string (FClass.nm R.2), .string R.2.pa, .slice A1 n1 c1, .slice A2 n2 c2] 56)).heap.size := by simp
        generalize w5.alloc (.cells #[.string (FClass.nm R.2), .string R.2.pa, .slice A1 n1 c1, .slice A2 n2 c2] 56) = W6 at *
        have RN := hid (rd_new W6 56 4 [.string (FClass.nm R.2), .string R.2.pa, .slice A1 n1 c1, .slice A2 n2 c2] rfl)
        have hw6 : w.heap.size ≤ (W6.alloc (.cells #[.string (FClass.nm R.2), .string R.2.pa, .slice A1 n1 c1, .slice A2 n2 c2] 56)).heap.size := Nat.le_trans B1h.out.size (Nat.le_trans HB5.out.size (Nat.le_trans s6 qag))
        have bZ0 := bZ.cell 0; have bZ1 := bZ.cell 1; have bZ2 := bZ.cell 2; have bZ3 := bZ.cell 3; have bZl := bZ.lt; have bZf := fun i => bZ.frozen i
        go_wp2_with (at_builtin; go_must (refine wpList_append_rd _ rfl (.tmp 54) (.tmp 56) _ rfl w.heap.size _ _ _ 80 Tryz.underlying24 infoClassL rfl qaa (.slice AK K.length cK) K.length _ rfl OW.out (W6.heap.size + 1) _ 1 1 [.string (FClass.nm R.2), .string R.2.pa, .slice A1 n1 c1, .slice A2 n2 c2] rfl RN.out ON.out qao qaa hw6 ?_); intro v7 w7 own7 hg7 hat7; have hS := hid (LcT.cls T1h.out G1h.out E1h.out B1h.out rfl HRr.out h0 HB6.out RFz.out RMz.out FMh.out own7 hg7 hat7 ⟨AJ, cJ, rfl⟩); clear own7 hg7 hat7)
        exact zz38
       ·have EB := hid (show linkL l = (R.1, []) from by rw [E1h.out, addK_bad (.inl rfl) qbp, HRr.out])
        exact zz50
      by_cases h51 : y0 = 51
      ·subst h51
       have L5 := L4.below (bw (.cells #[.int .i64 51, .int .i64 y1, .string y2, .slice Dy y3.length dy] 44))
       have bY := Blk.new wi 44 #[.int .i64 51, .int .i64 y1, .string y2, .slice Dy y3.length dy]
       go_upto_region 10 with fail
       generalize wi.alloc (.cells #[.int .i64 51, .int .i64 y1, .string y2, .slice Dy y3.length dy] 44) = X5 at *
       obtain ⟨K, J, AK, cK, AJ, cJ, eu, ev, T1, G1, E1, B1⟩ := L5
       subst eu ev
       have hg := G1.top ⟨51, y1, y2, y3⟩ (List.mem_cons_self ..)
       have hnc := G1.nc
       have hnt := G1.nt
       rw [List.length_map] at hnc hnt
       have hKl : K.length ≤ 900000001 := qaa
       have hJl : J.length ≤ 900000001 := qaa
       have LI := hid (link_impl ⟨51, y1, y2, y3⟩ (top_cl hg.1 (.inr rfl)) K J Dy dy AK cK AJ cJ X5 T1.a.rdK T1.b.rdK (q3y.on B1 hB0 (Nat.le_trans hB0 B1.size)) (namesG l) hGl G1.gc G1.gt hg.2 (HKW.out _ (List.mem_of_getElem? HY.out)) qaa qaa 51 y1 y2 ⟨rfl, rfl, rfl⟩)
       obtain ⟨R, hR⟩ : ∃ R, linkC ⟨51, y1, y2, y3⟩ (K.map Prod.fst) (J.map Prod.fst) = R := ⟨_, rfl⟩
       rw [hR] at LI
       have HRr := hid hR
       have T1h := hid T1
       have G1h := hid G1
       have E1h := hid E1
       have B1h := hid B1
       have bYl := bY.lt
       have bY0 := bY.cell 0; have bY1 := bY.cell 1; have bY2 := bY.cell 2; have bY3 := bY.cell 3; have bYl := bY.lt; have bYf := fun i => bY.frozen i
       clear hR T1 G1 E1 L4 hg hnc hnt bw
       by_cases h0 : R.1 = 0
       ·go_upto_region 16 with (go_at_call 43; refine LI.out.mono ?_; rintro e w5 ⟨va, vb, A1, n1, c1, A2, n2, c2, rfl, hb, hr⟩; obtain ⟨rfl, rfl, RF, RM, FM⟩ := hr h0; rw [h0]; have HB5 := hid hb; replace bY := bY.below hb nr; replace bY0 := bY.cell 0; replace bYl := bY.lt; have RFh := hid RF; have RMh := hid RM; have FMh := hid FM; clear hr hb RF RM FM)
        have bZ := Blk.new w5 56 #[.string (FClass.nm R.2), .string R.2.pa, .slice A1 n1 c1, .slice A2 n2 c2]
        have HB6 := hid ((HB5.out.alloc HB5.out.size (.cells #[.string (FClass.nm R.2), .string R.2.pa, .slice A1 n1 c1, .slice A2 n2 c2] 56)).alloc qbf (.cells #[.string (FClass.nm R.2), .string R.2.pa, .slice A1 n1 c1, .slice A2 n2 c2] 56))
        have OW := hid (own_below (own_below T1h.out.b.row HB5.out nr) (((Below.refl w5.heap.size w5).alloc nr (.cells #[.string (FClass.nm R.2), .string R.2.pa, .slice A1 n1 c1, .slice A2 n2 c2] 56)).alloc qag (.cells #[.string (FClass.nm R.2), .string R.2.pa, .slice A1 n1 c1, .slice A2 n2 c2] 56)) nr)
        have RFz := hid (own_below RFh.out (((Below.refl w5.heap.size w5).alloc nr (.cells #[.string (FClass.nm R.2), .string R.2.pa, .slice A1 n1 c1, .slice A2 n2 c2] 56)).alloc qag (.cells #[.string (FClass.nm R.2), .string R.2.pa, .slice A1 n1 c1, .slice A2 n2 c2] 56)) nr)
        have RMz := hid (own_below RMh.out (((Below.refl w5.heap.size w5).alloc nr (.cells #[.string (FClass.nm R.2), .string R.2.pa, .slice A1 n1 c1, .slice A2 n2 c2] 56)).alloc qag (.cells #[.string (FClass.nm R.2), .string R.2.pa, .slice A1 n1 c1, .slice A2 n2 c2] 56)) nr)
        have ON := hid (show ∀ u ∈ ([.string (FClass.nm R.2), .string R.2.pa, .slice A1 n1 c1, .slice A2 n2 c2] : List Value), u.oneCell' = true from by intro u hu; simp only [List.mem_cons, List.not_mem_nil, or_false] at hu; rcases hu with rfl | rfl | rfl | rfl <;> rfl)
        have s6 : w5.heap.size ≤ (w5.alloc (.cells #[.string (FClass.nm R.2), .string R.2.pa, .slice A1 n1 c1, .slice A2 n2 c2] 56)).heap.size := by simp
        generalize w5.alloc (.cells #[.string (FClass.nm R.2), .string R.2.pa, .slice A1 n1 c1, .slice A2 n2 c2] 56) = W6 at *
        have RN := hid (rd_new W6 56 4 [.string (FClass.nm R.2), .string R.2.pa, .slice A1 n1 c1, .slice A2 n2 c2] rfl)
        have hw6 : w.heap.size ≤ (W6.alloc (.cells #[.string (FClass.nm R.2), .string R.2.pa, .slice A1 n1 c1, .slice A2 n2 c2] 56)).heap.size := Nat.le_trans B1h.out.size (Nat.le_trans HB5.out.size (Nat.le_trans s6 qag))
        have bZ0 := bZ.cell 0; have bZ1 := bZ.cell 1; have bZ2 := bZ.cell 2; have bZ3 := bZ.cell 3; have bZl := bZ.lt; have bZf := fun i => bZ.frozen i
        go_wp2_with (at_builtin; go_must (refine wpList_append_rd _ rfl (.tmp 58) (.tmp 60) _ rfl w.heap.size _ _ _ 80 Tryz.underlying24 infoClassL rfl qaa (.slice AJ J.length cJ) J.length _ rfl OW.out (W6.heap.size + 1) _ 1 1 [.string (FClass.nm R.2), .string R.2.pa, .slice A1 n1 c1, .slice A2 n2 c2] rfl RN.out ON.out qao qaa hw6 ?_); intro v7 w7 own7 hg7 hat7; have hS := hid (LcT.trt T1h.out G1h.out E1h.out B1h.out rfl HRr.out h0 HB6.out RFz.out RMz.out FMh.out own7 hg7 hat7 ⟨AK, cK, rfl⟩); clear own7 hg7 hat7)
        exact zz38
       ·have EB := hid (show linkL l = (R.1, []) from by rw [E1h.out, addK_bad (.inr rfl) qbp, HRr.out])
        exact zz50
      exact zz45
     ·obtain rfl : m = z3.length := qaa
      rw [List.drop_length, List.nil_append] at L4
      have L5 := hid L4
      clear L4
      go_wp2_with fail
      go_roundw
      case rel => exact ⟨k + 1, by omega, by go_num, by rw [HRS.out]; exact L5.out⟩
      case measure => simp [intOf]; omega
  ·obtain rfl : k = l.length := qaa
   rw [List.drop_length] at L1
   obtain ⟨K, J, AK, cK, AJ, cJ, eu, ev, T1, G1, E1, B1⟩ := L1
   subst eu ev
   have E2 := hid (show linkL l = (0, K.map Prod.fst) from E1)
   have T1h := hid T1
   have B1h := hid B1
   have PL := hid (fun p (hp : p ∈ K) => show PlC p.1 from fun x hx => ((G1.gc p.1 (List.mem_map.2 ⟨p, hp, rfl⟩)).f.mem x hx).1)
   clear T1 G1 E1 B1
   go_wp2_with fail
   refine bodyPost_ret (v := .tuple #[.slice AK K.length cK, .int .i64 0]) (by simp [results, Tryz.results22, go_sem]) rfl ⟨AK, K.length, cK, by rw [E2.out], by rw [E2.out]; exact Two.ownI T1h.out PL.out, B1h.out⟩
theorem owni_len {w : World} {lo hi e k n m c : Nat} {xs : List Cel} {A : Option Addr} (h : OwnI w lo hi [.s e k n xs] [.slice A m c]) : m = n := by
 obtain ⟨A', c', e'⟩ := h.form
 injection e' with _ h1 _
theorem LinkW_impl (l : List FNode) (u : Value) (w : World) (hw : l.length + FNode.wts l ≤ 900000000) {B : Nat} (hmx : MaxAt w) (hB0 : B ≤ w.heap.size) (hr : RdC w B (.s 44 4 l.length (FNode.flat l)) u) :
  Calls Tryz.prog 22 #[u] w fun e w' => ∃ A c, e = .returned (.tuple #[.slice A (linkL l).2.length c, .int .i64 (linkL l).1]) ∧ OwnI w' w.heap.size w'.heap.size [.s 56 4 (linkL l).2.length (FClass.flat (linkL l).2)] [.slice A (linkL l).2.length c] ∧ Below w.heap.size w w' := by
 obtain ⟨A, c, rfl⟩ := hr.form
 refine (LinkClasses_impl l hw A c w hB0 hmx hr).mono fun e w' h => ?_
 obtain ⟨A', n, c', h1, h2, h3⟩ := h
 obtain rfl := owni_len h2
 exact ⟨A', c', h1, h2, h3⟩
end Go.Proofs.YtkkjnfappndmpaaGreatDoor
