/-
 Parts of the proof: ScI, ScS, ScJ. Conditions: none.
-/
import Derived.Test.YtkkjnfappndmpaaGreatDoorQFold
import Derived.Test.YtkkjnfappndmpaaGreatDoorQah
import Derived.Deep.LoopGhost
import Derived.Test.YtkkjnfappndmpaaGreatDoorQav
import Derived.Test.YtkkjnfappndmpaaGreatDoorQad
import Derived.Test.YtkkjnfappndmpaaGreatDoorQap
import Derived.Deep.QuietTactic
import Derived.BigQuiet
set_option linter.unusedVariables false
set_option linter.unusedSimpArgs false
namespace Go.Proofs.YtkkjnfappndmpaaGreatDoor
set_option maxHeartbeats 40000000
open Lib (hid)
open Go.ChangeShapes Go.WideShapes Go.ChangeAt Go.RowKit Go.Deep Go.Joins
open Go.ChangeMaps (open_string shut_string)
set_option maxRecDepth 100000
theorem zeroBB (W : World) : (zeroValue 4).run Tryz.prog W = .ok (.bool false) W := by kernel_rfl
theorem below_grown {B g : Nat} {w a b : World} (h : Below B w a) (hg : a.grownBy b (some g)) (hB : B ≤ g) (hBa : B ≤ a.heap.size) : Below B w b :=
 ⟨hg.os.trans h.os, hg.tape.trans h.tape, hg.output.trans h.output, Nat.le_trans h.size hg.size, fun i hi => (hg.block i qaa (by intro e; cases e; omega)).trans (h.block i hi)⟩
theorem isFn_impl (k : Int) (w : World) : Calls Tryz.prog 71 #[.int .i64 k] w fun e w' => e = .returned (.bool (isFn k)) ∧ w = w' := by
 unfold isFn
 by_cases h1 : k = 49
 ·subst h1
  go_enter Tryz.func71, Tryz.ntmps71
  go_wp2_with fail
  go_ret
  exact ⟨rfl, rfl⟩
 by_cases h2 : k = 55
 ·subst h2
  go_enter Tryz.func71, Tryz.ntmps71
  go_wp2_with fail
  go_ret
  exact ⟨rfl, rfl⟩
 rw [beq_false_of_ne h1, beq_false_of_ne h2, Bool.false_or, Bool.false_or]
 go_enter Tryz.func71, Tryz.ntmps71
 go_wp2_with fail
 all_goals (go_ret; exact ⟨ret_bool qal, rfl⟩)
theorem dup_at {a b : Int} {l : List FNode} {k : Nat} {x : FNode} (hx : l[k]? = some x) : dupAt a b l k = (mtK a b x && (l.take k).any (sameTx a b x)) := by
 unfold dupAt
 rw [hx]
theorem tw_t {a b : Int} {l : List FNode} {k : Nat} {x : FNode} (hx : l[k]? = some x) (h : dupAt a b l k = true) : twF a b l = true := by
 unfold twF
 rw [List.any_eq_true]
 exact ⟨k, List.mem_range.mpr (List.getElem?_eq_some_iff.1 hx).1, h⟩
theorem tw_f {a b : Int} {l : List FNode} (h : ∀ j, j < l.length → dupAt a b l j = false) : twF a b l = false := by
 unfold twF
 rw [List.any_eq_false]
 intro j hj
 rw [h j (List.mem_range.mp hj)]
 simp
def Nms (a b : Int) (l : List FNode) (k : Nat) (S : List (List UInt8)) : Prop := ∀ s, hasS S s = (l.take k).any (fun y => mtK a b y && y.tx.toList == s)
theorem Nms.zero (a b : Int) (l : List FNode) : Nms a b l 0 [] := fun s => rfl
theorem Nms.skip {a b : Int} {l : List FNode} {k : Nat} {S : List (List UInt8)} {x : FNode} (h : Nms a b l k S) (hx : l[k]? = some x) (hm : mtK a b x = false) : Nms a b l (k + 1) S := fun s => by
 rw [h s, List.take_add_one, hx, List.any_append]
 simp [hm]
theorem Nms.put {a b : Int} {l : List FNode} {k : Nat} {S : List (List UInt8)} {x : FNode} (h : Nms a b l k S) (hx : l[k]? = some x) (hm : mtK a b x = true) : Nms a b l (k + 1) (x.tx.toList :: S) := fun s => by
 rw [hasS_cons, h s, List.take_add_one, hx, List.any_append]
 simp only [Option.toList_some, List.any_cons, List.any_nil, Bool.or_false, hm, Bool.true_and]
 rw [Bool.or_comm]
 congr 1
 rw [Bool.eq_iff_iff, beq_iff_eq, beq_iff_eq]
 exact eq_comm
theorem twice_impl (a b : Int) (l : List FNode) (hl : l.length ≤ 1000000000) (hW : ∀ x, x ∈ l → x.tx.size ≤ 1000000000) (u : Value) (w : World) (B : Nat) (hB0 : B ≤ w.heap.size) (hr : RdC w B (.s 44 4 l.length (FNode.flat l)) u) :
  Calls Tryz.prog 72 #[u, .int .i64 a, .int .i64 b] w fun e w' => e = .returned (.bool (twF a b l)) ∧ Below w.heap.size w w' := by
 obtain ⟨A, c, rfl⟩ := hr.form
 have HC := hid hr
 have HW := hid hW
 have hn : l.length ≤ 9223372036854775807 := qaa
 clear hr hW
 have hmm := @run_makeMap Tryz.prog
 go_enter Tryz.func72, Tryz.ntmps72
 go_wp2_with fail
 clear hmm
 go_loopw [13] (fun i wr => ∃ (k n0 : Nat) (S0 : List (List UInt8)), k ≤ l.length ∧ n0 ≤ k ∧ i = .int .i64 k ∧ Hid (∀ j, j < k → dupAt a b l j = false) ∧ Hid (Nms a b l k S0) ∧ Hid (Seen Tryz.prog 9 4 wr w.heap.size n0 S0) ∧ Below w.heap.size w wr) (fun i _ => l.length - (intOf i).toNat)
 case atStart => exact ⟨0, 0, [], Nat.zero_le _, Nat.le_refl _, rfl, hid (fun j hj => absurd hj (Nat.not_lt_zero _)), hid (Nms.zero _ _ _), hid (Seen.made w), (Below.refl _ _).alloc nr _⟩
 case round =>
  obtain ⟨k, n0, S0, hk, hnk, rfl, HA, HN, SE, hb⟩ := hrel
  have hbs := hb.size
  by_cases hlt : k < l.length
  ·skip
   obtain ⟨x, hx⟩ : ∃ x, l[k]? = some x := ⟨_, List.getElem?_eq_getElem hlt⟩
   obtain ⟨bc, offc, rfl, hblc, hcc⟩ := RdC.at_ FNode.len HC.out hx
   have HX := hid hx
   have HM := hid (List.mem_of_getElem? hx)
   clear hx
   obtain ⟨y0, y1, y2, y3⟩ := x
   obtain ⟨D, d, c_0, c_1, c_2, c_3, q3⟩ := opN hb qaa hcc (offc + k * 4) (offc + k * 4 + 1) (offc + k * 4 + 2) (offc + k * 4 + 3) qaa
   have Q3 := hid q3
   clear hcc q3
   have hsm : y2.size ≤ maxLen := by have := HW.out _ HM.out; simp only [FNode.tx] at this; unfold maxLen; omega
   have hnm : n0 < maxLen := by unfold maxLen; omega
   have hb2 := hid (hb.alloc hbs (.cells #[.int .i64 y0, .int .i64 y1, .string y2, .slice D y3.length d] 44))
   have HD := hid (show dupAt a b l k = (mtK a b ⟨y0, y1, y2, y3⟩ && (l.take k).any (fun y => mtK a b y && y.tx.toList == y2.toList)) from dup_at HX.out)
   cases hya : (y0 == a) with
   | true =>
    have hmt : mtK a b ⟨y0, y1, y2, y3⟩ = true := by
     show (y0 == a || y0 == b) = true
     rw [hya]; rfl
    exact zz28
   | false =>
    cases hyb : (y0 == b) with
    | true =>
     have hmt : mtK a b ⟨y0, y1, y2, y3⟩ = true := by
      show (y0 == a || y0 == b) = true
      rw [hya, hyb]; rfl
     exact zz28
    | false =>
     have hmt : mtK a b ⟨y0, y1, y2, y3⟩ = false := by
      show (y0 == a || y0 == b) = false
      rw [hya, hyb]; rfl
     have HMT := hid hmt
     rw [hmt, Bool.false_and] at HD
     clear hmt
     go_wp2_with fail
     go_roundw
     case rel => exact ⟨k + 1, n0, S0, by omega, by omega, by go_num, hid (fun j hj => by rcases Nat.lt_succ_iff_lt_or_eq.mp hj with h | h; exact HA.out j h; rw [h]; exact HD.out), hid (HN.out.skip HX.out HMT.out), hid (SE.out.alloc _), hb2.out⟩
     case measure => simp [intOf]; omega
  ·exact zz145
theorem same_this (x : FNode) (hw : x.wt ≤ 9000000000) (us : List Value) (w : World) (B : Nat) (hB0 : B ≤ w.heap.size) (hr : RdVs w B x.c us) :
  Calls Tryz.prog 92 #[.agg us.toArray, .agg #[.int .i64 4, .int .i64 0, .string ⟨#[116, 104, 105, 115]⟩, .slice none 0 0]] w fun e w' => e = .returned (.bool (smT x)) ∧ Below w.heap.size w w' := by
 obtain ⟨z0, z1, z2, z3⟩ := x
 obtain ⟨A3, c3, rfl, r3⟩ := hr.node
 rw [FNode.wt_eq] at hw
 have hl : z3.length ≤ 9000000000 := qaa
 have HB2 := hid (((Below.refl w.heap.size w).alloc nr (.cells #[.int .i64 z0, .int .i64 z1, .string z2, .slice A3 z3.length c3] 44)).alloc qag (.cells #[.int .i64 4, .int .i64 0, .string ⟨#[116, 104, 105, 115]⟩, .slice none 0 0] 44))
 have HE := hid (show smT ⟨z0, z1, z2, z3⟩ = (z0 == 4 && (z1 == 0 && ((z2.toList == [116, 104, 105, 115]) && z3.length == 0))) from rfl)
 obtain ⟨m, hm⟩ : ∃ m, z3.length = m := ⟨_, rfl⟩
 rw [hm] at HB2 HE hl ⊢
 clear hr r3 hw hm
 by_cases h0 : z0 = 4
 ·subst h0
  by_cases h1 : z1 = 0
  ·subst h1
   cases ht : (z2.toList == [116, 104, 105, 115]) with
   | true =>
    by_cases h3 : m = 0
    ·subst h3
     have HF := hid (HE.out.trans (show _ = true from by rw [ht]; rfl))
     go_enter Tryz.func92, Tryz.ntmps92
     go_wp2_with fail
     go_loopw [5] (fun i wr => i = .int .i64 0 ∧ wr = (w.alloc (.cells #[.int .i64 4, .int .i64 0, .string z2, .slice A3 0 c3] 44)).alloc (.cells #[.int .i64 4, .int .i64 0, .string ⟨#[116, 104, 105, 115]⟩, .slice none 0 0] 44)) (fun i _ => 0)
     case atStart => exact ⟨rfl, rfl⟩
     case round =>
      obtain ⟨rfl, rfl⟩ := hrel
      go_wp2_with fail
      go_ret
      exact ⟨ret_bool HF.out.symm, HB2.out⟩
    ·have HF := hid (HE.out.trans (show _ = false from by rw [show (m == 0) = false from beq_false_of_ne h3, Bool.and_false, Bool.and_false, Bool.and_false]))
     exact zz93
   | false =>
    have HF := hid (HE.out.trans (show _ = false from by rw [ht, Bool.false_and, Bool.and_false, Bool.and_false]))
    exact zz93
  ·have HF := hid (HE.out.trans (show _ = false from by rw [beq_false_of_ne h1, Bool.false_and, Bool.and_false]))
   exact zz93
 ·have HF := hid (HE.out.trans (show _ = false from by rw [beq_false_of_ne h0, Bool.false_and]))
  exact zz93
theorem root_spec (x : FNode) (hw : x.wt ≤ 9000000000) (us : List Value) (w : World) (B : Nat) (hB0 : B ≤ w.heap.size) (hr : RdVs w B x.c us) :
  Calls Tryz.prog 93 #[.agg us.toArray] w fun e w' => ∃ vs : List Value, e = .returned (.agg vs.toArray) ∧ RdVs w' B (rootF x).c vs ∧ (rootF x).wt ≤ 9000000000 ∧ Below w.heap.size w w' := by
 obtain ⟨z0, z1, z2, z3⟩ := x
 obtain ⟨A3, c3, rfl, r3⟩ := hr.node
 have HR := hid r3
 have HW := hid hw
 clear hr r3 hw
 go_enter Tryz.func93, Tryz.ntmps93
 go_wp2_with fail
 go_loopg [] (szN ⟨z0, z1, z2, z3⟩) (fun k wr => ∃ (y0 y1 : Int) (y2 : ByteArray) (y3 : List FNode) (D : Option Addr) (d m : Nat), wr = (w.alloc (.cells #[.int .i64 y0, .int .i64 y1, .string y2, .slice D m d] 44)).alloc (.cells #[.int .i64 0, .int .i64 0, .string ⟨#[]⟩, .slice none 0 0] 44) ∧ Hid (rootF ⟨y0, y1, y2, y3⟩ = rootF ⟨z0, z1, z2, z3⟩) ∧ Hid (RdC w B (.s 44 4 m (FNode.flat y3)) (.slice D m d)) ∧ Hid (y3.length = m) ∧ Hid (FNode.wt ⟨y0, y1, y2, y3⟩ ≤ 9000000000) ∧ Hid (szN ⟨y0, y1, y2, y3⟩ ≤ k))
 case atStart => exact ⟨_, _, _, _, _, _, _, rfl, hid rfl, HR, hid rfl, HW, hid nr⟩
 case round =>
  obtain ⟨y0, y1, y2, y3, D, d, m, rfl, HT, HQ, HM, HV, HS⟩ := hrel
  have hy : m ≤ 9223372036854775807 := by have := HV.out; rw [FNode.wt_eq] at this; have := HM.out; omega
  have HBX := hid (((Below.refl w.heap.size w).alloc nr (.cells #[.int .i64 y0, .int .i64 y1, .string y2, .slice D m d] 44)).alloc qag (.cells #[.int .i64 0, .int .i64 0, .string ⟨#[]⟩, .slice none 0 0] 44))
  have HEND : Hid (rootF ⟨y0, y1, y2, y3⟩ = ⟨y0, y1, y2, y3⟩ → (rootF ⟨z0, z1, z2, z3⟩).wt ≤ 9000000000) := hid (fun h => by rw [← HT.out, h]; exact HV.out)
  by_cases e7 : y0 = 7
  ·subst e7
   match y3, HEND with
   | [], HEND =>
    obtain rfl : m = 0 := HM.out.symm
    have HRT := hid (rootF_7n y1 y2)
    have HFB := hid (((Below.refl w.heap.size w).alloc nr (.cells #[.int .i64 7, .int .i64 y1, .string y2, .slice D 0 d] 44)).alloc qag (.cells #[.int .i64 7, .int .i64 y1, .string y2, .slice D 0 d] 44))
    go_wp2_with fail
    have bk := Blk.new' (w.alloc (.cells #[.int .i64 7, .int .i64 y1, .string y2, .slice D 0 d] 44)) 44 #[.int .i64 7, .int .i64 y1, .string y2, .slice D 0 d] (w.heap.size + 1) qag
    have bk0 := bk.cell 0
    have bk1 := bk.cell 1
    have bk2 := bk.cell 2
    have bk3 := bk.cell 3
    have bkl := bk.lt
    refine bodyPost_ret (v := .agg #[.int .i64 7, .int .i64 y1, .string y2, .slice D 0 d]) (by simp [results, Tryz.results93, go_sem, bk0, bk1, bk2, bk3, bkl]) rfl ⟨[.int .i64 7, .int .i64 y1, .string y2, .slice D 0 d], rfl, ?_, HEND.out HRT.out, HFB.out⟩
    rw [← HT.out, HRT.out, FNode.c_eq]
    exact RdVs.cons qaf (RdVs.cons qaf (RdVs.cons qaf (RdVs.cons (HQ.out.below HFB.out hB0) (RdVs.nil _ _))))
   | ⟨a0, a1, a2, a3⟩ :: r, HEND =>
    have hpos : 0 < m := by have := HM.out; simp only [List.length_cons] at this; omega
    have HQ2 : Hid (RdC w B (.s 44 4 (FNode.mk a0 a1 a2 a3 :: r).length (FNode.flat (FNode.mk a0 a1 a2 a3 :: r))) (.slice D (FNode.mk a0 a1 a2 a3 :: r).length d)) := by rw [HM.out]; exact HQ
    obtain ⟨bca, offca, Ea, hblca, hcc⟩ := RdC.at_ (l := (FNode.mk a0 a1 a2 a3 :: r)) FNode.len HQ2.out (i := 0) (x := FNode.mk a0 a1 a2 a3) rfl
    obtain ⟨Da, da, ca_0, ca_1, ca_2, ca_3, q3⟩ := opN (Below.refl w.heap.size w) qaa hcc (offca) (offca + 1) (offca + 2) (offca + 3) qaa
    have Qa := hid q3
    clear hcc q3
    have hbl : bca < w.heap.size := Nat.lt_of_lt_of_le hblca hB0
    subst Ea
    have ⟨_, _, _, _⟩ := cell4 HBX.out hbl ca_0 ca_1 ca_2 ca_3
    go_wp2_with fail
    go_roundg (szN ⟨a0, a1, a2, a3⟩)
    case rel => exact ⟨_, _, _, _, _, _, _, rfl, hid (by rw [← HT.out, rootF_7]), Qa, hid rfl, hid qa2, hid nr⟩
    case measure => exact Nat.lt_of_lt_of_le (szN_7 _ _ _ _ _) HS.out
  ·have HRT := hid (rootF_o e7 y1 y2 y3)
   have HFB := hid (((Below.refl w.heap.size w).alloc nr (.cells #[.int .i64 y0, .int .i64 y1, .string y2, .slice D m d] 44)).alloc qag (.cells #[.int .i64 y0, .int .i64 y1, .string y2, .slice D m d] 44))
   go_wp2_with fail
   have bk := Blk.new' (w.alloc (.cells #[.int .i64 y0, .int .i64 y1, .string y2, .slice D m d] 44)) 44 #[.int .i64 y0, .int .i64 y1, .string y2, .slice D m d] (w.heap.size + 1) qag
   have bk0 := bk.cell 0
   have bk1 := bk.cell 1
   have bk2 := bk.cell 2
   have bk3 := bk.cell 3
   have bkl := bk.lt
   refine bodyPost_ret (v := .agg #[.int .i64 y0, .int .i64 y1, .string y2, .slice D m d]) (by simp [results, Tryz.results93, go_sem, bk0, bk1, bk2, bk3, bkl]) rfl ⟨[.int .i64 y0, .int .i64 y1, .string y2, .slice D m d], rfl, ?_, HEND.out HRT.out, HFB.out⟩
   rw [← HT.out, HRT.out, FNode.c_eq, HM.out]
   exact RdVs.cons qaf (RdVs.cons qaf (RdVs.cons qaf (RdVs.cons (HQ.out.below HFB.out hB0) (RdVs.nil _ _))))
theorem l1q (x a b : Int) (v : Bool) (h : inB x a b = v) (W : World) (n : Nat) : Calls Tryz.prog 51 #[.int .i64 x, .int .i64 a, .int .i64 b] (W.drewN n) fun e w' => e = .returned (.bool v) ∧ ∃ m, w' = W.drewN m :=
 Calls.quiet_of_same ((l1In_any x a b _).mono (by rintro e w' ⟨rfl, rfl⟩; rw [h]; exact ⟨rfl, rfl⟩))
theorem any_take_end {l : List FNode} {p : FNode → Bool} {q : Nat} {y : FNode} (hy : l[q]? = some y) : (l.take (q + 1)).any p = ((l.take q).any p || p y) := by
 rw [List.take_add_one, hy, List.any_append]
 simp
theorem any_take_mono {l : List FNode} {p : FNode → Bool} {q k : Nat} {y : FNode} (hy : l[q]? = some y) (hqk : q < k) (h : p y = true) : (l.take k).any p = true :=
 List.any_eq_true.mpr ⟨y, by rw [List.mem_take_iff_getElem]; exact ⟨q, by have := (List.getElem?_eq_some_iff.1 hy).1; omega, (List.getElem?_eq_some_iff.1 hy).2⟩, h⟩
theorem twice_spec (a b : Int) (hab : ∀ k, inB k a b = (k == a || k == b)) (l : List FNode) (hl : l.length ≤ 1000000000) (u : Value) (w : World) (B : Nat) (hB0 : B ≤ w.heap.size) (hr : RdC w B (.s 44 4 l.length (FNode.flat l)) u) :
  Calls Tryz.prog 58 #[u, .int .i64 a, .int .i64 b] w fun e w' => e = .returned (.bool (twF a b l)) ∧ Below w.heap.size w w' := by
 obtain ⟨A, c, rfl⟩ := hr.form
 have HC := hid hr
 have HAB := hid hab
 have hn : l.length ≤ 9223372036854775807 := qaa
 clear hr hab
 go_enter Tryz.func58, Tryz.ntmps58
 go_wp2_with fail
 go_loopw [7] (fun i wr => ∃ k : Nat, k ≤ l.length ∧ i = .int .i64 k ∧ Hid (∀ j, j < k → dupAt a b l j = false) ∧ Below w.heap.size w wr) (fun i _ => l.length - (intOf i).toNat)
 case atStart => exact ⟨0, Nat.zero_le _, rfl, hid (fun j hj => absurd hj (Nat.not_lt_zero _)), Below.refl _ _⟩
 case round =>
  obtain ⟨k, hk, rfl, HA, hb⟩ := hrel
  have hbs := hb.size
  by_cases hlt : k < l.length
  ·skip
   obtain ⟨x, hx⟩ : ∃ x, l[k]? = some x := ⟨_, List.getElem?_eq_getElem hlt⟩
   obtain ⟨bc, offc, rfl, hblc, hcc⟩ := RdC.at_ FNode.len HC.out hx
   have HXK := hid hx
   have HMK := hid (List.mem_of_getElem? hx)
   clear hx
   obtain ⟨y0, y1, y2, y3⟩ := x
   obtain ⟨D, d, cw_0, cw_1, cw_2, cw_3, q3⟩ := opN (Below.refl w.heap.size w) qaa hcc (offc + k * 4) (offc + k * 4 + 1) (offc + k * 4 + 2) (offc + k * 4 + 3) qaa
   have Q3 := hid q3
   clear hcc q3
   have hblw : bc < w.heap.size := Nat.lt_of_lt_of_le hblc hB0
   have HD := hid (dup_at (a := a) (b := b) HXK.out)
   go_wp2_with fail
   go_loopw [8] (fun i wr => ∃ q : Nat, q ≤ k ∧ i = .int .i64 q ∧ Hid ((mtK a b ⟨y0, y1, y2, y3⟩ && (l.take q).any (sameTx a b ⟨y0, y1, y2, y3⟩)) = false) ∧ Below w.heap.size w wr) (fun i _ => k - (intOf i).toNat)
   case atStart => exact ⟨0, Nat.zero_le _, rfl, hid qag, hb⟩
   case round =>
    obtain ⟨q, hq, rfl, HQA, hb⟩ := hrel
    have hbs := hb.size
    by_cases hqk : q < k
    ·have hltq : q < l.length := qaa
     have HCC : Hid (RdC w B (.s 44 4 l.length (FNode.flat l)) (.slice (some ⟨bc, offc, none⟩) l.length c)) := HC
     obtain ⟨x, hx⟩ : ∃ x, l[q]? = some x := ⟨_, List.getElem?_eq_getElem hltq⟩
     obtain ⟨bc2, offc2, EE, hblc2, hcc⟩ := RdC.at_ FNode.len HCC.out hx
     obtain ⟨rfl, rfl⟩ : bc = bc2 ∧ offc = offc2 := by simpa using EE
     have HX := hid hx
     have HM := hid (List.mem_of_getElem? hx)
     clear hx
     obtain ⟨v0, v1, v2, v3⟩ := x
     rw [FNode.c_eq] at hcc
     obtain ⟨u0, e0, q0⟩ := hcc 0 _ rfl
     obtain rfl := q0.val
     have c_0 : wr.cell? ⟨bc, offc + q * 4, none⟩ = some (.int .i64 v0) := (hb.cell (p := ⟨bc, _, none⟩) hblw).trans qa3
     obtain ⟨u1, e1, q1⟩ := hcc 1 _ rfl
     obtain rfl := q1.val
     have c_1 : wr.cell? ⟨bc, offc + q * 4 + 1, none⟩ = some (.int .i64 v1) := (hb.cell (p := ⟨bc, _, none⟩) hblw).trans qa4
     obtain ⟨u2, e2, q2⟩ := hcc 2 _ rfl
     obtain rfl := q2.val
     have c_2 : wr.cell? ⟨bc, offc + q * 4 + 2, none⟩ = some (.string v2) := (hb.cell (p := ⟨bc, _, none⟩) hblw).trans qa5
     obtain ⟨u3, e3, q3⟩ := hcc 3 _ rfl
     obtain ⟨D2, d2, rfl⟩ := q3.form
     have c_3 : wr.cell? ⟨bc, offc + q * 4 + 3, none⟩ = some (.slice D2 v3.length d2) := (hb.cell (p := ⟨bc, _, none⟩) hblw).trans qa6
     have Q3 := hid q3
     clear hcc e0 e1 e2 e3 q0 q1 q2 q3
     have k_0 := (hb.cell (p := ⟨bc, offc + k * 4, none⟩) hblw).trans cw_0
     have k_2 := (hb.cell (p := ⟨bc, offc + k * 4 + 2, none⟩) hblw).trans cw_2
     have HMX0 := hid (show inB y0 a b = mtK a b ⟨y0, y1, y2, y3⟩ from HAB.out y0)
     have HMY0 := hid (show inB v0 a b = mtK a b ⟨v0, v1, v2, v3⟩ from HAB.out v0)
     have HST := hid (show sameTx a b ⟨y0, y1, y2, y3⟩ ⟨v0, v1, v2, v3⟩ = (mtK a b ⟨v0, v1, v2, v3⟩ && (v2.toList == y2.toList)) from rfl)
     have HNX := hid (any_take_end (p := sameTx a b ⟨y0, y1, y2, y3⟩) HX.out)
     cases hmx : mtK a b ⟨y0, y1, y2, y3⟩ with
     | false =>
      have HMX := hid (HMX0.out.trans hmx)
      go_wp2_with fail
      go_quiet ((go_at_call 51; exact l1q _ _ _ _ (by first | exact HMX.out) _ _))
      go_wp2_with fail
      go_roundw
      case rel => exact ⟨q + 1, by omega, by go_num, hid (by first | rfl | (rw [hmx, Bool.false_and])), below_drewN hb _⟩
      case measure => simp [intOf]; omega
     | true =>
      have HMX := hid (HMX0.out.trans hmx)
      cases hmy : mtK a b ⟨v0, v1, v2, v3⟩ with
      | false =>
       have HMY := hid (HMY0.out.trans hmy)
       have HNQ := hid (show (true && (l.take (q + 1)).any (sameTx a b ⟨y0, y1, y2, y3⟩)) = false from by rw [HNX.out, HST.out, hmy, Bool.false_and, Bool.or_false]; first | exact HQA.out | (have hh := HQA.out; rw [hmx] at hh; exact hh))
       exact zz89
      | true =>
       have HMY := hid (HMY0.out.trans hmy)
       cases hte : (y2.toList == v2.toList) with
       | true =>
        have HDT := hid (show dupAt a b l k = true from by
         rw [HD.out, hmx, Bool.true_and]
         refine any_take_mono HX.out hqk ?_
         rw [HST.out, hmy, Bool.true_and, beq_iff_eq]
         exact (beq_iff_eq.mp hte).symm)
        go_wp2_with fail
        go_quiet ((go_at_call 51; exact l1q _ _ _ _ (by first | exact HMX.out | exact HMY.out) _ _))
        go_wp2_with fail
        go_ret
        exact ⟨ret_bool (tw_t HXK.out HDT.out).symm, below_drewN hb _⟩
       | false =>
        have HNQ := hid (show (true && (l.take (q + 1)).any (sameTx a b ⟨y0, y1, y2, y3⟩)) = false from by
         rw [HNX.out, HST.out, show (v2.toList == y2.toList) = false from by rw [beq_eq_false_iff_ne] at hte ⊢; exact fun e => hte e.symm, Bool.and_false, Bool.or_false]
         first | exact HQA.out | (have hh := HQA.out; rw [hmx] at hh; exact hh))
        exact zz89
    ·obtain rfl : q = k := qaa
     clear hqk
     have HDF := hid (HD.out.trans HQA.out)
     go_wp2_with fail
     go_roundw
     case rel => exact ⟨q + 1, by omega, by go_num, hid (fun j hj => by rcases Nat.lt_succ_iff_lt_or_eq.mp hj with h | h; exact HA.out j h; rw [h]; exact HDF.out), hb⟩
     case measure => simp [intOf]; omega
  ·exact zz145
def rnmF (x : FNode) : ByteArray := if (rootF x).kd = 4 then (rootF x).tx else ByteArray.empty
theorem rnm_th (x : FNode) : ((rnmF x).toList == [116, 104, 105, 115]) = rnF x := by
 unfold rnmF rnF isTh
 by_cases h : (rootF x).kd = 4
 ·rw [if_pos h, h]; rfl
 ·rw [if_neg h, beq_false_of_ne h, Bool.false_and, ByteArray.toList_eq]
  rfl
theorem rn_impl (x : FNode) (hw : x.wt ≤ 9000000000) (hrt : rtOk x = true) (us : List Value) (w : World) (B : Nat) (hB0 : B ≤ w.heap.size) (hr : RdVs w B x.c us) :
  Calls Tryz.prog 113 #[.agg us.toArray] w fun e w' => e = .returned (.string (rnmF x)) ∧ Below w.heap.size w w' := by
 obtain ⟨z0, z1, z2, z3⟩ := x
 obtain ⟨A3, c3, rfl, r3⟩ := hr.node
 have HR := hid r3
 have HW := hid hw
 have HRT := hid hrt
 clear hr r3 hw hrt
 go_enter Tryz.func113, Tryz.ntmps113
 go_wp2_with fail
 go_loopg [] (szN ⟨z0, z1, z2, z3⟩) (fun k wr => ∃ (y0 y1 : Int) (y2 : ByteArray) (y3 : List FNode) (D : Option Addr) (d m : Nat), wr = w.alloc (.cells #[.int .i64 y0, .int .i64 y1, .string y2, .slice D m d] 44) ∧ Hid (rootF ⟨y0, y1, y2, y3⟩ = rootF ⟨z0, z1, z2, z3⟩) ∧ Hid (rtOk ⟨y0, y1, y2, y3⟩ = true) ∧ Hid (RdC w B (.s 44 4 m (FNode.flat y3)) (.slice D m d)) ∧ Hid (y3.length = m) ∧ Hid (FNode.wt ⟨y0, y1, y2, y3⟩ ≤ 9000000000) ∧ Hid (szN ⟨y0, y1, y2, y3⟩ ≤ k))
 case atStart => exact ⟨_, _, _, _, _, _, _, rfl, hid rfl, HRT, HR, hid rfl, HW, hid nr⟩
 case round =>
  obtain ⟨y0, y1, y2, y3, D, d, m, rfl, HT, HK, HQ, HM, HV, HS⟩ := hrel
  have hy : m ≤ 9223372036854775807 := by have := HV.out; rw [FNode.wt_eq] at this; have := HM.out; omega
  have hb2 := hbA w y0 y1 y2 (.slice D m d)
  by_cases e7 : y0 = 7
  ·subst e7
   match y3, HK with
   | [], HK => have := HK.out; rw [rtOk_7n] at this; cases this
   | ⟨a0, a1, a2, a3⟩ :: r, HK =>
    have hpos : 0 < m := by have := HM.out; simp only [List.length_cons] at this; omega
    have HQ2 : Hid (RdC w B (.s 44 4 (FNode.mk a0 a1 a2 a3 :: r).length (FNode.flat (FNode.mk a0 a1 a2 a3 :: r))) (.slice D (FNode.mk a0 a1 a2 a3 :: r).length d)) := by rw [HM.out]; exact HQ
    obtain ⟨bca, offca, Ea, hblca, hcc⟩ := RdC.at_ (l := (FNode.mk a0 a1 a2 a3 :: r)) FNode.len HQ2.out (i := 0) (x := FNode.mk a0 a1 a2 a3) rfl
    obtain ⟨Da, da, ca_0, ca_1, ca_2, ca_3, q3⟩ := opN hb2.out qaa hcc (offca) (offca + 1) (offca + 2) (offca + 3) qaa
    have Qa := hid q3
    clear hcc q3
    subst Ea
    go_wp2_with fail
    go_roundg (szN ⟨a0, a1, a2, a3⟩)
    case rel => exact ⟨_, _, _, _, _, _, _, rfl, hid (by rw [← HT.out, rootF_7]), hid (by rw [← rtOk_7 y1 y2 _ r]; exact HK.out), Qa, hid rfl, hid qa2, hid nr⟩
    case measure => exact Nat.lt_of_lt_of_le (szN_7 _ _ _ _ _) HS.out
  ·have HE := hid (rootF_o e7 y1 y2 y3)
   by_cases e4 : y0 = 4
   ·subst e4
    have HF := hid (show rnmF ⟨z0, z1, z2, z3⟩ = y2 from by unfold rnmF; rw [← HT.out, HE.out]; rfl)
    go_wp2_with fail
    go_ret
    exact ⟨by rw [HF.out]; rfl, hb2.out⟩
   ·have HF := hid (show rnmF ⟨z0, z1, z2, z3⟩ = ByteArray.empty from by unfold rnmF; rw [← HT.out, HE.out]; exact if_neg e4)
    go_wp2_with fail
    go_ret
    exact ⟨by rw [HF.out]; rfl, hb2.out⟩
theorem thI_24 (z1 : Int) (z2 : ByteArray) (z3 : List FNode) (hw : (FNode.mk 24 z1 z2 z3).wt ≤ 9000000000) : SaB 73 (FNode.mk 24 z1 z2 z3) (isTh z2) := by
 have Hf (w : World) u := hbA w 24 z1 z2 u
 exact zz33
theorem thI_25 (z1 : Int) (z2 : ByteArray) (z3 : List FNode) (hw : (FNode.mk 25 z1 z2 z3).wt ≤ 9000000000) : SaB 73 (FNode.mk 25 z1 z2 z3) (isTh z2) := by
 have Hf (w : World) u := hbA w 25 z1 z2 u
 exact zz33
theorem thI_40 (z1 : Int) (z2 : ByteArray) (z3 : List FNode) (hw : (FNode.mk 40 z1 z2 z3).wt ≤ 9000000000) : SaB 73 (FNode.mk 40 z1 z2 z3) (isTh z2) := by
 have Hf (w : World) u := hbA w 40 z1 z2 u
 exact zz33
theorem thI_17 (z1 : Int) (z2 : ByteArray) (z3 : List FNode) (hw : (FNode.mk 17 z1 z2 z3).wt ≤ 9000000000) (hk1 : 1 ≤ z3.length) : SaB 73 (FNode.mk 17 z1 z2 z3) (isTh z2 || hdTx z3) := by
 intro us w B hB0 hr
 obtain ⟨A3, c3, rfl, r3⟩ := hr.node
 have hww := hw
 rw [FNode.wt_eq] at hw
 have hz : z2.size ≤ 9223372036854775807 := qaa
 have hl : z3.length ≤ 9000000000 := qaa
 have HR0 := hid r3
 obtain ⟨m, hm⟩ : ∃ m, z3.length = m := ⟨_, rfl⟩
 try rw [hm] at hl r3 ⊢
 have HR := hid r3
 have HB := hbA w 17 z1 z2 (.slice A3 m c3)
 clear hr r3
 obtain ⟨⟨y0, y1, y2, y3⟩, r, rfl⟩ : ∃ a r, z3 = a :: r := by
  exact zz51
 have hpos : 0 < m := by rw [← hm]; simp
 obtain ⟨bcy, offcy, Ey, hblcy, hcc⟩ := nd_at hm.symm (l := (FNode.mk y0 y1 y2 y3 :: r)) HR.out (i := 0) (x := FNode.mk y0 y1 y2 y3) rfl
 obtain ⟨Dy, dy, cy_0, cy_1, cy_2, cy_3, q3⟩ := opN (Below.refl w.heap.size w) qaa hcc (offcy) (offcy + 1) (offcy + 2) (offcy + 3) qaa
 have Qy := hid q3
 clear hcc q3
 have hbl : bcy < w.heap.size := Nat.lt_of_lt_of_le hblcy hB0
 subst Ey
 have ⟨_, _, _, _⟩ := cell4 HB.out hbl cy_0 cy_1 cy_2 cy_3
 clear hm hw hww hk1 HR0
 have HT := hid (show isTh z2 = (z2.toList == [116, 104, 105, 115]) from rfl)
 have HY := hid (show hdTx (FNode.mk y0 y1 y2 y3 :: r) = (y2.toList == [116, 104, 105, 115]) from rfl)
 rw [HT.out, HY.out]
 clear HT HY
 cases ht : (z2.toList == [116, 104, 105, 115]) with
 | true =>
  exact zz42
 | false =>
  exact zz42
theorem thI_44 (z1 : Int) (z2 : ByteArray) (z3 : List FNode) (hw : (FNode.mk 44 z1 z2 z3).wt ≤ 9000000000) (hk1 : 1 ≤ z3.length) : SaB 73 (FNode.mk 44 z1 z2 z3) (hdTx z3) := by
 intro us w B hB0 hr
 obtain ⟨A3, c3, rfl, r3⟩ := hr.node
 have hww := hw
 rw [FNode.wt_eq] at hw
 have hz : z2.size ≤ 9223372036854775807 := qaa
 have hl : z3.length ≤ 9000000000 := qaa
 have HR0 := hid r3
 obtain ⟨m, hm⟩ : ∃ m, z3.length = m := ⟨_, rfl⟩
 try rw [hm] at hl r3 ⊢
 have HR := hid r3
 have HB := hbA w 44 z1 z2 (.slice A3 m c3)
 clear hr r3
 obtain ⟨⟨y0, y1, y2, y3⟩, r, rfl⟩ : ∃ a r, z3 = a :: r := by
  exact zz51
 have hpos : 0 < m := by rw [← hm]; simp
 obtain ⟨bcy, offcy, Ey, hblcy, hcc⟩ := nd_at hm.symm (l := (FNode.mk y0 y1 y2 y3 :: r)) HR.out (i := 0) (x := FNode.mk y0 y1 y2 y3) rfl
 obtain ⟨Dy, dy, cy_0, cy_1, cy_2, cy_3, q3⟩ := opN (Below.refl w.heap.size w) qaa hcc (offcy) (offcy + 1) (offcy + 2) (offcy + 3) qaa
 have Qy := hid q3
 clear hcc q3
 have hbl : bcy < w.heap.size := Nat.lt_of_lt_of_le hblcy hB0
 subst Ey
 have ⟨_, _, _, _⟩ := cell4 HB.out hbl cy_0 cy_1 cy_2 cy_3
 clear hm hw hww hk1 HR0
 have HY := hid (show hdTx (FNode.mk y0 y1 y2 y3 :: r) = (y2.toList == [116, 104, 105, 115]) from rfl)
 rw [HY.out]
 exact zz42
theorem thI_15 (z1 : Int) (z2 : ByteArray) (z3 : List FNode) (hw : (FNode.mk 15 z1 z2 z3).wt ≤ 9000000000) (hk1 : 1 ≤ z3.length) (hr0 : ∀ a r, z3 = a :: r → rtOk a = true) : SaB 73 (FNode.mk 15 z1 z2 z3) (hdRn z3) := by
 have Hf (w : World) u := hbA w 15 z1 z2 u
 exact zz13
theorem thI_16 (z1 : Int) (z2 : ByteArray) (z3 : List FNode) (hw : (FNode.mk 16 z1 z2 z3).wt ≤ 9000000000) (hk1 : 1 ≤ z3.length) (hr0 : ∀ a r, z3 = a :: r → rtOk a = true) : SaB 73 (FNode.mk 16 z1 z2 z3) (hdRn z3) := by
 have Hf (w : World) u := hbA w 16 z1 z2 u
 exact zz13
theorem thI_41 (z1 : Int) (z2 : ByteArray) (z3 : List FNode) (hw : (FNode.mk 41 z1 z2 z3).wt ≤ 9000000000) (hk1 : 1 ≤ z3.length) (hr0 : ∀ a r, z3 = a :: r → rtOk a = true) : SaB 73 (FNode.mk 41 z1 z2 z3) (hdRn z3) := by
 have Hf (w : World) u := hbA w 41 z1 z2 u
 exact zz13
theorem thI_46 (z1 : Int) (z2 : ByteArray) (z3 : List FNode) (hw : (FNode.mk 46 z1 z2 z3).wt ≤ 9000000000) : SaB 73 (FNode.mk 46 z1 z2 z3) (z3.length == 2 && hdTx z3) := by
 intro us w B hB0 hr
 obtain ⟨A3, c3, rfl, r3⟩ := hr.node
 have hww := hw
 rw [FNode.wt_eq] at hw
 have hz : z2.size ≤ 9223372036854775807 := qaa
 have hl : z3.length ≤ 9000000000 := qaa
 have HR0 := hid r3
 obtain ⟨m, hm⟩ : ∃ m, z3.length = m := ⟨_, rfl⟩
 try rw [hm] at hl r3 ⊢
 have HR := hid r3
 have HB := hbA w 46 z1 z2 (.slice A3 m c3)
 clear hr r3
 by_cases h2 : m = 2
 ·subst h2
  obtain ⟨⟨y0, y1, y2, y3⟩, yb, rfl⟩ := two_of hm
  obtain ⟨bcy, offcy, Ey, hblcy, hcc⟩ := RdC.at_ (l := [FNode.mk y0 y1 y2 y3, yb]) FNode.len HR.out (i := 0) (x := FNode.mk y0 y1 y2 y3) rfl
  obtain ⟨Dy, dy, cy_0, cy_1, cy_2, cy_3, q3⟩ := opN (Below.refl w.heap.size w) qaa hcc (offcy) (offcy + 1) (offcy + 2) (offcy + 3) qaa
  have Qy := hid q3
  clear hcc q3
  have hbl : bcy < w.heap.size := Nat.lt_of_lt_of_le hblcy hB0
  subst Ey
  have ⟨_, _, _, _⟩ := cell4 HB.out hbl cy_0 cy_1 cy_2 cy_3
  clear hm hw hww HR0
  have HY := hid (show (2 == 2 && hdTx [FNode.mk y0 y1 y2 y3, yb]) = (y2.toList == [116, 104, 105, 115]) from rfl)
  rw [HY.out]
  exact zz42
 ·clear hm hw hww HR0
  rw [show (m == 2) = false from beq_false_of_ne h2]
  exact zz42
theorem thI_36 (z1 : Int) (z2 : ByteArray) (z3 : List FNode) (hw : (FNode.mk 36 z1 z2 z3).wt ≤ 9000000000) (hk1 : 3 ≤ z3.length) : SaB 73 (FNode.mk 36 z1 z2 z3) (z3.tail.any (fun y => y.kd == 4 && isTh y.tx)) := by
 intro us w B hB0 hr
 obtain ⟨A3, c3, rfl, r3⟩ := hr.node
 have hww := hw
 rw [FNode.wt_eq] at hw
 have hz : z2.size ≤ 9223372036854775807 := qaa
 have hl : z3.length ≤ 9000000000 := qaa
 have HR0 := hid r3
 obtain ⟨m, hm⟩ : ∃ m, z3.length = m := ⟨_, rfl⟩
 try rw [hm] at hl r3 ⊢
 have HR := hid r3
 have HB := hbA w 36 z1 z2 (.slice A3 m c3)
 clear hr r3
 obtain ⟨a, r, rfl⟩ : ∃ a r, z3 = a :: r := by
  exact zz51
 obtain ⟨q, hq⟩ : ∃ q, r.length = q := ⟨_, rfl⟩
 obtain rfl : m = q + 1 := by rw [← hm, ← hq]; rfl
 obtain ⟨bc0, offc0, hA, hB1, _⟩ := nd_at (i := 0) (x := a) hm.symm (l := a :: r) HR.out rfl
 subst hA
 have hcap : q + 1 ≤ c3 := cap_of HR.out
 have hql : q ≤ 9000000000 := qaa
 have hq2 : 2 ≤ q := by simp only [List.length_cons] at hk1; omega
 have hc2 : 3 ≤ c3 := qaa
 rw [show (a :: r).tail = r from rfl]
 have HQ := hid hq
 have HE : Hid (0 < r.length → RdC w B (.s 44 4 r.length (FNode.flat r)) (.slice (some ⟨bc0, offc0 + 1 * 4, none⟩) r.length (c3 - 1))) := hid (fun h => rd_drop (p := [a]) (l := r) h (by rw [hq]; simp; omega) HR.out)
 clear hm hw hww HR0 hk1 hq
 go_enter Tryz.func73, Tryz.ntmps73
 go_wp2_with fail
 go_loopw [41] (fun i wr => ∃ k : Nat, k ≤ q ∧ i = .int .i64 k ∧ Hid ((r.take k).any (fun y => y.kd == 4 && isTh y.tx) = false) ∧ Below w.heap.size w wr) (fun i _ => q - (intOf i).toNat)
 case atStart => exact ⟨0, Nat.zero_le _, rfl, hid rfl, HB.out⟩
 case round =>
  obtain ⟨k, hk, rfl, HA, hb⟩ := hrel
  have hbs := hb.size
  by_cases hltq : k < q
  ·have hlt : k < r.length := by rw [HQ.out]; exact hltq
   have HC := hid (HE.out qaa)
   obtain ⟨x, hx⟩ : ∃ x, r[k]? = some x := ⟨_, List.getElem?_eq_getElem hlt⟩
   obtain ⟨bc2, offc2, EE, hblc2, hcc⟩ := RdC.at_ FNode.len HC.out hx
   obtain ⟨rfl, e9⟩ : bc0 = bc2 ∧ offc0 + 1 * 4 = offc2 := by simpa using EE
   subst e9
   have HX := hid hx
   have HM := hid (List.mem_of_getElem? hx)
   clear hx
   obtain ⟨y0, y1, y2, y3⟩ := x
   obtain ⟨D, d, c_0, c_1, c_2, c_3, q3⟩ := opN hb qaa hcc (offc0 + 1 * 4 + k * 4) (offc0 + 1 * 4 + k * 4 + 1) (offc0 + 1 * 4 + k * 4 + 2) (offc0 + 1 * 4 + k * 4 + 3) qaa
   have Q3 := hid q3
   clear hcc q3
   have hb2 := hid (hb.alloc hbs (.cells #[.int .i64 y0, .int .i64 y1, .string y2, .slice D y3.length d] 44))
   have HS : Hid ((r.take (k + 1)).any (fun y => y.kd == 4 && isTh y.tx) = (y0 == 4 && isTh y2)) := hid (by rw [List.take_add_one, HX.out, List.any_append, HA.out]; simp [FNode.kd, FNode.tx])
   have HAL : Hid (isTh y2 = true → y0 = 4 → r.any (fun y => y.kd == 4 && isTh y.tx) = true) := hid (fun h1 h2 => List.any_eq_true.mpr ⟨_, HM.out, by simp [FNode.kd, FNode.tx, h1, h2]⟩)
   by_cases e4 : y0 = 4
   ·subst e4
    cases ht : (y2.toList == [116, 104, 105, 115]) with
    | true =>
     have HF := hid (HAL.out ht rfl)
     exact zz210
    | false =>
     have HF : isTh y2 = false := ht
     rw [HF] at HS
     clear HF
     exact zz137
   ·rw [beq_false_of_ne e4, Bool.false_and] at HS
    exact zz137
  ·obtain rfl : k = q := qaa
   clear hltq
   have h := HA.out
   rw [List.take_of_length_le (by rw [HQ.out]; exact Nat.le_refl _)] at h
   go_wp2_with fail
   go_ret
   exact ⟨ret_bool h.symm, hb⟩
theorem thI_o (z0 : Int) (z1 : Int) (z2 : ByteArray) (z3 : List FNode) (hw : (FNode.mk z0 z1 z2 z3).wt ≤ 9000000000) (n24 : ¬ z0 = 24) (n25 : ¬ z0 = 25) (n40 : ¬ z0 = 40) (n17 : ¬ z0 = 17) (n44 : ¬ z0 = 44) (n36 : ¬ z0 = 36) (n46 : ¬ z0 = 46) (n15 : ¬ z0 = 15) (n16 : ¬ z0 = 16) (n41 : ¬ z0 = 41) : SaB 73 (FNode.mk z0 z1 z2 z3) (false) := by
 intro us w B hB0 hr
 obtain ⟨A3, c3, rfl, r3⟩ := hr.node
 have hww := hw
 rw [FNode.wt_eq] at hw
 have hz : z2.size ≤ 9223372036854775807 := qaa
 have hl : z3.length ≤ 9000000000 := qaa
 have HR0 := hid r3
 obtain ⟨m, hm⟩ : ∃ m, z3.length = m := ⟨_, rfl⟩
 try rw [hm] at hl r3 ⊢
 have HR := hid r3
 have HB := hbA w z0 z1 z2 (.slice A3 m c3)
 clear hr r3
 clear hm hw hww HR0
 exact zz42
theorem th_impl (x : FNode) (hw : x.wt ≤ 9000000000) (hn : ndK x.kd x.kids) : SaB 73 x (thI x.kd x.tx x.kids) := by
 intro us w B hB0 hr
 obtain ⟨z0, z1, z2, z3⟩ := x
 obtain ⟨h1, h2, h3⟩ := hn
 simp only [FNode.kd, FNode.tx, FNode.kids] at *
 by_cases n24 : z0 = 24
 ·subst n24
  exact thI_24 z1 z2 z3 hw  us w B hB0 hr
 by_cases n25 : z0 = 25
 ·subst n25
  exact thI_25 z1 z2 z3 hw  us w B hB0 hr
 by_cases n40 : z0 = 40
 ·subst n40
  exact thI_40 z1 z2 z3 hw  us w B hB0 hr
 by_cases n17 : z0 = 17
 ·subst n17
  exact thI_17 z1 z2 z3 hw (h1 qae) us w B hB0 hr
 by_cases n44 : z0 = 44
 ·subst n44
  exact thI_44 z1 z2 z3 hw (h1 qae) us w B hB0 hr
 by_cases n36 : z0 = 36
 ·subst n36
  exact thI_36 z1 z2 z3 hw (by have := h2 rfl; omega) us w B hB0 hr
 by_cases n46 : z0 = 46
 ·subst n46
  exact thI_46 z1 z2 z3 hw  us w B hB0 hr
 by_cases n15 : z0 = 15
 ·subst n15
  exact thI_15 z1 z2 z3 hw (h1 qae) (h3 qae) us w B hB0 hr
 by_cases n16 : z0 = 16
 ·subst n16
  exact thI_16 z1 z2 z3 hw (h1 qae) (h3 qae) us w B hB0 hr
 by_cases n41 : z0 = 41
 ·subst n41
  exact thI_41 z1 z2 z3 hw (h1 qae) (h3 qae) us w B hB0 hr
 rw [show thI z0 z2 z3 = false from by unfold thI; simp [n24, n25, n40, n17, n44, n36, n46, n15, n16, n41]]
 exact thI_o z0 z1 z2 z3 hw n24 n25 n40 n17 n44 n36 n46 n15 n16 n41 us w B hB0 hr
end Go.Proofs.YtkkjnfappndmpaaGreatDoor
