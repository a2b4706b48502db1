/-
 Parts of the proof: LmA, LmP, LmS. Conditions: none.
-/
import Derived.Test.YtkkjnfappndmpaaGreatDoorQFold
import Derived.Test.YtkkjnfappndmpaaGreatDoorQbe
import Derived.Test.YtkkjnfappndmpaaGreatDoorQae
import Derived.Deep.AppendLies
set_option linter.unusedVariables false
set_option linter.unusedSimpArgs false
namespace Go.Proofs.YtkkjnfappndmpaaGreatDoor
set_option maxHeartbeats 40000000
open Lib (hid)
open Go.ChangeShapes Go.WideShapes Go.ChangeAt Go.RowKit Go.Deep Go.Joins
open Go.ChangeMaps (open_string shut_string)
set_option maxRecDepth 100000
theorem IntValue_spec (n : Int) (w : World) : Calls Tryz.prog 94 #[.int .i64 n] w fun e w' => e = .returned (.agg #[.int .i64 2, .int .i64 n, .string ⟨#[]⟩, .int .i64 0, .slice none 0 0]) ∧ Below w.heap.size w w' := by
 go_enter Tryz.func94, Tryz.ntmps94
 have b := Blk.new w 77 #[.int .i64 0, .int .i64 0, .string ⟨#[]⟩, .int .i64 0, .slice none 0 0]
 have hB := hid ((Below.refl w.heap.size w).alloc nr (.cells #[.int .i64 0, .int .i64 0, .string ⟨#[]⟩, .int .i64 0, .slice none 0 0] 77))
 go_wp2_with fail
 generalize w.alloc (.cells #[.int .i64 0, .int .i64 0, .string ⟨#[]⟩, .int .i64 0, .slice none 0 0] 77) = X at *
 have b0 := b.cell 0
 have b1 := b.cell 1
 have b2 := b.cell 2
 have b3 := b.cell 3
 have b4 := b.cell 4
 have bl := b.lt
 have bf := fun i => b.frozen i
 refine bodyPost_ret (v := .agg #[.int .i64 2, .int .i64 n, .string ⟨#[]⟩, .int .i64 0, .slice none 0 0]) (by simp [results, Tryz.results94, go_sem, b0, b1, b2, b3, b4, bl, bf]) rfl ⟨rfl, ?_⟩
 exact zz48
theorem TextValue_spec (s : ByteArray) (w : World) : Calls Tryz.prog 95 #[.string s] w fun e w' => e = .returned (.agg #[.int .i64 3, .int .i64 0, .string s, .int .i64 0, .slice none 0 0]) ∧ Below w.heap.size w w' := by
 go_enter Tryz.func95, Tryz.ntmps95
 have b := Blk.new w 77 #[.int .i64 0, .int .i64 0, .string ⟨#[]⟩, .int .i64 0, .slice none 0 0]
 have hB := hid ((Below.refl w.heap.size w).alloc nr (.cells #[.int .i64 0, .int .i64 0, .string ⟨#[]⟩, .int .i64 0, .slice none 0 0] 77))
 go_wp2_with fail
 generalize w.alloc (.cells #[.int .i64 0, .int .i64 0, .string ⟨#[]⟩, .int .i64 0, .slice none 0 0] 77) = X at *
 have b0 := b.cell 0
 have b1 := b.cell 1
 have b2 := b.cell 2
 have b3 := b.cell 3
 have b4 := b.cell 4
 have bl := b.lt
 have bf := fun i => b.frozen i
 refine bodyPost_ret (v := .agg #[.int .i64 3, .int .i64 0, .string s, .int .i64 0, .slice none 0 0]) (by simp [results, Tryz.results95, go_sem, b0, b1, b2, b3, b4, bl, bf]) rfl ⟨rfl, ?_⟩
 exact zz48
theorem BoolValue_spec_true (w : World) : Calls Tryz.prog 96 #[.bool true] w fun e w' => e = .returned (.agg #[.int .i64 1, .int .i64 1, .string ⟨#[]⟩, .int .i64 0, .slice none 0 0]) ∧ Below w.heap.size w w' := by
 go_enter Tryz.func96, Tryz.ntmps96
 have b := Blk.new w 77 #[.int .i64 0, .int .i64 0, .string ⟨#[]⟩, .int .i64 0, .slice none 0 0]
 have hB := hid ((Below.refl w.heap.size w).alloc nr (.cells #[.int .i64 0, .int .i64 0, .string ⟨#[]⟩, .int .i64 0, .slice none 0 0] 77))
 go_wp2_with fail
 generalize w.alloc (.cells #[.int .i64 0, .int .i64 0, .string ⟨#[]⟩, .int .i64 0, .slice none 0 0] 77) = X at *
 have b0 := b.cell 0
 have b1 := b.cell 1
 have b2 := b.cell 2
 have b3 := b.cell 3
 have b4 := b.cell 4
 have bl := b.lt
 have bf := fun i => b.frozen i
 refine bodyPost_ret (v := .agg #[.int .i64 1, .int .i64 1, .string ⟨#[]⟩, .int .i64 0, .slice none 0 0]) (by simp [results, Tryz.results96, go_sem, b0, b1, b2, b3, b4, bl, bf]) rfl ⟨rfl, ?_⟩
 exact zz48
theorem BoolValue_spec_false (w : World) : Calls Tryz.prog 96 #[.bool false] w fun e w' => e = .returned (.agg #[.int .i64 1, .int .i64 0, .string ⟨#[]⟩, .int .i64 0, .slice none 0 0]) ∧ Below w.heap.size w w' := by
 go_enter Tryz.func96, Tryz.ntmps96
 have b := Blk.new w 77 #[.int .i64 0, .int .i64 0, .string ⟨#[]⟩, .int .i64 0, .slice none 0 0]
 have hB := hid ((Below.refl w.heap.size w).alloc nr (.cells #[.int .i64 0, .int .i64 0, .string ⟨#[]⟩, .int .i64 0, .slice none 0 0] 77))
 go_wp2_with fail
 generalize w.alloc (.cells #[.int .i64 0, .int .i64 0, .string ⟨#[]⟩, .int .i64 0, .slice none 0 0] 77) = X at *
 have b0 := b.cell 0
 have b1 := b.cell 1
 have b2 := b.cell 2
 have b3 := b.cell 3
 have b4 := b.cell 4
 have bl := b.lt
 have bf := fun i => b.frozen i
 refine bodyPost_ret (v := .agg #[.int .i64 1, .int .i64 0, .string ⟨#[]⟩, .int .i64 0, .slice none 0 0]) (by simp [results, Tryz.results96, go_sem, b0, b1, b2, b3, b4, bl, bf]) rfl ⟨rfl, ?_⟩
 exact zz48
theorem litV_spec (k n : Int) (t : ByteArray) (ks : List FNode) (A : Option Addr) (m c : Nat) (w : World) (hk : inB k 1 3 = true) :
  Calls Tryz.prog 62 #[.agg #[.int .i64 k, .int .i64 n, .string t, .slice A m c]] w fun e w' => e = .returned (fvA (litV ⟨k, n, t, ks⟩)) ∧ Below w.heap.size w w' := by
 have hk2 := inB_iff.1 hk
 have hk3 : 1 ≤ k ∧ k ≤ 3 := hk2
 clear hk hk2
 by_cases h1 : k = 1
 ·subst h1
  clear hk3
  show Calls Tryz.prog _ _ w fun e w' => e = .returned (.agg #[.int .i64 2, .int .i64 n, .string ⟨#[]⟩, .int .i64 0, .slice none 0 0]) ∧ Below w.heap.size w w'
  go_enter Tryz.func62, Tryz.ntmps62
  have hB := hid (((Below.refl w.heap.size w).alloc nr (.cells #[.int .i64 1, .int .i64 n, .string t, .slice A m c] 44)).alloc qag (.cells #[.int .i64 0, .int .i64 0, .string ⟨#[]⟩, .int .i64 0, .slice none 0 0] 77))
  have b := Blk.new' (w.alloc (.cells #[.int .i64 1, .int .i64 n, .string t, .slice A m c] 44)) 77 #[.int .i64 0, .int .i64 0, .string ⟨#[]⟩, .int .i64 0, .slice none 0 0] (w.heap.size + 1) qag
  go_wp2_with (go_at_call 94; refine (IntValue_spec _ _).mono ?_; rintro e w1 ⟨rfl, hb⟩; replace b := b.below hb nr; replace hB := hid (hB.out.trans (hb.mono hB.out.size)); clear hb; have b0 := b.cell 0; have b1 := b.cell 1; have b2 := b.cell 2; have b3 := b.cell 3; have b4 := b.cell 4; have bl := b.lt; have bf := fun i => b.frozen i)
  refine bodyPost_ret (v := .agg #[.int .i64 2, .int .i64 n, .string ⟨#[]⟩, .int .i64 0, .slice none 0 0]) qbb rfl ⟨rfl, ?_⟩
  exact zz83
 by_cases h2 : k = 2
 ·subst h2
  clear hk3
  show Calls Tryz.prog _ _ w fun e w' => e = .returned (.agg #[.int .i64 3, .int .i64 0, .string t, .int .i64 0, .slice none 0 0]) ∧ Below w.heap.size w w'
  go_enter Tryz.func62, Tryz.ntmps62
  have hB := hid (((Below.refl w.heap.size w).alloc nr (.cells #[.int .i64 2, .int .i64 n, .string t, .slice A m c] 44)).alloc qag (.cells #[.int .i64 0, .int .i64 0, .string ⟨#[]⟩, .int .i64 0, .slice none 0 0] 77))
  have b := Blk.new' (w.alloc (.cells #[.int .i64 2, .int .i64 n, .string t, .slice A m c] 44)) 77 #[.int .i64 0, .int .i64 0, .string ⟨#[]⟩, .int .i64 0, .slice none 0 0] (w.heap.size + 1) qag
  go_wp2_with (go_at_call 95; refine (TextValue_spec _ _).mono ?_; rintro e w1 ⟨rfl, hb⟩; replace b := b.below hb nr; replace hB := hid (hB.out.trans (hb.mono hB.out.size)); clear hb; have b0 := b.cell 0; have b1 := b.cell 1; have b2 := b.cell 2; have b3 := b.cell 3; have b4 := b.cell 4; have bl := b.lt; have bf := fun i => b.frozen i)
  refine bodyPost_ret (v := .agg #[.int .i64 3, .int .i64 0, .string t, .int .i64 0, .slice none 0 0]) qbb rfl ⟨rfl, ?_⟩
  exact zz83
 obtain rfl : k = 3 := qaa
 clear hk3 h1 h2
 by_cases h0 : n = 0
 ·subst h0
  show Calls Tryz.prog _ _ w fun e w' => e = .returned (.agg #[.int .i64 0, .int .i64 0, .string ⟨#[]⟩, .int .i64 0, .slice none 0 0]) ∧ Below w.heap.size w w'
  go_enter Tryz.func62, Tryz.ntmps62
  have hB := hid (((Below.refl w.heap.size w).alloc nr (.cells #[.int .i64 3, .int .i64 0, .string t, .slice A m c] 44)).alloc qag (.cells #[.int .i64 0, .int .i64 0, .string ⟨#[]⟩, .int .i64 0, .slice none 0 0] 77))
  have b := Blk.new' (w.alloc (.cells #[.int .i64 3, .int .i64 0, .string t, .slice A m c] 44)) 77 #[.int .i64 0, .int .i64 0, .string ⟨#[]⟩, .int .i64 0, .slice none 0 0] (w.heap.size + 1) qag
  have b0 := b.cell 0; have b1 := b.cell 1; have b2 := b.cell 2; have b3 := b.cell 3; have b4 := b.cell 4; have bl := b.lt; have bf := fun i => b.frozen i
  go_wp2_with fail
  refine bodyPost_ret (v := .agg #[.int .i64 0, .int .i64 0, .string ⟨#[]⟩, .int .i64 0, .slice none 0 0]) qbb rfl ⟨rfl, ?_⟩
  exact zz83
 have h9 : (n == 0) = false := by rw [beq_eq_false_iff_ne]; exact h0
 by_cases h2 : n = 2
 ·subst h2
  show Calls Tryz.prog _ _ w fun e w' => e = .returned (.agg #[.int .i64 1, .int .i64 1, .string ⟨#[]⟩, .int .i64 0, .slice none 0 0]) ∧ Below w.heap.size w w'
  go_enter Tryz.func62, Tryz.ntmps62
  have hB := hid (((Below.refl w.heap.size w).alloc nr (.cells #[.int .i64 3, .int .i64 2, .string t, .slice A m c] 44)).alloc qag (.cells #[.int .i64 0, .int .i64 0, .string ⟨#[]⟩, .int .i64 0, .slice none 0 0] 77))
  have b := Blk.new' (w.alloc (.cells #[.int .i64 3, .int .i64 2, .string t, .slice A m c] 44)) 77 #[.int .i64 0, .int .i64 0, .string ⟨#[]⟩, .int .i64 0, .slice none 0 0] (w.heap.size + 1) qag
  go_wp2_with (go_at_call 96; refine (BoolValue_spec_true _).mono ?_; rintro e w1 ⟨rfl, hb⟩; replace b := b.below hb nr; replace hB := hid (hB.out.trans (hb.mono hB.out.size)); clear hb; have b0 := b.cell 0; have b1 := b.cell 1; have b2 := b.cell 2; have b3 := b.cell 3; have b4 := b.cell 4; have bl := b.lt; have bf := fun i => b.frozen i)
  refine bodyPost_ret (v := .agg #[.int .i64 1, .int .i64 1, .string ⟨#[]⟩, .int .i64 0, .slice none 0 0]) qbb rfl ⟨rfl, ?_⟩
  exact zz83
 have h8 : (n == 2) = false := by rw [beq_eq_false_iff_ne]; exact h2
 have e : fvA (litV ⟨3, n, t, ks⟩) = .agg #[.int .i64 1, .int .i64 0, .string ⟨#[]⟩, .int .i64 0, .slice none 0 0] := by
  exact zz110
 rw [e]
 clear h0 h2 e
 go_enter Tryz.func62, Tryz.ntmps62
 have hB := hid (((Below.refl w.heap.size w).alloc nr (.cells #[.int .i64 3, .int .i64 n, .string t, .slice A m c] 44)).alloc qag (.cells #[.int .i64 0, .int .i64 0, .string ⟨#[]⟩, .int .i64 0, .slice none 0 0] 77))
 have b := Blk.new' (w.alloc (.cells #[.int .i64 3, .int .i64 n, .string t, .slice A m c] 44)) 77 #[.int .i64 0, .int .i64 0, .string ⟨#[]⟩, .int .i64 0, .slice none 0 0] (w.heap.size + 1) qag
 go_wp2_with (go_at_call 96; refine (BoolValue_spec_false _).mono ?_; rintro e w1 ⟨rfl, hb⟩; replace b := b.below hb nr; replace hB := hid (hB.out.trans (hb.mono hB.out.size)); clear hb; have b0 := b.cell 0; have b1 := b.cell 1; have b2 := b.cell 2; have b3 := b.cell 3; have b4 := b.cell 4; have bl := b.lt; have bf := fun i => b.frozen i)
 refine bodyPost_ret (v := .agg #[.int .i64 1, .int .i64 0, .string ⟨#[]⟩, .int .i64 0, .slice none 0 0]) qbb rfl ⟨rfl, ?_⟩
 exact zz83
/-- A value without elements, copied. -/
theorem copyS_flat (k n : Int) (s : ByteArray) (y : Int) (w : World) : Calls Tryz.prog 63 #[.agg #[.int .i64 k, .int .i64 n, .string s, .int .i64 y, .slice none 0 0]] w fun e w' => e = .returned (.agg #[.int .i64 k, .int .i64 n, .string s, .int .i64 y, .slice none 0 0]) ∧ Below w.heap.size w w' := by
 have b1 := (Blk.new' (w.alloc (.cells #[.int .i64 k, .int .i64 n, .string s, .int .i64 y, .slice none 0 0] 77)) 77 #[.int .i64 0, .int .i64 0, .string ⟨#[]⟩, .int .i64 0, .slice none 0 0] (w.heap.size + 1) qag).alloc (.cells #[.int .i64 k, .int .i64 n, .string s, .int .i64 y, .slice none 0 0] 77)
 have b2 := Blk.new' ((w.alloc (.cells #[.int .i64 k, .int .i64 n, .string s, .int .i64 y, .slice none 0 0] 77)).alloc (.cells #[.int .i64 0, .int .i64 0, .string ⟨#[]⟩, .int .i64 0, .slice none 0 0] 77)) 77 #[.int .i64 k, .int .i64 n, .string s, .int .i64 y, .slice none 0 0] (w.heap.size + 1 + 1) qag
 have b0 := ((Blk.new w 77 #[.int .i64 k, .int .i64 n, .string s, .int .i64 y, .slice none 0 0]).alloc (.cells #[.int .i64 0, .int .i64 0, .string ⟨#[]⟩, .int .i64 0, .slice none 0 0] 77)).alloc (.cells #[.int .i64 k, .int .i64 n, .string s, .int .i64 y, .slice none 0 0] 77)
 go_enter Tryz.func63, Tryz.ntmps63
 go_upto_region 3 with fail
 have HB := hid ((((Below.refl w.heap.size w).alloc nr (.cells #[.int .i64 k, .int .i64 n, .string s, .int .i64 y, .slice none 0 0] 77)).alloc qag (.cells #[.int .i64 0, .int .i64 0, .string ⟨#[]⟩, .int .i64 0, .slice none 0 0] 77)).alloc qak (.cells #[.int .i64 k, .int .i64 n, .string s, .int .i64 y, .slice none 0 0] 77))
 generalize ((w.alloc (.cells #[.int .i64 k, .int .i64 n, .string s, .int .i64 y, .slice none 0 0] 77)).alloc (.cells #[.int .i64 0, .int .i64 0, .string ⟨#[]⟩, .int .i64 0, .slice none 0 0] 77)).alloc (.cells #[.int .i64 k, .int .i64 n, .string s, .int .i64 y, .slice none 0 0] 77) = X at *
 have b00 := b0.cell 0; have b01 := b0.cell 1; have b02 := b0.cell 2; have b03 := b0.cell 3; have b04 := b0.cell 4; have b0l := b0.lt; have b0f := fun i => b0.frozen i
 have b10 := b1.cell 0; have b11 := b1.cell 1; have b12 := b1.cell 2; have b13 := b1.cell 3; have b14 := b1.cell 4; have b1l := b1.lt; have b1f := fun i => b1.frozen i
 have b20 := b2.cell 0; have b21 := b2.cell 1; have b22 := b2.cell 2; have b23 := b2.cell 3; have b24 := b2.cell 4; have b2l := b2.lt; have b2f := fun i => b2.frozen i
 go_wp2_with fail
 go_loopw [4] (fun i wr => i = .int .i64 0 ∧ wr = X) (fun i _ => 0)
 case atStart => exact ⟨rfl, rfl⟩
 case round =>
  obtain ⟨rfl, rfl⟩ := hrel
  go_wp2_with fail
  refine bodyPost_ret (v := .agg #[.int .i64 k, .int .i64 n, .string s, .int .i64 y, .slice none 0 0]) (by simp [results, Tryz.results63, go_sem, b10, b11, b12, b13, b14, b1l, b1f]) rfl ⟨rfl, ?_⟩
  repeat (refine Below.setCell ?_ qag _)
  exact HB.out
theorem dcl_stop {l : List FNode} {k : Nat} {y : FNode} {s : ByteArray} (h : l[k]? = some y) (hy : FNode.isDecl s y = true) : dclB l s = true := by
 unfold dclB
 rw [List.any_eq_true]
 exact ⟨y, List.mem_of_getElem? h, hy⟩
theorem dcl_spec (z0 z1 : Int) (z2 : ByteArray) (z3 : List FNode) (s : ByteArray) (A3 : Option Addr) (c3 : Nat) (w : World) {B : Nat} (hB0 : B ≤ w.heap.size) (hl : z3.length ≤ 1000000000) (r3 : RdC w B (.s 44 4 z3.length (FNode.flat z3)) (.slice A3 z3.length c3)) :
  Calls Tryz.prog 60 #[.agg #[.int .i64 z0, .int .i64 z1, .string z2, .slice A3 z3.length c3], .string s] w fun e w' => e = .returned (.bool (dclB z3 s)) ∧ Below w.heap.size w w' := by
 have R3 := hid r3
 clear r3
 have bN := Blk.new w 44 #[.int .i64 z0, .int .i64 z1, .string z2, .slice A3 z3.length c3]
 have HB := hid ((Below.refl w.heap.size w).alloc nr (.cells #[.int .i64 z0, .int .i64 z1, .string z2, .slice A3 z3.length c3] 44))
 go_enter Tryz.func60, Tryz.ntmps60
 go_upto_region 1 with fail
 generalize w.alloc (.cells #[.int .i64 z0, .int .i64 z1, .string z2, .slice A3 z3.length c3] 44) = X at *
 have k3 := bN.cell 3
 go_wp2_with fail
 go_loopw [5] (fun iv wr => ∃ k : Nat, k ≤ z3.length ∧ iv = .int .i64 k ∧ wr = X ∧ dclB (z3.take k) s = false) (fun iv _ => z3.length - (intOf iv).toNat)
 case atStart => exact ⟨0, Nat.zero_le _, rfl, rfl, by rw [List.take_zero]; rfl⟩
 case round =>
  obtain ⟨k, hk, rfl, rfl, hno⟩ := hrel
  have HNO := hid hno
  clear hno
  by_cases hlt : k < z3.length
  ·obtain ⟨y, hy⟩ : ∃ y, z3[k]? = some y := ⟨_, List.getElem?_eq_getElem hlt⟩
   obtain ⟨by_, offy, Ey, hbly, hcc⟩ := RdC.at_ FNode.len R3.out hy
   subst Ey
   have HY := hid hy
   have hlt2 : (k : Int) < (z3.length : Int) := qaa
   have hk0 : (0 : Int) ≤ (k : Int) := qaa
   obtain ⟨y0, y1, y2, y3⟩ := y
   obtain ⟨Dy, dy, cy_0, cy_1, cy_2, cy_3, -⟩ := opN HB.out (Nat.lt_of_lt_of_le hbly hB0) hcc (offy + k * 4) (offy + k * 4 + 1) (offy + k * 4 + 2) (offy + k * 4 + 3) qaa
   have HN := hid (show dclB (z3.take (k + 1)) s = (dclB (z3.take k) s || (y0 == 55 && (y2.toList == s.toList))) from dcl_take HY.out s)
   clear hcc hy
   by_cases h55 : y0 = 55
   ·subst h55
    cases ht : (y2.toList == s.toList) with
    | true =>
     have HD := hid (dcl_stop HY.out (s := s) (show ((55 : Int) == 55 && (y2.toList == s.toList)) = true from by rw [ht]; rfl))
     go_wp2_with fail
     go_ret
     exact ⟨by rw [HD.out]; rfl, HB.out⟩
    | false =>
     rw [ht] at HN
     go_wp2_with fail
     go_roundw
     case rel => exact ⟨k + 1, by omega, by go_num, by trivial, by rw [HN.out, HNO.out]; rfl⟩
     case measure => simp [intOf]; omega
   ·have h5 : (y0 == 55) = false := by rw [beq_eq_false_iff_ne]; exact h55
    go_wp2_with fail
    go_roundw
    case rel => exact ⟨k + 1, by omega, by go_num, by trivial, by rw [HN.out, HNO.out, h5]; rfl⟩
    case measure => simp [intOf]; omega
  ·obtain rfl : k = z3.length := qaa
   have HD := hid (show dclB z3 s = false from by have h := HNO.out; rw [List.take_length] at h; exact h)
   go_wp2_with fail
   go_ret
   exact ⟨by rw [HD.out]; rfl, HB.out⟩
theorem find_any (l : List FClass) (s : ByteArray) (A : Option Addr) (c : Nat) (w X : World) {B : Nat} (hB0 : B ≤ w.heap.size) (hl : l.length ≤ 1000000000) (hr : RdC w B (.s 56 4 l.length (FClass.flat l)) (.slice A l.length c)) (hb : Below w.heap.size w X) :
  Calls Tryz.prog 36 #[.slice A l.length c, .string s] X fun e w' => e = .returned (.int .i64 (fidx FClass.nm l s)) ∧ Below X.heap.size X w' ∧ Below w.heap.size w w' :=
 (FindClass_spec l s _ X hl (B := B) (Nat.le_trans hB0 hb.size) (hr.below hb hB0)).mono fun e w' h => ⟨h.1, h.2, hb.trans (h.2.mono hb.size)⟩
theorem fidx_out {α : Type} {nm : α → ByteArray} {l : List α} {s : ByteArray} (h : fidx nm l s = -1) {j : Nat} {x : α} (hx : l[j]? = some x) : ((nm x).toList == s.toList) = false := by
 have := List.findIdx?_eq_none_iff.1 (fidx_none h) x (List.mem_of_getElem? hx)
 simpa using this
theorem fidx_lo {α : Type} {nm : α → ByteArray} {l : List α} {s : ByteArray} {i : Nat} (h : fidx nm l s = i) {j : Nat} (hj : j < i) {x : α} (hx : l[j]? = some x) : ((nm x).toList == s.toList) = false := by
 obtain ⟨h1, h2, h3⟩ := List.findIdx?_eq_some_iff_getElem.1 (fidx_some h)
 have := h3 j hj
 obtain ⟨h4, h5⟩ := List.getElem?_eq_some_iff.1 hx
 rw [h5] at this
 simpa using this
theorem fidx_hitS {α : Type} {nm : α → ByteArray} {l : List α} {s : ByteArray} {i : Nat} (h : fidx nm l s = i) {x : α} (hx : l[i]? = some x) : ((nm x).toList == s.toList) = true := by
 obtain ⟨h1, h2, h3⟩ := List.findIdx?_eq_some_iff_getElem.1 (fidx_some h)
 obtain ⟨h4, h5⟩ := List.getElem?_eq_some_iff.1 hx
 rw [h5] at h2
 simpa using h2
theorem grown_new {a b : World} {r : Option Nat} (h : a.grownBy b r) {p : Addr} (hp : a.heap.size ≤ p.block) (u : Value) : a.grownBy (b.setCell p u) r :=
 ⟨h.os, h.tape, h.output, by simpa [World.setCell] using h.size, fun k hk hne => (Below.heap_setCell _ _ _ _ qaa).trans (h.block k hk hne)⟩
/-- What a put leaves: the row where it lay, or in new memory; nothing else of what was there is touched. -/
structure Put (w w' : World) (u v : Value) : Prop where
 gr : w.grownBy w' u.ownBlock
 at_ : v.ownBlock = u.ownBlock ∨ ∃ g, v.ownBlock = some g ∧ w.heap.size ≤ g
theorem l19Put_new (lo : Nat) (nm pa : ByteArray) (fs : List FField) (AO : Option Addr) (nO cO : Nat) (A : Option Addr) (c : Nat) (f0 f1 : ByteArray) (f2 : Bool) (f3 f4 : Int) (f5 : ByteArray) (f6 : Int) (w : World) (hlo : lo ≤ w.heap.size) (h : RoF w lo (.slice A fs.length c) fs) (hn : fs.length ≤ 1000000000) (hi : fidx FField.nm fs f0 = -1) :
  Calls Tryz.prog 59 #[.agg #[.string nm, .string pa, .slice A fs.length c, .slice AO nO cO], .agg #[.string f0, .string f1, .bool f2, .int .i64 f3, .int .i64 f4, .string f5, .int .i64 f6, .slice none 0 0]] w fun e w' => ∃ v, e = .returned (.tuple #[.agg #[.string nm, .string pa, v, .slice AO nO cO], .bool true]) ∧ RoF w' lo v (fs ++ [(⟨f0, f1, f2, ⟨f3, f4, f5, f6, []⟩⟩ : FField)]) ∧ Put w w' (.slice A fs.length c) v := by
 have H := hid h
 clear h
 have bC := ((Blk.new w 56 #[.string nm, .string pa, .slice A fs.length c, .slice AO nO cO]).alloc (.cells #[.string f0, .string f1, .bool f2, .int .i64 f3, .int .i64 f4, .string f5, .int .i64 f6, .slice none 0 0] 79)).alloc (.cells #[.string ⟨#[]⟩, .string ⟨#[]⟩, .slice none 0 0, .slice none 0 0] 56)
 have bF := (Blk.new' (w.alloc (.cells #[.string nm, .string pa, .slice A fs.length c, .slice AO nO cO] 56)) 79 #[.string f0, .string f1, .bool f2, .int .i64 f3, .int .i64 f4, .string f5, .int .i64 f6, .slice none 0 0] (w.heap.size + 1) qag).alloc (.cells #[.string ⟨#[]⟩, .string ⟨#[]⟩, .slice none 0 0, .slice none 0 0] 56)
 have bR := Blk.new' ((w.alloc (.cells #[.string nm, .string pa, .slice A fs.length c, .slice AO nO cO] 56)).alloc (.cells #[.string f0, .string f1, .bool f2, .int .i64 f3, .int .i64 f4, .string f5, .int .i64 f6, .slice none 0 0] 79)) 56 #[.string ⟨#[]⟩, .string ⟨#[]⟩, .slice none 0 0, .slice none 0 0] (w.heap.size + 1 + 1) qag
 have HB := hid ((((Below.refl w.heap.size w).alloc nr (.cells #[.string nm, .string pa, .slice A fs.length c, .slice AO nO cO] 56)).alloc qag (.cells #[.string f0, .string f1, .bool f2, .int .i64 f3, .int .i64 f4, .string f5, .int .i64 f6, .slice none 0 0] 79)).alloc qak (.cells #[.string ⟨#[]⟩, .string ⟨#[]⟩, .slice none 0 0, .slice none 0 0] 56))
 go_enter Tryz.func59, Tryz.ntmps59
 go_upto_region 1 with fail
 generalize ((w.alloc (.cells #[.string nm, .string pa, .slice A fs.length c, .slice AO nO cO] 56)).alloc (.cells #[.string f0, .string f1, .bool f2, .int .i64 f3, .int .i64 f4, .string f5, .int .i64 f6, .slice none 0 0] 79)).alloc (.cells #[.string ⟨#[]⟩, .string ⟨#[]⟩, .slice none 0 0, .slice none 0 0] 56) = X at *
 have hXs := bR.lt
 go_wp2_with fail
 go_loopw [6] (fun iv wr => ∃ k : Nat, k ≤ fs.length ∧ iv = .int .i64 k ∧ Below X.heap.size X wr) (fun iv _ => fs.length - (intOf iv).toNat)
 case atStart => exact zz132
 case round =>
  obtain ⟨k, hk, rfl, hb⟩ := hrel
  obtain ⟨wo, rfl⟩ : ∃ Y : World, Y = wr := ⟨_, rfl⟩
  have cC := bC.below hb nr
  have cF := bF.below hb nr
  have HBW := hid (HB.out.trans (hb.mono HB.out.size))
  have HBX := hid hb
  have HRo := hid (own_below H.out HBW.out nr : RoF wo lo _ fs)
  have cC0 := cC.cell 0; have cC1 := cC.cell 1; have cC2 := cC.cell 2; have cC3 := cC.cell 3; have cCl := cC.lt; have cCf := fun i => cC.frozen i
  have cF0 := cF.cell 0; have cF1 := cF.cell 1; have cF2 := cF.cell 2; have cF3 := cF.cell 3; have cF4 := cF.cell 4; have cF5 := cF.cell 5; have cF6 := cF.cell 6; have cF7 := cF.cell 7; have cFl := cF.lt; have cFf := fun i => cF.frozen i
  clear hb
  have hk0 : (0 : Int) ≤ (k : Int) := qaa
  by_cases hlt : k < fs.length
  ·obtain ⟨g, c', e'⟩ := H.out.some qaa
   cases e'
   obtain ⟨x, hx⟩ : ∃ x, fs[k]? = some x := ⟨_, List.getElem?_eq_getElem qaa⟩
   have hno := fidx_out hi hx
   exact zz194
  ·obtain rfl : k = fs.length := qaa
   have OW := hid (World.ownsRow.alloc HRo.out (.cells #[.string f0, .string f1, .bool f2, .int .i64 f3, .int .i64 f4, .string f5, .int .i64 f6, .slice none 0 0] 79))
   have ULt := hid (fun g e => (World.ownsRow.lt H.out g e).2)
   have RN := hid (rd_new wo 79 8 [.string f0, .string f1, .bool f2, .int .i64 f3, .int .i64 f4, .string f5, .int .i64 f6, .slice none 0 0] rfl)
   have ON := hid (show ∀ u ∈ ([.string f0, .string f1, .bool f2, .int .i64 f3, .int .i64 f4, .string f5, .int .i64 f6, .slice none 0 0] : List Value), u.oneCell' = true from by intro u hu; simp only [List.mem_cons, List.not_mem_nil, or_false] at hu; rcases hu with rfl | rfl | rfl | rfl | rfl | rfl | rfl | rfl <;> rfl)
   have hw5 : lo ≤ (wo.alloc (.cells #[.string f0, .string f1, .bool f2, .int .i64 f3, .int .i64 f4, .string f5, .int .i64 f6, .slice none 0 0] 79)).heap.size := Nat.le_trans hlo (Nat.le_trans HBW.out.size qag)
   have dC := cC.alloc (.cells #[.string f0, .string f1, .bool f2, .int .i64 f3, .int .i64 f4, .string f5, .int .i64 f6, .slice none 0 0] 79)
   have dR := (bR.below HBX.out nr).alloc (.cells #[.string f0, .string f1, .bool f2, .int .i64 f3, .int .i64 f4, .string f5, .int .i64 f6, .slice none 0 0] 79)
   have hsX := HBX.out.size
   have GR := hid (grown_below (HBW.out.alloc HBW.out.size (.cells #[.string f0, .string f1, .bool f2, .int .i64 f3, .int .i64 f4, .string f5, .int .i64 f6, .slice none 0 0] 79)) : w.grownBy _ (.slice A fs.length c : Value).ownBlock)
   go_upto_region 9 with (at_builtin; go_must (refine wpList_append_rd _ rfl (.tmp 41) (.tmp 43) _ rfl lo _ _ _ 104 Tryz.underlying53 infoFieldL rfl qaa (.slice A fs.length c) fs.length _ rfl OW.out (wo.heap.size + 1) _ 1 1 [.string f0, .string f1, .bool f2, .int .i64 f3, .int .i64 f4, .string f5, .int .i64 f6, .slice none 0 0] rfl RN.out ON.out qao qaa hw5 ?_); intro v7 w7 own7 hg7 hat7; obtain ⟨A7, c7, rfl⟩ := own_form own7; have eC := (hg7.block _ dC.lt (fun e => by have := ULt.out _ e.symm; omega)).trans dC; have eR := (hg7.block _ dR.lt (fun e => by have := ULt.out _ e.symm; omega)).trans dR; have eC_ : Blk w7 w.heap.size 56 #[.string nm, .string pa, .slice A fs.length c, .slice AO nO cO] := eC; have eR_ : Blk w7 (w.heap.size + 1 + 1) 56 #[.string ⟨#[]⟩, .string ⟨#[]⟩, .slice none 0 0, .slice none 0 0] := eR; have OWN7 := hid own7; have HG7 := hid hg7; have HAT7 := hid hat7; have eC_0 := eC_.cell 0; have eC_1 := eC_.cell 1; have eC_2 := eC_.cell 2; have eC_3 := eC_.cell 3; have eC_l := eC_.lt; have eC_f := fun i => eC_.frozen i; have eR_0 := eR_.cell 0; have eR_1 := eR_.cell 1; have eR_2 := eR_.cell 2; have eR_3 := eR_.cell 3; have eR_l := eR_.lt; have eR_f := fun i => eR_.frozen i; clear own7 hg7 hat7)
   go_wp2_with fail
   refine bodyPost_ret (v := .tuple #[.agg #[.string nm, .string pa, .slice A7 (fs.length + 1) c7, .slice AO nO cO], .bool true]) (by simp [results, Tryz.results59, go_sem, eR_0, eR_1, eR_2, eR_3, eR_l, eR_f, eC_0, eC_1, eC_2, eC_3, eC_l, eC_f]) rfl ⟨_, rfl, ?_, ?_, ?_⟩
   ·have key : ∀ b, w.heap.size ≤ b → b ≤ w.heap.size + 1 + 1 → (Value.slice A7 (fs.length + 1) c7).ownBlock ≠ some b := fun b h1 h2 e => by
     exact zz136
    repeat (refine own_setCell ?_ (key _ qbl qbl) _)
    exact Ro.push OWN7.out
   ·repeat (refine grown_new ?_ qbl _)
    exact grown_trans GR.out HG7.out
   ·rcases HAT7.out with e2 | e2
    ·exact .inl e2
    ·exact .inr ⟨_, e2, by have := HBW.out.size; simp; omega⟩
theorem l19Put_at (lo : Nat) (nm pa : ByteArray) (fs : List FField) (AO : Option Addr) (nO cO : Nat) (A : Option Addr) (c : Nat) (f0 f1 : ByteArray) (f2 : Bool) (f3 f4 : Int) (f5 : ByteArray) (f6 : Int) (w : World) (hlo : lo ≤ w.heap.size) (h : RoF w lo (.slice A fs.length c) fs) (hn : fs.length ≤ 1000000000) (i : Nat) (x : FField) (hi : fidx FField.nm fs f0 = (i : Int)) (hxi : fs[i]? = some x) :
  Calls Tryz.prog 59 #[.agg #[.string nm, .string pa, .slice A fs.length c, .slice AO nO cO], .agg #[.string f0, .string f1, .bool f2, .int .i64 f3, .int .i64 f4, .string f5, .int .i64 f6, .slice none 0 0]] w fun e w' => ∃ v, e = .returned (.tuple #[.agg #[.string nm, .string pa, v, .slice AO nO cO], .bool (!(x.ow.toList == nm.toList))]) ∧ RoF w' lo v (fs.set i (⟨f0, f1, f2, ⟨f3, f4, f5, f6, []⟩⟩ : FField)) ∧ Put w w' (.slice A fs.length c) v := by
 have hil : i < fs.length := (List.getElem?_eq_some_iff.1 hxi).1
 obtain ⟨g, c', e'⟩ := h.some qaa
 cases e'
 have H := hid h
 clear h
 have bC := ((Blk.new w 56 #[.string nm, .string pa, .slice (some ⟨g, 0, none⟩) fs.length c, .slice AO nO cO]).alloc (.cells #[.string f0, .string f1, .bool f2, .int .i64 f3, .int .i64 f4, .string f5, .int .i64 f6, .slice none 0 0] 79)).alloc (.cells #[.string ⟨#[]⟩, .string ⟨#[]⟩, .slice none 0 0, .slice none 0 0] 56)
 have bF := (Blk.new' (w.alloc (.cells #[.string nm, .string pa, .slice (some ⟨g, 0, none⟩) fs.length c, .slice AO nO cO] 56)) 79 #[.string f0, .string f1, .bool f2, .int .i64 f3, .int .i64 f4, .string f5, .int .i64 f6, .slice none 0 0] (w.heap.size + 1) qag).alloc (.cells #[.string ⟨#[]⟩, .string ⟨#[]⟩, .slice none 0 0, .slice none 0 0] 56)
 have bR := Blk.new' ((w.alloc (.cells #[.string nm, .string pa, .slice (some ⟨g, 0, none⟩) fs.length c, .slice AO nO cO] 56)).alloc (.cells #[.string f0, .string f1, .bool f2, .int .i64 f3, .int .i64 f4, .string f5, .int .i64 f6, .slice none 0 0] 79)) 56 #[.string ⟨#[]⟩, .string ⟨#[]⟩, .slice none 0 0, .slice none 0 0] (w.heap.size + 1 + 1) qag
 have HB := hid ((((Below.refl w.heap.size w).alloc nr (.cells #[.string nm, .string pa, .slice (some ⟨g, 0, none⟩) fs.length c, .slice AO nO cO] 56)).alloc qag (.cells #[.string f0, .string f1, .bool f2, .int .i64 f3, .int .i64 f4, .string f5, .int .i64 f6, .slice none 0 0] 79)).alloc qak (.cells #[.string ⟨#[]⟩, .string ⟨#[]⟩, .slice none 0 0, .slice none 0 0] 56))
 go_enter Tryz.func59, Tryz.ntmps59
 go_upto_region 1 with fail
 generalize ((w.alloc (.cells #[.string nm, .string pa, .slice (some ⟨g, 0, none⟩) fs.length c, .slice AO nO cO] 56)).alloc (.cells #[.string f0, .string f1, .bool f2, .int .i64 f3, .int .i64 f4, .string f5, .int .i64 f6, .slice none 0 0] 79)).alloc (.cells #[.string ⟨#[]⟩, .string ⟨#[]⟩, .slice none 0 0, .slice none 0 0] 56) = X at *
 have hXs := bR.lt
 go_wp2_with fail
 go_loopw [6] (fun iv wr => ∃ k : Nat, k ≤ i ∧ iv = .int .i64 k ∧ Below X.heap.size X wr) (fun iv _ => fs.length - (intOf iv).toNat)
 case atStart => exact zz132
 case round =>
  obtain ⟨k, hk, rfl, hb⟩ := hrel
  obtain ⟨wo, rfl⟩ : ∃ Y : World, Y = wr := ⟨_, rfl⟩
  have cC := bC.below hb nr
  have cF := bF.below hb nr
  have HBW := hid (HB.out.trans (hb.mono HB.out.size))
  have HBX := hid hb
  have HRo := hid (own_below H.out HBW.out nr : RoF wo lo _ fs)
  have cC0 := cC.cell 0; have cC1 := cC.cell 1; have cC2 := cC.cell 2; have cC3 := cC.cell 3; have cCl := cC.lt; have cCf := fun i => cC.frozen i
  have cF0 := cF.cell 0; have cF1 := cF.cell 1; have cF2 := cF.cell 2; have cF3 := cF.cell 3; have cF4 := cF.cell 4; have cF5 := cF.cell 5; have cF6 := cF.cell 6; have cF7 := cF.cell 7; have cFl := cF.lt; have cFf := fun i => cF.frozen i
  clear hb
  have hk0 : (0 : Int) ≤ (k : Int) := qaa
  by_cases hlt : k < i
  ·obtain ⟨x, hx⟩ : ∃ x, fs[k]? = some x := ⟨_, List.getElem?_eq_getElem qaa⟩
   have hno := fidx_lo hi hlt hx
   exact zz194
  ·obtain rfl : k = i := qaa
   have hit := fidx_hitS hi hxi
   have HXI := hid hxi
   obtain ⟨x0, x1, x2, ⟨x3, x4, x5, x6, x7⟩⟩ := x
   have hit2 : (x0.toList == f0.toList) = true := hit
   have hlt2 : (k : Int) < (fs.length : Int) := qaa
   have r0 : wo.cell? ⟨g, k * 8, none⟩ = some (.string x0) := Ro.cell FField.vlen HRo.out HXI.out (j := 0) rfl
   clear hxi hit
   go_upto_region 4 with fail
   go_quiet (fail)
   go_upto_region 5 with fail
   have BQ := hid (below_drewN HBX.out nq)
   have HRq := hid (own_below (own_below H.out HB.out nr) BQ.out nr : RoF (wo.drewN nq) lo _ fs)
   generalize wo.drewN nq = Z1 at *
   clear cC cC0 cC1 cC2 cC3 cCl cCf cF cF0 cF1 cF2 cF3 cF4 cF5 cF6 cF7 cFl cFf r0
   have dC := bC.below BQ.out nr
   have dC0 := dC.cell 0; have dC1 := dC.cell 1; have dC2 := dC.cell 2; have dC3 := dC.cell 3; have dCl := dC.lt; have dCf := fun i => dC.frozen i
   have r1 : Z1.cell? ⟨g, k * 8 + 1, none⟩ = some (.string x1) := Ro.cell FField.vlen HRq.out HXI.out (j := 1) rfl
   go_quiet (fail)
   go_upto_region 6 with fail
   have BZ := hid (below_drewN BQ.out nq)
   have HRz := hid (own_below (own_below H.out HB.out nr) BZ.out nr : RoF (Z1.drewN nq) lo _ fs)
   generalize Z1.drewN nq = Z2 at *
   clear dC dC0 dC1 dC2 dC3 dCl dCf r1
   have hsz := BZ.out.size
   have eC := bC.below BZ.out nr
   have eF := bF.below BZ.out nr
   have eR := bR.below BZ.out nr
   have o_f := fun j => Ro.frozen HRz.out j
   have g_l := (World.ownsRow.lt H.out g rfl).2
   have r0 : Z2.cell? ⟨g, k * 8, none⟩ = some (.string x0) := Ro.cell FField.vlen HRz.out HXI.out (j := 0) rfl; have r1 : Z2.cell? ⟨g, k * 8 + 1, none⟩ = some (.string x1) := Ro.cell FField.vlen HRz.out HXI.out (j := 1) rfl; have r2 : Z2.cell? ⟨g, k * 8 + 2, none⟩ = some (.bool x2) := Ro.cell FField.vlen HRz.out HXI.out (j := 2) rfl; have r3 : Z2.cell? ⟨g, k * 8 + 3, none⟩ = some (.int .i64 x3) := Ro.cell FField.vlen HRz.out HXI.out (j := 3) rfl; have r4 : Z2.cell? ⟨g, k * 8 + 4, none⟩ = some (.int .i64 x4) := Ro.cell FField.vlen HRz.out HXI.out (j := 4) rfl; have r5 : Z2.cell? ⟨g, k * 8 + 5, none⟩ = some (.string x5) := Ro.cell FField.vlen HRz.out HXI.out (j := 5) rfl; have r6 : Z2.cell? ⟨g, k * 8 + 6, none⟩ = some (.int .i64 x6) := Ro.cell FField.vlen HRz.out HXI.out (j := 6) rfl; have r7 : Z2.cell? ⟨g, k * 8 + 7, none⟩ = some (.slice none 0 0) := Ro.cell FField.vlen HRz.out HXI.out (j := 7) rfl
   have eC0 := eC.cell 0; have eC1 := eC.cell 1; have eC2 := eC.cell 2; have eC3 := eC.cell 3; have eCl := eC.lt; have eCf := fun i => eC.frozen i
   have eF0 := eF.cell 0; have eF1 := eF.cell 1; have eF2 := eF.cell 2; have eF3 := eF.cell 3; have eF4 := eF.cell 4; have eF5 := eF.cell 5; have eF6 := eF.cell 6; have eF7 := eF.cell 7; have eFl := eF.lt; have eFf := fun i => eF.frozen i
   have eR0 := eR.cell 0; have eR1 := eR.cell 1; have eR2 := eR.cell 2; have eR3 := eR.cell 3; have eRl := eR.lt; have eRf := fun i => eR.frozen i
   go_wp2_with fail
   refine bodyPost_ret (v := .tuple #[.agg #[.string nm, .string pa, .slice (some ⟨g, 0, none⟩) fs.length c, .slice AO nO cO], .bool (!(x1.toList == nm.toList))]) (by simp [results, Tryz.results59, go_sem, eC0, eC1, eC2, eC3, eCl, eCf, eR0, eR1, eR2, eR3, eRl, eRf]) rfl ⟨_, rfl, ?_, ?_, .inl rfl⟩
   ·have key : ∀ b, w.heap.size ≤ b → (.slice (some ⟨g, 0, none⟩) fs.length c : Value).ownBlock ≠ some b := fun b h1 e => by
     have e2 : g = b := Option.some.inj e
     omega
    iterate 4 (refine own_setCell ?_ (key _ qbl) _)
    exact (Ro.put FField.vlen HRz.out HXI.out (⟨f0, f1, f2, ⟨f3, f4, f5, f6, []⟩⟩ : FField)).1
   ·iterate 4 (refine grown_new ?_ qbl _)
    exact grown_trans (grown_below (HB.out.trans (BZ.out.mono HB.out.size))) (Ro.put FField.vlen HRz.out HXI.out (⟨f0, f1, f2, ⟨f3, f4, f5, f6, []⟩⟩ : FField)).2
theorem l19Give_new (lo : Nat) (nm pa : ByteArray) (ms : List FMethod) (AO : Option Addr) (nO cO : Nat) (A : Option Addr) (c : Nat) (f0 f1 f2 : ByteArray) (f3 f4 : Bool) (w : World) (hlo : lo ≤ w.heap.size) (h : RoM w lo (.slice A ms.length c) ms) (hn : ms.length ≤ 1000000000) (hi : fidx FMethod.nm ms f0 = -1) :
  Calls Tryz.prog 61 #[.agg #[.string nm, .string pa, .slice AO nO cO, .slice A ms.length c], .agg #[.string f0, .string f1, .string f2, .bool f3, .bool f4]] w fun e w' => ∃ v, e = .returned (.tuple #[.agg #[.string nm, .string pa, .slice AO nO cO, v], .bool true]) ∧ RoM w' lo v (ms ++ [(⟨f0, f1, f2, f3, f4⟩ : FMethod)]) ∧ Put w w' (.slice A ms.length c) v := by
 have H := hid h
 clear h
 have bC := ((Blk.new w 56 #[.string nm, .string pa, .slice AO nO cO, .slice A ms.length c]).alloc (.cells #[.string f0, .string f1, .string f2, .bool f3, .bool f4] 87)).alloc (.cells #[.string ⟨#[]⟩, .string ⟨#[]⟩, .slice none 0 0, .slice none 0 0] 56)
 have bF := (Blk.new' (w.alloc (.cells #[.string nm, .string pa, .slice AO nO cO, .slice A ms.length c] 56)) 87 #[.string f0, .string f1, .string f2, .bool f3, .bool f4] (w.heap.size + 1) qag).alloc (.cells #[.string ⟨#[]⟩, .string ⟨#[]⟩, .slice none 0 0, .slice none 0 0] 56)
 have bR := Blk.new' ((w.alloc (.cells #[.string nm, .string pa, .slice AO nO cO, .slice A ms.length c] 56)).alloc (.cells #[.string f0, .string f1, .string f2, .bool f3, .bool f4] 87)) 56 #[.string ⟨#[]⟩, .string ⟨#[]⟩, .slice none 0 0, .slice none 0 0] (w.heap.size + 1 + 1) qag
 have HB := hid ((((Below.refl w.heap.size w).alloc nr (.cells #[.string nm, .string pa, .slice AO nO cO, .slice A ms.length c] 56)).alloc qag (.cells #[.string f0, .string f1, .string f2, .bool f3, .bool f4] 87)).alloc qak (.cells #[.string ⟨#[]⟩, .string ⟨#[]⟩, .slice none 0 0, .slice none 0 0] 56))
 go_enter Tryz.func61, Tryz.ntmps61
 go_upto_region 1 with fail
 generalize ((w.alloc (.cells #[.string nm, .string pa, .slice AO nO cO, .slice A ms.length c] 56)).alloc (.cells #[.string f0, .string f1, .string f2, .bool f3, .bool f4] 87)).alloc (.cells #[.string ⟨#[]⟩, .string ⟨#[]⟩, .slice none 0 0, .slice none 0 0] 56) = X at *
 have hXs := bR.lt
 go_wp2_with fail
 go_loopw [6] (fun iv wr => ∃ k : Nat, k ≤ ms.length ∧ iv = .int .i64 k ∧ Below X.heap.size X wr) (fun iv _ => ms.length - (intOf iv).toNat)
 case atStart => exact zz132
 case round =>
  obtain ⟨k, hk, rfl, hb⟩ := hrel
  obtain ⟨wo, rfl⟩ : ∃ Y : World, Y = wr := ⟨_, rfl⟩
  have cC := bC.below hb nr
  have cF := bF.below hb nr
  have HBW := hid (HB.out.trans (hb.mono HB.out.size))
  have HBX := hid hb
  have HRo := hid (own_below H.out HBW.out nr : RoM wo lo _ ms)
  have cC0 := cC.cell 0; have cC1 := cC.cell 1; have cC2 := cC.cell 2; have cC3 := cC.cell 3; have cCl := cC.lt; have cCf := fun i => cC.frozen i
  have cF0 := cF.cell 0; have cF1 := cF.cell 1; have cF2 := cF.cell 2; have cF3 := cF.cell 3; have cF4 := cF.cell 4; have cFl := cF.lt; have cFf := fun i => cF.frozen i
  clear hb
  have hk0 : (0 : Int) ≤ (k : Int) := qaa
  by_cases hlt : k < ms.length
  ·obtain ⟨g, c', e'⟩ := H.out.some qaa
   cases e'
   obtain ⟨x, hx⟩ : ∃ x, ms[k]? = some x := ⟨_, List.getElem?_eq_getElem qaa⟩
   have hno := fidx_out hi hx
   exact zz195
  ·obtain rfl : k = ms.length := qaa
   have OW := hid (World.ownsRow.alloc HRo.out (.cells #[.string f0, .string f1, .string f2, .bool f3, .bool f4] 87))
   have ULt := hid (fun g e => (World.ownsRow.lt H.out g e).2)
   have RN := hid (rd_new wo 87 5 [.string f0, .string f1, .string f2, .bool f3, .bool f4] rfl)
   have ON := hid (show ∀ u ∈ ([.string f0, .string f1, .string f2, .bool f3, .bool f4] : List Value), u.oneCell' = true from by intro u hu; simp only [List.mem_cons, List.not_mem_nil, or_false] at hu; rcases hu with rfl | rfl | rfl | rfl | rfl <;> rfl)
   have hw5 : lo ≤ (wo.alloc (.cells #[.string f0, .string f1, .string f2, .bool f3, .bool f4] 87)).heap.size := Nat.le_trans hlo (Nat.le_trans HBW.out.size qag)
   have dC := cC.alloc (.cells #[.string f0, .string f1, .string f2, .bool f3, .bool f4] 87)
   have dR := (bR.below HBX.out nr).alloc (.cells #[.string f0, .string f1, .string f2, .bool f3, .bool f4] 87)
   have hsX := HBX.out.size
   have GR := hid (grown_below (HBW.out.alloc HBW.out.size (.cells #[.string f0, .string f1, .string f2, .bool f3, .bool f4] 87)) : w.grownBy _ (.slice A ms.length c : Value).ownBlock)
   go_upto_region 9 with (at_builtin; go_must (refine wpList_append_rd _ rfl (.tmp 41) (.tmp 43) _ rfl lo _ _ _ 56 Tryz.underlying54 infoMethodL rfl qaa (.slice A ms.length c) ms.length _ rfl OW.out (wo.heap.size + 1) _ 1 1 [.string f0, .string f1, .string f2, .bool f3, .bool f4] rfl RN.out ON.out qao qaa hw5 ?_); intro v7 w7 own7 hg7 hat7; obtain ⟨A7, c7, rfl⟩ := own_form own7; have eC := (hg7.block _ dC.lt (fun e => by have := ULt.out _ e.symm; omega)).trans dC; have eR := (hg7.block _ dR.lt (fun e => by have := ULt.out _ e.symm; omega)).trans dR; have eC_ : Blk w7 w.heap.size 56 #[.string nm, .string pa, .slice AO nO cO, .slice A ms.length c] := eC; have eR_ : Blk w7 (w.heap.size + 1 + 1) 56 #[.string ⟨#[]⟩, .string ⟨#[]⟩, .slice none 0 0, .slice none 0 0] := eR; have OWN7 := hid own7; have HG7 := hid hg7; have HAT7 := hid hat7; have eC_0 := eC_.cell 0; have eC_1 := eC_.cell 1; have eC_2 := eC_.cell 2; have eC_3 := eC_.cell 3; have eC_l := eC_.lt; have eC_f := fun i => eC_.frozen i; have eR_0 := eR_.cell 0; have eR_1 := eR_.cell 1; have eR_2 := eR_.cell 2; have eR_3 := eR_.cell 3; have eR_l := eR_.lt; have eR_f := fun i => eR_.frozen i; clear own7 hg7 hat7)
   go_wp2_with fail
   refine bodyPost_ret (v := .tuple #[.agg #[.string nm, .string pa, .slice AO nO cO, .slice A7 (ms.length + 1) c7], .bool true]) (by simp [results, Tryz.results61, go_sem, eR_0, eR_1, eR_2, eR_3, eR_l, eR_f, eC_0, eC_1, eC_2, eC_3, eC_l, eC_f]) rfl ⟨_, rfl, ?_, ?_, ?_⟩
   ·have key : ∀ b, w.heap.size ≤ b → b ≤ w.heap.size + 1 + 1 → (Value.slice A7 (ms.length + 1) c7).ownBlock ≠ some b := fun b h1 h2 e => by
     exact zz136
    repeat (refine own_setCell ?_ (key _ qbl qbl) _)
    exact Ro.push OWN7.out
   ·repeat (refine grown_new ?_ qbl _)
    exact grown_trans GR.out HG7.out
   ·rcases HAT7.out with e2 | e2
    ·exact .inl e2
    ·exact .inr ⟨_, e2, by have := HBW.out.size; simp; omega⟩
theorem l19Give_at (lo : Nat) (nm pa : ByteArray) (ms : List FMethod) (AO : Option Addr) (nO cO : Nat) (A : Option Addr) (c : Nat) (f0 f1 f2 : ByteArray) (f3 f4 : Bool) (w : World) (hlo : lo ≤ w.heap.size) (h : RoM w lo (.slice A ms.length c) ms) (hn : ms.length ≤ 1000000000) (i : Nat) (x : FMethod) (hi : fidx FMethod.nm ms f0 = (i : Int)) (hxi : ms[i]? = some x) :
  Calls Tryz.prog 61 #[.agg #[.string nm, .string pa, .slice AO nO cO, .slice A ms.length c], .agg #[.string f0, .string f1, .string f2, .bool f3, .bool f4]] w fun e w' => ∃ v, e = .returned (.tuple #[.agg #[.string nm, .string pa, .slice AO nO cO, v], .bool (!(x.ow.toList == nm.toList))]) ∧ RoM w' lo v (ms.set i (⟨f0, f1, f2, f3, f4⟩ : FMethod)) ∧ Put w w' (.slice A ms.length c) v := by
 have hil : i < ms.length := (List.getElem?_eq_some_iff.1 hxi).1
 obtain ⟨g, c', e'⟩ := h.some qaa
 cases e'
 have H := hid h
 clear h
 have bC := ((Blk.new w 56 #[.string nm, .string pa, .slice AO nO cO, .slice (some ⟨g, 0, none⟩) ms.length c]).alloc (.cells #[.string f0, .string f1, .string f2, .bool f3, .bool f4] 87)).alloc (.cells #[.string ⟨#[]⟩, .string ⟨#[]⟩, .slice none 0 0, .slice none 0 0] 56)
 have bF := (Blk.new' (w.alloc (.cells #[.string nm, .string pa, .slice AO nO cO, .slice (some ⟨g, 0, none⟩) ms.length c] 56)) 87 #[.string f0, .string f1, .string f2, .bool f3, .bool f4] (w.heap.size + 1) qag).alloc (.cells #[.string ⟨#[]⟩, .string ⟨#[]⟩, .slice none 0 0, .slice none 0 0] 56)
 have bR := Blk.new' ((w.alloc (.cells #[.string nm, .string pa, .slice AO nO cO, .slice (some ⟨g, 0, none⟩) ms.length c] 56)).alloc (.cells #[.string f0, .string f1, .string f2, .bool f3, .bool f4] 87)) 56 #[.string ⟨#[]⟩, .string ⟨#[]⟩, .slice none 0 0, .slice none 0 0] (w.heap.size + 1 + 1) qag
 have HB := hid ((((Below.refl w.heap.size w).alloc nr (.cells #[.string nm, .string pa, .slice AO nO cO, .slice (some ⟨g, 0, none⟩) ms.length c] 56)).alloc qag (.cells #[.string f0, .string f1, .string f2, .bool f3, .bool f4] 87)).alloc qak (.cells #[.string ⟨#[]⟩, .string ⟨#[]⟩, .slice none 0 0, .slice none 0 0] 56))
 go_enter Tryz.func61, Tryz.ntmps61
 go_upto_region 1 with fail
 generalize ((w.alloc (.cells #[.string nm, .string pa, .slice AO nO cO, .slice (some ⟨g, 0, none⟩) ms.length c] 56)).alloc (.cells #[.string f0, .string f1, .string f2, .bool f3, .bool f4] 87)).alloc (.cells #[.string ⟨#[]⟩, .string ⟨#[]⟩, .slice none 0 0, .slice none 0 0] 56) = X at *
 have hXs := bR.lt
 go_wp2_with fail
 go_loopw [6] (fun iv wr => ∃ k : Nat, k ≤ i ∧ iv = .int .i64 k ∧ Below X.heap.size X wr) (fun iv _ => ms.length - (intOf iv).toNat)
 case atStart => exact zz132
 case round =>
  obtain ⟨k, hk, rfl, hb⟩ := hrel
  obtain ⟨wo, rfl⟩ : ∃ Y : World, Y = wr := ⟨_, rfl⟩
  have cC := bC.below hb nr
  have cF := bF.below hb nr
  have HBW := hid (HB.out.trans (hb.mono HB.out.size))
  have HBX := hid hb
  have HRo := hid (own_below H.out HBW.out nr : RoM wo lo _ ms)
  have cC0 := cC.cell 0; have cC1 := cC.cell 1; have cC2 := cC.cell 2; have cC3 := cC.cell 3; have cCl := cC.lt; have cCf := fun i => cC.frozen i
  have cF0 := cF.cell 0; have cF1 := cF.cell 1; have cF2 := cF.cell 2; have cF3 := cF.cell 3; have cF4 := cF.cell 4; have cFl := cF.lt; have cFf := fun i => cF.frozen i
  clear hb
  have hk0 : (0 : Int) ≤ (k : Int) := qaa
  by_cases hlt : k < i
  ·obtain ⟨x, hx⟩ : ∃ x, ms[k]? = some x := ⟨_, List.getElem?_eq_getElem qaa⟩
   have hno := fidx_lo hi hlt hx
   exact zz195
  ·obtain rfl : k = i := qaa
   have hit := fidx_hitS hi hxi
   have HXI := hid hxi
   obtain ⟨x0, x1, x2, x3, x4⟩ := x
   have hit2 : (x0.toList == f0.toList) = true := hit
   have hlt2 : (k : Int) < (ms.length : Int) := qaa
   have r0 : wo.cell? ⟨g, k * 5, none⟩ = some (.string x0) := Ro.cell FMethod.vlen HRo.out HXI.out (j := 0) rfl
   clear hxi hit
   go_upto_region 4 with fail
   go_quiet (fail)
   go_upto_region 5 with fail
   have BQ := hid (below_drewN HBX.out nq)
   have HRq := hid (own_below (own_below H.out HB.out nr) BQ.out nr : RoM (wo.drewN nq) lo _ ms)
   generalize wo.drewN nq = Z1 at *
   clear cC cC0 cC1 cC2 cC3 cCl cCf cF cF0 cF1 cF2 cF3 cF4 cFl cFf r0
   have dC := bC.below BQ.out nr
   have dC0 := dC.cell 0; have dC1 := dC.cell 1; have dC2 := dC.cell 2; have dC3 := dC.cell 3; have dCl := dC.lt; have dCf := fun i => dC.frozen i
   have r1 : Z1.cell? ⟨g, k * 5 + 1, none⟩ = some (.string x1) := Ro.cell FMethod.vlen HRq.out HXI.out (j := 1) rfl
   go_quiet (fail)
   go_upto_region 6 with fail
   have BZ := hid (below_drewN BQ.out nq)
   have HRz := hid (own_below (own_below H.out HB.out nr) BZ.out nr : RoM (Z1.drewN nq) lo _ ms)
   generalize Z1.drewN nq = Z2 at *
   clear dC dC0 dC1 dC2 dC3 dCl dCf r1
   have hsz := BZ.out.size
   have eC := bC.below BZ.out nr
   have eF := bF.below BZ.out nr
   have eR := bR.below BZ.out nr
   have o_f := fun j => Ro.frozen HRz.out j
   have g_l := (World.ownsRow.lt H.out g rfl).2
   have r0 : Z2.cell? ⟨g, k * 5, none⟩ = some (.string x0) := Ro.cell FMethod.vlen HRz.out HXI.out (j := 0) rfl; have r1 : Z2.cell? ⟨g, k * 5 + 1, none⟩ = some (.string x1) := Ro.cell FMethod.vlen HRz.out HXI.out (j := 1) rfl; have r2 : Z2.cell? ⟨g, k * 5 + 2, none⟩ = some (.string x2) := Ro.cell FMethod.vlen HRz.out HXI.out (j := 2) rfl; have r3 : Z2.cell? ⟨g, k * 5 + 3, none⟩ = some (.bool x3) := Ro.cell FMethod.vlen HRz.out HXI.out (j := 3) rfl; have r4 : Z2.cell? ⟨g, k * 5 + 4, none⟩ = some (.bool x4) := Ro.cell FMethod.vlen HRz.out HXI.out (j := 4) rfl
   have eC0 := eC.cell 0; have eC1 := eC.cell 1; have eC2 := eC.cell 2; have eC3 := eC.cell 3; have eCl := eC.lt; have eCf := fun i => eC.frozen i
   have eF0 := eF.cell 0; have eF1 := eF.cell 1; have eF2 := eF.cell 2; have eF3 := eF.cell 3; have eF4 := eF.cell 4; have eFl := eF.lt; have eFf := fun i => eF.frozen i
   have eR0 := eR.cell 0; have eR1 := eR.cell 1; have eR2 := eR.cell 2; have eR3 := eR.cell 3; have eRl := eR.lt; have eRf := fun i => eR.frozen i
   go_wp2_with fail
   refine bodyPost_ret (v := .tuple #[.agg #[.string nm, .string pa, .slice AO nO cO, .slice (some ⟨g, 0, none⟩) ms.length c], .bool (!(x1.toList == nm.toList))]) (by simp [results, Tryz.results61, go_sem, eC0, eC1, eC2, eC3, eCl, eCf, eR0, eR1, eR2, eR3, eRl, eRf]) rfl ⟨_, rfl, ?_, ?_, .inl rfl⟩
   ·have key : ∀ b, w.heap.size ≤ b → (.slice (some ⟨g, 0, none⟩) ms.length c : Value).ownBlock ≠ some b := fun b h1 e => by
     have e2 : g = b := Option.some.inj e
     omega
    iterate 4 (refine own_setCell ?_ (key _ qbl) _)
    exact (Ro.put FMethod.vlen HRz.out HXI.out (⟨f0, f1, f2, f3, f4⟩ : FMethod)).1
   ·iterate 4 (refine grown_new ?_ qbl _)
    exact grown_trans (grown_below (HB.out.trans (BZ.out.mono HB.out.size))) (Ro.put FMethod.vlen HRz.out HXI.out (⟨f0, f1, f2, f3, f4⟩ : FMethod)).2
theorem put_spec (lo : Nat) (nm pa : ByteArray) (fs : List FField) (u : Value) (AO : Option Addr) (nO cO : Nat) (f : FField) (w : World) (hlo : lo ≤ w.heap.size) (h : RoF w lo u fs) (hn : fs.length ≤ 1000000000) (hf : f.plain) :
  Calls Tryz.prog 59 #[.agg #[.string nm, .string pa, u, .slice AO nO cO], .agg f.vs.toArray] w fun e w' => ∃ v, e = .returned (.tuple #[.agg #[.string nm, .string pa, v, .slice AO nO cO], .bool (putF nm fs f).2]) ∧ RoF w' lo v (putF nm fs f).1 ∧ Put w w' u v := by
 obtain ⟨A, c, rfl⟩ := h.form
 obtain ⟨f0, f1, f2, ⟨f3, f4, f5, f6, f7⟩⟩ := f
 obtain rfl : f7 = [] := hf.2.2.2
 rcases fidx_lt FField.nm fs f0 with hi | ⟨i, x, hi, _, hx⟩
 ·rw [putF_no (nm := nm) (fs := fs) (f := ⟨f0, f1, f2, ⟨f3, f4, f5, f6, []⟩⟩) hi]
  exact l19Put_new lo nm pa fs AO nO cO A c f0 f1 f2 f3 f4 f5 f6 w hlo h hn hi
 ·rw [putF_at (nm := nm) (fs := fs) (f := ⟨f0, f1, f2, ⟨f3, f4, f5, f6, []⟩⟩) hi hx]
  exact l19Put_at lo nm pa fs AO nO cO A c f0 f1 f2 f3 f4 f5 f6 w hlo h hn i x hi hx
theorem give_spec (lo : Nat) (nm pa : ByteArray) (ms : List FMethod) (u : Value) (AO : Option Addr) (nO cO : Nat) (f : FMethod) (w : World) (hlo : lo ≤ w.heap.size) (h : RoM w lo u ms) (hn : ms.length ≤ 1000000000) :
  Calls Tryz.prog 61 #[.agg #[.string nm, .string pa, .slice AO nO cO, u], .agg f.vs.toArray] w fun e w' => ∃ v, e = .returned (.tuple #[.agg #[.string nm, .string pa, .slice AO nO cO, v], .bool (putM nm ms f).2]) ∧ RoM w' lo v (putM nm ms f).1 ∧ Put w w' u v := by
 obtain ⟨A, c, rfl⟩ := h.form
 obtain ⟨f0, f1, f2, f3, f4⟩ := f
 rcases fidx_lt FMethod.nm ms f0 with hi | ⟨i, x, hi, _, hx⟩
 ·rw [putM_no (nm := nm) (fs := ms) (f := ⟨f0, f1, f2, f3, f4⟩) hi]
  exact l19Give_new lo nm pa ms AO nO cO A c f0 f1 f2 f3 f4 w hlo h hn hi
 ·rw [putM_at (nm := nm) (fs := ms) (f := ⟨f0, f1, f2, f3, f4⟩) hi hx]
  exact l19Give_at lo nm pa ms AO nO cO A c f0 f1 f2 f3 f4 w hlo h hn i x hi hx
section
variable {w0 w w' W : World} {S : List Nat} {bc : Nat} {nm pa : ByteArray} {fs fs' : List FField} {ms ms' : List FMethod} {uF uM v : Value}
theorem Lk.ptF (h : Lk w0 w S bc nm pa fs ms uF uM) (ro : RoF w' w0.heap.size v fs') (p : Put w w' uF v) (hs : W.heap.size = w'.heap.size) (ho : W.os = w'.os ∧ W.tape = w'.tape ∧ W.output = w'.output) (hk : ∀ k, k ≠ bc → W.heap[k]? = w'.heap[k]?) (hb : Blk W bc 56 #[.string nm, .string pa, v, uM]) :
  Lk w0 W S bc nm pa fs' ms v uM ∧ ∀ s, s ∈ S → W.heap[s]? = w.heap[s]? := by
 have hbx := h.box.lt
 have hF := World.ownsRow.lt h.rf
 have hM := World.ownsRow.lt h.rm
 have hv : ∀ g, v.ownBlock = some g → uF.ownBlock = some g ∨ w.heap.size ≤ g := fun g e => by
  exact zz156
 have nb : v.ownBlock ≠ some bc := fun e => by rcases hv _ e with h1 | h1; exact h.nb.1 h1; omega
 have gM : RoM w' w0.heap.size uM ms := own_grown h.rm p.gr fun g e e2 => h.fm g e2 e
 have sz := p.gr.size
 refine ⟨⟨hb, own_keep ro fun g hg => hk g (fun e => nb (e ▸ hg)), own_keep gM fun g hg => hk g (fun e => h.nb.2 (e ▸ hg)), fun g e e2 => ?_, ?_, h.hbc, ⟨nb, h.nb.2⟩, fun s hs' => ?_⟩, fun s hs' => ?_⟩
 ·rcases hv _ e with h1 | h1
  ·exact h.fm g h1 e2
  ·have := (hM _ e2).2; omega
 ·have b1 := h.be.grown p.gr h.be.size fun k e => (hF k e).1
  exact zz140
 ·have h1 := h.sp s hs'
  refine ⟨by rw [hs]; omega, h1.2.1, fun e => ?_, h1.2.2.2⟩
  rcases hv _ e with h2 | h2
  ·exact h1.2.2.1 h2
  ·omega
 ·have h1 := h.sp s hs'
  rw [hk s h1.2.1]
  exact p.gr.block s h1.1 fun e => h1.2.2.1 e.symm
theorem Lk.ptM (h : Lk w0 w S bc nm pa fs ms uF uM) (ro : RoM w' w0.heap.size v ms') (p : Put w w' uM v) (hs : W.heap.size = w'.heap.size) (ho : W.os = w'.os ∧ W.tape = w'.tape ∧ W.output = w'.output) (hk : ∀ k, k ≠ bc → W.heap[k]? = w'.heap[k]?) (hb : Blk W bc 56 #[.string nm, .string pa, uF, v]) :
  Lk w0 W S bc nm pa fs ms' uF v ∧ ∀ s, s ∈ S → W.heap[s]? = w.heap[s]? := by
 have hbx := h.box.lt
 have hF := World.ownsRow.lt h.rf
 have hM := World.ownsRow.lt h.rm
 have hv : ∀ g, v.ownBlock = some g → uM.ownBlock = some g ∨ w.heap.size ≤ g := fun g e => by
  exact zz156
 have nb : v.ownBlock ≠ some bc := fun e => by rcases hv _ e with h1 | h1; exact h.nb.2 h1; omega
 have gM : RoF w' w0.heap.size uF fs := own_grown h.rf p.gr fun g e e2 => h.fm g e e2
 have sz := p.gr.size
 refine ⟨⟨hb, own_keep gM fun g hg => hk g (fun e => h.nb.1 (e ▸ hg)), own_keep ro fun g hg => hk g (fun e => nb (e ▸ hg)), fun g e e2 => ?_, ?_, h.hbc, ⟨h.nb.1, nb⟩, fun s hs' => ?_⟩, fun s hs' => ?_⟩
 ·rcases hv _ e2 with h1 | h1
  ·exact h.fm g e h1
  ·have := (hF _ e).2; omega
 ·have b1 := h.be.grown p.gr h.be.size fun k e => (hM k e).1
  exact zz140
 ·have h1 := h.sp s hs'
  refine ⟨by rw [hs]; omega, h1.2.1, h1.2.2.1, fun e => ?_⟩
  rcases hv _ e with h2 | h2
  ·exact h1.2.2.2 h2
  ·omega
 ·have h1 := h.sp s hs'
  rw [hk s h1.2.1]
  exact p.gr.block s h1.1 fun e => h1.2.2.2 e.symm
/-- The whole class is stored again. -/
theorem Lk.ptF4 (h : Lk w0 w S bc nm pa fs ms uF uM) (ro : RoF w' w0.heap.size v fs') (p : Put w w' uF v) :
  Lk w0 ((((w'.setCell ⟨bc, 0, none⟩ (.string nm)).setCell ⟨bc, 1, none⟩ (.string pa)).setCell ⟨bc, 2, none⟩ v).setCell ⟨bc, 3, none⟩ uM) S bc nm pa fs' ms v uM ∧ ∀ s, s ∈ S → ((((w'.setCell ⟨bc, 0, none⟩ (.string nm)).setCell ⟨bc, 1, none⟩ (.string pa)).setCell ⟨bc, 2, none⟩ v).setCell ⟨bc, 3, none⟩ uM).heap[s]? = w.heap[s]? := by
 have b := (p.gr.block bc h.box.lt fun e => h.nb.1 e.symm).trans h.box
 have b' : Blk w' bc 56 #[.string nm, .string pa, uF, uM] := b
 exact h.ptF ro p (by simp [World.setCell]) ⟨rfl, rfl, rfl⟩ (fun k hk => by rw [Below.heap_setCell _ _ _ _ (by exact hk), Below.heap_setCell _ _ _ _ (by exact hk), Below.heap_setCell _ _ _ _ (by exact hk), Below.heap_setCell _ _ _ _ (by exact hk)]) (by simpa using (((b'.set_ 0 (.string nm)).set_ 1 (.string pa)).set_ 2 v).set_ 3 uM)
theorem Lk.ptM4 (h : Lk w0 w S bc nm pa fs ms uF uM) (ro : RoM w' w0.heap.size v ms') (p : Put w w' uM v) :
  Lk w0 ((((w'.setCell ⟨bc, 0, none⟩ (.string nm)).setCell ⟨bc, 1, none⟩ (.string pa)).setCell ⟨bc, 2, none⟩ uF).setCell ⟨bc, 3, none⟩ v) S bc nm pa fs ms' uF v ∧ ∀ s, s ∈ S → ((((w'.setCell ⟨bc, 0, none⟩ (.string nm)).setCell ⟨bc, 1, none⟩ (.string pa)).setCell ⟨bc, 2, none⟩ uF).setCell ⟨bc, 3, none⟩ v).heap[s]? = w.heap[s]? := by
 have b := (p.gr.block bc h.box.lt fun e => h.nb.2 e.symm).trans h.box
 have b' : Blk w' bc 56 #[.string nm, .string pa, uF, uM] := b
 exact h.ptM ro p (by simp [World.setCell]) ⟨rfl, rfl, rfl⟩ (fun k hk => by rw [Below.heap_setCell _ _ _ _ (by exact hk), Below.heap_setCell _ _ _ _ (by exact hk), Below.heap_setCell _ _ _ _ (by exact hk), Below.heap_setCell _ _ _ _ (by exact hk)]) (by simpa using (((b'.set_ 0 (.string nm)).set_ 1 (.string pa)).set_ 2 uF).set_ 3 v)
theorem Lk.setF (h : Lk w0 w S bc nm pa fs ms uF uM) (ro : RoF w' w0.heap.size v fs') (p : Put w w' uF v) : Lk w0 (w'.setCell ⟨bc, 2, none⟩ v) S bc nm pa fs' ms v uM ∧ ∀ s, s ∈ S → (w'.setCell ⟨bc, 2, none⟩ v).heap[s]? = w.heap[s]? := by
 have b' : Blk w' bc 56 #[.string nm, .string pa, uF, uM] := (p.gr.block bc h.box.lt fun e => h.nb.1 e.symm).trans h.box
 exact h.ptF ro p (by simp [World.setCell]) ⟨rfl, rfl, rfl⟩ (fun k hk => by rw [Below.heap_setCell _ _ _ _ (by exact hk)]) (by simpa using b'.set_ 2 v)
theorem Lk.setM (h : Lk w0 w S bc nm pa fs ms uF uM) (ro : RoM w' w0.heap.size v ms') (p : Put w w' uM v) : Lk w0 (w'.setCell ⟨bc, 3, none⟩ v) S bc nm pa fs ms' uF v ∧ ∀ s, s ∈ S → (w'.setCell ⟨bc, 3, none⟩ v).heap[s]? = w.heap[s]? := by
 have b' : Blk w' bc 56 #[.string nm, .string pa, uF, uM] := (p.gr.block bc h.box.lt fun e => h.nb.2 e.symm).trans h.box
 exact h.ptM ro p (by simp [World.setCell]) ⟨rfl, rfl, rfl⟩ (fun k hk => by rw [Below.heap_setCell _ _ _ _ (by exact hk)]) (by simpa using b'.set_ 3 v)
end
/-- An append to a row that was just made. -/
theorem Put.made {X w7 : World} {u v7 : Value} {o : Obj} (hg : (X.alloc o).grownBy w7 (some X.heap.size)) (hat : v7.ownBlock = some X.heap.size ∨ v7.ownBlock = some (X.alloc o).heap.size) : Put X w7 u v7 := by
 refine ⟨⟨hg.os, hg.tape, hg.output, Nat.le_trans qag hg.size, fun k hk _ => (hg.block k qak (fun e => by have := Option.some.inj e; omega)).trans (Below.heap_alloc X o k hk)⟩, ?_⟩
 rcases hat with e | e
 ·exact .inr ⟨_, e, Nat.le_refl _⟩
 ·exact .inr ⟨_, e, by simp⟩
/-- The memory of l19Build. -/
structure LkB (w wr : World) (S : List Nat) (z0 z1 : Int) (z2 : ByteArray) (A3 : Option Addr) (m c3 : Nat) (pa : ByteArray) (fs : List FField) (ms : List FMethod) (uF uM : Value) : Prop where
 lk : Lk w wr S (w.heap.size + 1 + 1 + 1) z2 pa fs ms uF uM
 n : Blk wr w.heap.size 44 #[.int .i64 z0, .int .i64 z1, .string z2, .slice A3 m c3]
 r : Blk wr (w.heap.size + 1 + 1) 56 #[.string ⟨#[]⟩, .string ⟨#[]⟩, .slice none 0 0, .slice none 0 0]
 hs : ∀ s, s = w.heap.size ∨ s = w.heap.size + 1 + 1 → s ∈ S
section
variable {w wr w' : World} {S : List Nat} {z0 z1 : Int} {z2 : ByteArray} {A3 : Option Addr} {m c3 : Nat} {pa pa' : ByteArray} {fs fs' : List FField} {ms ms' : List FMethod} {uF uM uF' uM' : Value}
theorem LkB.stay (h : LkB w wr S z0 z1 z2 A3 m c3 pa fs ms uF uM) (l : Lk w w' S (w.heap.size + 1 + 1 + 1) z2 pa' fs' ms' uF' uM') (fr : ∀ s, s ∈ S → w'.heap[s]? = wr.heap[s]?) : LkB w w' S z0 z1 z2 A3 m c3 pa' fs' ms' uF' uM' :=
 ⟨l, (fr _ (h.hs _ (.inl rfl))).trans h.n, (fr _ (h.hs _ (.inr rfl))).trans h.r, h.hs⟩
theorem LkB.below (h : LkB w wr S z0 z1 z2 A3 m c3 pa fs ms uF uM) (hb : Below wr.heap.size wr w') : LkB w w' S z0 z1 z2 A3 m c3 pa fs ms uF uM :=
 h.stay (h.lk.below hb) fun s hs => hb.block s (h.lk.sp s hs).1
theorem LkB.fresh (h : LkB w wr S z0 z1 z2 A3 m c3 pa fs ms uF uM) (o : Obj) : LkB w (wr.alloc o) (wr.heap.size :: S) z0 z1 z2 A3 m c3 pa fs ms uF uM := by
 have h1 := h.below ((Below.refl _ _).alloc nr o)
 exact ⟨h.lk.fresh o, h1.n, h1.r, fun s hs => List.mem_cons_of_mem _ (h.hs s hs)⟩
theorem LkB.drop {s : Nat} (h : LkB w wr (s :: S) z0 z1 z2 A3 m c3 pa fs ms uF uM) (hs : ∀ s, s = w.heap.size ∨ s = w.heap.size + 1 + 1 → s ∈ S) : LkB w wr S z0 z1 z2 A3 m c3 pa fs ms uF uM :=
 ⟨h.lk.drop, h.n, h.r, hs⟩
end
/-- What a declaration becomes, its parent found. -/
def bldC (x : FNode) (pa : ByteArray) (fs : List FField) (ms : List FMethod) (ts : List FClass) : Int × FClass :=
 if x.kids.any (noTr ts) then (3, ⟨⟨#[]⟩, ⟨#[]⟩, [], []⟩) else if (bsC x ts fs ms).ok then (0, ⟨x.tx, pa, (bsC x ts fs ms).fs, (bsC x ts fs ms).ms⟩) else (4, ⟨⟨#[]⟩, ⟨#[]⟩, [], []⟩)
theorem linkC_bld {x : FNode} {cs ts : List FClass} {pa : ByteArray} {fs : List FField} {ms : List FMethod} (hb : badN cs ts x.tx = false) (hp : parC cs x.kids = some (pa, fs, ms)) : linkC x cs ts = bldC x pa fs ms ts := by
 unfold linkC
 rw [if_neg (by rw [hb]; simp), hp]
 rfl
theorem BS.gd.stepW {G : List (List UInt8)} {nm : ByteArray} {kids : List FNode} {ts : List FClass} {s : BS} {x : FNode} (h : s.gd G) (hn : nm.size ≤ 1000) (hts : ∀ t, t ∈ ts → ClG G t) : (s.stepW nm kids ts x).gd G := by
 unfold BS.stepW
 split
 ·unfold BS.use
  exact zz147
 ·exact h
theorem BS.gd.stepM {G : List (List UInt8)} {nm : ByteArray} {s : BS} {x : FNode} {cl f : Bool} (h : s.gd G) (hn : nm.size ≤ 1000) (hx : MbO cl f x) (hg : x.tx.toList ∈ G) : (s.stepM nm x).gd G := by
 unfold BS.stepM
 exact zz121
theorem BS.gd.stepsW {G : List (List UInt8)} {nm : ByteArray} {kids : List FNode} {ts : List FClass} (hn : nm.size ≤ 1000) (hts : ∀ t, t ∈ ts → ClG G t) : ∀ (l : List FNode) (s : BS), s.gd G → (l.foldl (BS.stepW nm kids ts) s).gd G
 | [], s, h => h
 | x :: r, s, h => BS.gd.stepsW hn hts r _ (h.stepW hn hts)
theorem BS.gd.stepsM {G : List (List UInt8)} {nm : ByteArray} (hn : nm.size ≤ 1000) : ∀ (l : List FNode) (s : BS), s.gd G → (∀ x, x ∈ l → x.tx.toList ∈ G ∧ ∃ cl f, MbO cl f x) → (l.foldl (BS.stepM nm) s).gd G
 | [], s, h, _ => h
 | x :: r, s, h, hl => by
  obtain ⟨h1, cl, f, h2⟩ := hl x (List.mem_cons_self ..)
  exact BS.gd.stepsM hn r _ (h.stepM hn h2 h1) fun y hy => hl y (List.mem_cons_of_mem _ hy)
end Go.Proofs.YtkkjnfappndmpaaGreatDoor
