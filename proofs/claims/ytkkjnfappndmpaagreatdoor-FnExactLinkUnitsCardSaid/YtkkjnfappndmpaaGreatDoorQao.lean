/-
 Parts of the proof: IsJ9, IsK1. Conditions: none.
-/
import Derived.Test.YtkkjnfappndmpaaGreatDoorQFold
import Derived.Test.YtkkjnfappndmpaaGreatDoorQaa
import Derived.Test.YtkkjnfappndmpaaGreatDoorQan
set_option linter.unusedVariables false
set_option linter.unusedSimpArgs false
namespace Go.Proofs.YtkkjnfappndmpaaGreatDoor
set_option maxHeartbeats 40000000
open Lib (hid)
open Go.ChangeShapes Go.WideShapes Go.ChangeAt Go.RowKit Go.Deep Go.Joins
open Go.ChangeMaps (open_string shut_string)
set_option maxRecDepth 100000
theorem stI_46 (z1 : Int) (z2 : ByteArray) (z3 : List FNode) (hw : (FNode.mk 46 z1 z2 z3).wt ≤ 9000000000) (hE : ∀ x, x ∈ z3 → ExI x) : StI (.mk 46 z1 z2 z3) := by
 intro us w B hmx hB0 hr
 obtain ⟨A3, c3, rfl, r3⟩ := hr.node
 rw [FNode.wt_eq] at hw
 have hz : z2.size ≤ 9223372036854775807 := qaa
 have hl : z3.length ≤ 9223372036854775807 := qaa
 have EX := hid (show stF ⟨46, z1, z2, z3⟩ = (((z1 == 0) && emT z2) && (decide (1 ≤ z3.length ∧ z3.length ≤ 2) && (z3.all exF && (z3.length == 1 || hd4 z3)))) from by rw [stF_mk]; rfl)
 obtain ⟨m, hm⟩ : ∃ m, z3.length = m := ⟨_, rfl⟩
 try rw [hm] at EX
 rw [hm] at hl r3  ⊢
 have HB := hbA w 46 z1 z2 (.slice A3 m c3)
 clear hr
 have HR := hid r3
 have hcap : m ≤ c3 := by
  have h := r3
  exact zz23
 clear r3
 by_cases e2 : z1 = 0
 ·subst e2
  by_cases e1 : m = 1
  ·subst e1
   obtain ⟨⟨y0, y1, y2, y3⟩, rfl⟩ := List.length_eq_one_iff.mp hm
   have HV := hid (hE ⟨y0, y1, y2, y3⟩ (List.mem_singleton.mpr rfl))
   obtain ⟨bcy, offcy, Ey, hblcy, hcc⟩ := RdC.at_ (l := [FNode.mk y0 y1 y2 y3]) FNode.len HR.out (i := 0) (x := FNode.mk y0 y1 y2 y3) rfl
   obtain ⟨Dy, dy, cy_0, cy_1, cy_2, cy_3, q3⟩ := opN HB.out qaa hcc (offcy) (offcy + 1) (offcy + 2) (offcy + 3) qaa
   have Qy := hid q3
   clear hcc q3
   subst Ey
   have CALL := hid (HV.out [.int .i64 y0, .int .i64 y1, .string y2, .slice Dy y3.length dy] _ w.heap.size (hmx.below HB.out) HB.out.size (ndV ((Qy.out.up hB0).below HB.out nr)))
   clear hm hw hE
   rw [show (decide (1 ≤ 1 ∧ 1 ≤ 2) && ([FNode.mk y0 y1 y2 y3].all exF && (1 == 1 || hd4 [FNode.mk y0 y1 y2 y3]))) = exF ⟨y0, y1, y2, y3⟩ from by simp] at EX
   go_enter Tryz.func70, Tryz.ntmps70
   go_wp2_with (first | (go_at_call 106; refine CALL.out.mono ?_; rintro e w' ⟨rfl, hb3⟩))
   all_goals exact zz22
  ·by_cases e3 : m = 2
   ·subst e3
    obtain ⟨⟨y0, y1, y2, y3⟩, ⟨t0, t1, t2, t3⟩, rfl⟩ := two_of hm
    have hwy : (FNode.mk y0 y1 y2 y3).wt ≤ 9000000000 := by have := FNode.wts_at [FNode.mk y0 y1 y2 y3, FNode.mk t0 t1 t2 t3] (FNode.mk y0 y1 y2 y3) qag; omega
    have HV := hid (hE ⟨t0, t1, t2, t3⟩ qag)
    obtain ⟨bcy, offcy, Ey, hblcy, hcc⟩ := RdC.at_ (l := [FNode.mk y0 y1 y2 y3, FNode.mk t0 t1 t2 t3]) FNode.len HR.out (i := 0) (x := FNode.mk y0 y1 y2 y3) rfl
    obtain ⟨Dy, dy, cy_0, cy_1, cy_2, cy_3, q3⟩ := opN (Below.refl w.heap.size w) qaa hcc (offcy) (offcy + 1) (offcy + 2) (offcy + 3) qaa
    have Qy := hid q3
    clear hcc q3
    obtain ⟨bct, offct, Et, hblct, hcc⟩ := RdC.at_ (l := [FNode.mk y0 y1 y2 y3, FNode.mk t0 t1 t2 t3]) FNode.len HR.out (i := 1) (x := FNode.mk t0 t1 t2 t3) rfl
    obtain ⟨Dt, dt, ct_0, ct_1, ct_2, ct_3, q3⟩ := opN (Below.refl w.heap.size w) qaa hcc (offct + 4) (offct + 5) (offct + 6) (offct + 7) qaa
    have Qt := hid q3
    clear hcc q3
    have hbl : bcy < w.heap.size := Nat.lt_of_lt_of_le hblcy hB0
    subst Ey
    obtain ⟨g1, g2⟩ : bcy = bct ∧ offcy = offct := by simpa using Et
    subst g1
    subst g2
    clear Et
    have ⟨_, _, _, _⟩ := cell4 HB.out hbl cy_0 cy_1 cy_2 cy_3
    have CALL := hid (var_impl _ hwy [.int .i64 y0, .int .i64 y1, .string y2, .slice Dy y3.length dy] _ w.heap.size (ndV ((Qy.out.up hB0).below HB.out nr)))
    clear hm hw hE hwy
    rw [show (decide (1 ≤ 2 ∧ 2 ≤ 2) && ([FNode.mk y0 y1 y2 y3, FNode.mk t0 t1 t2 t3].all exF && (2 == 1 || hd4 [FNode.mk y0 y1 y2 y3, FNode.mk t0 t1 t2 t3]))) = (varF ⟨y0, y1, y2, y3⟩ && exF ⟨t0, t1, t2, t3⟩) from by rw [← varF_ex]; exact yi_eq _ _] at EX
    cases hv : varF ⟨y0, y1, y2, y3⟩ with
    | false =>
     rw [hv] at CALL EX
     clear hv
     go_enter Tryz.func70, Tryz.ntmps70
     go_wp2_with (first | (go_at_call 109; refine CALL.out.mono ?_; rintro e w3 ⟨rfl, hb3⟩; have HB3 := hid (HB.out.trans (hb3.mono HB.out.size))))
     all_goals exact zz78
    | true =>
     rw [hv] at CALL EX
     clear hv
     go_enter Tryz.func70, Tryz.ntmps70
     go_wp2_with (first | (go_at_call 109; refine CALL.out.mono ?_; rintro e w3 ⟨rfl, hb3⟩; have HB3 := hid (HB.out.trans (hb3.mono HB.out.size)); have bx_w3 : w3.cell? ⟨w.heap.size, 3, none⟩ = some (.slice (some ⟨bcy, offcy, none⟩) 2 c3) := (hb3.cell (p := ⟨w.heap.size, 3, none⟩) qa8).trans (by rw [World.cell?_alloc_new]; rfl); have sz_w3 := szA hb3; have ⟨_, _, _, _⟩ := cell4 HB3.out hbl ct_0 ct_1 ct_2 ct_3) | (go_at_call 106; refine (HV.out [.int .i64 t0, .int .i64 t1, .string t2, .slice Dt t3.length dt] w3 w.heap.size (hmx.below HB3.out) HB3.out.size (ndV ((Qt.out.up hB0).below HB3.out nr))).mono ?_; rintro e w4 ⟨rfl, hb4⟩))
     all_goals exact zz78
   ·rw [show decide (1 ≤ m ∧ m ≤ 2) = false from decide_eq_false qaa] at EX
    clear hm hw hE
    exact zz215
 ·clear hm hw hE
  exact zz215
theorem stI_o (z0 z1 : Int) (z2 : ByteArray) (z3 : List FNode) (hw : (FNode.mk z0 z1 z2 z3).wt ≤ 9000000000) (n31 : ¬ z0 = 31) (n32 : ¬ z0 = 32) (n33 : ¬ z0 = 33) (n34 : ¬ z0 = 34) (n35 : ¬ z0 = 35) (n36 : ¬ z0 = 36) (n37 : ¬ z0 = 37) (n38 : ¬ z0 = 38) (n39 : ¬ z0 = 39) (n40 : ¬ z0 = 40) (n41 : ¬ z0 = 41) (n42 : ¬ z0 = 42) (n43 : ¬ z0 = 43) (n46 : ¬ z0 = 46) (n47 : ¬ z0 = 47) (n48 : ¬ z0 = 48) : StI (.mk z0 z1 z2 z3) := by
 intro us w B hmx hB0 hr
 obtain ⟨A3, c3, rfl, r3⟩ := hr.node
 rw [FNode.wt_eq] at hw
 have hz : z2.size ≤ 9223372036854775807 := qaa
 have hl : z3.length ≤ 9223372036854775807 := qaa
 have EX := hid (show stF ⟨z0, z1, z2, z3⟩ = false from by rw [stF_mk]; unfold stK; simp [n31, n32, n33, n34, n35, n36, n37, n38, n39, n40, n41, n42, n43, n46, n47, n48])
 obtain ⟨m, hm⟩ : ∃ m, z3.length = m := ⟨_, rfl⟩
 try rw [hm] at EX
 rw [hm] at hl r3  ⊢
 have HB := hbA w z0 z1 z2 (.slice A3 m c3)
 clear hm hr r3 hw
 go_enter Tryz.func70, Tryz.ntmps70
 go_wp2_with (fail)
 all_goals (go_ret; exact ⟨ret_bool EX.out.symm, HB.out⟩)
theorem RdL.take {w : World} {B b : Nat} (xs ys : List Cel) (o : Nat) (h : RdL w B b (xs ++ ys) o) : RdL w B b xs o :=
 RdL.of xs _ fun j x hx => RdL.get _ _ j x h (by rw [List.getElem?_append_left (by rcases Nat.lt_or_ge j xs.length with h1 | h1; exact h1; rw [List.getElem?_eq_none h1] at hx; cases hx)]; exact hx)
/-- kids[:i], where i is not 0. -/
theorem rd_take {w : World} {B b off c n : Nat} {e : TypeId} {p l : List FNode} (hp : 0 < p.length) (hn : n = p.length + l.length)
  (h : RdC w B (.s e 4 n (FNode.flat (p ++ l))) (.slice (some ⟨b, off, none⟩) n c)) :
  RdC w B (.s e 4 p.length (FNode.flat p)) (.slice (some ⟨b, off, none⟩) p.length c) := by
 subst hn
 unfold RdC at h ⊢
 obtain ⟨A', c', hA, k1, k2, k3, k4⟩ := h
 simp only [Value.slice.injEq, true_and] at hA
 obtain ⟨rfl, rfl⟩ := hA
 obtain ⟨b', off', hE, hb, hL⟩ := k4 qaa
 obtain ⟨rfl, rfl⟩ : b = b' ∧ off = off' := by simpa using hE
 refine ⟨_, _, rfl, by omega, by omega, nflat_len p, fun _ => ⟨_, _, rfl, hb, ?_⟩⟩
 exact RdL.take (FNode.flat p) (FNode.flat l) off (by rw [show FNode.flat p ++ FNode.flat l = FNode.flat (p ++ l) from List.flatMap_append.symm]; exact hL)
theorem fnF_44 {k : Int} (h : ¬ k = 45) (n : Int) (t : ByteArray) (ks : List FNode) : fnF ⟨k, n, t, ks⟩ = false := by rw [fnF_mk, beq_false_of_ne h]; rfl
theorem ctF_no {k : Int} (h : ¬ k = 44) (n : Int) (t : ByteArray) (ks : List FNode) : ctF ⟨k, n, t, ks⟩ = false := by rw [ctF_mk, beq_false_of_ne h]; rfl
theorem ctF_44 (n : Int) (t : ByteArray) (ks : List FNode) : ctF ⟨44, n, t, ks⟩ = (n == 0 && (goodF t && ctK ks)) := by rw [ctF_mk]; show (true && (((n == 0) && goodF t) && _)) = _; simp [Bool.and_assoc]
theorem ctK_no (l : List FNode) (h : ¬ l.length = 2) : ctK l = false := by
 exact zz127
theorem ctK_2 (p q : FNode) : ctK [p, q] = (varF p && blF q) := by
 rw [← varF_ex]
 show (p.kd == 4 && (exF p && blF q)) = _
 rw [Bool.and_assoc]
theorem fnF_eq (k n : Int) (t : ByteArray) (ks : List FNode) : fnF ⟨k, n, t, ks⟩ = (k == 45 && (n == 0 && (emT t && (ks.length == 1 && ks.all blF)))) := by
 rw [fnF_mk]
 by_cases h : k = 45
 ·subst h
  show (true && (((n == 0) && emT t) && fnK ks)) = (true && ((n == 0) && (emT t && _)))
  have : fnK ks = (ks.length == 1 && ks.all blF) := by
   match ks with
   | [] => rfl
   | [b] => show blF b = (true && (blF b && true)); simp
   | _ :: _ :: _ => rfl
  rw [this, Bool.and_assoc]
 ·rw [beq_false_of_ne h]; rfl
theorem ty_two (a b : FNode) : tyK [a, b] = (blF a && (ctF b || fnF b)) := rfl
theorem ty_three (a b d : FNode) : tyK [a, b, d] = (blF a && (ctF b && fnF d)) := rfl
theorem ty_many (a b d e : FNode) (r : List FNode) : tyK (a :: b :: d :: e :: r) = false := rfl
theorem ty_bad (a b : FNode) (r : List FNode) (h : blF a = false) : tyK (a :: b :: r) = false := by
 match r with
 | [] => rw [ty_two, h]; rfl
 | [_] => rw [ty_three, h]; rfl
 | _ :: _ :: _ => rfl
theorem ty_bad2 (a b : FNode) (r : List FNode) (h : ctF b = false) (h2 : fnF b = false) : tyK (a :: b :: r) = false := by
 match r with
 | [] => rw [ty_two, h, h2, Bool.or_false, Bool.and_false]
 | [_] => rw [ty_three, h, Bool.false_and, Bool.and_false]
 | _ :: _ :: _ => rfl
def TyI (l : List FNode) : Prop := ∀ (u : Value) (w : World) (B : Nat), MaxAt w → B ≤ w.heap.size → RdC w B (.s 44 4 l.length (FNode.flat l)) u → Calls Tryz.prog 112 #[u] w fun e w' => e = .returned (.bool (tyK l)) ∧ Below w.heap.size w w'
theorem tyK_le (l : List FNode) (h : l.length < 2) : tyK l = false := by
 match l, h with
 | [], _ => rfl
 | [_], _ => rfl
 | _ :: _ :: _, h => simp at h; omega
theorem tyI_short (l : List FNode) (h : l.length < 2) : TyI l := by
 intro u w B hmx hB0 hr
 obtain ⟨A3, c3, rfl⟩ := hr.form
 have EX := hid (tyK_le l h)
 have hn : l.length ≤ 9223372036854775807 := qaa
 clear hr
 go_enter Tryz.func112, Tryz.ntmps112
 go_wp2_with fail
 go_ret
 exact ⟨ret_bool EX.out.symm, Below.refl _ _⟩
theorem nd_at {w : World} {B e c n : Nat} {A : Option Addr} {l : List FNode} (hn : n = l.length) (h : RdC w B (.s e 4 n (FNode.flat l)) (.slice A n c)) {i : Nat} {x : FNode} (hx : l[i]? = some x) :
  ∃ b off, A = some ⟨b, off, none⟩ ∧ b < B ∧ ∀ j y, x.c[j]? = some y → ∃ u, w.cell? ⟨b, off + i * 4 + j, none⟩ = some u ∧ RdC w B y u := by
 subst hn
 exact RdC.at_ FNode.len h hx
def BlV (l : List FNode) (b : Bool) : Prop := ∀ (u : Value) (w : World) (B : Nat), MaxAt w → B ≤ w.heap.size → RdC w B (.s 44 4 l.length (FNode.flat l)) u → Calls Tryz.prog 108 #[u] w fun e w' => e = .returned (.bool b) ∧ Below w.heap.size w w'
theorem BlI.val {l : List FNode} {b : Bool} (h : BlI l) (e : l.all blF = b) : BlV l b := by unfold BlI at h; rw [e] at h; exact h
theorem BlI.val1 {x : FNode} {b : Bool} (h : BlI [x]) (e : blF x = b) : BlV [x] b := h.val (by rw [← e]; simp)
def VaV (x : FNode) (b : Bool) : Prop := ∀ (us : List Value) (w : World) (B : Nat), RdVs w B x.c us → Calls Tryz.prog 109 #[.agg us.toArray] w fun e w' => e = .returned (.bool b) ∧ Below w.heap.size w w'
theorem vaV_of {x : FNode} {b : Bool} (h : x.wt ≤ 9000000000) (e : varF x = b) : VaV x b := by have := var_impl x h; rw [e] at this; exact this
theorem GoV (t : ByteArray) (b : Bool) (h : t.size ≤ 9223372036854775807) (e : goodF t = b) (w : World) : Calls Tryz.prog 104 #[.string t] w fun e w' => e = .returned (.bool b) ∧ w = w' := by
 have := good_impl t w h
 rw [e] at this
 refine this.mono ?_
 rintro e w' ⟨rfl, rfl⟩
 exact ⟨rfl, rfl⟩
theorem ty_A (a : FNode) (b0 b1 : Int) (b2 : ByteArray) (b3 r : List FNode) (av : Bool) (w : World) (B m c3 : Nat) (A3 : Option Addr) (hmx : MaxAt w) (hB0 : B ≤ w.heap.size) (hml : m ≤ 9000000000) (hm : m = (a :: ⟨b0, b1, b2, b3⟩ :: r).length) (hr : RdC w B (.s 44 4 m (FNode.flat (a :: ⟨b0, b1, b2, b3⟩ :: r))) (.slice A3 m c3)) (a_v : BlV [a] av) (hav : av = false) :
  Calls Tryz.prog 112 #[.slice A3 m c3] w fun e w' => e = .returned (.bool (false)) ∧ Below w.heap.size w w' := by
 have hcap : m ≤ c3 := by
  exact zz202
 have hm2 : 2 ≤ m := by rw [hm]; simp
 have HR := hid hr
 obtain ⟨bcb, offcb, Eb, hblcb, hcc⟩ := nd_at hm (l := a :: ⟨b0, b1, b2, b3⟩ :: r) HR.out (i := 1) (x := FNode.mk b0 b1 b2 b3) rfl
 obtain ⟨Db, db, cb_0, cb_1, cb_2, cb_3, q3⟩ := opN (Below.refl w.heap.size w) qaa hcc (offcb + 4) (offcb + 5) (offcb + 6) (offcb + 7) qaa
 have Qb := hid q3
 clear hcc q3
 have hbl : bcb < w.heap.size := Nat.lt_of_lt_of_le hblcb hB0
 subst Eb
 subst hav
 have tok1 : True := trivial
 have RT := rd_take (p := [a]) (l := ⟨b0, b1, b2, b3⟩ :: r) (Nat.zero_lt_succ _) qbr HR.out
 have CA := hid (a_v (.slice (some ⟨bcb, offcb, none⟩) 1 c3) w w.heap.size hmx nr (RT.up hB0))
 clear RT
 clear hm hr
 go_enter Tryz.func112, Tryz.ntmps112
 go_wp2_with ((go_at_call 108; clear tok1; refine CA.out.mono ?_; rintro e w3 ⟨rfl, hb3⟩; have HB3 := hid hb3))
 go_ret
 exact ⟨rfl, HB3.out⟩
theorem ty_C1 (a : FNode) (b1 : Int) (b2 : ByteArray) (b3 r : List FNode) (w : World) (B m c3 : Nat) (A3 : Option Addr) (hmx : MaxAt w) (hB0 : B ≤ w.heap.size) (hml : m ≤ 9000000000) (hm : m = (a :: ⟨44, b1, b2, b3⟩ :: r).length) (hr : RdC w B (.s 44 4 m (FNode.flat (a :: ⟨44, b1, b2, b3⟩ :: r))) (.slice A3 m c3)) (a_v : BlV [a] true) (hz : b2.size ≤ 9223372036854775807) (hbl3 : b3.length ≤ 9000000000) (hb1 : ¬ b1 = 0) :
  Calls Tryz.prog 112 #[.slice A3 m c3] w fun e w' => e = .returned (.bool (false)) ∧ Below w.heap.size w w' := by
 have hcap : m ≤ c3 := by
  exact zz202
 have hm2 : 2 ≤ m := by rw [hm]; simp
 have HR := hid hr
 obtain ⟨bcb, offcb, Eb, hblcb, hcc⟩ := nd_at hm (l := a :: ⟨44, b1, b2, b3⟩ :: r) HR.out (i := 1) (x := FNode.mk 44 b1 b2 b3) rfl
 obtain ⟨Db, db, cb_0, cb_1, cb_2, cb_3, q3⟩ := opN (Below.refl w.heap.size w) qaa hcc (offcb + 4) (offcb + 5) (offcb + 6) (offcb + 7) qaa
 have Qb := hid q3
 clear hcc q3
 have hbl : bcb < w.heap.size := Nat.lt_of_lt_of_le hblcb hB0
 subst Eb
 obtain ⟨n, hn⟩ : ∃ n, b3.length = n := ⟨_, rfl⟩
 have Qb' := Qb.out
 rw [hn] at cb_3 Qb'
 clear Qb
 have hnl : n ≤ 9000000000 := qaa
 have tok1 : True := trivial
 have RT := rd_take (p := [a]) (l := ⟨44, b1, b2, b3⟩ :: r) (Nat.zero_lt_succ _) qbr HR.out
 have CA := hid (a_v (.slice (some ⟨bcb, offcb, none⟩) 1 c3) w w.heap.size hmx nr (RT.up hB0))
 clear RT
 clear hm hr
 go_enter Tryz.func112, Tryz.ntmps112
 go_wp2_with ((go_at_call 108; clear tok1; refine CA.out.mono ?_; rintro e w3 ⟨rfl, hb3⟩; have HB3 := hid hb3; have ⟨_, _, _, _⟩ := cell4 HB3.out hbl cb_0 cb_1 cb_2 cb_3))
 go_ret
 exact ⟨rfl, HB3.out.alloc HB3.out.size _⟩
theorem ty_C2 (a : FNode) (b2 : ByteArray) (b3 r : List FNode) (w : World) (B m c3 : Nat) (A3 : Option Addr) (hmx : MaxAt w) (hB0 : B ≤ w.heap.size) (hml : m ≤ 9000000000) (hm : m = (a :: ⟨44, 0, b2, b3⟩ :: r).length) (hr : RdC w B (.s 44 4 m (FNode.flat (a :: ⟨44, 0, b2, b3⟩ :: r))) (.slice A3 m c3)) (a_v : BlV [a] true) (hz : b2.size ≤ 9223372036854775807) (hbl3 : b3.length ≤ 9000000000) (hgo : goodF b2 = false) :
  Calls Tryz.prog 112 #[.slice A3 m c3] w fun e w' => e = .returned (.bool (false)) ∧ Below w.heap.size w w' := by
 have hcap : m ≤ c3 := by
  exact zz202
 have hm2 : 2 ≤ m := by rw [hm]; simp
 have HR := hid hr
 obtain ⟨bcb, offcb, Eb, hblcb, hcc⟩ := nd_at hm (l := a :: ⟨44, 0, b2, b3⟩ :: r) HR.out (i := 1) (x := FNode.mk 44 0 b2 b3) rfl
 obtain ⟨Db, db, cb_0, cb_1, cb_2, cb_3, q3⟩ := opN (Below.refl w.heap.size w) qaa hcc (offcb + 4) (offcb + 5) (offcb + 6) (offcb + 7) qaa
 have Qb := hid q3
 clear hcc q3
 have hbl : bcb < w.heap.size := Nat.lt_of_lt_of_le hblcb hB0
 subst Eb
 obtain ⟨n, hn⟩ : ∃ n, b3.length = n := ⟨_, rfl⟩
 have Qb' := Qb.out
 rw [hn] at cb_3 Qb'
 clear Qb
 have hnl : n ≤ 9000000000 := qaa
 have tok1 : True := trivial
 have RT := rd_take (p := [a]) (l := ⟨44, 0, b2, b3⟩ :: r) (Nat.zero_lt_succ _) qbr HR.out
 have CA := hid (a_v (.slice (some ⟨bcb, offcb, none⟩) 1 c3) w w.heap.size hmx nr (RT.up hB0))
 clear RT
 exact zz97
theorem ty_C3 (a : FNode) (b2 : ByteArray) (b3 r : List FNode) (w : World) (B m c3 : Nat) (A3 : Option Addr) (hmx : MaxAt w) (hB0 : B ≤ w.heap.size) (hml : m ≤ 9000000000) (hm : m = (a :: ⟨44, 0, b2, b3⟩ :: r).length) (hr : RdC w B (.s 44 4 m (FNode.flat (a :: ⟨44, 0, b2, b3⟩ :: r))) (.slice A3 m c3)) (a_v : BlV [a] true) (hz : b2.size ≤ 9223372036854775807) (hbl3 : b3.length ≤ 9000000000) (hgo : goodF b2 = true) (hn2 : ¬ b3.length = 2) :
  Calls Tryz.prog 112 #[.slice A3 m c3] w fun e w' => e = .returned (.bool (false)) ∧ Below w.heap.size w w' := by
 have hcap : m ≤ c3 := by
  exact zz202
 have hm2 : 2 ≤ m := by rw [hm]; simp
 have HR := hid hr
 obtain ⟨bcb, offcb, Eb, hblcb, hcc⟩ := nd_at hm (l := a :: ⟨44, 0, b2, b3⟩ :: r) HR.out (i := 1) (x := FNode.mk 44 0 b2 b3) rfl
 obtain ⟨Db, db, cb_0, cb_1, cb_2, cb_3, q3⟩ := opN (Below.refl w.heap.size w) qaa hcc (offcb + 4) (offcb + 5) (offcb + 6) (offcb + 7) qaa
 have Qb := hid q3
 clear hcc q3
 have hbl : bcb < w.heap.size := Nat.lt_of_lt_of_le hblcb hB0
 subst Eb
 obtain ⟨n, hn⟩ : ∃ n, b3.length = n := ⟨_, rfl⟩
 have Qb' := Qb.out
 rw [hn] at cb_3 Qb'
 clear Qb
 have hnl : n ≤ 9000000000 := qaa
 have tok1 : True := trivial
 have RT := rd_take (p := [a]) (l := ⟨44, 0, b2, b3⟩ :: r) (Nat.zero_lt_succ _) qbr HR.out
 have CA := hid (a_v (.slice (some ⟨bcb, offcb, none⟩) 1 c3) w w.heap.size hmx nr (RT.up hB0))
 clear RT
 rw [hn] at hn2
 exact zz97
theorem ty_C4 (a : FNode) (b2 : ByteArray) (p0 p1 : Int) (p2 : ByteArray) (p3 : List FNode) (q : FNode) (r : List FNode) (w : World) (B m c3 : Nat) (A3 : Option Addr) (hmx : MaxAt w) (hB0 : B ≤ w.heap.size) (hml : m ≤ 9000000000) (hm : m = (a :: ⟨44, 0, b2, [⟨p0, p1, p2, p3⟩, q]⟩ :: r).length) (hr : RdC w B (.s 44 4 m (FNode.flat (a :: ⟨44, 0, b2, [⟨p0, p1, p2, p3⟩, q]⟩ :: r))) (.slice A3 m c3)) (a_v : BlV [a] true) (hz : b2.size ≤ 9223372036854775807) (hgo : goodF b2 = true) (p_v : VaV ⟨p0, p1, p2, p3⟩ false) :
  Calls Tryz.prog 112 #[.slice A3 m c3] w fun e w' => e = .returned (.bool (false)) ∧ Below w.heap.size w w' := by
 have hcap : m ≤ c3 := by
  exact zz202
 have hm2 : 2 ≤ m := by rw [hm]; simp
 have HR := hid hr
 obtain ⟨bcb, offcb, Eb, hblcb, hcc⟩ := nd_at hm (l := a :: ⟨44, 0, b2, [⟨p0, p1, p2, p3⟩, q]⟩ :: r) HR.out (i := 1) (x := FNode.mk 44 0 b2 [⟨p0, p1, p2, p3⟩, q]) rfl
 obtain ⟨Db, db, cb_0, cb_1, cb_2, cb_3, q3⟩ := opN (Below.refl w.heap.size w) qaa hcc (offcb + 4) (offcb + 5) (offcb + 6) (offcb + 7) qaa
 have Qb := hid q3
 clear hcc q3
 have hbl : bcb < w.heap.size := Nat.lt_of_lt_of_le hblcb hB0
 subst Eb
 obtain ⟨n, hn⟩ : ∃ n, [⟨p0, p1, p2, p3⟩, q].length = n := ⟨_, rfl⟩
 obtain rfl : n = 2 := hn.symm
 have Qb' := Qb.out
 clear Qb
 have tok1 : True := trivial
 have RT := rd_take (p := [a]) (l := ⟨44, 0, b2, [⟨p0, p1, p2, p3⟩, q]⟩ :: r) (Nat.zero_lt_succ _) qbr HR.out
 have CA := hid (a_v (.slice (some ⟨bcb, offcb, none⟩) 1 c3) w w.heap.size hmx nr (RT.up hB0))
 clear RT
 have HQB := hid Qb'
 have hcd : 2 ≤ db := by
  exact zz47
 obtain ⟨bcp, offcp, Ep, hblcp, hcc⟩ := nd_at rfl (l := [FNode.mk p0 p1 p2 p3, q]) HQB.out (i := 0) (x := FNode.mk p0 p1 p2 p3) rfl
 obtain ⟨Dp, dp, cp_0, cp_1, cp_2, cp_3, q3⟩ := opN (Below.refl w.heap.size w) qaa hcc (offcp) (offcp + 1) (offcp + 2) (offcp + 3) qaa
 have Qp := hid q3
 clear hcc q3
 have hblp : bcp < w.heap.size := Nat.lt_of_lt_of_le hblcp hB0
 subst Ep
 have CP := hid p_v
 clear Qb' hn
 clear hm hr
 go_enter Tryz.func112, Tryz.ntmps112
 go_wp2_with (first | (go_at_call 108; clear tok1; refine CA.out.mono ?_; rintro e w3 ⟨rfl, hb3⟩; have HB3 := hid hb3; have ⟨_, _, _, _⟩ := cell4 HB3.out hbl cb_0 cb_1 cb_2 cb_3; have HBc := hid (HB3.out.alloc HB3.out.size (.cells #[.int .i64 44, .int .i64 0, .string b2, .slice (some ⟨bcp, offcp, none⟩) 2 db] 44)); have ⟨_, _, _, _⟩ := cell4 HBc.out hblp cp_0 cp_1 cp_2 cp_3) | (go_at_call 104; refine zkp (GoV _ _ hz hgo _) ?_) | (go_at_call 109; refine (CP.out [.int .i64 p0, .int .i64 p1, .string p2, .slice Dp p3.length dp] _ w.heap.size (ndV ((Qp.out.up hB0).below HBc.out nr))).mono ?_; rintro e w4 ⟨rfl, hb4⟩; have HB4 := hid (HBc.out.trans (hb4.mono HBc.out.size))))
 go_ret
 exact ⟨rfl, HB4.out⟩
theorem ty_C5 (a : FNode) (b2 : ByteArray) (p0 p1 : Int) (p2 : ByteArray) (p3 : List FNode) (q : FNode) (r : List FNode) (w : World) (B m c3 : Nat) (A3 : Option Addr) (hmx : MaxAt w) (hB0 : B ≤ w.heap.size) (hml : m ≤ 9000000000) (hm : m = (a :: ⟨44, 0, b2, [⟨p0, p1, p2, p3⟩, q]⟩ :: r).length) (hr : RdC w B (.s 44 4 m (FNode.flat (a :: ⟨44, 0, b2, [⟨p0, p1, p2, p3⟩, q]⟩ :: r))) (.slice A3 m c3)) (a_v : BlV [a] true) (hz : b2.size ≤ 9223372036854775807) (hgo : goodF b2 = true) (p_v : VaV ⟨p0, p1, p2, p3⟩ true) (q_v : BlV [q] false) :
  Calls Tryz.prog 112 #[.slice A3 m c3] w fun e w' => e = .returned (.bool (false)) ∧ Below w.heap.size w w' := by
 have hcap : m ≤ c3 := by
  exact zz202
 have hm2 : 2 ≤ m := by rw [hm]; simp
 have HR := hid hr
 obtain ⟨bcb, offcb, Eb, hblcb, hcc⟩ := nd_at hm (l := a :: ⟨44, 0, b2, [⟨p0, p1, p2, p3⟩, q]⟩ :: r) HR.out (i := 1) (x := FNode.mk 44 0 b2 [⟨p0, p1, p2, p3⟩, q]) rfl
 obtain ⟨Db, db, cb_0, cb_1, cb_2, cb_3, q3⟩ := opN (Below.refl w.heap.size w) qaa hcc (offcb + 4) (offcb + 5) (offcb + 6) (offcb + 7) qaa
 have Qb := hid q3
 clear hcc q3
 have hbl : bcb < w.heap.size := Nat.lt_of_lt_of_le hblcb hB0
 subst Eb
 obtain ⟨n, hn⟩ : ∃ n, [⟨p0, p1, p2, p3⟩, q].length = n := ⟨_, rfl⟩
 obtain rfl : n = 2 := hn.symm
 have Qb' := Qb.out
 clear Qb
 have tok1 : True := trivial
 have RT := rd_take (p := [a]) (l := ⟨44, 0, b2, [⟨p0, p1, p2, p3⟩, q]⟩ :: r) (Nat.zero_lt_succ _) qbr HR.out
 have CA := hid (a_v (.slice (some ⟨bcb, offcb, none⟩) 1 c3) w w.heap.size hmx nr (RT.up hB0))
 clear RT
 have HQB := hid Qb'
 have hcd : 2 ≤ db := by
  exact zz47
 obtain ⟨bcp, offcp, Ep, hblcp, hcc⟩ := nd_at rfl (l := [FNode.mk p0 p1 p2 p3, q]) HQB.out (i := 0) (x := FNode.mk p0 p1 p2 p3) rfl
 obtain ⟨Dp, dp, cp_0, cp_1, cp_2, cp_3, q3⟩ := opN (Below.refl w.heap.size w) qaa hcc (offcp) (offcp + 1) (offcp + 2) (offcp + 3) qaa
 have Qp := hid q3
 clear hcc q3
 have hblp : bcp < w.heap.size := Nat.lt_of_lt_of_le hblcp hB0
 subst Ep
 have CP := hid p_v
 have tok2 : True := trivial
 have RT2 := hid (rd_drop (p := [⟨p0, p1, p2, p3⟩]) (l := [q]) (Nat.zero_lt_succ _) rfl HQB.out)
 have CQ := hid q_v
 clear Qb' hn
 clear hm hr
 go_enter Tryz.func112, Tryz.ntmps112
 go_wp2_with (first | (go_at_call 108; clear tok1; refine CA.out.mono ?_; rintro e w3 ⟨rfl, hb3⟩; have HB3 := hid hb3; have ⟨_, _, _, _⟩ := cell4 HB3.out hbl cb_0 cb_1 cb_2 cb_3; have HBc := hid (HB3.out.alloc HB3.out.size (.cells #[.int .i64 44, .int .i64 0, .string b2, .slice (some ⟨bcp, offcp, none⟩) 2 db] 44)); have ⟨_, _, _, _⟩ := cell4 HBc.out hblp cp_0 cp_1 cp_2 cp_3) | (go_at_call 104; refine zkp (GoV _ _ hz hgo _) ?_) | (go_at_call 109; refine (CP.out [.int .i64 p0, .int .i64 p1, .string p2, .slice Dp p3.length dp] _ w.heap.size (ndV ((Qp.out.up hB0).below HBc.out nr))).mono ?_; rintro e w4 ⟨rfl, hb4⟩; have HB4 := hid (HBc.out.trans (hb4.mono HBc.out.size)); have bx4 : w4.cell? ⟨w3.heap.size, 3, none⟩ = some (.slice (some ⟨bcp, offcp, none⟩) 2 db) := (hb4.cell (p := ⟨w3.heap.size, 3, none⟩) qbm).trans (by rw [World.cell?_alloc_new]; rfl)) | (go_at_call 108; clear tok2; refine (CQ.out _ _ w.heap.size (hmx.below HB4.out) HB4.out.size ((RT2.out.up hB0).below HB4.out nr)).mono ?_; rintro e w5 ⟨rfl, hb5⟩; have HB5 := hid (HB4.out.trans (hb5.mono HB4.out.size))))
 go_ret
 exact ⟨rfl, HB5.out⟩
theorem ty_D0 (a : FNode) (b2 : ByteArray) (p0 p1 : Int) (p2 : ByteArray) (p3 : List FNode) (q : FNode) (w : World) (B m c3 : Nat) (A3 : Option Addr) (hmx : MaxAt w) (hB0 : B ≤ w.heap.size) (hml : m ≤ 9000000000) (hm : m = (a :: ⟨44, 0, b2, [⟨p0, p1, p2, p3⟩, q]⟩ :: []).length) (hr : RdC w B (.s 44 4 m (FNode.flat (a :: ⟨44, 0, b2, [⟨p0, p1, p2, p3⟩, q]⟩ :: []))) (.slice A3 m c3)) (a_v : BlV [a] true) (hz : b2.size ≤ 9223372036854775807) (hgo : goodF b2 = true) (p_v : VaV ⟨p0, p1, p2, p3⟩ true) (q_v : BlV [q] true) :
  Calls Tryz.prog 112 #[.slice A3 m c3] w fun e w' => e = .returned (.bool (true)) ∧ Below w.heap.size w w' := by
 have hcap : m ≤ c3 := by
  exact zz202
 have hm2 : 2 ≤ m := by rw [hm]; simp
 have HR := hid hr
 obtain ⟨bcb, offcb, Eb, hblcb, hcc⟩ := nd_at hm (l := a :: ⟨44, 0, b2, [⟨p0, p1, p2, p3⟩, q]⟩ :: []) HR.out (i := 1) (x := FNode.mk 44 0 b2 [⟨p0, p1, p2, p3⟩, q]) rfl
 obtain ⟨Db, db, cb_0, cb_1, cb_2, cb_3, q3⟩ := opN (Below.refl w.heap.size w) qaa hcc (offcb + 4) (offcb + 5) (offcb + 6) (offcb + 7) qaa
 have Qb := hid q3
 clear hcc q3
 have hbl : bcb < w.heap.size := Nat.lt_of_lt_of_le hblcb hB0
 subst Eb
 obtain ⟨n, hn⟩ : ∃ n, [⟨p0, p1, p2, p3⟩, q].length = n := ⟨_, rfl⟩
 obtain rfl : n = 2 := hn.symm
 have Qb' := Qb.out
 clear Qb
 have tok1 : True := trivial
 have RT := rd_take (p := [a]) (l := ⟨44, 0, b2, [⟨p0, p1, p2, p3⟩, q]⟩ :: []) (Nat.zero_lt_succ _) (by rw [hm]; rfl) HR.out
 have CA := hid (a_v (.slice (some ⟨bcb, offcb, none⟩) 1 c3) w w.heap.size hmx nr (RT.up hB0))
 clear RT
 have HQB := hid Qb'
 have hcd : 2 ≤ db := by
  exact zz47
 obtain ⟨bcp, offcp, Ep, hblcp, hcc⟩ := nd_at rfl (l := [FNode.mk p0 p1 p2 p3, q]) HQB.out (i := 0) (x := FNode.mk p0 p1 p2 p3) rfl
 obtain ⟨Dp, dp, cp_0, cp_1, cp_2, cp_3, q3⟩ := opN (Below.refl w.heap.size w) qaa hcc (offcp) (offcp + 1) (offcp + 2) (offcp + 3) qaa
 have Qp := hid q3
 clear hcc q3
 have hblp : bcp < w.heap.size := Nat.lt_of_lt_of_le hblcp hB0
 subst Ep
 have CP := hid p_v
 have tok2 : True := trivial
 have RT2 := hid (rd_drop (p := [⟨p0, p1, p2, p3⟩]) (l := [q]) (Nat.zero_lt_succ _) rfl HQB.out)
 have CQ := hid q_v
 clear Qb' hn
 have hm3 : m = 2 := hm
 clear hm hr
 subst hm3
 go_enter Tryz.func112, Tryz.ntmps112
 go_wp2_with (first | (go_at_call 108; clear tok1; refine CA.out.mono ?_; rintro e w3 ⟨rfl, hb3⟩; have HB3 := hid hb3; have ⟨_, _, _, _⟩ := cell4 HB3.out hbl cb_0 cb_1 cb_2 cb_3; have HBc := hid (HB3.out.alloc HB3.out.size (.cells #[.int .i64 44, .int .i64 0, .string b2, .slice (some ⟨bcp, offcp, none⟩) 2 db] 44)); have ⟨_, _, _, _⟩ := cell4 HBc.out hblp cp_0 cp_1 cp_2 cp_3) | (go_at_call 104; refine zkp (GoV _ _ hz hgo _) ?_) | (go_at_call 109; refine (CP.out [.int .i64 p0, .int .i64 p1, .string p2, .slice Dp p3.length dp] _ w.heap.size (ndV ((Qp.out.up hB0).below HBc.out nr))).mono ?_; rintro e w4 ⟨rfl, hb4⟩; have HB4 := hid (HBc.out.trans (hb4.mono HBc.out.size)); have bx4 : w4.cell? ⟨w3.heap.size, 3, none⟩ = some (.slice (some ⟨bcp, offcp, none⟩) 2 db) := (hb4.cell (p := ⟨w3.heap.size, 3, none⟩) qbm).trans (by rw [World.cell?_alloc_new]; rfl)) | (go_at_call 108; clear tok2; refine (CQ.out _ _ w.heap.size (hmx.below HB4.out) HB4.out.size ((RT2.out.up hB0).below HB4.out nr)).mono ?_; rintro e w5 ⟨rfl, hb5⟩; have HB5 := hid (HB4.out.trans (hb5.mono HB4.out.size))))
 all_goals (go_ret; exact ⟨rfl, HB5.out⟩)
theorem ty_D1 (a : FNode) (b2 : ByteArray) (p0 p1 : Int) (p2 : ByteArray) (p3 : List FNode) (q : FNode) (f0 f1 : Int) (f2 : ByteArray) (f3 : List FNode) (fv : Bool) (w : World) (B m c3 : Nat) (A3 : Option Addr) (hmx : MaxAt w) (hB0 : B ≤ w.heap.size) (hml : m ≤ 9000000000) (hm : m = (a :: ⟨44, 0, b2, [⟨p0, p1, p2, p3⟩, q]⟩ :: [⟨f0, f1, f2, f3⟩]).length) (hr : RdC w B (.s 44 4 m (FNode.flat (a :: ⟨44, 0, b2, [⟨p0, p1, p2, p3⟩, q]⟩ :: [⟨f0, f1, f2, f3⟩]))) (.slice A3 m c3)) (a_v : BlV [a] true) (hz : b2.size ≤ 9223372036854775807) (hgo : goodF b2 = true) (p_v : VaV ⟨p0, p1, p2, p3⟩ true) (q_v : BlV [q] true) (f_v : BlV f3 fv) (hf3 : f3.length ≤ 9000000000) :
  Calls Tryz.prog 112 #[.slice A3 m c3] w fun e w' => e = .returned (.bool ((f0 == 45 && (f1 == 0 && (emT f2 && (f3.length == 1 && fv)))))) ∧ Below w.heap.size w w' := by
 have hcap : m ≤ c3 := by
  exact zz202
 have hm2 : 2 ≤ m := by rw [hm]; simp
 have HR := hid hr
 obtain ⟨bcb, offcb, Eb, hblcb, hcc⟩ := nd_at hm (l := a :: ⟨44, 0, b2, [⟨p0, p1, p2, p3⟩, q]⟩ :: [⟨f0, f1, f2, f3⟩]) HR.out (i := 1) (x := FNode.mk 44 0 b2 [⟨p0, p1, p2, p3⟩, q]) rfl
 obtain ⟨Db, db, cb_0, cb_1, cb_2, cb_3, q3⟩ := opN (Below.refl w.heap.size w) qaa hcc (offcb + 4) (offcb + 5) (offcb + 6) (offcb + 7) qaa
 have Qb := hid q3
 clear hcc q3
 have hbl : bcb < w.heap.size := Nat.lt_of_lt_of_le hblcb hB0
 subst Eb
 obtain ⟨n, hn⟩ : ∃ n, [⟨p0, p1, p2, p3⟩, q].length = n := ⟨_, rfl⟩
 obtain rfl : n = 2 := hn.symm
 have Qb' := Qb.out
 clear Qb
 have tok1 : True := trivial
 have RT := rd_take (p := [a]) (l := ⟨44, 0, b2, [⟨p0, p1, p2, p3⟩, q]⟩ :: [⟨f0, f1, f2, f3⟩]) (Nat.zero_lt_succ _) (by rw [hm]; rfl) HR.out
 have CA := hid (a_v (.slice (some ⟨bcb, offcb, none⟩) 1 c3) w w.heap.size hmx nr (RT.up hB0))
 clear RT
 have HQB := hid Qb'
 have hcd : 2 ≤ db := by
  exact zz47
 obtain ⟨bcp, offcp, Ep, hblcp, hcc⟩ := nd_at rfl (l := [FNode.mk p0 p1 p2 p3, q]) HQB.out (i := 0) (x := FNode.mk p0 p1 p2 p3) rfl
 obtain ⟨Dp, dp, cp_0, cp_1, cp_2, cp_3, q3⟩ := opN (Below.refl w.heap.size w) qaa hcc (offcp) (offcp + 1) (offcp + 2) (offcp + 3) qaa
 have Qp := hid q3
 clear hcc q3
 have hblp : bcp < w.heap.size := Nat.lt_of_lt_of_le hblcp hB0
 subst Ep
 have CP := hid p_v
 have tok2 : True := trivial
 have RT2 := hid (rd_drop (p := [⟨p0, p1, p2, p3⟩]) (l := [q]) (Nat.zero_lt_succ _) rfl HQB.out)
 have CQ := hid q_v
 clear Qb' hn
 obtain ⟨bcf, offcf, Ef, hblcf, hcc⟩ := nd_at hm (l := a :: ⟨44, 0, b2, [⟨p0, p1, p2, p3⟩, q]⟩ :: [⟨f0, f1, f2, f3⟩]) HR.out (i := 2) (x := FNode.mk f0 f1 f2 f3) rfl
 obtain ⟨Df, df, cf_0, cf_1, cf_2, cf_3, q3⟩ := opN (Below.refl w.heap.size w) qaa hcc (offcf + 8) (offcf + 9) (offcf + 10) (offcf + 11) qaa
 have Qf := hid q3
 clear hcc q3
 obtain ⟨g1, g2⟩ : bcb = bcf ∧ offcb = offcf := by simpa using Ef
 subst g1
 subst g2
 clear Ef
 obtain ⟨nf, hnf⟩ : ∃ nf, f3.length = nf := ⟨_, rfl⟩
 have Qf' := Qf.out
 rw [hnf] at cf_3 Qf' hf3 ⊢
 clear Qf
 have Qf := hid Qf'
 clear Qf'
 have CF := hid f_v
 unfold BlV at CF
 rw [hnf] at CF
 clear hnf
 have hm3 : m = 3 := hm
 clear hm hr
 subst hm3
 by_cases e45 : f0 = 45
 ·subst e45
  by_cases e0 : f1 = 0
  ·subst e0
   by_cases e1 : nf = 1
   ·subst e1
    go_enter Tryz.func112, Tryz.ntmps112
    go_wp2_with (first | (go_at_call 108; clear tok1; refine CA.out.mono ?_; rintro e w3 ⟨rfl, hb3⟩; have HB3 := hid hb3; have ⟨k_b0, k_b1, k_b2, k_b3⟩ := cell4 HB3.out hbl cb_0 cb_1 cb_2 cb_3; have HBc := hid (HB3.out.alloc HB3.out.size (.cells #[.int .i64 44, .int .i64 0, .string b2, .slice (some ⟨bcp, offcp, none⟩) 2 db] 44)); have ⟨k_p0, k_p1, k_p2, k_p3⟩ := cell4 HBc.out hblp cp_0 cp_1 cp_2 cp_3) | (go_at_call 104; refine zkp (GoV _ _ hz hgo _) ?_) | (go_at_call 109; refine (CP.out [.int .i64 p0, .int .i64 p1, .string p2, .slice Dp p3.length dp] _ w.heap.size (ndV ((Qp.out.up hB0).below HBc.out nr))).mono ?_; rintro e w4 ⟨rfl, hb4⟩; have HB4 := hid (HBc.out.trans (hb4.mono HBc.out.size)); have bx4 : w4.cell? ⟨w3.heap.size, 3, none⟩ = some (.slice (some ⟨bcp, offcp, none⟩) 2 db) := (hb4.cell (p := ⟨w3.heap.size, 3, none⟩) qbm).trans (by rw [World.cell?_alloc_new]; rfl)) | (go_at_call 108; clear tok2; refine (CQ.out _ _ w.heap.size (hmx.below HB4.out) HB4.out.size ((RT2.out.up hB0).below HB4.out nr)).mono ?_; rintro e w5 ⟨rfl, hb5⟩; have HB5 := hid (HB4.out.trans (hb5.mono HB4.out.size)); have ⟨k_f0, k_f1, k_f2, k_f3⟩ := cell4 HB5.out hbl cf_0 cf_1 cf_2 cf_3; have HB6 := hid (HB5.out.alloc HB5.out.size (.cells #[.int .i64 45, .int .i64 0, .string f2, .slice Df 1 df] 44))) | (go_at_call 108; refine (CF.out _ _ w.heap.size (hmx.below HB6.out) HB6.out.size ((Qf.out.up hB0).below HB6.out nr)).mono ?_; rintro e w6 ⟨rfl, hb6⟩))
    all_goals (first | (go_ret; exact ⟨ret_bool qai, HB5.out⟩) | (go_ret; exact ⟨ret_bool qai, HB5.out.alloc HB5.out.size _⟩) | (go_ret; exact ⟨ret_bool qai, HB6.out.trans (Below.mono qad HB6.out.size)⟩))
   ·exact zz16
  ·exact zz16
 ·exact zz16
theorem ty_DM (a : FNode) (b2 : ByteArray) (p0 p1 : Int) (p2 : ByteArray) (p3 : List FNode) (q : FNode) (f0 f1 : Int) (f2 : ByteArray) (f3 : List FNode) (g : FNode) (r : List FNode) (w : World) (B m c3 : Nat) (A3 : Option Addr) (hmx : MaxAt w) (hB0 : B ≤ w.heap.size) (hml : m ≤ 9000000000) (hm : m = (a :: ⟨44, 0, b2, [⟨p0, p1, p2, p3⟩, q]⟩ :: ⟨f0, f1, f2, f3⟩ :: g :: r).length) (hr : RdC w B (.s 44 4 m (FNode.flat (a :: ⟨44, 0, b2, [⟨p0, p1, p2, p3⟩, q]⟩ :: ⟨f0, f1, f2, f3⟩ :: g :: r))) (.slice A3 m c3)) (a_v : BlV [a] true) (hz : b2.size ≤ 9223372036854775807) (hgo : goodF b2 = true) (p_v : VaV ⟨p0, p1, p2, p3⟩ true) (q_v : BlV [q] true) :
  Calls Tryz.prog 112 #[.slice A3 m c3] w fun e w' => e = .returned (.bool (false)) ∧ Below w.heap.size w w' := by
 have hcap : m ≤ c3 := by
  exact zz202
 have hm2 : 2 ≤ m := by rw [hm]; simp
 have HR := hid hr
 obtain ⟨bcb, offcb, Eb, hblcb, hcc⟩ := nd_at hm (l := a :: ⟨44, 0, b2, [⟨p0, p1, p2, p3⟩, q]⟩ :: ⟨f0, f1, f2, f3⟩ :: g :: r) HR.out (i := 1) (x := FNode.mk 44 0 b2 [⟨p0, p1, p2, p3⟩, q]) rfl
 obtain ⟨Db, db, cb_0, cb_1, cb_2, cb_3, q3⟩ := opN (Below.refl w.heap.size w) qaa hcc (offcb + 4) (offcb + 5) (offcb + 6) (offcb + 7) qaa
 have Qb := hid q3
 clear hcc q3
 have hbl : bcb < w.heap.size := Nat.lt_of_lt_of_le hblcb hB0
 subst Eb
 obtain ⟨n, hn⟩ : ∃ n, [⟨p0, p1, p2, p3⟩, q].length = n := ⟨_, rfl⟩
 obtain rfl : n = 2 := hn.symm
 have Qb' := Qb.out
 clear Qb
 have tok1 : True := trivial
 have RT := rd_take (p := [a]) (l := ⟨44, 0, b2, [⟨p0, p1, p2, p3⟩, q]⟩ :: ⟨f0, f1, f2, f3⟩ :: g :: r) (Nat.zero_lt_succ _) qbr HR.out
 have CA := hid (a_v (.slice (some ⟨bcb, offcb, none⟩) 1 c3) w w.heap.size hmx nr (RT.up hB0))
 clear RT
 have HQB := hid Qb'
 have hcd : 2 ≤ db := by
  exact zz47
 obtain ⟨bcp, offcp, Ep, hblcp, hcc⟩ := nd_at rfl (l := [FNode.mk p0 p1 p2 p3, q]) HQB.out (i := 0) (x := FNode.mk p0 p1 p2 p3) rfl
 obtain ⟨Dp, dp, cp_0, cp_1, cp_2, cp_3, q3⟩ := opN (Below.refl w.heap.size w) qaa hcc (offcp) (offcp + 1) (offcp + 2) (offcp + 3) qaa
 have Qp := hid q3
 clear hcc q3
 have hblp : bcp < w.heap.size := Nat.lt_of_lt_of_le hblcp hB0
 subst Ep
 have CP := hid p_v
 have tok2 : True := trivial
 have RT2 := hid (rd_drop (p := [⟨p0, p1, p2, p3⟩]) (l := [q]) (Nat.zero_lt_succ _) rfl HQB.out)
 have CQ := hid q_v
 clear Qb' hn
 obtain ⟨bcf, offcf, Ef, hblcf, hcc⟩ := nd_at hm (l := a :: ⟨44, 0, b2, [⟨p0, p1, p2, p3⟩, q]⟩ :: ⟨f0, f1, f2, f3⟩ :: g :: r) HR.out (i := 2) (x := FNode.mk f0 f1 f2 f3) rfl
 obtain ⟨Df, df, cf_0, cf_1, cf_2, cf_3, q3⟩ := opN (Below.refl w.heap.size w) qaa hcc (offcf + 8) (offcf + 9) (offcf + 10) (offcf + 11) qaa
 have Qf := hid q3
 clear hcc q3
 obtain ⟨g1, g2⟩ : bcb = bcf ∧ offcb = offcf := by simpa using Ef
 subst g1
 subst g2
 clear Ef
 have hm3 : ∃ j, m = j + 4 := ⟨r.length, by rw [hm]; simp⟩
 clear hm hr
 obtain ⟨j, rfl⟩ := hm3
 go_enter Tryz.func112, Tryz.ntmps112
 go_wp2_with (first | (go_at_call 108; clear tok1; refine CA.out.mono ?_; rintro e w3 ⟨rfl, hb3⟩; have HB3 := hid hb3; have ⟨_, _, _, _⟩ := cell4 HB3.out hbl cb_0 cb_1 cb_2 cb_3; have HBc := hid (HB3.out.alloc HB3.out.size (.cells #[.int .i64 44, .int .i64 0, .string b2, .slice (some ⟨bcp, offcp, none⟩) 2 db] 44)); have ⟨_, _, _, _⟩ := cell4 HBc.out hblp cp_0 cp_1 cp_2 cp_3) | (go_at_call 104; refine zkp (GoV _ _ hz hgo _) ?_) | (go_at_call 109; refine (CP.out [.int .i64 p0, .int .i64 p1, .string p2, .slice Dp p3.length dp] _ w.heap.size (ndV ((Qp.out.up hB0).below HBc.out nr))).mono ?_; rintro e w4 ⟨rfl, hb4⟩; have HB4 := hid (HBc.out.trans (hb4.mono HBc.out.size)); have bx4 : w4.cell? ⟨w3.heap.size, 3, none⟩ = some (.slice (some ⟨bcp, offcp, none⟩) 2 db) := (hb4.cell (p := ⟨w3.heap.size, 3, none⟩) qbm).trans (by rw [World.cell?_alloc_new]; rfl)) | (go_at_call 108; clear tok2; refine (CQ.out _ _ w.heap.size (hmx.below HB4.out) HB4.out.size ((RT2.out.up hB0).below HB4.out nr)).mono ?_; rintro e w5 ⟨rfl, hb5⟩; have HB5 := hid (HB4.out.trans (hb5.mono HB4.out.size)); have ⟨_, _, _, _⟩ := cell4 HB5.out hbl cf_0 cf_1 cf_2 cf_3))
 all_goals (go_ret; exact ⟨ret_bool qai, HB5.out.alloc HB5.out.size _⟩)
theorem ty_E0 (a : FNode) (f0 f1 : Int) (f2 : ByteArray) (f3 : List FNode) (fv : Bool) (w : World) (B m c3 : Nat) (A3 : Option Addr) (hmx : MaxAt w) (hB0 : B ≤ w.heap.size) (hml : m ≤ 9000000000) (hm : m = (a :: [⟨f0, f1, f2, f3⟩]).length) (hr : RdC w B (.s 44 4 m (FNode.flat (a :: [⟨f0, f1, f2, f3⟩]))) (.slice A3 m c3)) (a_v : BlV [a] true) (h44 : ¬ f0 = 44) (f_v : BlV f3 fv) (hf3 : f3.length ≤ 9000000000) :
  Calls Tryz.prog 112 #[.slice A3 m c3] w fun e w' => e = .returned (.bool ((f0 == 45 && (f1 == 0 && (emT f2 && (f3.length == 1 && fv)))))) ∧ Below w.heap.size w w' := by
 have hcap : m ≤ c3 := by
  exact zz202
 have hm2 : 2 ≤ m := by rw [hm]; simp
 have HR := hid hr
 obtain ⟨bcb, offcb, Ef, hblcb, hcc⟩ := nd_at hm (l := a :: [⟨f0, f1, f2, f3⟩]) HR.out (i := 1) (x := FNode.mk f0 f1 f2 f3) rfl
 obtain ⟨Df, df, cf_0, cf_1, cf_2, cf_3, q3⟩ := opN (Below.refl w.heap.size w) qaa hcc (offcb + 4) (offcb + 5) (offcb + 6) (offcb + 7) qaa
 have Qf := hid q3
 clear hcc q3
 have hbl : bcb < w.heap.size := Nat.lt_of_lt_of_le hblcb hB0
 subst Ef
 have tok1 : True := trivial
 have RT := rd_take (p := [a]) (l := [⟨f0, f1, f2, f3⟩]) (Nat.zero_lt_succ _) (by rw [hm]; rfl) HR.out
 have CA := hid (a_v (.slice (some ⟨bcb, offcb, none⟩) 1 c3) w w.heap.size hmx nr (RT.up hB0))
 clear RT
 obtain ⟨nf, hnf⟩ : ∃ nf, f3.length = nf := ⟨_, rfl⟩
 have Qf' := Qf.out
 rw [hnf] at cf_3 Qf' hf3 ⊢
 clear Qf
 have Qf := hid Qf'
 clear Qf'
 have CF := hid f_v
 unfold BlV at CF
 rw [hnf] at CF
 clear hnf
 have hm3 : m = 2 := hm
 clear hm hr
 subst hm3
 by_cases e45 : f0 = 45
 ·subst e45
  by_cases e0 : f1 = 0
  ·subst e0
   by_cases e1 : nf = 1
   ·subst e1
    go_enter Tryz.func112, Tryz.ntmps112
    go_wp2_with (first | (go_at_call 108; clear tok1; refine CA.out.mono ?_; rintro e w3 ⟨rfl, hb3⟩; have HB3 := hid hb3; have ⟨k_f0, k_f1, k_f2, k_f3⟩ := cell4 HB3.out hbl cf_0 cf_1 cf_2 cf_3; have HBc := hid (HB3.out.alloc HB3.out.size (.cells #[.int .i64 45, .int .i64 0, .string f2, .slice Df 1 df] 44)); have ⟨l_f0, l_f1, l_f2, l_f3⟩ := cell4 HBc.out hbl cf_0 cf_1 cf_2 cf_3; have HB6 := hid (HBc.out.alloc HBc.out.size (.cells #[.int .i64 45, .int .i64 0, .string f2, .slice Df 1 df] 44))) | (go_at_call 108; refine (CF.out _ _ w.heap.size (hmx.below HB6.out) HB6.out.size ((Qf.out.up hB0).below HB6.out nr)).mono ?_; rintro e w6 ⟨rfl, hb6⟩))
    all_goals (first | (go_ret; exact ⟨ret_bool qai, HBc.out⟩) | (go_ret; exact ⟨ret_bool qai, HBc.out.alloc HBc.out.size _⟩) | (go_ret; exact ⟨ret_bool qai, HB6.out.trans (Below.mono qad HB6.out.size)⟩))
   ·skip
    go_enter Tryz.func112, Tryz.ntmps112
    go_wp2_with (first | (go_at_call 108; clear tok1; refine CA.out.mono ?_; rintro e w3 ⟨rfl, hb3⟩; have HB3 := hid hb3; have ⟨k_f0, k_f1, k_f2, k_f3⟩ := cell4 HB3.out hbl cf_0 cf_1 cf_2 cf_3; have HBc := hid (HB3.out.alloc HB3.out.size (.cells #[.int .i64 45, .int .i64 0, .string f2, .slice Df nf df] 44)); have ⟨l_f0, l_f1, l_f2, l_f3⟩ := cell4 HBc.out hbl cf_0 cf_1 cf_2 cf_3))
    all_goals exact zz95
  ·skip
   go_enter Tryz.func112, Tryz.ntmps112
   go_wp2_with (first | (go_at_call 108; clear tok1; refine CA.out.mono ?_; rintro e w3 ⟨rfl, hb3⟩; have HB3 := hid hb3; have ⟨k_f0, k_f1, k_f2, k_f3⟩ := cell4 HB3.out hbl cf_0 cf_1 cf_2 cf_3; have HBc := hid (HB3.out.alloc HB3.out.size (.cells #[.int .i64 45, .int .i64 f1, .string f2, .slice Df nf df] 44)); have ⟨l_f0, l_f1, l_f2, l_f3⟩ := cell4 HBc.out hbl cf_0 cf_1 cf_2 cf_3))
   all_goals exact zz95
 ·skip
  go_enter Tryz.func112, Tryz.ntmps112
  go_wp2_with (first | (go_at_call 108; clear tok1; refine CA.out.mono ?_; rintro e w3 ⟨rfl, hb3⟩; have HB3 := hid hb3; have ⟨k_f0, k_f1, k_f2, k_f3⟩ := cell4 HB3.out hbl cf_0 cf_1 cf_2 cf_3; have HBc := hid (HB3.out.alloc HB3.out.size (.cells #[.int .i64 f0, .int .i64 f1, .string f2, .slice Df nf df] 44)); have ⟨l_f0, l_f1, l_f2, l_f3⟩ := cell4 HBc.out hbl cf_0 cf_1 cf_2 cf_3))
  all_goals exact zz95
theorem ty_EM (a : FNode) (f0 f1 : Int) (f2 : ByteArray) (f3 : List FNode) (g : FNode) (r : List FNode) (w : World) (B m c3 : Nat) (A3 : Option Addr) (hmx : MaxAt w) (hB0 : B ≤ w.heap.size) (hml : m ≤ 9000000000) (hm : m = (a :: ⟨f0, f1, f2, f3⟩ :: g :: r).length) (hr : RdC w B (.s 44 4 m (FNode.flat (a :: ⟨f0, f1, f2, f3⟩ :: g :: r))) (.slice A3 m c3)) (a_v : BlV [a] true) (h44 : ¬ f0 = 44) :
  Calls Tryz.prog 112 #[.slice A3 m c3] w fun e w' => e = .returned (.bool (false)) ∧ Below w.heap.size w w' := by
 have hcap : m ≤ c3 := by
  exact zz202
 have hm2 : 2 ≤ m := by rw [hm]; simp
 have HR := hid hr
 obtain ⟨bcb, offcb, Ef, hblcb, hcc⟩ := nd_at hm (l := a :: ⟨f0, f1, f2, f3⟩ :: g :: r) HR.out (i := 1) (x := FNode.mk f0 f1 f2 f3) rfl
 obtain ⟨Df, df, cf_0, cf_1, cf_2, cf_3, q3⟩ := opN (Below.refl w.heap.size w) qaa hcc (offcb + 4) (offcb + 5) (offcb + 6) (offcb + 7) qaa
 have Qf := hid q3
 clear hcc q3
 have hbl : bcb < w.heap.size := Nat.lt_of_lt_of_le hblcb hB0
 subst Ef
 have tok1 : True := trivial
 have RT := rd_take (p := [a]) (l := ⟨f0, f1, f2, f3⟩ :: g :: r) (Nat.zero_lt_succ _) qbr HR.out
 have CA := hid (a_v (.slice (some ⟨bcb, offcb, none⟩) 1 c3) w w.heap.size hmx nr (RT.up hB0))
 clear RT
 obtain ⟨nf, hnf⟩ : ∃ nf, f3.length = nf := ⟨_, rfl⟩
 rw [hnf] at cf_3
 clear hnf
 have hm3 : ∃ j, m = j + 3 := ⟨r.length, by rw [hm]; simp⟩
 clear hm hr
 obtain ⟨j, rfl⟩ := hm3
 go_enter Tryz.func112, Tryz.ntmps112
 go_wp2_with ((go_at_call 108; clear tok1; refine CA.out.mono ?_; rintro e w3 ⟨rfl, hb3⟩; have HB3 := hid hb3; have ⟨_, _, _, _⟩ := cell4 HB3.out hbl cf_0 cf_1 cf_2 cf_3; have HBc := hid (HB3.out.alloc HB3.out.size (.cells #[.int .i64 f0, .int .i64 f1, .string f2, .slice Df nf df] 44)); have ⟨_, _, _, _⟩ := cell4 HBc.out hbl cf_0 cf_1 cf_2 cf_3))
 all_goals (go_ret; exact ⟨ret_bool qai, HBc.out.alloc HBc.out.size _⟩)
end Go.Proofs.YtkkjnfappndmpaaGreatDoor
